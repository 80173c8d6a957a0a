/- Is and Find, told by the tree: plain. -/
import Derived.Test.YtnjpdhekeffpnaaRxEg
set_option linter.unusedVariables false
set_option linter.unusedSimpArgs false
namespace Go.Proofs.Ytnjpdhekeffpnaa.Rx
open Go.RowKit Go.Proofs.YtnjpdhekeffpnaaW.PrintWords Go.Proofs.YtnjpdhekeffpnaaW.PrintLast Go.Proofs.YtnjpdhekeffpnaaW.PrintMore

theorem Star.hi {R : Nat → Nat → Prop} {N : Nat} (hR : ∀ i j, R i j → i ≤ N → j ≤ N) {i j : Nat} (h : Star R i j) : i ≤ N → j ≤ N := by
  induction h with
  | nil => exact id
  | cons h1 _ ih => exact fun h => ih (hR _ _ h1 h)
theorem M_hi (s : ByteArray) : ∀ (e : Re) (i j : Nat), M s e i j → i ≤ s.size → j ≤ s.size
  | .eps, i, j, h, hi => by have h : i = j := h; omega
  | .byte m, i, j, h, hi => by have h1 := h.1; have h2 := h.2.2; omega
  | .beg, i, j, h, hi => by have := h.2; omega
  | .fin, i, j, h, hi => by have := h.2; omega
  | .cat a b, i, j, h, hi => by obtain ⟨k, h1, h2⟩ := h; exact M_hi s b k j h2 (M_hi s a i k h1 hi)
  | .alt a b, i, j, h, hi => by rcases h with h | h; (· exact M_hi s a i j h hi); (· exact M_hi s b i j h hi)
  | .star a, i, j, h, hi => Star.hi (M_hi s a) h hi
  | .plus a, i, j, h, hi => by obtain ⟨k, h1, h2⟩ := h; exact Star.hi (M_hi s a) h2 (M_hi s a i k h1 hi)
  | .opt a, i, j, h, hi => by rcases h with h | h; (· omega); (· exact M_hi s a i j h hi)
theorem isP_M (p s : ByteArray) (h : faultB p = none) : isP s (stepsB p) (firstB p) = true ↔ M s (readE p).1 0 s.size := by
  unfold isP
  rcases long_M p s h 0 (Nat.zero_le _) with ⟨h1, h2⟩ | ⟨j, h1, h2, h3, h4⟩
  · rw [h1]
    constructor
    · intro h3; have := beq_iff_eq.1 h3; omega
    · intro h3; exact absurd h3 (h2 _)
  · rw [h2]
    constructor
    · intro h5
      have h6 : j = s.size := by have := beq_iff_eq.1 h5; omega
      rw [← h6]; exact h3
    · intro h5
      have h6 := h4 _ h5
      have h7 := M_hi s _ _ _ h3 (Nat.zero_le _)
      exact beq_iff_eq.2 (by omega)
/-- what Find tells -/
def FindS (s : ByteArray) (e : Re) (n : Nat) : Option (Nat × Int) → Prop
  | none => ∀ (i j : Nat), n ≤ i → i ≤ s.size → ¬ M s e i j
  | some (i, z) => n ≤ i ∧ i ≤ s.size ∧ (∃ j : Nat, z = (j : Int) ∧ M s e i j ∧ ∀ j' : Nat, M s e i j' → j' ≤ j) ∧ ∀ (i' j : Nat), n ≤ i' → i' < i → ¬ M s e i' j
theorem findL_M (p s : ByteArray) (h : faultB p = none) : ∀ (k n : Nat), s.size < n + k → FindS s (readE p).1 n (findL s (stepsB p) (firstB p) k n)
  | 0, n, hk => fun i j h1 h2 => absurd h2 (by omega)
  | k + 1, n, hk => by
    rw [findL]
    split
    · intro i j h1 h2
      omega
    · rename_i hn
      rcases long_M p s h n (by omega) with ⟨h1, h2⟩ | ⟨j, h1, h2, h3, h4⟩
      · rw [h1, if_neg (by omega)]
        have ih := findL_M p s h k (n + 1) (by omega)
        cases hf : findL s (stepsB p) (firstB p) k (n + 1) with
        | none =>
          rw [hf] at ih
          intro i j h3 h4
          rcases Nat.eq_or_lt_of_le h3 with rfl | h5
          · exact h2 j
          · exact ih i j h5 h4
        | some q =>
          obtain ⟨i, z⟩ := q
          rw [hf] at ih
          obtain ⟨g1, g2, g3, g4⟩ := ih
          refine ⟨by omega, g2, g3, fun i' j h3 h4 => ?_⟩
          rcases Nat.eq_or_lt_of_le h3 with rfl | h5
          · exact h2 j
          · exact g4 i' j h5 h4
      · rw [h2, if_pos (by omega)]
        exact ⟨Nat.le_refl _, by omega, ⟨j, rfl, h3, h4⟩, fun i' j h5 h6 => by omega⟩
theorem findP_M (p s : ByteArray) (h : faultB p = none) (n : Nat) : FindS s (readE p).1 n (findP s (stepsB p) (firstB p) (n : Int)) := by
  rw [findP, if_neg (by omega), Int.toNat_natCast]
  exact findL_M p s h _ n (by omega)
end Go.Proofs.Ytnjpdhekeffpnaa.Rx
