/- longP is the greatest end, or -1: plain. -/
import Derived.Test.YtnjpdhekeffpnaaRxEb
set_option linter.unusedVariables false
set_option linter.unusedSimpArgs false
namespace Go.Proofs.Ytnjpdhekeffpnaa.Rx
open Go.RowKit Go.Proofs.YtnjpdhekeffpnaaW.PrintWords Go.Proofs.YtnjpdhekeffpnaaW.PrintLast Go.Proofs.YtnjpdhekeffpnaaW.PrintMore

theorem Wy.le {s : ByteArray} {st : List Stp} {f i x j : Nat} (h : Wy s st f i x j) : i ≤ j := by
  induction h with
  | refl => exact Nat.le_refl _
  | snoc _ g ih => rcases go1_cases g with ⟨rfl, _⟩ | ⟨rfl, _⟩ <;> omega
theorem longL_spec (s : ByteArray) (st : List Stp) (f i : Nat) (hw : WfS st) : ∀ (k a : Nat) (m : List Bool) (la : Int), s.size < a + k → a ≤ s.size → i ≤ a → m.length = st.length → (∀ x, On m x ↔ Wy s st f i x a) →
    (longL s st k a m la = la ∧ ∀ j, a ≤ j → ¬ Ac s st f i j) ∨ (∃ j, a ≤ j ∧ longL s st k a m la = (j : Int) ∧ Ac s st f i j ∧ ∀ j', Ac s st f i j' → j' ≤ j)
  | 0, a, m, la, h, h1, _, _, _ => absurd h (by omega)
  | k + 1, a, m, la, h, h1, hi, hm, hon => by
    have hs := stepL_spec s st a m hw hm (m.length + 1) 0 (List.replicate st.length false) false la (by omega) List.length_replicate (cl_rep _ _ _ _)
    rw [longL]
    obtain ⟨r0, hr0⟩ : ∃ r0, stepL s st a m (m.length + 1) 0 (List.replicate st.length false) false la = r0 := ⟨_, rfl⟩
    simp only [hr0] at hs ⊢
    have hA : Ac s st f i a ↔ ∃ q, 0 ≤ q ∧ On m q ∧ (stp st q).k = 4 := by
      rw [ac_iff]
      exact ⟨fun ⟨x, h2, h3⟩ => ⟨x, Nat.zero_le _, (hon x).2 h2, h3⟩, fun ⟨x, _, h2, h3⟩ => ⟨x, (hon x).1 h2, h3⟩⟩
    have fin : (∀ j, a + 1 ≤ j → ¬ Ac s st f i j) → (r0.2.2 = la ∧ ∀ j, a ≤ j → ¬ Ac s st f i j) ∨ (∃ j, a ≤ j ∧ r0.2.2 = (j : Int) ∧ Ac s st f i j ∧ ∀ j', Ac s st f i j' → j' ≤ j) := by
      intro hn
      rcases hs.la with ⟨h2, h3⟩ | ⟨h2, h3⟩
      · refine .inl ⟨h2, fun j hj ha => ?_⟩
        rcases Nat.eq_or_lt_of_le hj with rfl | h4
        · exact h3 (hA.1 ha)
        · exact hn j h4 ha
      · refine .inr ⟨a, Nat.le_refl _, h2, hA.2 h3, fun j' hj => ?_⟩
        rcases Nat.lt_or_ge a j' with h4 | h4
        · exact absurd hj (hn j' h4)
        · exact h4
    split
    · rename_i hb
      obtain ⟨q, _, hq, hbm⟩ : ∃ q, 0 ≤ q ∧ On m q ∧ BM s st a q := by
        rcases hs.sm.1 hb with h2 | h2
        · cases h2
        · exact h2
      have hlt : a < s.size := hbm.2.1
      have hon2 : ∀ x, On r0.1 x ↔ Wy s st f i x (a + 1) := by
        intro x
        rw [hs.on x]
        constructor
        · rintro (h2 | ⟨q, _, h2, h3, h4⟩)
          · exact absurd h2 (on_rep _ _)
          · have hw2 : Wy s st f i (stp st q).nx (a + 1) := ((hon q).1 h2).snoc (.byte h3.1 h3.2.1 h3.2.2)
            refine Wy.ep ?_ hw2
            rw [decide_eq_false (show ¬ a + 1 = 0 by omega)]
            exact h4
        · intro h2
          rcases h2.cases' with ⟨h3, _⟩ | ⟨a2, q, h3, _, h4, h5, h6⟩
          · omega
          · obtain rfl : a = a2 := by omega
            exact .inr ⟨q, Nat.zero_le _, (hon q).2 h4, h5, h6⟩
      rcases longL_spec s st f i hw k (a + 1) r0.1 r0.2.2 (by omega) hlt (by omega) hs.len hon2 with ⟨h2, h3⟩ | ⟨j, h2, h3, h4, h5⟩
      · rw [h2]
        exact fin h3
      · exact .inr ⟨j, by omega, h3, h4, h5⟩
    · rename_i hb
      refine fin (fun j hj ha => ?_)
      obtain ⟨x, hx, _⟩ := (ac_iff s st f i j).1 ha
      obtain ⟨q, h2, h3⟩ := hx.pass hi hj
      exact hb (hs.sm.2 (.inr ⟨q, Nat.zero_le _, (hon q).2 h2, h3⟩))
/-- the longest match is the longest -/
theorem longP_spec (s : ByteArray) (st : List Stp) (f i : Nat) (hw : WfS st) (hf : f < st.length) (hi : i ≤ s.size) :
    (longP s st f i = -1 ∧ ∀ j, ¬ Ac s st f i j) ∨ (∃ j, i ≤ j ∧ longP s st f i = (j : Int) ∧ Ac s st f i j ∧ ∀ j', Ac s st f i j' → j' ≤ j) := by
  have wk := walkP_spec st (decide (i = 0)) (decide (i = s.size)) hw (st.length + 1) (List.replicate st.length false) f (by rw [free_rep]; omega) List.length_replicate hf
  have hon : ∀ x, On (walkP st (decide (i = 0)) (decide (i = s.size)) (st.length + 1) (List.replicate st.length false) f) x ↔ Wy s st f i x i := by
    intro x
    rw [wk.iff (cl_rep _ _ _ _) x]
    constructor
    · rintro (h | h)
      · exact absurd h (on_rep _ _)
      · exact Wy.ep h .refl
    · intro h
      rcases h.cases' with ⟨_, h2⟩ | ⟨a, q, h3, h4, _⟩
      · exact .inr h2
      · omega
  rcases longL_spec s st f i hw (s.size + 2) i _ (-1) (by omega) hi (Nat.le_refl _) (by rw [walkP_len, List.length_replicate]) hon with ⟨h1, h2⟩ | h
  · refine .inl ⟨h1, fun j hj => h2 j ?_ hj⟩
    obtain ⟨x, hx, _⟩ := (ac_iff s st f i j).1 hj
    exact hx.le
  · exact .inr h
/-- where steps are an expression's: the longest match is the expression's -/
theorem longP_M (s : ByteArray) (st : List Stp) (e : Re) (f x i : Nat) (hw : WfS st) (hf : f < st.length) (hi : i ≤ s.size) (hb : Bt st e f x) (hx : (stp st x).k = 4) :
    (longP s st f i = -1 ∧ ∀ j, ¬ M s e i j) ∨ (∃ j, i ≤ j ∧ longP s st f i = (j : Int) ∧ M s e i j ∧ ∀ j', M s e i j' → j' ≤ j) := by
  have h := longP_spec s st f i hw hf hi
  simp only [bt_iff s st hb hx] at h
  exact h
end Go.Proofs.Ytnjpdhekeffpnaa.Rx
