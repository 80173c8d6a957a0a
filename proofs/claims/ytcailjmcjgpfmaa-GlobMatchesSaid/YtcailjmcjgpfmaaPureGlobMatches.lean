/- Whether any pattern is all of any text is told as the document says: for every pattern and every text; longer than 2000 bytes: that the program is alive. -/
import Derived.Test.YtcailjmcjgpfmaaPGx8
import Derived.Test.YtcailjmcjgpfmaaGlobA
namespace Go.Proofs.Ytcailjmcjgpfmaa.Pure
open Go.RowKit Go.Proofs.Ytcailjmcjgpfmaa.PG Go.Proofs.YtcailjmcjgpfmaaW.PrintWords Go.Proofs.YtcailjmcjgpfmaaW.PrintLast Go.Proofs.Ytcailjmcjgpfmaa.Ba

theorem plain_rec (l : List UInt8) (c : UInt8) (h : GP.spec.contains c = true) : GP.plain (c :: l) = false := by
  simp only [GP.plain, List.any_cons, h, Bool.true_or, Bool.not_true]
theorem plain_step (l : List UInt8) (c : UInt8) (h : GP.spec.contains c = false) : GP.plain (c :: l) = GP.plain l := by
  simp only [GP.plain, List.any_cons, h, Bool.false_or]
theorem plain_tells (s : ByteArray) (hs : s.size ≤ 140737488351232) (d : Nat) : ∀ (k i : Nat), i ≤ s.size → s.size - i = d → d < k →
    bobstayref01_Plain.l0 k s i = some (GP.plain (s.data.toList.drop i)) := by
  induction d with
  | zero =>
    intro k i h1 hd hk
    obtain ⟨k, rfl⟩ : ∃ m, k = m + 1 := ⟨k - 1, by omega⟩
    simp only [bobstayref01_Plain.l0]
    rw [if_neg (by omega), List.drop_eq_nil_of_le (by rw [← size_len]; omega)]; rfl
  | succ d ih =>
    intro k i h1 hd hk
    obtain ⟨k, rfl⟩ : ∃ m, k = m + 1 := ⟨k - 1, by omega⟩
    have hi : i < s.size := by omega
    simp only [bobstayref01_Plain.l0]
    rw [if_pos (by omega), if_pos (by omega), bt_get s i hi, drop_cons s i hi]
    have ih' := ih k (i + 1) (by omega) (by omega) (by omega)
    have hw : wrap64 ((i : Int) + 1) = ((i + 1 : Nat) : Int) := by unfold wrap64; omega
    rw [hw, ih']
    generalize s[i] = c
    by_cases h42 : (c.toNat : Int) = 42
    · rw [if_pos h42, plain_rec _ c (by obtain rfl : c = 42 := u8_eq (by have : (42 : UInt8).toNat = 42 := rfl; omega); rfl)]
    · rw [if_neg h42]
      by_cases h63 : (c.toNat : Int) = 63
      · rw [if_pos h63, plain_rec _ c (by obtain rfl : c = 63 := u8_eq (by have : (63 : UInt8).toNat = 63 := rfl; omega); rfl)]
      · rw [if_neg h63]
        by_cases h91 : (c.toNat : Int) = 91
        · rw [if_pos h91, plain_rec _ c (by obtain rfl : c = 91 := u8_eq (by have : (91 : UInt8).toNat = 91 := rfl; omega); rfl)]
        · rw [if_neg h91]
          by_cases h92 : (c.toNat : Int) = 92
          · rw [if_pos h92, plain_rec _ c (by obtain rfl : c = 92 := u8_eq (by have : (92 : UInt8).toNat = 92 := rfl; omega); rfl)]
          · rw [if_neg h92, plain_step]
            have a : c ≠ 42 := fun e => by subst e; exact h42 rfl
            have b : c ≠ 63 := fun e => by subst e; exact h63 rfl
            have d : c ≠ 91 := fun e => by subst e; exact h91 rfl
            have f : c ≠ 92 := fun e => by subst e; exact h92 rfl
            simp [GP.spec, a, b, d, f]

theorem GlobMatches : bobstaylaw01_GlobMatches.Pure := by
  intro p s hp hs
  refine ⟨p.size + 1, ?_⟩
  unfold bobstaylaw01_GlobMatches.f
  rcases far_cases p s with h | ⟨h, h1, h2⟩
  · rw [h, Option.bind_some, if_pos rfl, alive]; rfl
  · rw [h, Option.bind_some, if_neg (by decide), gm p s (by omega) (by omega), Option.bind_some, gr p s (by omega) (by omega), Option.bind_some, if_pos (by simp), gp p (by omega), Option.bind_some]
    unfold bobstayref01_Plain.f
    have := plain_tells p hp p.size (p.size + 1) 0 (by omega) (by omega) (by omega)
    simp only [Int.natCast_zero, List.drop_zero] at this
    rw [this, Option.bind_some, if_pos (by simp), alive]; rfl
end Go.Proofs.Ytcailjmcjgpfmaa.Pure
