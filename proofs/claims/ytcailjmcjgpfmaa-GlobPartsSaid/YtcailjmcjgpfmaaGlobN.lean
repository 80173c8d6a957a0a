/- The document's Match, on lists: which beginnings of a text are matched. -/
import Derived.Test.YtcailjmcjgpfmaaGlobM
set_option linter.unusedVariables false
namespace Go.Proofs.Ytcailjmcjgpfmaa.GP
open Go.RowKit Ba

def orTo (A : List Bool) (i : Nat) : Bool := (A.take i).any id
theorem orTo_succ (A : List Bool) (i : Nat) (h : i < A.length) : orTo A (i + 1) = (orTo A i || A.getD i false) := by
  unfold orTo
  rw [List.take_succ_eq_append_getElem h, List.any_append, List.getD_eq_getElem?_getD, List.getElem?_eq_getElem h]; simp
theorem orTo_iff (A : List Bool) (i : Nat) : orTo A i = true ↔ ∃ k, k < i ∧ A.getD k false = true := by
  unfold orTo
  rw [List.any_eq_true]
  constructor
  · rintro ⟨x, hx, h⟩
    obtain ⟨k, hk, rfl⟩ := List.getElem_of_mem hx
    rw [List.length_take] at hk
    refine ⟨k, by omega, ?_⟩
    rw [List.getElem_take] at h
    rw [List.getD_eq_getElem?_getD, List.getElem?_eq_getElem (by omega)]; simpa using h
  · rintro ⟨k, hk, h⟩
    have hl : k < A.length := by
      rcases Nat.lt_or_ge k A.length with h' | h'
      · exact h'
      · rw [List.getD_eq_getElem?_getD, List.getElem?_eq_none h'] at h; cases h
    refine ⟨A[k], ?_, ?_⟩
    · rw [List.mem_take_iff_getElem]; exact ⟨k, by omega, rfl⟩
    · rw [List.getD_eq_getElem?_getD, List.getElem?_eq_getElem hl] at h; simpa using h

def starC (A : List Bool) (n i : Nat) : List Bool := (List.range n).map fun j => decide (j < i) && orTo A (j + 1)
def oneC (A : List Bool) (p s : List UInt8) (n i : Nat) : List Bool := (List.range n).map fun j => decide (0 < j ∧ j ≤ i) && (A.getD (j - 1) false && oneB p (s.getD (j - 1) 0))
@[simp] theorem starC_len (A : List Bool) (n i : Nat) : (starC A n i).length = n := by simp [starC]
@[simp] theorem oneC_len (A : List Bool) (p s : List UInt8) (n i : Nat) : (oneC A p s n i).length = n := by simp [oneC]
theorem starC_zero (A : List Bool) (n : Nat) : starC A n 0 = List.replicate n false := by
  apply List.ext_getElem (by simp)
  intro j h1 h2; simp [starC]
theorem oneC_zero (A : List Bool) (p s : List UInt8) (n : Nat) : oneC A p s n 0 = List.replicate n false := by
  apply List.ext_getElem (by simp)
  intro j h1 h2
  simp only [oneC, List.getElem_map, List.getElem_range, List.getElem_replicate]
  rw [decide_eq_false (by omega)]; rfl
theorem starC_set (A : List Bool) (n i : Nat) (h : i < n) : (starC A n i).set i (orTo A (i + 1)) = starC A n (i + 1) := by
  apply List.ext_getElem (by simp)
  intro j h1 h2
  rw [List.getElem_set]
  simp only [starC, List.getElem_map, List.getElem_range]
  by_cases e : i = j
  · subst e; rw [if_pos rfl, decide_eq_true (by omega)]; rfl
  · rw [if_neg e]
    have : decide (j < i) = decide (j < i + 1) := decide_eq_decide.mpr (by omega)
    rw [this]
theorem oneC_set (A : List Bool) (p s : List UInt8) (n i : Nat) (h : i + 1 < n) : (oneC A p s n i).set (i + 1) (A.getD i false && oneB p (s.getD i 0)) = oneC A p s n (i + 1) := by
  apply List.ext_getElem (by simp)
  intro j h1 h2
  rw [List.getElem_set]
  simp only [oneC, List.getElem_map, List.getElem_range]
  by_cases e : i + 1 = j
  · subst e; rw [if_pos rfl, decide_eq_true (by omega)]; simp
  · rw [if_neg e]
    have : decide (0 < j ∧ j ≤ i) = decide (0 < j ∧ j ≤ i + 1) := decide_eq_decide.mpr (by omega)
    rw [this]
theorem starC_get (A : List Bool) (n i : Nat) (h : i < n) : (starC A n n).getD i false = orTo A (i + 1) := by
  rw [List.getD_eq_getElem?_getD, List.getElem?_eq_getElem (by simpa using h)]
  simp [starC, h]
theorem oneC_get0 (A : List Bool) (p s : List UInt8) (n m : Nat) : (oneC A p s n m).getD 0 false = false := by
  cases n with
  | zero => rfl
  | succ n => rw [List.getD_eq_getElem?_getD, List.getElem?_eq_getElem (by simp)]; simp [oneC]
theorem oneC_get (A : List Bool) (p s : List UInt8) (n m i : Nat) (h : i + 1 < n) (hm : i + 1 ≤ m) : (oneC A p s n m).getD (i + 1) false = (A.getD i false && oneB p (s.getD i 0)) := by
  rw [List.getD_eq_getElem?_getD, List.getElem?_eq_getElem (by simpa using h)]
  simp [oneC, hm]

/-- what the places that are kept mean for what is left of the pattern -/
def MV (A : List Bool) (p s : List UInt8) : Bool := (List.range (s.length + 1)).any fun i => A.getD i false && M p (s.drop i)
theorem MV_iff (A : List Bool) (p s : List UInt8) : MV A p s = true ↔ ∃ i, i ≤ s.length ∧ A.getD i false = true ∧ M p (s.drop i) = true := by
  unfold MV
  rw [List.any_eq_true]
  constructor
  · rintro ⟨i, hi, h⟩
    rw [Bool.and_eq_true] at h
    exact ⟨i, by have := List.mem_range.mp hi; omega, h.1, h.2⟩
  · rintro ⟨i, hi, h1, h2⟩
    exact ⟨i, List.mem_range.mpr (by omega), by rw [Bool.and_eq_true]; exact ⟨h1, h2⟩⟩
theorem MV_star (A : List Bool) (p s : List UInt8) : MV (starC A (s.length + 1) (s.length + 1)) p s = MV A (42 :: p) s := by
  rw [Bool.eq_iff_iff, MV_iff, MV_iff]
  constructor
  · rintro ⟨i, hi, h1, h2⟩
    rw [starC_get A _ i (by omega), orTo_iff] at h1
    obtain ⟨k, hk, h1⟩ := h1
    refine ⟨k, by omega, h1, (star_iff p _).mpr ⟨i - k, by rw [List.length_drop]; omega, ?_⟩⟩
    rw [List.drop_drop, show k + (i - k) = i by omega]; exact h2
  · rintro ⟨k, hk, h1, h2⟩
    obtain ⟨j, hj, h2⟩ := (star_iff p _).mp h2
    rw [List.length_drop] at hj
    refine ⟨k + j, by omega, ?_, by rw [List.drop_drop] at h2; exact h2⟩
    rw [starC_get A _ _ (by omega), orTo_iff]
    exact ⟨k, by omega, h1⟩
theorem MV_one (A : List Bool) (x : UInt8) (r s : List UInt8) (hx : x ≠ 42) : MV (oneC A (x :: r) s (s.length + 1) s.length) ((x :: r).drop (oneK (x :: r))) s = MV A (x :: r) s := by
  rw [Bool.eq_iff_iff, MV_iff, MV_iff]
  constructor
  · rintro ⟨i, hi, h1, h2⟩
    cases i with
    | zero => rw [oneC_get0] at h1; cases h1
    | succ i =>
      rw [oneC_get A _ s _ _ i (by omega) hi, Bool.and_eq_true] at h1
      refine ⟨i, by omega, h1.1, ?_⟩
      rw [List.drop_eq_getElem_cons (by omega), M_one x r hx]
      have : s.getD i 0 = s[i] := by rw [List.getD_eq_getElem?_getD, List.getElem?_eq_getElem (by omega)]; rfl
      rw [← this, h1.2, h2]; rfl
  · rintro ⟨i, hi, h1, h2⟩
    by_cases hl : i < s.length
    · rw [List.drop_eq_getElem_cons hl, M_one x r hx, Bool.and_eq_true] at h2
      refine ⟨i + 1, by omega, ?_, h2.2⟩
      have : s.getD i 0 = s[i] := by rw [List.getD_eq_getElem?_getD, List.getElem?_eq_getElem hl]; rfl
      rw [oneC_get A _ s _ _ i (by omega) (by omega), h1, this, h2.1]; rfl
    · rw [List.drop_eq_nil_of_le (by omega), M_one_nil x r hx] at h2; cases h2
theorem MV_nil (A : List Bool) (s : List UInt8) : MV A [] s = A.getD s.length false := by
  rw [Bool.eq_iff_iff, MV_iff]
  constructor
  · rintro ⟨i, hi, h1, h2⟩
    rw [M_nil, List.isEmpty_iff] at h2
    have := congrArg List.length h2
    rw [List.length_drop, List.length_nil] at this
    rw [show s.length = i by omega]; exact h1
  · intro h
    exact ⟨s.length, Nat.le_refl _, h, by rw [M_nil]; simp⟩
theorem MV_start (p s : List UInt8) : MV ((List.replicate (s.length + 1) false).set 0 true) p s = M p s := by
  rw [Bool.eq_iff_iff, MV_iff]
  constructor
  · rintro ⟨i, hi, h1, h2⟩
    cases i with
    | zero => simpa using h2
    | succ i =>
      simp [List.getD_eq_getElem?_getD, List.getElem?_replicate] at h1
      split at h1 <;> simp at h1
  · intro h
    exact ⟨0, Nat.zero_le _, by simp [List.replicate_succ], by simpa using h⟩
end Go.Proofs.Ytcailjmcjgpfmaa.GP
