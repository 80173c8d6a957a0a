/- Facts of the spans, and what a word means. -/
import Derived.Test.YtapfblaejmenlaaDoorWordP
import Derived.Test.YtapfblaejmenlaaDoorBase
set_option linter.unusedVariables false
namespace Go.Proofs.YtapfblaejmenlaaDoor.WP
open Go Ba

theorem dq_bd : ∀ (l acc : List UInt8) (i k : Nat) (m : List UInt8), dq l acc i = some (k, m) → i < k ∧ k ≤ i + l.length ∧ m.length + i ≤ acc.length + k
  | [], acc, i, k, m, h => by simp [dq] at h
  | [c], acc, i, k, m, h => by
    simp only [dq] at h
    split at h
    · simp only [Option.some.injEq, Prod.mk.injEq] at h
      obtain ⟨rfl, rfl⟩ := h
      simp only [List.length_cons, List.length_nil]; omega
    · cases h
  | c :: x :: r, acc, i, k, m, h => by
    simp only [dq] at h
    split at h
    · simp only [Option.some.injEq, Prod.mk.injEq] at h
      obtain ⟨rfl, rfl⟩ := h
      simp only [List.length_cons]; omega
    · split at h
      · have := dq_bd r _ _ _ _ h
        simp only [List.length_cons, List.length_append, List.length_nil] at this ⊢
        omega
      · have := dq_bd (x :: r) _ _ _ _ h
        simp only [List.length_cons, List.length_append, List.length_nil] at this ⊢
        omega

theorem span_bd (l : List UInt8) (k : Nat) (m : List UInt8) (h : spanL l = some (k, m)) : 1 ≤ k ∧ k ≤ l.length ∧ m.length ≤ k := by
  cases l with
  | nil => simp [spanL] at h
  | cons c r =>
    simp only [spanL] at h
    split at h
    · cases r with
      | nil => cases h
      | cons x r =>
        simp only [Option.some.injEq, Prod.mk.injEq] at h
        obtain ⟨rfl, rfl⟩ := h
        simp
    · split at h
      · split at h
        · cases h
        · simp only [Option.some.injEq, Prod.mk.injEq] at h
          obtain ⟨rfl, rfl⟩ := h
          have h1 := ib_le r 39
          simp only [List.length_cons, List.length_take]
          omega
      · split at h
        · have := dq_bd r _ _ _ _ h
          simp only [List.length_cons, List.length_nil] at this ⊢
          omega
        · simp only [Option.some.injEq, Prod.mk.injEq] at h
          obtain ⟨rfl, rfl⟩ := h
          simp

/-- what a word means -/
def meanL (l : List UInt8) : Option (List UInt8) :=
  if l = [] then some [] else
    match h : spanL l with
    | none => none
    | some (k, m) => (meanL (l.drop k)).map (m ++ ·)
termination_by l.length
decreasing_by
  have := span_bd l k m h
  simp only [List.length_drop]; omega

theorem mean_nil : meanL [] = some [] := by unfold meanL; simp
theorem mean_no (l : List UInt8) (h0 : l ≠ []) (h : spanL l = none) : meanL l = none := by
  unfold meanL
  rw [if_neg h0]
  split
  · rfl
  · rename_i h'; rw [h] at h'; cases h'
theorem mean_yes (l : List UInt8) (k : Nat) (m : List UInt8) (h : spanL l = some (k, m)) : meanL l = (meanL (l.drop k)).map (m ++ ·) := by
  have h0 : l ≠ [] := by rintro rfl; simp [spanL] at h
  conv => lhs; unfold meanL
  rw [if_neg h0]
  split
  · rename_i h'; rw [h] at h'; cases h'
  · rename_i h'
    rw [h] at h'
    simp only [Option.some.injEq, Prod.mk.injEq] at h'
    obtain ⟨rfl, rfl⟩ := h'
    rfl
def meanV : Option (List UInt8) → Value
  | none => .tuple #[.string ⟨#[]⟩, .int .i64 4]
  | some m => .tuple #[.string ⟨m.toArray⟩, .int .i64 0]
/-- words with blanks between; empty ones are left out -/
def joinL : List ByteArray → List UInt8 → List UInt8
  | [], acc => acc
  | t :: l, acc => if t.data.toList = [] then joinL l acc else if acc = [] then joinL l t.data.toList else joinL l (acc ++ 32 :: t.data.toList)
def tot (l : List ByteArray) : Nat := (l.map fun s => s.size + 1).sum
theorem tot_cons (s : ByteArray) (l : List ByteArray) : tot (s :: l) = s.size + 1 + tot l := by simp [tot]
end Go.Proofs.YtapfblaejmenlaaDoor.WP
