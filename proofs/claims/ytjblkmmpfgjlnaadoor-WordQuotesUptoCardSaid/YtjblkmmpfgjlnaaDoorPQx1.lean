-- PRINTED by print.py (a twelfth state) out of the translation. Not trusted: Lean checks it.
import Derived.Test.YtjblkmmpfgjlnaaDoorPQx0
namespace Go.Proofs.YtjblkmmpfgjlnaaDoor.PQ
open Go.RowKit Go.Proofs.YtjblkmmpfgjlnaaDoorW.PrintWords Go.Proofs.YtjblkmmpfgjlnaaDoorW.PrintLast Go.Proofs.YtjblkmmpfgjlnaaDoorW.PrintMore
attribute [local go_sem] max2_int min2_int max_two min_two max_three min_three max_four min_four   -- for this text's walks alone
set_option linter.unusedVariables false
set_option linter.unusedSimpArgs false

/-! ### strings_TrimLeft: function 22 (told from outside) -/
def strings_TrimLeft.f (a0 : ByteArray) (a1 : ByteArray) : Option (ByteArray) := if a1 = ⟨#[32, 9]⟩ then some (Go.Proofs.YtjblkmmpfgjlnaaDoor.Ba.S (a0.data.toList.dropWhile fun c => c == 32 || c == 9)) else none
theorem strings_TrimLeft.calls (a0 : ByteArray) (a1 : ByteArray) (r : ByteArray) (w : World) (h : strings_TrimLeft.f a0 a1 = some r) :
    Calls Tryd.prog 22 #[.string a0, .string a1] w fun e w' => e = .returned (.string r) ∧ Below w.heap.size w w' := by
  unfold strings_TrimLeft.f at h
  split at h
  · rename_i e1
    subst e1
    obtain rfl := Option.some.inj h
    refine (Go.Proofs.YtjblkmmpfgjlnaaDoor.trimLeft a0 ⟨#[32, 9]⟩ w (by decide) (by decide) ?_).mono fun e w' ⟨he, hw⟩ => ⟨?_, hw⟩
    · intro j b hj
      have hm := List.mem_of_getElem? hj
      have hl : (⟨#[32, 9]⟩ : ByteArray).data.toList = [32, 9] := rfl
      rw [hl] at hm
      simp only [List.mem_cons, List.mem_nil_iff, or_false] at hm
      rcases hm with rfl | rfl <;> decide
    · rw [he]
      have : ((⟨#[32, 9]⟩ : ByteArray).data.toList.contains) = fun c => c == 32 || c == 9 := by
        funext c
        show ([32, 9] : List UInt8).contains c = _
        simp [List.contains_cons]; rfl
      rw [this]
  · cases h

end Go.Proofs.YtjblkmmpfgjlnaaDoor.PQ
