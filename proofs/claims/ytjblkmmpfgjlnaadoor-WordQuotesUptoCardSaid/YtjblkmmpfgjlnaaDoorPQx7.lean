-- PRINTED by print.py (a twelfth state) out of the translation. Not trusted: Lean checks it.
import Derived.Test.YtjblkmmpfgjlnaaDoorPQx0
namespace Go.Proofs.YtjblkmmpfgjlnaaDoor.PQ
open Go.RowKit Go.Proofs.YtjblkmmpfgjlnaaDoorW.PrintWords Go.Proofs.YtjblkmmpfgjlnaaDoorW.PrintLast Go.Proofs.YtjblkmmpfgjlnaaDoorW.PrintMore
attribute [local go_sem] max2_int min2_int max_two min_two max_three min_three max_four min_four   -- for this text's walks alone
set_option linter.unusedVariables false
set_option linter.unusedSimpArgs false

/-! ### strings_ReplaceAll: function 29 (told from outside) -/
def strings_ReplaceAll.f (a0 : ByteArray) (a1 : ByteArray) (a2 : ByteArray) : Option (ByteArray) := if h : a0.size ≤ 100000000 ∧ a1.size = 1 ∧ 2 ≤ a2.size ∧ a2.size ≤ 8 then some (Go.Proofs.YtjblkmmpfgjlnaaDoor.Ba.S (Go.Proofs.YtjblkmmpfgjlnaaDoor.repl (a1[0]'(by omega)) a2.data.toList a0.data.toList)) else none
theorem strings_ReplaceAll.calls (a0 : ByteArray) (a1 : ByteArray) (a2 : ByteArray) (r : ByteArray) (w : World) (h : strings_ReplaceAll.f a0 a1 a2 = some r) :
    Calls Tryd.prog 29 #[.string a0, .string a1, .string a2] w fun e w' => e = .returned (.string r) ∧ Below w.heap.size w w' := by
  unfold strings_ReplaceAll.f at h
  split at h
  · rename_i hh
    obtain rfl := Option.some.inj h
    have e1 : a1 = ⟨#[a1[0]'(by omega)]⟩ := by
      apply Go.Proofs.YtjblkmmpfgjlnaaDoor.Ba.ba_ext
      rw [Go.Proofs.YtjblkmmpfgjlnaaDoor.Ba.cons1 a1 (by omega), Go.Proofs.YtjblkmmpfgjlnaaDoor.Ba.nil0 (a1.extract 1 a1.size) (by rw [Go.Proofs.YtjblkmmpfgjlnaaDoor.Ba.tail_size]; omega)]
    have c := Go.Proofs.YtjblkmmpfgjlnaaDoor.replaceAll_one a0 (a1[0]'(by omega)) a2 w hh.1 hh.2.2.1 hh.2.2.2
    rw [← e1] at c
    exact c
  · cases h

end Go.Proofs.YtjblkmmpfgjlnaaDoor.PQ
