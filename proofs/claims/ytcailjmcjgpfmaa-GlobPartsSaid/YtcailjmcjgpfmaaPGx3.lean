-- PRINTED by print.py (a twelfth state) out of the translation. Not trusted: Lean checks it.
import Derived.Test.YtcailjmcjgpfmaaPGx0
namespace Go.Proofs.Ytcailjmcjgpfmaa.PG
open Go.RowKit Go.Proofs.YtcailjmcjgpfmaaW.PrintWords Go.Proofs.YtcailjmcjgpfmaaW.PrintLast Go.Proofs.YtcailjmcjgpfmaaW.PrintMore
attribute [local go_sem] max2_int min2_int max_two min_two max_three min_three max_four min_four   -- for this text's walks alone
set_option linter.unusedVariables false
set_option linter.unusedSimpArgs false

/-! ### glob_Plain: function 13 (told from outside) -/
def glob_Plain.f (a0 : ByteArray) : Option (Bool) := if a0.size ≤ 1000000000 then some (Go.Proofs.Ytcailjmcjgpfmaa.GP.plain a0.data.toList) else none
theorem glob_Plain.calls (a0 : ByteArray) (r : Bool) (w : World) (h : glob_Plain.f a0 = some r) :
    Calls Try.prog 13 #[.string a0] w fun e w' => e = .returned (.bool r) ∧ Below w.heap.size w w' := by
  unfold glob_Plain.f at h
  split at h
  · obtain rfl := Option.some.inj h
    exact Go.Proofs.Ytcailjmcjgpfmaa.plain a0 w (by omega)
  · cases h

end Go.Proofs.Ytcailjmcjgpfmaa.PG
