-- PRINTED by print.py (a twelfth state) out of the translation. Not trusted: Lean checks it.
import Derived.Test.YtcailjmcjgpfmaaPGx0
namespace Go.Proofs.Ytcailjmcjgpfmaa.PG
open Go.RowKit Go.Proofs.YtcailjmcjgpfmaaW.PrintWords Go.Proofs.YtcailjmcjgpfmaaW.PrintLast Go.Proofs.YtcailjmcjgpfmaaW.PrintMore
attribute [local go_sem] max2_int min2_int max_two min_two max_three min_three max_four min_four   -- for this text's walks alone
set_option linter.unusedVariables false
set_option linter.unusedSimpArgs false

/-! ### glob_Match: function 11 (told from outside) -/
def glob_Match.f (a0 : ByteArray) (a1 : ByteArray) : Option (Bool) := if a0.size ≤ 1000000000 then (if a1.size ≤ 1000000000 then some (Go.Proofs.Ytcailjmcjgpfmaa.GP.M a0.data.toList a1.data.toList) else none) else none
theorem glob_Match.calls (a0 : ByteArray) (a1 : ByteArray) (r : Bool) (w : World) (h : glob_Match.f a0 a1 = some r) :
    Calls Try.prog 11 #[.string a0, .string a1] w fun e w' => e = .returned (.bool r) ∧ Drawn0 w w' := by
  unfold glob_Match.f at h
  split at h
  · split at h
    · obtain rfl := Option.some.inj h
      exact (Go.Proofs.Ytcailjmcjgpfmaa.match_ a0 a1 w (by omega) (by omega)).mono fun e w' ⟨he, hw⟩ => ⟨he, ⟨hw⟩⟩
    · cases h
  · cases h

end Go.Proofs.Ytcailjmcjgpfmaa.PG
