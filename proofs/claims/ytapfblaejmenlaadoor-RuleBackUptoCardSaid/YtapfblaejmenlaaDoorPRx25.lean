-- PRINTED by print.py (a twelfth state) out of the translation. Not trusted: Lean checks it.
import Derived.Test.YtapfblaejmenlaaDoorPRx0
namespace Go.Proofs.YtapfblaejmenlaaDoor.PR
open Go.RowKit Go.Proofs.YtapfblaejmenlaaDoorW.PrintWords Go.Proofs.YtapfblaejmenlaaDoorW.PrintLast Go.Proofs.YtapfblaejmenlaaDoorW.PrintMore
attribute [local go_sem] max2_int min2_int max_two min_two max_three min_three max_four min_four   -- for this text's walks alone
set_option linter.unusedVariables false
set_option linter.unusedSimpArgs false

/-! ### rule_Format: function 15 (told from outside) -/
def rule_Format.f (l0_0 : List ByteArray) (a0_1 : Int) (l0_2 : List ByteArray) (l0_3 : List ByteArray) (a0_4 : Int) : Option (ByteArray) := if Go.Proofs.YtapfblaejmenlaaDoor.WP.tot l0_0 ≤ 100000000 ∧ Go.Proofs.YtapfblaejmenlaaDoor.WP.tot l0_2 ≤ 100000000 ∧ Go.Proofs.YtapfblaejmenlaaDoor.WP.tot l0_3 ≤ 100000000 then some (Go.Proofs.YtapfblaejmenlaaDoor.Ba.S (Go.Proofs.YtapfblaejmenlaaDoor.fmtL l0_0 a0_1 l0_2 l0_3)) else none
theorem rule_Format.calls (A0_0 : Option Addr) (c0_0 : Nat) (l0_0 : List ByteArray) (a0_1 : Int) (A0_2 : Option Addr) (c0_2 : Nat) (l0_2 : List ByteArray) (A0_3 : Option Addr) (c0_3 : Nat) (l0_3 : List ByteArray) (a0_4 : Int) (r : ByteArray) (w : World) (hr0_0 : Kd.C Kd.string w A0_0 l0_0.length l0_0) (hc0_0 : l0_0.length ≤ c0_0) (hr0_2 : Kd.C Kd.string w A0_2 l0_2.length l0_2) (hc0_2 : l0_2.length ≤ c0_2) (hr0_3 : Kd.C Kd.string w A0_3 l0_3.length l0_3) (hc0_3 : l0_3.length ≤ c0_3) (h : rule_Format.f l0_0 a0_1 l0_2 l0_3 a0_4 = some r) :
    Calls Tryd.prog 15 #[.agg #[.slice A0_0 l0_0.length c0_0, .int .i64 a0_1, .slice A0_2 l0_2.length c0_2, .slice A0_3 l0_3.length c0_3, .int .i64 a0_4]] w fun e w' => e = .returned (.string r) ∧ Below w.heap.size w w' := by
  unfold rule_Format.f at h
  split at h
  · rename_i hh
    obtain rfl := Option.some.inj h
    exact Go.Proofs.YtapfblaejmenlaaDoor.formatW A0_0 A0_2 A0_3 c0_0 c0_2 c0_3 l0_0 l0_2 l0_3 a0_1 a0_4 w hr0_0 hr0_2 hr0_3 hc0_0 hc0_2 hc0_3 hh.1 hh.2.1 hh.2.2
  · cases h

end Go.Proofs.YtapfblaejmenlaaDoor.PR
