-- PRINTED by print.py (a twelfth state) out of the translation. Not trusted: Lean checks it.
import Derived.Test.YtjblkmmpfgjlnaaDoorPQx0
namespace Go.Proofs.YtjblkmmpfgjlnaaDoor.PQ
open Go.RowKit Go.Proofs.YtjblkmmpfgjlnaaDoorW.PrintWords Go.Proofs.YtjblkmmpfgjlnaaDoorW.PrintLast Go.Proofs.YtjblkmmpfgjlnaaDoorW.PrintMore
attribute [local go_sem] max2_int min2_int max_two min_two max_three min_three max_four min_four   -- for this text's walks alone
set_option linter.unusedVariables false
set_option linter.unusedSimpArgs false

/-! ### word_Join: function 17 (told from outside) -/
def word_Join.f (l0 : List ByteArray) : Option (ByteArray) := if Go.Proofs.YtjblkmmpfgjlnaaDoor.WP.tot l0 ≤ 1000000000 then some (Go.Proofs.YtjblkmmpfgjlnaaDoor.Ba.S (Go.Proofs.YtjblkmmpfgjlnaaDoor.WP.joinL l0 [])) else none
theorem word_Join.calls (A0 : Option Addr) (c0 : Nat) (l0 : List ByteArray) (r : ByteArray) (w : World) (hr0 : Kd.C Kd.string w A0 l0.length l0) (hc0 : l0.length ≤ c0) (h : word_Join.f l0 = some r) :
    Calls Tryd.prog 17 #[.slice A0 l0.length c0] w fun e w' => e = .returned (.string r) ∧ Below w.heap.size w w' := by
  unfold word_Join.f at h
  split at h
  · rename_i hh
    obtain rfl := Option.some.inj h
    exact Go.Proofs.YtjblkmmpfgjlnaaDoor.join A0 c0 l0 w hr0 hc0 hh
  · cases h

end Go.Proofs.YtjblkmmpfgjlnaaDoor.PQ
