-- PRINTED by print.py (a twelfth state) out of the translation. Not trusted: Lean checks it.
import Derived.Test.YtjblkmmpfgjlnaaDoorPQx0
namespace Go.Proofs.YtjblkmmpfgjlnaaDoor.PQ
open Go.RowKit Go.Proofs.YtjblkmmpfgjlnaaDoorW.PrintWords Go.Proofs.YtjblkmmpfgjlnaaDoorW.PrintLast Go.Proofs.YtjblkmmpfgjlnaaDoorW.PrintMore
attribute [local go_sem] max2_int min2_int max_two min_two max_three min_three max_four min_four   -- for this text's walks alone
set_option linter.unusedVariables false
set_option linter.unusedSimpArgs false

/-! ### word_span: function 24 (told from outside) -/
def word_span.f (a0 : ByteArray) : Option (Int × ByteArray × Bool) := if 0 < a0.size ∧ a0.size ≤ 1000000000 then some (match Go.Proofs.YtjblkmmpfgjlnaaDoor.WP.spanL a0.data.toList with | none => (0, ⟨#[]⟩, false) | some (n, m) => ((n : Int), Go.Proofs.YtjblkmmpfgjlnaaDoor.Ba.S m, true)) else none
theorem word_span.calls (a0 : ByteArray) (r1 : Int) (r2 : ByteArray) (r3 : Bool) (w : World) (h : word_span.f a0 = some (r1, r2, r3)) :
    Calls Tryd.prog 24 #[.string a0] w fun e w' => e = .returned (.tuple #[.int .i64 r1, .string r2, .bool r3]) ∧ Below w.heap.size w w' := by
  unfold word_span.f at h
  split at h
  · rename_i hh
    have e1 := Option.some.inj h
    refine (Go.Proofs.YtjblkmmpfgjlnaaDoor.span a0 w hh.1 hh.2).mono fun e w' ⟨he, hw⟩ => ⟨?_, hw⟩
    rw [he]
    cases hs : Go.Proofs.YtjblkmmpfgjlnaaDoor.WP.spanL a0.data.toList with
    | none => rw [hs] at e1; cases e1; rfl
    | some nm => obtain ⟨n, m⟩ := nm; rw [hs] at e1; cases e1; rfl
  · cases h

end Go.Proofs.YtjblkmmpfgjlnaaDoor.PQ
