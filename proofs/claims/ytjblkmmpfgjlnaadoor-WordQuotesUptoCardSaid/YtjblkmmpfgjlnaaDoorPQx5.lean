-- PRINTED by print.py (a twelfth state) out of the translation. Not trusted: Lean checks it.
import Derived.Test.YtjblkmmpfgjlnaaDoorPQx0
namespace Go.Proofs.YtjblkmmpfgjlnaaDoor.PQ
open Go.RowKit Go.Proofs.YtjblkmmpfgjlnaaDoorW.PrintWords Go.Proofs.YtjblkmmpfgjlnaaDoorW.PrintLast Go.Proofs.YtjblkmmpfgjlnaaDoorW.PrintMore
attribute [local go_sem] max2_int min2_int max_two min_two max_three min_three max_four min_four   -- for this text's walks alone
set_option linter.unusedVariables false
set_option linter.unusedSimpArgs false

/-! ### word_Mean: function 11 (told from outside) -/
def word_Mean.f (a0 : ByteArray) : Option (ByteArray × Int) := if a0.size ≤ 1000000000 then some (match Go.Proofs.YtjblkmmpfgjlnaaDoor.WP.meanL a0.data.toList with | none => (⟨#[]⟩, 4) | some m => (Go.Proofs.YtjblkmmpfgjlnaaDoor.Ba.S m, 0)) else none
theorem word_Mean.calls (a0 : ByteArray) (r1 : ByteArray) (r2 : Int) (w : World) (h : word_Mean.f a0 = some (r1, r2)) :
    Calls Tryd.prog 11 #[.string a0] w fun e w' => e = .returned (.tuple #[.string r1, .int .i64 r2]) ∧ Below w.heap.size w w' := by
  unfold word_Mean.f at h
  split at h
  · rename_i hh
    have e1 := Option.some.inj h
    refine (Go.Proofs.YtjblkmmpfgjlnaaDoor.mean a0 w hh).mono fun e w' ⟨he, hw⟩ => ⟨?_, hw⟩
    rw [he]
    cases hs : Go.Proofs.YtjblkmmpfgjlnaaDoor.WP.meanL a0.data.toList with
    | none => rw [hs] at e1; cases e1; rfl
    | some m => rw [hs] at e1; cases e1; rfl
  · cases h

end Go.Proofs.YtjblkmmpfgjlnaaDoor.PQ
