/- Any text, quoted, is the document's. -/
import Derived.Test.YtjblkmmpfgjlnaaDoorPQx13
import Derived.Test.YtjblkmmpfgjlnaaDoorWordQ
set_option linter.unusedVariables false
set_option linter.unusedSimpArgs false
namespace Go.Proofs.YtjblkmmpfgjlnaaDoor.Pure
open Go.RowKit Go.Proofs.YtjblkmmpfgjlnaaDoor.PQ Go.Proofs.YtjblkmmpfgjlnaaDoorW.PrintWords Go.Proofs.YtjblkmmpfgjlnaaDoorW.PrintLast Go.Proofs.YtjblkmmpfgjlnaaDoor.Ba
theorem WordQuotes (s : ByteArray) (hs : s.size ≤ 1048576) : ∃ k, bobstaylaw04_WordQuotes.f k s = some true := by
  refine ⟨40 + (s.size + 21), ?_⟩
  unfold bobstaylaw04_WordQuotes.f
  rw [quote_f s hs _ (by omega), Option.bind_some, rquote_f s hs _ (by omega), Option.bind_some, if_pos rfl, alive]; rfl
theorem WordQuotesWalk (W : World) (s : ByteArray) (_ : s.size ≤ 140737488351232) (hs : s.size + 1 ≤ 1048576) :
    Calls Tryd.prog 4 #[.string s] W fun e w' => e = .returned (.bool true) ∧ Below W.heap.size W w' := by
  obtain ⟨k, hk⟩ := WordQuotes s (by omega)
  exact bobstaylaw04_WordQuotes.calls k s true W hk
end Go.Proofs.YtjblkmmpfgjlnaaDoor.Pure
