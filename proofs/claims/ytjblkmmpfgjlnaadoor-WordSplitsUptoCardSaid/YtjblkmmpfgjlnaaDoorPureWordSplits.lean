/- The words of any text, and its meaning, are the document's. -/
import Derived.Test.YtjblkmmpfgjlnaaDoorPQx19
import Derived.Test.YtjblkmmpfgjlnaaDoorWordT
set_option linter.unusedVariables false
set_option linter.unusedSimpArgs false
namespace Go.Proofs.YtjblkmmpfgjlnaaDoor.Pure
open Go.RowKit Go.Proofs.YtjblkmmpfgjlnaaDoor.PQ Go.Proofs.YtjblkmmpfgjlnaaDoorW.PrintWords Go.Proofs.YtjblkmmpfgjlnaaDoorW.PrintLast Go.Proofs.YtjblkmmpfgjlnaaDoor.Ba
theorem WordSplits (s : ByteArray) (hs : s.size ≤ 1048576) : ∃ k, bobstaylaw04_WordSplits.f k s = some true := by
  refine ⟨40 + (3 * s.size + 5000), ?_⟩
  unfold bobstaylaw04_WordSplits.f
  have hl : (if OP s = true then (([], 4) : List ByteArray × Int) else FN ((WP.grp (PR s) none).map S)).1.length ≤ 4096 := by
    split
    · simp
    · exact fn_len _
  rw [wsplit_f s hs _ (by omega), Option.bind_some, rsplit_f s hs _ (by omega), Option.bind_some, mean_f s hs, Option.bind_some, rmean_f s hs _ (by omega), Option.bind_some, same_f _ hl _ (by omega), Option.bind_some, if_pos rfl, if_pos rfl, if_pos rfl, if_pos rfl, alive]; rfl
theorem WordSplitsWalk (W : World) (s : ByteArray) (_ : s.size ≤ 140737488351232) (hs : s.size + 1 ≤ 1048576) :
    Calls Tryd.prog 3 #[.string s] W fun e w' => e = .returned (.bool true) ∧ Below W.heap.size W w' := by
  obtain ⟨k, hk⟩ := WordSplits s (by omega)
  exact bobstaylaw04_WordSplits.calls k s true W hk
end Go.Proofs.YtjblkmmpfgjlnaaDoor.Pure
