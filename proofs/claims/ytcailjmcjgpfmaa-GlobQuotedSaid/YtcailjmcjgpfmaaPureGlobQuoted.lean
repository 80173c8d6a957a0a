/- A quoted text matches itself alone: for every two texts; longer than 2000 bytes: that the program is alive. -/
import Derived.Test.YtcailjmcjgpfmaaPGx9
import Derived.Test.YtcailjmcjgpfmaaGlobA
namespace Go.Proofs.Ytcailjmcjgpfmaa.Pure
open Go.RowKit Go.Proofs.Ytcailjmcjgpfmaa.PG Go.Proofs.YtcailjmcjgpfmaaW.PrintWords Go.Proofs.YtcailjmcjgpfmaaW.PrintLast Go.Proofs.Ytcailjmcjgpfmaa.Ba

theorem GlobQuoted : bobstaylaw01_GlobQuoted.Pure := by
  intro s t hs ht
  unfold bobstaylaw01_GlobQuoted.f
  rcases far_cases s t with h | ⟨h, h1, h2⟩
  · rw [h, Option.bind_some, if_pos rfl, alive]; rfl
  · have hl : (S (GP.quote s.data.toList)).size ≤ 1000000000 := by
      have := GP.quote_len s.data.toList
      rw [← size_len] at this
      rw [size_S]; omega
    rw [h, Option.bind_some, if_neg (by decide), gq s (by omega), Option.bind_some, gm _ _ hl (by omega), Option.bind_some, gm _ _ hl (by omega), data_S, GP.quote_itself, if_pos rfl, Option.bind_some, GP.quote_alone, if_pos (by rw [Lib.toList_data, Lib.toList_data]; simp), alive]; rfl
end Go.Proofs.Ytcailjmcjgpfmaa.Pure
