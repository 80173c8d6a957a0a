/- A quoted text and a pattern behind it match the text and what the pattern matches behind it: for every three texts; longer than 2000 bytes: that the program is alive. -/
import Derived.Test.YtcailjmcjgpfmaaPGx11
import Derived.Test.YtcailjmcjgpfmaaGlobA
namespace Go.Proofs.Ytcailjmcjgpfmaa.Pure
open Go.RowKit Go.Proofs.Ytcailjmcjgpfmaa.PG Go.Proofs.YtcailjmcjgpfmaaW.PrintWords Go.Proofs.YtcailjmcjgpfmaaW.PrintLast Go.Proofs.Ytcailjmcjgpfmaa.Ba

theorem GlobBoth : bobstaylaw01_GlobBoth.Pure := by
  intro a p c ha hb hc
  refine ⟨1, ?_⟩
  unfold bobstaylaw01_GlobBoth.f
  rcases far_cases a p with h | ⟨h, h1, h2⟩
  · rw [h, Option.bind_some, if_pos rfl]; simp only [bobstaylaw01_GlobBoth.j0]; rw [if_pos trivial, alive]; rfl
  · rw [h, Option.bind_some, if_neg (by decide)]
    rcases far_cases c ⟨#[]⟩ with h' | ⟨h', h3, -⟩
    · rw [h', Option.bind_some]; simp only [bobstaylaw01_GlobBoth.j0]; rw [if_pos trivial, alive]; rfl
    · rw [h', Option.bind_some]; simp only [bobstaylaw01_GlobBoth.j0]
      have la := GP.quote_len a.data.toList
      rw [← size_len] at la
      have qa : (S (GP.quote a.data.toList)).size ≤ 4000 := by rw [size_S]; omega
      have z1 : (S (GP.quote a.data.toList) ++ p).size ≤ 1000000000 := by rw [size_app]; omega
      have y1 : (a ++ c).size ≤ 1000000000 := by rw [size_app]; omega
      have m2 : GP.M (S (GP.quote a.data.toList) ++ p).data.toList (a ++ c).data.toList = GP.M p.data.toList c.data.toList := by
        rw [data_app, data_app, data_S, GP.quote_both]
      rw [if_neg (by simp), gq a (by omega), Option.bind_some, if_pos (by omega), if_pos (by omega), gm _ _ z1 y1, m2, Option.bind_some, gm _ _ (by omega) (by omega), Option.bind_some, if_pos (by simp), alive]; rfl
end Go.Proofs.Ytcailjmcjgpfmaa.Pure
