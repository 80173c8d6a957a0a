/- A star matches all, with any text ahead, or behind, or in the midst: for every three texts; longer than 2000 bytes: that the program is alive. -/
import Derived.Test.YtcailjmcjgpfmaaPGx10
import Derived.Test.YtcailjmcjgpfmaaGlobA
namespace Go.Proofs.Ytcailjmcjgpfmaa.Pure
open Go.RowKit Go.Proofs.Ytcailjmcjgpfmaa.PG Go.Proofs.YtcailjmcjgpfmaaW.PrintWords Go.Proofs.YtcailjmcjgpfmaaW.PrintLast Go.Proofs.Ytcailjmcjgpfmaa.Ba

theorem GlobAll : bobstaylaw01_GlobAll.Pure := by
  intro a b c ha hb hc
  refine ⟨1, ?_⟩
  unfold bobstaylaw01_GlobAll.f
  rcases far_cases a b with h | ⟨h, h1, h2⟩
  · rw [h, Option.bind_some, if_pos rfl]; simp only [bobstaylaw01_GlobAll.j0]; rw [if_pos trivial, alive]; rfl
  · rw [h, Option.bind_some, if_neg (by decide)]
    rcases far_cases c ⟨#[]⟩ with h' | ⟨h', h3, -⟩
    · rw [h', Option.bind_some]; simp only [bobstaylaw01_GlobAll.j0]; rw [if_pos trivial, alive]; rfl
    · rw [h', Option.bind_some]; simp only [bobstaylaw01_GlobAll.j0]
      have la := GP.quote_len a.data.toList
      have lc := GP.quote_len c.data.toList
      rw [← size_len] at la lc
      have qa : (S (GP.quote a.data.toList)).size ≤ 4000 := by rw [size_S]; omega
      have qc : (S (GP.quote c.data.toList)).size ≤ 4000 := by rw [size_S]; omega
      have s1 : (⟨#[42]⟩ : ByteArray).size = 1 := rfl
      have z1 : (S (GP.quote a.data.toList) ++ (⟨#[42]⟩ : ByteArray)).size ≤ 1000000000 := by rw [size_app, s1]; omega
      have z2 : ((⟨#[42]⟩ : ByteArray) ++ S (GP.quote c.data.toList)).size ≤ 1000000000 := by rw [size_app, s1]; omega
      have z3 : (S (GP.quote a.data.toList) ++ (⟨#[42]⟩ : ByteArray) ++ S (GP.quote c.data.toList)).size ≤ 1000000000 := by rw [size_app, size_app, s1]; omega
      have y1 : (a ++ b).size ≤ 1000000000 := by rw [size_app]; omega
      have y2 : (b ++ c).size ≤ 1000000000 := by rw [size_app]; omega
      have y3 : (a ++ b ++ c).size ≤ 1000000000 := by rw [size_app, size_app]; omega
      have d42 : (⟨#[42]⟩ : ByteArray).data.toList = [42] := rfl
      have m1 : GP.M (⟨#[42]⟩ : ByteArray).data.toList b.data.toList = true := GP.star_all _
      have m2 : GP.M (S (GP.quote a.data.toList) ++ (⟨#[42]⟩ : ByteArray)).data.toList (a ++ b).data.toList = true := by
        rw [data_app, data_app, data_S, GP.quote_both]; exact GP.star_all _
      have m3 : GP.M ((⟨#[42]⟩ : ByteArray) ++ S (GP.quote c.data.toList)).data.toList (b ++ c).data.toList = true := by
        rw [data_app, data_app, data_S, d42]; exact GP.star_behind _ _ _ (GP.quote_itself _)
      have m4 : GP.M (S (GP.quote a.data.toList) ++ (⟨#[42]⟩ : ByteArray) ++ S (GP.quote c.data.toList)).data.toList (a ++ b ++ c).data.toList = true := by
        rw [data_app, data_app, data_app, data_app, data_S, data_S, d42, List.append_assoc, List.append_assoc, GP.quote_both]; exact GP.star_behind _ _ _ (GP.quote_itself _)
      rw [if_neg (by simp), gq a (by omega), Option.bind_some, gq c (by omega), Option.bind_some, gm _ _ (by decide) (by omega), m1, Option.bind_some, if_pos rfl, if_pos (by omega), if_pos (by omega), gm _ _ z1 y1, m2, Option.bind_some, if_pos rfl, if_pos (by omega), if_pos (by omega), gm _ _ z2 y2, m3, Option.bind_some, if_pos rfl, if_pos (by omega), if_pos (by omega), gm _ _ z3 y3, m4, Option.bind_some, if_pos rfl, alive]; rfl
end Go.Proofs.Ytcailjmcjgpfmaa.Pure
