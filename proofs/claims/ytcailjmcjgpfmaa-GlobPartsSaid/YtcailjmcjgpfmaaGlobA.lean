/- What the printed pieces that all laws of patterns use answer. -/
import Derived.Test.YtcailjmcjgpfmaaPGx1
import Derived.Test.YtcailjmcjgpfmaaPGx5
import Derived.Test.YtcailjmcjgpfmaaPGx6
import Derived.Test.YtcailjmcjgpfmaaGlobQ
namespace Go.Proofs.Ytcailjmcjgpfmaa.Pure
open Go.RowKit Go.Proofs.Ytcailjmcjgpfmaa.PG Go.Proofs.YtcailjmcjgpfmaaW.PrintWords Go.Proofs.YtcailjmcjgpfmaaW.PrintLast Go.Proofs.Ytcailjmcjgpfmaa.Ba

theorem bt_get (s : ByteArray) (i : Nat) (h : i < s.size) : bt s i = ((s[i]).toNat : Int) := by
  rw [← bt_at s i h]; rfl
theorem gm (p s : ByteArray) (h : p.size ≤ 1000000000) (h' : s.size ≤ 1000000000) : glob_Match.f p s = some (GP.M p.data.toList s.data.toList) := by
  unfold glob_Match.f; rw [if_pos h, if_pos h']
theorem gr (p s : ByteArray) (h : p.size ≤ 1000000000) (h' : s.size ≤ 1000000000) : bobstayref01_Match.f p s = some (GP.M p.data.toList s.data.toList) := by
  unfold bobstayref01_Match.f; rw [if_pos h, if_pos h']
theorem gp (p : ByteArray) (h : p.size ≤ 1000000000) : glob_Plain.f p = some (GP.plain p.data.toList) := by
  unfold glob_Plain.f; rw [if_pos h]
theorem gq (p : ByteArray) (h : p.size ≤ 1000000000) : glob_Quote.f p = some (S (GP.quote p.data.toList)) := by
  unfold glob_Quote.f; rw [if_pos h]
theorem alive : bobstaylaw01_alive.f = some true := by
  have m1 : GP.M [91, 97, 45, 99, 93, 63, 46, 42] [98, 120, 46, 111] = true := GP.M_val (by decide)
  have m2 : GP.M [91, 97, 45, 99, 93, 63, 46, 42] [100, 120, 46, 111] = false := GP.M_val (by decide)
  have q : GP.quote [42] = [92, 42] := by decide
  have pl : GP.plain [97] = true := by decide
  have s1 : glob_Match.f ⟨#[91, 97, 45, 99, 93, 63, 46, 42]⟩ ⟨#[98, 120, 46, 111]⟩ = some true := by
    rw [gm _ _ (by decide) (by decide)]; exact congrArg some m1
  have s2 : glob_Match.f ⟨#[91, 97, 45, 99, 93, 63, 46, 42]⟩ ⟨#[100, 120, 46, 111]⟩ = some false := by
    rw [gm _ _ (by decide) (by decide)]; exact congrArg some m2
  have s3 : glob_Quote.f ⟨#[42]⟩ = some (S [92, 42]) := by
    unfold glob_Quote.f; rw [if_pos (by decide)]; exact congrArg (fun l => some (S l)) q
  have s4 : glob_Plain.f ⟨#[97]⟩ = some true := by
    unfold glob_Plain.f; rw [if_pos (by decide)]; exact congrArg some pl
  unfold bobstaylaw01_alive.f
  rw [s1, Option.bind_some, if_pos rfl, s2, Option.bind_some, if_neg (by decide), s3, Option.bind_some, if_pos (by rw [Lib.toList_data]; rfl), s4]; rfl

theorem far_no {p s : ByteArray} (h1 : ¬ (p.size : Int) > 2000) (h2 : ¬ (s.size : Int) > 2000) : bobstaylaw01_far.f p s = some false := by
  unfold bobstaylaw01_far.f; rw [if_neg h1, decide_eq_false h2]
theorem far_one {p s : ByteArray} (h1 : (p.size : Int) > 2000) : bobstaylaw01_far.f p s = some true := by
  unfold bobstaylaw01_far.f; rw [if_pos h1]
theorem far_two {p s : ByteArray} (h1 : ¬ (p.size : Int) > 2000) (h2 : (s.size : Int) > 2000) : bobstaylaw01_far.f p s = some true := by
  unfold bobstaylaw01_far.f; rw [if_neg h1, decide_eq_true h2]
theorem far_cases (p s : ByteArray) : bobstaylaw01_far.f p s = some true ∨ (bobstaylaw01_far.f p s = some false ∧ p.size ≤ 2000 ∧ s.size ≤ 2000) := by
  by_cases h1 : (p.size : Int) > 2000
  · exact .inl (far_one h1)
  · by_cases h2 : (s.size : Int) > 2000
    · exact .inl (far_two h1 h2)
    · exact .inr ⟨far_no h1 h2, by omega, by omega⟩
theorem data_app (a b : ByteArray) : (a ++ b).data.toList = a.data.toList ++ b.data.toList := by simp
theorem size_app (a b : ByteArray) : (a ++ b).size = a.size + b.size := by simp
end Go.Proofs.Ytcailjmcjgpfmaa.Pure
