/- walks -/
import Derived.Test.YtcailjmcjgpfmaaGlobP
import Derived.Test.YtcailjmcjgpfmaaBase
import Derived.Test.YtcailjmcjgpfmaaShelf
import Derived.Test.YtcailjmcjgpfmaaBld
import Derived.Lib.Hide
import Derived.Lib.IndexBytes
import Derived.Deep.QuietTactic
import Derived.BigQuiet
import Derived.Outline
import Derived.LoopTactic
import Derived.WalkKit
set_option linter.unusedVariables false
namespace Go.Proofs.Ytcailjmcjgpfmaa
open Go.RowKit Ba

theorem neg_iff (c : UInt8) : (0 ≤ Lib.indexByte [33, 94] c) ↔ GP.neg c = true := by
  simp only [Lib.indexByte, GP.neg]
  by_cases h1 : c = 33
  · subst h1; decide
  · by_cases h2 : c = 94
    · subst h2; decide
    · simp [beq_eq_false_iff_ne.mpr h1, beq_eq_false_iff_ne.mpr h2, beq_eq_false_iff_ne.mpr (Ne.symm h1), beq_eq_false_iff_ne.mpr (Ne.symm h2)]

theorem getD_get (p : ByteArray) (i : Nat) (h : i < p.size) : p.data.toList.getD i 0 = p[i] := by
  rw [List.getD_eq_getElem?_getD, Lib.data_getElem? p i h]; rfl

theorem brk_val (p : ByteArray) (k : Nat) (hk : (1 < p.size ∧ GP.neg (p.data.toList.getD 1 0) = true ∧ k = 3) ∨ (¬ (1 < p.size ∧ GP.neg (p.data.toList.getD 1 0) = true) ∧ k = 2)) :
    GP.brk p.data.toList = if p.size < k then 0 else if Lib.indexByte (List.take (p.size - k) (List.drop k p.data.toList)) 93 < 0 then 0 else k + (Lib.indexByte (List.take (p.size - k) (List.drop k p.data.toList)) 93).toNat + 1 := by
  have ht : List.take (p.size - k) (List.drop k p.data.toList) = List.drop k p.data.toList := by
    rw [List.take_of_length_le]; rw [List.length_drop, ← size_len]; exact Nat.le_refl _
  rw [ht]; unfold GP.brk; rw [← size_len]
  rcases hk with ⟨h1, h2, rfl⟩ | ⟨h1, rfl⟩
  · simp only [if_pos (And.intro h1 h2)]
  · simp only [if_neg h1]

theorem brk3 (p : ByteArray) (h : 1 < (p.size : Int)) (hn : 0 ≤ Lib.indexByte [33, 94] (p[1]'(by omega))) : (1 < p.size ∧ GP.neg (p.data.toList.getD 1 0) = true ∧ 3 = 3) ∨ (¬ (1 < p.size ∧ GP.neg (p.data.toList.getD 1 0) = true) ∧ 3 = 2) :=
  .inl ⟨by omega, by rw [getD_get p 1 (by omega)]; exact (neg_iff _).mp hn, rfl⟩
theorem brk2 (p : ByteArray) (h : 1 < (p.size : Int)) (hn : Lib.indexByte [33, 94] (p[1]'(by omega)) < 0) : (1 < p.size ∧ GP.neg (p.data.toList.getD 1 0) = true ∧ 2 = 3) ∨ (¬ (1 < p.size ∧ GP.neg (p.data.toList.getD 1 0) = true) ∧ 2 = 2) :=
  .inr ⟨fun ⟨_, h2⟩ => by rw [getD_get p 1 (by omega)] at h2; have := (neg_iff _).mpr h2; omega, rfl⟩
theorem brk0 (p : ByteArray) (h : (p.size : Int) ≤ 1) : (1 < p.size ∧ GP.neg (p.data.toList.getD 1 0) = true ∧ 2 = 3) ∨ (¬ (1 < p.size ∧ GP.neg (p.data.toList.getD 1 0) = true) ∧ 2 = 2) :=
  .inr ⟨fun ⟨h1, _⟩ => by omega, rfl⟩
theorem ext0 (p : ByteArray) (n : Nat) (h : n = 0) : (⟨#[]⟩ : ByteArray) = p.extract 0 n := by
  subst h; apply ba_ext; rw [data_extract]; simp
theorem brk_none (p : ByteArray) {k : Nat} (hk : (1 < p.size ∧ GP.neg (p.data.toList.getD 1 0) = true ∧ k = 3) ∨ (¬ (1 < p.size ∧ GP.neg (p.data.toList.getD 1 0) = true) ∧ k = 2)) (h : (p.size : Int) < (k : Nat)) :
    Ending.returned (.string ⟨#[]⟩) = .returned (.string (p.extract 0 (GP.brk p.data.toList))) := by
  rw [← ext0 p _ (by rw [brk_val p k hk, if_pos (by omega)])]
theorem brk_miss (p : ByteArray) {k : Nat} (hk : (1 < p.size ∧ GP.neg (p.data.toList.getD 1 0) = true ∧ k = 3) ∨ (¬ (1 < p.size ∧ GP.neg (p.data.toList.getD 1 0) = true) ∧ k = 2)) (h : Lib.indexByte (List.take (p.size - k) (List.drop k p.data.toList)) 93 < 0) :
    Ending.returned (.string ⟨#[]⟩) = .returned (.string (p.extract 0 (GP.brk p.data.toList))) := by
  rw [← ext0 p _ (by rw [brk_val p k hk, if_pos h]; simp)]
theorem brk_hit (p : ByteArray) {k : Nat} (hk : (1 < p.size ∧ GP.neg (p.data.toList.getD 1 0) = true ∧ k = 3) ∨ (¬ (1 < p.size ∧ GP.neg (p.data.toList.getD 1 0) = true) ∧ k = 2)) (hz : (k : Int) ≤ p.size) (h : 0 ≤ Lib.indexByte (List.take (p.size - k) (List.drop k p.data.toList)) 93) :
    Ending.returned (.string (p.extract 0 ((k : Int) + Lib.indexByte (List.take (p.size - k) (List.drop k p.data.toList)) 93 + 1).toNat)) = .returned (.string (p.extract 0 (GP.brk p.data.toList))) := by
  rw [brk_val p k hk, if_neg (by omega), if_neg (by omega)]
  congr 3; omega

set_option maxHeartbeats 1000000 in
theorem bracket (p : ByteArray) (w : World) (hp : p.size ≤ 140737488355328) :
    Calls Try.prog 26 #[.string p] w fun e w' => e = .returned (.string (p.extract 0 (GP.brk p.data.toList))) ∧ w = w' := by
  have b2 := ib_le (List.take (p.size - 2) (List.drop 2 p.data.toList)) 93
  have b3 := ib_le (List.take (p.size - 3) (List.drop 3 p.data.toList)) 93
  have hs := size_len p
  simp only [List.length_take, List.length_drop, ← hs] at b2 b3
  clear hs
  go_enter Try.func26, Try.ntmps26
  go_wp2_with (go_at_call 23; refine (Try.strings_IndexByte _ _ _).mono ?_; rintro e w' ⟨rfl, rfl⟩)
  all_goals (go_ret; refine ⟨?_, rfl⟩)
  · exact brk_none p (brk3 p ‹_› ‹_›) ‹_›
  · exact brk_miss p (brk3 p ‹_› ‹_›) ‹_›
  · exact brk_hit p (brk3 p ‹_› ‹_›) ‹_› ‹_›
  · exact brk_miss p (brk2 p ‹_› ‹_›) ‹_›
  · exact brk_hit p (brk2 p ‹_› ‹_›) ‹_› ‹_›
  · exact brk_none p (brk0 p ‹_›) ‹_›

end Go.Proofs.Ytcailjmcjgpfmaa
