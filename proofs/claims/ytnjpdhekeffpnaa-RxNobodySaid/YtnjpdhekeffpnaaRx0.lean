/- An expression that nobody made: Find, Is, Replace and Text of it, walked; the law on it, walked. -/
import Derived.Test.YtnjpdhekeffpnaaRxX
set_option linter.unusedVariables false
set_option linter.unusedSimpArgs false
namespace Go.Proofs.Ytnjpdhekeffpnaa.Rx
open Go.RowKit Go.Proofs.YtnjpdhekeffpnaaW.PrintWords Go.Proofs.YtnjpdhekeffpnaaW.PrintLast Go.Proofs.YtnjpdhekeffpnaaW.PrintMore

/-- nil, or the zero expression -/
def NoRx (w : World) (v : Value) : Prop := v = .pointer none ∨ ∃ r cs, v = .pointer (some ⟨r, 0, none⟩) ∧ w.heap[r]? = some (.cells cs TR (0, 0)) ∧ cs[1]? = some (.bool false)
theorem NoRx.below {w w' : World} {v : Value} (h : NoRx w v) (hb : Below w.heap.size w w') : NoRx w' v := by
  rcases h with h | ⟨r, cs, h1, h2, h3⟩
  · exact .inl h
  · exact .inr ⟨r, cs, h1, blk_below h2 hb, h3⟩
theorem okNo (w : World) (v : Value) (h : NoRx w v) : Calls Try.prog 28 #[v] w fun e w' => e = .returned (.bool false) ∧ w' = w := by
  rcases h with rfl | ⟨r, cs, rfl, h2, h3⟩
  · exact okNil w
  · exact okW w r false ((blk_cell h2 1).trans h3)
theorem findNo (w : World) (v : Value) (s : ByteArray) (z : Int) (h : NoRx w v) : Calls Try.prog 15 #[v, .string s, .int .i64 z] w fun e w' => e = .returned (.tuple #[.int .i64 0, .int .i64 0, .bool false]) ∧ w' = w := by
  have hok := okNo w v h
  clear h
  go_enter Try.func15, Try.ntmps15
  go_wp2_with (first | (go_at_call 28; refine hok.mono ?_; rintro e w ⟨rfl, rfl⟩) | fail)
  refine bodyPost_ret (by simp [results, Try.results15, go_sem]; try rfl) rfl ?_
  exact ⟨rfl, rfl⟩
theorem isNo (w : World) (v : Value) (s : ByteArray) (h : NoRx w v) : Calls Try.prog 17 #[v, .string s] w fun e w' => e = .returned (.bool false) ∧ w' = w := by
  have hok := okNo w v h
  clear h
  go_enter Try.func17, Try.ntmps17
  go_wp2_with (first | (go_at_call 28; refine hok.mono ?_; rintro e w ⟨rfl, rfl⟩) | fail)
  go_ret
  exact ⟨rfl, rfl⟩
theorem textNo (w : World) (v : Value) (h : NoRx w v) : Calls Try.prog 13 #[v] w fun e w' => e = .returned (.string ⟨#[]⟩) ∧ w' = w := by
  have hok := okNo w v h
  clear h
  go_enter Try.func13, Try.ntmps13
  go_wp2_with (first | (go_at_call 28; refine hok.mono ?_; rintro e w ⟨rfl, rfl⟩) | fail)
  go_ret
  exact ⟨rfl, rfl⟩
set_option maxHeartbeats 1000000 in
set_option maxRecDepth 1000000 in
theorem replaceNo (w : World) (v : Value) (s by_ : ByteArray) (all : Bool) (hs : s.size ≤ 140737488355328) (h : NoRx w v) : Calls Try.prog 19 #[v, .string s, .string by_, .bool all] w fun e w' => e = .returned (.string s) ∧ Below w.heap.size w w' := by
  obtain ⟨B, hB⟩ : ∃ B, w.heap.size = B := ⟨_, rfl⟩
  have HX := Aside0.mk h
  have HSZ := Aside0.mk hs
  clear h hs
  have hal : Below w.heap.size w (w.alloc (.cells #[.pointer none, .slice none 0 0] 87)) := (Below.refl _ _).alloc (Nat.le_refl _) _
  go_enter Try.func19, Try.ntmps19
  go_wp2
  go_loopg [10, 11] 2 (fun kq v10 v11 wr => v10 = .int .i64 0 ∧ v11 = .int .i64 0 ∧ Aside0 (NoRx wr v) ∧ Aside0 (Below w.heap.size w wr) ∧ Aside0 (Bld B B [] wr) ∧ Aside0 (B ≤ wr.heap.size))
  case atStart =>
    subst hB
    exact ⟨rfl, rfl, ⟨HX.out.below hal⟩, ⟨hal⟩, ⟨Bld.fresh w⟩, ⟨by simp⟩⟩
  case round =>
    clear hal
    obtain ⟨rfl, rfl, HN, HW, HB, HS⟩ := hrel
    have hF := findNo wr v s 0 HN.out
    go_wp2_with (first | (go_at_call 15; refine hF.mono ?_; rintro e w2 ⟨rfl, e2⟩; subst e2) | fail)
    have hw := Bld.writeString B B [] s _ HB.out (by have := HSZ.out; simp; omega) HS.out
    refine hw.mono ?_
    rintro e w3 ⟨rfl, hbld3, hbel3, hot3⟩
    have hsz3 : B ≤ w3.heap.size := Nat.le_trans HS.out hbel3.size
    clear hw
    obtain ⟨A3, hA3⟩ : ∃ A3, [] ++ s.data.toList = A3 := ⟨_, rfl⟩
    rw [hA3] at hbld3
    have HA3 := Aside0.mk hA3
    clear hA3
    go_wp2_with (fail)
    refine (Bld.string B B _ w3 hbld3 hsz3).mono ?_
    rintro e w4 ⟨rfl, hbel4⟩
    go_wp2_with (fail)
    go_ret
    refine ⟨?_, hB ▸ ((hB ▸ HW.out).trans hbel3).trans hbel4⟩
    have : A3 = s.data.toList := by rw [← HA3.out, List.nil_append]
    subst this
    show Ending.returned (.string ⟨s.data.toList.toArray⟩) = _
    rw [Array.toArray_toList]
end Go.Proofs.Ytnjpdhekeffpnaa.Rx
