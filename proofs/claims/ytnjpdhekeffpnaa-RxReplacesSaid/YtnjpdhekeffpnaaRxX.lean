/- 'alive' of the expressions' laws, walked: it answers true. -/
import Derived.Test.YtnjpdhekeffpnaaRxI
set_option linter.unusedVariables false
set_option linter.unusedSimpArgs false
namespace Go.Proofs.Ytnjpdhekeffpnaa.Rx
open Go.RowKit Go.Proofs.YtnjpdhekeffpnaaW.PrintWords Go.Proofs.YtnjpdhekeffpnaaW.PrintLast Go.Proofs.YtnjpdhekeffpnaaW.PrintMore

abbrev pA : ByteArray := ⟨#[97, 124, 97, 98]⟩
abbrev pB : ByteArray := ⟨#[98, 43]⟩
set_option maxRecDepth 100000 in
theorem alive4 : replP ⟨#[97, 98, 98, 99]⟩ ⟨#[60, 38, 62]⟩ false (stepsB pB) (firstB pB) = [97, 60, 98, 98, 62, 99] := by decide +kernel
theorem compile_ok (w : World) (s : ByteArray) (hs : s.size ≤ 140737488355327) (hf : faultB s = none) :
    Calls Try.prog 11 #[.string s] w fun e w' => ∃ r, e = .returned (.tuple #[.pointer (some ⟨r, 0, none⟩), .agg #[.int .i64 0, .int .i64 0]]) ∧ w.heap.size ≤ r ∧ w'.heap[r]? = some (.cells (RgC s) TR (0, 0)) ∧ Below w.heap.size w w' := by
  refine (compileW w s hs).mono ?_
  rintro e w' ⟨h, hb⟩
  rw [hf] at h
  obtain ⟨r, h1, h2, rfl⟩ := h
  exact ⟨r, rfl, h1, h2, hb⟩
theorem RgC.mk {w w' : World} {r q : Nat} {s : ByteArray} (h : w.heap[r]? = some (.cells (RgC s) TR (0, 0))) (k : Mk q w w') (hne : r ≠ q) : w'.heap[r]? = some (.cells (RgC s) TR (0, 0)) :=
  (k.keep r (blk_lt h) hne).trans h
set_option maxHeartbeats 8000000 in
set_option maxRecDepth 1000000 in
theorem aliveW (w : World) : Calls Try.prog 10 #[] w fun e w' => e = .returned (.bool true) ∧ Below w.heap.size w w' := by
  have hu26 := Try.underlying26
  go_enter Try.func10, Try.ntmps10
  go_wp2_with (fail)
  refine (compile_ok w ⟨#[97, 124, 97, 98]⟩ (by decide) alive1.1).mono ?_
  rintro e w1 ⟨r1, rfl, hr1, hb1, hl1⟩
  go_wp2_with (first | (((with_reducible refine gate_dst (N := 2) rfl ?_); (try (refine gate_guard (by rfl) ?_; dsimp only)); refine box_event ?hg (N := 2) ?hd (cs := #[.int .i64 0, .int .i64 0]) (t := 26) ?hr ?_; (case hd => rfl); (case hg => rfl); (case hr => first | (go_simp; done) | (go_simp; rfl)); intro p ep wp hp lp; have Ep := Aside0.mk ep; clear ep); have vp0 : wp.cell? ⟨p, 0, none⟩ = some (.int .i64 0) := (blk_cell hp 0).trans rfl; have vp1 : wp.cell? ⟨p, 1, none⟩ = some (.int .i64 0) := (blk_cell hp 1).trans rfl; have fp0 := blk_frozen hp 0; have fp1 := blk_frozen hp 1) | fail)
  have hpw : w.heap.size ≤ p := by have := Ep.out; have := hl1.size; omega
  have hp2 := blk_set (blk_set hp 0 (.int .i64 0)) 1 (.int .i64 0)
  have hb2 := blk_far (blk_far (blk_below hb1 lp) (p := ⟨p, 0, none⟩) (by have := Ep.out; have := blk_lt hb1; show r1 ≠ p; omega) (.int .i64 0)) (p := ⟨p, 1, none⟩) (by have := Ep.out; have := blk_lt hb1; show r1 ≠ p; omega) (.int .i64 0)
  have hl2 := ((below_then hl1 hl1.size lp).setCell (p := ⟨p, 0, none⟩) hpw (.int .i64 0)).setCell (p := ⟨p, 1, none⟩) hpw (.int .i64 0)
  obtain ⟨w2, hw2⟩ : ∃ w2, World.setCell (World.setCell wp ⟨p, 0, none⟩ (.int .i64 0)) ⟨p, 1, none⟩ (.int .i64 0) = w2 := ⟨_, rfl⟩
  rw [hw2] at hp2 hb2 hl2
  rw [hw2]
  clear hw2 vp0 vp1 fp0 fp1 hp lp hb1 hl1
  refine (compile_ok w2 ⟨#[98, 43]⟩ (by decide) alive1.2).mono ?_
  rintro e w3 ⟨r2, rfl, hr2, hc3, hl3⟩
  go_wp2_with (first | (((with_reducible refine gate_dst (N := 4) rfl ?_); (try (refine gate_guard (by rfl) ?_; dsimp only)); refine box_event ?hg (N := 4) ?hd (cs := #[.int .i64 0, .int .i64 0]) (t := 26) ?hr ?_; (case hd => rfl); (case hg => rfl); (case hr => first | (go_simp; done) | (go_simp; rfl)); intro q eq wq hq lq; have Eq := Aside0.mk eq; clear eq); have vq0 : wq.cell? ⟨q, 0, none⟩ = some (.int .i64 0) := (blk_cell hq 0).trans rfl; have vq1 : wq.cell? ⟨q, 1, none⟩ = some (.int .i64 0) := (blk_cell hq 1).trans rfl; have fq0 := blk_frozen hq 0; have fq1 := blk_frozen hq 1; have hqw : w.heap.size ≤ q := (by have := Eq.out; have := hl2.size; have := hl3.size; omega); have hqp : p ≠ q := (by have := Eq.out; have := blk_lt (blk_below hp2 hl3); omega); have hqr : r2 ≠ q := (by have := Eq.out; have := blk_lt hc3; omega); have hq1 : r1 ≠ q := (by have := Eq.out; have := blk_lt (blk_below hb2 hl3); omega); have hp4 := blk_far (blk_far (blk_below (blk_below hp2 hl3) lq) (p := ⟨q, 0, none⟩) hqp (.int .i64 0)) (p := ⟨q, 1, none⟩) hqp (.int .i64 0); have u0 := (blk_cell hp4 0).trans (show _ = some (Value.int .i64 0) from rfl); have u1 := (blk_cell hp4 1).trans (show _ = some (Value.int .i64 0) from rfl); have hq4 := blk_set (blk_set hq 0 (.int .i64 0)) 1 (.int .i64 0); have s0 := (blk_cell hq4 0).trans (show _ = some (Value.int .i64 0) from rfl); have s1 := (blk_cell hq4 1).trans (show _ = some (Value.int .i64 0) from rfl)) | fail)
  have hb5 := blk_far (blk_far (blk_below (blk_below hb2 hl3) lq) (p := ⟨q, 0, none⟩) hq1 (.int .i64 0)) (p := ⟨q, 1, none⟩) hq1 (.int .i64 0)
  have hc5 := blk_far (blk_far (blk_below hc3 lq) (p := ⟨q, 0, none⟩) hqr (.int .i64 0)) (p := ⟨q, 1, none⟩) hqr (.int .i64 0)
  have hl5 := ((below_then (below_then hl2 hl2.size hl3) (below_then hl2 hl2.size hl3).size lq).setCell (p := ⟨q, 0, none⟩) hqw (.int .i64 0)).setCell (p := ⟨q, 1, none⟩) hqw (.int .i64 0)
  have h12 : r2 ≠ r1 := by have := blk_lt hb2; omega
  have h2w : w.heap.size ≤ r2 := Nat.le_trans hl2.size hr2
  obtain ⟨w5, hw5⟩ : ∃ w5, World.setCell (World.setCell wq ⟨q, 0, none⟩ (.int .i64 0)) ⟨q, 1, none⟩ (.int .i64 0) = w5 := ⟨_, rfl⟩
  rw [hw5] at hb5 hc5 hl5
  rw [hw5]
  clear hw5 u0 u1 s0 s1 hp4 hq4 hq lq vq0 vq1 fq0 fq1 hb2 hl3 hc3 hp2 hl2 hr2 hqw hqp hqr hq1 hpw
  have hF := findW w5 r1 pA ⟨#[120, 97, 98]⟩ 0 (by decide) (by decide) (.inl hb5)
  rw [alive2] at hF
  dsimp only [findV] at hF
  refine hF.mono ?_
  rintro e w6 ⟨rfl, hX6, hK6⟩
  have hc6 := RgC.mk hc5 hK6 h12
  have hl6 := hl5.trans (hK6.below w.heap.size hr1 hl5.size)
  clear hX6 hK6 hF
  have hQ := replaceW w6 r2 pB ⟨#[97, 98, 98, 99]⟩ ⟨#[60, 38, 62]⟩ false (by decide) (by decide) (by decide) (.inl hc6)
  rw [alive4] at hQ
  go_wp2_with (first | (go_at_call 19; refine hQ.mono ?_; rintro e w7 ⟨rfl, hX7, hK7⟩; have hI := isW w7 r2 pB ⟨#[98, 98]⟩ (by decide) (by decide) hX7; rw [isP, alive3] at hI) | (go_at_call 17; refine hI.mono ?_; rintro e w8 ⟨rfl, hX8, hK8⟩; have hT := textW w8 r2 pB hX8) | (go_at_call 13; refine hT.mono ?_; rintro e w9 ⟨rfl, e9⟩; subst e9) | fail)
  go_ret
  refine ⟨rfl, (hl6.trans (hK7.below w.heap.size h2w hl6.size)).trans (hK8.below w.heap.size h2w (hl6.trans (hK7.below w.heap.size h2w hl6.size)).size)⟩
end Go.Proofs.Ytnjpdhekeffpnaa.Rx
