/- loop.Build at 'alive''s three lines, walked. -/
import Derived.Test.YtiedbnjoomcdbaaDoorLoopF
set_option linter.unusedVariables false
set_option linter.unusedSimpArgs false
namespace Go.Proofs.YtiedbnjoomcdbaaDoor.PO
open Go.RowKit Go.Proofs.YtiedbnjoomcdbaaDoorW.PrintWords Go.Proofs.YtiedbnjoomcdbaaDoorW.PrintLast Go.Proofs.YtiedbnjoomcdbaaDoorW.PrintMore

set_option maxHeartbeats 8000000 in
set_option maxRecDepth 100000 in
theorem build_ok (lb : Nat) (w : World) (hL : w.heap[lb]? = some (.cells LC 34 (0, 0))) :
    Calls Tryd.prog 15 #[.slice (some ⟨lb, 0, none⟩) 3 3] w fun e w' =>
      (∃ a c, e = .returned (.tuple #[.slice (some ⟨a, 0, none⟩) 1 c, .agg #[.int .i64 0, .int .i64 0]]) ∧ NodeAt w' a) ∧ Below w.heap.size w w' := by
  have hu38 := Tryd.underlying38
  have L0 := blk_lt hL
  go_enter Tryd.func15, Tryd.ntmps15
  go_wp2_with (first
    | ((with_reducible refine gate_dst (N := 3) rfl ?_); (try (refine gate_guard (by rfl) ?_; dsimp only)); refine box_event ?hg (N := 3) ?hd (cs := #[.int .i64 0, .int .i64 0]) (t := 38) ?hr ?_; (case hd => rfl); (case hg => rfl); (case hr => first | (go_simp; done) | (go_simp; rfl)); intro b3 e3 w3 hb3 hl3; have E3 := Aside0.mk e3; clear e3)
    | ((with_reducible refine gate_dst (N := 8) rfl ?_); (try (refine gate_guard (by rfl) ?_; dsimp only)); refine box_event ?hg (N := 8) ?hd (cs := #[.slice (some ⟨lb, 0, none⟩) 3 3, .int .i64 0, .int .i64 0, .int .i64 0]) (t := 62) ?hr ?_; (case hd => rfl); (case hg => rfl); (case hr => first | (go_simp; done) | (go_simp; rfl)); intro g eg w4 hg4 hl4; have EG := Aside0.mk eg; clear eg))
  have hl04 := below_then hl3 hl3.size hl4
  have n1 : b3 = w.heap.size := E3.out
  have n2 : g = w3.heap.size := EG.out
  have n3 := hl3.size
  have n4 := blk_lt hb3
  have hgl : g ≠ lb := by omega
  have hg0 : w.heap.size ≤ g := by omega
  have hg3 : b3 ≠ g := by omega
  have hw3 : w.heap.size ≤ b3 := by omega
  have hS : SS w4 g lb 0 := ⟨hg4, blk_below hL hl04, hgl⟩
  have hb4 := blk_below hb3 hl4
  clear n1 n2 n3 n4 E3 EG hl3 hl4 hb3 hg4
  refine (blocks_out g lb w w4 hS hl04 hg0).mono ?_
  rintro e w5 ⟨⟨a, c, rfl, hN⟩, hS5, hB5, hk5⟩
  have hb5 := hk5.blk hb4 hg3 (by simp)
  obtain ⟨⟨f0, f1, f2, f3, f4⟩, k0, k1, k2, k3, k4, k5, k6, k7, k8⟩ := hS5.facts
  have x0 : w5.cell? ⟨b3, 0, none⟩ = some (.int .i64 0) := (blk_cell hb5 0).trans rfl
  have x1 : w5.cell? ⟨b3, 1, none⟩ = some (.int .i64 0) := (blk_cell hb5 1).trans rfl
  have v0 := blk_frozen hb5 0
  have v1 := blk_frozen hb5 1
  clear hb4 hk5 hS hl04
  go_wp2_with (fail)
  have p5 : ((w5.setCell ⟨b3, 0, none⟩ (.int .i64 0)).setCell ⟨b3, 1, none⟩ (.int .i64 0)).heap[b3]? = some (.cells #[.int .i64 0, .int .i64 0] 38 (0, 0)) := by
    simpa using blk_set (blk_set hb5 0 (.int .i64 0)) 1 (.int .i64 0)
  have hB6 : Below w.heap.size w ((w5.setCell ⟨b3, 0, none⟩ (.int .i64 0)).setCell ⟨b3, 1, none⟩ (.int .i64 0)) := (hB5.setCell (p := ⟨b3, 0, none⟩) hw3 _).setCell (p := ⟨b3, 1, none⟩) hw3 _
  have hN6 : NodeAt ((w5.setCell ⟨b3, 0, none⟩ (.int .i64 0)).setCell ⟨b3, 1, none⟩ (.int .i64 0)) a := by
    obtain ⟨cur, h1, h2⟩ := hN
    have hne : a ≠ b3 := blk_ne h1 hb5 (by decide)
    exact ⟨cur, blk_far (blk_far h1 (p := ⟨b3, 0, none⟩) hne _) (p := ⟨b3, 1, none⟩) hne _, h2⟩
  generalize hq17 : World.setCell (World.setCell _ _ _) _ _ = w17 at *
  have r0 : w17.cell? ⟨b3, 0, none⟩ = some (.int .i64 0) := (blk_cell p5 0).trans rfl
  have r1 : w17.cell? ⟨b3, 1, none⟩ = some (.int .i64 0) := (blk_cell p5 1).trans rfl
  (try simp only [Exit.inBlock, Exit.then])
  refine bodyPost_ret (by simp [results, Tryd.results15, go_sem, r0, r1]; try rfl) rfl ?_
  exact ⟨⟨_, _, rfl, hN6⟩, hB6⟩
end Go.Proofs.YtiedbnjoomcdbaaDoor.PO
