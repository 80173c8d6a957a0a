/- 'alive' of the loop's laws, walked: it answers true. -/
import Derived.Test.YtiedbnjoomcdbaaDoorLoopG
import Derived.Test.YtiedbnjoomcdbaaDoorPBx0
set_option linter.unusedVariables false
set_option linter.unusedSimpArgs false
namespace Go.Proofs.YtiedbnjoomcdbaaDoor
open Go.RowKit Ba Go.Proofs.YtiedbnjoomcdbaaDoorW.PrintWords Go.Proofs.YtiedbnjoomcdbaaDoorW.PrintLast Go.Proofs.YtiedbnjoomcdbaaDoorW.PrintMore PO

theorem addr0 (ad : Addr) : ad.add 0 = ad := by simp [Addr.add]
theorem bindAlive : PB.loop_Bind.f 20 [⟨⟨#[36, 105, 46, 111, 58, 32, 36, 105, 46, 99]⟩, 2, false⟩] ⟨#[105]⟩ ⟨#[97]⟩ = some [⟨⟨#[97, 46, 111, 58, 32, 97, 46, 99]⟩, 2, false⟩] := by kernel_rfl

set_option maxHeartbeats 8000000 in
set_option maxRecDepth 100000 in
theorem aliveW (w : World) :
    Calls Tryd.prog 9 #[] w fun e w' => e = .returned (.bool true) ∧ Below w.heap.size w w' := by
  have hu34 := Tryd.underlying34
  have hu38 := Tryd.underlying38
  have hu56 := Tryd.underlying56
  go_enter Tryd.func9, Tryd.ntmps9
  go_wp2_with (fail)
  have hA := below_alloc (Below.refl w.heap.size w) (.cells LC 34)
  have hL : (w.alloc (.cells LC 34)).heap[w.heap.size]? = some (.cells LC 34 (0, 0)) := blk_new w _
  have hsz : (w.alloc (.cells LC 34)).heap.size = w.heap.size + 1 := by simp
  have hE : w.alloc (.cells LC 34) = w.alloc (.cells #[.string ⟨#[46, 102, 111, 114, 32, 105, 32, 105, 110, 32, 97, 32, 98]⟩, .int .i64 1, .bool false, .string ⟨#[36, 105, 46, 111, 58, 32, 36, 105, 46, 99]⟩, .int .i64 2, .bool false, .string ⟨#[46, 101, 110, 100, 102, 111, 114]⟩, .int .i64 3, .bool false] 34) := rfl
  rw [← hE]
  clear hE
  obtain ⟨lb, hlb⟩ : ∃ lb, w.heap.size = lb := ⟨_, rfl⟩
  have HBX : Hid (w.heap.size = lb) := Lib.hid hlb
  rw [hlb] at hL hsz hA ⊢
  clear hlb
  generalize hq : w.alloc _ = w1 at *
  clear hq
  refine (build_ok lb w1 hL).mono ?_
  rintro e w2 ⟨⟨a, c, rfl, hN⟩, hl2⟩
  have hL2 := blk_below hL hl2
  have hA2 := below_then hA (by omega) hl2
  clear hL hA hl2 hsz
  go_wp2_with (first
    | ((with_reducible refine gate_dst (N := 3) rfl ?_); (try (refine gate_guard (by rfl) ?_; dsimp only)); refine box_event ?hg (N := 3) ?hd (cs := #[.int .i64 0, .int .i64 0]) (t := 38) ?hr ?_; (case hd => rfl); (case hg => rfl); (case hr => first | (go_simp; done) | (go_simp; rfl)); intro b3 e3 w3 hb3 hl3; have E3 := Aside0.mk e3; clear e3; have hN3 := hN.below hl3; clear hN; obtain ⟨cur, hN3, c0, c6, kk, kc, c7⟩ := hN3; have nab : a ≠ b3 := (blk_ne hN3 hb3 (by decide)); have f0 : w3.cell? ⟨a, 0, none⟩ = some (.int .i64 3) := (blk_cell hN3 0).trans c0; have f6 : w3.cell? ⟨a, 6, none⟩ = some (.string ⟨#[97, 32, 98]⟩) := (blk_cell hN3 6).trans c6; have f7 : w3.cell? ⟨a, 7, none⟩ = some (.slice (some kk) 1 kc) := (blk_cell hN3 7).trans c7; have x0 : w3.cell? ⟨b3, 0, none⟩ = some (.int .i64 0) := (blk_cell hb3 0).trans rfl; have x1 : w3.cell? ⟨b3, 1, none⟩ = some (.int .i64 0) := (blk_cell hb3 1).trans rfl; have v0 := blk_frozen hb3 0; have v1 := blk_frozen hb3 1))
  have hL3 := blk_far (blk_far (blk_below hL2 hl3) (p := ⟨b3, 0, none⟩) (blk_ne (blk_below hL2 hl3) hb3 (by decide)) (.int .i64 0)) (p := ⟨b3, 1, none⟩) (blk_ne (blk_below hL2 hl3) hb3 (by decide)) (.int .i64 0)
  have hbs : lb ≤ b3 := by have := E3.out; have := hA2.size; have := HBX.out; omega
  have hA3 := ((below_then hA2 (HBX.out ▸ hA2.size) hl3).setCell (p := ⟨b3, 0, none⟩) hbs (.int .i64 0)).setCell (p := ⟨b3, 1, none⟩) hbs (.int .i64 0)
  clear hL2 hA2 hl3 hb3 hN3 f0 f6 f7 x0 x1 v0 v1 c0 c6 c7
  generalize World.setCell (World.setCell w3 _ _) _ _ = w4 at *
  have hC : Kd.C PB.k34 w4 (some ⟨lb, 3, none⟩) 1 [⟨⟨#[36, 105, 46, 111, 58, 32, 36, 105, 46, 99]⟩, 2, false⟩] := by
    refine ⟨rfl, by decide, fun _ => ⟨_, rfl, fun j p hj => ?_⟩⟩
    cases j with
    | succ j => simp at hj
    | zero =>
      obtain rfl := Option.some.inj hj
      refine ⟨_, rfl, PB.k34_mk w4 _, fun i u hi => ?_⟩
      match i, hi with
      | 0, hi => exact (blk_cell hL3 3).trans hi
      | 1, hi => exact (blk_cell hL3 4).trans hi
      | 2, hi => exact (blk_cell hL3 5).trans hi
      | i + 3, hi => simp at hi
  refine (PB.loop_Bind.calls 20 (some ⟨lb, 3, none⟩) 2 _ _ _ _ w4 hC (by decide) bindAlive).mono ?_
  rintro e w5 ⟨v5, rfl, hR, hl5⟩
  obtain ⟨A5, c5, rfl⟩ := Kd.R_slice hR
  obtain ⟨ad, e5, y0, y1, y2⟩ := PB.at_T34 (Kd.R_reads' hR).2.2 0 (by decide) (by decide)
  subst e5
  have hA5 := below_then hA3 (HBX.out ▸ hA3.size) hl5
  have y : w5.cell? ad = some (.string ⟨#[97, 46, 111, 58, 32, 97, 46, 99]⟩) := by rw [← addr0 ad]; exact y0
  clear hL3 hA3 hl5 hR y0 y1 y2 hC
  go_wp2_with (fail)
  go_ret
  exact ⟨rfl, HBX.out ▸ hA5⟩
end Go.Proofs.YtiedbnjoomcdbaaDoor
