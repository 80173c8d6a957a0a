/- The reader of expressions: a byte's part, walked. -/
import Derived.Test.YtnjpdhekeffpnaaRxG
set_option linter.unusedVariables false
set_option linter.unusedSimpArgs false
namespace Go.Proofs.Ytnjpdhekeffpnaa.Rx
open Go.RowKit Go.Proofs.YtnjpdhekeffpnaaW.PrintWords Go.Proofs.YtnjpdhekeffpnaaW.PrintLast Go.Proofs.YtnjpdhekeffpnaaW.PrintMore

theorem OutsAt.slice {w : World} {base : Nat} {v : Value} {outs : List Nat} (h : OutsAt w base v outs) : ∃ A c, v = .slice A outs.length c := by
  obtain ⟨A, c, e⟩ := Kd.R_slice h
  rw [List.length_map] at e
  exact ⟨A, c, e⟩
theorem BAt.one {w w' : World} {base b q : Nat} {s : ByteArray} {S : BS} (h : BAt w base b s S) (o : One q w w') {T : Nat} {cs : Array Value} (hq : w.heap[q]? = some (.cells cs T (0, 0))) (hT : T ≠ TS) (hb : q ≠ b) (hbq : base ≤ q) : BAt w' base b s S := by
  obtain ⟨h1, v, h2, h3⟩ := h
  refine ⟨h1, v, ?_, Kd.R_mono (Kd.R_step (Kd.R_types h3 hq (fun q hq => by rcases List.mem_cons.1 hq with rfl | hq; exact fun e => hT e.symm; cases hq)) (fun k hk _ => o.keep k hk.2)) (fun _ _ => trivial)⟩
  rw [o.keep b (fun e => hb e.symm)]
  exact h2
theorem Fr.one {base b q : Nat} {O : Option Nat} {w w1 w2 : World} (h : Fr base b O w w1) (o : One q w1 w2) (hb : base ≤ w.heap.size) (hq : w.heap.size ≤ q) : Fr base b O w w2 :=
  ⟨h.below.trans (o.below base (Nat.le_trans hb hq)), fun k hk h1 h2 h3 => (o.keep k (by omega)).trans (h.keep k hk h1 h2 h3)⟩
set_option maxHeartbeats 8000000 in
set_option maxRecDepth 100000 in
theorem byteOfW (w : World) (base b : Nat) (s : ByteArray) (S : BS) (c : Nat) (h : BAt w base b s S) (hl : S.st.length ≤ 1000000) (hc : c < 256) :
    Calls Try.prog 62 #[.pointer (some ⟨b, 0, none⟩), .int .u8 (c : Int)] w fun r w' => PartAt w w' base b s (byteOf c S) r := by
  have hu100 := Try.underlying100
  have hu72 := Try.underlying72
  have hu98 := Try.underlying98
  have HS := Aside0.mk h
  clear h
  have HL := Aside0.mk hl
  go_enter Try.func62, Try.ntmps62
  go_wp2_with (first | ((with_reducible refine gate_dst (N := 4) rfl ?_); (try (refine gate_guard (by rfl) ?_; dsimp only)); refine box_event ?hg (N := 4) ?hd (cs := #[.int .i64 0, .slice none 0 0]) (t := 72) ?hr ?_; (case hd => rfl); (case hg => rfl); (case hr => first | (go_simp; done) | (go_simp; rfl)); intro p ep wp hp lp; have Ep := Aside0.mk ep; clear ep) | ((with_reducible refine gate_dst (N := 5) rfl ?_); (try (refine gate_guard (by rfl) ?_; dsimp only)); refine box_event ?hg (N := 5) ?hd (cs := sC 0) (t := 98) ?hr ?_; (case hd => rfl); (case hg => rfl); (case hr => first | (go_simp; done) | (go_simp; rfl)); intro q eq wq hq lq; have Eq := Aside0.mk eq; clear eq) | fail)
  refine (setAddW wq q 0 c c hq hc hc).mono ?_
  rintro e w3 ⟨rfl, hq3, hO3⟩
  rw [show c + 1 - c = 1 by omega] at hq3
  obtain ⟨m, hm⟩ : ∃ m, addR 0 c 1 = m := ⟨_, rfl⟩
  have eS : byteOf c S = single ⟨0, m, 0, 0⟩ S := by rw [byteOf, hm]
  rw [hm] at hq3
  obtain ⟨R, hR⟩ : ∃ R, single ⟨0, m, 0, 0⟩ S = R := ⟨_, rfl⟩
  rw [hR] at eS
  have HE := Aside0.mk eS
  have hlq := below_then lp lp.size lq
  have hwp : w.heap.size ≤ p := by have := Ep.out; omega
  have hpq : p < q := by have := blk_lt hp; have := Eq.out; omega
  have hpb : p ≠ b := by have := HS.out.lt; omega
  have hbs := HS.out.base_le
  have hB3 := (HS.out.below hlq).one hO3 hq (by decide) (by have := HS.out.lt; omega) (by omega)
  have hF3 := (Fr.of (b := b) (O := none) hbs hlq).one hO3 hbs (show w.heap.size ≤ q by omega)
  have hp3 := (hO3.keep p (by omega)).trans (blk_below hp lq)
  have z0 : w3.cell? ⟨q, 0, none⟩ = some (.int .u64 (wd m 0)) := (blk_cell hq3 0).trans rfl
  have z1 : w3.cell? ⟨q, 1, none⟩ = some (.int .u64 (wd m 1)) := (blk_cell hq3 1).trans rfl
  have z2 : w3.cell? ⟨q, 2, none⟩ = some (.int .u64 (wd m 2)) := (blk_cell hq3 2).trans rfl
  have z3 : w3.cell? ⟨q, 3, none⟩ = some (.int .u64 (wd m 3)) := (blk_cell hq3 3).trans rfl
  have ihS := singleW w3 base b s S ⟨0, m, 0, 0⟩ hB3 HL.out
  unfold stpV at ihS
  rw [hR] at ihS
  dsimp only at ihS
  obtain ⟨a1, ha1⟩ : ∃ a, wd m 0 = a := ⟨_, rfl⟩
  obtain ⟨a2, ha2⟩ : ∃ a, wd m 1 = a := ⟨_, rfl⟩
  obtain ⟨a3, ha3⟩ : ∃ a, wd m 2 = a := ⟨_, rfl⟩
  obtain ⟨a4, ha4⟩ : ∃ a, wd m 3 = a := ⟨_, rfl⟩
  rw [ha1] at ihS z0
  rw [ha2] at ihS z1
  rw [ha3] at ihS z2
  rw [ha4] at ihS z3
  have HW := Aside0.mk (⟨hwp, hpb, hbs⟩ : w.heap.size ≤ p ∧ p ≠ b ∧ base ≤ w.heap.size)
  have HF3 := Aside0.mk hF3
  have HP3 := Aside0.mk hp3
  clear ha1 ha2 ha3 ha4 hq3 hO3 hm eS hlq hwp hpq hpb hbs hB3 hF3 hp3 hq hp lp lq
  go_wp2_with (fail)
  refine ihS.mono ?_
  rintro e w4 ⟨v, rfl, hO4, hB4, hF4⟩
  obtain ⟨Av, cv, rfl⟩ := hO4.slice
  have hp := hF4.blk HP3.out HW.out.2.1 (by simp) (by decide)
  have y0 : w4.cell? ⟨p, 0, none⟩ = some (.int .i64 0) := (blk_cell hp 0).trans rfl
  have y1 : w4.cell? ⟨p, 1, none⟩ = some (.slice none 0 0) := (blk_cell hp 1).trans rfl
  have f0 := blk_frozen hp 0
  have f1 := blk_frozen hp 1
  clear ihS z0 z1 z2 z3
  go_wp2_with (fail)
  have hr := ret_part (S := R.2) HW.out.2.2 hp HW.out.1 HW.out.2.1 hB4 (HF3.out.trans hF4) R.1.1 (.slice Av R.1.2.length cv) R.1.2 (hO4.lower HF3.out.grow)
  (generalize World.setCell (World.setCell w4 ⟨p, 0, none⟩ (.int .i64 (R.1.1 : Int))) ⟨p, 1, none⟩ (.slice Av R.1.2.length cv) = w9 at *; have c0 : w9.cell? ⟨p, 0, none⟩ = some (.int .i64 (R.1.1 : Int)) := (blk_cell hr.1 0).trans rfl; have c1 : w9.cell? ⟨p, 1, none⟩ = some (.slice Av R.1.2.length cv) := (blk_cell hr.1 1).trans rfl; refine bodyPost_ret (by simp [results, Try.results62, go_sem, c0, c1, hu72]; try rfl) rfl ?_)
  rw [HE.out]
  exact hr.2
end Go.Proofs.Ytnjpdhekeffpnaa.Rx
