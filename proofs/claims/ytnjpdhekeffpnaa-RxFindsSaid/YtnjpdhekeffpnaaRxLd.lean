/- The law that holds Find and Is against the document, walked. -/
import Derived.Test.YtnjpdhekeffpnaaRxLc
import Derived.Test.YtnjpdhekeffpnaaRxSc
import Derived.Deep.RegionHeld3
set_option linter.unusedVariables false
set_option linter.unusedSimpArgs false
namespace Go.Proofs.Ytnjpdhekeffpnaa.Rx
open Go.RowKit Go.Proofs.YtnjpdhekeffpnaaW.PrintWords Go.Proofs.YtnjpdhekeffpnaaW.PrintLast Go.Proofs.YtnjpdhekeffpnaaW.PrintMore

theorem comp_blk {w6 : World} {p f : Nat} {y0 y1 y2 : Value} (hp : w6.heap[p]? = some (.cells #[y0, y1, y2] TN (0, 0))) (hpf : p ≠ f) (k : Int) (vs vk : Value) (a c : Int) :
    ∀ w9, ((((w6.setCell ⟨p, 0, none⟩ (.int .i64 k)).setCell ⟨p, 1, none⟩ vs).setCell ⟨p, 2, none⟩ vk).setCell ⟨f, 0, none⟩ (.int .i64 a)).setCell ⟨f, 1, none⟩ (.int .i64 c) = w9 →
      w9.heap[p]? = some (.cells #[.int .i64 k, vs, vk] TN (0, 0)) := by
  rintro w9 rfl
  have h3 := set3 hp (.int .i64 k) vs vk
  exact (Below.heap_setCell _ ⟨f, 1, none⟩ (.int .i64 c) p hpf).trans ((Below.heap_setCell _ ⟨f, 0, none⟩ (.int .i64 a) p hpf).trans h3)
theorem knd_mk0 {b base : Nat} {w w' : World} {nd : Nd} {cs : List Value} (h : knd.M w base (fun _ => True) nd cs) (k : Mk b w w') (hb : b < base) : knd.M w' base (fun _ => True) nd cs :=
  knd.M_mono (fun _ _ => trivial) (Kd.M_step (knd.M_bound h) (fun q hq hs => k.keep q hs (by have := hq.2.1; omega)))
set_option maxHeartbeats 16000000 in
set_option maxRecDepth 1000000 in
theorem RxFindsWalk (W : World) (a : ByteArray) (ha : a.size ≤ 140737488351232) (b : ByteArray) (hb : b.size ≤ 140737488351232) (z : Int) (hz : (Lit.int .i64 z).wf = true) :
    Calls Try.prog 4 #[.string a, .string b, .int .i64 z] W fun e W' => e = .returned (.bool true) ∧ Below W.heap.size W W' := by
  have hu26 := Try.underlying26
  have hu32 := Try.underlying32
  clear hz
  go_enter Try.func4, Try.ntmps4
  go_wp2_with (fail)
  refine (farW W a b).mono ?_
  rintro e w0 ⟨rfl, rfl⟩
  by_cases hs : 300 < a.size ∨ 60 < b.size
  · rw [decide_eq_true hs]
    go_wp2_with (fail)
    refine (aliveW _).mono ?_
    rintro e w9 ⟨rfl, hl9⟩
    go_wp2_with (fail)
    go_ret
    exact ⟨rfl, hl9⟩
  · rw [decide_eq_false hs]
    have HS := Aside0.mk (show a.size ≤ 300 ∧ b.size ≤ 60 by omega)
    clear hs ha hb
    go_wp2_with (fail)
    refine (compile_any _ a (by have := HS.out; omega)).mono ?_
    rintro e w2 ⟨v, x, y, rfl, hv, hl2⟩
    go_wp2_with (first | (((with_reducible refine gate_dst (N := 8) rfl ?_); (try (refine gate_guard (by rfl) ?_; dsimp only)); refine box_event ?hg (N := 8) ?hd (cs := #[.int .i64 0, .int .i64 0]) (t := 26) ?hr ?_; (case hd => rfl); (case hg => rfl); (case hr => first | (go_simp; done) | (go_simp; rfl)); intro q eq wq hq lq; have Eq := Aside0.mk eq; clear eq); have vq0 : wq.cell? ⟨q, 0, none⟩ = some (.int .i64 0) := (blk_cell hq 0).trans rfl; have vq1 : wq.cell? ⟨q, 1, none⟩ = some (.int .i64 0) := (blk_cell hq 1).trans rfl; have fq0 := blk_frozen hq 0; have fq1 := blk_frozen hq 1; have Bq := boxed hq lq (by have := Eq.out; omega) x y; have uq0 := (blk_cell Bq.2 0).trans (show _ = some (Value.int .i64 x) from rfl); have uq1 := (blk_cell Bq.2 1).trans (show _ = some (Value.int .i64 y) from rfl)) | fail)
    have hl3 := below_then hl2 hl2.size Bq.1
    have hv := hv.below Bq.1
    have hkq := Bq.2
    obtain ⟨w3, hw3⟩ : ∃ w3, World.setCell (World.setCell wq ⟨q, 0, none⟩ (.int .i64 x)) ⟨q, 1, none⟩ (.int .i64 y) = w3 := ⟨_, rfl⟩
    rw [hw3] at hl3 hv hkq
    rw [hw3]
    clear hw3 Bq uq0 uq1 vq0 vq1 fq0 fq1 hq lq hl2
    have HV3 := Aside0.mk hv
    refine (compR w3 a (by have := HS.out; omega)).mono ?_
    rintro e w5 ⟨k, As, ns, cs, Al, nl, cl, rfl, hl5, hcn⟩
    have HCN := Aside0.mk hcn
    clear hcn
    have hv := hv.below hl5
    have hkq := blk_below hkq hl5
    have hl5 := below_then hl3 hl3.size hl5
    rw [← hv.num.1, ← hv.num.2]
    clear hl3
    cases hf : faultB a with
    | none =>
      have hr3 : ∃ r, v = .pointer (some ⟨r, 0, none⟩) ∧ r < w3.heap.size := by
        obtain ⟨r', h1, -, -, -, h2⟩ := HV3.out.non hf
        exact ⟨r', h1, blk_lt h2⟩
      obtain ⟨r, rfl, rfl, rfl, hrw, hkr⟩ := hv.non hf
      have hr4 : r < w3.heap.size := by
        obtain ⟨r', h1, h2⟩ := hr3
        injection h1 with h1; injection h1 with h1; injection h1 with h1
        rw [h1]; exact h2
      have HR4 := Aside0.mk hr4
      clear hr3 hr4
      obtain ⟨nd, hM, hRT⟩ := HCN.out hf
      have HM := Aside0.mk hM
      have HRT := Aside0.mk hRT
      have HF := Aside0.mk hf
      clear hM hRT hf HCN HV3
      go_wp2_with (first | ((with_reducible refine gate_dst (N := 9) rfl ?_); (try (refine gate_guard (by rfl) ?_; dsimp only)); refine box_event ?hg (N := 9) ?hd (cs := #[.int .i64 0, .slice none 0 0, .slice none 0 0]) (t := 32) ?hr ?_; (case hd => rfl); (case hg => rfl); (case hr => first | (go_simp; done) | (go_simp; rfl)); intro n en wn hn ln; have En := Aside0.mk en; clear en; have n0 : wn.cell? ⟨n, 0, none⟩ = some (.int .i64 0) := (blk_cell hn 0).trans rfl; have n1 : wn.cell? ⟨n, 1, none⟩ = some (.slice none 0 0) := (blk_cell hn 1).trans rfl; have n2 : wn.cell? ⟨n, 2, none⟩ = some (.slice none 0 0) := (blk_cell hn 2).trans rfl; have fn0 := blk_frozen hn 0; have fn1 := blk_frozen hn 1; have fn2 := blk_frozen hn 2) | (((with_reducible refine gate_dst (N := 10) rfl ?_); (try (refine gate_guard (by rfl) ?_; dsimp only)); refine box_event ?hg (N := 10) ?hd (cs := #[.int .i64 0, .int .i64 0]) (t := 26) ?hr ?_; (case hd => rfl); (case hg => rfl); (case hr => first | (go_simp; done) | (go_simp; rfl)); intro g eg wg hg lg; have Eg := Aside0.mk eg; clear eg); have hng : n ≠ g := (by have := Eg.out; have := blk_lt hn; omega); have hgn : g ≠ n := (fun e => hng e.symm); have hn2 := blk_below hn lg; have n0 := (blk_cell hn2 0).trans (show _ = some (Value.int .i64 0) from rfl); have n1 := (blk_cell hn2 1).trans (show _ = some (Value.slice none 0 0) from rfl); have n2 := (blk_cell hn2 2).trans (show _ = some (Value.slice none 0 0) from rfl); have fn0 := blk_frozen hn2 0; have fn1 := blk_frozen hn2 1; have fn2 := blk_frozen hn2 2; have y0 := (blk_cell hg 0).trans (show _ = some (Value.int .i64 0) from rfl); have y1 := (blk_cell hg 1).trans (show _ = some (Value.int .i64 0) from rfl); have fy0 := blk_frozen hg 0; have fy1 := blk_frozen hg 1; have hBn := below_then ln ln.size lg; have hnw : w5.heap.size ≤ n := (by have := En.out; omega); have hgw : w5.heap.size ≤ g := (by have := Eg.out; have := ln.size; omega); have hr := comp_ret (w := w5) (base := wg.heap.size) hn2 hg hng hnw hgw (blk_lt hn2) (blk_lt hg) hBn hBn.size k (.slice As ns cs) (.slice Al nl cl) 0 0; obtain ⟨w9, hw9⟩ : ∃ w9, ((((wg.setCell ⟨n, 0, none⟩ (.int .i64 k)).setCell ⟨n, 1, none⟩ (.slice As ns cs)).setCell ⟨n, 2, none⟩ (.slice Al nl cl)).setCell ⟨g, 0, none⟩ (.int .i64 0)).setCell ⟨g, 1, none⟩ (.int .i64 0) = w9 := ⟨_, rfl⟩; obtain ⟨c0, c1, c2, c3, c4, hBel, hMM⟩ := hr w9 hw9; have k0 := (blk_cell (blk_below hkq hBel) 0).trans (show _ = some (Value.int .i64 0) from rfl); have k1 := (blk_cell (blk_below hkq hBel) 1).trans (show _ = some (Value.int .i64 0) from rfl); clear hr) | fail)
      have HN9 := Aside0.mk (comp_blk hn2 hng k (.slice As ns cs) (.slice Al nl cl) 0 0 w9 hw9)
      have HM9 := Aside0.mk (Kd.M_below HM.out hBel)
      have HK9 := Aside0.mk (blk_below hkr hBel)
      have hl9 := below_then hl5 hl5.size hBel
      have HNR := Aside0.mk (show n ≠ r by have := blk_lt hkr; omega)
      have HRW := Aside0.mk hrw
      clear k0 k1 c0 c1 c2 c3 c4 hMM hw9 hkr hkq hrw hBel hBn hn hg hn2 hng hgn hnw hgw n0 n1 n2 fn0 fn1 fn2 y0 y1 fy0 fy1 lg ln
      have hqs := (fault_none a HF.out).1
      have hbs : b.size ≤ 100000 := by have := HS.out; omega
      obtain ⟨R, hR⟩ : ∃ R, findP b (stepsB a) (firstB a) z = R := ⟨_, rfl⟩
      have hF := findW w9 r a b z hqs (by omega) (.inl HK9.out)
      rw [hR, findV_eq] at hF
      refine hF.mono ?_
      rintro e w10 ⟨rfl, hX10, hK10⟩
      have HN10 := Mk.at hK10 HN9.out HNR.out
      have hM10 := knd_mk0 HM9.out hK10 HR4.out
      have hl10 := hl9.trans (hK10.below w0.heap.size HRW.out hl9.size)
      have hG := refFindW w10 a b z nd k As ns cs Al nl cl (knd.M_lower (Nat.zero_le _) hM10) HF.out HRT.out hbs
      rw [hR, findV_eq] at hG
      (have p_0 : w10.cell? ⟨n, 0, none⟩ = some (.int .i64 (k)) := (blk_cell HN10 0).trans rfl; have p_1 : w10.cell? ⟨n, 1, none⟩ = some (.slice As ns cs) := (blk_cell HN10 1).trans rfl; have p_2 : w10.cell? ⟨n, 2, none⟩ = some (.slice Al nl cl) := (blk_cell HN10 2).trans rfl)
      have HL10 := Aside0.mk hl10
      have HX10 := Aside0.mk hX10
      have HM10 := Aside0.mk hM10
      have HNN := Aside0.mk HN10
      clear hF hR HN9 HM9 HK9 hl9 HN10 hM10 hl10 hX10 hK10
      go_wp2_with (fail)
      refine hG.mono ?_
      rintro e w11 ⟨rfl, hl11⟩
      have hX11 := RgX.below HX10.out hl11
      have hN11 := blk_below HNN.out hl11
      have HM11 := Aside0.mk (Kd.M_below HM10.out hl11)
      have HL11 := Aside0.mk (below_then HL10.out HL10.out.size hl11)
      have HX11 := Aside0.mk hX11
      have hI := fun (w : World) (h : RgX w r a) => isW w r a b hqs (by omega) h
      have hJ := fun (w : World) (h : knd.M w w3.heap.size (fun _ => True) nd [.int .i64 k, .slice As ns cs, .slice Al nl cl]) => refIsW w a b nd k As ns cs Al nl cl (knd.M_lower (Nat.zero_le _) h) HF.out HRT.out hbs
      have HN11 := Aside0.mk hN11
      (have p_0 : w11.cell? ⟨n, 0, none⟩ = some (.int .i64 (k)) := (blk_cell hN11 0).trans rfl; have p_1 : w11.cell? ⟨n, 1, none⟩ = some (.slice As ns cs) := (blk_cell hN11 1).trans rfl; have p_2 : w11.cell? ⟨n, 2, none⟩ = some (.slice Al nl cl) := (blk_cell hN11 2).trans rfl)
      clear hG HNN HM10 hX11 p_0 p_1 p_2 hl11 hN11
      (have p_0 : w11.cell? ⟨n, 0, none⟩ = some (.int .i64 (k)) := (blk_cell HN11.out 0).trans rfl; have p_1 : w11.cell? ⟨n, 1, none⟩ = some (.slice As ns cs) := (blk_cell HN11.out 1).trans rfl; have p_2 : w11.cell? ⟨n, 2, none⟩ = some (.slice Al nl cl) := (blk_cell HN11.out 2).trans rfl)
      go_wp2_with (fail)
      have d_0 : w11.drew.cell? ⟨n, 0, none⟩ = some (.int .i64 k) := p_0
      have d_1 : w11.drew.cell? ⟨n, 1, none⟩ = some (.slice As ns cs) := p_1
      have d_2 : w11.drew.cell? ⟨n, 2, none⟩ = some (.slice Al nl cl) := p_2
      go_region_held3 (fun w' => w'.cell? ⟨n, 0, none⟩ = some (.int .i64 k) ∧ w'.cell? ⟨n, 1, none⟩ = some (.slice As ns cs) ∧ w'.cell? ⟨n, 2, none⟩ = some (.slice Al nl cl)) (first | exact ⟨d_0, d_1, d_2⟩ | exact ⟨q_0, q_1, q_2⟩ | exact ⟨r_0, r_1, r_2⟩ | exact ⟨s_0, s_1, s_2⟩)
        (first
        | (go_at_call 17; (with_reducible refine (hI _ ?hA).mono ?_); (case hA => exact RgX.below HX11.out (below_drew (Below.refl _ _))); rintro e12 w12 ⟨rfl, hX12, hK12⟩; have hN12 := Mk.at hK12 (show w11.drew.heap[n]? = _ from HN11.out) HNR.out; (have q_0 : w12.cell? ⟨n, 0, none⟩ = some (.int .i64 (k)) := (blk_cell hN12 0).trans rfl; have q_1 : w12.cell? ⟨n, 1, none⟩ = some (.slice As ns cs) := (blk_cell hN12 1).trans rfl; have q_2 : w12.cell? ⟨n, 2, none⟩ = some (.slice Al nl cl) := (blk_cell hN12 2).trans rfl); have hM11 := Kd.M_below HM11.out (below_drew (Below.refl _ _)); have ihJ := hJ w12 (knd_mk0 hM11 hK12 HR4.out); have hd := below_drew HL11.out; have hl12 := hd.trans (hK12.below w0.heap.size HRW.out hd.size); clear hd hM11)
        | (go_at_call 18; (with_reducible refine ihJ.mono ?_); rintro e13 w13 ⟨rfl, hl13⟩; have hN13 := blk_below hN12 hl13; (have r_0 : w13.cell? ⟨n, 0, none⟩ = some (.int .i64 (k)) := (blk_cell hN13 0).trans rfl; have r_1 : w13.cell? ⟨n, 1, none⟩ = some (.slice As ns cs) := (blk_cell hN13 1).trans rfl; have r_2 : w13.cell? ⟨n, 2, none⟩ = some (.slice Al nl cl) := (blk_cell hN13 2).trans rfl); have hA := aliveW w13)
        | (go_at_call 10; (with_reducible refine hA.mono ?_); rintro e20 w20 ⟨rfl, hl20⟩; have hN20 := blk_below hN13 hl20; (have s_0 : w20.cell? ⟨n, 0, none⟩ = some (.int .i64 (k)) := (blk_cell hN20 0).trans rfl; have s_1 : w20.cell? ⟨n, 1, none⟩ = some (.slice As ns cs) := (blk_cell hN20 1).trans rfl; have s_2 : w20.cell? ⟨n, 2, none⟩ = some (.slice Al nl cl) := (blk_cell hN20 2).trans rfl)))
      all_goals
        (try go_wp2_with (fail))
        go_ret
        have hl14 := below_then hl12 hl12.size hl13
        exact ⟨rfl, below_then hl14 hl14.size hl20⟩
    | some F =>
      have e0 := hv.ne hf
      obtain ⟨rfl, -, -⟩ := hv.som hf
      clear HCN HV3
      go_wp2_with (first | ((with_reducible refine gate_dst (N := 9) rfl ?_); (try (refine gate_guard (by rfl) ?_; dsimp only)); refine box_event ?hg (N := 9) ?hd (cs := #[.int .i64 0, .slice none 0 0, .slice none 0 0]) (t := 32) ?hr ?_; (case hd => rfl); (case hg => rfl); (case hr => first | (go_simp; done) | (go_simp; rfl)); intro n en wn hn ln; have En := Aside0.mk en; clear en; have n0 : wn.cell? ⟨n, 0, none⟩ = some (.int .i64 0) := (blk_cell hn 0).trans rfl; have n1 : wn.cell? ⟨n, 1, none⟩ = some (.slice none 0 0) := (blk_cell hn 1).trans rfl; have n2 : wn.cell? ⟨n, 2, none⟩ = some (.slice none 0 0) := (blk_cell hn 2).trans rfl; have fn0 := blk_frozen hn 0; have fn1 := blk_frozen hn 1; have fn2 := blk_frozen hn 2) | ((((with_reducible refine gate_dst (N := 10) rfl ?_); (try (refine gate_guard (by rfl) ?_; dsimp only)); refine box_event ?hg (N := 10) ?hd (cs := #[.int .i64 0, .int .i64 0]) (t := 26) ?hr ?_; (case hd => rfl); (case hg => rfl); (case hr => first | (go_simp; done) | (go_simp; rfl)); intro g eg wg hg lg; have Eg := Aside0.mk eg; clear eg); have hng : n ≠ g := (by have := Eg.out; have := blk_lt hn; omega); have hgn : g ≠ n := (fun e => hng e.symm); have hn2 := blk_below hn lg; have n0 := (blk_cell hn2 0).trans (show _ = some (Value.int .i64 0) from rfl); have n1 := (blk_cell hn2 1).trans (show _ = some (Value.slice none 0 0) from rfl); have n2 := (blk_cell hn2 2).trans (show _ = some (Value.slice none 0 0) from rfl); have fn0 := blk_frozen hn2 0; have fn1 := blk_frozen hn2 1; have fn2 := blk_frozen hn2 2; have y0 := (blk_cell hg 0).trans (show _ = some (Value.int .i64 0) from rfl); have y1 := (blk_cell hg 1).trans (show _ = some (Value.int .i64 0) from rfl); have fy0 := blk_frozen hg 0; have fy1 := blk_frozen hg 1; have hBn := below_then ln ln.size lg; have hnw : w5.heap.size ≤ n := (by have := En.out; omega); have hgw : w5.heap.size ≤ g := (by have := Eg.out; have := ln.size; omega); have hr := comp_ret (w := w5) (base := wg.heap.size) hn2 hg hng hnw hgw (blk_lt hn2) (blk_lt hg) hBn hBn.size k (.slice As ns cs) (.slice Al nl cl) x y; obtain ⟨w9, hw9⟩ : ∃ w9, ((((wg.setCell ⟨n, 0, none⟩ (.int .i64 k)).setCell ⟨n, 1, none⟩ (.slice As ns cs)).setCell ⟨n, 2, none⟩ (.slice Al nl cl)).setCell ⟨g, 0, none⟩ (.int .i64 x)).setCell ⟨g, 1, none⟩ (.int .i64 y) = w9 := ⟨_, rfl⟩; obtain ⟨c0, c1, c2, c3, c4, hBel, hMM⟩ := hr w9 hw9; have k0 := (blk_cell (blk_below hkq hBel) 0).trans (show _ = some (Value.int .i64 x) from rfl); have k1 := (blk_cell (blk_below hkq hBel) 1).trans (show _ = some (Value.int .i64 y) from rfl); clear hr); have hA := aliveW w9; have hl9 := below_then hl5 hl5.size hBel) | (go_at_call 10; refine hA.mono ?_; rintro e w20 ⟨rfl, hl20⟩) | fail)
      go_ret
      exact ⟨rfl, below_then hl9 hl9.size hl20⟩
end Go.Proofs.Ytnjpdhekeffpnaa.Rx
