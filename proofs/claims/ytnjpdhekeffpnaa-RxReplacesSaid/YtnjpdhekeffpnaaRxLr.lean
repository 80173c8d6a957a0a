/- The law that holds Replace and Quote against the document, walked. -/
import Derived.Test.YtnjpdhekeffpnaaRxLa
import Derived.Test.YtnjpdhekeffpnaaRxSr
import Derived.Test.YtnjpdhekeffpnaaRxSc
import Derived.Deep.RegionHeld3
set_option linter.unusedVariables false
set_option linter.unusedSimpArgs false
namespace Go.Proofs.Ytnjpdhekeffpnaa.Rx
open Go.RowKit Go.Proofs.YtnjpdhekeffpnaaW.PrintWords Go.Proofs.YtnjpdhekeffpnaaW.PrintLast Go.Proofs.YtnjpdhekeffpnaaW.PrintMore

theorem six {w : World} {n u : Nat} {k : Int} {v1 v2 : Value} {b t : ByteArray} {all : Bool} (hn : w.heap[n]? = some (.cells #[.int .i64 k, v1, v2] TN (0, 0))) (hu : w.heap[u]? = some (.cells #[.string b, .string t, .bool all] 63 (0, 0))) :
    w.cell? ⟨n, 0, none⟩ = some (.int .i64 k) ∧ w.cell? ⟨n, 1, none⟩ = some v1 ∧ w.cell? ⟨n, 2, none⟩ = some v2 ∧ w.cell? ⟨u, 0, none⟩ = some (.string b) ∧ w.cell? ⟨u, 1, none⟩ = some (.string t) ∧ w.cell? ⟨u, 2, none⟩ = some (.bool all) :=
  ⟨(blk_cell hn 0).trans rfl, (blk_cell hn 1).trans rfl, (blk_cell hn 2).trans rfl, (blk_cell hu 0).trans rfl, (blk_cell hu 1).trans rfl, (blk_cell hu 2).trans rfl⟩
set_option maxHeartbeats 16000000 in
set_option maxRecDepth 1000000 in
theorem RxReplacesWalk (W : World) (a : ByteArray) (ha : a.size ≤ 140737488351232) (b t : ByteArray) (all : Bool) :
    Calls Try.prog 8 #[.string a, .agg #[.string b, .string t, .bool all]] W fun e W' => e = .returned (.bool true) ∧ Below W.heap.size W W' := by
  have hu26 := Try.underlying26
  have hu32 := Try.underlying32
  have hu63 := Try.underlying63
  go_enter Try.func8, Try.ntmps8
  go_wp2_with (first | (((with_reducible refine gate_dst (N := 3) rfl ?_); (try (refine gate_guard (by rfl) ?_; dsimp only)); refine box_event ?hg (N := 3) ?hd (cs := #[.string b, .string t, .bool all]) (t := 63) ?hr ?_; (case hd => rfl); (case hg => rfl); (case hr => first | (go_simp; done) | (go_simp; rfl)); intro u eu wu hu lu; have Eu := Aside0.mk eu; clear eu); have u_0 : wu.cell? ⟨u, 0, none⟩ = some (.string b) := (blk_cell hu 0).trans rfl; have u_1 : wu.cell? ⟨u, 1, none⟩ = some (.string t) := (blk_cell hu 1).trans rfl; have u_2 : wu.cell? ⟨u, 2, none⟩ = some (.bool all) := (blk_cell hu 2).trans rfl) | fail)
  have HU := Aside0.mk hu
  have HLU := Aside0.mk lu
  have HEU := Aside0.mk Eu.out
  clear hu lu
  refine (farW wu a b).mono ?_
  rintro e w0 ⟨rfl, h0⟩
  rw [h0]
  clear h0 w0
  by_cases hs : 300 < a.size ∨ 60 < b.size
  · rw [decide_eq_true hs]
    go_wp2_with (fail)
    refine (aliveW _).mono ?_
    rintro e w9 ⟨rfl, hl9⟩
    go_wp2_with (fail)
    go_ret
    exact ⟨rfl, below_then HLU.out HLU.out.size hl9⟩
  · rw [decide_eq_false hs]
    by_cases hst : 60 < t.size
    · have d1 : decide ((60 : Int) < (t.size : Int)) = true := decide_eq_true (by omega)
      clear hs hst
      go_wp2_with (fail)
      refine (aliveW _).mono ?_
      rintro e w9 ⟨rfl, hl9⟩
      go_wp2_with (fail)
      go_ret
      exact ⟨rfl, below_then HLU.out HLU.out.size hl9⟩
    have d1 : decide ((60 : Int) < (t.size : Int)) = false := decide_eq_false (by omega)
    have HS := Aside0.mk (show a.size ≤ 300 ∧ b.size ≤ 60 ∧ t.size ≤ 60 by omega)
    clear hs hst ha
    go_wp2_with (fail)
    refine (compile_any _ a (by have := HS.out; omega)).mono ?_
    rintro e w2 ⟨v, x, y, rfl, hv, hl2⟩
    go_wp2_with (first | (((with_reducible refine gate_dst (N := 6) rfl ?_); (try (refine gate_guard (by rfl) ?_; dsimp only)); refine box_event ?hg (N := 6) ?hd (cs := #[.int .i64 0, .int .i64 0]) (t := 26) ?hr ?_; (case hd => rfl); (case hg => rfl); (case hr => first | (go_simp; done) | (go_simp; rfl)); intro q eq wq hq lq; have Eq := Aside0.mk eq; clear eq); have vq0 : wq.cell? ⟨q, 0, none⟩ = some (.int .i64 0) := (blk_cell hq 0).trans rfl; have vq1 : wq.cell? ⟨q, 1, none⟩ = some (.int .i64 0) := (blk_cell hq 1).trans rfl; have fq0 := blk_frozen hq 0; have fq1 := blk_frozen hq 1; have Bq := boxed hq lq (by have := Eq.out; omega) x y; have uq0 := (blk_cell Bq.2 0).trans (show _ = some (Value.int .i64 x) from rfl); have uq1 := (blk_cell Bq.2 1).trans (show _ = some (Value.int .i64 y) from rfl)) | fail)
    have hl3 := below_then hl2 hl2.size Bq.1
    have hv := hv.below Bq.1
    have hkq := Bq.2
    obtain ⟨w3, hw3⟩ : ∃ w3, World.setCell (World.setCell wq ⟨q, 0, none⟩ (.int .i64 x)) ⟨q, 1, none⟩ (.int .i64 y) = w3 := ⟨_, rfl⟩
    rw [hw3] at hl3 hv hkq
    rw [hw3]
    clear hw3 Bq uq0 uq1 vq0 vq1 fq0 fq1 hq lq hl2
    have HV3 := Aside0.mk hv
    refine (compR w3 a (by have := HS.out; omega)).mono ?_
    rintro e w5 ⟨k, As, ns, cs, Al, nl, cl, rfl, hl5, hcn⟩
    have HCN := Aside0.mk hcn
    clear hcn
    have hv := hv.below hl5
    have hkq := blk_below hkq hl5
    have hl5 := below_then hl3 hl3.size hl5
    rw [← hv.num.1, ← hv.num.2]
    clear hl3
    cases hf : faultB a with
    | none =>
      have hr3 : ∃ r, v = .pointer (some ⟨r, 0, none⟩) ∧ r < w3.heap.size := by
        obtain ⟨r', h1, -, -, -, h2⟩ := HV3.out.non hf
        exact ⟨r', h1, blk_lt h2⟩
      obtain ⟨r, rfl, rfl, rfl, hrw, hkr⟩ := hv.non hf
      have hr4 : r < w3.heap.size := by
        obtain ⟨r', h1, h2⟩ := hr3
        injection h1 with h1; injection h1 with h1; injection h1 with h1
        rw [h1]; exact h2
      have HR4 := Aside0.mk hr4
      clear hr3 hr4
      obtain ⟨nd, hM, hRT⟩ := HCN.out hf
      have HM := Aside0.mk hM
      have HRT := Aside0.mk hRT
      have HF := Aside0.mk hf
      clear hM hRT hf HCN HV3
      go_wp2_with (first | ((with_reducible refine gate_dst (N := 7) rfl ?_); (try (refine gate_guard (by rfl) ?_; dsimp only)); refine box_event ?hg (N := 7) ?hd (cs := #[.int .i64 0, .slice none 0 0, .slice none 0 0]) (t := 32) ?hr ?_; (case hd => rfl); (case hg => rfl); (case hr => first | (go_simp; done) | (go_simp; rfl)); intro n en wn hn ln; have En := Aside0.mk en; clear en; have n0 : wn.cell? ⟨n, 0, none⟩ = some (.int .i64 0) := (blk_cell hn 0).trans rfl; have n1 : wn.cell? ⟨n, 1, none⟩ = some (.slice none 0 0) := (blk_cell hn 1).trans rfl; have n2 : wn.cell? ⟨n, 2, none⟩ = some (.slice none 0 0) := (blk_cell hn 2).trans rfl; have fn0 := blk_frozen hn 0; have fn1 := blk_frozen hn 1; have fn2 := blk_frozen hn 2) | (((with_reducible refine gate_dst (N := 8) rfl ?_); (try (refine gate_guard (by rfl) ?_; dsimp only)); refine box_event ?hg (N := 8) ?hd (cs := #[.int .i64 0, .int .i64 0]) (t := 26) ?hr ?_; (case hd => rfl); (case hg => rfl); (case hr => first | (go_simp; done) | (go_simp; rfl)); intro g eg wg hg lg; have Eg := Aside0.mk eg; clear eg); have hng : n ≠ g := (by have := Eg.out; have := blk_lt hn; omega); have hgn : g ≠ n := (fun e => hng e.symm); have hn2 := blk_below hn lg; have n0 := (blk_cell hn2 0).trans (show _ = some (Value.int .i64 0) from rfl); have n1 := (blk_cell hn2 1).trans (show _ = some (Value.slice none 0 0) from rfl); have n2 := (blk_cell hn2 2).trans (show _ = some (Value.slice none 0 0) from rfl); have fn0 := blk_frozen hn2 0; have fn1 := blk_frozen hn2 1; have fn2 := blk_frozen hn2 2; have y0 := (blk_cell hg 0).trans (show _ = some (Value.int .i64 0) from rfl); have y1 := (blk_cell hg 1).trans (show _ = some (Value.int .i64 0) from rfl); have fy0 := blk_frozen hg 0; have fy1 := blk_frozen hg 1; have hBn := below_then ln ln.size lg; have hnw : w5.heap.size ≤ n := (by have := En.out; omega); have hgw : w5.heap.size ≤ g := (by have := Eg.out; have := ln.size; omega); have hr := comp_ret (w := w5) (base := wg.heap.size) hn2 hg hng hnw hgw (blk_lt hn2) (blk_lt hg) hBn hBn.size k (.slice As ns cs) (.slice Al nl cl) 0 0; obtain ⟨w9, hw9⟩ : ∃ w9, ((((wg.setCell ⟨n, 0, none⟩ (.int .i64 k)).setCell ⟨n, 1, none⟩ (.slice As ns cs)).setCell ⟨n, 2, none⟩ (.slice Al nl cl)).setCell ⟨g, 0, none⟩ (.int .i64 0)).setCell ⟨g, 1, none⟩ (.int .i64 0) = w9 := ⟨_, rfl⟩; obtain ⟨c0, c1, c2, c3, c4, hBel, hMM⟩ := hr w9 hw9; have k0 := (blk_cell (blk_below hkq hBel) 0).trans (show _ = some (Value.int .i64 0) from rfl); have k1 := (blk_cell (blk_below hkq hBel) 1).trans (show _ = some (Value.int .i64 0) from rfl); clear hr) | fail)
      have HN9 := Aside0.mk (comp_blk hn2 hng k (.slice As ns cs) (.slice Al nl cl) 0 0 w9 hw9)
      have HM9 := Aside0.mk (Kd.M_below HM.out hBel)
      have HK9 := Aside0.mk (blk_below hkr hBel)
      have hl9 := below_then hl5 hl5.size hBel
      have HNR := Aside0.mk (show n ≠ r by have := blk_lt hkr; omega)
      have HRW := Aside0.mk hrw
      clear k0 k1 c0 c1 c2 c3 c4 hMM hw9 hkr hkq hrw hBel hBn hn hg hn2 hng hgn hnw hgw n0 n1 n2 fn0 fn1 fn2 y0 y1 fy0 fy1 lg ln
      have hqs := (fault_none a HF.out).1
      have hb1 : b.size ≤ 1000 := by have := HS.out; omega
      have ht1 : t.size ≤ 1000 := by have := HS.out; omega
      obtain ⟨R, hR⟩ : ∃ R, replP b t all (stepsB a) (firstB a) = R := ⟨_, rfl⟩
      have HL9 := Aside0.mk hl9
      have HU9 := Aside0.mk (blk_below HU.out hl9)
      have HUR := Aside0.mk (show u ≠ r by have := blk_lt HU.out; have := HRW.out; omega)
      have hI := fun (w : World) (h : RgX w r a) => replaceW w r a b t all hqs hb1 ht1 h
      have hJ := fun (w : World) (h : knd.M w w3.heap.size (fun _ => True) nd [.int .i64 k, .slice As ns cs, .slice Al nl cl]) => refReplaceW w a b t all nd k As ns cs Al nl cl (knd.M_lower (Nat.zero_le _) h) HF.out HRT.out hb1 ht1
      have hQ := fun (w : World) => quoteW w b (by omega)
      have hQ2 := fun (w : World) => refQuoteW w b (by omega)
      rw [hR] at hI hJ
      obtain ⟨rb, hrb⟩ : ∃ rb : ByteArray, ⟨R.toArray⟩ = rb := ⟨_, rfl⟩
      obtain ⟨qb, hqb⟩ : ∃ qb : ByteArray, ⟨(quoteL b.data.toList).toArray⟩ = qb := ⟨_, rfl⟩
      rw [hrb] at hI hJ
      rw [hqb] at hQ hQ2
      clear hR hrb hqb hl9
      (have p_0 : w9.drew.cell? ⟨n, 0, none⟩ = some (.int .i64 (k)) := (blk_cell HN9.out 0).trans rfl; have p_1 : w9.drew.cell? ⟨n, 1, none⟩ = some (.slice As ns cs) := (blk_cell HN9.out 1).trans rfl; have p_2 : w9.drew.cell? ⟨n, 2, none⟩ = some (.slice Al nl cl) := (blk_cell HN9.out 2).trans rfl)
      have p_3 : w9.drew.cell? ⟨u, 0, none⟩ = some (.string b) := (blk_cell HU9.out 0).trans rfl
      have p_4 : w9.drew.cell? ⟨u, 1, none⟩ = some (.string t) := (blk_cell HU9.out 1).trans rfl
      have p_5 : w9.drew.cell? ⟨u, 2, none⟩ = some (.bool all) := (blk_cell HU9.out 2).trans rfl
      go_region_held3 (fun w' => w'.cell? ⟨n, 0, none⟩ = some (.int .i64 k) ∧ w'.cell? ⟨n, 1, none⟩ = some (.slice As ns cs) ∧ w'.cell? ⟨n, 2, none⟩ = some (.slice Al nl cl) ∧ w'.cell? ⟨u, 0, none⟩ = some (.string b) ∧ w'.cell? ⟨u, 1, none⟩ = some (.string t) ∧ w'.cell? ⟨u, 2, none⟩ = some (.bool all)) (first | exact ⟨p_0, p_1, p_2, p_3, p_4, p_5⟩ | exact hS1 | exact hS2 | exact hS3 | exact hS4 | exact hS5)
        (first
        | (go_at_call 19; (with_reducible refine (hI _ ?hA).mono ?_); (case hA => exact RgX.below (.inl HK9.out) (below_drew (Below.refl _ _))); rintro e12 w12 ⟨rfl, hX12, hK12⟩; have hN12 := Mk.at hK12 (show w9.drew.heap[n]? = _ from HN9.out) HNR.out; have hU12 := Mk.at hK12 (show w9.drew.heap[u]? = _ from HU9.out) HUR.out; have hS1 := six hN12 hU12; have hM11 := Kd.M_below HM9.out (below_drew (Below.refl _ _)); have ihJ := hJ w12 (knd_mk0 hM11 hK12 HR4.out); have hd := below_drew HL9.out; have hl12 := hd.trans (hK12.below wu.heap.size HRW.out hd.size); clear hd hM11)
        | (go_at_call 20; (with_reducible refine ihJ.mono ?_); rintro e13 w13 ⟨rfl, hl13⟩; have hN13 := blk_below hN12 hl13; have hU13 := blk_below hU12 hl13; have hS2 := six hN13 hU13)
        | (go_at_call 21; (with_reducible refine (hQ _).mono ?_); rintro e14 w14 ⟨rfl, hl14⟩; have hN14 := blk_below hN13 hl14; have hU14 := blk_below hU13 hl14; have hS3 := six hN14 hU14)
        | (go_at_call 22; (with_reducible refine (hQ2 _).mono ?_); rintro e15 w15 ⟨rfl, hl15⟩; have hN15 := blk_below hN14 hl15; have hU15 := blk_below hU14 hl15; have hS4 := six hN15 hU15; have hA := aliveW w15)
        | (go_at_call 10; (with_reducible refine hA.mono ?_); rintro e20 w20 ⟨rfl, hl20⟩; have hN20 := blk_below hN15 hl20; have hU20 := blk_below hU15 hl20; have hS5 := six hN20 hU20))
      all_goals
        (try go_wp2_with (fail))
        go_ret
        have hl23 := below_then hl12 hl12.size hl13
        have hl24 := below_then hl23 hl23.size hl14
        have hl25 := below_then hl24 hl24.size hl15
        have hl26 := below_then hl25 hl25.size hl20
        exact ⟨rfl, below_then HLU.out HLU.out.size hl26⟩
    | some F =>
      have e0 := hv.ne hf
      obtain ⟨rfl, -, -⟩ := hv.som hf
      clear HCN HV3
      go_wp2_with (first | ((with_reducible refine gate_dst (N := 7) rfl ?_); (try (refine gate_guard (by rfl) ?_; dsimp only)); refine box_event ?hg (N := 7) ?hd (cs := #[.int .i64 0, .slice none 0 0, .slice none 0 0]) (t := 32) ?hr ?_; (case hd => rfl); (case hg => rfl); (case hr => first | (go_simp; done) | (go_simp; rfl)); intro n en wn hn ln; have En := Aside0.mk en; clear en; have n0 : wn.cell? ⟨n, 0, none⟩ = some (.int .i64 0) := (blk_cell hn 0).trans rfl; have n1 : wn.cell? ⟨n, 1, none⟩ = some (.slice none 0 0) := (blk_cell hn 1).trans rfl; have n2 : wn.cell? ⟨n, 2, none⟩ = some (.slice none 0 0) := (blk_cell hn 2).trans rfl; have fn0 := blk_frozen hn 0; have fn1 := blk_frozen hn 1; have fn2 := blk_frozen hn 2) | ((((with_reducible refine gate_dst (N := 8) rfl ?_); (try (refine gate_guard (by rfl) ?_; dsimp only)); refine box_event ?hg (N := 8) ?hd (cs := #[.int .i64 0, .int .i64 0]) (t := 26) ?hr ?_; (case hd => rfl); (case hg => rfl); (case hr => first | (go_simp; done) | (go_simp; rfl)); intro g eg wg hg lg; have Eg := Aside0.mk eg; clear eg); have hng : n ≠ g := (by have := Eg.out; have := blk_lt hn; omega); have hgn : g ≠ n := (fun e => hng e.symm); have hn2 := blk_below hn lg; have n0 := (blk_cell hn2 0).trans (show _ = some (Value.int .i64 0) from rfl); have n1 := (blk_cell hn2 1).trans (show _ = some (Value.slice none 0 0) from rfl); have n2 := (blk_cell hn2 2).trans (show _ = some (Value.slice none 0 0) from rfl); have fn0 := blk_frozen hn2 0; have fn1 := blk_frozen hn2 1; have fn2 := blk_frozen hn2 2; have y0 := (blk_cell hg 0).trans (show _ = some (Value.int .i64 0) from rfl); have y1 := (blk_cell hg 1).trans (show _ = some (Value.int .i64 0) from rfl); have fy0 := blk_frozen hg 0; have fy1 := blk_frozen hg 1; have hBn := below_then ln ln.size lg; have hnw : w5.heap.size ≤ n := (by have := En.out; omega); have hgw : w5.heap.size ≤ g := (by have := Eg.out; have := ln.size; omega); have hr := comp_ret (w := w5) (base := wg.heap.size) hn2 hg hng hnw hgw (blk_lt hn2) (blk_lt hg) hBn hBn.size k (.slice As ns cs) (.slice Al nl cl) x y; obtain ⟨w9, hw9⟩ : ∃ w9, ((((wg.setCell ⟨n, 0, none⟩ (.int .i64 k)).setCell ⟨n, 1, none⟩ (.slice As ns cs)).setCell ⟨n, 2, none⟩ (.slice Al nl cl)).setCell ⟨g, 0, none⟩ (.int .i64 x)).setCell ⟨g, 1, none⟩ (.int .i64 y) = w9 := ⟨_, rfl⟩; obtain ⟨c0, c1, c2, c3, c4, hBel, hMM⟩ := hr w9 hw9; have k0 := (blk_cell (blk_below hkq hBel) 0).trans (show _ = some (Value.int .i64 x) from rfl); have k1 := (blk_cell (blk_below hkq hBel) 1).trans (show _ = some (Value.int .i64 y) from rfl); clear hr); have hA := aliveW w9; have hl9 := below_then hl5 hl5.size hBel) | (go_at_call 10; refine hA.mono ?_; rintro e w20 ⟨rfl, hl20⟩) | fail)
      go_ret
      have hl26 := below_then hl9 hl9.size hl20
      exact ⟨rfl, below_then HLU.out HLU.out.size hl26⟩
end Go.Proofs.Ytnjpdhekeffpnaa.Rx
