/- The law on ways, walked. -/
import Derived.Test.YtnjpdhekeffpnaaRxEl
import Derived.Test.YtnjpdhekeffpnaaRxLf
set_option linter.unusedVariables false
set_option linter.unusedSimpArgs false
namespace Go.Proofs.Ytnjpdhekeffpnaa.Rx
open Go.RowKit Go.Proofs.YtnjpdhekeffpnaaW.PrintWords Go.Proofs.YtnjpdhekeffpnaaW.PrintLast Go.Proofs.YtnjpdhekeffpnaaW.PrintMore

theorem boxed {w wp : World} {p : Nat} (hp : wp.heap[p]? = some (.cells #[.int .i64 0, .int .i64 0] 26 (0, 0))) (lp : Below w.heap.size w wp) (hw : w.heap.size ≤ p) (x y : Int) :
    Below w.heap.size w ((wp.setCell ⟨p, 0, none⟩ (.int .i64 x)).setCell ⟨p, 1, none⟩ (.int .i64 y)) ∧ ((wp.setCell ⟨p, 0, none⟩ (.int .i64 x)).setCell ⟨p, 1, none⟩ (.int .i64 y)).heap[p]? = some (.cells #[.int .i64 x, .int .i64 y] 26 (0, 0)) :=
  ⟨(lp.setCell (p := ⟨p, 0, none⟩) hw (.int .i64 x)).setCell (p := ⟨p, 1, none⟩) hw (.int .i64 y), blk_set (blk_set hp 0 (.int .i64 x)) 1 (.int .i64 y)⟩
/-- what Compile answers, as a pointer and two numbers -/
def CV (s : ByteArray) (B : Nat) (w : World) (v : Value) (x y : Int) : Prop := match faultB s with
  | none => ∃ r, v = .pointer (some ⟨r, 0, none⟩) ∧ x = 0 ∧ y = 0 ∧ B ≤ r ∧ w.heap[r]? = some (.cells (RgC s) TR (0, 0))
  | some F => v = .pointer none ∧ x = (F.1 : Int) + 1 ∧ y = (F.2 : Int)
theorem compile_any (w : World) (s : ByteArray) (hs : s.size ≤ 140737488355327) :
    Calls Try.prog 11 #[.string s] w fun e w' => ∃ v x y, e = .returned (.tuple #[v, .agg #[.int .i64 x, .int .i64 y]]) ∧ CV s w.heap.size w' v x y ∧ Below w.heap.size w w' := by
  refine (compileW w s hs).mono ?_
  rintro e w' ⟨h, hb⟩
  unfold CV
  cases hf : faultB s with
  | none => rw [hf] at h; obtain ⟨r, h1, h2, h3⟩ := h; exact ⟨_, 0, 0, h3, ⟨r, rfl, rfl, rfl, h1, h2⟩, hb⟩
  | some F => rw [hf] at h; exact ⟨_, _, _, h, ⟨rfl, rfl, rfl⟩, hb⟩
theorem CV.non {s : ByteArray} {B : Nat} {w : World} {v : Value} {x y : Int} (h : CV s B w v x y) (hf : faultB s = none) : ∃ r, v = .pointer (some ⟨r, 0, none⟩) ∧ x = 0 ∧ y = 0 ∧ B ≤ r ∧ w.heap[r]? = some (.cells (RgC s) TR (0, 0)) := by
  unfold CV at h; rw [hf] at h; exact h
theorem CV.som {s : ByteArray} {B : Nat} {w : World} {v : Value} {x y : Int} {F : Nat × Nat} (h : CV s B w v x y) (hf : faultB s = some F) : v = .pointer none ∧ x = (F.1 : Int) + 1 ∧ y = (F.2 : Int) := by
  unfold CV at h; rw [hf] at h; exact h
theorem CV.below {s : ByteArray} {B : Nat} {w w' : World} {v : Value} {x y : Int} (h : CV s B w v x y) (hb : Below w.heap.size w w') : CV s B w' v x y := by
  unfold CV at h ⊢
  split
  · rename_i hf
    rw [hf] at h
    obtain ⟨r, h1, h2, h3, h4, h5⟩ := h
    exact ⟨r, h1, h2, h3, h4, blk_below h5 hb⟩
  · rename_i F hf
    rw [hf] at h
    exact h
theorem CV.ne {s : ByteArray} {B : Nat} {w : World} {v : Value} {x y : Int} {F : Nat × Nat} (h : CV s B w v x y) (hf : faultB s = some F) : (x == 0) = false := by
  rw [(h.som hf).2.1]; exact pos_ne _
theorem b_eq {x y : Bool} (h : x = true ↔ y = true) : x = y := Bool.eq_iff_iff.2 h
theorem is_alt {p q t : ByteArray} (s : ByteArray) (hp : faultB p = none) (hq : faultB q = none) (ht : faultB t = none) (h : ∀ s i j, M s (readE t).1 i j ↔ M s (readE p).1 i j ∨ M s (readE q).1 i j) : isP s (stepsB t) (firstB t) = (isP s (stepsB p) (firstB p) || isP s (stepsB q) (firstB q)) := by
  apply b_eq
  rw [Bool.or_eq_true, isP_M _ _ ht, isP_M _ _ hp, isP_M _ _ hq]
  exact h s 0 s.size
theorem is_same {t u : ByteArray} (s : ByteArray) (ht : faultB t = none) (hu : faultB u = none) (h : ∀ s i j, M s (readE t).1 i j ↔ M s (readE u).1 i j) : isP s (stepsB t) (firstB t) = isP s (stepsB u) (firstB u) := by
  apply b_eq
  rw [isP_M _ _ ht, isP_M _ _ hu]
  exact h s 0 s.size
theorem size_list {t : ByteArray} {l : List UInt8} (h : t.data.toList = l) : t.size = l.length := by rw [← h, Array.length_toList]; rfl
theorem len_data (t : ByteArray) : t.data.toList.length = t.size := Array.length_toList
set_option maxHeartbeats 16000000 in
set_option maxRecDepth 1000000 in
theorem RxWaysWalk (W : World) (a : ByteArray) (ha : a.size ≤ 140737488351232) (b : ByteArray) (hb : b.size ≤ 140737488351232) (s : ByteArray) (hs : s.size ≤ 140737488351232) :
    Calls Try.prog 5 #[.string a, .string b, .string s] W fun e W' => e = .returned (.bool true) ∧ Below W.heap.size W W' := by
  have hu26 := Try.underlying26
  go_enter Try.func5, Try.ntmps5
  have w1 : wrap64 ((a.size : Int) + (b.size : Int)) = (a.size : Int) + (b.size : Int) := by unfold wrap64; omega
  by_cases h1 : a.size + b.size ≤ 90
  · have d0 : decide ((a.size : Int) + (b.size : Int) > 90) = false := decide_eq_false (by omega)
    by_cases h2 : s.size ≤ 60
    · have d1 : decide ((60 : Int) < (s.size : Int)) = false := decide_eq_false (by omega)
      have HS := Aside0.mk (⟨h1, h2⟩ : a.size + b.size ≤ 90 ∧ s.size ≤ 60)
      clear h1 h2 ha hb hs
      go_wp2_with (fail)
      refine (compile_any _ a (by have := HS.out; omega)).mono ?_
      rintro e w2 ⟨va, xa, ya, rfl, hva, hl2⟩
      go_wp2_with (first | (((with_reducible refine gate_dst (N := 8) rfl ?_); (try (refine gate_guard (by rfl) ?_; dsimp only)); refine box_event ?hg (N := 8) ?hd (cs := #[.int .i64 0, .int .i64 0]) (t := 26) ?hr ?_; (case hd => rfl); (case hg => rfl); (case hr => first | (go_simp; done) | (go_simp; rfl)); intro p ep wp hp lp; have Ep := Aside0.mk ep; clear ep); have vp0 : wp.cell? ⟨p, 0, none⟩ = some (.int .i64 0) := (blk_cell hp 0).trans rfl; have vp1 : wp.cell? ⟨p, 1, none⟩ = some (.int .i64 0) := (blk_cell hp 1).trans rfl; have fp0 := blk_frozen hp 0; have fp1 := blk_frozen hp 1; have Bp := boxed hp lp (by have := Ep.out; omega) xa ya; have up0 := (blk_cell Bp.2 0).trans (show _ = some (Value.int .i64 xa) from rfl); have up1 := (blk_cell Bp.2 1).trans (show _ = some (Value.int .i64 ya) from rfl)) | fail)
      have hl3 := below_then hl2 hl2.size Bp.1
      have hva := hva.below Bp.1
      have hkp := Bp.2
      obtain ⟨w3, hw3⟩ : ∃ w3, World.setCell (World.setCell wp ⟨p, 0, none⟩ (.int .i64 xa)) ⟨p, 1, none⟩ (.int .i64 ya) = w3 := ⟨_, rfl⟩
      rw [hw3] at hl3 hva hkp
      rw [hw3]
      clear hw3 Bp up0 up1 vp0 vp1 fp0 fp1 hp lp hl2
      refine (compile_any _ b (by have := HS.out; omega)).mono ?_
      rintro e w4 ⟨vb, xb, yb, rfl, hvb, hl4⟩
      have hva3 := hva
      have hva := hva.below hl4
      have hkp := blk_below hkp hl4
      have hl34 := hl4
      have hl4 := below_then hl3 hl3.size hl4
      cases hfa : faultB a with
      | some F =>
        have e1 := hva.ne hfa
        go_wp2_with (first | ((((with_reducible refine gate_dst (N := 10) rfl ?_); (try (refine gate_guard (by rfl) ?_; dsimp only)); refine box_event ?hg (N := 10) ?hd (cs := #[.int .i64 0, .int .i64 0]) (t := 26) ?hr ?_; (case hd => rfl); (case hg => rfl); (case hr => first | (go_simp; done) | (go_simp; rfl)); intro q eq wq hq lq; have Eq := Aside0.mk eq; clear eq); have vq0 : wq.cell? ⟨q, 0, none⟩ = some (.int .i64 0) := (blk_cell hq 0).trans rfl; have vq1 : wq.cell? ⟨q, 1, none⟩ = some (.int .i64 0) := (blk_cell hq 1).trans rfl; have fq0 := blk_frozen hq 0; have fq1 := blk_frozen hq 1; have Bq := boxed hq lq (by have := Eq.out; omega) xb yb; have uq0 := (blk_cell Bq.2 0).trans (show _ = some (Value.int .i64 xb) from rfl); have uq1 := (blk_cell Bq.2 1).trans (show _ = some (Value.int .i64 yb) from rfl)); have k0 := (blk_cell (blk_below hkp Bq.1) 0).trans (show _ = some (Value.int .i64 xa) from rfl); have k1 := (blk_cell (blk_below hkp Bq.1) 1).trans (show _ = some (Value.int .i64 ya) from rfl)) | fail)
        have hl5 := below_then hl4 hl4.size Bq.1
        refine (aliveW _).mono ?_
        rintro e w9 ⟨rfl, hl9⟩
        go_wp2_with (fail)
        go_ret
        exact ⟨rfl, below_then hl5 hl5.size hl9⟩
      | none =>
        obtain ⟨ra, rfl, rfl, rfl, hra, hka3⟩ := hva3.non hfa
        have hka := blk_below hka3 hl34
        cases hfb : faultB b with
        | some F =>
          have e1 := hvb.ne hfb
          go_wp2_with (first | ((((with_reducible refine gate_dst (N := 10) rfl ?_); (try (refine gate_guard (by rfl) ?_; dsimp only)); refine box_event ?hg (N := 10) ?hd (cs := #[.int .i64 0, .int .i64 0]) (t := 26) ?hr ?_; (case hd => rfl); (case hg => rfl); (case hr => first | (go_simp; done) | (go_simp; rfl)); intro q eq wq hq lq; have Eq := Aside0.mk eq; clear eq); have vq0 : wq.cell? ⟨q, 0, none⟩ = some (.int .i64 0) := (blk_cell hq 0).trans rfl; have vq1 : wq.cell? ⟨q, 1, none⟩ = some (.int .i64 0) := (blk_cell hq 1).trans rfl; have fq0 := blk_frozen hq 0; have fq1 := blk_frozen hq 1; have Bq := boxed hq lq (by have := Eq.out; omega) xb yb; have uq0 := (blk_cell Bq.2 0).trans (show _ = some (Value.int .i64 xb) from rfl); have uq1 := (blk_cell Bq.2 1).trans (show _ = some (Value.int .i64 yb) from rfl)); have k0 := (blk_cell (blk_below hkp Bq.1) 0).trans (show _ = some (Value.int .i64 0) from rfl); have k1 := (blk_cell (blk_below hkp Bq.1) 1).trans (show _ = some (Value.int .i64 0) from rfl)) | fail)
          have hl5 := below_then hl4 hl4.size Bq.1
          refine (aliveW _).mono ?_
          rintro e w9 ⟨rfl, hl9⟩
          go_wp2_with (fail)
          go_ret
          exact ⟨rfl, below_then hl5 hl5.size hl9⟩
        | none =>
          obtain ⟨rb, rfl, rfl, rfl, hrb3, hkb⟩ := hvb.non hfb
          have hrb : W.heap.size ≤ rb := Nat.le_trans hl3.size hrb3
          have hab : ra ≠ rb := by have := blk_lt hka3; omega
          have m1 : ¬ 9223372036854775807 < 1 + a.size := by have := HS.out; omega
          have m2 : ¬ 9223372036854775807 < 1 + a.size + 3 := by have := HS.out; omega
          have m3 : ¬ 9223372036854775807 < 1 + a.size + 3 + b.size := by have := HS.out; omega
          have m4 : ¬ 9223372036854775807 < 1 + a.size + 3 + b.size + 1 := by have := HS.out; omega
          have m5 : ¬ 9223372036854775807 < 1 + a.size + 2 := by have := HS.out; omega
          have m6 : ¬ 9223372036854775807 < 1 + a.size + 2 + a.size := by have := HS.out; omega
          have m7 : ¬ 9223372036854775807 < 1 + a.size + 2 + a.size + 2 := by have := HS.out; omega
          go_wp2_with (first | ((((with_reducible refine gate_dst (N := 10) rfl ?_); (try (refine gate_guard (by rfl) ?_; dsimp only)); refine box_event ?hg (N := 10) ?hd (cs := #[.int .i64 0, .int .i64 0]) (t := 26) ?hr ?_; (case hd => rfl); (case hg => rfl); (case hr => first | (go_simp; done) | (go_simp; rfl)); intro q eq wq hq lq; have Eq := Aside0.mk eq; clear eq); have vq0 : wq.cell? ⟨q, 0, none⟩ = some (.int .i64 0) := (blk_cell hq 0).trans rfl; have vq1 : wq.cell? ⟨q, 1, none⟩ = some (.int .i64 0) := (blk_cell hq 1).trans rfl; have fq0 := blk_frozen hq 0; have fq1 := blk_frozen hq 1; have Bq := boxed hq lq (by have := Eq.out; omega) 0 0; have uq0 := (blk_cell Bq.2 0).trans (show _ = some (Value.int .i64 0) from rfl); have uq1 := (blk_cell Bq.2 1).trans (show _ = some (Value.int .i64 0) from rfl)); have k0 := (blk_cell (blk_below hkp Bq.1) 0).trans (show _ = some (Value.int .i64 0) from rfl); have k1 := (blk_cell (blk_below hkp Bq.1) 1).trans (show _ = some (Value.int .i64 0) from rfl)) | fail)
          have hl5 := below_then hl4 hl4.size Bq.1
          have hka := blk_below hka Bq.1
          have hkb := blk_below hkb Bq.1
          obtain ⟨w5, hw5⟩ : ∃ w5, World.setCell (World.setCell wq ⟨q, 0, none⟩ (.int .i64 0)) ⟨q, 1, none⟩ (.int .i64 0) = w5 := ⟨_, rfl⟩
          rw [hw5] at hl5 hka hkb
          rw [hw5]
          clear hw5 Bq uq0 uq1 vq0 vq1 fq0 fq1 hq lq hl4 k0 k1 hkp hva hvb hl3 hl34 hka3 hva3 hrb3
          obtain ⟨tc, htc⟩ : ∃ tc, ({ data := #[40] } ++ a ++ { data := #[41, 124, 40] } ++ b ++ { data := #[41] } : ByteArray) = tc := ⟨_, rfl⟩
          rw [htc]
          have hcl : tc.data.toList = 40 :: (a.data.toList ++ 41 :: 124 :: 40 :: (b.data.toList ++ [41])) := by rw [← htc]; simp
          have hcz : tc.size = a.size + b.size + 5 := by rw [size_list hcl]; simp only [List.length_cons, List.length_append, List.length_nil, len_data]; omega
          have HC := Aside0.mk (read_alt hfa hfb (by have := HS.out; omega) hcl)
          have HCZ := Aside0.mk (show tc.size ≤ 200 by have := HS.out; omega)
          clear hcl hcz htc
          refine (compile_any _ tc (by have := HCZ.out; omega)).mono ?_
          rintro e w6 ⟨vc, xc, yc, rfl, hvc, hl6⟩
          have hlt5 := blk_lt hka
          have hlt5b := blk_lt hkb
          have hka := blk_below hka hl6
          have hkb := blk_below hkb hl6
          have HL5 := Aside0.mk (⟨hra, hrb, hab, hlt5, hlt5b, hl5.size⟩ : W.heap.size ≤ ra ∧ W.heap.size ≤ rb ∧ ra ≠ rb ∧ ra < w5.heap.size ∧ rb < w5.heap.size ∧ W.heap.size ≤ w5.heap.size)
          have hl7 := below_then hl5 hl5.size hl6
          clear hl5 hl6 hra hrb hab hlt5 hlt5b
          go_wp2_with (first | ((((with_reducible refine gate_dst (N := 12) rfl ?_); (try (refine gate_guard (by rfl) ?_; dsimp only)); refine box_event ?hg (N := 12) ?hd (cs := #[.int .i64 0, .int .i64 0]) (t := 26) ?hr ?_; (case hd => rfl); (case hg => rfl); (case hr => first | (go_simp; done) | (go_simp; rfl)); intro u eu wu hu lu; have Eu := Aside0.mk eu; clear eu); have vu0 : wu.cell? ⟨u, 0, none⟩ = some (.int .i64 0) := (blk_cell hu 0).trans rfl; have vu1 : wu.cell? ⟨u, 1, none⟩ = some (.int .i64 0) := (blk_cell hu 1).trans rfl; have fu0 := blk_frozen hu 0; have fu1 := blk_frozen hu 1; have Bu := boxed hu lu (by have := Eu.out; omega) xc yc; have uu0 := (blk_cell Bu.2 0).trans (show _ = some (Value.int .i64 xc) from rfl); have uu1 := (blk_cell Bu.2 1).trans (show _ = some (Value.int .i64 yc) from rfl))) | fail)
          have hl8 := below_then hl7 hl7.size Bu.1
          have hka := blk_below hka Bu.1
          have hkb := blk_below hkb Bu.1
          have hvc := hvc.below Bu.1
          have hku := Bu.2
          obtain ⟨w8, hw8⟩ : ∃ w8, World.setCell (World.setCell wu ⟨u, 0, none⟩ (.int .i64 xc)) ⟨u, 1, none⟩ (.int .i64 yc) = w8 := ⟨_, rfl⟩
          rw [hw8] at hl8 hka hkb hvc hku
          rw [hw8]
          clear hw8 Bu uu0 uu1 vu0 vu1 fu0 fu1 hu lu hl7
          obtain ⟨td, htd⟩ : ∃ td, ({ data := #[40] } ++ a ++ { data := #[41, 43] } : ByteArray) = td := ⟨_, rfl⟩
          rw [htd]
          have hdl : td.data.toList = 40 :: (a.data.toList ++ [41, 43]) := by rw [← htd]; simp
          have hdz : td.size = a.size + 3 := by rw [size_list hdl]; simp only [List.length_cons, List.length_append, List.length_nil, len_data]; (try omega)
          have HD := Aside0.mk (read_plus hfa (by have := HS.out; omega) hdl)
          have HDZ := Aside0.mk (show td.size ≤ 200 by have := HS.out; omega)
          clear hdl hdz htd
          refine (compile_any _ td (by have := HDZ.out; omega)).mono ?_
          rintro e w9 ⟨vd, xd, yd, rfl, hvd, hl9⟩
          have hka := blk_below hka hl9
          have hkb := blk_below hkb hl9
          have hku := blk_below hku hl9
          have hvc8 := Aside0.mk hvc
          have hvc := hvc.below hl9
          have hl10 := below_then hl8 hl8.size hl9
          have HL8 := Aside0.mk hl8.size
          clear hl8 hl9
          go_wp2_with (first | ((((with_reducible refine gate_dst (N := 14) rfl ?_); (try (refine gate_guard (by rfl) ?_; dsimp only)); refine box_event ?hg (N := 14) ?hd (cs := #[.int .i64 0, .int .i64 0]) (t := 26) ?hr ?_; (case hd => rfl); (case hg => rfl); (case hr => first | (go_simp; done) | (go_simp; rfl)); intro g eg wg hg lg; have Eg := Aside0.mk eg; clear eg); have vg0 : wg.cell? ⟨g, 0, none⟩ = some (.int .i64 0) := (blk_cell hg 0).trans rfl; have vg1 : wg.cell? ⟨g, 1, none⟩ = some (.int .i64 0) := (blk_cell hg 1).trans rfl; have fg0 := blk_frozen hg 0; have fg1 := blk_frozen hg 1; have Bg := boxed hg lg (by have := Eg.out; omega) xd yd; have ug0 := (blk_cell Bg.2 0).trans (show _ = some (Value.int .i64 xd) from rfl); have ug1 := (blk_cell Bg.2 1).trans (show _ = some (Value.int .i64 yd) from rfl))) | fail)
          have hl11 := below_then hl10 hl10.size Bg.1
          have hka := blk_below hka Bg.1
          have hkb := blk_below hkb Bg.1
          have hvc := hvc.below Bg.1
          have hvd := hvd.below Bg.1
          have hku := blk_below hku Bg.1
          have hkg := Bg.2
          obtain ⟨w11, hw11⟩ : ∃ w11, World.setCell (World.setCell wg ⟨g, 0, none⟩ (.int .i64 xd)) ⟨g, 1, none⟩ (.int .i64 yd) = w11 := ⟨_, rfl⟩
          rw [hw11] at hl11 hka hkb hvc hvd hku hkg
          rw [hw11]
          clear hw11 Bg ug0 ug1 vg0 vg1 fg0 fg1 hg lg hl10
          obtain ⟨te, hte⟩ : ∃ te, ({ data := #[40] } ++ a ++ { data := #[41, 40] } ++ a ++ { data := #[41, 42] } : ByteArray) = te := ⟨_, rfl⟩
          rw [hte]
          have hel : te.data.toList = 40 :: (a.data.toList ++ 41 :: 40 :: (a.data.toList ++ [41, 42])) := by rw [← hte]; simp
          have hez : te.size = a.size + a.size + 5 := by rw [size_list hel]; simp only [List.length_cons, List.length_append, List.length_nil, len_data]; omega
          have HE := Aside0.mk (read_star hfa (by have := HS.out; omega) hel)
          have HEZ := Aside0.mk (show te.size ≤ 200 by have := HS.out; omega)
          clear hel hez hte
          refine (compile_any _ te (by have := HEZ.out; omega)).mono ?_
          rintro e w12 ⟨ve, xe, ye, rfl, hve, hl12⟩
          have hka := blk_below hka hl12
          have hkb := blk_below hkb hl12
          have hku := blk_below hku hl12
          have hkg := blk_below hkg hl12
          have hvd11 := Aside0.mk hvd
          have hvc := hvc.below hl12
          have hvd := hvd.below hl12
          have hl13 := below_then hl11 hl11.size hl12
          have HL11 := Aside0.mk hl11.size
          clear hl11 hl12
          rcases HC.out with ⟨fc, hfc⟩ | ⟨hfc, hMc⟩
          · obtain ⟨rfl, hx, -⟩ := hvc.som hfc
            obtain rfl : xc = 5 := hx
            clear hvc hvd hve hvc8 hvd11
            go_wp2_with (first | ((((with_reducible refine gate_dst (N := 16) rfl ?_); (try (refine gate_guard (by rfl) ?_; dsimp only)); refine box_event ?hg (N := 16) ?hd (cs := #[.int .i64 0, .int .i64 0]) (t := 26) ?hr ?_; (case hd => rfl); (case hg => rfl); (case hr => first | (go_simp; done) | (go_simp; rfl)); intro z ez wz hz lz; have Ez := Aside0.mk ez; clear ez); have vz0 : wz.cell? ⟨z, 0, none⟩ = some (.int .i64 0) := (blk_cell hz 0).trans rfl; have vz1 : wz.cell? ⟨z, 1, none⟩ = some (.int .i64 0) := (blk_cell hz 1).trans rfl; have fz0 := blk_frozen hz 0; have fz1 := blk_frozen hz 1; have Bz := boxed hz lz (by have := Ez.out; omega) xe ye; have uz0 := (blk_cell Bz.2 0).trans (show _ = some (Value.int .i64 xe) from rfl); have uz1 := (blk_cell Bz.2 1).trans (show _ = some (Value.int .i64 ye) from rfl)); have k0 := (blk_cell (blk_below hku Bz.1) 0).trans (show _ = some (Value.int .i64 5) from rfl); have k1 := (blk_cell (blk_below hku Bz.1) 1).trans (show _ = some (Value.int .i64 yc) from rfl); have k2 := (blk_cell (blk_below hkg Bz.1) 0).trans (show _ = some (Value.int .i64 xd) from rfl); have k3 := (blk_cell (blk_below hkg Bz.1) 1).trans (show _ = some (Value.int .i64 yd) from rfl)) | fail)
            have hl14 := below_then hl13 hl13.size Bz.1
            refine (aliveW _).mono ?_
            rintro e w20 ⟨rfl, hl20⟩
            go_wp2_with (fail)
            go_ret
            exact ⟨rfl, below_then hl14 hl14.size hl20⟩
          · obtain ⟨rc, rfl, rfl, rfl, hrc5, hkc⟩ := hvc.non hfc
            rcases HD.out with ⟨fd, hfd⟩ | ⟨hfd, hMd⟩
            · obtain ⟨rfl, hx, -⟩ := hvd.som hfd
              obtain rfl : xd = 5 := hx
              clear hvc hvd hve hvc8 hvd11
              go_wp2_with (first | ((((with_reducible refine gate_dst (N := 16) rfl ?_); (try (refine gate_guard (by rfl) ?_; dsimp only)); refine box_event ?hg (N := 16) ?hd (cs := #[.int .i64 0, .int .i64 0]) (t := 26) ?hr ?_; (case hd => rfl); (case hg => rfl); (case hr => first | (go_simp; done) | (go_simp; rfl)); intro z ez wz hz lz; have Ez := Aside0.mk ez; clear ez); have vz0 : wz.cell? ⟨z, 0, none⟩ = some (.int .i64 0) := (blk_cell hz 0).trans rfl; have vz1 : wz.cell? ⟨z, 1, none⟩ = some (.int .i64 0) := (blk_cell hz 1).trans rfl; have fz0 := blk_frozen hz 0; have fz1 := blk_frozen hz 1; have Bz := boxed hz lz (by have := Ez.out; omega) xe ye; have uz0 := (blk_cell Bz.2 0).trans (show _ = some (Value.int .i64 xe) from rfl); have uz1 := (blk_cell Bz.2 1).trans (show _ = some (Value.int .i64 ye) from rfl)); have k0 := (blk_cell (blk_below hku Bz.1) 0).trans (show _ = some (Value.int .i64 0) from rfl); have k1 := (blk_cell (blk_below hku Bz.1) 1).trans (show _ = some (Value.int .i64 0) from rfl); have k2 := (blk_cell (blk_below hkg Bz.1) 0).trans (show _ = some (Value.int .i64 5) from rfl); have k3 := (blk_cell (blk_below hkg Bz.1) 1).trans (show _ = some (Value.int .i64 yd) from rfl)) | fail)
              have hl14 := below_then hl13 hl13.size Bz.1
              refine (aliveW _).mono ?_
              rintro e w20 ⟨rfl, hl20⟩
              go_wp2_with (fail)
              go_ret
              exact ⟨rfl, below_then hl14 hl14.size hl20⟩
            · obtain ⟨rd, rfl, rfl, rfl, hrd8, hkd⟩ := hvd.non hfd
              rcases HE.out with ⟨fe, hfe⟩ | ⟨hfe, hMe⟩
              · obtain ⟨rfl, hx, -⟩ := hve.som hfe
                obtain rfl : xe = 5 := hx
                clear hvc hvd hve hvc8 hvd11
                go_wp2_with (first | ((((with_reducible refine gate_dst (N := 16) rfl ?_); (try (refine gate_guard (by rfl) ?_; dsimp only)); refine box_event ?hg (N := 16) ?hd (cs := #[.int .i64 0, .int .i64 0]) (t := 26) ?hr ?_; (case hd => rfl); (case hg => rfl); (case hr => first | (go_simp; done) | (go_simp; rfl)); intro z ez wz hz lz; have Ez := Aside0.mk ez; clear ez); have vz0 : wz.cell? ⟨z, 0, none⟩ = some (.int .i64 0) := (blk_cell hz 0).trans rfl; have vz1 : wz.cell? ⟨z, 1, none⟩ = some (.int .i64 0) := (blk_cell hz 1).trans rfl; have fz0 := blk_frozen hz 0; have fz1 := blk_frozen hz 1; have Bz := boxed hz lz (by have := Ez.out; omega) 5 ye; have uz0 := (blk_cell Bz.2 0).trans (show _ = some (Value.int .i64 5) from rfl); have uz1 := (blk_cell Bz.2 1).trans (show _ = some (Value.int .i64 ye) from rfl)); have k0 := (blk_cell (blk_below hku Bz.1) 0).trans (show _ = some (Value.int .i64 0) from rfl); have k1 := (blk_cell (blk_below hku Bz.1) 1).trans (show _ = some (Value.int .i64 0) from rfl); have k2 := (blk_cell (blk_below hkg Bz.1) 0).trans (show _ = some (Value.int .i64 0) from rfl); have k3 := (blk_cell (blk_below hkg Bz.1) 1).trans (show _ = some (Value.int .i64 0) from rfl)) | fail)
                have hl14 := below_then hl13 hl13.size Bz.1
                refine (aliveW _).mono ?_
                rintro e w20 ⟨rfl, hl20⟩
                go_wp2_with (fail)
                go_ret
                exact ⟨rfl, below_then hl14 hl14.size hl20⟩
              · obtain ⟨re, rfl, rfl, rfl, hre11, hke⟩ := hve.non hfe
                have hcd : rc < rd := by
                  obtain ⟨r, h1, -, -, -, h2⟩ := hvc8.out.non hfc
                  injection h1 with h1; injection h1 with h1; injection h1 with h1; subst h1
                  have := blk_lt h2; omega
                have hde : rd < re := by
                  obtain ⟨r, h1, -, -, -, h2⟩ := hvd11.out.non hfd
                  injection h1 with h1; injection h1 with h1; injection h1 with h1; subst h1
                  have := blk_lt h2; omega
                have hac : ra < rc ∧ rb < rc ∧ ra ≠ rb ∧ W.heap.size ≤ ra ∧ W.heap.size ≤ rb := by have := HL5.out; omega
                have HORD := Aside0.mk (⟨hac, hcd, hde⟩ : (ra < rc ∧ rb < rc ∧ ra ≠ rb ∧ W.heap.size ≤ ra ∧ W.heap.size ≤ rb) ∧ rc < rd ∧ rd < re)
                have HALT := Aside0.mk (is_alt s hfa hfb hfc hMc)
                have HSAM := Aside0.mk (is_same s hfd hfe (fun s i j => (hMd s i j).trans (hMe s i j).symm))
                clear hvc hvd hve hvc8 hvd11 hcd hde hac
                go_wp2_with (first | ((((with_reducible refine gate_dst (N := 16) rfl ?_); (try (refine gate_guard (by rfl) ?_; dsimp only)); refine box_event ?hg (N := 16) ?hd (cs := #[.int .i64 0, .int .i64 0]) (t := 26) ?hr ?_; (case hd => rfl); (case hg => rfl); (case hr => first | (go_simp; done) | (go_simp; rfl)); intro z ez wz hz lz; have Ez := Aside0.mk ez; clear ez); have vz0 : wz.cell? ⟨z, 0, none⟩ = some (.int .i64 0) := (blk_cell hz 0).trans rfl; have vz1 : wz.cell? ⟨z, 1, none⟩ = some (.int .i64 0) := (blk_cell hz 1).trans rfl; have fz0 := blk_frozen hz 0; have fz1 := blk_frozen hz 1; have Bz := boxed hz lz (by have := Ez.out; omega) 0 0; have uz0 := (blk_cell Bz.2 0).trans (show _ = some (Value.int .i64 0) from rfl); have uz1 := (blk_cell Bz.2 1).trans (show _ = some (Value.int .i64 0) from rfl)); have k0 := (blk_cell (blk_below hku Bz.1) 0).trans (show _ = some (Value.int .i64 0) from rfl); have k1 := (blk_cell (blk_below hku Bz.1) 1).trans (show _ = some (Value.int .i64 0) from rfl); have k2 := (blk_cell (blk_below hkg Bz.1) 0).trans (show _ = some (Value.int .i64 0) from rfl); have k3 := (blk_cell (blk_below hkg Bz.1) 1).trans (show _ = some (Value.int .i64 0) from rfl)) | fail)
                have hl14 := below_then hl13 hl13.size Bz.1
                have hka := blk_below hka Bz.1
                have hkb := blk_below hkb Bz.1
                have hkc := blk_below hkc Bz.1
                have hkd := blk_below hkd Bz.1
                have hke := blk_below hke Bz.1
                obtain ⟨w14, hw14⟩ : ∃ w14, World.setCell (World.setCell wz ⟨z, 0, none⟩ (.int .i64 0)) ⟨z, 1, none⟩ (.int .i64 0) = w14 := ⟨_, rfl⟩
                rw [hw14] at hl14 hka hkb hkc hkd hke
                rw [hw14]
                clear hw14 Bz uz0 uz1 vz0 vz1 fz0 fz1 hz lz hl13 k0 k1 k2 k3 hku hkg
                have hsz : s.size ≤ 60 := HS.out.2
                have HBZ := Aside0.mk (show b.size ≤ 200 by have := HS.out; omega)
                obtain ⟨ia, hia⟩ : ∃ x, isP s (stepsB a) (firstB a) = x := ⟨_, rfl⟩
                obtain ⟨ib, hib⟩ : ∃ x, isP s (stepsB b) (firstB b) = x := ⟨_, rfl⟩
                obtain ⟨id, hid⟩ : ∃ x, isP s (stepsB td) (firstB td) = x := ⟨_, rfl⟩
                have hic := HALT.out
                have hie := HSAM.out.symm
                rw [hia, hib] at hic
                rw [hid] at hie
                have hIc := isW w14 rc tc s HCZ.out (by omega) (.inl hkc)
                rw [hic] at hIc
                refine hIc.mono ?_
                rintro e x1 ⟨rfl, -, Kx1⟩
                have hka := RgC.mk hka Kx1 (by have := HORD.out; omega)
                have hkb := RgC.mk hkb Kx1 (by have := HORD.out; omega)
                have hkd := RgC.mk hkd Kx1 (by have := HORD.out; omega)
                have hke := RgC.mk hke Kx1 (by have := HORD.out; omega)
                have hl := hl14.trans (Kx1.below W.heap.size (by have := HORD.out; omega) hl14.size)
                have hIa := isW x1 ra a s (by have := HS.out; omega) (by omega) (.inl hka)
                rw [hia] at hIa
                clear hIc hic Kx1 hka hl14
                cases ia
                · cases ib
                  · dsimp only [Bool.or]
                    go_wp2_with (first | (go_at_call 17; refine hIe.mono ?_; rintro e x5 ⟨rfl, -, Kx5⟩; have hl := hl.trans (Kx5.below W.heap.size (by have := HORD.out; omega) hl.size); have hA := aliveW x5) | (go_at_call 17; refine hId.mono ?_; rintro e x4 ⟨rfl, -, Kx4⟩; have hke := RgC.mk hke Kx4 (by have := HORD.out; omega); have hl := hl.trans (Kx4.below W.heap.size (by have := HORD.out; omega) hl.size); have hIe := isW x4 re te s HEZ.out (by omega) (.inl hke); rw [hie] at hIe) | (go_at_call 17; refine hIb.mono ?_; rintro e x3 ⟨rfl, -, Kx3⟩; have hkd := RgC.mk hkd Kx3 (by have := HORD.out; omega); have hke := RgC.mk hke Kx3 (by have := HORD.out; omega); have hl := hl.trans (Kx3.below W.heap.size HORD.out.1.2.2.2.2 hl.size); have hId := isW x3 rd td s HDZ.out (by omega) (.inl hkd); rw [hid] at hId) | (go_at_call 17; refine hIa.mono ?_; rintro e x2 ⟨rfl, -, Kx2⟩; have hkb := RgC.mk hkb Kx2 (by have := HORD.out; omega); have hkd := RgC.mk hkd Kx2 (by have := HORD.out; omega); have hke := RgC.mk hke Kx2 (by have := HORD.out; omega); have hl := hl.trans (Kx2.below W.heap.size HORD.out.1.2.2.2.1 hl.size); have hIb := isW x2 rb b s HBZ.out (by omega) (.inl hkb); rw [hib] at hIb) | (go_at_call 10; refine hA.mono ?_; rintro e w20 ⟨rfl, hl20⟩) | fail)
                    go_ret
                    exact ⟨rfl, below_then hl hl.size hl20⟩
                  · dsimp only [Bool.or]
                    go_wp2_with (first | (go_at_call 17; refine hIe.mono ?_; rintro e x5 ⟨rfl, -, Kx5⟩; have hl := hl.trans (Kx5.below W.heap.size (by have := HORD.out; omega) hl.size); have hA := aliveW x5) | (go_at_call 17; refine hId.mono ?_; rintro e x4 ⟨rfl, -, Kx4⟩; have hke := RgC.mk hke Kx4 (by have := HORD.out; omega); have hl := hl.trans (Kx4.below W.heap.size (by have := HORD.out; omega) hl.size); have hIe := isW x4 re te s HEZ.out (by omega) (.inl hke); rw [hie] at hIe) | (go_at_call 17; refine hIb.mono ?_; rintro e x3 ⟨rfl, -, Kx3⟩; have hkd := RgC.mk hkd Kx3 (by have := HORD.out; omega); have hke := RgC.mk hke Kx3 (by have := HORD.out; omega); have hl := hl.trans (Kx3.below W.heap.size HORD.out.1.2.2.2.2 hl.size); have hId := isW x3 rd td s HDZ.out (by omega) (.inl hkd); rw [hid] at hId) | (go_at_call 17; refine hIa.mono ?_; rintro e x2 ⟨rfl, -, Kx2⟩; have hkb := RgC.mk hkb Kx2 (by have := HORD.out; omega); have hkd := RgC.mk hkd Kx2 (by have := HORD.out; omega); have hke := RgC.mk hke Kx2 (by have := HORD.out; omega); have hl := hl.trans (Kx2.below W.heap.size HORD.out.1.2.2.2.1 hl.size); have hIb := isW x2 rb b s HBZ.out (by omega) (.inl hkb); rw [hib] at hIb) | (go_at_call 10; refine hA.mono ?_; rintro e w20 ⟨rfl, hl20⟩) | fail)
                    go_ret
                    exact ⟨rfl, below_then hl hl.size hl20⟩
                · dsimp only [Bool.or]
                  go_wp2_with (first | (go_at_call 17; refine hIe.mono ?_; rintro e x5 ⟨rfl, -, Kx5⟩; have hl := hl.trans (Kx5.below W.heap.size (by have := HORD.out; omega) hl.size); have hA := aliveW x5) | (go_at_call 17; refine hId.mono ?_; rintro e x4 ⟨rfl, -, Kx4⟩; have hke := RgC.mk hke Kx4 (by have := HORD.out; omega); have hl := hl.trans (Kx4.below W.heap.size (by have := HORD.out; omega) hl.size); have hIe := isW x4 re te s HEZ.out (by omega) (.inl hke); rw [hie] at hIe) | (go_at_call 17; refine hIa.mono ?_; rintro e x2 ⟨rfl, -, Kx2⟩; have hkb := RgC.mk hkb Kx2 (by have := HORD.out; omega); have hkd := RgC.mk hkd Kx2 (by have := HORD.out; omega); have hke := RgC.mk hke Kx2 (by have := HORD.out; omega); have hl := hl.trans (Kx2.below W.heap.size HORD.out.1.2.2.2.1 hl.size); have hId := isW x2 rd td s HDZ.out (by omega) (.inl hkd); rw [hid] at hId) | (go_at_call 10; refine hA.mono ?_; rintro e w20 ⟨rfl, hl20⟩) | fail)
                  go_ret
                  exact ⟨rfl, below_then hl hl.size hl20⟩
    · have d1 : decide ((60 : Int) < (s.size : Int)) = true := decide_eq_true (by omega)
      go_wp2_with (fail)
      refine (aliveW _).mono ?_
      rintro e w9 ⟨rfl, hl9⟩
      go_wp2_with (fail)
      go_ret
      exact ⟨rfl, hl9⟩
  · have d0 : decide ((a.size : Int) + (b.size : Int) > 90) = true := decide_eq_true (by omega)
    go_wp2_with (fail)
    refine (aliveW _).mono ?_
    rintro e w9 ⟨rfl, hl9⟩
    go_wp2_with (fail)
    go_ret
    exact ⟨rfl, hl9⟩
end Go.Proofs.Ytnjpdhekeffpnaa.Rx
