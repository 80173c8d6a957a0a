/- The document's reader of expressions: a group and a thing, walked, where ways are told. -/
import Derived.Test.YtnjpdhekeffpnaaRxRb
import Derived.Test.YtnjpdhekeffpnaaRxRc
set_option linter.unusedVariables false
set_option linter.unusedSimpArgs false
namespace Go.Proofs.Ytnjpdhekeffpnaa.Rx
open Go.RowKit Go.Proofs.YtnjpdhekeffpnaaW.PrintWords Go.Proofs.YtnjpdhekeffpnaaW.PrintLast Go.Proofs.YtnjpdhekeffpnaaW.PrintMore

/-- ways' walk, told: from a state without a fault, o brackets open -/
def WysR (b : Nat) (s : ByteArray) (o : Int) (wys : BS → Re × BS) : Prop := ∀ W S, S.F = none → S.at_ ≤ s.size → ParAt W b s S.at_ o none →
  Calls Try.prog 25 #[.pointer (some ⟨b, 0, none⟩)] W fun e W' => NOk W W' b s o (wys S) e
/-- a group's walk, told -/
def GrpR (b : Nat) (s : ByteArray) (o : Int) (grp : Nat → BS → Re × BS) : Prop := ∀ W S a, S.F = none → S.at_ ≤ s.size → ParAt W b s S.at_ o none →
  Calls Try.prog 64 #[.pointer (some ⟨b, 0, none⟩), .int .i64 ((a : Nat) : Int)] W fun e W' => NOk W W' b s o (grp a S) e
theorem NOk.frame {w w1 w2 : World} {b : Nat} {s : ByteArray} {o : Int} {r : Re × BS} {e : Ending} (h : NOk w1 w2 b s o r e) (k : Mk b w w1) : NOk w w2 b s o r e := by
  obtain ⟨k0, vs, vk, nd, at', o', h1, h2, h3, h4, h5, h6⟩ := h
  exact ⟨k0, vs, vk, nd, at', o', h1, k.trans h2, knd.M_lower k.size h3, h4, h5, h6⟩
theorem knd_mkb {w w' : World} {base b : Nat} {nd : Nd} {cs : List Value} (h : knd.M w base (fun _ => True) nd cs) (k : Mk b w w') (hb : b < base) : knd.M w' base (fun _ => True) nd cs :=
  knd.M_mono (fun _ _ => trivial) (knd.M_move (fun q hq => k.keep q hq.2.2.1 (by have := hq.2.1; omega)) (knd.M_bound h))
theorem knd_below {w w' : World} {base : Nat} {nd : Nd} {cs : List Value} (h : knd.M w base (fun _ => True) nd cs) (hb : Below w.heap.size w w') : knd.M w' base (fun _ => True) nd cs := Kd.M_below h hb
theorem boxed3 {w wp : World} {p : Nat} {y0 y1 y2 : Value} (hp : wp.heap[p]? = some (.cells #[y0, y1, y2] TN (0, 0))) (lp : Below w.heap.size w wp) (hw : w.heap.size ≤ p) (x y z : Value) :
    Below w.heap.size w (((wp.setCell ⟨p, 0, none⟩ x).setCell ⟨p, 1, none⟩ y).setCell ⟨p, 2, none⟩ z) ∧ (((wp.setCell ⟨p, 0, none⟩ x).setCell ⟨p, 1, none⟩ y).setCell ⟨p, 2, none⟩ z).heap[p]? = some (.cells #[x, y, z] TN (0, 0)) :=
  ⟨((lp.setCell (p := ⟨p, 0, none⟩) hw x).setCell (p := ⟨p, 1, none⟩) hw y).setCell (p := ⟨p, 2, none⟩) hw z, set3 hp x y z⟩
/-- what a reader of a node leaves, its rows written out -/
theorem NOk.open {w w' : World} {b : Nat} {s : ByteArray} {o : Int} {r : Re × BS} {e : Ending} (h : NOk w w' b s o r e) :
    ∃ (k : Int) (As : Option Addr) (ns cs : Nat) (Al : Option Addr) (nl cl : Nat) (nd : Nd) (at' : Nat) (o' : Int), e = .returned (.agg #[.int .i64 k, .slice As ns cs, .slice Al nl cl]) ∧ Mk b w w' ∧ knd.M w' w.heap.size (fun _ => True) nd [.int .i64 k, .slice As ns cs, .slice Al nl cl] ∧ ParAt w' b s at' o' r.2.F ∧ at' ≤ s.size ∧ (r.2.F = none → at' = r.2.at_ ∧ o' = o ∧ RT nd r.1) := by
  obtain ⟨k, vs, vk, nd, at', o', h1, h2, h3, h4, h5, h6⟩ := h
  obtain ⟨k', set, l⟩ := nd
  obtain ⟨As, c1, Al, c2, h7, -, -, -, -⟩ := knd_open (knd.K_of_M h3)
  injection h7 with h7 h8
  injection h8 with h8 h9
  injection h9 with h9 h10
  subst h8; subst h9
  exact ⟨k, As, _, c1, Al, _, c2, .mk k' set l, at', o', h1, h2, h3, h4, h5, h6⟩
theorem pk_none_of {s : ByteArray} {at_ : Nat} {F : Option (Nat × Nat)} {c : Int} (h : pk s at_ F = some c) : F = none ∧ at_ < s.size ∧ c = bt s at_ := by
  have := peek_lt h
  exact ⟨this.2.1, this.1, this.2.2⟩
set_option maxHeartbeats 8000000 in
set_option maxRecDepth 100000 in
/-- the last bracket that may be opened is open already -/
theorem groupR0 (b : Nat) (s : ByteArray) : GrpR b s 16 (fun at_ S => (.eps, wrongB 4 at_ S)) := by
  intro w S a hF ha h
  have hu32 := Try.underlying32
  have hu76 := Try.underlying76
  have HS := Aside0.mk h
  have HH := Aside0.mk (⟨ha, hF⟩ : S.at_ ≤ s.size ∧ S.F = none)
  have hbw : b < w.heap.size := blk_lt h
  clear h hF ha
  obtain ⟨az, haz⟩ : ∃ az : Int, (a : Int) = az := ⟨_, rfl⟩
  rw [haz]
  go_enter Try.func64, Try.ntmps64
  go_wp2_with (first | (((with_reducible refine gate_dst (N := 4) rfl ?_); (try (refine gate_guard (by rfl) ?_; dsimp only)); refine box_event ?hg (N := 4) ?hd (cs := #[.int .i64 0, .slice none 0 0, .slice none 0 0]) (t := 32) ?hr ?_; (case hd => rfl); (case hg => rfl); (case hr => first | (go_simp; done) | (go_simp; rfl)); intro p ep wp hp lp; have Ep := Aside0.mk ep; clear ep; have p0 : wp.cell? ⟨p, 0, none⟩ = some (.int .i64 0) := (blk_cell hp 0).trans rfl; have p1 : wp.cell? ⟨p, 1, none⟩ = some (.slice none 0 0) := (blk_cell hp 1).trans rfl; have p2 : wp.cell? ⟨p, 2, none⟩ = some (.slice none 0 0) := (blk_cell hp 2).trans rfl; have fp0 := blk_frozen hp 0; have fp1 := blk_frozen hp 1; have fp2 := blk_frozen hp 2); have hB1 := HS.out.below lp; have x2 : wp.cell? ⟨b, 2, none⟩ = some (.int .i64 16) := (blk_cell hB1 2).trans rfl; have f2 := blk_frozen hB1 2) | fail)
  have HW := Aside0.mk (⟨by have := Ep.out; omega, by have := Ep.out; omega⟩ : w.heap.size ≤ p ∧ p ≠ b)
  have HB2 := Aside0.mk (hB1.open 17)
  have HP2 := Aside0.mk ((Below.heap_setCell wp ⟨b, 2, none⟩ (.int .i64 17) p HW.out.2).trans hp)
  have HF2 := Aside0.mk ((Mk.of lp : Mk b w wp).set 2 (.int .i64 17))
  obtain ⟨w2, hw2⟩ : ∃ w2, wp.setCell ⟨b, 2, none⟩ (.int .i64 17) = w2 := ⟨_, rfl⟩
  rw [hw2] at HB2 HP2 HF2
  rw [hw2]
  clear hw2 hB1 hp lp p0 p1 p2 fp0 fp1 fp2 x2 f2
  have hf := failsW w2 b s S.at_ 17 none 4 a HB2.out
  rw [haz] at hf
  refine hf.mono ?_
  rintro e wy ⟨rfl, hBy, hFy⟩
  have hp := hFy.at HP2.out HW.out.2
  have HPy := Aside0.mk hp
  have HBy := Aside0.mk hBy
  have HFy := Aside0.mk (HF2.out.trans hFy)
  clear hBy hFy hf
  (have p0 : wy.cell? ⟨p, 0, none⟩ = some (.int .i64 0) := (blk_cell hp 0).trans rfl; have p1 : wy.cell? ⟨p, 1, none⟩ = some (.slice none 0 0) := (blk_cell hp 1).trans rfl; have p2 : wy.cell? ⟨p, 2, none⟩ = some (.slice none 0 0) := (blk_cell hp 2).trans rfl; have fp0 := blk_frozen hp 0; have fp1 := blk_frozen hp 1; have fp2 := blk_frozen hp 2)
  clear hp
  go_wp2_with (fail)
  have hr := nok_ret (o := 16) (r := (Re.eps, wrongB 4 a S)) HPy.out HW.out.1 HW.out.2 (Nat.lt_succ_self p) (knd_leaf 0) HFy.out (by rw [wrong_or, HH.out.2]; exact HBy.out) HH.out.1 (fun hn => absurd hn (wrong_ne 4 a S))
  (obtain ⟨w9, hw9⟩ : ∃ w9, World.setCell (World.setCell (World.setCell wy ⟨p, 0, none⟩ (.int .i64 (0))) ⟨p, 1, none⟩ (.slice none 0 0)) ⟨p, 2, none⟩ (.slice none 0 0) = w9 := ⟨_, rfl⟩; (try simp only [Exit.inBlock, Exit.then]); (try rw [hw9]); obtain ⟨c0, c1, c2, hN⟩ := hr w9 hw9; clear hw9; refine bodyPost_ret (by simp [results, Try.results64, go_sem, c0, c1, c2, hu32]; try rfl) rfl ?_)
  exact hN
set_option maxHeartbeats 8000000 in
set_option maxRecDepth 100000 in
theorem groupR1 (b : Nat) (s : ByteArray) (o : Int) (wys : BS → Re × BS) (hs : s.size ≤ 200) (ho : 0 ≤ o ∧ o < 16) (hw : WysR b s (o + 1) wys) : GrpR b s o (grpFE wys s) := by
  intro w S a hF ha h
  have hu32 := Try.underlying32
  have hu76 := Try.underlying76
  have HS := Aside0.mk h
  have HH := Aside0.mk (⟨ha, hF, hs, ho, hw⟩ : S.at_ ≤ s.size ∧ S.F = none ∧ s.size ≤ 200 ∧ (0 ≤ o ∧ o < 16) ∧ WysR b s (o + 1) wys)
  have hbw : b < w.heap.size := blk_lt h
  have ho1 : 0 ≤ o := ho.1
  have ho2 : o < 16 := ho.2
  have d0 : decide (o + 1 > 16) = false := decide_eq_false (by omega)
  clear h hF ha hs ho hw
  go_enter Try.func64, Try.ntmps64
  go_wp2_with (first | (((with_reducible refine gate_dst (N := 4) rfl ?_); (try (refine gate_guard (by rfl) ?_; dsimp only)); refine box_event ?hg (N := 4) ?hd (cs := #[.int .i64 0, .slice none 0 0, .slice none 0 0]) (t := 32) ?hr ?_; (case hd => rfl); (case hg => rfl); (case hr => first | (go_simp; done) | (go_simp; rfl)); intro p ep wp hp lp; have Ep := Aside0.mk ep; clear ep; have p0 : wp.cell? ⟨p, 0, none⟩ = some (.int .i64 0) := (blk_cell hp 0).trans rfl; have p1 : wp.cell? ⟨p, 1, none⟩ = some (.slice none 0 0) := (blk_cell hp 1).trans rfl; have p2 : wp.cell? ⟨p, 2, none⟩ = some (.slice none 0 0) := (blk_cell hp 2).trans rfl; have fp0 := blk_frozen hp 0; have fp1 := blk_frozen hp 1; have fp2 := blk_frozen hp 2); have hB1 := HS.out.below lp; have x2 : wp.cell? ⟨b, 2, none⟩ = some (.int .i64 o) := (blk_cell hB1 2).trans rfl; have f2 := blk_frozen hB1 2) | fail)
  have HW := Aside0.mk (⟨by have := Ep.out; omega, by have := Ep.out; omega⟩ : w.heap.size ≤ p ∧ p ≠ b)
  have HB2 := Aside0.mk (hB1.open (o + 1))
  have HP2 := Aside0.mk ((Below.heap_setCell wp ⟨b, 2, none⟩ (.int .i64 (o + 1)) p HW.out.2).trans hp)
  have HF2 := Aside0.mk ((Mk.of lp : Mk b w wp).set 2 (.int .i64 (o + 1)))
  obtain ⟨w2, hw2⟩ : ∃ w2, wp.setCell ⟨b, 2, none⟩ (.int .i64 (o + 1)) = w2 := ⟨_, rfl⟩
  rw [hw2] at HB2 HP2 HF2
  rw [hw2]
  have HPL := Aside0.mk (blk_lt HP2.out)
  clear hw2 hB1 hp lp p0 p1 p2 fp0 fp1 fp2 x2 f2
  refine (HH.out.2.2.2.2 w2 S HH.out.2.1 HH.out.1 HB2.out).mono ?_
  intro e w3 hN3
  obtain ⟨R, hR⟩ : ∃ R, wys S = R := ⟨_, rfl⟩
  rw [hR] at hN3
  obtain ⟨k, As, ns, cs, Al, nl, cl, nd, at', o', rfl, hK3, hM3, hB3, ha3, hR3⟩ := hN3.open
  have HRR := Aside0.mk (⟨hR, ha3, hR3⟩ : wys S = R ∧ at' ≤ s.size ∧ (R.2.F = none → at' = R.2.at_ ∧ o' = o + 1 ∧ RT nd R.1))
  have HP3 := Aside0.mk (hK3.at HP2.out HW.out.2)
  have HF3 := Aside0.mk (HF2.out.trans hK3)
  have HM3 := Aside0.mk hM3
  have HB3 := Aside0.mk hB3
  clear hN3 hR ha3 hR3 hK3 hM3 hB3
  go_wp2_with (first | ((with_reducible refine gate_dst (N := 5) rfl ?_); (try (refine gate_guard (by rfl) ?_; dsimp only)); refine box_event ?hg (N := 5) ?hd (cs := #[.int .i64 0, .slice none 0 0, .slice none 0 0]) (t := 32) ?hr ?_; (case hd => rfl); (case hg => rfl); (case hr => first | (go_simp; done) | (go_simp; rfl)); intro n en wn hn ln; have En := Aside0.mk en; clear en; have n0 : wn.cell? ⟨n, 0, none⟩ = some (.int .i64 0) := (blk_cell hn 0).trans rfl; have n1 : wn.cell? ⟨n, 1, none⟩ = some (.slice none 0 0) := (blk_cell hn 1).trans rfl; have n2 : wn.cell? ⟨n, 2, none⟩ = some (.slice none 0 0) := (blk_cell hn 2).trans rfl; have fn0 := blk_frozen hn 0; have fn1 := blk_frozen hn 1; have fn2 := blk_frozen hn 2) | fail)
  have hnw : w3.heap.size ≤ n := by have := En.out; omega
  have hx := boxed3 hn ln hnw (.int .i64 k) (.slice As ns cs) (.slice Al nl cl)
  obtain ⟨w4, hw4⟩ : ∃ w4, ((wn.setCell ⟨n, 0, none⟩ (.int .i64 k)).setCell ⟨n, 1, none⟩ (.slice As ns cs)).setCell ⟨n, 2, none⟩ (.slice Al nl cl) = w4 := ⟨_, rfl⟩
  rw [hw4] at hx
  rw [hw4]
  obtain ⟨hl4, hn4⟩ := hx
  have HN4 := Aside0.mk hn4
  have HP4 := Aside0.mk (blk_below HP3.out hl4)
  have HB4 := Aside0.mk (HB3.out.below hl4)
  have HM4 := Aside0.mk (knd_below HM3.out hl4)
  have HF4 := Aside0.mk (HF3.out.trans (Mk.of hl4))
  have HNN := Aside0.mk (show n ≠ b ∧ n ≠ p by have h1 := blk_lt HB3.out; have h2 := blk_lt HP3.out; omega)
  clear hw4 hl4 hn4 hn ln n0 n1 n2 fn0 fn1 fn2 hnw HP3 HB3 HM3 HF3
  have ihP := pkW w4 b s at' o' R.2.F HB4.out
  obtain ⟨c, hc⟩ : ∃ c, pk s at' R.2.F = c := ⟨_, rfl⟩
  rw [hc] at ihP
  have HC := Aside0.mk hc
  clear hc
  refine ihP.mono ?_
  rintro e w5 ⟨rfl, hl5⟩
  have HN5 := Aside0.mk (blk_below HN4.out hl5)
  have HP5 := Aside0.mk (blk_below HP4.out hl5)
  have HB5 := Aside0.mk (HB4.out.below hl5)
  have HM5 := Aside0.mk (knd_below HM4.out hl5)
  have HF5 := Aside0.mk (HF4.out.trans (Mk.of hl5))
  clear ihP hl5 HN4 HP4 HB4 HM4 HF4
  by_cases hcc : c = some 41
  · subst hcc
    obtain ⟨hF3, hat3, -⟩ := pk_none_of HC.out
    obtain ⟨rfl, rfl, hRT⟩ := HRR.out.2.2 hF3
    have hB5 := HB5.out
    rw [hF3] at hB5
    obtain ⟨z, hz⟩ : ∃ z : Int, (R.2.at_ : Int) = z := ⟨_, rfl⟩
    have x1 : w5.cell? ⟨b, 1, none⟩ = some (.int .i64 z) := by rw [← hz]; exact (blk_cell hB5 1).trans rfl
    have x2 : w5.cell? ⟨b, 2, none⟩ = some (.int .i64 (o + 1)) := (blk_cell hB5 2).trans rfl
    have f1 := blk_frozen hB5 1
    have f2 := blk_frozen hB5 2
    have hz1 : z + 1 < 9223372036854775808 := by have := HH.out.2.2.1; omega
    have hz0 : 0 ≤ z := by omega
    have ho0 : 0 ≤ o := HH.out.2.2.2.1.1
    have h6 := (hB5.inc 1 (z + 1) (by omega)).open o
    have far : ∀ k, k ≠ b → ((w5.setCell ⟨b, 1, none⟩ (.int .i64 (z + 1))).setCell ⟨b, 2, none⟩ (.int .i64 o)).heap[k]? = w5.heap[k]? := fun k hk => (Below.heap_setCell _ ⟨b, 2, none⟩ _ k hk).trans (Below.heap_setCell w5 ⟨b, 1, none⟩ _ k hk)
    have hp := (far p HW.out.2).trans HP5.out
    have hn := (far n HNN.out.1).trans HN5.out
    have hM6 : knd.M ((w5.setCell ⟨b, 1, none⟩ (.int .i64 (z + 1))).setCell ⟨b, 2, none⟩ (.int .i64 o)) w2.heap.size (fun _ => True) nd [.int .i64 k, .slice As ns cs, .slice Al nl cl] := knd_mkb HM5.out (((Mk.refl b w5).set 1 _).set 2 _) (blk_lt HB2.out)
    have hF6 := (HF5.out.set 1 (.int .i64 (z + 1))).set 2 (.int .i64 o)
    have HX6 := Aside0.mk (⟨h6, hM6, hF6, hRT, hat3, hF3⟩ : _ ∧ _ ∧ _ ∧ RT nd R.1 ∧ R.2.at_ < s.size ∧ R.2.F = none)
    have HZ := Aside0.mk hz
    have HPp := Aside0.mk hp
    have n0 := (blk_cell hn 0).trans (show _ = some (Value.int .i64 k) from rfl)
    have n1 := (blk_cell hn 1).trans (show _ = some (Value.slice As ns cs) from rfl)
    have n2 := (blk_cell hn 2).trans (show _ = some (Value.slice Al nl cl) from rfl)
    have p0 := (blk_cell hp 0).trans (show _ = some (Value.int .i64 0) from rfl)
    have p1 := (blk_cell hp 1).trans (show _ = some (Value.slice none 0 0) from rfl)
    have p2 := (blk_cell hp 2).trans (show _ = some (Value.slice none 0 0) from rfl)
    have fp0 := blk_frozen hp 0
    have fp1 := blk_frozen hp 1
    have fp2 := blk_frozen hp 2
    clear h6 hM6 hF6 hp hn far hRT hat3 hB5 hz hF3
    go_wp2_with (fail)
    have hgr : grpFE wys s a S = (R.1, skip R.2 1) := by
      have h1 : peekB s R.2 = some 41 := by have := HC.out; rw [← pk_eq]; exact this
      unfold grpFE
      rw [HRR.out.1, if_pos h1]
    have hr := nok_ret (o := o) (r := grpFE wys s a S) HPp.out HW.out.1 HW.out.2 HPL.out HX6.out.2.1 HX6.out.2.2.1 (by rw [hgr]; show ParAt _ _ _ _ _ R.2.F; rw [HX6.out.2.2.2.2.2]; exact HX6.out.1) (by have := HX6.out.2.2.2.2.1; omega) (fun _ => by rw [hgr]; exact ⟨rfl, rfl, HX6.out.2.2.2.1⟩)
    (obtain ⟨w9, hw9⟩ : ∃ w9, World.setCell (World.setCell (World.setCell ((w5.setCell ⟨b, 1, none⟩ (.int .i64 (z + 1))).setCell ⟨b, 2, none⟩ (.int .i64 o)) ⟨p, 0, none⟩ (.int .i64 (k))) ⟨p, 1, none⟩ (.slice As ns cs)) ⟨p, 2, none⟩ (.slice Al nl cl) = w9 := ⟨_, rfl⟩; (try simp only [Exit.inBlock, Exit.then]); (try rw [hw9]); obtain ⟨c0, c1, c2, hN⟩ := hr w9 hw9; clear hw9; refine bodyPost_ret (by simp [results, Try.results64, go_sem, c0, c1, c2, hu32]; try rfl) rfl ?_)
    exact hN
  · have x0 : w5.cell? ⟨b, 0, none⟩ = some (.string s) := (blk_cell HB5.out 0).trans rfl
    have hf := failsW w5 b s at' o' R.2.F 3 s.size HB5.out
    have hgr : (grpFE wys s a S).2.F = orF R.2.F 3 s.size := by
      have h1 : ¬ peekB s R.2 = some 41 := by
        intro h
        have h2 := peek_lt h
        have h3 := HRR.out.2.2 h2.2.1
        apply hcc
        rw [← HC.out, h3.1, pk_eq]; exact h
      unfold grpFE
      rw [HRR.out.1, if_neg h1]
      exact wrong_or 3 s.size R.2
    have HG := Aside0.mk hgr
    have hsp : c = none ∨ ∃ c', c = some c' ∧ (c' == 41) = false := by
      cases c with
      | none => exact .inl rfl
      | some c' => exact .inr ⟨c', rfl, beq_false_of_ne (fun e => hcc (by rw [e]))⟩
    clear hcc hgr
    rcases hsp with rfl | ⟨c', rfl, hc'⟩
    all_goals
      go_wp2_with (fail)
      refine hf.mono ?_
      rintro e wy ⟨rfl, hBy, hFy⟩
      have hp := hFy.at HP5.out HW.out.2
      have HPy := Aside0.mk hp
      have HBy := Aside0.mk hBy
      have HFy := Aside0.mk (HF5.out.trans hFy)
      clear hBy hFy hf
      (have p0 : wy.cell? ⟨p, 0, none⟩ = some (.int .i64 0) := (blk_cell hp 0).trans rfl; have p1 : wy.cell? ⟨p, 1, none⟩ = some (.slice none 0 0) := (blk_cell hp 1).trans rfl; have p2 : wy.cell? ⟨p, 2, none⟩ = some (.slice none 0 0) := (blk_cell hp 2).trans rfl; have fp0 := blk_frozen hp 0; have fp1 := blk_frozen hp 1; have fp2 := blk_frozen hp 2)
      clear hp
      go_wp2_with (fail)
      have hr := nok_ret (o := o) (r := grpFE wys s a S) HPy.out HW.out.1 HW.out.2 (Nat.lt_succ_self p) (knd_leaf 0) HFy.out (by rw [HG.out]; exact HBy.out) HRR.out.2.1 (fun hn => by rw [HG.out] at hn; unfold orF at hn; split at hn <;> cases hn)
      (obtain ⟨w9, hw9⟩ : ∃ w9, World.setCell (World.setCell (World.setCell wy ⟨p, 0, none⟩ (.int .i64 (0))) ⟨p, 1, none⟩ (.slice none 0 0)) ⟨p, 2, none⟩ (.slice none 0 0) = w9 := ⟨_, rfl⟩; (try simp only [Exit.inBlock, Exit.then]); (try rw [hw9]); obtain ⟨c0, c1, c2, hN⟩ := hr w9 hw9; clear hw9; refine bodyPost_ret (by simp [results, Try.results64, go_sem, c0, c1, c2, hu32]; try rfl) rfl ?_)
      exact hN
end Go.Proofs.Ytnjpdhekeffpnaa.Rx

/- The document's reader of expressions: a thing, walked, where a group is told. -/
set_option linter.unusedVariables false
set_option linter.unusedSimpArgs false
namespace Go.Proofs.Ytnjpdhekeffpnaa.Rx
open Go.RowKit Go.Proofs.YtnjpdhekeffpnaaW.PrintWords Go.Proofs.YtnjpdhekeffpnaaW.PrintLast Go.Proofs.YtnjpdhekeffpnaaW.PrintMore

/-- a thing's walk, told -/
def ThR (b : Nat) (s : ByteArray) (o : Int) (th : BS → Re × BS) : Prop := ∀ W S, S.F = none → S.at_ < s.size → ParAt W b s S.at_ o none →
  Calls Try.prog 53 #[.pointer (some ⟨b, 0, none⟩)] W fun e W' => NOk W W' b s o (th S) e
theorem tabl_full : tabl (addR 0 0 256) = List.replicate 256 true := by decide +kernel
set_option maxHeartbeats 16000000 in
set_option maxRecDepth 100000 in
theorem thingR (b : Nat) (s : ByteArray) (o : Int) (grp : Nat → BS → Re × BS) (hs : s.size ≤ 200) (hg : GrpR b s o grp) : ThR b s o (thingE grp s) := by
  intro w S hF ha h
  have hu32 := Try.underlying32
  have hu76 := Try.underlying76
  have HS := Aside0.mk h
  have HH := Aside0.mk (⟨ha, hF, hs, hg⟩ : S.at_ + 1 ≤ s.size ∧ S.F = none ∧ s.size ≤ 200 ∧ GrpR b s o grp)
  have hbw : b < w.heap.size := blk_lt h
  clear h hF ha hs hg
  go_enter Try.func53, Try.ntmps53
  go_wp2_with (first | ((with_reducible refine gate_dst (N := 2) rfl ?_); (try (refine gate_guard (by rfl) ?_; dsimp only)); refine box_event ?hg (N := 2) ?hd (cs := #[.int .i64 0, .slice none 0 0, .slice none 0 0]) (t := 32) ?hr ?_; (case hd => rfl); (case hg => rfl); (case hr => first | (go_simp; done) | (go_simp; rfl)); intro p ep wp hp lp; have Ep := Aside0.mk ep; clear ep; have p0 : wp.cell? ⟨p, 0, none⟩ = some (.int .i64 0) := (blk_cell hp 0).trans rfl; have p1 : wp.cell? ⟨p, 1, none⟩ = some (.slice none 0 0) := (blk_cell hp 1).trans rfl; have p2 : wp.cell? ⟨p, 2, none⟩ = some (.slice none 0 0) := (blk_cell hp 2).trans rfl; have fp0 := blk_frozen hp 0; have fp1 := blk_frozen hp 1; have fp2 := blk_frozen hp 2) | fail)
  have HW := Aside0.mk (⟨by have := Ep.out; omega, by have := Ep.out; omega⟩ : w.heap.size ≤ p ∧ p ≠ b)
  have HB1 := Aside0.mk (HS.out.below lp)
  have HP1 := Aside0.mk hp
  have HF1 := Aside0.mk (Mk.of lp : Mk b w wp)
  clear hp lp p0 p1 p2 fp0 fp1 fp2
  obtain ⟨c, hc⟩ : ∃ c, pk s S.at_ none = some c := by
    unfold pk peekB
    rw [if_pos ⟨rfl, by have := HH.out.1; exact this⟩]
    exact ⟨_, rfl⟩
  have ihP := pkW wp b s S.at_ o none HB1.out
  rw [hc] at ihP
  have HC := Aside0.mk (show peekB s S = some c by rw [← pk_eq, HH.out.2.1]; exact hc)
  have hcr : 0 ≤ c ∧ c ≤ 255 := by rw [(peek_lt HC.out).2.2]; exact bt_range s S.at_
  have HCR := Aside0.mk hcr
  clear hc hcr
  refine ihP.mono ?_
  rintro e w2 ⟨rfl, hl2⟩
  obtain ⟨z, hz⟩ : ∃ z : Int, (S.at_ : Int) = z := ⟨_, rfl⟩
  have hB2 := HB1.out.below hl2
  have x0 : w2.cell? ⟨b, 0, none⟩ = some (.string s) := (blk_cell hB2 0).trans rfl
  have x1 : w2.cell? ⟨b, 1, none⟩ = some (.int .i64 z) := by rw [← hz]; exact (blk_cell hB2 1).trans rfl
  have f1 := blk_frozen hB2 1
  have hz1 : z + 2 < 9223372036854775808 := by have := HH.out; omega
  have hz0 : 0 ≤ z := by omega
  have HB3' := hB2.inc 1 (z + 1) (by omega)
  have HP3' := (Below.heap_setCell w2 ⟨b, 1, none⟩ (.int .i64 (z + 1)) p HW.out.2).trans (blk_below HP1.out hl2)
  have HF3' := (HF1.out.trans (Mk.of hl2)).set 1 (.int .i64 (z + 1))
  obtain ⟨w3, hw3⟩ : ∃ w3, w2.setCell ⟨b, 1, none⟩ (.int .i64 (z + 1)) = w3 := ⟨_, rfl⟩
  rw [hw3] at HB3' HP3' HF3'
  have HB3 := Aside0.mk HB3'
  have HP3 := Aside0.mk HP3'
  have HF3 := Aside0.mk HF3'
  have HZ := Aside0.mk hz
  have HPL3 := Aside0.mk (blk_lt HP3')
  clear HB3' HP3' HF3' hB2 hl2 ihP HB1 HP1 HF1 hz
  -- a star, a plus, a question mark
  by_cases h3 : c = 42 ∨ c = 43 ∨ c = 63
  · have hth : thingE grp s S = (.byte (addR 0 c.toNat 1), wrongB 2 S.at_ (skip S 1)) := by unfold thingE; rw [HC.out]; dsimp only [Option.getD]; rw [if_pos h3]
    have hf := failsW w3 b s (S.at_ + 1) o none 2 S.at_ HB3.out
    rw [HZ.out] at hf
    have HTH := Aside0.mk hth
    have c0 : 0 ≤ c := HCR.out.1
    have c1 : c < 256 := by have := HCR.out; omega
    clear hth
    rcases h3 with rfl | rfl | rfl
    all_goals
      go_wp2_with (fail)
      (try rw [hw3])
      refine hf.mono ?_
      rintro e w4 ⟨rfl, hB4, hF4⟩
      have HP4 := Aside0.mk (hF4.at HP3.out HW.out.2)
      have HB4 := Aside0.mk hB4
      have HF4 := Aside0.mk (HF3.out.trans hF4)
      clear hB4 hF4 hf x0 x1 f1
      go_wp2_with (fail)
      refine (oneW w4 _ (by decide) (by decide)).mono ?_
      rintro e wy ⟨g, cg, rfl, hMy, hly⟩
      have hp := blk_below HP4.out hly
      have HPy := Aside0.mk hp
      have HBy := Aside0.mk (HB4.out.below hly)
      have HFy := Aside0.mk (HF4.out.trans (Mk.of hly))
      have HMy := Aside0.mk hMy
      have HPL := Aside0.mk (blk_lt HP4.out)
      clear hly hMy
      (have p0 : wy.cell? ⟨p, 0, none⟩ = some (.int .i64 0) := (blk_cell hp 0).trans rfl; have p1 : wy.cell? ⟨p, 1, none⟩ = some (.slice none 0 0) := (blk_cell hp 1).trans rfl; have p2 : wy.cell? ⟨p, 2, none⟩ = some (.slice none 0 0) := (blk_cell hp 2).trans rfl; have fp0 := blk_frozen hp 0; have fp1 := blk_frozen hp 1; have fp2 := blk_frozen hp 2)
      clear hp
      go_wp2_with (fail)
      have hr := nok_ret (o := o) (r := thingE grp s S) HPy.out HW.out.1 HW.out.2 HPL.out HMy.out HFy.out (by rw [HTH.out]; show ParAt _ _ _ _ _ (wrongB 2 S.at_ (skip S 1)).F; rw [wrong_or]; show ParAt _ _ _ _ _ (orF S.F 2 S.at_); rw [HH.out.2.1]; exact HBy.out) HH.out.1 (fun hn => by rw [HTH.out] at hn; exact absurd hn (wrong_ne 2 S.at_ (skip S 1)))
      (obtain ⟨w9, hw9⟩ : ∃ w9, World.setCell (World.setCell (World.setCell wy ⟨p, 0, none⟩ (.int .i64 (1))) ⟨p, 1, none⟩ (.slice (some ⟨g, 0, none⟩) 256 cg)) ⟨p, 2, none⟩ (.slice none 0 0) = w9 := ⟨_, rfl⟩; (try simp only [Exit.inBlock, Exit.then]); (try rw [hw9]); obtain ⟨c0, c1, c2, hN⟩ := hr w9 hw9; clear hw9; refine bodyPost_ret (by simp [results, Try.results53, go_sem, c0, c1, c2, hu32]; try rfl) rfl ?_)
      exact hN
  · have n42 : (c == 42) = false := beq_false_of_ne (fun e => h3 (.inl e))
    have n43 : (c == 43) = false := beq_false_of_ne (fun e => h3 (.inr (.inl e)))
    have n63 : (c == 63) = false := beq_false_of_ne (fun e => h3 (.inr (.inr e)))
    by_cases h46 : c = 46
    · have hth : thingE grp s S = (.byte (addR 0 0 256), skip S 1) := by unfold thingE; rw [HC.out]; dsimp only [Option.getD]; rw [if_neg h3, if_pos h46]
      clear h3
      subst h46
      go_wp2_with (fail)
      (try rw [hw3])
      refine (bytesW w3 true).mono ?_
      rintro e wy ⟨g, cg, rfl, hMy, hly⟩
      have hp := blk_below HP3.out hly
      have HPy := Aside0.mk hp
      have HBy := Aside0.mk (HB3.out.below hly)
      have HFy := Aside0.mk (HF3.out.trans (Mk.of hly))
      have HMy := Aside0.mk (show Kd.R Kd.bool TO wy w3.heap.size (fun _ => True) (.slice (some ⟨g, 0, none⟩) 256 cg) (tabl (addR 0 0 256)) by rw [tabl_full]; unfold BoolAt at hMy; rwa [List.length_replicate] at hMy)
      clear hly hMy x0 x1 f1
      (have p0 : wy.cell? ⟨p, 0, none⟩ = some (.int .i64 0) := (blk_cell hp 0).trans rfl; have p1 : wy.cell? ⟨p, 1, none⟩ = some (.slice none 0 0) := (blk_cell hp 1).trans rfl; have p2 : wy.cell? ⟨p, 2, none⟩ = some (.slice none 0 0) := (blk_cell hp 2).trans rfl; have fp0 := blk_frozen hp 0; have fp1 := blk_frozen hp 1; have fp2 := blk_frozen hp 2)
      clear hp
      go_wp2_with (fail)
      have hr := nok_ret (o := o) (r := thingE grp s S) HPy.out HW.out.1 HW.out.2 HPL3.out (knd_mk (k := 1) HMy.out (Kd.R_nil _ _ _ _ _)) HFy.out (by rw [hth]; show ParAt _ _ _ _ _ S.F; rw [HH.out.2.1]; exact HBy.out) HH.out.1 (fun _ => by rw [hth]; exact ⟨rfl, rfl, RT.byte _⟩)
      (obtain ⟨w9, hw9⟩ : ∃ w9, World.setCell (World.setCell (World.setCell wy ⟨p, 0, none⟩ (.int .i64 (1))) ⟨p, 1, none⟩ (.slice (some ⟨g, 0, none⟩) 256 cg)) ⟨p, 2, none⟩ (.slice none 0 0) = w9 := ⟨_, rfl⟩; (try simp only [Exit.inBlock, Exit.then]); (try rw [hw9]); obtain ⟨c0, c1, c2, hN⟩ := hr w9 hw9; clear hw9; refine bodyPost_ret (by simp [results, Try.results53, go_sem, c0, c1, c2, hu32]; try rfl) rfl ?_)
      exact hN
    · have n46 : (c == 46) = false := beq_false_of_ne h46
      by_cases h94 : c = 94
      · have hth : thingE grp s S = (.beg, skip S 1) := by unfold thingE; rw [HC.out]; dsimp only [Option.getD]; rw [if_neg h3, if_neg h46, if_pos h94]
        clear h3 h46
        subst h94
        have hp := HP3.out
        (have p0 : w3.cell? ⟨p, 0, none⟩ = some (.int .i64 0) := (blk_cell hp 0).trans rfl; have p1 : w3.cell? ⟨p, 1, none⟩ = some (.slice none 0 0) := (blk_cell hp 1).trans rfl; have p2 : w3.cell? ⟨p, 2, none⟩ = some (.slice none 0 0) := (blk_cell hp 2).trans rfl; have fp0 := blk_frozen hp 0; have fp1 := blk_frozen hp 1; have fp2 := blk_frozen hp 2)
        clear hp
        go_wp2_with (fail)
        (try rw [hw3])
        have hr := nok_ret (o := o) (r := thingE grp s S) HP3.out HW.out.1 HW.out.2 (Nat.lt_succ_self p) (knd_leaf 2) HF3.out (by rw [hth]; show ParAt _ _ _ _ _ S.F; rw [HH.out.2.1]; exact HB3.out) HH.out.1 (fun _ => by rw [hth]; exact ⟨rfl, rfl, RT.beg⟩)
        (obtain ⟨w9, hw9⟩ : ∃ w9, World.setCell (World.setCell (World.setCell w3 ⟨p, 0, none⟩ (.int .i64 (2))) ⟨p, 1, none⟩ (.slice none 0 0)) ⟨p, 2, none⟩ (.slice none 0 0) = w9 := ⟨_, rfl⟩; (try simp only [Exit.inBlock, Exit.then]); (try rw [hw9]); obtain ⟨c0, c1, c2, hN⟩ := hr w9 hw9; clear hw9; refine bodyPost_ret (by simp [results, Try.results53, go_sem, c0, c1, c2, hu32]; try rfl) rfl ?_)
        exact hN
      · have n94 : (c == 94) = false := beq_false_of_ne h94
        by_cases h36 : c = 36
        · have hth : thingE grp s S = (.fin, skip S 1) := by unfold thingE; rw [HC.out]; dsimp only [Option.getD]; rw [if_neg h3, if_neg h46, if_neg h94, if_pos h36]
          clear h3 h46 h94
          subst h36
          have hp := HP3.out
          (have p0 : w3.cell? ⟨p, 0, none⟩ = some (.int .i64 0) := (blk_cell hp 0).trans rfl; have p1 : w3.cell? ⟨p, 1, none⟩ = some (.slice none 0 0) := (blk_cell hp 1).trans rfl; have p2 : w3.cell? ⟨p, 2, none⟩ = some (.slice none 0 0) := (blk_cell hp 2).trans rfl; have fp0 := blk_frozen hp 0; have fp1 := blk_frozen hp 1; have fp2 := blk_frozen hp 2)
          clear hp
          go_wp2_with (fail)
          (try rw [hw3])
          have hr := nok_ret (o := o) (r := thingE grp s S) HP3.out HW.out.1 HW.out.2 (Nat.lt_succ_self p) (knd_leaf 3) HF3.out (by rw [hth]; show ParAt _ _ _ _ _ S.F; rw [HH.out.2.1]; exact HB3.out) HH.out.1 (fun _ => by rw [hth]; exact ⟨rfl, rfl, RT.fin⟩)
          (obtain ⟨w9, hw9⟩ : ∃ w9, World.setCell (World.setCell (World.setCell w3 ⟨p, 0, none⟩ (.int .i64 (3))) ⟨p, 1, none⟩ (.slice none 0 0)) ⟨p, 2, none⟩ (.slice none 0 0) = w9 := ⟨_, rfl⟩; (try simp only [Exit.inBlock, Exit.then]); (try rw [hw9]); obtain ⟨c0, c1, c2, hN⟩ := hr w9 hw9; clear hw9; refine bodyPost_ret (by simp [results, Try.results53, go_sem, c0, c1, c2, hu32]; try rfl) rfl ?_)
          exact hN
        · have n36 : (c == 36) = false := beq_false_of_ne h36
          by_cases h40 : c = 40
          · have hth : thingE grp s S = grp S.at_ (skip S 1) := by unfold thingE; rw [HC.out]; dsimp only [Option.getD]; rw [if_neg h3, if_neg h46, if_neg h94, if_neg h36, if_neg (by omega), if_pos h40]
            clear h3 h46 h94 h36
            subst h40
            have hg := HH.out.2.2.2 w3 (skip S 1) S.at_ HH.out.2.1 HH.out.1 HB3.out
            rw [HZ.out] at hg
            go_wp2_with (fail)
            (try rw [hw3])
            refine hg.mono ?_
            intro e w4 hN4
            rw [← hth] at hN4
            obtain ⟨k, As, ns, cs, Al, nl, cl, nd, at', o', rfl, hK4, hM4, hB4, ha4, hR4⟩ := hN4.open
            have HP4 := Aside0.mk (hK4.at HP3.out HW.out.2)
            have HF4 := Aside0.mk (HF3.out.trans hK4)
            have HM4 := Aside0.mk hM4
            have HB4 := Aside0.mk hB4
            have HR4 := Aside0.mk (⟨ha4, hR4⟩ : at' ≤ s.size ∧ ((thingE grp s S).2.F = none → at' = (thingE grp s S).2.at_ ∧ o' = o ∧ RT nd (thingE grp s S).1))
            clear hN4 hK4 hM4 hB4 ha4 hR4 hg x0 x1 f1
            have hp := HP4.out
            (have p0 : w4.cell? ⟨p, 0, none⟩ = some (.int .i64 0) := (blk_cell hp 0).trans rfl; have p1 : w4.cell? ⟨p, 1, none⟩ = some (.slice none 0 0) := (blk_cell hp 1).trans rfl; have p2 : w4.cell? ⟨p, 2, none⟩ = some (.slice none 0 0) := (blk_cell hp 2).trans rfl; have fp0 := blk_frozen hp 0; have fp1 := blk_frozen hp 1; have fp2 := blk_frozen hp 2)
            clear hp
            go_wp2_with (fail)
            have hr := nok_ret (o := o) (r := thingE grp s S) HP4.out HW.out.1 HW.out.2 HPL3.out HM4.out HF4.out HB4.out HR4.out.1 HR4.out.2
            (obtain ⟨w9, hw9⟩ : ∃ w9, World.setCell (World.setCell (World.setCell w4 ⟨p, 0, none⟩ (.int .i64 (k))) ⟨p, 1, none⟩ (.slice As ns cs)) ⟨p, 2, none⟩ (.slice Al nl cl) = w9 := ⟨_, rfl⟩; (try simp only [Exit.inBlock, Exit.then]); (try rw [hw9]); obtain ⟨c0, c1, c2, hN⟩ := hr w9 hw9; clear hw9; refine bodyPost_ret (by simp [results, Try.results53, go_sem, c0, c1, c2, hu32]; try rfl) rfl ?_)
            exact hN
          · have n40 : (c == 40) = false := beq_false_of_ne h40
            by_cases h91 : c = 91
            · have hth : thingE grp s S = (.byte (bracketB s (skip S 1)).1, (bracketB s (skip S 1)).2) := by unfold thingE; rw [HC.out]; dsimp only [Option.getD]; rw [if_neg h3, if_neg h46, if_neg h94, if_neg h36, if_pos h91]
              clear h3 h46 h94 h36 h40
              subst h91
              have hg := setRW w3 b s (skip S 1) o HH.out.2.2.1 HH.out.1 HH.out.2.1 HB3.out
              go_wp2_with (fail)
              (try rw [hw3])
              refine hg.mono ?_
              intro e w4 hN4
              rw [← hth] at hN4
              obtain ⟨k, As, ns, cs, Al, nl, cl, nd, at', o', rfl, hK4, hM4, hB4, ha4, hR4⟩ := hN4.open
              have HP4 := Aside0.mk (hK4.at HP3.out HW.out.2)
              have HF4 := Aside0.mk (HF3.out.trans hK4)
              have HM4 := Aside0.mk hM4
              have HB4 := Aside0.mk hB4
              have HR4 := Aside0.mk (⟨ha4, hR4⟩ : at' ≤ s.size ∧ ((thingE grp s S).2.F = none → at' = (thingE grp s S).2.at_ ∧ o' = o ∧ RT nd (thingE grp s S).1))
              clear hN4 hK4 hM4 hB4 ha4 hR4 hg x0 x1 f1
              have hp := HP4.out
              (have p0 : w4.cell? ⟨p, 0, none⟩ = some (.int .i64 0) := (blk_cell hp 0).trans rfl; have p1 : w4.cell? ⟨p, 1, none⟩ = some (.slice none 0 0) := (blk_cell hp 1).trans rfl; have p2 : w4.cell? ⟨p, 2, none⟩ = some (.slice none 0 0) := (blk_cell hp 2).trans rfl; have fp0 := blk_frozen hp 0; have fp1 := blk_frozen hp 1; have fp2 := blk_frozen hp 2)
              clear hp
              go_wp2_with (fail)
              have hr := nok_ret (o := o) (r := thingE grp s S) HP4.out HW.out.1 HW.out.2 HPL3.out HM4.out HF4.out HB4.out HR4.out.1 HR4.out.2
              (obtain ⟨w9, hw9⟩ : ∃ w9, World.setCell (World.setCell (World.setCell w4 ⟨p, 0, none⟩ (.int .i64 (k))) ⟨p, 1, none⟩ (.slice As ns cs)) ⟨p, 2, none⟩ (.slice Al nl cl) = w9 := ⟨_, rfl⟩; (try simp only [Exit.inBlock, Exit.then]); (try rw [hw9]); obtain ⟨c0, c1, c2, hN⟩ := hr w9 hw9; clear hw9; refine bodyPost_ret (by simp [results, Try.results53, go_sem, c0, c1, c2, hu32]; try rfl) rfl ?_)
              exact hN
            · have n91 : (c == 91) = false := beq_false_of_ne h91
              by_cases h92 : c = 92
              · have hth : thingE grp s S = (.byte (addR 0 ((peekB s (skip S 1)).getD 0).toNat 1), skip (if (peekB s (skip S 1)).isNone then wrongB 3 s.size (skip S 1) else skip S 1) 1) := by unfold thingE; rw [HC.out]; dsimp only [Option.getD]; rw [if_neg h3, if_neg h46, if_neg h94, if_neg h36, if_neg h91, if_neg h40, if_pos h92]
                clear h3 h46 h94 h36 h40 h91
                subst h92
                have ihQ := pkW w3 b s (S.at_ + 1) o none HB3.out
                obtain ⟨d, hd⟩ : ∃ d, pk s (S.at_ + 1) none = d := ⟨_, rfl⟩
                have hd2 : peekB s (skip S 1) = d := by rw [← hd, ← pk_eq]; show pk s (S.at_ + 1) S.F = _; rw [HH.out.2.1]
                rw [hd2] at hth
                rw [hd] at ihQ
                have HTH := Aside0.mk hth
                have HD := Aside0.mk (show pk s (S.at_ + 1) none = d from hd)
                clear hth hd hd2
                go_wp2_with (fail)
                (try rw [hw3])
                refine ihQ.mono ?_
                rintro e w4 ⟨rfl, hl4⟩
                have HB4 := Aside0.mk (HB3.out.below hl4)
                have HP4 := Aside0.mk (blk_below HP3.out hl4)
                have HF4 := Aside0.mk (HF3.out.trans (Mk.of hl4))
                clear ihQ hl4 x0 x1 f1
                have x0 : w4.cell? ⟨b, 0, none⟩ = some (.string s) := (blk_cell HB4.out 0).trans rfl
                have x1 : w4.cell? ⟨b, 1, none⟩ = some (.int .i64 (z + 1)) := by rw [← HZ.out]; exact (blk_cell HB4.out 1).trans rfl
                have f1 := blk_frozen HB4.out 1
                cases d with
                | none =>
                  have hf := failsW w4 b s (S.at_ + 1) o none 3 s.size HB4.out
                  go_wp2_with (fail)
                  refine hf.mono ?_
                  rintro e wy ⟨rfl, hBy, hFy⟩
                  have hp := hFy.at HP4.out HW.out.2
                  have HPy := Aside0.mk hp
                  have HBy := Aside0.mk hBy
                  have HFy := Aside0.mk (HF4.out.trans hFy)
                  clear hBy hFy hf x0 x1 f1
                  (have p0 : wy.cell? ⟨p, 0, none⟩ = some (.int .i64 0) := (blk_cell hp 0).trans rfl; have p1 : wy.cell? ⟨p, 1, none⟩ = some (.slice none 0 0) := (blk_cell hp 1).trans rfl; have p2 : wy.cell? ⟨p, 2, none⟩ = some (.slice none 0 0) := (blk_cell hp 2).trans rfl; have fp0 := blk_frozen hp 0; have fp1 := blk_frozen hp 1; have fp2 := blk_frozen hp 2)
                  clear hp
                  go_wp2_with (fail)
                  have hfn : (thingE grp s S).2.F = orF none 3 s.size := by
                    rw [HTH.out]
                    refine (wrong_or 3 s.size (skip S 1)).trans ?_
                    show orF S.F 3 s.size = _
                    rw [HH.out.2.1]
                  have hr := nok_ret (o := o) (r := thingE grp s S) HPy.out HW.out.1 HW.out.2 (Nat.lt_succ_self p) (knd_leaf 0) HFy.out (by rw [hfn]; exact HBy.out) HH.out.1 (fun hn => by rw [hfn] at hn; cases hn)
                  (obtain ⟨w9, hw9⟩ : ∃ w9, World.setCell (World.setCell (World.setCell wy ⟨p, 0, none⟩ (.int .i64 (0))) ⟨p, 1, none⟩ (.slice none 0 0)) ⟨p, 2, none⟩ (.slice none 0 0) = w9 := ⟨_, rfl⟩; (try simp only [Exit.inBlock, Exit.then]); (try rw [hw9]); obtain ⟨c0, c1, c2, hN⟩ := hr w9 hw9; clear hw9; refine bodyPost_ret (by simp [results, Try.results53, go_sem, c0, c1, c2, hu32]; try rfl) rfl ?_)
                  exact hN
                | some d =>
                  obtain ⟨-, hat, hdb⟩ := pk_none_of HD.out
                  have hdr : 0 ≤ d ∧ d ≤ 255 := by rw [hdb]; exact bt_range s _
                  have HDR := Aside0.mk (⟨hdr, hat⟩ : (0 ≤ d ∧ d ≤ 255) ∧ S.at_ + 1 < s.size)
                  have HB5' := HB4.out.inc 1 (z + 2) (by have := HZ.out; omega)
                  have HP5' := (Below.heap_setCell w4 ⟨b, 1, none⟩ (.int .i64 (z + 2)) p HW.out.2).trans HP4.out
                  have HF5' := HF4.out.set 1 (.int .i64 (z + 2))
                  obtain ⟨w5, hw5⟩ : ∃ w5, w4.setCell ⟨b, 1, none⟩ (.int .i64 (z + 2)) = w5 := ⟨_, rfl⟩
                  rw [hw5] at HB5' HP5' HF5'
                  have HB5 := Aside0.mk HB5'
                  have HP5 := Aside0.mk HP5'
                  have HF5 := Aside0.mk HF5'
                  have hzz : z + 1 + 1 = z + 2 := by omega
                  clear HB5' HP5' HF5' hdb hat hdr
                  go_wp2_with (fail)
                  (try rw [hzz, hw5])
                  refine (oneW w5 d HDR.out.1.1 (by have := HDR.out; omega)).mono ?_
                  rintro e wy ⟨g, cg, rfl, hMy, hly⟩
                  have hp := blk_below HP5.out hly
                  have HPy := Aside0.mk hp
                  have HBy := Aside0.mk (HB5.out.below hly)
                  have HFy := Aside0.mk (HF5.out.trans (Mk.of hly))
                  have HMy := Aside0.mk hMy
                  have HPL := Aside0.mk (blk_lt HP5.out)
                  clear hly hMy
                  (have p0 : wy.cell? ⟨p, 0, none⟩ = some (.int .i64 0) := (blk_cell hp 0).trans rfl; have p1 : wy.cell? ⟨p, 1, none⟩ = some (.slice none 0 0) := (blk_cell hp 1).trans rfl; have p2 : wy.cell? ⟨p, 2, none⟩ = some (.slice none 0 0) := (blk_cell hp 2).trans rfl; have fp0 := blk_frozen hp 0; have fp1 := blk_frozen hp 1; have fp2 := blk_frozen hp 2)
                  clear hp
                  go_wp2_with (fail)
                  have hr := nok_ret (o := o) (r := thingE grp s S) HPy.out HW.out.1 HW.out.2 HPL.out HMy.out HFy.out (by rw [HTH.out]; show ParAt _ _ _ _ _ S.F; rw [HH.out.2.1]; exact HBy.out) HDR.out.2 (fun hn => by rw [HTH.out]; exact ⟨rfl, rfl, RT.byte _⟩)
                  (obtain ⟨w9, hw9⟩ : ∃ w9, World.setCell (World.setCell (World.setCell wy ⟨p, 0, none⟩ (.int .i64 (1))) ⟨p, 1, none⟩ (.slice (some ⟨g, 0, none⟩) 256 cg)) ⟨p, 2, none⟩ (.slice none 0 0) = w9 := ⟨_, rfl⟩; (try simp only [Exit.inBlock, Exit.then]); (try rw [hw9]); obtain ⟨c0, c1, c2, hN⟩ := hr w9 hw9; clear hw9; refine bodyPost_ret (by simp [results, Try.results53, go_sem, c0, c1, c2, hu32]; try rfl) rfl ?_)
                  exact hN
              · have n92 : (c == 92) = false := beq_false_of_ne h92
                have hth : thingE grp s S = (.byte (addR 0 c.toNat 1), skip S 1) := by unfold thingE; rw [HC.out]; dsimp only [Option.getD]; rw [if_neg h3, if_neg h46, if_neg h94, if_neg h36, if_neg h91, if_neg h40, if_neg h92]
                clear h3 h46 h94 h36 h40 h91 h92
                have c0 : 0 ≤ c := HCR.out.1
                have c1 : c < 256 := by have := HCR.out; omega
                go_wp2_with (fail)
                (try rw [hw3])
                clear x0 x1 f1
                refine (oneW w3 c c0 c1).mono ?_
                rintro e wy ⟨g, cg, rfl, hMy, hly⟩
                have hp := blk_below HP3.out hly
                have HPy := Aside0.mk hp
                have HBy := Aside0.mk (HB3.out.below hly)
                have HFy := Aside0.mk (HF3.out.trans (Mk.of hly))
                have HMy := Aside0.mk hMy
                have HPL := Aside0.mk (blk_lt HP3.out)
                clear hly hMy
                (have p0 : wy.cell? ⟨p, 0, none⟩ = some (.int .i64 0) := (blk_cell hp 0).trans rfl; have p1 : wy.cell? ⟨p, 1, none⟩ = some (.slice none 0 0) := (blk_cell hp 1).trans rfl; have p2 : wy.cell? ⟨p, 2, none⟩ = some (.slice none 0 0) := (blk_cell hp 2).trans rfl; have fp0 := blk_frozen hp 0; have fp1 := blk_frozen hp 1; have fp2 := blk_frozen hp 2)
                clear hp
                go_wp2_with (fail)
                have hr := nok_ret (o := o) (r := thingE grp s S) HPy.out HW.out.1 HW.out.2 HPL.out HMy.out HFy.out (by rw [hth]; show ParAt _ _ _ _ _ S.F; rw [HH.out.2.1]; exact HBy.out) HH.out.1 (fun hn => by rw [hth]; exact ⟨rfl, rfl, RT.byte _⟩)
                (obtain ⟨w9, hw9⟩ : ∃ w9, World.setCell (World.setCell (World.setCell wy ⟨p, 0, none⟩ (.int .i64 (1))) ⟨p, 1, none⟩ (.slice (some ⟨g, 0, none⟩) 256 cg)) ⟨p, 2, none⟩ (.slice none 0 0) = w9 := ⟨_, rfl⟩; (try simp only [Exit.inBlock, Exit.then]); (try rw [hw9]); obtain ⟨c0, c1, c2, hN⟩ := hr w9 hw9; clear hw9; refine bodyPost_ret (by simp [results, Try.results53, go_sem, c0, c1, c2, hu32]; try rfl) rfl ?_)
                exact hN
end Go.Proofs.Ytnjpdhekeffpnaa.Rx
