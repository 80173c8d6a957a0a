/- The reader of expressions: a thing, walked, where a group is told. -/
import Derived.Test.YtnjpdhekeffpnaaRxL
import Derived.Test.YtnjpdhekeffpnaaRxK
set_option linter.unusedVariables false
set_option linter.unusedSimpArgs false
namespace Go.Proofs.Ytnjpdhekeffpnaa.Rx
open Go.RowKit Go.Proofs.YtnjpdhekeffpnaaW.PrintWords Go.Proofs.YtnjpdhekeffpnaaW.PrintLast Go.Proofs.YtnjpdhekeffpnaaW.PrintMore

/-- a group's walk, told -/
def GrpOk (base b : Nat) (s : ByteArray) (deep : Nat) (grp : Nat → BS → Part × BS) : Prop := ∀ W S (at_ : Nat), BAt W base b s S → S.at_ ≤ s.size → S.st.length ≤ 4 * S.at_ + 2 →
  Calls Try.prog 61 #[.pointer (some ⟨b, 0, none⟩), .int .i64 (at_ : Int), .int .i64 (deep : Int)] W fun r W' => PartAt W W' base b s (grp at_ S) r
theorem stpV_kind (k m : Nat) : stpV ⟨k, m, 0, 0⟩ = .agg #[.int .i64 (k : Int), .int .u64 (wd m 0), .int .u64 (wd m 1), .int .u64 (wd m 2), .int .u64 (wd m 3), .int .i64 0, .int .i64 0] := rfl
theorem stpV_kind0 (k : Nat) : stpV ⟨k, 0, 0, 0⟩ = .agg #[.int .i64 (k : Int), .int .u64 0, .int .u64 0, .int .u64 0, .int .u64 0, .int .i64 0, .int .i64 0] := by simp [stpV, wd]
theorem setAddN (w : World) (q m lo hi n : Nat) (x y : Int) (hx : x = (lo : Int)) (hy : y = (hi : Int)) (hn : hi + 1 - lo = n) (h : w.heap[q]? = some (.cells (sC m) TE (0, 0))) (h1 : lo < 256) (h2 : hi < 256) :
    Calls Try.prog 58 #[.pointer (some ⟨q, 0, none⟩), .int .u8 x, .int .u8 y] w fun r w' => r = .returned (.tuple #[]) ∧ w'.heap[q]? = some (.cells (sC (addR m lo n)) TE (0, 0)) ∧ One q w w' := by
  subst hx hy hn
  exact setAddW w q m lo hi h h1 h2
theorem setAllW (w : World) (q : Nat) (h : w.heap[q]? = some (.cells (sC 0) TE (0, 0))) :
    ∃ mm, mm = addR 0 0 256 ∧ Calls Try.prog 58 #[.pointer (some ⟨q, 0, none⟩), .int .u8 0, .int .u8 255] w fun r w' => r = .returned (.tuple #[]) ∧ w'.heap[q]? = some (.cells (sC mm) TE (0, 0)) ∧ One q w w' :=
  ⟨_, rfl, setAddN w q 0 0 255 256 0 255 (by simp) (by simp) (by simp) h (by simp) (by simp)⟩
set_option maxHeartbeats 16000000 in
set_option maxRecDepth 100000 in
theorem thingW (base b : Nat) (s : ByteArray) (deep : Nat) (grp : Nat → BS → Part × BS) (hs : s.size ≤ 200) (hg : GrpOk base b s deep grp)
    (w : World) (S : BS) (h : BAt w base b s S) (h0 : 0 < S.st.length) (ha : S.at_ < s.size) (hl : S.st.length ≤ 4 * S.at_ + 3) :
    Calls Try.prog 51 #[.pointer (some ⟨b, 0, none⟩), .int .i64 (deep : Int)] w fun r w' => PartAt w w' base b s (thingB grp s S) r := by
  have hu72 := Try.underlying72
  have hu69 := Try.underlying69
  have hu100 := Try.underlying100
  have hu98 := Try.underlying98
  have HS := Aside0.mk h
  have HG := Aside0.mk hg
  obtain ⟨za, hza⟩ : ∃ za : Int, (S.at_ : Int) = za := ⟨_, rfl⟩
  have hat : za + 1 < 9223372036854775808 := by omega
  have hat2 : za + 1 + 1 < 9223372036854775808 := by omega
  have hat0 : 0 ≤ za := by omega
  have HH := Aside0.mk (⟨hs, ha, hl, hza⟩ : s.size ≤ 200 ∧ S.at_ < s.size ∧ S.st.length ≤ 4 * S.at_ + 3 ∧ (S.at_ : Int) = za)
  obtain ⟨hb1, vs, hb2, hR2⟩ := h
  have x1 : w.cell? ⟨b, 1, none⟩ = some (.int .i64 za) := by rw [← hza]; exact (blk_cell hb2 1).trans rfl
  clear hs hg h0 ha hl hza hb1 hb2 hR2
  go_enter Try.func51, Try.ntmps51
  go_wp2_with (first | (((with_reducible refine gate_dst (N := 4) rfl ?_); (try (refine gate_guard (by rfl) ?_; dsimp only)); refine box_event ?hg (N := 4) ?hd (cs := #[.int .i64 0, .slice none 0 0]) (t := 72) ?hr ?_; (case hd => rfl); (case hg => rfl); (case hr => first | (go_simp; done) | (go_simp; rfl)); intro p ep wp hp lp; have Ep := Aside0.mk ep; clear ep); have x1 : wp.cell? ⟨b, 1, none⟩ = some (.int .i64 za) := (pw_cell_below lp x1)) | fail)
  have hbs := HS.out.base_le
  have HW := Aside0.mk (⟨by have := Ep.out; omega, by have := Ep.out; have := HS.out.lt; omega, hbs⟩ : w.heap.size ≤ p ∧ p ≠ b ∧ base ≤ w.heap.size)
  refine (peekW wp base b s S (HS.out.below lp)).mono ?_
  rintro e w2 ⟨rfl, hb2⟩
  have HB2 := Aside0.mk ((HS.out.below lp).below hb2)
  have HF2 := Aside0.mk (Fr.of (b := b) (O := none) hbs (below_then lp lp.size hb2))
  have HP2 := Aside0.mk (blk_below hp hb2)
  have hbk := HB2.out.2.choose_spec.1
  clear x1
  have x1 : w2.cell? ⟨b, 1, none⟩ = some (.int .i64 za) := by rw [← HH.out.2.2.2]; exact (blk_cell hbk 1).trans rfl
  have f1 := blk_frozen hbk 1
  obtain ⟨c, hc⟩ : ∃ c, (peekB s S).getD 0 = c := ⟨_, rfl⟩
  obtain ⟨ok, hok⟩ : ∃ ok, (peekB s S).isSome = ok := ⟨_, rfl⟩
  have hc0 : 0 ≤ c ∧ c ≤ 255 := by
    rw [← hc]
    unfold peekB
    split
    · exact bt_range s S.at_
    · exact ⟨by decide, by decide⟩
  rw [hc, hok]
  have hTB : thingB grp s S = thingB grp s S := rfl
  rw (config := { occs := .pos [2] }) [thingB] at hTB
  dsimp only at hTB
  rw [hc] at hTB
  have HT := Aside0.mk hTB
  have HC := Aside0.mk (⟨hc, hc0⟩ : (peekB s S).getD 0 = c ∧ 0 ≤ c ∧ c ≤ 255)
  have hinc := HB2.out.inc 1 (za + 1) (by rw [← HH.out.2.2.2]; simp)
  have HB3 := Aside0.mk hinc.1
  have HF3 := Aside0.mk (HF2.out.trans hinc.2)
  have HP3 := Aside0.mk ((Below.heap_setCell w2 ⟨b, 1, none⟩ (.int .i64 (za + 1)) p HW.out.2.1).trans HP2.out)
  clear hTB hc hok hbk hb2 lp hbs hp hinc hc0
  have nstop : ∀ (k : Int), c ≠ k → (c == k) = false := fun k h => beq_false_of_ne h
  have Hns := Aside0.mk nstop
  clear nstop
  obtain ⟨w3, hw3⟩ : ∃ w3, World.setCell w2 ⟨b, 1, none⟩ (.int .i64 (za + 1)) = w3 := ⟨_, rfl⟩
  rw [hw3] at HB3 HF3 HP3
  have HW3 := Aside0.mk hw3
  clear hw3
  by_cases hc1 : c = 42 ∨ c = 43 ∨ c = 63
  · have hT := HT.out
    rw [if_pos hc1] at hT
    have HE := Aside0.mk hT
    rcases hc1 with rfl | rfl | rfl
    · clear hT
      go_wp2_with (fail)
      rw [HW3.out]
      have hw := wrongW w3 base b s (skip S 1) 2 S.at_ HB3.out
      rw [HH.out.2.2.2] at hw
      refine hw.mono ?_
      rintro e w5 ⟨rfl, hB5, hF5⟩
      have HP5 := Aside0.mk (hF5.blk HP3.out HW.out.2.1 (by simp) (by decide))
      have HF5 := Aside0.mk (HF3.out.trans hF5)
      have HB5 := Aside0.mk hB5
      clear hB5 hF5 hw
      go_wp2_with (fail)
      have ih := byteOfW w5 base b s (wrongB 2 S.at_ (skip S 1)) (Int.toNat 42) HB5.out (by rw [wrongB_st, skip_st]; have := HH.out; omega) (by decide)
      obtain ⟨R, hR⟩ : ∃ R, byteOf (Int.toNat 42) (wrongB 2 S.at_ (skip S 1)) = R := ⟨_, rfl⟩
      rw [hR] at ih HE
      refine (calls_of_args rfl ih).mono ?_
      (rintro e w4 ⟨v, rfl, hO4, hB4, hF4⟩; obtain ⟨Av, cv, rfl⟩ := hO4.slice; have hp := hF4.blk HP5.out HW.out.2.1 (by simp) (by decide); have p0 : w4.cell? ⟨p, 0, none⟩ = some (.int .i64 0) := (blk_cell hp 0).trans rfl; have p1 : w4.cell? ⟨p, 1, none⟩ = some (.slice none 0 0) := (blk_cell hp 1).trans rfl; have fp0 := blk_frozen hp 0; have fp1 := blk_frozen hp 1; go_wp2_with (fail); have hr := ret_partX (O := none) (base2 := w.heap.size) HW.out.2.2 hp HW.out.1 HW.out.2.1 hB4 (HF5.out.trans hF4) R.1.1 (.slice Av R.1.2.length cv) R.1.2 (hO4.lower HF5.out.grow))
      (obtain ⟨w9, hw9⟩ : ∃ w9, World.setCell (World.setCell w4 ⟨p, 0, none⟩ (.int .i64 (R.1.1 : Int))) ⟨p, 1, none⟩ (.slice Av R.1.2.length cv) = w9 := ⟨_, rfl⟩; rw [hw9] at hr; rw [hw9]; clear hw9; have c0 : w9.cell? ⟨p, 0, none⟩ = some (.int .i64 (R.1.1 : Int)) := (blk_cell hr.1 0).trans rfl; have c1 : w9.cell? ⟨p, 1, none⟩ = some (.slice Av R.1.2.length cv) := (blk_cell hr.1 1).trans rfl; refine bodyPost_ret (by simp [results, Try.results51, go_sem, c0, c1, hu72]; try rfl) rfl ?_)
      rw [HE.out]
      exact hr.2
    · clear hT
      go_wp2_with (fail)
      rw [HW3.out]
      have hw := wrongW w3 base b s (skip S 1) 2 S.at_ HB3.out
      rw [HH.out.2.2.2] at hw
      refine hw.mono ?_
      rintro e w5 ⟨rfl, hB5, hF5⟩
      have HP5 := Aside0.mk (hF5.blk HP3.out HW.out.2.1 (by simp) (by decide))
      have HF5 := Aside0.mk (HF3.out.trans hF5)
      have HB5 := Aside0.mk hB5
      clear hB5 hF5 hw
      go_wp2_with (fail)
      have ih := byteOfW w5 base b s (wrongB 2 S.at_ (skip S 1)) (Int.toNat 43) HB5.out (by rw [wrongB_st, skip_st]; have := HH.out; omega) (by decide)
      obtain ⟨R, hR⟩ : ∃ R, byteOf (Int.toNat 43) (wrongB 2 S.at_ (skip S 1)) = R := ⟨_, rfl⟩
      rw [hR] at ih HE
      refine (calls_of_args rfl ih).mono ?_
      (rintro e w4 ⟨v, rfl, hO4, hB4, hF4⟩; obtain ⟨Av, cv, rfl⟩ := hO4.slice; have hp := hF4.blk HP5.out HW.out.2.1 (by simp) (by decide); have p0 : w4.cell? ⟨p, 0, none⟩ = some (.int .i64 0) := (blk_cell hp 0).trans rfl; have p1 : w4.cell? ⟨p, 1, none⟩ = some (.slice none 0 0) := (blk_cell hp 1).trans rfl; have fp0 := blk_frozen hp 0; have fp1 := blk_frozen hp 1; go_wp2_with (fail); have hr := ret_partX (O := none) (base2 := w.heap.size) HW.out.2.2 hp HW.out.1 HW.out.2.1 hB4 (HF5.out.trans hF4) R.1.1 (.slice Av R.1.2.length cv) R.1.2 (hO4.lower HF5.out.grow))
      (obtain ⟨w9, hw9⟩ : ∃ w9, World.setCell (World.setCell w4 ⟨p, 0, none⟩ (.int .i64 (R.1.1 : Int))) ⟨p, 1, none⟩ (.slice Av R.1.2.length cv) = w9 := ⟨_, rfl⟩; rw [hw9] at hr; rw [hw9]; clear hw9; have c0 : w9.cell? ⟨p, 0, none⟩ = some (.int .i64 (R.1.1 : Int)) := (blk_cell hr.1 0).trans rfl; have c1 : w9.cell? ⟨p, 1, none⟩ = some (.slice Av R.1.2.length cv) := (blk_cell hr.1 1).trans rfl; refine bodyPost_ret (by simp [results, Try.results51, go_sem, c0, c1, hu72]; try rfl) rfl ?_)
      rw [HE.out]
      exact hr.2
    · clear hT
      go_wp2_with (fail)
      rw [HW3.out]
      have hw := wrongW w3 base b s (skip S 1) 2 S.at_ HB3.out
      rw [HH.out.2.2.2] at hw
      refine hw.mono ?_
      rintro e w5 ⟨rfl, hB5, hF5⟩
      have HP5 := Aside0.mk (hF5.blk HP3.out HW.out.2.1 (by simp) (by decide))
      have HF5 := Aside0.mk (HF3.out.trans hF5)
      have HB5 := Aside0.mk hB5
      clear hB5 hF5 hw
      go_wp2_with (fail)
      have ih := byteOfW w5 base b s (wrongB 2 S.at_ (skip S 1)) (Int.toNat 63) HB5.out (by rw [wrongB_st, skip_st]; have := HH.out; omega) (by decide)
      obtain ⟨R, hR⟩ : ∃ R, byteOf (Int.toNat 63) (wrongB 2 S.at_ (skip S 1)) = R := ⟨_, rfl⟩
      rw [hR] at ih HE
      refine (calls_of_args rfl ih).mono ?_
      (rintro e w4 ⟨v, rfl, hO4, hB4, hF4⟩; obtain ⟨Av, cv, rfl⟩ := hO4.slice; have hp := hF4.blk HP5.out HW.out.2.1 (by simp) (by decide); have p0 : w4.cell? ⟨p, 0, none⟩ = some (.int .i64 0) := (blk_cell hp 0).trans rfl; have p1 : w4.cell? ⟨p, 1, none⟩ = some (.slice none 0 0) := (blk_cell hp 1).trans rfl; have fp0 := blk_frozen hp 0; have fp1 := blk_frozen hp 1; go_wp2_with (fail); have hr := ret_partX (O := none) (base2 := w.heap.size) HW.out.2.2 hp HW.out.1 HW.out.2.1 hB4 (HF5.out.trans hF4) R.1.1 (.slice Av R.1.2.length cv) R.1.2 (hO4.lower HF5.out.grow))
      (obtain ⟨w9, hw9⟩ : ∃ w9, World.setCell (World.setCell w4 ⟨p, 0, none⟩ (.int .i64 (R.1.1 : Int))) ⟨p, 1, none⟩ (.slice Av R.1.2.length cv) = w9 := ⟨_, rfl⟩; rw [hw9] at hr; rw [hw9]; clear hw9; have c0 : w9.cell? ⟨p, 0, none⟩ = some (.int .i64 (R.1.1 : Int)) := (blk_cell hr.1 0).trans rfl; have c1 : w9.cell? ⟨p, 1, none⟩ = some (.slice Av R.1.2.length cv) := (blk_cell hr.1 1).trans rfl; refine bodyPost_ret (by simp [results, Try.results51, go_sem, c0, c1, hu72]; try rfl) rfl ?_)
      rw [HE.out]
      exact hr.2
  · have hT := HT.out
    rw [if_neg hc1] at hT
    have s1 := Hns.out 42 (fun e => hc1 (.inl e))
    have s2 := Hns.out 43 (fun e => hc1 (.inr (.inl e)))
    have s3 := Hns.out 63 (fun e => hc1 (.inr (.inr e)))
    clear hc1
    have hLen : S.st.length ≤ 900000 := by have := HH.out; omega
    have HLen := Aside0.mk hLen
    clear hLen
    by_cases hc2 : c = 46
    · rw [if_pos hc2] at hT
      have HE := Aside0.mk hT
      subst hc2
      clear hT s1 s2 s3
      go_wp2_with (first | ((with_reducible refine gate_dst (N := 8) rfl ?_); (try (refine gate_guard (by rfl) ?_; dsimp only)); refine box_event ?hg (N := 8) ?hd (cs := sC 0) (t := 98) ?hr ?_; (case hd => rfl); (case hg => rfl); (case hr => first | (go_simp; done) | (go_simp; rfl)); intro q eq wq hq lq; have Eq := Aside0.mk eq; clear eq) | fail)
      rw [HW3.out] at lq Eq
      obtain ⟨m, hm, hall⟩ := setAllW wq q hq
      rw [← hm] at HE
      clear hm
      refine hall.mono ?_
      rintro e w5 ⟨rfl, hq5, hO5⟩
      have hqb : q ≠ b := by have := Eq.out; have := HB3.out.lt; omega
      have hqw : w.heap.size ≤ q := by have := Eq.out; have := HF3.out.grow; omega
      have hqp : p ≠ q := by have := Eq.out; have := blk_lt HP3.out; omega
      have HB5 := Aside0.mk ((HB3.out.below lq).one hO5 hq (by decide) hqb (Nat.le_trans HW.out.2.2 hqw))
      have HF5 := Aside0.mk ((HF3.out.trans (Fr.of HB3.out.base_le lq)).one hO5 HW.out.2.2 hqw)
      have HP5 := Aside0.mk ((hO5.keep p hqp).trans (blk_below HP3.out lq))
      have z0 : w5.cell? ⟨q, 0, none⟩ = some (.int .u64 (wd m 0)) := (blk_cell hq5 0).trans rfl
      have z1 : w5.cell? ⟨q, 1, none⟩ = some (.int .u64 (wd m 1)) := (blk_cell hq5 1).trans rfl
      have z2 : w5.cell? ⟨q, 2, none⟩ = some (.int .u64 (wd m 2)) := (blk_cell hq5 2).trans rfl
      have z3 : w5.cell? ⟨q, 3, none⟩ = some (.int .u64 (wd m 3)) := (blk_cell hq5 3).trans rfl
      have ih := singleW w5 base b s (skip S 1) ⟨0, m, 0, 0⟩ HB5.out (Nat.le_trans HLen.out (by decide))
      rw [stpV_kind] at ih
      obtain ⟨a0, ha0⟩ : ∃ a, wd m 0 = a := ⟨_, rfl⟩
      obtain ⟨a1, ha1⟩ : ∃ a, wd m 1 = a := ⟨_, rfl⟩
      obtain ⟨a2, ha2⟩ : ∃ a, wd m 2 = a := ⟨_, rfl⟩
      obtain ⟨a3, ha3⟩ : ∃ a, wd m 3 = a := ⟨_, rfl⟩
      rw [ha0] at ih z0
      rw [ha1] at ih z1
      rw [ha2] at ih z2
      rw [ha3] at ih z3
      obtain ⟨R, hR⟩ : ∃ R, single ⟨0, m, 0, 0⟩ (skip S 1) = R := ⟨_, rfl⟩
      rw [hR] at ih HE
      clear hall hR ha0 ha1 ha2 ha3 hq5 hO5 hq lq hqb hqw hqp
      go_wp2_with (fail)
      refine ih.mono ?_
      (rintro e w4 ⟨v, rfl, hO4, hB4, hF4⟩; obtain ⟨Av, cv, rfl⟩ := hO4.slice; have hp := hF4.blk HP5.out HW.out.2.1 (by simp) (by decide); have p0 : w4.cell? ⟨p, 0, none⟩ = some (.int .i64 0) := (blk_cell hp 0).trans rfl; have p1 : w4.cell? ⟨p, 1, none⟩ = some (.slice none 0 0) := (blk_cell hp 1).trans rfl; have fp0 := blk_frozen hp 0; have fp1 := blk_frozen hp 1; go_wp2_with (fail); have hr := ret_partX (O := none) (base2 := w.heap.size) HW.out.2.2 hp HW.out.1 HW.out.2.1 hB4 (HF5.out.trans hF4) R.1.1 (.slice Av R.1.2.length cv) R.1.2 (hO4.lower HF5.out.grow))
      (obtain ⟨w9, hw9⟩ : ∃ w9, World.setCell (World.setCell w4 ⟨p, 0, none⟩ (.int .i64 (R.1.1 : Int))) ⟨p, 1, none⟩ (.slice Av R.1.2.length cv) = w9 := ⟨_, rfl⟩; rw [hw9] at hr; rw [hw9]; clear hw9; have c0 : w9.cell? ⟨p, 0, none⟩ = some (.int .i64 (R.1.1 : Int)) := (blk_cell hr.1 0).trans rfl; have c1 : w9.cell? ⟨p, 1, none⟩ = some (.slice Av R.1.2.length cv) := (blk_cell hr.1 1).trans rfl; refine bodyPost_ret (by simp [results, Try.results51, go_sem, c0, c1, hu72]; try rfl) rfl ?_)
      rw [HE.out]
      exact hr.2
    · rw [if_neg hc2] at hT
      have s4 := Hns.out 46 hc2
      clear hc2
      by_cases hc3 : c = 94
      · rw [if_pos hc3] at hT
        have HE := Aside0.mk hT
        subst hc3
        clear hT s1 s2 s3 s4
        have ih := singleW w3 base b s (skip S 1) ⟨2, 0, 0, 0⟩ HB3.out (Nat.le_trans HLen.out (by decide))
        rw [stpV_kind0] at ih
        obtain ⟨R, hR⟩ : ∃ R, single ⟨2, 0, 0, 0⟩ (skip S 1) = R := ⟨_, rfl⟩
        rw [hR] at ih HE
        clear hR
        go_wp2_with (fail)
        rw [HW3.out]
        refine (calls_of_args rfl ih).mono ?_
        (rintro e w4 ⟨v, rfl, hO4, hB4, hF4⟩; obtain ⟨Av, cv, rfl⟩ := hO4.slice; have hp := hF4.blk HP3.out HW.out.2.1 (by simp) (by decide); have p0 : w4.cell? ⟨p, 0, none⟩ = some (.int .i64 0) := (blk_cell hp 0).trans rfl; have p1 : w4.cell? ⟨p, 1, none⟩ = some (.slice none 0 0) := (blk_cell hp 1).trans rfl; have fp0 := blk_frozen hp 0; have fp1 := blk_frozen hp 1; go_wp2_with (fail); have hr := ret_partX (O := none) (base2 := w.heap.size) HW.out.2.2 hp HW.out.1 HW.out.2.1 hB4 (HF3.out.trans hF4) R.1.1 (.slice Av R.1.2.length cv) R.1.2 (hO4.lower HF3.out.grow))
        (obtain ⟨w9, hw9⟩ : ∃ w9, World.setCell (World.setCell w4 ⟨p, 0, none⟩ (.int .i64 (R.1.1 : Int))) ⟨p, 1, none⟩ (.slice Av R.1.2.length cv) = w9 := ⟨_, rfl⟩; rw [hw9] at hr; rw [hw9]; clear hw9; have c0 : w9.cell? ⟨p, 0, none⟩ = some (.int .i64 (R.1.1 : Int)) := (blk_cell hr.1 0).trans rfl; have c1 : w9.cell? ⟨p, 1, none⟩ = some (.slice Av R.1.2.length cv) := (blk_cell hr.1 1).trans rfl; refine bodyPost_ret (by simp [results, Try.results51, go_sem, c0, c1, hu72]; try rfl) rfl ?_)
        rw [HE.out]
        exact hr.2
      · rw [if_neg hc3] at hT
        have s5 := Hns.out 94 hc3
        clear hc3
        by_cases hc4 : c = 36
        · rw [if_pos hc4] at hT
          have HE := Aside0.mk hT
          subst hc4
          clear hT s1 s2 s3 s4 s5
          have ih := singleW w3 base b s (skip S 1) ⟨3, 0, 0, 0⟩ HB3.out (Nat.le_trans HLen.out (by decide))
          rw [stpV_kind0] at ih
          obtain ⟨R, hR⟩ : ∃ R, single ⟨3, 0, 0, 0⟩ (skip S 1) = R := ⟨_, rfl⟩
          rw [hR] at ih HE
          clear hR
          go_wp2_with (fail)
          rw [HW3.out]
          refine (calls_of_args rfl ih).mono ?_
          (rintro e w4 ⟨v, rfl, hO4, hB4, hF4⟩; obtain ⟨Av, cv, rfl⟩ := hO4.slice; have hp := hF4.blk HP3.out HW.out.2.1 (by simp) (by decide); have p0 : w4.cell? ⟨p, 0, none⟩ = some (.int .i64 0) := (blk_cell hp 0).trans rfl; have p1 : w4.cell? ⟨p, 1, none⟩ = some (.slice none 0 0) := (blk_cell hp 1).trans rfl; have fp0 := blk_frozen hp 0; have fp1 := blk_frozen hp 1; go_wp2_with (fail); have hr := ret_partX (O := none) (base2 := w.heap.size) HW.out.2.2 hp HW.out.1 HW.out.2.1 hB4 (HF3.out.trans hF4) R.1.1 (.slice Av R.1.2.length cv) R.1.2 (hO4.lower HF3.out.grow))
          (obtain ⟨w9, hw9⟩ : ∃ w9, World.setCell (World.setCell w4 ⟨p, 0, none⟩ (.int .i64 (R.1.1 : Int))) ⟨p, 1, none⟩ (.slice Av R.1.2.length cv) = w9 := ⟨_, rfl⟩; rw [hw9] at hr; rw [hw9]; clear hw9; have c0 : w9.cell? ⟨p, 0, none⟩ = some (.int .i64 (R.1.1 : Int)) := (blk_cell hr.1 0).trans rfl; have c1 : w9.cell? ⟨p, 1, none⟩ = some (.slice Av R.1.2.length cv) := (blk_cell hr.1 1).trans rfl; refine bodyPost_ret (by simp [results, Try.results51, go_sem, c0, c1, hu72]; try rfl) rfl ?_)
          rw [HE.out]
          exact hr.2
        · rw [if_neg hc4] at hT
          have s6 := Hns.out 36 hc4
          clear hc4
          by_cases hc5 : c = 91
          · rw [if_pos hc5] at hT
            have HE := Aside0.mk hT
            subst hc5
            clear hT s1 s2 s3 s4 s5 s6
            have ihb := bracketW w3 base b s (skip S 1) HB3.out HH.out.1 (by rw [skip_at]; exact HH.out.2.1)
            have hBl := (bracketB_at s (skip S 1)).2
            obtain ⟨K, hK⟩ : ∃ K, bracketB s (skip S 1) = K := ⟨_, rfl⟩
            rw [hK] at ihb HE hBl
            clear hK
            go_wp2_with (fail)
            rw [HW3.out]
            refine ihb.mono ?_
            rintro e w5 ⟨rfl, hB5, hF5⟩
            have HP5 := Aside0.mk (hF5.blk HP3.out HW.out.2.1 (by simp) (by decide))
            have HF5 := Aside0.mk (HF3.out.trans hF5)
            have HB5 := Aside0.mk hB5
            have ih := singleW w5 base b s K.2 ⟨0, K.1, 0, 0⟩ HB5.out (by rw [hBl]; exact Nat.le_trans HLen.out (by decide))
            rw [stpV_kind] at ih
            unfold setV
            obtain ⟨a0, ha0⟩ : ∃ a, wd K.1 0 = a := ⟨_, rfl⟩
            obtain ⟨a1, ha1⟩ : ∃ a, wd K.1 1 = a := ⟨_, rfl⟩
            obtain ⟨a2, ha2⟩ : ∃ a, wd K.1 2 = a := ⟨_, rfl⟩
            obtain ⟨a3, ha3⟩ : ∃ a, wd K.1 3 = a := ⟨_, rfl⟩
            rw [ha0, ha1, ha2, ha3] at ih
            rw [ha0, ha1, ha2, ha3]
            obtain ⟨R, hR⟩ : ∃ R, single ⟨0, K.1, 0, 0⟩ K.2 = R := ⟨_, rfl⟩
            rw [hR] at ih HE
            clear hR ha0 ha1 ha2 ha3 hB5 hF5 hBl ihb
            go_wp2_with (fail)
            refine ih.mono ?_
            (rintro e w4 ⟨v, rfl, hO4, hB4, hF4⟩; obtain ⟨Av, cv, rfl⟩ := hO4.slice; have hp := hF4.blk HP5.out HW.out.2.1 (by simp) (by decide); have p0 : w4.cell? ⟨p, 0, none⟩ = some (.int .i64 0) := (blk_cell hp 0).trans rfl; have p1 : w4.cell? ⟨p, 1, none⟩ = some (.slice none 0 0) := (blk_cell hp 1).trans rfl; have fp0 := blk_frozen hp 0; have fp1 := blk_frozen hp 1; go_wp2_with (fail); have hr := ret_partX (O := none) (base2 := w.heap.size) HW.out.2.2 hp HW.out.1 HW.out.2.1 hB4 (HF5.out.trans hF4) R.1.1 (.slice Av R.1.2.length cv) R.1.2 (hO4.lower HF5.out.grow))
            (obtain ⟨w9, hw9⟩ : ∃ w9, World.setCell (World.setCell w4 ⟨p, 0, none⟩ (.int .i64 (R.1.1 : Int))) ⟨p, 1, none⟩ (.slice Av R.1.2.length cv) = w9 := ⟨_, rfl⟩; rw [hw9] at hr; rw [hw9]; clear hw9; have c0 : w9.cell? ⟨p, 0, none⟩ = some (.int .i64 (R.1.1 : Int)) := (blk_cell hr.1 0).trans rfl; have c1 : w9.cell? ⟨p, 1, none⟩ = some (.slice Av R.1.2.length cv) := (blk_cell hr.1 1).trans rfl; refine bodyPost_ret (by simp [results, Try.results51, go_sem, c0, c1, hu72]; try rfl) rfl ?_)
            rw [HE.out]
            exact hr.2
          · rw [if_neg hc5] at hT
            have s7 := Hns.out 91 hc5
            clear hc5
            by_cases hc6 : c = 40
            · rw [if_pos hc6] at hT
              have HE := Aside0.mk hT
              subst hc6
              clear hT s1 s2 s3 s4 s5 s6 s7
              have ih := HG.out w3 (skip S 1) S.at_ HB3.out (by rw [skip_at]; exact HH.out.2.1) (by rw [skip_at, skip_st]; have := HH.out; omega)
              rw [HH.out.2.2.2] at ih
              obtain ⟨R, hR⟩ : ∃ R, grp S.at_ (skip S 1) = R := ⟨_, rfl⟩
              rw [hR] at ih HE
              clear hR
              go_wp2_with (fail)
              rw [HW3.out]
              refine ih.mono ?_
              (rintro e w4 ⟨v, rfl, hO4, hB4, hF4⟩; obtain ⟨Av, cv, rfl⟩ := hO4.slice; have hp := hF4.blk HP3.out HW.out.2.1 (by simp) (by decide); have p0 : w4.cell? ⟨p, 0, none⟩ = some (.int .i64 0) := (blk_cell hp 0).trans rfl; have p1 : w4.cell? ⟨p, 1, none⟩ = some (.slice none 0 0) := (blk_cell hp 1).trans rfl; have fp0 := blk_frozen hp 0; have fp1 := blk_frozen hp 1; go_wp2_with (fail); have hr := ret_partX (O := none) (base2 := w.heap.size) HW.out.2.2 hp HW.out.1 HW.out.2.1 hB4 (HF3.out.trans hF4) R.1.1 (.slice Av R.1.2.length cv) R.1.2 (hO4.lower HF3.out.grow))
              (obtain ⟨w9, hw9⟩ : ∃ w9, World.setCell (World.setCell w4 ⟨p, 0, none⟩ (.int .i64 (R.1.1 : Int))) ⟨p, 1, none⟩ (.slice Av R.1.2.length cv) = w9 := ⟨_, rfl⟩; rw [hw9] at hr; rw [hw9]; clear hw9; have c0 : w9.cell? ⟨p, 0, none⟩ = some (.int .i64 (R.1.1 : Int)) := (blk_cell hr.1 0).trans rfl; have c1 : w9.cell? ⟨p, 1, none⟩ = some (.slice Av R.1.2.length cv) := (blk_cell hr.1 1).trans rfl; refine bodyPost_ret (by simp [results, Try.results51, go_sem, c0, c1, hu72]; try rfl) rfl ?_)
              rw [HE.out]
              exact hr.2
            · rw [if_neg hc6] at hT
              have s8 := Hns.out 40 hc6
              clear hc6
              by_cases hc7 : c = 92
              · rw [if_pos hc7] at hT
                have HE := Aside0.mk hT
                subst hc7
                clear hT s1 s2 s3 s4 s5 s6 s7 s8
                have ihp := peekW w3 base b s (skip S 1) HB3.out
                obtain ⟨k, hk⟩ : ∃ k, peekB s (skip S 1) = k := ⟨_, rfl⟩
                have hk0 : ∀ k1, k = some k1 → 0 ≤ k1 ∧ k1 ≤ 255 := fun k1 e => by
                  rw [← hk] at e
                  rw [(peek_lt e).2.2]
                  exact bt_range s _
                have HK0 := Aside0.mk hk0
                rw [hk] at ihp HE
                clear hk hk0
                go_wp2_with (fail)
                rw [HW3.out]
                refine ihp.mono ?_
                rintro e w5 ⟨rfl, hb5⟩
                have HB5 := Aside0.mk (HB3.out.below hb5)
                have HF5 := Aside0.mk (HF3.out.trans (Fr.of HB3.out.base_le hb5))
                have HP5 := Aside0.mk (blk_below HP3.out hb5)
                clear hb5 ihp
                have hbk := HB5.out.2.choose_spec.1
                have y0 : w5.cell? ⟨b, 0, none⟩ = some (.string s) := (blk_cell hbk 0).trans rfl
                have y1 : w5.cell? ⟨b, 1, none⟩ = some (.int .i64 (za + 1)) := by rw [← HH.out.2.2.2]; exact (blk_cell hbk 1).trans rfl
                have g1 := blk_frozen hbk 1
                clear hbk
                cases k with
                | some k1 =>
                  have hk1 := HK0.out k1 rfl
                  have HK1 := Aside0.mk hk1
                  clear hk1
                  go_wp2_with (fail)
                  have hinc := HB5.out.inc 1 (za + 1 + 1) (by rw [← HH.out.2.2.2]; show _ = ((S.at_ + 1 : Nat) : Int) + 1; simp)
                  have HP6 := Aside0.mk ((Below.heap_setCell w5 ⟨b, 1, none⟩ (.int .i64 (za + 1 + 1)) p HW.out.2.1).trans HP5.out)
                  have HF6 := Aside0.mk (HF5.out.trans hinc.2)
                  have ih := byteOfW _ base b s (skip (skip S 1) 1) k1.toNat hinc.1 (Nat.le_trans HLen.out (by decide)) (by have := HK1.out; omega)
                  rw [Int.toNat_of_nonneg HK1.out.1] at ih
                  obtain ⟨R, hR⟩ : ∃ R, byteOf k1.toNat (skip (skip S 1) 1) = R := ⟨_, rfl⟩
                  have HE2 := Aside0.mk (HE.out.trans hR)
                  rw [hR] at ih
                  refine ih.mono ?_
                  clear HE
                  have HE := HE2
                  (rintro e w4 ⟨v, rfl, hO4, hB4, hF4⟩; obtain ⟨Av, cv, rfl⟩ := hO4.slice; have hp := hF4.blk HP6.out HW.out.2.1 (by simp) (by decide); have p0 : w4.cell? ⟨p, 0, none⟩ = some (.int .i64 0) := (blk_cell hp 0).trans rfl; have p1 : w4.cell? ⟨p, 1, none⟩ = some (.slice none 0 0) := (blk_cell hp 1).trans rfl; have fp0 := blk_frozen hp 0; have fp1 := blk_frozen hp 1; go_wp2_with (fail); have hr := ret_partX (O := none) (base2 := w.heap.size) HW.out.2.2 hp HW.out.1 HW.out.2.1 hB4 (HF6.out.trans hF4) R.1.1 (.slice Av R.1.2.length cv) R.1.2 (hO4.lower HF6.out.grow))
                  (obtain ⟨w9, hw9⟩ : ∃ w9, World.setCell (World.setCell w4 ⟨p, 0, none⟩ (.int .i64 (R.1.1 : Int))) ⟨p, 1, none⟩ (.slice Av R.1.2.length cv) = w9 := ⟨_, rfl⟩; rw [hw9] at hr; rw [hw9]; clear hw9; have c0 : w9.cell? ⟨p, 0, none⟩ = some (.int .i64 (R.1.1 : Int)) := (blk_cell hr.1 0).trans rfl; have c1 : w9.cell? ⟨p, 1, none⟩ = some (.slice Av R.1.2.length cv) := (blk_cell hr.1 1).trans rfl; refine bodyPost_ret (by simp [results, Try.results51, go_sem, c0, c1, hu72]; try rfl) rfl ?_)
                  rw [HE.out]
                  exact hr.2
                | none =>
                  go_wp2_with (fail)
                  refine (wrongW w5 base b s (skip S 1) 3 s.size HB5.out).mono ?_
                  rintro e w6 ⟨rfl, hB6, hF6⟩
                  have HP6 := Aside0.mk (hF6.blk HP5.out HW.out.2.1 (by simp) (by decide))
                  have HF6 := Aside0.mk (HF5.out.trans hF6)
                  have HB6 := Aside0.mk hB6
                  clear hB6 hF6 y0 y1 g1
                  have hbk := HB6.out.2.choose_spec.1
                  have y1 : w6.cell? ⟨b, 1, none⟩ = some (.int .i64 (za + 1)) := by rw [← HH.out.2.2.2]; exact (blk_cell hbk 1).trans (by show some (Value.int .i64 ((wrongB 3 s.size (skip S 1)).at_ : Int)) = _; rw [wrongB_at]; rfl)
                  have g1 := blk_frozen hbk 1
                  clear hbk
                  go_wp2_with (fail)
                  have hinc := HB6.out.inc 1 (za + 1 + 1) (by rw [wrongB_at, ← HH.out.2.2.2]; show _ = ((S.at_ + 1 : Nat) : Int) + 1; simp)
                  have HP7 := Aside0.mk ((Below.heap_setCell w6 ⟨b, 1, none⟩ (.int .i64 (za + 1 + 1)) p HW.out.2.1).trans HP6.out)
                  have HF7 := Aside0.mk (HF6.out.trans hinc.2)
                  have ih := byteOfW _ base b s (skip (wrongB 3 s.size (skip S 1)) 1) 0 hinc.1 (by rw [skip_st, wrongB_st]; exact Nat.le_trans HLen.out (by decide)) (by decide)
                  obtain ⟨R, hR⟩ : ∃ R, byteOf 0 (skip (wrongB 3 s.size (skip S 1)) 1) = R := ⟨_, rfl⟩
                  have HE2 := Aside0.mk (HE.out.trans hR)
                  rw [hR] at ih
                  refine (calls_of_args rfl ih).mono ?_
                  clear HE
                  have HE := HE2
                  (rintro e w4 ⟨v, rfl, hO4, hB4, hF4⟩; obtain ⟨Av, cv, rfl⟩ := hO4.slice; have hp := hF4.blk HP7.out HW.out.2.1 (by simp) (by decide); have p0 : w4.cell? ⟨p, 0, none⟩ = some (.int .i64 0) := (blk_cell hp 0).trans rfl; have p1 : w4.cell? ⟨p, 1, none⟩ = some (.slice none 0 0) := (blk_cell hp 1).trans rfl; have fp0 := blk_frozen hp 0; have fp1 := blk_frozen hp 1; go_wp2_with (fail); have hr := ret_partX (O := none) (base2 := w.heap.size) HW.out.2.2 hp HW.out.1 HW.out.2.1 hB4 (HF7.out.trans hF4) R.1.1 (.slice Av R.1.2.length cv) R.1.2 (hO4.lower HF7.out.grow))
                  (obtain ⟨w9, hw9⟩ : ∃ w9, World.setCell (World.setCell w4 ⟨p, 0, none⟩ (.int .i64 (R.1.1 : Int))) ⟨p, 1, none⟩ (.slice Av R.1.2.length cv) = w9 := ⟨_, rfl⟩; rw [hw9] at hr; rw [hw9]; clear hw9; have c0 : w9.cell? ⟨p, 0, none⟩ = some (.int .i64 (R.1.1 : Int)) := (blk_cell hr.1 0).trans rfl; have c1 : w9.cell? ⟨p, 1, none⟩ = some (.slice Av R.1.2.length cv) := (blk_cell hr.1 1).trans rfl; refine bodyPost_ret (by simp [results, Try.results51, go_sem, c0, c1, hu72]; try rfl) rfl ?_)
                  rw [HE.out]
                  exact hr.2
              · rw [if_neg hc7] at hT
                have s9 := Hns.out 92 hc7
                have HE := Aside0.mk hT
                clear hc7 hT
                have ih := byteOfW w3 base b s (skip S 1) c.toNat HB3.out (Nat.le_trans HLen.out (by decide)) (by have := HC.out; omega)
                rw [Int.toNat_of_nonneg HC.out.2.1] at ih
                obtain ⟨R, hR⟩ : ∃ R, byteOf c.toNat (skip S 1) = R := ⟨_, rfl⟩
                rw [hR] at ih HE
                clear hR
                go_wp2_with (fail)
                rw [HW3.out]
                refine ih.mono ?_
                (rintro e w4 ⟨v, rfl, hO4, hB4, hF4⟩; obtain ⟨Av, cv, rfl⟩ := hO4.slice; have hp := hF4.blk HP3.out HW.out.2.1 (by simp) (by decide); have p0 : w4.cell? ⟨p, 0, none⟩ = some (.int .i64 0) := (blk_cell hp 0).trans rfl; have p1 : w4.cell? ⟨p, 1, none⟩ = some (.slice none 0 0) := (blk_cell hp 1).trans rfl; have fp0 := blk_frozen hp 0; have fp1 := blk_frozen hp 1; go_wp2_with (fail); have hr := ret_partX (O := none) (base2 := w.heap.size) HW.out.2.2 hp HW.out.1 HW.out.2.1 hB4 (HF3.out.trans hF4) R.1.1 (.slice Av R.1.2.length cv) R.1.2 (hO4.lower HF3.out.grow))
                (obtain ⟨w9, hw9⟩ : ∃ w9, World.setCell (World.setCell w4 ⟨p, 0, none⟩ (.int .i64 (R.1.1 : Int))) ⟨p, 1, none⟩ (.slice Av R.1.2.length cv) = w9 := ⟨_, rfl⟩; rw [hw9] at hr; rw [hw9]; clear hw9; have c0 : w9.cell? ⟨p, 0, none⟩ = some (.int .i64 (R.1.1 : Int)) := (blk_cell hr.1 0).trans rfl; have c1 : w9.cell? ⟨p, 1, none⟩ = some (.slice Av R.1.2.length cv) := (blk_cell hr.1 1).trans rfl; refine bodyPost_ret (by simp [results, Try.results51, go_sem, c0, c1, hu72]; try rfl) rfl ?_)
                rw [HE.out]
                exact hr.2
end Go.Proofs.Ytnjpdhekeffpnaa.Rx
