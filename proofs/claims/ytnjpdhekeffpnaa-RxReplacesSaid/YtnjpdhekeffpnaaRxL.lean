/- The reader of expressions: a group, walked, where ways are told. -/
import Derived.Test.YtnjpdhekeffpnaaRxR
set_option linter.unusedVariables false
set_option linter.unusedSimpArgs false
namespace Go.Proofs.Ytnjpdhekeffpnaa.Rx
open Go.RowKit Go.Proofs.YtnjpdhekeffpnaaW.PrintWords Go.Proofs.YtnjpdhekeffpnaaW.PrintLast Go.Proofs.YtnjpdhekeffpnaaW.PrintMore

theorem outs_nil (w : World) (base : Nat) : OutsAt w base (.slice none 0 0) [] := Kd.R_nil _ _ _ _ _
set_option maxHeartbeats 16000000 in
set_option maxRecDepth 100000 in
theorem groupW0 (w : World) (base b : Nat) (s : ByteArray) (S : BS) (at_ : Nat) (h : BAt w base b s S) :
    Calls Try.prog 61 #[.pointer (some ⟨b, 0, none⟩), .int .i64 (at_ : Int), .int .i64 16] w fun r w' => PartAt w w' base b s ((0, []), wrongB 4 at_ S) r := by
  have hu72 := Try.underlying72
  have HS := Aside0.mk h
  clear h
  go_enter Try.func61, Try.ntmps61
  go_wp2_with (first | ((with_reducible refine gate_dst (N := 6) rfl ?_); (try (refine gate_guard (by rfl) ?_; dsimp only)); refine box_event ?hg (N := 6) ?hd (cs := #[.int .i64 0, .slice none 0 0]) (t := 72) ?hr ?_; (case hd => rfl); (case hg => rfl); (case hr => first | (go_simp; done) | (go_simp; rfl)); intro p ep wp hp lp; have Ep := Aside0.mk ep; clear ep) | fail)
  have hbs := HS.out.base_le
  have HW := Aside0.mk (⟨by have := Ep.out; omega, by have := Ep.out; have := HS.out.lt; omega, hbs⟩ : w.heap.size ≤ p ∧ p ≠ b ∧ base ≤ w.heap.size)
  refine (wrongW wp base b s S 4 at_ (HS.out.below lp)).mono ?_
  rintro e w3 ⟨rfl, hB3, hF3⟩
  have hp := hF3.blk hp HW.out.2.1 (by simp) (by decide)
  have HB3 := Aside0.mk hB3
  have HF3 := Aside0.mk ((Fr.of (b := b) (O := none) hbs lp).trans hF3)
  clear hB3 hF3 lp hbs
  have p0 : w3.cell? ⟨p, 0, none⟩ = some (.int .i64 0) := (blk_cell hp 0).trans rfl; have p1 : w3.cell? ⟨p, 1, none⟩ = some (.slice none 0 0) := (blk_cell hp 1).trans rfl; have fp0 := blk_frozen hp 0; have fp1 := blk_frozen hp 1
  go_wp2_with (fail)
  have hr := ret_partX (O := none) (base2 := w.heap.size) HW.out.2.2 hp HW.out.1 HW.out.2.1 HB3.out HF3.out 0 (.slice none 0 0) [] (outs_nil _ _)
  change _ ∧ PartX w (World.setCell (World.setCell w3 ⟨p, 0, none⟩ (.int .i64 0)) ⟨p, 1, none⟩ (.slice none 0 0)) base w.heap.size b none s ((0, []), wrongB 4 at_ S) (.returned (.agg #[.int .i64 0, .slice none 0 0])) at hr
  rw [show ((0 : Nat) : Int) = 0 from rfl] at hr
  (obtain ⟨w9, hw9⟩ : ∃ w9, World.setCell (World.setCell w3 ⟨p, 0, none⟩ (.int .i64 (0))) ⟨p, 1, none⟩ (.slice none 0 0) = w9 := ⟨_, rfl⟩; rw [hw9] at hr; rw [hw9]; clear hw9; have c0 : w9.cell? ⟨p, 0, none⟩ = some (.int .i64 (0)) := (blk_cell hr.1 0).trans rfl; have c1 : w9.cell? ⟨p, 1, none⟩ = some (.slice none 0 0) := (blk_cell hr.1 1).trans rfl; refine bodyPost_ret (by simp [results, Try.results61, go_sem, c0, c1, hu72]; try rfl) rfl ?_)
  exact hr.2
/-- ways' walk, told -/
def WysOk (base b : Nat) (s : ByteArray) (deep : Nat) (wys : BS → Part × BS) : Prop := ∀ W S, BAt W base b s S → S.at_ ≤ s.size + 20 → S.st.length ≤ 4 * S.at_ + 2 →
  Calls Try.prog 23 #[.pointer (some ⟨b, 0, none⟩), .int .i64 (deep : Int)] W fun r W' => PartAt W W' base b s (wys S) r
set_option maxHeartbeats 16000000 in
set_option maxRecDepth 100000 in
theorem groupW1 (base b : Nat) (s : ByteArray) (deep : Nat) (wys : BS → Part × BS) (hd : deep < 16) (hs : s.size ≤ 200) (hw : WysOk base b s (deep + 1) wys) (hup : ∀ S, S.at_ ≤ s.size → (wys S).2.at_ ≤ s.size + 20)
    (w : World) (S : BS) (at_ : Nat) (h : BAt w base b s S) (ha : S.at_ ≤ s.size) (hl : S.st.length ≤ 4 * S.at_ + 2) :
    Calls Try.prog 61 #[.pointer (some ⟨b, 0, none⟩), .int .i64 (at_ : Int), .int .i64 (deep : Int)] w fun r w' => PartAt w w' base b s (grpF wys s at_ S) r := by
  have hu72 := Try.underlying72
  have hu69 := Try.underlying69
  have HS := Aside0.mk h
  have d16 : ((deep : Int) == 16) = false := beq_false_of_ne (by omega)
  have dd : (deep : Int) + 1 < 9223372036854775808 := by omega
  have hY := hw
  have hU := hup S ha
  obtain ⟨Q, hQ⟩ : ∃ Q, wys S = Q := ⟨_, rfl⟩
  have hF : grpF wys s at_ S = (Q.1, skip (if peekB s Q.2 = some 41 then Q.2 else wrongB 3 s.size Q.2) 1) := by rw [grpF, hQ]
  have HH := Aside0.mk (⟨hF, hs, by rw [← hQ]; exact hU, ha, hl⟩ : grpF wys s at_ S = (Q.1, skip (if peekB s Q.2 = some 41 then Q.2 else wrongB 3 s.size Q.2) 1) ∧ s.size ≤ 200 ∧ Q.2.at_ ≤ s.size + 20 ∧ S.at_ ≤ s.size ∧ S.st.length ≤ 4 * S.at_ + 2)
  clear h hs hw hup ha hl hU hF hd
  go_enter Try.func61, Try.ntmps61
  go_wp2_with (first | ((with_reducible refine gate_dst (N := 6) rfl ?_); (try (refine gate_guard (by rfl) ?_; dsimp only)); refine box_event ?hg (N := 6) ?hd (cs := #[.int .i64 0, .slice none 0 0]) (t := 72) ?hr ?_; (case hd => rfl); (case hg => rfl); (case hr => first | (go_simp; done) | (go_simp; rfl)); intro p ep wp hp lp; have Ep := Aside0.mk ep; clear ep) | fail)
  have hbs := HS.out.base_le
  have HW := Aside0.mk (⟨by have := Ep.out; omega, by have := Ep.out; have := HS.out.lt; omega, hbs⟩ : w.heap.size ≤ p ∧ p ≠ b ∧ base ≤ w.heap.size)
  have hYY := hY wp S (HS.out.below lp) (by have := HH.out; omega) HH.out.2.2.2.2
  rw [hQ] at hYY
  refine hYY.mono ?_
  rintro e w2 ⟨v2, rfl, hO2, hB2, hF2⟩
  obtain ⟨A2, c2, rfl⟩ := hO2.slice
  have HP2 := Aside0.mk (hF2.blk hp HW.out.2.1 (by simp) (by decide))
  have HB2 := Aside0.mk hB2
  have HO2 := Aside0.mk (hO2.lower lp.size)
  have HF2 := Aside0.mk ((Fr.of (b := b) (O := none) hbs lp).trans hF2)
  clear hB2 hF2 hO2 lp hbs hp hYY hY hQ d16 dd
  go_wp2_with (first | (((with_reducible refine gate_dst (N := 7) rfl ?_); (try (refine gate_guard (by rfl) ?_; dsimp only)); refine box_event ?hg (N := 7) ?hd (cs := #[.int .i64 0, .slice none 0 0]) (t := 72) ?hr ?_; (case hd => rfl); (case hg => rfl); (case hr => first | (go_simp; done) | (go_simp; rfl)); intro q eq wq hq lq; have Eq := Aside0.mk eq; clear eq); have q0 : wq.cell? ⟨q, 0, none⟩ = some (.int .i64 0) := (blk_cell hq 0).trans rfl; have q1 : wq.cell? ⟨q, 1, none⟩ = some (.slice none 0 0) := (blk_cell hq 1).trans rfl; have fq0 := blk_frozen hq 0; have fq1 := blk_frozen hq 1; have HLq := Aside0.mk lq; clear lq) | fail)
  have hqb : q ≠ b := by have := Eq.out; have := HB2.out.lt; omega
  have hqw : w.heap.size ≤ q := by have := Eq.out; have := HF2.out.grow; omega
  have hqp : q ≠ p := by have := Eq.out; have := blk_lt HP2.out; omega
  have hr := ret_partX (O := none) (base2 := w.heap.size) HW.out.2.2 hq hqw hqb (HB2.out.below HLq.out) (HF2.out.trans (Fr.of HB2.out.base_le HLq.out)) Q.1.1 (.slice A2 Q.1.2.length c2) Q.1.2 (HO2.out.below HLq.out)
  have far : ∀ k, k ≠ q → (World.setCell (World.setCell wq ⟨q, 0, none⟩ (.int .i64 (Q.1.1 : Int))) ⟨q, 1, none⟩ (.slice A2 Q.1.2.length c2)).heap[k]? = wq.heap[k]? := fun k hk => (Below.heap_setCell _ ⟨q, 1, none⟩ _ k hk).trans (Below.heap_setCell wq ⟨q, 0, none⟩ _ k hk)
  have hp4 := (far p (fun e => hqp e.symm)).trans (blk_below HP2.out HLq.out)
  obtain ⟨w4, hw4⟩ : ∃ w4, World.setCell (World.setCell wq ⟨q, 0, none⟩ (.int .i64 (Q.1.1 : Int))) ⟨q, 1, none⟩ (.slice A2 Q.1.2.length c2) = w4 := ⟨_, rfl⟩
  rw [hw4] at hr hp4
  rw [hw4]
  obtain ⟨hq4, v4, e4, hT4, hB4, hF4⟩ := hr
  obtain rfl := part_eq e4
  clear e4 hw4 far q0 q1 fq0 fq1 hq HB2 HF2 HP2 HO2
  refine (peekW w4 base b s Q.2 hB4).mono ?_
  rintro e w5 ⟨rfl, hb5⟩
  have HB5 := Aside0.mk (hB4.below hb5)
  have HT5 := Aside0.mk (hT4.below hb5)
  have HQ5 := Aside0.mk (blk_below hq4 hb5)
  have HP5 := Aside0.mk (blk_below hp4 hb5)
  have HF5 := Aside0.mk (hF4.trans (Fr.of hB4.base_le hb5))
  have HQB := Aside0.mk (⟨hqb, hqp⟩ : q ≠ b ∧ q ≠ p)
  clear hB4 hT4 hq4 hp4 hF4 hb5 hqb hqp hqw
  obtain ⟨c, hc⟩ : ∃ c, peekB s Q.2 = c := ⟨_, rfl⟩
  have HE := Aside0.mk HH.out.1
  rw [hc] at HE
  rw [hc]
  clear hc
  obtain ⟨za, hza⟩ : ∃ za : Int, (Q.2.at_ : Int) = za := ⟨_, rfl⟩
  have hbk := HB5.out.2.choose_spec.1
  have x0 : w5.cell? ⟨b, 0, none⟩ = some (.string s) := (blk_cell hbk 0).trans rfl
  have x1 : w5.cell? ⟨b, 1, none⟩ = some (.int .i64 za) := by rw [← hza]; exact (blk_cell hbk 1).trans rfl
  have f1 := blk_frozen hbk 1
  have hq := HQ5.out
  have hp := HP5.out
  have hat : za + 1 < 9223372036854775808 := by have := HH.out; omega
  have hat0 : 0 ≤ za := by omega
  have HZA := Aside0.mk hza
  clear hza
  clear hbk
  have fin : ∀ (w6 : World) (S6 : BS), BAt w6 base b s S6 → Fr base b none w5 w6 → S6.at_ = Q.2.at_ → True := fun _ _ _ _ _ => trivial
  by_cases hcs : c = some 41
  · subst hcs
    rw [if_pos rfl] at HE
    have q0 : w5.cell? ⟨q, 0, none⟩ = some (.int .i64 (Q.1.1 : Int)) := (blk_cell hq 0).trans rfl; have q1 : w5.cell? ⟨q, 1, none⟩ = some (.slice A2 Q.1.2.length c2) := (blk_cell hq 1).trans rfl; have fq0 := blk_frozen hq 0; have fq1 := blk_frozen hq 1
    have p0 : w5.cell? ⟨p, 0, none⟩ = some (.int .i64 0) := (blk_cell hp 0).trans rfl; have p1 : w5.cell? ⟨p, 1, none⟩ = some (.slice none 0 0) := (blk_cell hp 1).trans rfl; have fp0 := blk_frozen hp 0; have fp1 := blk_frozen hp 1
    have nqb : q ≠ b := HQB.out.1
    have npb : p ≠ b := HW.out.2.1
    go_wp2_with (fail)
    have hinc := HB5.out.inc 1 (za + 1) (by rw [← HZA.out]; simp)
    have hp6 := (Below.heap_setCell w5 ⟨b, 1, none⟩ (.int .i64 (za + 1)) p HW.out.2.1).trans HP5.out
    have hO6 := HT5.out.other HB5.out.2.choose_spec.1 (by decide) 1 (.int .i64 (za + 1))
    have hr := ret_partX (O := none) (base2 := w.heap.size) HW.out.2.2 hp6 HW.out.1 HW.out.2.1 hinc.1 (HF5.out.trans hinc.2) Q.1.1 (.slice A2 Q.1.2.length c2) Q.1.2 hO6
    (obtain ⟨w9, hw9⟩ : ∃ w9, World.setCell (World.setCell (World.setCell w5 ⟨b, 1, none⟩ (.int .i64 (za + 1))) ⟨p, 0, none⟩ (.int .i64 (Q.1.1 : Int))) ⟨p, 1, none⟩ (.slice A2 Q.1.2.length c2) = w9 := ⟨_, rfl⟩; rw [hw9] at hr; rw [hw9]; clear hw9; have c0 : w9.cell? ⟨p, 0, none⟩ = some (.int .i64 (Q.1.1 : Int)) := (blk_cell hr.1 0).trans rfl; have c1 : w9.cell? ⟨p, 1, none⟩ = some (.slice A2 Q.1.2.length c2) := (blk_cell hr.1 1).trans rfl; refine bodyPost_ret (by simp [results, Try.results61, go_sem, c0, c1, hu72]; try rfl) rfl ?_)
    rw [HE.out]
    exact hr.2
  · rw [if_neg hcs] at HE
    rcases (show c = none ∨ ∃ c1, c = some c1 ∧ (c1 == 41) = false by
      cases c with
      | none => exact .inl rfl
      | some c1 => exact .inr ⟨c1, rfl, beq_false_of_ne (fun e => hcs (by rw [e]))⟩) with rfl | ⟨c1, rfl, hc1⟩
    all_goals
      clear hcs
      go_wp2_with (fail)
      refine (wrongW w5 base b s Q.2 3 s.size HB5.out).mono ?_
      rintro e w6 ⟨rfl, hB6, hF6⟩
      have hp := hF6.blk HP5.out HW.out.2.1 (by simp) (by decide)
      have hq := hF6.blk HQ5.out HQB.out.1 (by simp) (by decide)
      have hT6 := HT5.out.fr hF6 ⟨_, HB5.out.2.choose_spec.1⟩ (fun _ _ => by simp)
      have hbk := hB6.2.choose_spec.1
      have x1 : w6.cell? ⟨b, 1, none⟩ = some (.int .i64 za) := by rw [← HZA.out, ← wrongB_at 3 s.size Q.2]; exact (blk_cell hbk 1).trans rfl
      have f1 := blk_frozen hbk 1
      have nqb : q ≠ b := HQB.out.1
      have npb : p ≠ b := HW.out.2.1
      have HT6 := Aside0.mk hT6
      have HB6 := Aside0.mk hB6
      have HF6 := Aside0.mk (HF5.out.trans hF6)
      clear hT6 hB6 hF6 hbk
      have q0 : w6.cell? ⟨q, 0, none⟩ = some (.int .i64 (Q.1.1 : Int)) := (blk_cell hq 0).trans rfl; have q1 : w6.cell? ⟨q, 1, none⟩ = some (.slice A2 Q.1.2.length c2) := (blk_cell hq 1).trans rfl; have fq0 := blk_frozen hq 0; have fq1 := blk_frozen hq 1
      have p0 : w6.cell? ⟨p, 0, none⟩ = some (.int .i64 0) := (blk_cell hp 0).trans rfl; have p1 : w6.cell? ⟨p, 1, none⟩ = some (.slice none 0 0) := (blk_cell hp 1).trans rfl; have fp0 := blk_frozen hp 0; have fp1 := blk_frozen hp 1
      go_wp2_with (fail)
      have hinc := HB6.out.inc 1 (za + 1) (by rw [wrongB_at, ← HZA.out]; simp)
      have hp6 := (Below.heap_setCell w6 ⟨b, 1, none⟩ (.int .i64 (za + 1)) p HW.out.2.1).trans hp
      have hO6 := HT6.out.other HB6.out.2.choose_spec.1 (by decide) 1 (.int .i64 (za + 1))
      have hr := ret_partX (O := none) (base2 := w.heap.size) HW.out.2.2 hp6 HW.out.1 HW.out.2.1 hinc.1 (HF6.out.trans hinc.2) Q.1.1 (.slice A2 Q.1.2.length c2) Q.1.2 hO6
      (obtain ⟨w9, hw9⟩ : ∃ w9, World.setCell (World.setCell (World.setCell w6 ⟨b, 1, none⟩ (.int .i64 (za + 1))) ⟨p, 0, none⟩ (.int .i64 (Q.1.1 : Int))) ⟨p, 1, none⟩ (.slice A2 Q.1.2.length c2) = w9 := ⟨_, rfl⟩; rw [hw9] at hr; rw [hw9]; clear hw9; have c0 : w9.cell? ⟨p, 0, none⟩ = some (.int .i64 (Q.1.1 : Int)) := (blk_cell hr.1 0).trans rfl; have c1 : w9.cell? ⟨p, 1, none⟩ = some (.slice A2 Q.1.2.length c2) := (blk_cell hr.1 1).trans rfl; refine bodyPost_ret (by simp [results, Try.results61, go_sem, c0, c1, hu72]; try rfl) rfl ?_)
      rw [HE.out]
      exact hr.2
end Go.Proofs.Ytnjpdhekeffpnaa.Rx
