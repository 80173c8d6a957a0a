/- The reader of expressions: a way, walked, where a thing is told. -/
import Derived.Test.YtnjpdhekeffpnaaRxR
set_option linter.unusedVariables false
set_option linter.unusedSimpArgs false
namespace Go.Proofs.Ytnjpdhekeffpnaa.Rx
open Go.RowKit Go.Proofs.YtnjpdhekeffpnaaW.PrintWords Go.Proofs.YtnjpdhekeffpnaaW.PrintLast Go.Proofs.YtnjpdhekeffpnaaW.PrintMore

/-- a thing's walk, told -/
def ThOk (base b : Nat) (s : ByteArray) (deep : Nat) (th : BS → Part × BS) : Prop := ∀ W S, BAt W base b s S → 0 < S.st.length → S.at_ < s.size → S.st.length ≤ 4 * S.at_ + 3 →
  Calls Try.prog 51 #[.pointer (some ⟨b, 0, none⟩), .int .i64 (deep : Int)] W fun r W' => PartAt W W' base b s (th S) r
theorem wayL_stop (th : BS → Part × BS) (s : ByteArray) (n : Nat) (p : Part) (S : BS) (h : ∀ c, peekB s S = some c → c = 124 ∨ c = 41) : wayL th s n p S = (p, S) := by
  cases n with
  | zero => rfl
  | succ n =>
    rw [wayL]
    cases hc : peekB s S with
    | none => rfl
    | some c => simp only [if_pos (h c hc)]
theorem wayL_go (th : BS → Part × BS) (s : ByteArray) (n : Nat) (p : Part) (S : BS) (c : Int) (h : peekB s S = some c) (h2 : ¬ (c = 124 ∨ c = 41)) : wayL th s (n + 1) p S = wayL th s n (p.1, (repB s (th S).1 (th S).2).1.2) (patchB p.2 (repB s (th S).1 (th S).2).1.1 (repB s (th S).1 (th S).2).2) := by
  rw [wayL, h]
  simp only [if_neg h2]
theorem wayB_start (th : BS → Part × BS) (s : ByteArray) (S : BS) : wayL th s (s.size + 1) (S.st.length, [2 * S.st.length, 2 * S.st.length + 1]) (addB ⟨1, 0, 0, 0⟩ S) = wayB th s S := rfl
theorem rep_le (s : ByteArray) (p : Part) (S : BS) : S.at_ ≤ (repB s p S).2.at_ := by
  unfold repB
  split
  · exact Nat.le_refl _
  · split
    · exact Nat.le_succ _
    · split
      · exact Nat.le_succ _
      · split
        · exact Nat.le_succ _
        · exact Nat.le_refl _
theorem own_new {w : World} {base : Nat} {v : Value} {outs : List Nat} (h : OutsAt w base v outs) : ∀ k, v.ownBlock = some k → base ≤ k := fun k hk => by
  obtain ⟨_, inner, ho, _⟩ := h
  exact own_base ho k hk
set_option maxHeartbeats 16000000 in
set_option maxRecDepth 100000 in
theorem wayW (base b : Nat) (s : ByteArray) (deep : Nat) (th : BS → Part × BS) (hs : s.size ≤ 200) (hth : ThOk base b s deep th) (hgr : ∀ S, 0 < S.st.length → Gr 0 S (th S)) (hup : ∀ S, S.at_ < s.size → (th S).2.at_ ≤ s.size + 20) (hps : ∀ S, S.at_ + 1 ≤ (th S).2.at_)
    (w : World) (S : BS) (h : BAt w base b s S) (ha : S.at_ ≤ s.size + 20) (hl : S.st.length ≤ 4 * S.at_ + 2) :
    Calls Try.prog 38 #[.pointer (some ⟨b, 0, none⟩), .int .i64 (deep : Int)] w fun r w' => PartAt w w' base b s (wayB th s S) r := by
  have hu100 := Try.underlying100
  have hu72 := Try.underlying72
  have hu69 := Try.underlying69
  have HS := Aside0.mk h
  have HT := Aside0.mk (⟨hs, hth, hgr, hup⟩ : s.size ≤ 200 ∧ ThOk base b s deep th ∧ (∀ S, 0 < S.st.length → Gr 0 S (th S)) ∧ (∀ S, S.at_ < s.size → (th S).2.at_ ≤ s.size + 20))
  have HPS := Aside0.mk hps
  have HA := Aside0.mk (⟨ha, hl⟩ : S.at_ ≤ s.size + 20 ∧ S.st.length ≤ 4 * S.at_ + 2)
  have hll : (S.st.length : Int) ≤ 900000 := by omega
  have hnn : (0 : Int) ≤ (S.st.length : Int) := Int.natCast_nonneg _
  clear h ha hl hs hth hgr hup hps
  go_enter Try.func38, Try.ntmps38
  go_wp2_with (first | ((with_reducible refine gate_dst (N := 4) rfl ?_); (try (refine gate_guard (by rfl) ?_; dsimp only)); refine box_event ?hg (N := 4) ?hd (cs := #[.int .i64 0, .slice none 0 0]) (t := 72) ?hr ?_; (case hd => rfl); (case hg => rfl); (case hr => first | (go_simp; done) | (go_simp; rfl)); intro p ep wp hp lp; have Ep := Aside0.mk ep; clear ep) | fail)
  have hbs := HS.out.base_le
  have HW := Aside0.mk (⟨by have := Ep.out; omega, by have := Ep.out; have := HS.out.lt; omega, hbs⟩ : w.heap.size ≤ p ∧ p ≠ b ∧ base ≤ w.heap.size)
  have ihA : Calls Try.prog 40 #[.pointer (some ⟨b, 0, none⟩), .agg #[.int .i64 1, .int .u64 0, .int .u64 0, .int .u64 0, .int .u64 0, .int .i64 0, .int .i64 0]] wp (fun r w' => r = .returned (.int .i64 (S.st.length : Int)) ∧ BAt w' base b s (addB ⟨1, 0, 0, 0⟩ S) ∧ Fr base b none wp w') := addSk wp base b s S 0 0 (HS.out.below lp) (by have := HA.out; have := HT.out.1; omega)
  refine ihA.mono ?_
  rintro e w5 ⟨rfl, hB5, hF5⟩
  have hp := hF5.blk hp HW.out.2.1 (by simp) (by decide)
  have HF5 := Aside0.mk ((Fr.of (b := b) (O := none) hbs lp).trans hF5)
  have HB5 := Aside0.mk hB5
  have HP5 := Aside0.mk (blk_lt hp)
  clear hB5 hF5 lp ihA hbs
  go_wp2_with (first
    | (((with_reducible refine gate_dst (N := 19) rfl ?_); refine outs_event ?hg (N := 19) ?hd [2 * S.st.length, 2 * S.st.length + 1] rfl (by simp) ?hr ?_; (case hd => rfl); (case hg => rfl); (case hr => first | (go_simp; done) | (go_simp; rfl)); intro g eg wg hg lg; have Eg := Aside0.mk eg; clear eg); have hp := blk_below hp lg; have HG := Aside0.mk hg; have HLg := Aside0.mk lg; clear hg lg)
    | (((with_reducible refine gate_dst (N := 6) rfl ?_); (try (refine gate_guard (by rfl) ?_; dsimp only)); refine box_event ?hg (N := 6) ?hd (cs := #[.int .i64 0, .slice none 0 0]) (t := 72) ?hr ?_; (case hd => rfl); (case hg => rfl); (case hr => first | (go_simp; done) | (go_simp; rfl)); intro u eu wu hu lu; have Eu := Aside0.mk eu; clear eu); have hp := blk_below hp lu; have HLu := Aside0.mk lu; have u0 : wu.cell? ⟨u, 0, none⟩ = some (.int .i64 0) := (blk_cell hu 0).trans rfl; have u1 : wu.cell? ⟨u, 1, none⟩ = some (.slice none 0 0) := (blk_cell hu 1).trans rfl; have fu0 := blk_frozen hu 0; have fu1 := blk_frozen hu 1)
    | fail)
  have hub : u ≠ b := by have := Eu.out; have := HB5.out.lt; have := HLg.out.size; omega
  have hub2 : wg.heap.size ≤ u := by have := Eu.out; omega
  have hup : u ≠ p := by have := Eu.out; have := HP5.out; have := HLg.out.size; omega
  have hwu : w.heap.size ≤ u := by have := HF5.out.grow; have := HLg.out.size; omega
  have HU := Aside0.mk (⟨hub, hup, hwu⟩ : u ≠ b ∧ u ≠ p ∧ w.heap.size ≤ u)
  have hr := ret_partX (O := none) (base2 := w.heap.size) HW.out.2.2 hu hwu hub ((HB5.out.below HLg.out).below HLu.out) ((HF5.out.trans (Fr.of HB5.out.base_le HLg.out)).trans (Fr.of (HB5.out.below HLg.out).base_le HLu.out)) S.st.length (.slice (some ⟨g, 0, none⟩) 2 2) [2 * S.st.length, 2 * S.st.length + 1] ((HG.out.below HLu.out).lower (by have := HF5.out.grow; omega))
  have hp7 := ((Below.heap_setCell (World.setCell wu ⟨u, 0, none⟩ (.int .i64 (S.st.length : Int))) ⟨u, 1, none⟩ (.slice (some ⟨g, 0, none⟩) 2 2) p (fun e => hup e.symm)).trans (Below.heap_setCell wu ⟨u, 0, none⟩ (.int .i64 (S.st.length : Int)) p (fun e => hup e.symm))).trans hp
  obtain ⟨w7, hw7⟩ : ∃ w7, World.setCell (World.setCell wu ⟨u, 0, none⟩ (.int .i64 (S.st.length : Int))) ⟨u, 1, none⟩ (.slice (some ⟨g, 0, none⟩) 2 2) = w7 := ⟨_, rfl⟩
  rw [hw7] at hr hp7
  rw [hw7]
  obtain ⟨huu, v7, e7, hO7, hB7, hF7⟩ := hr
  have hst := wayB_start th s S
  obtain ⟨zf, hp1⟩ : ∃ zf, S.st.length = zf := ⟨_, rfl⟩
  obtain ⟨N, hN⟩ : ∃ N, s.size + 1 = N := ⟨_, rfl⟩
  have hgs := way_start S
  rw [hp1] at huu
  have e7' : v7 = .slice (some ⟨g, 0, none⟩) 2 2 := by injection e7 with e7; injection e7 with e7; have := congrArg (fun a : Array Value => a[1]?) e7; simpa using this.symm
  subst e7'
  rw [hN] at hst
  have HP7 := Aside0.mk hp7
  have HU7 := Aside0.mk huu
  have HO7 := Aside0.mk hO7
  have HB7 := Aside0.mk hB7
  have HF7 := Aside0.mk hF7
  have HG7 := Aside0.mk hgs
  have HS7 := Aside0.mk hst
  have HN7 := Aside0.mk hN
  clear hp7 huu hO7 hB7 hF7 hgs hst hN e7 hw7 hp hu hub hub2 hup hwu u0 u1 fu0 fu1 HF5 HB5 HP5 HG HLg HLu
  have HZ := Aside0.mk hp1
  clear hp1
  go_loopg [7] (N + 1) (fun kq v7 wr => ∃ (n : Nat) (v : Value) (outs : List Nat) (S' : BS), v7 = v7 ∧ Aside0 (n + 1 = kq ∧ s.size < S'.at_ + n ∧ wayL th s n (zf, outs) S' = wayB th s S ∧ Gr 1 S ((zf, outs), S') ∧ S'.at_ ≤ s.size + 20) ∧ Aside0 (BAt wr base b s S') ∧ Aside0 (OutsAt wr w.heap.size v outs) ∧ Aside0 (wr.heap[u]? = some (.cells #[.int .i64 (zf : Int), v] TP (0, 0))) ∧ Aside0 (wr.heap[p]? = some (.cells #[.int .i64 0, .slice none 0 0] TP (0, 0))) ∧ Aside0 (Fr base b none w wr))
  case atStart =>
    exact ⟨N, _, [2 * S.st.length, 2 * S.st.length + 1], addB ⟨1, 0, 0, 0⟩ S, rfl, ⟨rfl, by have := HN7.out; show _ < S.at_ + N; omega, by rw [← HZ.out]; exact HS7.out, by rw [← HZ.out]; exact HG7.out, HA.out.1⟩, HB7, HO7, HU7, HP7, HF7⟩
  case round =>
    obtain ⟨n, v, outs, S', -, HI, HB, HO, HU', HP', HF⟩ := hrel
    obtain ⟨A0, cv0, rfl⟩ := HO.out.slice
    have ihP := peekW wr base b s S' HB.out
    obtain ⟨c, hc⟩ : ∃ c, peekB s S' = c := ⟨_, rfl⟩
    rw [hc] at ihP
    have HC := Aside0.mk hc
    clear hc
    by_cases hcs : ∀ c', c = some c' → c' = 124 ∨ c' = 41
    · have eR := wayL_stop th s n (zf, outs) S' (fun c' hc' => hcs c' (HC.out.symm.trans hc'))
      have HE := Aside0.mk (eR.symm.trans HI.out.2.2.1)
      clear eR
      have hgo : ∀ (wx : World) (_ : Below wr.heap.size wr wx), wx.heap[u]? = some (.cells #[.int .i64 (zf : Int), .slice A0 outs.length cv0] TP (0, 0)) ∧ wx.heap[p]? = some (.cells #[.int .i64 0, .slice none 0 0] TP (0, 0)) := fun wx hx => ⟨blk_below HU'.out hx, blk_below HP'.out hx⟩
      have hcc : c = none ∨ c = some 124 ∨ c = some 41 := by
        cases c with
        | none => exact .inl rfl
        | some c' => rcases hcs c' rfl with rfl | rfl; exact .inr (.inl rfl); exact .inr (.inr rfl)
      clear hcs
      rcases hcc with rfl | rfl | rfl
      all_goals
        go_wp2_with (fail)
        refine ihP.mono ?_
        rintro e wx ⟨rfl, hbx⟩
        obtain ⟨hu, hp⟩ := hgo wx hbx
        have u0 : wx.cell? ⟨u, 0, none⟩ = some (.int .i64 (zf : Int)) := (blk_cell hu 0).trans rfl; have u1 : wx.cell? ⟨u, 1, none⟩ = some (.slice A0 outs.length cv0) := (blk_cell hu 1).trans rfl; have fu0 := blk_frozen hu 0; have fu1 := blk_frozen hu 1
        have p0 : wx.cell? ⟨p, 0, none⟩ = some (.int .i64 0) := (blk_cell hp 0).trans rfl; have p1 : wx.cell? ⟨p, 1, none⟩ = some (.slice none 0 0) := (blk_cell hp 1).trans rfl; have fp0 := blk_frozen hp 0; have fp1 := blk_frozen hp 1
        go_wp2_with (fail)
        have hr := ret_partX (O := none) (base2 := w.heap.size) HW.out.2.2 hp HW.out.1 HW.out.2.1 (HB.out.below hbx) (HF.out.trans (Fr.of HB.out.base_le hbx)) zf (.slice A0 outs.length cv0) outs (HO.out.below hbx)
        (obtain ⟨w9, hw9⟩ : ∃ w9, World.setCell (World.setCell wx ⟨p, 0, none⟩ (.int .i64 (zf : Int))) ⟨p, 1, none⟩ (.slice A0 outs.length cv0) = w9 := ⟨_, rfl⟩; rw [hw9] at hr; rw [hw9]; clear hw9; have c0 : w9.cell? ⟨p, 0, none⟩ = some (.int .i64 (zf : Int)) := (blk_cell hr.1 0).trans rfl; have c1 : w9.cell? ⟨p, 1, none⟩ = some (.slice A0 outs.length cv0) := (blk_cell hr.1 1).trans rfl; refine bodyPost_ret (by simp [results, Try.results38, go_sem, c0, c1, hu72]; try rfl) rfl ?_)
        rw [← HE.out]
        exact hr.2
    · obtain ⟨c1, rfl, hc1⟩ : ∃ c1, c = some c1 ∧ ¬ (c1 = 124 ∨ c1 = 41) := by
        cases c with
        | none => exact absurd (fun c' h => by cases h) hcs
        | some c' => exact ⟨c', rfl, fun h => hcs (fun c'' h2 => by injection h2 with h2; rw [← h2]; exact h)⟩
      clear hcs
      have hcl := peek_lt HC.out
      obtain ⟨m, rfl⟩ : ∃ m, n = m + 1 := ⟨n - 1, by have := HI.out.2.1; omega⟩
      obtain ⟨k1, rfl⟩ : ∃ k1, gk = k1 + 1 := ⟨gk - 1, by have := HI.out; omega⟩
      have eR := wayL_go th s m (zf, outs) S' c1 HC.out hc1
      have hG := HI.out.2.2.2.1
      have hst := HI.out.2.2.1
      rw [eR] at hst
      have hS0 : 0 < S'.st.length := by have := hG.first; dsimp only at this; omega
      have hgt := HT.out.2.2.1 S' hS0
      have hut := HT.out.2.2.2 S' hcl.1
      have hT := HT.out.2.1
      obtain ⟨T, hTT⟩ : ∃ T, th S' = T := ⟨_, rfl⟩
      rw [hTT] at hst hgt hut
      have hgr := rep_gr s hgt
      have hur := rep_up s T.1 T.2 20 hut
      obtain ⟨Q, hQ⟩ : ∃ Q, repB s T.1 T.2 = Q := ⟨_, rfl⟩
      rw [hQ] at hst hgr hur
      have g1 := hG.up
      have g3 := hG.at_
      dsimp only at g1 g3
      have g2 := hgt.up
      have HQ := Aside0.mk (⟨hst, hgt, hgr, hur, hQ, hTT, hS0⟩ : wayL th s m (zf, Q.1.2) (patchB outs Q.1.1 Q.2) = wayB th s S ∧ Gr 0 S' T ∧ Gr 0 S' Q ∧ Q.2.at_ ≤ s.size + 20 ∧ repB s T.1 T.2 = Q ∧ th S' = T ∧ 0 < S'.st.length)
      have n1 : (c1 == 124) = false := beq_false_of_ne (fun e => hc1 (.inl e))
      have n2 : (c1 == 41) = false := beq_false_of_ne (fun e => hc1 (.inr e))
      have hlT : T.2.st.length ≤ 900000 := by have := HA.out; have := HT.out.1; have := hgt.at_; omega
      have hb4 : S'.st.length ≤ 4 * S'.at_ + 3 := by have := HA.out; omega
      have HL4 := Aside0.mk (⟨hlT, hb4, hcl.1⟩ : T.2.st.length ≤ 900000 ∧ S'.st.length ≤ 4 * S'.at_ + 3 ∧ S'.at_ < s.size)
      clear hst hG hgt hgr hur hQ hut eR hc1 hcl g1 g2 g3 hlT hb4 hS0
      go_wp2_with (fail)
      refine ihP.mono ?_
      rintro e wx ⟨rfl, hbx⟩
      have HBx := Aside0.mk (HB.out.below hbx)
      have HOx := Aside0.mk (HO.out.below hbx)
      have HUx := Aside0.mk (blk_below HU'.out hbx)
      have HPx := Aside0.mk (blk_below HP'.out hbx)
      have HFx := Aside0.mk (HF.out.trans (Fr.of HB.out.base_le hbx))
      clear hbx ihP HB HO HU' HP' HF
      go_wp2_with (fail)
      have ihT := hT wx S' HBx.out HQ.out.2.2.2.2.2.2 HL4.out.2.2 HL4.out.2.1
      rw [hTT] at ihT
      refine ihT.mono ?_
      rintro e w2 ⟨v2, rfl, hO2, hB2, hF2⟩
      clear ihT hT
      have HO2 := Aside0.mk (HOx.out.fr hF2 ⟨_, HBx.out.2.choose_spec.1⟩ (fun _ _ => by simp))
      have HU2 := Aside0.mk (hF2.blk HUx.out HU.out.1 (by simp) (by decide))
      have HP2 := Aside0.mk (hF2.blk HPx.out HW.out.2.1 (by simp) (by decide))
      have HF2 := Aside0.mk hF2
      obtain ⟨A2, c2, rfl⟩ := hO2.slice
      have HT2 := Aside0.mk hO2
      have HB2 := Aside0.mk hB2
      clear hO2 hB2 hF2
      go_wp2_with (fail)
      refine (repeatW w2 base wx.heap.size b s T.2 T.1 (.slice A2 T.1.2.length c2) HB2.out HT2.out ⟨HBx.out.base_le, HF2.out.grow⟩ HL4.out.1 HT.out.1 (by have := HQ.out.2.1.many; have := HQ.out.2.2.2.1; have := HQ.out.2.2.1.at_; have := HT.out.1; have := rep_le s T.1 T.2; rw [HQ.out.2.2.2.2.1] at this; omega) HQ.out.2.1.outs HQ.out.2.1.first).mono ?_
      rintro e w3 ⟨v3, rfl, hO3, hB3, hF3⟩
      rw [HQ.out.2.2.2.2.1] at hO3 hB3 ⊢
      have hxb : ∀ k, (Value.slice A2 T.1.2.length c2).ownBlock = some k → wx.heap.size ≤ k := own_new HT2.out
      have hF23 := HF2.out.narrow hF3 hxb
      have HO3 := Aside0.mk (HOx.out.fr hF23 ⟨_, HBx.out.2.choose_spec.1⟩ (fun _ _ => by simp))
      have HU3 := Aside0.mk (hF23.blk HUx.out HU.out.1 (by simp) (by decide))
      have HP3 := Aside0.mk (hF23.blk HPx.out HW.out.2.1 (by simp) (by decide))
      have HF3 := Aside0.mk (HFx.out.trans hF23)
      obtain ⟨A3, c3, rfl⟩ := hO3.slice
      have HT3 := Aside0.mk hO3
      have HB3 := Aside0.mk hB3
      have HX3 := Aside0.mk hF23.grow
      clear hO3 hB3 hF3 hF23 hxb HO2 HU2 HP2 HF2 HT2 HB2
      go_wp2_with (first | (((with_reducible refine gate_dst (N := 9) rfl ?_); (try (refine gate_guard (by rfl) ?_; dsimp only)); refine box_event ?hg (N := 9) ?hd (cs := #[.int .i64 0, .slice none 0 0]) (t := 72) ?hr ?_; (case hd => rfl); (case hg => rfl); (case hr => first | (go_simp; done) | (go_simp; rfl)); intro q eq wq hq lq; have Eq := Aside0.mk eq; clear eq); have q0 : wq.cell? ⟨q, 0, none⟩ = some (.int .i64 0) := (blk_cell hq 0).trans rfl; have q1 : wq.cell? ⟨q, 1, none⟩ = some (.slice none 0 0) := (blk_cell hq 1).trans rfl; have fq0 := blk_frozen hq 0; have fq1 := blk_frozen hq 1; have hu := blk_below HU3.out lq; have u0 : wq.cell? ⟨u, 0, none⟩ = some (.int .i64 (zf : Int)) := (blk_cell hu 0).trans rfl; have u1 : wq.cell? ⟨u, 1, none⟩ = some (.slice A0 outs.length cv0) := (blk_cell hu 1).trans rfl; have fu0 := blk_frozen hu 0; have fu1 := blk_frozen hu 1; have hqu : q ≠ u := (fun e => by have := Eq.out; have := blk_lt HU3.out; omega); have huq : u ≠ q := fun e => hqu e.symm; have HLq := Aside0.mk lq; clear lq) | fail)
      have hqb : q ≠ b := by have := Eq.out; have := HB3.out.lt; omega
      have hqw : w.heap.size ≤ q := by have := Eq.out; have := HF3.out.grow; omega
      have hqp : q ≠ p := by have := Eq.out; have := blk_lt HP3.out; omega
      have hr := ret_partX (O := none) (base2 := wx.heap.size) HW.out.2.2 hq hqw hqb (HB3.out.below HLq.out) (HF3.out.trans (Fr.of HB3.out.base_le HLq.out)) Q.1.1 (.slice A3 Q.1.2.length c3) Q.1.2 (HT3.out.below HLq.out)
      have hO4 := ((HO3.out.below HLq.out).other hq (by decide) 0 (.int .i64 (Q.1.1 : Int))).other (blk_set hq 0 (.int .i64 (Q.1.1 : Int))) (by decide) 1 (.slice A3 Q.1.2.length c3)
      have far : ∀ k, k ≠ q → (World.setCell (World.setCell wq ⟨q, 0, none⟩ (.int .i64 (Q.1.1 : Int))) ⟨q, 1, none⟩ (.slice A3 Q.1.2.length c3)).heap[k]? = wq.heap[k]? := fun k hk => (Below.heap_setCell _ ⟨q, 1, none⟩ _ k hk).trans (Below.heap_setCell wq ⟨q, 0, none⟩ _ k hk)
      have hu4 := (far u huq).trans hu
      have hp4 := (far p (fun e => hqp e.symm)).trans (blk_below HP3.out HLq.out)
      obtain ⟨w4, hw4⟩ : ∃ w4, World.setCell (World.setCell wq ⟨q, 0, none⟩ (.int .i64 (Q.1.1 : Int))) ⟨q, 1, none⟩ (.slice A3 Q.1.2.length c3) = w4 := ⟨_, rfl⟩
      rw [hw4] at hr hO4 hu4 hp4
      rw [hw4]
      obtain ⟨hq4, v4, e4, hT4, hB4, hF4⟩ := hr
      have e4' : v4 = .slice A3 Q.1.2.length c3 := by injection e4 with e4; injection e4 with e4; have := congrArg (fun a : Array Value => a[1]?) e4; simpa using this.symm
      subst e4'
      clear e4 hw4 far q0 q1 fq0 fq1 u0 u1 fu0 fu1 hu hq HB3 HF3 HU3 HP3 HT3 HO3
      have hbk := hB4.2.choose_spec.1
      refine (patchW w4 base w.heap.size b s Q.2 zf (.slice A0 outs.length cv0) outs Q.1.1 hB4 hO4 (fun o ho => Nat.lt_of_lt_of_le (HI.out.2.2.2.1.outs o ho) HQ.out.2.2.1.le) (by have := HQ.out.2.2.1.up; have := HL4.out; have := HT.out.1; have := HQ.out.2.2.2.1; dsimp only at *; omega)).mono ?_
      rintro e w5 ⟨rfl, hB5, hF5⟩
      have hu := hF5.blk hu4 HU.out.1 (by simp) (by decide)
      have hq := hF5.blk hq4 hqb (by simp) (by decide)
      have HP5 := Aside0.mk (hF5.blk hp4 HW.out.2.1 (by simp) (by decide))
      have HT5 := Aside0.mk (hT4.fr hF5 ⟨_, hbk⟩ (fun _ _ => by simp))
      have HF5 := Aside0.mk (hF4.trans hF5)
      have HB5 := Aside0.mk hB5
      clear hB5 hF5 hT4 hF4 hB4 hO4 hu4 hp4 hq4 hbk
      have u0 : w5.cell? ⟨u, 0, none⟩ = some (.int .i64 (zf : Int)) := (blk_cell hu 0).trans rfl; have u1 : w5.cell? ⟨u, 1, none⟩ = some (.slice A0 outs.length cv0) := (blk_cell hu 1).trans rfl; have fu0 := blk_frozen hu 0; have fu1 := blk_frozen hu 1
      have q0 : w5.cell? ⟨q, 0, none⟩ = some (.int .i64 (Q.1.1 : Int)) := (blk_cell hq 0).trans rfl; have q1 : w5.cell? ⟨q, 1, none⟩ = some (.slice A3 Q.1.2.length c3) := (blk_cell hq 1).trans rfl; have fq0 := blk_frozen hq 0; have fq1 := blk_frozen hq 1
      go_wp2_with (fail)
      have hB6 := HB5.out.other hu (by decide) HU.out.1 1 (.slice A3 Q.1.2.length c3)
      have hT6 := HT5.out.other hu (by decide) 1 (.slice A3 Q.1.2.length c3)
      have hu6 := blk_set hu 1 (.slice A3 Q.1.2.length c3)
      have hp6 := (Below.heap_setCell w5 ⟨u, 1, none⟩ (.slice A3 Q.1.2.length c3) p (fun e => HU.out.2.1 e.symm)).trans HP5.out
      have hF6 := HF5.out.new HW.out.2.2 HU.out.2.2 1 (.slice A3 Q.1.2.length c3)
      go_roundg k1
      case measure => have := HI.out; omega
      case rel =>
        have hpos := (HT.out.2.2.1 S' HQ.out.2.2.2.2.2.2)
        have hG := HI.out.2.2.2.1
        have g1 := hG.at_
        have g2 := hG.le
        have g3 := hG.up
        have g4 := hG.first
        have g5 := HQ.out.2.2.1.at_
        have g6 := HQ.out.2.2.1.le
        have g7 := HQ.out.2.2.1.up
        have g8 := HQ.out.2.2.1.many
        dsimp only at g1 g2 g3 g4
        have g9 := HPS.out S'
        have g0 := rep_le s T.1 T.2
        rw [HQ.out.2.2.2.2.1] at g0
        rw [HQ.out.2.2.2.2.2.1] at g9
        refine ⟨m, _, Q.1.2, patchB outs Q.1.1 Q.2, trivial, ⟨by have := HI.out; omega, ?_, HQ.out.1, ⟨?_, ?_, ?_, ?_, ?_, ?_⟩, HQ.out.2.2.2.1⟩, ⟨hB6⟩, ⟨hT6.lower (Nat.le_trans HFx.out.grow (Nat.le_refl _))⟩, ⟨?_⟩, ⟨hp6⟩, ⟨hF6⟩⟩
        · show s.size < Q.2.at_ + m; have := HI.out.2.1; omega
        · show S.at_ ≤ Q.2.at_; omega
        · rw [patchB_len]; omega
        · rw [patchB_len]; show Q.2.st.length ≤ S.st.length + 2 * (Q.2.at_ - S.at_) + 1; omega
        · rw [patchB_len]; show zf < Q.2.st.length; omega
        · intro o ho; rw [patchB_len]; exact HQ.out.2.2.1.outs o ho
        · show Q.1.2.length ≤ 2 * (Q.2.at_ - S.at_) + 2 * 1; omega
        · simpa using hu6
end Go.Proofs.Ytnjpdhekeffpnaa.Rx
