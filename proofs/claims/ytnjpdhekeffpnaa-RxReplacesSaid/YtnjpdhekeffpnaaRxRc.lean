/- The document's reader of expressions: a set, walked. -/
import Derived.Test.YtnjpdhekeffpnaaRxRb
set_option linter.unusedVariables false
set_option linter.unusedSimpArgs false
namespace Go.Proofs.Ytnjpdhekeffpnaa.Rx
open Go.RowKit Go.Proofs.YtnjpdhekeffpnaaW.PrintWords Go.Proofs.YtnjpdhekeffpnaaW.PrintLast Go.Proofs.YtnjpdhekeffpnaaW.PrintMore

set_option maxHeartbeats 16000000 in
set_option maxRecDepth 100000 in
theorem setRW0 (w : World) (b : Nat) (s : ByteArray) (S : BS) (o : Int) (hs : s.size ≤ 200) (ha : S.at_ ≤ s.size) (hF0 : S.F = none) (h : ParAt w b s S.at_ o none) (z : Int) (hz : (S.at_ : Int) = z) (d0 : decide (z < (s.size : Int)) = false) (hpk : peekB s S ≠ some 94) :
    Calls Try.prog 65 #[.pointer (some ⟨b, 0, none⟩)] w fun e w' => NOk w w' b s o (.byte (bracketB s S).1, (bracketB s S).2) e := by
  have hu32 := Try.underlying32
  have hu76 := Try.underlying76
  have HS := Aside0.mk h
  have HH := Aside0.mk (⟨hs, ha, hF0⟩ : s.size ≤ 200 ∧ S.at_ ≤ s.size ∧ S.F = none)
  clear h hs ha hF0
  have hbw : b < w.heap.size := blk_lt HS.out
  go_enter Try.func65, Try.ntmps65
  go_wp2_with (first | ((with_reducible refine gate_dst (N := 2) rfl ?_); (try (refine gate_guard (by rfl) ?_; dsimp only)); refine box_event ?hg (N := 2) ?hd (cs := #[.int .i64 0, .slice none 0 0, .slice none 0 0]) (t := 32) ?hr ?_; (case hd => rfl); (case hg => rfl); (case hr => first | (go_simp; done) | (go_simp; rfl)); intro p ep wp hp lp; have Ep := Aside0.mk ep; clear ep; have p0 : wp.cell? ⟨p, 0, none⟩ = some (.int .i64 0) := (blk_cell hp 0).trans rfl; have p1 : wp.cell? ⟨p, 1, none⟩ = some (.slice none 0 0) := (blk_cell hp 1).trans rfl; have p2 : wp.cell? ⟨p, 2, none⟩ = some (.slice none 0 0) := (blk_cell hp 2).trans rfl; have fp0 := blk_frozen hp 0; have fp1 := blk_frozen hp 1; have fp2 := blk_frozen hp 2) | fail)
  have hB1 := HS.out.below lp
  have HW := Aside0.mk (⟨by have := Ep.out; omega, by have := Ep.out; omega, hbw⟩ : w.heap.size ≤ p ∧ p ≠ b ∧ b < w.heap.size)
  have HP1 := Aside0.mk hp
  have HB1 := Aside0.mk hB1
  have HL1 := Aside0.mk lp
  clear hbw p0 p1 p2 fp0 fp1 fp2
  have x0 : wp.cell? ⟨b, 0, none⟩ = some (.string s) := (blk_cell hB1 0).trans rfl
  have x1 : wp.cell? ⟨b, 1, none⟩ = some (.int .i64 z) := by rw [← hz]; exact (blk_cell hB1 1).trans rfl
  have f1 := blk_frozen hB1 1
  have hz1 : z + 1 < 9223372036854775808 := by have := HH.out; omega
  have hz0 : 0 ≤ z := by omega
  have HZ := Aside0.mk hz
  clear hp hB1 lp hz
  have HX2 : Aside0 (∃ (S1 : BS) (nf : Bool), nf = false ∧ S1.at_ ≤ s.size ∧ S1.F = none ∧ ParAt wp b s S1.at_ o none ∧ bracketB s S = bkF nf (brL s S1.at_ (s.size + 1) 0 S1)) := ⟨S, false, rfl, HH.out.2.1, HH.out.2.2, HB1.out, by rw [bracketB, if_neg hpk]; rfl⟩
  clear hpk
  (simp only [Act.put, List.setIfInBounds_toArray, List.set_cons_succ, List.set_cons_zero])
  go_wp2_with (fail)
  go_quiet (fail)
  obtain ⟨S1, nf, hnf, HS1, HS2, hB4, HXE⟩ := HX2.out
  obtain ⟨w4, hw4⟩ : ∃ w4, wp.drewN nq = w4 := ⟨_, rfl⟩
  have HB4 := Aside0.mk (show ParAt w4 b s S1.at_ o none by rw [← hw4]; exact hB4.below (below_draws (Below.refl _ _) nq))
  have HP4 := Aside0.mk (show w4.heap[p]? = some (.cells #[.int .i64 0, .slice none 0 0, .slice none 0 0] TN (0, 0)) by rw [← hw4]; exact blk_below HP1.out (below_draws (Below.refl _ _) nq))
  have HF4 := Aside0.mk (show Mk b w w4 by rw [← hw4]; exact Mk.of (below_then HL1.out HL1.out.size (below_draws (Below.refl _ _) nq)))
  rw [hw4]
  clear hw4 x0 x1 f1 d0 hB4 HX2
  go_wp2_with (fail)
  have HX := Aside0.mk (⟨HXE, HS1, HS2, hnf⟩ : bracketB s S = bkF nf (brL s S1.at_ (s.size + 1) 0 S1) ∧ S1.at_ ≤ s.size ∧ S1.F = none ∧ nf = _)
  clear HXE HS1 HS2 hnf hz1 HZ HB1 HL1 HP1
  have hpg := blk_lt HP4.out
  have hbg := blk_lt HB4.out
  obtain ⟨base, hbase⟩ : ∃ base, w4.heap.size = base := ⟨_, rfl⟩
  rw [hbase] at hpg hbg
  refine (bytesW w4 false).mono ?_
  rintro e w5 ⟨g, c, rfl, hM, hl5⟩
  rw [hbase, ← tabl_0] at hM
  have HG := Aside0.mk (⟨hpg, hbg, Nat.le_trans HF4.out.size (Nat.le_of_eq hbase)⟩ : p < base ∧ b < base ∧ w.heap.size ≤ base)
  have HM5 := Aside0.mk hM
  have HB5 := Aside0.mk (HB4.out.below hl5)
  have HP5 := Aside0.mk (blk_below HP4.out hl5)
  have HF5 := Aside0.mk (HF4.out.trans (Mk.of hl5))
  clear hM hl5 hbase hpg hbg HB4 HP4 HF4
  obtain ⟨N, hN⟩ : ∃ N, s.size + 1 = N := ⟨_, rfl⟩
  obtain ⟨X, hXX⟩ : ∃ X, brL s S1.at_ (s.size + 1) 0 S1 = X := ⟨_, rfl⟩
  have HXX := Aside0.mk (⟨by rw [← hN]; exact hXX, hN⟩ : brL s S1.at_ N 0 S1 = X ∧ s.size + 1 = N)
  rw [hXX] at HX
  clear hN hXX
  go_wp2_with (fail)
  have HNF := Aside0.mk (⟨HX.out.1, HX.out.2.2.2⟩ : bracketB s S = bkF nf X ∧ nf = _)
  go_loopg [5] (N + 1) (fun kq v5 wr => ∃ (n m : Nat) (S' : BS) (fl : Bool), v5 = .bool fl ∧ Aside0 (n + 1 = kq ∧ s.size < S'.at_ + n ∧ brL s S1.at_ n m S' = X ∧ S'.at_ ≤ s.size ∧ S'.F = none ∧ S1.at_ ≤ S'.at_ ∧ fl = decide (S'.at_ = S1.at_)) ∧ Aside0 (ParAt wr b s S'.at_ o none) ∧ Aside0 (BoolAt wr base g c (tabl m)) ∧ Aside0 (wr.heap[p]? = some (.cells #[.int .i64 0, .slice none 0 0, .slice none 0 0] TN (0, 0))) ∧ Aside0 (Mk b w wr))
  case atStart => exact ⟨N, 0, S1, true, rfl, ⟨rfl, by have := HXX.out.2; omega, HXX.out.1, HX.out.2.1, HX.out.2.2.1, Nat.le_refl _, by simp⟩, HB5, HM5, HP5, HF5⟩
  case round =>
    clear HB5 HM5 HP5 HF5 HXX HX
    obtain ⟨n, m, S', fl, rfl, HI, HB, HM, HP, HF⟩ := hrel
    have ihP := pkW wr b s S'.at_ o none HB.out
    obtain ⟨cc, hc⟩ : ∃ cc, pk s S'.at_ none = cc := ⟨_, rfl⟩
    rw [hc] at ihP
    have HC := Aside0.mk (show peekB s S' = cc by rw [← pk_eq, HI.out.2.2.2.2.1]; exact hc)
    clear hc
    go_wp2_with (fail)
    refine ihP.mono ?_
    rintro e wx ⟨rfl, hbx⟩
    have HBx := Aside0.mk (HB.out.below hbx)
    have HMx := Aside0.mk (show BoolAt wx base g c (tabl m) from Kd.R_below HM.out hbx)
    have HPx := Aside0.mk (blk_below HP.out hbx)
    have HFx := Aside0.mk (HF.out.trans (Mk.of hbx))
    clear hbx ihP HB HM HP HF
    obtain ⟨z, hz⟩ : ∃ z : Int, (S'.at_ : Int) = z := ⟨_, rfl⟩
    have HZ := Aside0.mk hz
    cases cc with
    | none =>
      have hX := HI.out.2.2.1
      rw [brL_stop s S1.at_ n m S' HC.out] at hX
      have HE := Aside0.mk hX
      have x0 : wx.cell? ⟨b, 0, none⟩ = some (.string s) := (blk_cell HBx.out 0).trans rfl
      have hf := failsW wx b s S'.at_ o none 3 s.size HBx.out
      clear hX hz
      go_wp2_with (fail)
      refine hf.mono ?_
      rintro e wy ⟨rfl, hBy, hFy⟩
      have hp := hFy.at HPx.out HW.out.2.1
      have HPy := Aside0.mk hp
      have HBy := Aside0.mk hBy
      have HFy := Aside0.mk (HFx.out.trans hFy)
      clear hBy hFy hf x0
      (have p0 : wy.cell? ⟨p, 0, none⟩ = some (.int .i64 0) := (blk_cell hp 0).trans rfl; have p1 : wy.cell? ⟨p, 1, none⟩ = some (.slice none 0 0) := (blk_cell hp 1).trans rfl; have p2 : wy.cell? ⟨p, 2, none⟩ = some (.slice none 0 0) := (blk_cell hp 2).trans rfl; have fp0 := blk_frozen hp 0; have fp1 := blk_frozen hp 1; have fp2 := blk_frozen hp 2)
      clear hp
      go_wp2_with (fail)
      have hr := nok_ret (o := o) (r := (.byte (bracketB s S).1, (bracketB s S).2)) HPy.out HW.out.1 HW.out.2.1 (Nat.lt_succ_self p) (knd_leaf 0) HFy.out (by rw [HNF.out.1, ← HE.out]; show ParAt _ _ _ _ _ (wrongB 3 s.size S').F; rw [wrong_or, HI.out.2.2.2.2.1]; exact HBy.out) HI.out.2.2.2.1 (fun hn => by rw [HNF.out.1, ← HE.out] at hn; exact absurd hn (wrong_ne 3 s.size S'))
      (obtain ⟨w9, hw9⟩ : ∃ w9, World.setCell (World.setCell (World.setCell wy ⟨p, 0, none⟩ (.int .i64 (0))) ⟨p, 1, none⟩ (.slice none 0 0)) ⟨p, 2, none⟩ (.slice none 0 0) = w9 := ⟨_, rfl⟩; (try simp only [Exit.inBlock, Exit.then]); (try rw [hw9]); obtain ⟨c0, c1, c2, hN⟩ := hr w9 hw9; clear hw9; refine bodyPost_ret (by simp [results, Try.results65, go_sem, c0, c1, c2, hu32]; try rfl) rfl ?_)
      exact hN
    | some c1 =>
      have hbr := bt_range s S'.at_
      have hcl := peek_lt HC.out
      obtain ⟨l, rfl⟩ : ∃ l, n = l + 1 := ⟨n - 1, by have := HI.out.2.1; omega⟩
      obtain ⟨k1, rfl⟩ : ∃ k1, gk = k1 + 1 := ⟨gk - 1, by have := HI.out; omega⟩
      have hc0 : 0 ≤ c1 ∧ c1 ≤ 255 := by rw [hcl.2.2]; exact hbr
      have hX := HI.out.2.2.1
      rw [brL_c HC.out] at hX
      have hz0 : 0 ≤ z := by omega
      have hzs : z < (s.size : Int) := by omega
      have hz3 : z + 3 < 9223372036854775808 := by have := HH.out; omega
      have HZS := Aside0.mk (⟨hcl.1, hcl.2.2⟩ : S'.at_ < s.size ∧ c1 = bt s S'.at_)
      clear hbr hcl hz
      have x0 : wx.cell? ⟨b, 0, none⟩ = some (.string s) := (blk_cell HBx.out 0).trans rfl
      have x1 : wx.cell? ⟨b, 1, none⟩ = some (.int .i64 z) := by rw [← HZ.out]; exact (blk_cell HBx.out 1).trans rfl
      have f1 := blk_frozen HBx.out 1
      by_cases h1 : c1 = 93 ∧ S1.at_ < S'.at_
      · rw [if_pos h1] at hX
        have HE := Aside0.mk hX
        obtain ⟨rfl, hlt⟩ := h1
        obtain rfl : fl = false := by rw [HI.out.2.2.2.2.2.2]; exact decide_eq_false (by omega)
        clear hX hc0 hlt hz3
        have hz1 : z + 1 < 9223372036854775808 := by have := HH.out; have := HZS.out; have := HZ.out; omega
        go_wp2_with (fail)
        obtain ⟨w7, hw7⟩ : ∃ w7, wx.setCell ⟨b, 1, none⟩ (.int .i64 (z + 1)) = w7 := ⟨_, rfl⟩
        have HB7 := Aside0.mk (show ParAt w7 b s (S'.at_ + 1) o none by rw [← hw7]; exact HBx.out.inc 1 (z + 1) (by have := HZ.out; omega))
        have HM7 := Aside0.mk (show BoolAt w7 base g c (tabl m) by rw [← hw7]; exact HMx.out.far HG.out.2.1 1 _)
        have HP7 := Aside0.mk (show w7.heap[p]? = some (.cells #[.int .i64 0, .slice none 0 0, .slice none 0 0] TN (0, 0)) by rw [← hw7]; exact (Below.heap_setCell _ ⟨b, 1, none⟩ _ p HW.out.2.1).trans HPx.out)
        have HF7 := Aside0.mk (show Mk b w w7 by rw [← hw7]; exact HFx.out.set 1 _)
        rw [hw7]
        clear hw7 x0 x1 f1 HBx HMx HPx HFx hz1 hz0 hzs HZ
        first
        | (have hnf : nf = false := HNF.out.2
           have hbk : bracketB s S = (m, skip S' 1) := by rw [HNF.out.1, hnf, ← HE.out, bkF_f]
           go_loopg [10] 1 (fun kq v10 wz => v10 = .int .i64 0 ∧ Aside0 (1 ≤ kq) ∧ Aside0 (ParAt wz b s (S'.at_ + 1) o none) ∧ Aside0 (BoolAt wz base g c (tabl m)) ∧ Aside0 (wz.heap[p]? = some (.cells #[.int .i64 0, .slice none 0 0, .slice none 0 0] TN (0, 0))) ∧ Aside0 (Mk b w wz))
           case atStart => exact ⟨rfl, ⟨Nat.le_refl _⟩, HB7, HM7, HP7, HF7⟩
           case round =>
            clear HB7 HM7 HP7 HF7
            obtain ⟨rfl, -, HBz, HMz, HPz, HFz⟩ := hrel
            have hp := HPz.out
            (have p0 : wr.cell? ⟨p, 0, none⟩ = some (.int .i64 0) := (blk_cell hp 0).trans rfl; have p1 : wr.cell? ⟨p, 1, none⟩ = some (.slice none 0 0) := (blk_cell hp 1).trans rfl; have p2 : wr.cell? ⟨p, 2, none⟩ = some (.slice none 0 0) := (blk_cell hp 2).trans rfl; have fp0 := blk_frozen hp 0; have fp1 := blk_frozen hp 1; have fp2 := blk_frozen hp 2)
            clear hp
            go_wp2_with (fail)
            have hM9 : Kd.R Kd.bool TO wr base (fun _ => True) (.slice (some ⟨g, 0, none⟩) 256 c) (tabl m) := by have := HMz.out; unfold BoolAt at this; rwa [tabl_len] at this
            have hr := nok_ret (o := o) (r := (.byte (bracketB s S).1, (bracketB s S).2)) HPz.out HW.out.1 HW.out.2.1 HG.out.1 (knd_mk hM9 (Kd.R_nil _ _ _ _ _)) HFz.out (by rw [hbk]; show ParAt _ _ _ _ _ S'.F; rw [HI.out.2.2.2.2.1]; exact HBz.out) (show S'.at_ + 1 ≤ s.size by have := HZS.out; omega) (fun _ => by rw [hbk]; exact ⟨rfl, rfl, RT.byte _⟩)
            (obtain ⟨w9, hw9⟩ : ∃ w9, World.setCell (World.setCell (World.setCell wr ⟨p, 0, none⟩ (.int .i64 (1))) ⟨p, 1, none⟩ (.slice (some ⟨g, 0, none⟩) 256 c)) ⟨p, 2, none⟩ (.slice none 0 0) = w9 := ⟨_, rfl⟩; (try simp only [Exit.inBlock, Exit.then]); (try rw [hw9]); obtain ⟨c0, c1, c2, hN⟩ := hr w9 hw9; clear hw9; refine bodyPost_ret (by simp [results, Try.results65, go_sem, c0, c1, c2, hu32]; try rfl) rfl ?_)
            exact hN
           )
        | (have hnf : nf = true := HNF.out.2
           have hbk : bracketB s S = (full ^^^ m, skip S' 1) := by rw [HNF.out.1, hnf, ← HE.out, bkF_t]
           go_loopg [10] 257 (fun kq v10 wz => ∃ i : Int, v10 = .int .i64 i ∧ Aside0 (0 ≤ i ∧ i ≤ 256 ∧ i + kq = 257) ∧ Aside0 (ParAt wz b s (S'.at_ + 1) o none) ∧ Aside0 (BoolAt wz base g c (half m i.toNat)) ∧ Aside0 (wz.heap[p]? = some (.cells #[.int .i64 0, .slice none 0 0, .slice none 0 0] TN (0, 0))) ∧ Aside0 (Mk b w wz))
           case atStart => exact ⟨0, rfl, ⟨by omega, by omega, by omega⟩, HB7, ⟨by rw [show (0 : Int).toNat = 0 from rfl, half_0]; exact HM7.out⟩, HP7, HF7⟩
           case round =>
            clear HB7 HM7 HP7 HF7
            obtain ⟨i, rfl, HI2, HBz, HMz, HPz, HFz⟩ := hrel
            have d3 : 0 ≤ i := HI2.out.1
            by_cases hi : i < 256
            · obtain ⟨k2, rfl⟩ : ∃ k2, gk = k2 + 1 := ⟨gk - 1, by have := HI2.out; omega⟩
              have d0 : decide (i < 256) = true := decide_eq_true hi
              have cz := HMz.out.at i.toNat (by rw [half_len m i.toNat (by omega)]; omega)
              rw [half_get m i.toNat (by omega)] at cz
              have fz := HMz.out.frozen i.toNat
              have hM2 := HMz.out.set i.toNat (!m.testBit i.toNat)
              rw [half_set m i.toNat (by omega)] at hM2
              have hgb : b < g ∧ p < g ∧ w.heap.size ≤ g := by have := HMz.out.ge; have := HG.out; omega
              have HGB := Aside0.mk hgb
              have HM2 := Aside0.mk hM2
              clear hgb hM2
              go_wp2_with (fail)
              go_roundg k2
              case measure => have := HI2.out; omega
              case rel =>
                refine ⟨i + 1, rfl, ⟨by omega, by omega, by have := HI2.out; omega⟩, ⟨HBz.out.other (by have := HGB.out; omega) _ _⟩, ⟨?_⟩, ⟨(Below.heap_setCell _ ⟨g, i.toNat, none⟩ _ p (by have := HGB.out; show p ≠ g; omega)).trans HPz.out⟩, ⟨HFz.out.new HGB.out.2.2 _ _⟩⟩
                rw [show (i + 1).toNat = i.toNat + 1 by omega]
                exact HM2.out
            · have d0 : decide (i < 256) = false := decide_eq_false hi
              have hi2 : i.toNat = 256 := by have := HI2.out; omega
              have hp := HPz.out
              (have p0 : wr.cell? ⟨p, 0, none⟩ = some (.int .i64 0) := (blk_cell hp 0).trans rfl; have p1 : wr.cell? ⟨p, 1, none⟩ = some (.slice none 0 0) := (blk_cell hp 1).trans rfl; have p2 : wr.cell? ⟨p, 2, none⟩ = some (.slice none 0 0) := (blk_cell hp 2).trans rfl; have fp0 := blk_frozen hp 0; have fp1 := blk_frozen hp 1; have fp2 := blk_frozen hp 2)
              have hM9 : Kd.R Kd.bool TO wr base (fun _ => True) (.slice (some ⟨g, 0, none⟩) 256 c) (tabl (full ^^^ m)) := by have := HMz.out; rw [hi2, half_256] at this; unfold BoolAt at this; rwa [tabl_len] at this
              have HM9 := Aside0.mk hM9
              clear hp hM9 hi2 hi
              go_wp2_with (fail)
              have hM9 := HM9.out
              have hr := nok_ret (o := o) (r := (.byte (bracketB s S).1, (bracketB s S).2)) HPz.out HW.out.1 HW.out.2.1 HG.out.1 (knd_mk hM9 (Kd.R_nil _ _ _ _ _)) HFz.out (by rw [hbk]; show ParAt _ _ _ _ _ S'.F; rw [HI.out.2.2.2.2.1]; exact HBz.out) (show S'.at_ + 1 ≤ s.size by have := HZS.out; omega) (fun _ => by rw [hbk]; exact ⟨rfl, rfl, RT.byte _⟩)
              (obtain ⟨w9, hw9⟩ : ∃ w9, World.setCell (World.setCell (World.setCell wr ⟨p, 0, none⟩ (.int .i64 (1))) ⟨p, 1, none⟩ (.slice (some ⟨g, 0, none⟩) 256 c)) ⟨p, 2, none⟩ (.slice none 0 0) = w9 := ⟨_, rfl⟩; (try simp only [Exit.inBlock, Exit.then]); (try rw [hw9]); obtain ⟨c0, c1, c2, hN⟩ := hr w9 hw9; clear hw9; refine bodyPost_ret (by simp [results, Try.results65, go_sem, c0, c1, c2, hu32]; try rfl) rfl ?_)
              exact hN
           )
      · rw [if_neg h1] at hX
        have h93 : (c1 == 93) = false ∨ ((c1 == 93) = true ∧ fl = true) := by
          by_cases h : c1 = 93
          · refine .inr ⟨beq_iff_eq.2 h, ?_⟩
            rw [HI.out.2.2.2.2.2.2]
            exact decide_eq_true (by have := HI.out.2.2.2.2.2.1; have : ¬ S1.at_ < S'.at_ := fun e => h1 ⟨h, e⟩; omega)
          · exact .inl (beq_false_of_ne h)
        have HXI := Aside0.mk hX
        clear hX h1
        -- what stands behind it
        have hfc : (decide (z + 2 < (s.size : Int)) = false ∧ (s.size - S'.at_ < 3)) ∨ (z + 2 < (s.size : Int) ∧ ∃ (g1 : (z + 1).toNat < s.size) (g2 : (z + 2).toNat < s.size), ((s[(z + 1).toNat]'g1).toNat : Int) = bt s ((S'.at_ : Int) + 1) ∧ ((s[(z + 2).toNat]'g2).toNat : Int) = bt s ((S'.at_ : Int) + 2)) := by
          have hzz := HZ.out
          by_cases h : z + 2 < (s.size : Int)
          · refine .inr ⟨h, by omega, by omega, ?_, ?_⟩
            · rw [hzz]; unfold bt; rw [dif_pos (show (z + 1).toNat < s.size by omega)]
            · rw [hzz]; unfold bt; rw [dif_pos (show (z + 2).toNat < s.size by omega)]
          · exact .inl ⟨decide_eq_false h, by omega⟩
        have hsg : (decide (z + 2 < (s.size : Int)) = false ∧ brL s S1.at_ l (addR m c1.toNat 1) (skip S' 1) = X) ∨ (decide (z + 2 < (s.size : Int)) = true ∧ ∃ (g1 : (z + 1).toNat < s.size), (((s[(z + 1).toNat]'g1).toNat : Int) == 45) = false ∧ brL s S1.at_ l (addR m c1.toNat 1) (skip S' 1) = X) ∨ (decide (z + 2 < (s.size : Int)) = true ∧ ∃ (g1 : (z + 1).toNat < s.size) (g2 : (z + 2).toNat < s.size), ((s[(z + 1).toNat]'g1).toNat : Int) = 45 ∧ (((s[(z + 2).toNat]'g2).toNat : Int) == 93) = true ∧ brL s S1.at_ l (addR m c1.toNat 1) (skip S' 1) = X) ∨ (decide (z + 2 < (s.size : Int)) = true ∧ ∃ (g1 : (z + 1).toNat < s.size) (g2 : (z + 2).toNat < s.size), ((s[(z + 1).toNat]'g1).toNat : Int) = 45 ∧ (((s[(z + 2).toNat]'g2).toNat : Int) == 93) = false ∧ (if bt s ((S'.at_ : Int) + 2) < c1 then (false, 0, wrongB 2 (S'.at_ + 1) S') else brL s S1.at_ l (addR m c1.toNat ((bt s ((S'.at_ : Int) + 2)).toNat + 1 - c1.toNat)) (skip S' 3)) = X ∧ ((s[(z + 2).toNat]'g2).toNat : Int) = bt s ((S'.at_ : Int) + 2)) := by
          have hX := HXI.out
          rcases hfc with ⟨q1, q2⟩ | ⟨q1, g1, g2, q3, q4⟩
          · rw [if_pos (.inl q2)] at hX
            exact .inl ⟨q1, hX⟩
          · by_cases h45 : bt s ((S'.at_ : Int) + 1) = 45
            · by_cases h93 : bt s ((S'.at_ : Int) + 2) = 93
              · rw [if_pos (.inr (.inr h93))] at hX
                exact .inr (.inr (.inl ⟨decide_eq_true q1, g1, g2, q3.trans h45, beq_iff_eq.2 (q4.trans h93), hX⟩))
              · rw [if_neg (by have := HZ.out; rintro (h | h | h); (· omega); (· exact h h45); (· exact h93 h))] at hX
                exact .inr (.inr (.inr ⟨decide_eq_true q1, g1, g2, q3.trans h45, beq_false_of_ne (fun e => h93 (q4.symm.trans e)), hX, q4⟩))
            · rw [if_pos (.inr (.inl h45))] at hX
              exact .inr (.inl ⟨decide_eq_true q1, g1, beq_false_of_ne (fun e => h45 (q3.symm.trans e)), hX⟩)
        clear hfc HXI
        have q8 : 0 ≤ z + 1 := by omega
        have q9 : 0 ≤ z + 2 := by omega
        have HC0 := Aside0.mk hc0
        rcases h93 with h93 | ⟨h93, rfl⟩
        all_goals
          rcases hsg with hA | hB | hC | hD
          ·
              obtain ⟨q1, hX⟩ := hA
              go_wp2_with (fail)
              go_quiet (fail)
              have hbz : Below wx.heap.size wx (wx.drewN nq) := below_draws (Below.refl _ _) nq
              obtain ⟨wz, hwz⟩ : ∃ wz, wx.drewN nq = wz := ⟨_, rfl⟩
              rw [hwz] at hbz
              rw [hwz]
              have HBz := Aside0.mk (HBx.out.below hbz)
              have HMz := Aside0.mk (show BoolAt wz base g c (tabl m) from Kd.R_below HMx.out hbz)
              have HPz := Aside0.mk (blk_below HPx.out hbz)
              have HFz := Aside0.mk (HFx.out.trans (Mk.of hbz))
              clear hbz hwz x0 x1 f1 HBx HMx HPx HFx q1 h93
              have x0 : wz.cell? ⟨b, 0, none⟩ = some (.string s) := (blk_cell HBz.out 0).trans rfl
              have x1 : wz.cell? ⟨b, 1, none⟩ = some (.int .i64 z) := by rw [← HZ.out]; exact (blk_cell HBz.out 1).trans rfl
              have f1 := blk_frozen HBz.out 1
              have HE := Aside0.mk hX
              have cc := HMz.out.at c1.toNat (by rw [tabl_len]; have := HC0.out; omega)
              have cf := HMz.out.frozen c1.toNat
              have hM2 := HMz.out.set c1.toNat true
              rw [tabl_set m c1.toNat (by have := HC0.out; omega)] at hM2
              have HM2 := Aside0.mk hM2
              have hbg : b ≠ g := by have := HMz.out.ge; have := HG.out; omega
              have hgb : g ≠ b := fun e => hbg e.symm
              clear hX hM2
              go_wp2_with (fail)
              have HGB := Aside0.mk hgb
              go_roundg k1
              case measure => have := HI.out; omega
              case rel =>
                refine ⟨l, _, skip S' 1, false, rfl, ⟨by have := HI.out; omega, by have := HI.out.2.1; show _ < S'.at_ + 1 + l; omega, HE.out, by have := HZS.out; show S'.at_ + 1 ≤ _; omega, HI.out.2.2.2.2.1, by have := HI.out.2.2.2.2.2.1; show _ ≤ S'.at_ + 1; omega, (decide_eq_false (by have := HI.out.2.2.2.2.2.1; show ¬ S'.at_ + 1 = S1.at_; omega)).symm⟩, ⟨(HBz.out.other HGB.out _ _).inc 1 (z + 1) (by have := HZ.out; omega)⟩, ⟨HM2.out.far HG.out.2.1 1 _⟩, ⟨(Below.heap_setCell _ ⟨b, 1, none⟩ _ p HW.out.2.1).trans ((Below.heap_setCell _ ⟨g, c1.toNat, none⟩ _ p (by have := HMz.out.ge; have := HG.out; show p ≠ g; omega)).trans HPz.out)⟩, ⟨(HFz.out.new (Nat.le_trans HG.out.2.2 HMz.out.ge) _ _).set 1 _⟩⟩
          ·
              obtain ⟨q1, g1, q2, hX⟩ := hB
              have q0 : z + 2 < (s.size : Int) := of_decide_eq_true q1
              have q6 : z + 1 < (s.size : Int) := by omega
              go_wp2_with (fail)
              go_quiet (fail)
              have hbz : Below wx.heap.size wx (wx.drewN nq) := below_draws (Below.refl _ _) nq
              obtain ⟨wz, hwz⟩ : ∃ wz, wx.drewN nq = wz := ⟨_, rfl⟩
              rw [hwz] at hbz
              rw [hwz]
              have HBz := Aside0.mk (HBx.out.below hbz)
              have HMz := Aside0.mk (show BoolAt wz base g c (tabl m) from Kd.R_below HMx.out hbz)
              have HPz := Aside0.mk (blk_below HPx.out hbz)
              have HFz := Aside0.mk (HFx.out.trans (Mk.of hbz))
              clear hbz hwz x0 x1 f1 HBx HMx HPx HFx q1 h93
              have x0 : wz.cell? ⟨b, 0, none⟩ = some (.string s) := (blk_cell HBz.out 0).trans rfl
              have x1 : wz.cell? ⟨b, 1, none⟩ = some (.int .i64 z) := by rw [← HZ.out]; exact (blk_cell HBz.out 1).trans rfl
              have f1 := blk_frozen HBz.out 1
              have HE := Aside0.mk hX
              have cc := HMz.out.at c1.toNat (by rw [tabl_len]; have := HC0.out; omega)
              have cf := HMz.out.frozen c1.toNat
              have hM2 := HMz.out.set c1.toNat true
              rw [tabl_set m c1.toNat (by have := HC0.out; omega)] at hM2
              have HM2 := Aside0.mk hM2
              have hbg : b ≠ g := by have := HMz.out.ge; have := HG.out; omega
              have hgb : g ≠ b := fun e => hbg e.symm
              clear hX hM2
              go_wp2_with (fail)
              have HGB := Aside0.mk hgb
              go_roundg k1
              case measure => have := HI.out; omega
              case rel =>
                refine ⟨l, _, skip S' 1, false, rfl, ⟨by have := HI.out; omega, by have := HI.out.2.1; show _ < S'.at_ + 1 + l; omega, HE.out, by have := HZS.out; show S'.at_ + 1 ≤ _; omega, HI.out.2.2.2.2.1, by have := HI.out.2.2.2.2.2.1; show _ ≤ S'.at_ + 1; omega, (decide_eq_false (by have := HI.out.2.2.2.2.2.1; show ¬ S'.at_ + 1 = S1.at_; omega)).symm⟩, ⟨(HBz.out.other HGB.out _ _).inc 1 (z + 1) (by have := HZ.out; omega)⟩, ⟨HM2.out.far HG.out.2.1 1 _⟩, ⟨(Below.heap_setCell _ ⟨b, 1, none⟩ _ p HW.out.2.1).trans ((Below.heap_setCell _ ⟨g, c1.toNat, none⟩ _ p (by have := HMz.out.ge; have := HG.out; show p ≠ g; omega)).trans HPz.out)⟩, ⟨(HFz.out.new (Nat.le_trans HG.out.2.2 HMz.out.ge) _ _).set 1 _⟩⟩
          ·
              obtain ⟨q1, g1, g2, q2, q3, hX⟩ := hC
              have q0 : z + 2 < (s.size : Int) := of_decide_eq_true q1
              have q6 : z + 1 < (s.size : Int) := by omega
              go_wp2_with (fail)
              go_quiet (fail)
              have hbz : Below wx.heap.size wx (wx.drewN nq) := below_draws (Below.refl _ _) nq
              obtain ⟨wz, hwz⟩ : ∃ wz, wx.drewN nq = wz := ⟨_, rfl⟩
              rw [hwz] at hbz
              rw [hwz]
              have HBz := Aside0.mk (HBx.out.below hbz)
              have HMz := Aside0.mk (show BoolAt wz base g c (tabl m) from Kd.R_below HMx.out hbz)
              have HPz := Aside0.mk (blk_below HPx.out hbz)
              have HFz := Aside0.mk (HFx.out.trans (Mk.of hbz))
              clear hbz hwz x0 x1 f1 HBx HMx HPx HFx q1 h93
              have x0 : wz.cell? ⟨b, 0, none⟩ = some (.string s) := (blk_cell HBz.out 0).trans rfl
              have x1 : wz.cell? ⟨b, 1, none⟩ = some (.int .i64 z) := by rw [← HZ.out]; exact (blk_cell HBz.out 1).trans rfl
              have f1 := blk_frozen HBz.out 1
              have HE := Aside0.mk hX
              have cc := HMz.out.at c1.toNat (by rw [tabl_len]; have := HC0.out; omega)
              have cf := HMz.out.frozen c1.toNat
              have hM2 := HMz.out.set c1.toNat true
              rw [tabl_set m c1.toNat (by have := HC0.out; omega)] at hM2
              have HM2 := Aside0.mk hM2
              have hbg : b ≠ g := by have := HMz.out.ge; have := HG.out; omega
              have hgb : g ≠ b := fun e => hbg e.symm
              clear hX hM2
              go_wp2_with (fail)
              have HGB := Aside0.mk hgb
              go_roundg k1
              case measure => have := HI.out; omega
              case rel =>
                refine ⟨l, _, skip S' 1, false, rfl, ⟨by have := HI.out; omega, by have := HI.out.2.1; show _ < S'.at_ + 1 + l; omega, HE.out, by have := HZS.out; show S'.at_ + 1 ≤ _; omega, HI.out.2.2.2.2.1, by have := HI.out.2.2.2.2.2.1; show _ ≤ S'.at_ + 1; omega, (decide_eq_false (by have := HI.out.2.2.2.2.2.1; show ¬ S'.at_ + 1 = S1.at_; omega)).symm⟩, ⟨(HBz.out.other HGB.out _ _).inc 1 (z + 1) (by have := HZ.out; omega)⟩, ⟨HM2.out.far HG.out.2.1 1 _⟩, ⟨(Below.heap_setCell _ ⟨b, 1, none⟩ _ p HW.out.2.1).trans ((Below.heap_setCell _ ⟨g, c1.toNat, none⟩ _ p (by have := HMz.out.ge; have := HG.out; show p ≠ g; omega)).trans HPz.out)⟩, ⟨(HFz.out.new (Nat.le_trans HG.out.2.2 HMz.out.ge) _ _).set 1 _⟩⟩
          ·
              obtain ⟨q1, g1, g2, q2, q3, hX, q4⟩ := hD
              obtain ⟨hi, hhi⟩ : ∃ hi : Int, ((s[(z + 2).toNat]'g2).toNat : Int) = hi := ⟨_, rfl⟩
              rw [← q4, hhi] at hX
              have hir : 0 ≤ hi ∧ hi < 256 := by rw [← hhi]; exact ⟨Int.natCast_nonneg _, by have := (s[(z + 2).toNat]'g2).toNat_lt; omega⟩
              rw [hhi] at q3
              have HX3 := Aside0.mk hX
              have HIR := Aside0.mk hir
              clear hX q4 hir
              have q0 : z + 2 < (s.size : Int) := of_decide_eq_true q1
              have q6 : z + 1 < (s.size : Int) := by omega
              go_wp2_with (fail)
              go_quiet (fail)
              have hbz : Below wx.heap.size wx (wx.drewN nq) := below_draws (Below.refl _ _) nq
              obtain ⟨wz, hwz⟩ : ∃ wz, wx.drewN nq = wz := ⟨_, rfl⟩
              rw [hwz] at hbz
              rw [hwz]
              have HBz := Aside0.mk (HBx.out.below hbz)
              have HMz := Aside0.mk (show BoolAt wz base g c (tabl m) from Kd.R_below HMx.out hbz)
              have HPz := Aside0.mk (blk_below HPx.out hbz)
              have HFz := Aside0.mk (HFx.out.trans (Mk.of hbz))
              clear hbz hwz x0 x1 f1 HBx HMx HPx HFx q1 h93
              have x0 : wz.cell? ⟨b, 0, none⟩ = some (.string s) := (blk_cell HBz.out 0).trans rfl
              have x1 : wz.cell? ⟨b, 1, none⟩ = some (.int .i64 z) := by rw [← HZ.out]; exact (blk_cell HBz.out 1).trans rfl
              have f1 := blk_frozen HBz.out 1
              go_wp2_with (fail)
              go_quiet (fail)
              have hbz : Below wz.heap.size wz (wz.drewN nq) := below_draws (Below.refl _ _) nq
              obtain ⟨wv, hwv⟩ : ∃ wv, wz.drewN nq = wv := ⟨_, rfl⟩
              rw [hwv] at hbz
              rw [hwv]
              have HBv := Aside0.mk (HBz.out.below hbz)
              have HMv := Aside0.mk (show BoolAt wv base g c (tabl m) from Kd.R_below HMz.out hbz)
              have HPv := Aside0.mk (blk_below HPz.out hbz)
              have HFv := Aside0.mk (HFz.out.trans (Mk.of hbz))
              clear hbz hwv x0 x1 f1 HBz HMz HPz HFz q2 q3
              have x0 : wv.cell? ⟨b, 0, none⟩ = some (.string s) := (blk_cell HBv.out 0).trans rfl
              have x1 : wv.cell? ⟨b, 1, none⟩ = some (.int .i64 z) := by rw [← HZ.out]; exact (blk_cell HBv.out 1).trans rfl
              have f1 := blk_frozen HBv.out 1
              by_cases hD : hi < c1
              · have g4 : decide (hi < c1) = true := decide_eq_true hD
                have hE := HX3.out
                rw [if_pos hD] at hE
                have HE := Aside0.mk hE
                have hf := failsW wv b s S'.at_ o none 2 (S'.at_ + 1) HBv.out
                rw [show ((S'.at_ + 1 : Nat) : Int) = z + 1 by rw [← HZ.out]; simp] at hf
                clear hE hD
                go_wp2_with (fail)
                refine hf.mono ?_
                rintro e wy ⟨rfl, hBy, hFy⟩
                have hp := hFy.at HPv.out HW.out.2.1
                have HPy := Aside0.mk hp
                have HBy := Aside0.mk hBy
                have HFy := Aside0.mk (HFv.out.trans hFy)
                clear hBy hFy hf x0 x1 f1
                (have p0 : wy.cell? ⟨p, 0, none⟩ = some (.int .i64 0) := (blk_cell hp 0).trans rfl; have p1 : wy.cell? ⟨p, 1, none⟩ = some (.slice none 0 0) := (blk_cell hp 1).trans rfl; have p2 : wy.cell? ⟨p, 2, none⟩ = some (.slice none 0 0) := (blk_cell hp 2).trans rfl; have fp0 := blk_frozen hp 0; have fp1 := blk_frozen hp 1; have fp2 := blk_frozen hp 2)
                clear hp
                go_wp2_with (fail)
                have hr := nok_ret (o := o) (r := (.byte (bracketB s S).1, (bracketB s S).2)) HPy.out HW.out.1 HW.out.2.1 (Nat.lt_succ_self p) (knd_leaf 0) HFy.out (by rw [HNF.out.1, ← HE.out]; show ParAt _ _ _ _ _ (wrongB 2 (S'.at_ + 1) S').F; rw [wrong_or, HI.out.2.2.2.2.1]; exact HBy.out) HI.out.2.2.2.1 (fun hn => by rw [HNF.out.1, ← HE.out] at hn; exact absurd hn (wrong_ne 2 (S'.at_ + 1) S'))
                (obtain ⟨w9, hw9⟩ : ∃ w9, World.setCell (World.setCell (World.setCell wy ⟨p, 0, none⟩ (.int .i64 (0))) ⟨p, 1, none⟩ (.slice none 0 0)) ⟨p, 2, none⟩ (.slice none 0 0) = w9 := ⟨_, rfl⟩; (try simp only [Exit.inBlock, Exit.then]); (try rw [hw9]); obtain ⟨c0, c1, c2, hN⟩ := hr w9 hw9; clear hw9; refine bodyPost_ret (by simp [results, Try.results65, go_sem, c0, c1, c2, hu32]; try rfl) rfl ?_)
                exact hN
              · have g4 : decide (hi < c1) = false := decide_eq_false hD
                have hE := HX3.out
                rw [if_neg hD] at hE
                have HE := Aside0.mk hE
                have HD := Aside0.mk hD
                obtain ⟨M, hM⟩ : ∃ M, addR m c1.toNat (hi.toNat + 1 - c1.toNat) = M := ⟨_, rfl⟩
                rw [hM] at HE
                have HMM := Aside0.mk hM
                have j6 : 0 ≤ c1 := HC0.out.1
                have j7 : c1 ≤ 255 := HC0.out.2
                clear hE hD hM x0 x1 f1
                go_wp2_with (fail)
                go_loopg [9] 257 (fun kq v9 wq => ∃ (j : Int) (m' : Nat), v9 = .int .i64 j ∧ Aside0 (c1 ≤ j ∧ j ≤ hi + 1 ∧ j + kq ≥ hi + 2 ∧ 1 ≤ kq ∧ addR m' j.toNat (hi.toNat + 1 - j.toNat) = M) ∧ Aside0 (ParAt wq b s S'.at_ o none) ∧ Aside0 (BoolAt wq base g c (tabl m')) ∧ Aside0 (wq.heap[p]? = some (.cells #[.int .i64 0, .slice none 0 0, .slice none 0 0] TN (0, 0))) ∧ Aside0 (Mk b w wq))
                case atStart => exact ⟨c1, m, rfl, ⟨Int.le_refl _, by have := HD.out; omega, by have := HC0.out; have := HIR.out; omega, by omega, HMM.out⟩, HBv, HMv, HPv, HFv⟩
                case round =>
                  clear HBv HMv HPv HFv
                  obtain ⟨j, m', rfl, HJ, HBv, HMv, HPv, HFv⟩ := hrel
                  have j0 : 0 ≤ j := by have := HJ.out; have := HC0.out; omega
                  have j8 : 0 ≤ hi := HIR.out.1
                  have j9 : hi < 256 := HIR.out.2
                  by_cases hj : j ≤ hi
                  · obtain ⟨k2, rfl⟩ : ∃ k2, gk = k2 + 1 := ⟨gk - 1, by have := HJ.out; omega⟩
                    have d0 : decide (j ≤ hi) = true := decide_eq_true hj
                    have j1 : j < 256 := by have := HIR.out; omega
                    have cc := HMv.out.at j.toNat (by rw [tabl_len]; omega)
                    have cf := HMv.out.frozen j.toNat
                    have hM2 := HMv.out.set j.toNat true
                    rw [tabl_set m' j.toNat (by omega)] at hM2
                    have HM2 := Aside0.mk hM2
                    have hA := HJ.out.2.2.2.2
                    rw [show hi.toNat + 1 - j.toNat = (hi.toNat + 1 - (j + 1).toNat) + 1 by omega, addR, show j.toNat + 1 = (j + 1).toNat by omega] at hA
                    have HAA := Aside0.mk hA
                    have HGB := Aside0.mk (show g ≠ b ∧ p ≠ g ∧ w.heap.size ≤ g by have := HMv.out.ge; have := HG.out; omega)
                    have HJJ := Aside0.mk hj
                    clear hM2 hA hj
                    go_wp2_with (fail)
                    go_roundg k2
                    case measure => have := HJ.out; omega
                    case rel => exact ⟨j + 1, _, rfl, ⟨by have := HJ.out; omega, by have := HJJ.out; omega, by have := HJ.out; omega, by have := HJ.out; have := HJJ.out; omega, HAA.out⟩, ⟨HBv.out.other HGB.out.1 _ _⟩, HM2, ⟨(Below.heap_setCell _ ⟨g, j.toNat, none⟩ _ p HGB.out.2.1).trans HPv.out⟩, ⟨HFv.out.new HGB.out.2.2 _ _⟩⟩
                  · have d0 : decide (j ≤ hi) = false := decide_eq_false hj
                    have hA := HJ.out.2.2.2.2
                    rw [show hi.toNat + 1 - j.toNat = 0 by omega, addR] at hA
                    subst hA
                    have x1 : wr.cell? ⟨b, 1, none⟩ = some (.int .i64 z) := by rw [← HZ.out]; exact (blk_cell HBv.out 1).trans rfl
                    have f1 := blk_frozen HBv.out 1
                    clear hj
                    go_wp2_with (fail)
                    go_roundg k1
                    case measure => have := HI.out; omega
                    case rel =>
                      refine ⟨l, _, skip S' 3, false, rfl, ⟨by have := HI.out; omega, by have := HI.out.2.1; show _ < S'.at_ + 3 + l; omega, HE.out, by have := HZ.out; show S'.at_ + 3 ≤ _; omega, HI.out.2.2.2.2.1, by have := HI.out.2.2.2.2.2.1; show _ ≤ S'.at_ + 3; omega, (decide_eq_false (by have := HI.out.2.2.2.2.2.1; show ¬ S'.at_ + 3 = S1.at_; omega)).symm⟩, ⟨HBv.out.inc 3 (z + 3) (by have := HZ.out; omega)⟩, ⟨HMv.out.far HG.out.2.1 1 _⟩, ⟨(Below.heap_setCell _ ⟨b, 1, none⟩ _ p HW.out.2.1).trans HPv.out⟩, ⟨HFv.out.set 1 _⟩⟩
set_option maxHeartbeats 16000000 in
set_option maxRecDepth 100000 in
theorem setRW1 (w : World) (b : Nat) (s : ByteArray) (S : BS) (o : Int) (hs : s.size ≤ 200) (ha : S.at_ ≤ s.size) (hF0 : S.F = none) (h : ParAt w b s S.at_ o none) (z : Int) (hz : (S.at_ : Int) = z) (hat : z.toNat < s.size) (d0 : decide (z < (s.size : Int)) = true) (d1 : (((s[z.toNat]'hat).toNat : Int) == 94) = false) (hpk : peekB s S ≠ some 94) :
    Calls Try.prog 65 #[.pointer (some ⟨b, 0, none⟩)] w fun e w' => NOk w w' b s o (.byte (bracketB s S).1, (bracketB s S).2) e := by
  have hu32 := Try.underlying32
  have hu76 := Try.underlying76
  have HS := Aside0.mk h
  have HH := Aside0.mk (⟨hs, ha, hF0⟩ : s.size ≤ 200 ∧ S.at_ ≤ s.size ∧ S.F = none)
  clear h hs ha hF0
  have hbw : b < w.heap.size := blk_lt HS.out
  go_enter Try.func65, Try.ntmps65
  go_wp2_with (first | ((with_reducible refine gate_dst (N := 2) rfl ?_); (try (refine gate_guard (by rfl) ?_; dsimp only)); refine box_event ?hg (N := 2) ?hd (cs := #[.int .i64 0, .slice none 0 0, .slice none 0 0]) (t := 32) ?hr ?_; (case hd => rfl); (case hg => rfl); (case hr => first | (go_simp; done) | (go_simp; rfl)); intro p ep wp hp lp; have Ep := Aside0.mk ep; clear ep; have p0 : wp.cell? ⟨p, 0, none⟩ = some (.int .i64 0) := (blk_cell hp 0).trans rfl; have p1 : wp.cell? ⟨p, 1, none⟩ = some (.slice none 0 0) := (blk_cell hp 1).trans rfl; have p2 : wp.cell? ⟨p, 2, none⟩ = some (.slice none 0 0) := (blk_cell hp 2).trans rfl; have fp0 := blk_frozen hp 0; have fp1 := blk_frozen hp 1; have fp2 := blk_frozen hp 2) | fail)
  have hB1 := HS.out.below lp
  have HW := Aside0.mk (⟨by have := Ep.out; omega, by have := Ep.out; omega, hbw⟩ : w.heap.size ≤ p ∧ p ≠ b ∧ b < w.heap.size)
  have HP1 := Aside0.mk hp
  have HB1 := Aside0.mk hB1
  have HL1 := Aside0.mk lp
  clear hbw p0 p1 p2 fp0 fp1 fp2
  have x0 : wp.cell? ⟨b, 0, none⟩ = some (.string s) := (blk_cell hB1 0).trans rfl
  have x1 : wp.cell? ⟨b, 1, none⟩ = some (.int .i64 z) := by rw [← hz]; exact (blk_cell hB1 1).trans rfl
  have f1 := blk_frozen hB1 1
  have hz1 : z + 1 < 9223372036854775808 := by have := HH.out; omega
  have hz0 : 0 ≤ z := by omega
  have HZ := Aside0.mk hz
  clear hp hB1 lp hz
  have HX2 : Aside0 (∃ (S1 : BS) (nf : Bool), nf = false ∧ S1.at_ ≤ s.size ∧ S1.F = none ∧ ParAt wp b s S1.at_ o none ∧ bracketB s S = bkF nf (brL s S1.at_ (s.size + 1) 0 S1)) := ⟨S, false, rfl, HH.out.2.1, HH.out.2.2, HB1.out, by rw [bracketB, if_neg hpk]; rfl⟩
  clear hpk
  have hzs : z < (s.size : Int) := of_decide_eq_true d0
  (simp only [Act.put, List.setIfInBounds_toArray, List.set_cons_succ, List.set_cons_zero])
  go_wp2_with (fail)
  go_quiet (fail)
  obtain ⟨S1, nf, hnf, HS1, HS2, hB4, HXE⟩ := HX2.out
  obtain ⟨w4, hw4⟩ : ∃ w4, wp.drewN nq = w4 := ⟨_, rfl⟩
  have HB4 := Aside0.mk (show ParAt w4 b s S1.at_ o none by rw [← hw4]; exact hB4.below (below_draws (Below.refl _ _) nq))
  have HP4 := Aside0.mk (show w4.heap[p]? = some (.cells #[.int .i64 0, .slice none 0 0, .slice none 0 0] TN (0, 0)) by rw [← hw4]; exact blk_below HP1.out (below_draws (Below.refl _ _) nq))
  have HF4 := Aside0.mk (show Mk b w w4 by rw [← hw4]; exact Mk.of (below_then HL1.out HL1.out.size (below_draws (Below.refl _ _) nq)))
  rw [hw4]
  clear hw4 x0 x1 f1 d0 d1 hB4 HX2
  go_wp2_with (fail)
  have HX := Aside0.mk (⟨HXE, HS1, HS2, hnf⟩ : bracketB s S = bkF nf (brL s S1.at_ (s.size + 1) 0 S1) ∧ S1.at_ ≤ s.size ∧ S1.F = none ∧ nf = _)
  clear HXE HS1 HS2 hnf hz1 HZ HB1 HL1 HP1
  have hpg := blk_lt HP4.out
  have hbg := blk_lt HB4.out
  obtain ⟨base, hbase⟩ : ∃ base, w4.heap.size = base := ⟨_, rfl⟩
  rw [hbase] at hpg hbg
  refine (bytesW w4 false).mono ?_
  rintro e w5 ⟨g, c, rfl, hM, hl5⟩
  rw [hbase, ← tabl_0] at hM
  have HG := Aside0.mk (⟨hpg, hbg, Nat.le_trans HF4.out.size (Nat.le_of_eq hbase)⟩ : p < base ∧ b < base ∧ w.heap.size ≤ base)
  have HM5 := Aside0.mk hM
  have HB5 := Aside0.mk (HB4.out.below hl5)
  have HP5 := Aside0.mk (blk_below HP4.out hl5)
  have HF5 := Aside0.mk (HF4.out.trans (Mk.of hl5))
  clear hM hl5 hbase hpg hbg HB4 HP4 HF4
  obtain ⟨N, hN⟩ : ∃ N, s.size + 1 = N := ⟨_, rfl⟩
  obtain ⟨X, hXX⟩ : ∃ X, brL s S1.at_ (s.size + 1) 0 S1 = X := ⟨_, rfl⟩
  have HXX := Aside0.mk (⟨by rw [← hN]; exact hXX, hN⟩ : brL s S1.at_ N 0 S1 = X ∧ s.size + 1 = N)
  rw [hXX] at HX
  clear hN hXX
  go_wp2_with (fail)
  have HNF := Aside0.mk (⟨HX.out.1, HX.out.2.2.2⟩ : bracketB s S = bkF nf X ∧ nf = _)
  go_loopg [5] (N + 1) (fun kq v5 wr => ∃ (n m : Nat) (S' : BS) (fl : Bool), v5 = .bool fl ∧ Aside0 (n + 1 = kq ∧ s.size < S'.at_ + n ∧ brL s S1.at_ n m S' = X ∧ S'.at_ ≤ s.size ∧ S'.F = none ∧ S1.at_ ≤ S'.at_ ∧ fl = decide (S'.at_ = S1.at_)) ∧ Aside0 (ParAt wr b s S'.at_ o none) ∧ Aside0 (BoolAt wr base g c (tabl m)) ∧ Aside0 (wr.heap[p]? = some (.cells #[.int .i64 0, .slice none 0 0, .slice none 0 0] TN (0, 0))) ∧ Aside0 (Mk b w wr))
  case atStart => exact ⟨N, 0, S1, true, rfl, ⟨rfl, by have := HXX.out.2; omega, HXX.out.1, HX.out.2.1, HX.out.2.2.1, Nat.le_refl _, by simp⟩, HB5, HM5, HP5, HF5⟩
  case round =>
    clear HB5 HM5 HP5 HF5 HXX HX
    obtain ⟨n, m, S', fl, rfl, HI, HB, HM, HP, HF⟩ := hrel
    have ihP := pkW wr b s S'.at_ o none HB.out
    obtain ⟨cc, hc⟩ : ∃ cc, pk s S'.at_ none = cc := ⟨_, rfl⟩
    rw [hc] at ihP
    have HC := Aside0.mk (show peekB s S' = cc by rw [← pk_eq, HI.out.2.2.2.2.1]; exact hc)
    clear hc
    go_wp2_with (fail)
    refine ihP.mono ?_
    rintro e wx ⟨rfl, hbx⟩
    have HBx := Aside0.mk (HB.out.below hbx)
    have HMx := Aside0.mk (show BoolAt wx base g c (tabl m) from Kd.R_below HM.out hbx)
    have HPx := Aside0.mk (blk_below HP.out hbx)
    have HFx := Aside0.mk (HF.out.trans (Mk.of hbx))
    clear hbx ihP HB HM HP HF
    obtain ⟨z, hz⟩ : ∃ z : Int, (S'.at_ : Int) = z := ⟨_, rfl⟩
    have HZ := Aside0.mk hz
    cases cc with
    | none =>
      have hX := HI.out.2.2.1
      rw [brL_stop s S1.at_ n m S' HC.out] at hX
      have HE := Aside0.mk hX
      have x0 : wx.cell? ⟨b, 0, none⟩ = some (.string s) := (blk_cell HBx.out 0).trans rfl
      have hf := failsW wx b s S'.at_ o none 3 s.size HBx.out
      clear hX hz
      go_wp2_with (fail)
      refine hf.mono ?_
      rintro e wy ⟨rfl, hBy, hFy⟩
      have hp := hFy.at HPx.out HW.out.2.1
      have HPy := Aside0.mk hp
      have HBy := Aside0.mk hBy
      have HFy := Aside0.mk (HFx.out.trans hFy)
      clear hBy hFy hf x0
      (have p0 : wy.cell? ⟨p, 0, none⟩ = some (.int .i64 0) := (blk_cell hp 0).trans rfl; have p1 : wy.cell? ⟨p, 1, none⟩ = some (.slice none 0 0) := (blk_cell hp 1).trans rfl; have p2 : wy.cell? ⟨p, 2, none⟩ = some (.slice none 0 0) := (blk_cell hp 2).trans rfl; have fp0 := blk_frozen hp 0; have fp1 := blk_frozen hp 1; have fp2 := blk_frozen hp 2)
      clear hp
      go_wp2_with (fail)
      have hr := nok_ret (o := o) (r := (.byte (bracketB s S).1, (bracketB s S).2)) HPy.out HW.out.1 HW.out.2.1 (Nat.lt_succ_self p) (knd_leaf 0) HFy.out (by rw [HNF.out.1, ← HE.out]; show ParAt _ _ _ _ _ (wrongB 3 s.size S').F; rw [wrong_or, HI.out.2.2.2.2.1]; exact HBy.out) HI.out.2.2.2.1 (fun hn => by rw [HNF.out.1, ← HE.out] at hn; exact absurd hn (wrong_ne 3 s.size S'))
      (obtain ⟨w9, hw9⟩ : ∃ w9, World.setCell (World.setCell (World.setCell wy ⟨p, 0, none⟩ (.int .i64 (0))) ⟨p, 1, none⟩ (.slice none 0 0)) ⟨p, 2, none⟩ (.slice none 0 0) = w9 := ⟨_, rfl⟩; (try simp only [Exit.inBlock, Exit.then]); (try rw [hw9]); obtain ⟨c0, c1, c2, hN⟩ := hr w9 hw9; clear hw9; refine bodyPost_ret (by simp [results, Try.results65, go_sem, c0, c1, c2, hu32]; try rfl) rfl ?_)
      exact hN
    | some c1 =>
      have hbr := bt_range s S'.at_
      have hcl := peek_lt HC.out
      obtain ⟨l, rfl⟩ : ∃ l, n = l + 1 := ⟨n - 1, by have := HI.out.2.1; omega⟩
      obtain ⟨k1, rfl⟩ : ∃ k1, gk = k1 + 1 := ⟨gk - 1, by have := HI.out; omega⟩
      have hc0 : 0 ≤ c1 ∧ c1 ≤ 255 := by rw [hcl.2.2]; exact hbr
      have hX := HI.out.2.2.1
      rw [brL_c HC.out] at hX
      have hz0 : 0 ≤ z := by omega
      have hzs : z < (s.size : Int) := by omega
      have hz3 : z + 3 < 9223372036854775808 := by have := HH.out; omega
      have HZS := Aside0.mk (⟨hcl.1, hcl.2.2⟩ : S'.at_ < s.size ∧ c1 = bt s S'.at_)
      clear hbr hcl hz
      have x0 : wx.cell? ⟨b, 0, none⟩ = some (.string s) := (blk_cell HBx.out 0).trans rfl
      have x1 : wx.cell? ⟨b, 1, none⟩ = some (.int .i64 z) := by rw [← HZ.out]; exact (blk_cell HBx.out 1).trans rfl
      have f1 := blk_frozen HBx.out 1
      by_cases h1 : c1 = 93 ∧ S1.at_ < S'.at_
      · rw [if_pos h1] at hX
        have HE := Aside0.mk hX
        obtain ⟨rfl, hlt⟩ := h1
        obtain rfl : fl = false := by rw [HI.out.2.2.2.2.2.2]; exact decide_eq_false (by omega)
        clear hX hc0 hlt hz3
        have hz1 : z + 1 < 9223372036854775808 := by have := HH.out; have := HZS.out; have := HZ.out; omega
        go_wp2_with (fail)
        obtain ⟨w7, hw7⟩ : ∃ w7, wx.setCell ⟨b, 1, none⟩ (.int .i64 (z + 1)) = w7 := ⟨_, rfl⟩
        have HB7 := Aside0.mk (show ParAt w7 b s (S'.at_ + 1) o none by rw [← hw7]; exact HBx.out.inc 1 (z + 1) (by have := HZ.out; omega))
        have HM7 := Aside0.mk (show BoolAt w7 base g c (tabl m) by rw [← hw7]; exact HMx.out.far HG.out.2.1 1 _)
        have HP7 := Aside0.mk (show w7.heap[p]? = some (.cells #[.int .i64 0, .slice none 0 0, .slice none 0 0] TN (0, 0)) by rw [← hw7]; exact (Below.heap_setCell _ ⟨b, 1, none⟩ _ p HW.out.2.1).trans HPx.out)
        have HF7 := Aside0.mk (show Mk b w w7 by rw [← hw7]; exact HFx.out.set 1 _)
        rw [hw7]
        clear hw7 x0 x1 f1 HBx HMx HPx HFx hz1 hz0 hzs HZ
        first
        | (have hnf : nf = false := HNF.out.2
           have hbk : bracketB s S = (m, skip S' 1) := by rw [HNF.out.1, hnf, ← HE.out, bkF_f]
           go_loopg [10] 1 (fun kq v10 wz => v10 = .int .i64 0 ∧ Aside0 (1 ≤ kq) ∧ Aside0 (ParAt wz b s (S'.at_ + 1) o none) ∧ Aside0 (BoolAt wz base g c (tabl m)) ∧ Aside0 (wz.heap[p]? = some (.cells #[.int .i64 0, .slice none 0 0, .slice none 0 0] TN (0, 0))) ∧ Aside0 (Mk b w wz))
           case atStart => exact ⟨rfl, ⟨Nat.le_refl _⟩, HB7, HM7, HP7, HF7⟩
           case round =>
            clear HB7 HM7 HP7 HF7
            obtain ⟨rfl, -, HBz, HMz, HPz, HFz⟩ := hrel
            have hp := HPz.out
            (have p0 : wr.cell? ⟨p, 0, none⟩ = some (.int .i64 0) := (blk_cell hp 0).trans rfl; have p1 : wr.cell? ⟨p, 1, none⟩ = some (.slice none 0 0) := (blk_cell hp 1).trans rfl; have p2 : wr.cell? ⟨p, 2, none⟩ = some (.slice none 0 0) := (blk_cell hp 2).trans rfl; have fp0 := blk_frozen hp 0; have fp1 := blk_frozen hp 1; have fp2 := blk_frozen hp 2)
            clear hp
            go_wp2_with (fail)
            have hM9 : Kd.R Kd.bool TO wr base (fun _ => True) (.slice (some ⟨g, 0, none⟩) 256 c) (tabl m) := by have := HMz.out; unfold BoolAt at this; rwa [tabl_len] at this
            have hr := nok_ret (o := o) (r := (.byte (bracketB s S).1, (bracketB s S).2)) HPz.out HW.out.1 HW.out.2.1 HG.out.1 (knd_mk hM9 (Kd.R_nil _ _ _ _ _)) HFz.out (by rw [hbk]; show ParAt _ _ _ _ _ S'.F; rw [HI.out.2.2.2.2.1]; exact HBz.out) (show S'.at_ + 1 ≤ s.size by have := HZS.out; omega) (fun _ => by rw [hbk]; exact ⟨rfl, rfl, RT.byte _⟩)
            (obtain ⟨w9, hw9⟩ : ∃ w9, World.setCell (World.setCell (World.setCell wr ⟨p, 0, none⟩ (.int .i64 (1))) ⟨p, 1, none⟩ (.slice (some ⟨g, 0, none⟩) 256 c)) ⟨p, 2, none⟩ (.slice none 0 0) = w9 := ⟨_, rfl⟩; (try simp only [Exit.inBlock, Exit.then]); (try rw [hw9]); obtain ⟨c0, c1, c2, hN⟩ := hr w9 hw9; clear hw9; refine bodyPost_ret (by simp [results, Try.results65, go_sem, c0, c1, c2, hu32]; try rfl) rfl ?_)
            exact hN
           )
        | (have hnf : nf = true := HNF.out.2
           have hbk : bracketB s S = (full ^^^ m, skip S' 1) := by rw [HNF.out.1, hnf, ← HE.out, bkF_t]
           go_loopg [10] 257 (fun kq v10 wz => ∃ i : Int, v10 = .int .i64 i ∧ Aside0 (0 ≤ i ∧ i ≤ 256 ∧ i + kq = 257) ∧ Aside0 (ParAt wz b s (S'.at_ + 1) o none) ∧ Aside0 (BoolAt wz base g c (half m i.toNat)) ∧ Aside0 (wz.heap[p]? = some (.cells #[.int .i64 0, .slice none 0 0, .slice none 0 0] TN (0, 0))) ∧ Aside0 (Mk b w wz))
           case atStart => exact ⟨0, rfl, ⟨by omega, by omega, by omega⟩, HB7, ⟨by rw [show (0 : Int).toNat = 0 from rfl, half_0]; exact HM7.out⟩, HP7, HF7⟩
           case round =>
            clear HB7 HM7 HP7 HF7
            obtain ⟨i, rfl, HI2, HBz, HMz, HPz, HFz⟩ := hrel
            have d3 : 0 ≤ i := HI2.out.1
            by_cases hi : i < 256
            · obtain ⟨k2, rfl⟩ : ∃ k2, gk = k2 + 1 := ⟨gk - 1, by have := HI2.out; omega⟩
              have d0 : decide (i < 256) = true := decide_eq_true hi
              have cz := HMz.out.at i.toNat (by rw [half_len m i.toNat (by omega)]; omega)
              rw [half_get m i.toNat (by omega)] at cz
              have fz := HMz.out.frozen i.toNat
              have hM2 := HMz.out.set i.toNat (!m.testBit i.toNat)
              rw [half_set m i.toNat (by omega)] at hM2
              have hgb : b < g ∧ p < g ∧ w.heap.size ≤ g := by have := HMz.out.ge; have := HG.out; omega
              have HGB := Aside0.mk hgb
              have HM2 := Aside0.mk hM2
              clear hgb hM2
              go_wp2_with (fail)
              go_roundg k2
              case measure => have := HI2.out; omega
              case rel =>
                refine ⟨i + 1, rfl, ⟨by omega, by omega, by have := HI2.out; omega⟩, ⟨HBz.out.other (by have := HGB.out; omega) _ _⟩, ⟨?_⟩, ⟨(Below.heap_setCell _ ⟨g, i.toNat, none⟩ _ p (by have := HGB.out; show p ≠ g; omega)).trans HPz.out⟩, ⟨HFz.out.new HGB.out.2.2 _ _⟩⟩
                rw [show (i + 1).toNat = i.toNat + 1 by omega]
                exact HM2.out
            · have d0 : decide (i < 256) = false := decide_eq_false hi
              have hi2 : i.toNat = 256 := by have := HI2.out; omega
              have hp := HPz.out
              (have p0 : wr.cell? ⟨p, 0, none⟩ = some (.int .i64 0) := (blk_cell hp 0).trans rfl; have p1 : wr.cell? ⟨p, 1, none⟩ = some (.slice none 0 0) := (blk_cell hp 1).trans rfl; have p2 : wr.cell? ⟨p, 2, none⟩ = some (.slice none 0 0) := (blk_cell hp 2).trans rfl; have fp0 := blk_frozen hp 0; have fp1 := blk_frozen hp 1; have fp2 := blk_frozen hp 2)
              have hM9 : Kd.R Kd.bool TO wr base (fun _ => True) (.slice (some ⟨g, 0, none⟩) 256 c) (tabl (full ^^^ m)) := by have := HMz.out; rw [hi2, half_256] at this; unfold BoolAt at this; rwa [tabl_len] at this
              have HM9 := Aside0.mk hM9
              clear hp hM9 hi2 hi
              go_wp2_with (fail)
              have hM9 := HM9.out
              have hr := nok_ret (o := o) (r := (.byte (bracketB s S).1, (bracketB s S).2)) HPz.out HW.out.1 HW.out.2.1 HG.out.1 (knd_mk hM9 (Kd.R_nil _ _ _ _ _)) HFz.out (by rw [hbk]; show ParAt _ _ _ _ _ S'.F; rw [HI.out.2.2.2.2.1]; exact HBz.out) (show S'.at_ + 1 ≤ s.size by have := HZS.out; omega) (fun _ => by rw [hbk]; exact ⟨rfl, rfl, RT.byte _⟩)
              (obtain ⟨w9, hw9⟩ : ∃ w9, World.setCell (World.setCell (World.setCell wr ⟨p, 0, none⟩ (.int .i64 (1))) ⟨p, 1, none⟩ (.slice (some ⟨g, 0, none⟩) 256 c)) ⟨p, 2, none⟩ (.slice none 0 0) = w9 := ⟨_, rfl⟩; (try simp only [Exit.inBlock, Exit.then]); (try rw [hw9]); obtain ⟨c0, c1, c2, hN⟩ := hr w9 hw9; clear hw9; refine bodyPost_ret (by simp [results, Try.results65, go_sem, c0, c1, c2, hu32]; try rfl) rfl ?_)
              exact hN
           )
      · rw [if_neg h1] at hX
        have h93 : (c1 == 93) = false ∨ ((c1 == 93) = true ∧ fl = true) := by
          by_cases h : c1 = 93
          · refine .inr ⟨beq_iff_eq.2 h, ?_⟩
            rw [HI.out.2.2.2.2.2.2]
            exact decide_eq_true (by have := HI.out.2.2.2.2.2.1; have : ¬ S1.at_ < S'.at_ := fun e => h1 ⟨h, e⟩; omega)
          · exact .inl (beq_false_of_ne h)
        have HXI := Aside0.mk hX
        clear hX h1
        -- what stands behind it
        have hfc : (decide (z + 2 < (s.size : Int)) = false ∧ (s.size - S'.at_ < 3)) ∨ (z + 2 < (s.size : Int) ∧ ∃ (g1 : (z + 1).toNat < s.size) (g2 : (z + 2).toNat < s.size), ((s[(z + 1).toNat]'g1).toNat : Int) = bt s ((S'.at_ : Int) + 1) ∧ ((s[(z + 2).toNat]'g2).toNat : Int) = bt s ((S'.at_ : Int) + 2)) := by
          have hzz := HZ.out
          by_cases h : z + 2 < (s.size : Int)
          · refine .inr ⟨h, by omega, by omega, ?_, ?_⟩
            · rw [hzz]; unfold bt; rw [dif_pos (show (z + 1).toNat < s.size by omega)]
            · rw [hzz]; unfold bt; rw [dif_pos (show (z + 2).toNat < s.size by omega)]
          · exact .inl ⟨decide_eq_false h, by omega⟩
        have hsg : (decide (z + 2 < (s.size : Int)) = false ∧ brL s S1.at_ l (addR m c1.toNat 1) (skip S' 1) = X) ∨ (decide (z + 2 < (s.size : Int)) = true ∧ ∃ (g1 : (z + 1).toNat < s.size), (((s[(z + 1).toNat]'g1).toNat : Int) == 45) = false ∧ brL s S1.at_ l (addR m c1.toNat 1) (skip S' 1) = X) ∨ (decide (z + 2 < (s.size : Int)) = true ∧ ∃ (g1 : (z + 1).toNat < s.size) (g2 : (z + 2).toNat < s.size), ((s[(z + 1).toNat]'g1).toNat : Int) = 45 ∧ (((s[(z + 2).toNat]'g2).toNat : Int) == 93) = true ∧ brL s S1.at_ l (addR m c1.toNat 1) (skip S' 1) = X) ∨ (decide (z + 2 < (s.size : Int)) = true ∧ ∃ (g1 : (z + 1).toNat < s.size) (g2 : (z + 2).toNat < s.size), ((s[(z + 1).toNat]'g1).toNat : Int) = 45 ∧ (((s[(z + 2).toNat]'g2).toNat : Int) == 93) = false ∧ (if bt s ((S'.at_ : Int) + 2) < c1 then (false, 0, wrongB 2 (S'.at_ + 1) S') else brL s S1.at_ l (addR m c1.toNat ((bt s ((S'.at_ : Int) + 2)).toNat + 1 - c1.toNat)) (skip S' 3)) = X ∧ ((s[(z + 2).toNat]'g2).toNat : Int) = bt s ((S'.at_ : Int) + 2)) := by
          have hX := HXI.out
          rcases hfc with ⟨q1, q2⟩ | ⟨q1, g1, g2, q3, q4⟩
          · rw [if_pos (.inl q2)] at hX
            exact .inl ⟨q1, hX⟩
          · by_cases h45 : bt s ((S'.at_ : Int) + 1) = 45
            · by_cases h93 : bt s ((S'.at_ : Int) + 2) = 93
              · rw [if_pos (.inr (.inr h93))] at hX
                exact .inr (.inr (.inl ⟨decide_eq_true q1, g1, g2, q3.trans h45, beq_iff_eq.2 (q4.trans h93), hX⟩))
              · rw [if_neg (by have := HZ.out; rintro (h | h | h); (· omega); (· exact h h45); (· exact h93 h))] at hX
                exact .inr (.inr (.inr ⟨decide_eq_true q1, g1, g2, q3.trans h45, beq_false_of_ne (fun e => h93 (q4.symm.trans e)), hX, q4⟩))
            · rw [if_pos (.inr (.inl h45))] at hX
              exact .inr (.inl ⟨decide_eq_true q1, g1, beq_false_of_ne (fun e => h45 (q3.symm.trans e)), hX⟩)
        clear hfc HXI
        have q8 : 0 ≤ z + 1 := by omega
        have q9 : 0 ≤ z + 2 := by omega
        have HC0 := Aside0.mk hc0
        rcases h93 with h93 | ⟨h93, rfl⟩
        all_goals
          rcases hsg with hA | hB | hC | hD
          ·
              obtain ⟨q1, hX⟩ := hA
              go_wp2_with (fail)
              go_quiet (fail)
              have hbz : Below wx.heap.size wx (wx.drewN nq) := below_draws (Below.refl _ _) nq
              obtain ⟨wz, hwz⟩ : ∃ wz, wx.drewN nq = wz := ⟨_, rfl⟩
              rw [hwz] at hbz
              rw [hwz]
              have HBz := Aside0.mk (HBx.out.below hbz)
              have HMz := Aside0.mk (show BoolAt wz base g c (tabl m) from Kd.R_below HMx.out hbz)
              have HPz := Aside0.mk (blk_below HPx.out hbz)
              have HFz := Aside0.mk (HFx.out.trans (Mk.of hbz))
              clear hbz hwz x0 x1 f1 HBx HMx HPx HFx q1 h93
              have x0 : wz.cell? ⟨b, 0, none⟩ = some (.string s) := (blk_cell HBz.out 0).trans rfl
              have x1 : wz.cell? ⟨b, 1, none⟩ = some (.int .i64 z) := by rw [← HZ.out]; exact (blk_cell HBz.out 1).trans rfl
              have f1 := blk_frozen HBz.out 1
              have HE := Aside0.mk hX
              have cc := HMz.out.at c1.toNat (by rw [tabl_len]; have := HC0.out; omega)
              have cf := HMz.out.frozen c1.toNat
              have hM2 := HMz.out.set c1.toNat true
              rw [tabl_set m c1.toNat (by have := HC0.out; omega)] at hM2
              have HM2 := Aside0.mk hM2
              have hbg : b ≠ g := by have := HMz.out.ge; have := HG.out; omega
              have hgb : g ≠ b := fun e => hbg e.symm
              clear hX hM2
              go_wp2_with (fail)
              have HGB := Aside0.mk hgb
              go_roundg k1
              case measure => have := HI.out; omega
              case rel =>
                refine ⟨l, _, skip S' 1, false, rfl, ⟨by have := HI.out; omega, by have := HI.out.2.1; show _ < S'.at_ + 1 + l; omega, HE.out, by have := HZS.out; show S'.at_ + 1 ≤ _; omega, HI.out.2.2.2.2.1, by have := HI.out.2.2.2.2.2.1; show _ ≤ S'.at_ + 1; omega, (decide_eq_false (by have := HI.out.2.2.2.2.2.1; show ¬ S'.at_ + 1 = S1.at_; omega)).symm⟩, ⟨(HBz.out.other HGB.out _ _).inc 1 (z + 1) (by have := HZ.out; omega)⟩, ⟨HM2.out.far HG.out.2.1 1 _⟩, ⟨(Below.heap_setCell _ ⟨b, 1, none⟩ _ p HW.out.2.1).trans ((Below.heap_setCell _ ⟨g, c1.toNat, none⟩ _ p (by have := HMz.out.ge; have := HG.out; show p ≠ g; omega)).trans HPz.out)⟩, ⟨(HFz.out.new (Nat.le_trans HG.out.2.2 HMz.out.ge) _ _).set 1 _⟩⟩
          ·
              obtain ⟨q1, g1, q2, hX⟩ := hB
              have q0 : z + 2 < (s.size : Int) := of_decide_eq_true q1
              have q6 : z + 1 < (s.size : Int) := by omega
              go_wp2_with (fail)
              go_quiet (fail)
              have hbz : Below wx.heap.size wx (wx.drewN nq) := below_draws (Below.refl _ _) nq
              obtain ⟨wz, hwz⟩ : ∃ wz, wx.drewN nq = wz := ⟨_, rfl⟩
              rw [hwz] at hbz
              rw [hwz]
              have HBz := Aside0.mk (HBx.out.below hbz)
              have HMz := Aside0.mk (show BoolAt wz base g c (tabl m) from Kd.R_below HMx.out hbz)
              have HPz := Aside0.mk (blk_below HPx.out hbz)
              have HFz := Aside0.mk (HFx.out.trans (Mk.of hbz))
              clear hbz hwz x0 x1 f1 HBx HMx HPx HFx q1 h93
              have x0 : wz.cell? ⟨b, 0, none⟩ = some (.string s) := (blk_cell HBz.out 0).trans rfl
              have x1 : wz.cell? ⟨b, 1, none⟩ = some (.int .i64 z) := by rw [← HZ.out]; exact (blk_cell HBz.out 1).trans rfl
              have f1 := blk_frozen HBz.out 1
              have HE := Aside0.mk hX
              have cc := HMz.out.at c1.toNat (by rw [tabl_len]; have := HC0.out; omega)
              have cf := HMz.out.frozen c1.toNat
              have hM2 := HMz.out.set c1.toNat true
              rw [tabl_set m c1.toNat (by have := HC0.out; omega)] at hM2
              have HM2 := Aside0.mk hM2
              have hbg : b ≠ g := by have := HMz.out.ge; have := HG.out; omega
              have hgb : g ≠ b := fun e => hbg e.symm
              clear hX hM2
              go_wp2_with (fail)
              have HGB := Aside0.mk hgb
              go_roundg k1
              case measure => have := HI.out; omega
              case rel =>
                refine ⟨l, _, skip S' 1, false, rfl, ⟨by have := HI.out; omega, by have := HI.out.2.1; show _ < S'.at_ + 1 + l; omega, HE.out, by have := HZS.out; show S'.at_ + 1 ≤ _; omega, HI.out.2.2.2.2.1, by have := HI.out.2.2.2.2.2.1; show _ ≤ S'.at_ + 1; omega, (decide_eq_false (by have := HI.out.2.2.2.2.2.1; show ¬ S'.at_ + 1 = S1.at_; omega)).symm⟩, ⟨(HBz.out.other HGB.out _ _).inc 1 (z + 1) (by have := HZ.out; omega)⟩, ⟨HM2.out.far HG.out.2.1 1 _⟩, ⟨(Below.heap_setCell _ ⟨b, 1, none⟩ _ p HW.out.2.1).trans ((Below.heap_setCell _ ⟨g, c1.toNat, none⟩ _ p (by have := HMz.out.ge; have := HG.out; show p ≠ g; omega)).trans HPz.out)⟩, ⟨(HFz.out.new (Nat.le_trans HG.out.2.2 HMz.out.ge) _ _).set 1 _⟩⟩
          ·
              obtain ⟨q1, g1, g2, q2, q3, hX⟩ := hC
              have q0 : z + 2 < (s.size : Int) := of_decide_eq_true q1
              have q6 : z + 1 < (s.size : Int) := by omega
              go_wp2_with (fail)
              go_quiet (fail)
              have hbz : Below wx.heap.size wx (wx.drewN nq) := below_draws (Below.refl _ _) nq
              obtain ⟨wz, hwz⟩ : ∃ wz, wx.drewN nq = wz := ⟨_, rfl⟩
              rw [hwz] at hbz
              rw [hwz]
              have HBz := Aside0.mk (HBx.out.below hbz)
              have HMz := Aside0.mk (show BoolAt wz base g c (tabl m) from Kd.R_below HMx.out hbz)
              have HPz := Aside0.mk (blk_below HPx.out hbz)
              have HFz := Aside0.mk (HFx.out.trans (Mk.of hbz))
              clear hbz hwz x0 x1 f1 HBx HMx HPx HFx q1 h93
              have x0 : wz.cell? ⟨b, 0, none⟩ = some (.string s) := (blk_cell HBz.out 0).trans rfl
              have x1 : wz.cell? ⟨b, 1, none⟩ = some (.int .i64 z) := by rw [← HZ.out]; exact (blk_cell HBz.out 1).trans rfl
              have f1 := blk_frozen HBz.out 1
              have HE := Aside0.mk hX
              have cc := HMz.out.at c1.toNat (by rw [tabl_len]; have := HC0.out; omega)
              have cf := HMz.out.frozen c1.toNat
              have hM2 := HMz.out.set c1.toNat true
              rw [tabl_set m c1.toNat (by have := HC0.out; omega)] at hM2
              have HM2 := Aside0.mk hM2
              have hbg : b ≠ g := by have := HMz.out.ge; have := HG.out; omega
              have hgb : g ≠ b := fun e => hbg e.symm
              clear hX hM2
              go_wp2_with (fail)
              have HGB := Aside0.mk hgb
              go_roundg k1
              case measure => have := HI.out; omega
              case rel =>
                refine ⟨l, _, skip S' 1, false, rfl, ⟨by have := HI.out; omega, by have := HI.out.2.1; show _ < S'.at_ + 1 + l; omega, HE.out, by have := HZS.out; show S'.at_ + 1 ≤ _; omega, HI.out.2.2.2.2.1, by have := HI.out.2.2.2.2.2.1; show _ ≤ S'.at_ + 1; omega, (decide_eq_false (by have := HI.out.2.2.2.2.2.1; show ¬ S'.at_ + 1 = S1.at_; omega)).symm⟩, ⟨(HBz.out.other HGB.out _ _).inc 1 (z + 1) (by have := HZ.out; omega)⟩, ⟨HM2.out.far HG.out.2.1 1 _⟩, ⟨(Below.heap_setCell _ ⟨b, 1, none⟩ _ p HW.out.2.1).trans ((Below.heap_setCell _ ⟨g, c1.toNat, none⟩ _ p (by have := HMz.out.ge; have := HG.out; show p ≠ g; omega)).trans HPz.out)⟩, ⟨(HFz.out.new (Nat.le_trans HG.out.2.2 HMz.out.ge) _ _).set 1 _⟩⟩
          ·
              obtain ⟨q1, g1, g2, q2, q3, hX, q4⟩ := hD
              obtain ⟨hi, hhi⟩ : ∃ hi : Int, ((s[(z + 2).toNat]'g2).toNat : Int) = hi := ⟨_, rfl⟩
              rw [← q4, hhi] at hX
              have hir : 0 ≤ hi ∧ hi < 256 := by rw [← hhi]; exact ⟨Int.natCast_nonneg _, by have := (s[(z + 2).toNat]'g2).toNat_lt; omega⟩
              rw [hhi] at q3
              have HX3 := Aside0.mk hX
              have HIR := Aside0.mk hir
              clear hX q4 hir
              have q0 : z + 2 < (s.size : Int) := of_decide_eq_true q1
              have q6 : z + 1 < (s.size : Int) := by omega
              go_wp2_with (fail)
              go_quiet (fail)
              have hbz : Below wx.heap.size wx (wx.drewN nq) := below_draws (Below.refl _ _) nq
              obtain ⟨wz, hwz⟩ : ∃ wz, wx.drewN nq = wz := ⟨_, rfl⟩
              rw [hwz] at hbz
              rw [hwz]
              have HBz := Aside0.mk (HBx.out.below hbz)
              have HMz := Aside0.mk (show BoolAt wz base g c (tabl m) from Kd.R_below HMx.out hbz)
              have HPz := Aside0.mk (blk_below HPx.out hbz)
              have HFz := Aside0.mk (HFx.out.trans (Mk.of hbz))
              clear hbz hwz x0 x1 f1 HBx HMx HPx HFx q1 h93
              have x0 : wz.cell? ⟨b, 0, none⟩ = some (.string s) := (blk_cell HBz.out 0).trans rfl
              have x1 : wz.cell? ⟨b, 1, none⟩ = some (.int .i64 z) := by rw [← HZ.out]; exact (blk_cell HBz.out 1).trans rfl
              have f1 := blk_frozen HBz.out 1
              go_wp2_with (fail)
              go_quiet (fail)
              have hbz : Below wz.heap.size wz (wz.drewN nq) := below_draws (Below.refl _ _) nq
              obtain ⟨wv, hwv⟩ : ∃ wv, wz.drewN nq = wv := ⟨_, rfl⟩
              rw [hwv] at hbz
              rw [hwv]
              have HBv := Aside0.mk (HBz.out.below hbz)
              have HMv := Aside0.mk (show BoolAt wv base g c (tabl m) from Kd.R_below HMz.out hbz)
              have HPv := Aside0.mk (blk_below HPz.out hbz)
              have HFv := Aside0.mk (HFz.out.trans (Mk.of hbz))
              clear hbz hwv x0 x1 f1 HBz HMz HPz HFz q2 q3
              have x0 : wv.cell? ⟨b, 0, none⟩ = some (.string s) := (blk_cell HBv.out 0).trans rfl
              have x1 : wv.cell? ⟨b, 1, none⟩ = some (.int .i64 z) := by rw [← HZ.out]; exact (blk_cell HBv.out 1).trans rfl
              have f1 := blk_frozen HBv.out 1
              by_cases hD : hi < c1
              · have g4 : decide (hi < c1) = true := decide_eq_true hD
                have hE := HX3.out
                rw [if_pos hD] at hE
                have HE := Aside0.mk hE
                have hf := failsW wv b s S'.at_ o none 2 (S'.at_ + 1) HBv.out
                rw [show ((S'.at_ + 1 : Nat) : Int) = z + 1 by rw [← HZ.out]; simp] at hf
                clear hE hD
                go_wp2_with (fail)
                refine hf.mono ?_
                rintro e wy ⟨rfl, hBy, hFy⟩
                have hp := hFy.at HPv.out HW.out.2.1
                have HPy := Aside0.mk hp
                have HBy := Aside0.mk hBy
                have HFy := Aside0.mk (HFv.out.trans hFy)
                clear hBy hFy hf x0 x1 f1
                (have p0 : wy.cell? ⟨p, 0, none⟩ = some (.int .i64 0) := (blk_cell hp 0).trans rfl; have p1 : wy.cell? ⟨p, 1, none⟩ = some (.slice none 0 0) := (blk_cell hp 1).trans rfl; have p2 : wy.cell? ⟨p, 2, none⟩ = some (.slice none 0 0) := (blk_cell hp 2).trans rfl; have fp0 := blk_frozen hp 0; have fp1 := blk_frozen hp 1; have fp2 := blk_frozen hp 2)
                clear hp
                go_wp2_with (fail)
                have hr := nok_ret (o := o) (r := (.byte (bracketB s S).1, (bracketB s S).2)) HPy.out HW.out.1 HW.out.2.1 (Nat.lt_succ_self p) (knd_leaf 0) HFy.out (by rw [HNF.out.1, ← HE.out]; show ParAt _ _ _ _ _ (wrongB 2 (S'.at_ + 1) S').F; rw [wrong_or, HI.out.2.2.2.2.1]; exact HBy.out) HI.out.2.2.2.1 (fun hn => by rw [HNF.out.1, ← HE.out] at hn; exact absurd hn (wrong_ne 2 (S'.at_ + 1) S'))
                (obtain ⟨w9, hw9⟩ : ∃ w9, World.setCell (World.setCell (World.setCell wy ⟨p, 0, none⟩ (.int .i64 (0))) ⟨p, 1, none⟩ (.slice none 0 0)) ⟨p, 2, none⟩ (.slice none 0 0) = w9 := ⟨_, rfl⟩; (try simp only [Exit.inBlock, Exit.then]); (try rw [hw9]); obtain ⟨c0, c1, c2, hN⟩ := hr w9 hw9; clear hw9; refine bodyPost_ret (by simp [results, Try.results65, go_sem, c0, c1, c2, hu32]; try rfl) rfl ?_)
                exact hN
              · have g4 : decide (hi < c1) = false := decide_eq_false hD
                have hE := HX3.out
                rw [if_neg hD] at hE
                have HE := Aside0.mk hE
                have HD := Aside0.mk hD
                obtain ⟨M, hM⟩ : ∃ M, addR m c1.toNat (hi.toNat + 1 - c1.toNat) = M := ⟨_, rfl⟩
                rw [hM] at HE
                have HMM := Aside0.mk hM
                have j6 : 0 ≤ c1 := HC0.out.1
                have j7 : c1 ≤ 255 := HC0.out.2
                clear hE hD hM x0 x1 f1
                go_wp2_with (fail)
                go_loopg [9] 257 (fun kq v9 wq => ∃ (j : Int) (m' : Nat), v9 = .int .i64 j ∧ Aside0 (c1 ≤ j ∧ j ≤ hi + 1 ∧ j + kq ≥ hi + 2 ∧ 1 ≤ kq ∧ addR m' j.toNat (hi.toNat + 1 - j.toNat) = M) ∧ Aside0 (ParAt wq b s S'.at_ o none) ∧ Aside0 (BoolAt wq base g c (tabl m')) ∧ Aside0 (wq.heap[p]? = some (.cells #[.int .i64 0, .slice none 0 0, .slice none 0 0] TN (0, 0))) ∧ Aside0 (Mk b w wq))
                case atStart => exact ⟨c1, m, rfl, ⟨Int.le_refl _, by have := HD.out; omega, by have := HC0.out; have := HIR.out; omega, by omega, HMM.out⟩, HBv, HMv, HPv, HFv⟩
                case round =>
                  clear HBv HMv HPv HFv
                  obtain ⟨j, m', rfl, HJ, HBv, HMv, HPv, HFv⟩ := hrel
                  have j0 : 0 ≤ j := by have := HJ.out; have := HC0.out; omega
                  have j8 : 0 ≤ hi := HIR.out.1
                  have j9 : hi < 256 := HIR.out.2
                  by_cases hj : j ≤ hi
                  · obtain ⟨k2, rfl⟩ : ∃ k2, gk = k2 + 1 := ⟨gk - 1, by have := HJ.out; omega⟩
                    have d0 : decide (j ≤ hi) = true := decide_eq_true hj
                    have j1 : j < 256 := by have := HIR.out; omega
                    have cc := HMv.out.at j.toNat (by rw [tabl_len]; omega)
                    have cf := HMv.out.frozen j.toNat
                    have hM2 := HMv.out.set j.toNat true
                    rw [tabl_set m' j.toNat (by omega)] at hM2
                    have HM2 := Aside0.mk hM2
                    have hA := HJ.out.2.2.2.2
                    rw [show hi.toNat + 1 - j.toNat = (hi.toNat + 1 - (j + 1).toNat) + 1 by omega, addR, show j.toNat + 1 = (j + 1).toNat by omega] at hA
                    have HAA := Aside0.mk hA
                    have HGB := Aside0.mk (show g ≠ b ∧ p ≠ g ∧ w.heap.size ≤ g by have := HMv.out.ge; have := HG.out; omega)
                    have HJJ := Aside0.mk hj
                    clear hM2 hA hj
                    go_wp2_with (fail)
                    go_roundg k2
                    case measure => have := HJ.out; omega
                    case rel => exact ⟨j + 1, _, rfl, ⟨by have := HJ.out; omega, by have := HJJ.out; omega, by have := HJ.out; omega, by have := HJ.out; have := HJJ.out; omega, HAA.out⟩, ⟨HBv.out.other HGB.out.1 _ _⟩, HM2, ⟨(Below.heap_setCell _ ⟨g, j.toNat, none⟩ _ p HGB.out.2.1).trans HPv.out⟩, ⟨HFv.out.new HGB.out.2.2 _ _⟩⟩
                  · have d0 : decide (j ≤ hi) = false := decide_eq_false hj
                    have hA := HJ.out.2.2.2.2
                    rw [show hi.toNat + 1 - j.toNat = 0 by omega, addR] at hA
                    subst hA
                    have x1 : wr.cell? ⟨b, 1, none⟩ = some (.int .i64 z) := by rw [← HZ.out]; exact (blk_cell HBv.out 1).trans rfl
                    have f1 := blk_frozen HBv.out 1
                    clear hj
                    go_wp2_with (fail)
                    go_roundg k1
                    case measure => have := HI.out; omega
                    case rel =>
                      refine ⟨l, _, skip S' 3, false, rfl, ⟨by have := HI.out; omega, by have := HI.out.2.1; show _ < S'.at_ + 3 + l; omega, HE.out, by have := HZ.out; show S'.at_ + 3 ≤ _; omega, HI.out.2.2.2.2.1, by have := HI.out.2.2.2.2.2.1; show _ ≤ S'.at_ + 3; omega, (decide_eq_false (by have := HI.out.2.2.2.2.2.1; show ¬ S'.at_ + 3 = S1.at_; omega)).symm⟩, ⟨HBv.out.inc 3 (z + 3) (by have := HZ.out; omega)⟩, ⟨HMv.out.far HG.out.2.1 1 _⟩, ⟨(Below.heap_setCell _ ⟨b, 1, none⟩ _ p HW.out.2.1).trans HPv.out⟩, ⟨HFv.out.set 1 _⟩⟩
set_option maxHeartbeats 16000000 in
set_option maxRecDepth 100000 in
theorem setRW2 (w : World) (b : Nat) (s : ByteArray) (S : BS) (o : Int) (hs : s.size ≤ 200) (ha : S.at_ ≤ s.size) (hF0 : S.F = none) (h : ParAt w b s S.at_ o none) (z : Int) (hz : (S.at_ : Int) = z) (hat : z.toNat < s.size) (d0 : decide (z < (s.size : Int)) = true) (d1 : ((s[z.toNat]'hat).toNat : Int) = 94) (hpk : peekB s S = some 94) :
    Calls Try.prog 65 #[.pointer (some ⟨b, 0, none⟩)] w fun e w' => NOk w w' b s o (.byte (bracketB s S).1, (bracketB s S).2) e := by
  have hu32 := Try.underlying32
  have hu76 := Try.underlying76
  have HS := Aside0.mk h
  have HH := Aside0.mk (⟨hs, ha, hF0⟩ : s.size ≤ 200 ∧ S.at_ ≤ s.size ∧ S.F = none)
  clear h hs ha hF0
  have hbw : b < w.heap.size := blk_lt HS.out
  go_enter Try.func65, Try.ntmps65
  go_wp2_with (first | ((with_reducible refine gate_dst (N := 2) rfl ?_); (try (refine gate_guard (by rfl) ?_; dsimp only)); refine box_event ?hg (N := 2) ?hd (cs := #[.int .i64 0, .slice none 0 0, .slice none 0 0]) (t := 32) ?hr ?_; (case hd => rfl); (case hg => rfl); (case hr => first | (go_simp; done) | (go_simp; rfl)); intro p ep wp hp lp; have Ep := Aside0.mk ep; clear ep; have p0 : wp.cell? ⟨p, 0, none⟩ = some (.int .i64 0) := (blk_cell hp 0).trans rfl; have p1 : wp.cell? ⟨p, 1, none⟩ = some (.slice none 0 0) := (blk_cell hp 1).trans rfl; have p2 : wp.cell? ⟨p, 2, none⟩ = some (.slice none 0 0) := (blk_cell hp 2).trans rfl; have fp0 := blk_frozen hp 0; have fp1 := blk_frozen hp 1; have fp2 := blk_frozen hp 2) | fail)
  have hB1 := HS.out.below lp
  have HW := Aside0.mk (⟨by have := Ep.out; omega, by have := Ep.out; omega, hbw⟩ : w.heap.size ≤ p ∧ p ≠ b ∧ b < w.heap.size)
  have HP1 := Aside0.mk hp
  have HB1 := Aside0.mk hB1
  have HL1 := Aside0.mk lp
  clear hbw p0 p1 p2 fp0 fp1 fp2
  have x0 : wp.cell? ⟨b, 0, none⟩ = some (.string s) := (blk_cell hB1 0).trans rfl
  have x1 : wp.cell? ⟨b, 1, none⟩ = some (.int .i64 z) := by rw [← hz]; exact (blk_cell hB1 1).trans rfl
  have f1 := blk_frozen hB1 1
  have hz1 : z + 1 < 9223372036854775808 := by have := HH.out; omega
  have hz0 : 0 ≤ z := by omega
  have HZ := Aside0.mk hz
  clear hp hB1 lp hz
  have hbr : bracketB s S = bkF true (brL s (S.at_ + 1) (s.size + 1) 0 (skip S 1)) := by rw [bracketB, if_pos hpk]; rfl
  have HX2 : Aside0 (∃ (S1 : BS) (nf : Bool), nf = true ∧ S1.at_ ≤ s.size ∧ S1.F = none ∧ S1.at_ = S.at_ + 1 ∧ bracketB s S = bkF nf (brL s S1.at_ (s.size + 1) 0 S1)) := ⟨skip S 1, true, rfl, (peek_lt hpk).1, HH.out.2.2, rfl, hbr⟩
  clear hpk hbr
  have hzs : z < (s.size : Int) := of_decide_eq_true d0
  (simp only [Act.put, List.setIfInBounds_toArray, List.set_cons_succ, List.set_cons_zero])
  go_wp2_with (fail)
  go_quiet (fail)
  obtain ⟨S1, nf, hnf, HS1, HS2, hB4, HXE⟩ := HX2.out
  go_wp2_with (fail)
  obtain ⟨w4, hw4⟩ : ∃ w4, (wp.drewN nq).setCell ⟨b, 1, none⟩ (.int .i64 (z + 1)) = w4 := ⟨_, rfl⟩
  have HB4 := Aside0.mk (show ParAt w4 b s S1.at_ o none by rw [← hw4, hB4]; exact (HB1.out.below (below_draws (Below.refl _ _) nq)).inc 1 (z + 1) (by have := HZ.out; omega))
  have HP4 := Aside0.mk (show w4.heap[p]? = some (.cells #[.int .i64 0, .slice none 0 0, .slice none 0 0] TN (0, 0)) by rw [← hw4]; exact (Below.heap_setCell _ ⟨b, 1, none⟩ _ p HW.out.2.1).trans (blk_below HP1.out (below_draws (Below.refl _ _) nq)))
  have HF4 := Aside0.mk (show Mk b w w4 by rw [← hw4]; exact (Mk.of (below_then HL1.out HL1.out.size (below_draws (Below.refl _ _) nq))).set 1 _)
  rw [hw4]
  clear hw4 x0 x1 f1 d0 d1 hB4 HX2
  have HX := Aside0.mk (⟨HXE, HS1, HS2, hnf⟩ : bracketB s S = bkF nf (brL s S1.at_ (s.size + 1) 0 S1) ∧ S1.at_ ≤ s.size ∧ S1.F = none ∧ nf = _)
  clear HXE HS1 HS2 hnf hz1 HZ HB1 HL1 HP1
  have hpg := blk_lt HP4.out
  have hbg := blk_lt HB4.out
  obtain ⟨base, hbase⟩ : ∃ base, w4.heap.size = base := ⟨_, rfl⟩
  rw [hbase] at hpg hbg
  refine (bytesW w4 false).mono ?_
  rintro e w5 ⟨g, c, rfl, hM, hl5⟩
  rw [hbase, ← tabl_0] at hM
  have HG := Aside0.mk (⟨hpg, hbg, Nat.le_trans HF4.out.size (Nat.le_of_eq hbase)⟩ : p < base ∧ b < base ∧ w.heap.size ≤ base)
  have HM5 := Aside0.mk hM
  have HB5 := Aside0.mk (HB4.out.below hl5)
  have HP5 := Aside0.mk (blk_below HP4.out hl5)
  have HF5 := Aside0.mk (HF4.out.trans (Mk.of hl5))
  clear hM hl5 hbase hpg hbg HB4 HP4 HF4
  obtain ⟨N, hN⟩ : ∃ N, s.size + 1 = N := ⟨_, rfl⟩
  obtain ⟨X, hXX⟩ : ∃ X, brL s S1.at_ (s.size + 1) 0 S1 = X := ⟨_, rfl⟩
  have HXX := Aside0.mk (⟨by rw [← hN]; exact hXX, hN⟩ : brL s S1.at_ N 0 S1 = X ∧ s.size + 1 = N)
  rw [hXX] at HX
  clear hN hXX
  go_wp2_with (fail)
  have HNF := Aside0.mk (⟨HX.out.1, HX.out.2.2.2⟩ : bracketB s S = bkF nf X ∧ nf = _)
  go_loopg [5] (N + 1) (fun kq v5 wr => ∃ (n m : Nat) (S' : BS) (fl : Bool), v5 = .bool fl ∧ Aside0 (n + 1 = kq ∧ s.size < S'.at_ + n ∧ brL s S1.at_ n m S' = X ∧ S'.at_ ≤ s.size ∧ S'.F = none ∧ S1.at_ ≤ S'.at_ ∧ fl = decide (S'.at_ = S1.at_)) ∧ Aside0 (ParAt wr b s S'.at_ o none) ∧ Aside0 (BoolAt wr base g c (tabl m)) ∧ Aside0 (wr.heap[p]? = some (.cells #[.int .i64 0, .slice none 0 0, .slice none 0 0] TN (0, 0))) ∧ Aside0 (Mk b w wr))
  case atStart => exact ⟨N, 0, S1, true, rfl, ⟨rfl, by have := HXX.out.2; omega, HXX.out.1, HX.out.2.1, HX.out.2.2.1, Nat.le_refl _, by simp⟩, HB5, HM5, HP5, HF5⟩
  case round =>
    clear HB5 HM5 HP5 HF5 HXX HX
    obtain ⟨n, m, S', fl, rfl, HI, HB, HM, HP, HF⟩ := hrel
    have ihP := pkW wr b s S'.at_ o none HB.out
    obtain ⟨cc, hc⟩ : ∃ cc, pk s S'.at_ none = cc := ⟨_, rfl⟩
    rw [hc] at ihP
    have HC := Aside0.mk (show peekB s S' = cc by rw [← pk_eq, HI.out.2.2.2.2.1]; exact hc)
    clear hc
    go_wp2_with (fail)
    refine ihP.mono ?_
    rintro e wx ⟨rfl, hbx⟩
    have HBx := Aside0.mk (HB.out.below hbx)
    have HMx := Aside0.mk (show BoolAt wx base g c (tabl m) from Kd.R_below HM.out hbx)
    have HPx := Aside0.mk (blk_below HP.out hbx)
    have HFx := Aside0.mk (HF.out.trans (Mk.of hbx))
    clear hbx ihP HB HM HP HF
    obtain ⟨z, hz⟩ : ∃ z : Int, (S'.at_ : Int) = z := ⟨_, rfl⟩
    have HZ := Aside0.mk hz
    cases cc with
    | none =>
      have hX := HI.out.2.2.1
      rw [brL_stop s S1.at_ n m S' HC.out] at hX
      have HE := Aside0.mk hX
      have x0 : wx.cell? ⟨b, 0, none⟩ = some (.string s) := (blk_cell HBx.out 0).trans rfl
      have hf := failsW wx b s S'.at_ o none 3 s.size HBx.out
      clear hX hz
      go_wp2_with (fail)
      refine hf.mono ?_
      rintro e wy ⟨rfl, hBy, hFy⟩
      have hp := hFy.at HPx.out HW.out.2.1
      have HPy := Aside0.mk hp
      have HBy := Aside0.mk hBy
      have HFy := Aside0.mk (HFx.out.trans hFy)
      clear hBy hFy hf x0
      (have p0 : wy.cell? ⟨p, 0, none⟩ = some (.int .i64 0) := (blk_cell hp 0).trans rfl; have p1 : wy.cell? ⟨p, 1, none⟩ = some (.slice none 0 0) := (blk_cell hp 1).trans rfl; have p2 : wy.cell? ⟨p, 2, none⟩ = some (.slice none 0 0) := (blk_cell hp 2).trans rfl; have fp0 := blk_frozen hp 0; have fp1 := blk_frozen hp 1; have fp2 := blk_frozen hp 2)
      clear hp
      go_wp2_with (fail)
      have hr := nok_ret (o := o) (r := (.byte (bracketB s S).1, (bracketB s S).2)) HPy.out HW.out.1 HW.out.2.1 (Nat.lt_succ_self p) (knd_leaf 0) HFy.out (by rw [HNF.out.1, ← HE.out]; show ParAt _ _ _ _ _ (wrongB 3 s.size S').F; rw [wrong_or, HI.out.2.2.2.2.1]; exact HBy.out) HI.out.2.2.2.1 (fun hn => by rw [HNF.out.1, ← HE.out] at hn; exact absurd hn (wrong_ne 3 s.size S'))
      (obtain ⟨w9, hw9⟩ : ∃ w9, World.setCell (World.setCell (World.setCell wy ⟨p, 0, none⟩ (.int .i64 (0))) ⟨p, 1, none⟩ (.slice none 0 0)) ⟨p, 2, none⟩ (.slice none 0 0) = w9 := ⟨_, rfl⟩; (try simp only [Exit.inBlock, Exit.then]); (try rw [hw9]); obtain ⟨c0, c1, c2, hN⟩ := hr w9 hw9; clear hw9; refine bodyPost_ret (by simp [results, Try.results65, go_sem, c0, c1, c2, hu32]; try rfl) rfl ?_)
      exact hN
    | some c1 =>
      have hbr := bt_range s S'.at_
      have hcl := peek_lt HC.out
      obtain ⟨l, rfl⟩ : ∃ l, n = l + 1 := ⟨n - 1, by have := HI.out.2.1; omega⟩
      obtain ⟨k1, rfl⟩ : ∃ k1, gk = k1 + 1 := ⟨gk - 1, by have := HI.out; omega⟩
      have hc0 : 0 ≤ c1 ∧ c1 ≤ 255 := by rw [hcl.2.2]; exact hbr
      have hX := HI.out.2.2.1
      rw [brL_c HC.out] at hX
      have hz0 : 0 ≤ z := by omega
      have hzs : z < (s.size : Int) := by omega
      have hz3 : z + 3 < 9223372036854775808 := by have := HH.out; omega
      have HZS := Aside0.mk (⟨hcl.1, hcl.2.2⟩ : S'.at_ < s.size ∧ c1 = bt s S'.at_)
      clear hbr hcl hz
      have x0 : wx.cell? ⟨b, 0, none⟩ = some (.string s) := (blk_cell HBx.out 0).trans rfl
      have x1 : wx.cell? ⟨b, 1, none⟩ = some (.int .i64 z) := by rw [← HZ.out]; exact (blk_cell HBx.out 1).trans rfl
      have f1 := blk_frozen HBx.out 1
      by_cases h1 : c1 = 93 ∧ S1.at_ < S'.at_
      · rw [if_pos h1] at hX
        have HE := Aside0.mk hX
        obtain ⟨rfl, hlt⟩ := h1
        obtain rfl : fl = false := by rw [HI.out.2.2.2.2.2.2]; exact decide_eq_false (by omega)
        clear hX hc0 hlt hz3
        have hz1 : z + 1 < 9223372036854775808 := by have := HH.out; have := HZS.out; have := HZ.out; omega
        go_wp2_with (fail)
        obtain ⟨w7, hw7⟩ : ∃ w7, wx.setCell ⟨b, 1, none⟩ (.int .i64 (z + 1)) = w7 := ⟨_, rfl⟩
        have HB7 := Aside0.mk (show ParAt w7 b s (S'.at_ + 1) o none by rw [← hw7]; exact HBx.out.inc 1 (z + 1) (by have := HZ.out; omega))
        have HM7 := Aside0.mk (show BoolAt w7 base g c (tabl m) by rw [← hw7]; exact HMx.out.far HG.out.2.1 1 _)
        have HP7 := Aside0.mk (show w7.heap[p]? = some (.cells #[.int .i64 0, .slice none 0 0, .slice none 0 0] TN (0, 0)) by rw [← hw7]; exact (Below.heap_setCell _ ⟨b, 1, none⟩ _ p HW.out.2.1).trans HPx.out)
        have HF7 := Aside0.mk (show Mk b w w7 by rw [← hw7]; exact HFx.out.set 1 _)
        rw [hw7]
        clear hw7 x0 x1 f1 HBx HMx HPx HFx hz1 hz0 hzs HZ
        first
        | (have hnf : nf = false := HNF.out.2
           have hbk : bracketB s S = (m, skip S' 1) := by rw [HNF.out.1, hnf, ← HE.out, bkF_f]
           go_loopg [10] 1 (fun kq v10 wz => v10 = .int .i64 0 ∧ Aside0 (1 ≤ kq) ∧ Aside0 (ParAt wz b s (S'.at_ + 1) o none) ∧ Aside0 (BoolAt wz base g c (tabl m)) ∧ Aside0 (wz.heap[p]? = some (.cells #[.int .i64 0, .slice none 0 0, .slice none 0 0] TN (0, 0))) ∧ Aside0 (Mk b w wz))
           case atStart => exact ⟨rfl, ⟨Nat.le_refl _⟩, HB7, HM7, HP7, HF7⟩
           case round =>
            clear HB7 HM7 HP7 HF7
            obtain ⟨rfl, -, HBz, HMz, HPz, HFz⟩ := hrel
            have hp := HPz.out
            (have p0 : wr.cell? ⟨p, 0, none⟩ = some (.int .i64 0) := (blk_cell hp 0).trans rfl; have p1 : wr.cell? ⟨p, 1, none⟩ = some (.slice none 0 0) := (blk_cell hp 1).trans rfl; have p2 : wr.cell? ⟨p, 2, none⟩ = some (.slice none 0 0) := (blk_cell hp 2).trans rfl; have fp0 := blk_frozen hp 0; have fp1 := blk_frozen hp 1; have fp2 := blk_frozen hp 2)
            clear hp
            go_wp2_with (fail)
            have hM9 : Kd.R Kd.bool TO wr base (fun _ => True) (.slice (some ⟨g, 0, none⟩) 256 c) (tabl m) := by have := HMz.out; unfold BoolAt at this; rwa [tabl_len] at this
            have hr := nok_ret (o := o) (r := (.byte (bracketB s S).1, (bracketB s S).2)) HPz.out HW.out.1 HW.out.2.1 HG.out.1 (knd_mk hM9 (Kd.R_nil _ _ _ _ _)) HFz.out (by rw [hbk]; show ParAt _ _ _ _ _ S'.F; rw [HI.out.2.2.2.2.1]; exact HBz.out) (show S'.at_ + 1 ≤ s.size by have := HZS.out; omega) (fun _ => by rw [hbk]; exact ⟨rfl, rfl, RT.byte _⟩)
            (obtain ⟨w9, hw9⟩ : ∃ w9, World.setCell (World.setCell (World.setCell wr ⟨p, 0, none⟩ (.int .i64 (1))) ⟨p, 1, none⟩ (.slice (some ⟨g, 0, none⟩) 256 c)) ⟨p, 2, none⟩ (.slice none 0 0) = w9 := ⟨_, rfl⟩; (try simp only [Exit.inBlock, Exit.then]); (try rw [hw9]); obtain ⟨c0, c1, c2, hN⟩ := hr w9 hw9; clear hw9; refine bodyPost_ret (by simp [results, Try.results65, go_sem, c0, c1, c2, hu32]; try rfl) rfl ?_)
            exact hN
           )
        | (have hnf : nf = true := HNF.out.2
           have hbk : bracketB s S = (full ^^^ m, skip S' 1) := by rw [HNF.out.1, hnf, ← HE.out, bkF_t]
           go_loopg [10] 257 (fun kq v10 wz => ∃ i : Int, v10 = .int .i64 i ∧ Aside0 (0 ≤ i ∧ i ≤ 256 ∧ i + kq = 257) ∧ Aside0 (ParAt wz b s (S'.at_ + 1) o none) ∧ Aside0 (BoolAt wz base g c (half m i.toNat)) ∧ Aside0 (wz.heap[p]? = some (.cells #[.int .i64 0, .slice none 0 0, .slice none 0 0] TN (0, 0))) ∧ Aside0 (Mk b w wz))
           case atStart => exact ⟨0, rfl, ⟨by omega, by omega, by omega⟩, HB7, ⟨by rw [show (0 : Int).toNat = 0 from rfl, half_0]; exact HM7.out⟩, HP7, HF7⟩
           case round =>
            clear HB7 HM7 HP7 HF7
            obtain ⟨i, rfl, HI2, HBz, HMz, HPz, HFz⟩ := hrel
            have d3 : 0 ≤ i := HI2.out.1
            by_cases hi : i < 256
            · obtain ⟨k2, rfl⟩ : ∃ k2, gk = k2 + 1 := ⟨gk - 1, by have := HI2.out; omega⟩
              have d0 : decide (i < 256) = true := decide_eq_true hi
              have cz := HMz.out.at i.toNat (by rw [half_len m i.toNat (by omega)]; omega)
              rw [half_get m i.toNat (by omega)] at cz
              have fz := HMz.out.frozen i.toNat
              have hM2 := HMz.out.set i.toNat (!m.testBit i.toNat)
              rw [half_set m i.toNat (by omega)] at hM2
              have hgb : b < g ∧ p < g ∧ w.heap.size ≤ g := by have := HMz.out.ge; have := HG.out; omega
              have HGB := Aside0.mk hgb
              have HM2 := Aside0.mk hM2
              clear hgb hM2
              go_wp2_with (fail)
              go_roundg k2
              case measure => have := HI2.out; omega
              case rel =>
                refine ⟨i + 1, rfl, ⟨by omega, by omega, by have := HI2.out; omega⟩, ⟨HBz.out.other (by have := HGB.out; omega) _ _⟩, ⟨?_⟩, ⟨(Below.heap_setCell _ ⟨g, i.toNat, none⟩ _ p (by have := HGB.out; show p ≠ g; omega)).trans HPz.out⟩, ⟨HFz.out.new HGB.out.2.2 _ _⟩⟩
                rw [show (i + 1).toNat = i.toNat + 1 by omega]
                exact HM2.out
            · have d0 : decide (i < 256) = false := decide_eq_false hi
              have hi2 : i.toNat = 256 := by have := HI2.out; omega
              have hp := HPz.out
              (have p0 : wr.cell? ⟨p, 0, none⟩ = some (.int .i64 0) := (blk_cell hp 0).trans rfl; have p1 : wr.cell? ⟨p, 1, none⟩ = some (.slice none 0 0) := (blk_cell hp 1).trans rfl; have p2 : wr.cell? ⟨p, 2, none⟩ = some (.slice none 0 0) := (blk_cell hp 2).trans rfl; have fp0 := blk_frozen hp 0; have fp1 := blk_frozen hp 1; have fp2 := blk_frozen hp 2)
              have hM9 : Kd.R Kd.bool TO wr base (fun _ => True) (.slice (some ⟨g, 0, none⟩) 256 c) (tabl (full ^^^ m)) := by have := HMz.out; rw [hi2, half_256] at this; unfold BoolAt at this; rwa [tabl_len] at this
              have HM9 := Aside0.mk hM9
              clear hp hM9 hi2 hi
              go_wp2_with (fail)
              have hM9 := HM9.out
              have hr := nok_ret (o := o) (r := (.byte (bracketB s S).1, (bracketB s S).2)) HPz.out HW.out.1 HW.out.2.1 HG.out.1 (knd_mk hM9 (Kd.R_nil _ _ _ _ _)) HFz.out (by rw [hbk]; show ParAt _ _ _ _ _ S'.F; rw [HI.out.2.2.2.2.1]; exact HBz.out) (show S'.at_ + 1 ≤ s.size by have := HZS.out; omega) (fun _ => by rw [hbk]; exact ⟨rfl, rfl, RT.byte _⟩)
              (obtain ⟨w9, hw9⟩ : ∃ w9, World.setCell (World.setCell (World.setCell wr ⟨p, 0, none⟩ (.int .i64 (1))) ⟨p, 1, none⟩ (.slice (some ⟨g, 0, none⟩) 256 c)) ⟨p, 2, none⟩ (.slice none 0 0) = w9 := ⟨_, rfl⟩; (try simp only [Exit.inBlock, Exit.then]); (try rw [hw9]); obtain ⟨c0, c1, c2, hN⟩ := hr w9 hw9; clear hw9; refine bodyPost_ret (by simp [results, Try.results65, go_sem, c0, c1, c2, hu32]; try rfl) rfl ?_)
              exact hN
           )
      · rw [if_neg h1] at hX
        have h93 : (c1 == 93) = false ∨ ((c1 == 93) = true ∧ fl = true) := by
          by_cases h : c1 = 93
          · refine .inr ⟨beq_iff_eq.2 h, ?_⟩
            rw [HI.out.2.2.2.2.2.2]
            exact decide_eq_true (by have := HI.out.2.2.2.2.2.1; have : ¬ S1.at_ < S'.at_ := fun e => h1 ⟨h, e⟩; omega)
          · exact .inl (beq_false_of_ne h)
        have HXI := Aside0.mk hX
        clear hX h1
        -- what stands behind it
        have hfc : (decide (z + 2 < (s.size : Int)) = false ∧ (s.size - S'.at_ < 3)) ∨ (z + 2 < (s.size : Int) ∧ ∃ (g1 : (z + 1).toNat < s.size) (g2 : (z + 2).toNat < s.size), ((s[(z + 1).toNat]'g1).toNat : Int) = bt s ((S'.at_ : Int) + 1) ∧ ((s[(z + 2).toNat]'g2).toNat : Int) = bt s ((S'.at_ : Int) + 2)) := by
          have hzz := HZ.out
          by_cases h : z + 2 < (s.size : Int)
          · refine .inr ⟨h, by omega, by omega, ?_, ?_⟩
            · rw [hzz]; unfold bt; rw [dif_pos (show (z + 1).toNat < s.size by omega)]
            · rw [hzz]; unfold bt; rw [dif_pos (show (z + 2).toNat < s.size by omega)]
          · exact .inl ⟨decide_eq_false h, by omega⟩
        have hsg : (decide (z + 2 < (s.size : Int)) = false ∧ brL s S1.at_ l (addR m c1.toNat 1) (skip S' 1) = X) ∨ (decide (z + 2 < (s.size : Int)) = true ∧ ∃ (g1 : (z + 1).toNat < s.size), (((s[(z + 1).toNat]'g1).toNat : Int) == 45) = false ∧ brL s S1.at_ l (addR m c1.toNat 1) (skip S' 1) = X) ∨ (decide (z + 2 < (s.size : Int)) = true ∧ ∃ (g1 : (z + 1).toNat < s.size) (g2 : (z + 2).toNat < s.size), ((s[(z + 1).toNat]'g1).toNat : Int) = 45 ∧ (((s[(z + 2).toNat]'g2).toNat : Int) == 93) = true ∧ brL s S1.at_ l (addR m c1.toNat 1) (skip S' 1) = X) ∨ (decide (z + 2 < (s.size : Int)) = true ∧ ∃ (g1 : (z + 1).toNat < s.size) (g2 : (z + 2).toNat < s.size), ((s[(z + 1).toNat]'g1).toNat : Int) = 45 ∧ (((s[(z + 2).toNat]'g2).toNat : Int) == 93) = false ∧ (if bt s ((S'.at_ : Int) + 2) < c1 then (false, 0, wrongB 2 (S'.at_ + 1) S') else brL s S1.at_ l (addR m c1.toNat ((bt s ((S'.at_ : Int) + 2)).toNat + 1 - c1.toNat)) (skip S' 3)) = X ∧ ((s[(z + 2).toNat]'g2).toNat : Int) = bt s ((S'.at_ : Int) + 2)) := by
          have hX := HXI.out
          rcases hfc with ⟨q1, q2⟩ | ⟨q1, g1, g2, q3, q4⟩
          · rw [if_pos (.inl q2)] at hX
            exact .inl ⟨q1, hX⟩
          · by_cases h45 : bt s ((S'.at_ : Int) + 1) = 45
            · by_cases h93 : bt s ((S'.at_ : Int) + 2) = 93
              · rw [if_pos (.inr (.inr h93))] at hX
                exact .inr (.inr (.inl ⟨decide_eq_true q1, g1, g2, q3.trans h45, beq_iff_eq.2 (q4.trans h93), hX⟩))
              · rw [if_neg (by have := HZ.out; rintro (h | h | h); (· omega); (· exact h h45); (· exact h93 h))] at hX
                exact .inr (.inr (.inr ⟨decide_eq_true q1, g1, g2, q3.trans h45, beq_false_of_ne (fun e => h93 (q4.symm.trans e)), hX, q4⟩))
            · rw [if_pos (.inr (.inl h45))] at hX
              exact .inr (.inl ⟨decide_eq_true q1, g1, beq_false_of_ne (fun e => h45 (q3.symm.trans e)), hX⟩)
        clear hfc HXI
        have q8 : 0 ≤ z + 1 := by omega
        have q9 : 0 ≤ z + 2 := by omega
        have HC0 := Aside0.mk hc0
        rcases h93 with h93 | ⟨h93, rfl⟩
        all_goals
          rcases hsg with hA | hB | hC | hD
          ·
              obtain ⟨q1, hX⟩ := hA
              go_wp2_with (fail)
              go_quiet (fail)
              have hbz : Below wx.heap.size wx (wx.drewN nq) := below_draws (Below.refl _ _) nq
              obtain ⟨wz, hwz⟩ : ∃ wz, wx.drewN nq = wz := ⟨_, rfl⟩
              rw [hwz] at hbz
              rw [hwz]
              have HBz := Aside0.mk (HBx.out.below hbz)
              have HMz := Aside0.mk (show BoolAt wz base g c (tabl m) from Kd.R_below HMx.out hbz)
              have HPz := Aside0.mk (blk_below HPx.out hbz)
              have HFz := Aside0.mk (HFx.out.trans (Mk.of hbz))
              clear hbz hwz x0 x1 f1 HBx HMx HPx HFx q1 h93
              have x0 : wz.cell? ⟨b, 0, none⟩ = some (.string s) := (blk_cell HBz.out 0).trans rfl
              have x1 : wz.cell? ⟨b, 1, none⟩ = some (.int .i64 z) := by rw [← HZ.out]; exact (blk_cell HBz.out 1).trans rfl
              have f1 := blk_frozen HBz.out 1
              have HE := Aside0.mk hX
              have cc := HMz.out.at c1.toNat (by rw [tabl_len]; have := HC0.out; omega)
              have cf := HMz.out.frozen c1.toNat
              have hM2 := HMz.out.set c1.toNat true
              rw [tabl_set m c1.toNat (by have := HC0.out; omega)] at hM2
              have HM2 := Aside0.mk hM2
              have hbg : b ≠ g := by have := HMz.out.ge; have := HG.out; omega
              have hgb : g ≠ b := fun e => hbg e.symm
              clear hX hM2
              go_wp2_with (fail)
              have HGB := Aside0.mk hgb
              go_roundg k1
              case measure => have := HI.out; omega
              case rel =>
                refine ⟨l, _, skip S' 1, false, rfl, ⟨by have := HI.out; omega, by have := HI.out.2.1; show _ < S'.at_ + 1 + l; omega, HE.out, by have := HZS.out; show S'.at_ + 1 ≤ _; omega, HI.out.2.2.2.2.1, by have := HI.out.2.2.2.2.2.1; show _ ≤ S'.at_ + 1; omega, (decide_eq_false (by have := HI.out.2.2.2.2.2.1; show ¬ S'.at_ + 1 = S1.at_; omega)).symm⟩, ⟨(HBz.out.other HGB.out _ _).inc 1 (z + 1) (by have := HZ.out; omega)⟩, ⟨HM2.out.far HG.out.2.1 1 _⟩, ⟨(Below.heap_setCell _ ⟨b, 1, none⟩ _ p HW.out.2.1).trans ((Below.heap_setCell _ ⟨g, c1.toNat, none⟩ _ p (by have := HMz.out.ge; have := HG.out; show p ≠ g; omega)).trans HPz.out)⟩, ⟨(HFz.out.new (Nat.le_trans HG.out.2.2 HMz.out.ge) _ _).set 1 _⟩⟩
          ·
              obtain ⟨q1, g1, q2, hX⟩ := hB
              have q0 : z + 2 < (s.size : Int) := of_decide_eq_true q1
              have q6 : z + 1 < (s.size : Int) := by omega
              go_wp2_with (fail)
              go_quiet (fail)
              have hbz : Below wx.heap.size wx (wx.drewN nq) := below_draws (Below.refl _ _) nq
              obtain ⟨wz, hwz⟩ : ∃ wz, wx.drewN nq = wz := ⟨_, rfl⟩
              rw [hwz] at hbz
              rw [hwz]
              have HBz := Aside0.mk (HBx.out.below hbz)
              have HMz := Aside0.mk (show BoolAt wz base g c (tabl m) from Kd.R_below HMx.out hbz)
              have HPz := Aside0.mk (blk_below HPx.out hbz)
              have HFz := Aside0.mk (HFx.out.trans (Mk.of hbz))
              clear hbz hwz x0 x1 f1 HBx HMx HPx HFx q1 h93
              have x0 : wz.cell? ⟨b, 0, none⟩ = some (.string s) := (blk_cell HBz.out 0).trans rfl
              have x1 : wz.cell? ⟨b, 1, none⟩ = some (.int .i64 z) := by rw [← HZ.out]; exact (blk_cell HBz.out 1).trans rfl
              have f1 := blk_frozen HBz.out 1
              have HE := Aside0.mk hX
              have cc := HMz.out.at c1.toNat (by rw [tabl_len]; have := HC0.out; omega)
              have cf := HMz.out.frozen c1.toNat
              have hM2 := HMz.out.set c1.toNat true
              rw [tabl_set m c1.toNat (by have := HC0.out; omega)] at hM2
              have HM2 := Aside0.mk hM2
              have hbg : b ≠ g := by have := HMz.out.ge; have := HG.out; omega
              have hgb : g ≠ b := fun e => hbg e.symm
              clear hX hM2
              go_wp2_with (fail)
              have HGB := Aside0.mk hgb
              go_roundg k1
              case measure => have := HI.out; omega
              case rel =>
                refine ⟨l, _, skip S' 1, false, rfl, ⟨by have := HI.out; omega, by have := HI.out.2.1; show _ < S'.at_ + 1 + l; omega, HE.out, by have := HZS.out; show S'.at_ + 1 ≤ _; omega, HI.out.2.2.2.2.1, by have := HI.out.2.2.2.2.2.1; show _ ≤ S'.at_ + 1; omega, (decide_eq_false (by have := HI.out.2.2.2.2.2.1; show ¬ S'.at_ + 1 = S1.at_; omega)).symm⟩, ⟨(HBz.out.other HGB.out _ _).inc 1 (z + 1) (by have := HZ.out; omega)⟩, ⟨HM2.out.far HG.out.2.1 1 _⟩, ⟨(Below.heap_setCell _ ⟨b, 1, none⟩ _ p HW.out.2.1).trans ((Below.heap_setCell _ ⟨g, c1.toNat, none⟩ _ p (by have := HMz.out.ge; have := HG.out; show p ≠ g; omega)).trans HPz.out)⟩, ⟨(HFz.out.new (Nat.le_trans HG.out.2.2 HMz.out.ge) _ _).set 1 _⟩⟩
          ·
              obtain ⟨q1, g1, g2, q2, q3, hX⟩ := hC
              have q0 : z + 2 < (s.size : Int) := of_decide_eq_true q1
              have q6 : z + 1 < (s.size : Int) := by omega
              go_wp2_with (fail)
              go_quiet (fail)
              have hbz : Below wx.heap.size wx (wx.drewN nq) := below_draws (Below.refl _ _) nq
              obtain ⟨wz, hwz⟩ : ∃ wz, wx.drewN nq = wz := ⟨_, rfl⟩
              rw [hwz] at hbz
              rw [hwz]
              have HBz := Aside0.mk (HBx.out.below hbz)
              have HMz := Aside0.mk (show BoolAt wz base g c (tabl m) from Kd.R_below HMx.out hbz)
              have HPz := Aside0.mk (blk_below HPx.out hbz)
              have HFz := Aside0.mk (HFx.out.trans (Mk.of hbz))
              clear hbz hwz x0 x1 f1 HBx HMx HPx HFx q1 h93
              have x0 : wz.cell? ⟨b, 0, none⟩ = some (.string s) := (blk_cell HBz.out 0).trans rfl
              have x1 : wz.cell? ⟨b, 1, none⟩ = some (.int .i64 z) := by rw [← HZ.out]; exact (blk_cell HBz.out 1).trans rfl
              have f1 := blk_frozen HBz.out 1
              have HE := Aside0.mk hX
              have cc := HMz.out.at c1.toNat (by rw [tabl_len]; have := HC0.out; omega)
              have cf := HMz.out.frozen c1.toNat
              have hM2 := HMz.out.set c1.toNat true
              rw [tabl_set m c1.toNat (by have := HC0.out; omega)] at hM2
              have HM2 := Aside0.mk hM2
              have hbg : b ≠ g := by have := HMz.out.ge; have := HG.out; omega
              have hgb : g ≠ b := fun e => hbg e.symm
              clear hX hM2
              go_wp2_with (fail)
              have HGB := Aside0.mk hgb
              go_roundg k1
              case measure => have := HI.out; omega
              case rel =>
                refine ⟨l, _, skip S' 1, false, rfl, ⟨by have := HI.out; omega, by have := HI.out.2.1; show _ < S'.at_ + 1 + l; omega, HE.out, by have := HZS.out; show S'.at_ + 1 ≤ _; omega, HI.out.2.2.2.2.1, by have := HI.out.2.2.2.2.2.1; show _ ≤ S'.at_ + 1; omega, (decide_eq_false (by have := HI.out.2.2.2.2.2.1; show ¬ S'.at_ + 1 = S1.at_; omega)).symm⟩, ⟨(HBz.out.other HGB.out _ _).inc 1 (z + 1) (by have := HZ.out; omega)⟩, ⟨HM2.out.far HG.out.2.1 1 _⟩, ⟨(Below.heap_setCell _ ⟨b, 1, none⟩ _ p HW.out.2.1).trans ((Below.heap_setCell _ ⟨g, c1.toNat, none⟩ _ p (by have := HMz.out.ge; have := HG.out; show p ≠ g; omega)).trans HPz.out)⟩, ⟨(HFz.out.new (Nat.le_trans HG.out.2.2 HMz.out.ge) _ _).set 1 _⟩⟩
          ·
              obtain ⟨q1, g1, g2, q2, q3, hX, q4⟩ := hD
              obtain ⟨hi, hhi⟩ : ∃ hi : Int, ((s[(z + 2).toNat]'g2).toNat : Int) = hi := ⟨_, rfl⟩
              rw [← q4, hhi] at hX
              have hir : 0 ≤ hi ∧ hi < 256 := by rw [← hhi]; exact ⟨Int.natCast_nonneg _, by have := (s[(z + 2).toNat]'g2).toNat_lt; omega⟩
              rw [hhi] at q3
              have HX3 := Aside0.mk hX
              have HIR := Aside0.mk hir
              clear hX q4 hir
              have q0 : z + 2 < (s.size : Int) := of_decide_eq_true q1
              have q6 : z + 1 < (s.size : Int) := by omega
              go_wp2_with (fail)
              go_quiet (fail)
              have hbz : Below wx.heap.size wx (wx.drewN nq) := below_draws (Below.refl _ _) nq
              obtain ⟨wz, hwz⟩ : ∃ wz, wx.drewN nq = wz := ⟨_, rfl⟩
              rw [hwz] at hbz
              rw [hwz]
              have HBz := Aside0.mk (HBx.out.below hbz)
              have HMz := Aside0.mk (show BoolAt wz base g c (tabl m) from Kd.R_below HMx.out hbz)
              have HPz := Aside0.mk (blk_below HPx.out hbz)
              have HFz := Aside0.mk (HFx.out.trans (Mk.of hbz))
              clear hbz hwz x0 x1 f1 HBx HMx HPx HFx q1 h93
              have x0 : wz.cell? ⟨b, 0, none⟩ = some (.string s) := (blk_cell HBz.out 0).trans rfl
              have x1 : wz.cell? ⟨b, 1, none⟩ = some (.int .i64 z) := by rw [← HZ.out]; exact (blk_cell HBz.out 1).trans rfl
              have f1 := blk_frozen HBz.out 1
              go_wp2_with (fail)
              go_quiet (fail)
              have hbz : Below wz.heap.size wz (wz.drewN nq) := below_draws (Below.refl _ _) nq
              obtain ⟨wv, hwv⟩ : ∃ wv, wz.drewN nq = wv := ⟨_, rfl⟩
              rw [hwv] at hbz
              rw [hwv]
              have HBv := Aside0.mk (HBz.out.below hbz)
              have HMv := Aside0.mk (show BoolAt wv base g c (tabl m) from Kd.R_below HMz.out hbz)
              have HPv := Aside0.mk (blk_below HPz.out hbz)
              have HFv := Aside0.mk (HFz.out.trans (Mk.of hbz))
              clear hbz hwv x0 x1 f1 HBz HMz HPz HFz q2 q3
              have x0 : wv.cell? ⟨b, 0, none⟩ = some (.string s) := (blk_cell HBv.out 0).trans rfl
              have x1 : wv.cell? ⟨b, 1, none⟩ = some (.int .i64 z) := by rw [← HZ.out]; exact (blk_cell HBv.out 1).trans rfl
              have f1 := blk_frozen HBv.out 1
              by_cases hD : hi < c1
              · have g4 : decide (hi < c1) = true := decide_eq_true hD
                have hE := HX3.out
                rw [if_pos hD] at hE
                have HE := Aside0.mk hE
                have hf := failsW wv b s S'.at_ o none 2 (S'.at_ + 1) HBv.out
                rw [show ((S'.at_ + 1 : Nat) : Int) = z + 1 by rw [← HZ.out]; simp] at hf
                clear hE hD
                go_wp2_with (fail)
                refine hf.mono ?_
                rintro e wy ⟨rfl, hBy, hFy⟩
                have hp := hFy.at HPv.out HW.out.2.1
                have HPy := Aside0.mk hp
                have HBy := Aside0.mk hBy
                have HFy := Aside0.mk (HFv.out.trans hFy)
                clear hBy hFy hf x0 x1 f1
                (have p0 : wy.cell? ⟨p, 0, none⟩ = some (.int .i64 0) := (blk_cell hp 0).trans rfl; have p1 : wy.cell? ⟨p, 1, none⟩ = some (.slice none 0 0) := (blk_cell hp 1).trans rfl; have p2 : wy.cell? ⟨p, 2, none⟩ = some (.slice none 0 0) := (blk_cell hp 2).trans rfl; have fp0 := blk_frozen hp 0; have fp1 := blk_frozen hp 1; have fp2 := blk_frozen hp 2)
                clear hp
                go_wp2_with (fail)
                have hr := nok_ret (o := o) (r := (.byte (bracketB s S).1, (bracketB s S).2)) HPy.out HW.out.1 HW.out.2.1 (Nat.lt_succ_self p) (knd_leaf 0) HFy.out (by rw [HNF.out.1, ← HE.out]; show ParAt _ _ _ _ _ (wrongB 2 (S'.at_ + 1) S').F; rw [wrong_or, HI.out.2.2.2.2.1]; exact HBy.out) HI.out.2.2.2.1 (fun hn => by rw [HNF.out.1, ← HE.out] at hn; exact absurd hn (wrong_ne 2 (S'.at_ + 1) S'))
                (obtain ⟨w9, hw9⟩ : ∃ w9, World.setCell (World.setCell (World.setCell wy ⟨p, 0, none⟩ (.int .i64 (0))) ⟨p, 1, none⟩ (.slice none 0 0)) ⟨p, 2, none⟩ (.slice none 0 0) = w9 := ⟨_, rfl⟩; (try simp only [Exit.inBlock, Exit.then]); (try rw [hw9]); obtain ⟨c0, c1, c2, hN⟩ := hr w9 hw9; clear hw9; refine bodyPost_ret (by simp [results, Try.results65, go_sem, c0, c1, c2, hu32]; try rfl) rfl ?_)
                exact hN
              · have g4 : decide (hi < c1) = false := decide_eq_false hD
                have hE := HX3.out
                rw [if_neg hD] at hE
                have HE := Aside0.mk hE
                have HD := Aside0.mk hD
                obtain ⟨M, hM⟩ : ∃ M, addR m c1.toNat (hi.toNat + 1 - c1.toNat) = M := ⟨_, rfl⟩
                rw [hM] at HE
                have HMM := Aside0.mk hM
                have j6 : 0 ≤ c1 := HC0.out.1
                have j7 : c1 ≤ 255 := HC0.out.2
                clear hE hD hM x0 x1 f1
                go_wp2_with (fail)
                go_loopg [9] 257 (fun kq v9 wq => ∃ (j : Int) (m' : Nat), v9 = .int .i64 j ∧ Aside0 (c1 ≤ j ∧ j ≤ hi + 1 ∧ j + kq ≥ hi + 2 ∧ 1 ≤ kq ∧ addR m' j.toNat (hi.toNat + 1 - j.toNat) = M) ∧ Aside0 (ParAt wq b s S'.at_ o none) ∧ Aside0 (BoolAt wq base g c (tabl m')) ∧ Aside0 (wq.heap[p]? = some (.cells #[.int .i64 0, .slice none 0 0, .slice none 0 0] TN (0, 0))) ∧ Aside0 (Mk b w wq))
                case atStart => exact ⟨c1, m, rfl, ⟨Int.le_refl _, by have := HD.out; omega, by have := HC0.out; have := HIR.out; omega, by omega, HMM.out⟩, HBv, HMv, HPv, HFv⟩
                case round =>
                  clear HBv HMv HPv HFv
                  obtain ⟨j, m', rfl, HJ, HBv, HMv, HPv, HFv⟩ := hrel
                  have j0 : 0 ≤ j := by have := HJ.out; have := HC0.out; omega
                  have j8 : 0 ≤ hi := HIR.out.1
                  have j9 : hi < 256 := HIR.out.2
                  by_cases hj : j ≤ hi
                  · obtain ⟨k2, rfl⟩ : ∃ k2, gk = k2 + 1 := ⟨gk - 1, by have := HJ.out; omega⟩
                    have d0 : decide (j ≤ hi) = true := decide_eq_true hj
                    have j1 : j < 256 := by have := HIR.out; omega
                    have cc := HMv.out.at j.toNat (by rw [tabl_len]; omega)
                    have cf := HMv.out.frozen j.toNat
                    have hM2 := HMv.out.set j.toNat true
                    rw [tabl_set m' j.toNat (by omega)] at hM2
                    have HM2 := Aside0.mk hM2
                    have hA := HJ.out.2.2.2.2
                    rw [show hi.toNat + 1 - j.toNat = (hi.toNat + 1 - (j + 1).toNat) + 1 by omega, addR, show j.toNat + 1 = (j + 1).toNat by omega] at hA
                    have HAA := Aside0.mk hA
                    have HGB := Aside0.mk (show g ≠ b ∧ p ≠ g ∧ w.heap.size ≤ g by have := HMv.out.ge; have := HG.out; omega)
                    have HJJ := Aside0.mk hj
                    clear hM2 hA hj
                    go_wp2_with (fail)
                    go_roundg k2
                    case measure => have := HJ.out; omega
                    case rel => exact ⟨j + 1, _, rfl, ⟨by have := HJ.out; omega, by have := HJJ.out; omega, by have := HJ.out; omega, by have := HJ.out; have := HJJ.out; omega, HAA.out⟩, ⟨HBv.out.other HGB.out.1 _ _⟩, HM2, ⟨(Below.heap_setCell _ ⟨g, j.toNat, none⟩ _ p HGB.out.2.1).trans HPv.out⟩, ⟨HFv.out.new HGB.out.2.2 _ _⟩⟩
                  · have d0 : decide (j ≤ hi) = false := decide_eq_false hj
                    have hA := HJ.out.2.2.2.2
                    rw [show hi.toNat + 1 - j.toNat = 0 by omega, addR] at hA
                    subst hA
                    have x1 : wr.cell? ⟨b, 1, none⟩ = some (.int .i64 z) := by rw [← HZ.out]; exact (blk_cell HBv.out 1).trans rfl
                    have f1 := blk_frozen HBv.out 1
                    clear hj
                    go_wp2_with (fail)
                    go_roundg k1
                    case measure => have := HI.out; omega
                    case rel =>
                      refine ⟨l, _, skip S' 3, false, rfl, ⟨by have := HI.out; omega, by have := HI.out.2.1; show _ < S'.at_ + 3 + l; omega, HE.out, by have := HZ.out; show S'.at_ + 3 ≤ _; omega, HI.out.2.2.2.2.1, by have := HI.out.2.2.2.2.2.1; show _ ≤ S'.at_ + 3; omega, (decide_eq_false (by have := HI.out.2.2.2.2.2.1; show ¬ S'.at_ + 3 = S1.at_; omega)).symm⟩, ⟨HBv.out.inc 3 (z + 3) (by have := HZ.out; omega)⟩, ⟨HMv.out.far HG.out.2.1 1 _⟩, ⟨(Below.heap_setCell _ ⟨b, 1, none⟩ _ p HW.out.2.1).trans HPv.out⟩, ⟨HFv.out.set 1 _⟩⟩
theorem setRW (w : World) (b : Nat) (s : ByteArray) (S : BS) (o : Int) (hs : s.size ≤ 200) (ha : S.at_ ≤ s.size) (hF0 : S.F = none) (h : ParAt w b s S.at_ o none) :
    Calls Try.prog 65 #[.pointer (some ⟨b, 0, none⟩)] w fun e w' => NOk w w' b s o (.byte (bracketB s S).1, (bracketB s S).2) e := by
  obtain ⟨z, hzz⟩ : ∃ z : Int, (S.at_ : Int) = z := ⟨_, rfl⟩
  by_cases hlt : z < (s.size : Int)
  · have hat : z.toNat < s.size := by omega
    have hb : bt s S.at_ = ((s[z.toNat]'hat).toNat : Int) := by rw [hzz]; unfold bt; rw [dif_pos hat]
    have hp : peekB s S = some ((s[z.toNat]'hat).toNat : Int) := by unfold peekB; rw [if_pos ⟨hF0, by omega⟩, hb]
    by_cases h94 : ((s[z.toNat]'hat).toNat : Int) = 94
    · exact setRW2 w b s S o hs ha hF0 h z hzz hat (decide_eq_true hlt) h94 (by rw [hp, h94])
    · exact setRW1 w b s S o hs ha hF0 h z hzz hat (decide_eq_true hlt) (beq_false_of_ne h94) (by rw [hp]; intro e; injection e with e; exact h94 e)
  · exact setRW0 w b s S o hs ha hF0 h z hzz (decide_eq_false hlt) (by rw [peek_none (by omega)]; simp)
end Go.Proofs.Ytnjpdhekeffpnaa.Rx
