/- The law on quoted texts, walked. -/
import Derived.Test.YtnjpdhekeffpnaaRxEj
import Derived.Test.YtnjpdhekeffpnaaRxX
set_option linter.unusedVariables false
set_option linter.unusedSimpArgs false
namespace Go.Proofs.Ytnjpdhekeffpnaa.Rx
open Go.RowKit Go.Proofs.YtnjpdhekeffpnaaW.PrintWords Go.Proofs.YtnjpdhekeffpnaaW.PrintLast Go.Proofs.YtnjpdhekeffpnaaW.PrintMore

def fX : Option (Nat × Int) → Int | none => 0 | some q => (q.1 : Int)
def fY : Option (Nat × Int) → Int | none => 0 | some q => q.2
theorem findV_eq (R : Option (Nat × Int)) : findV R = .tuple #[.int .i64 (fX R), .int .i64 (fY R), .bool R.isSome] := by cases R <;> rfl
theorem tl_eq (a b : ByteArray) : (a.toList == b.toList) = decide (a = b) := by
  rw [Bool.eq_iff_iff, beq_iff_eq, decide_eq_true_iff, Lib.toList_data, Lib.toList_data]
  exact ⟨fun h => by rw [← Lib.mk_data a, h, Lib.mk_data], fun h => by rw [h]⟩
set_option maxHeartbeats 8000000 in
set_option maxRecDepth 1000000 in
theorem RxQuotedWalk (W : World) (a : ByteArray) (ha : a.size ≤ 140737488351232) (b : ByteArray) (hb : b.size ≤ 140737488351232) :
    Calls Try.prog 9 #[.string a, .string b] W fun e W' => e = .returned (.bool true) ∧ Below W.heap.size W W' := by
  have hu26 := Try.underlying26
  go_enter Try.func9, Try.ntmps9
  by_cases hs : a.size ≤ 60
  · have d0 : decide ((60 : Int) < (a.size : Int)) = false := decide_eq_false (by omega)
    by_cases ht : b.size ≤ 200
    · have d1 : decide ((200 : Int) < (b.size : Int)) = false := decide_eq_false (by omega)
      have HS := Aside0.mk (⟨hs, ht⟩ : a.size ≤ 60 ∧ b.size ≤ 200)
      clear hs ht ha hb
      go_wp2_with (fail)
      refine (quoteW W a (by have := HS.out; omega)).mono ?_
      rintro e w1 ⟨rfl, hl1⟩
      go_wp2_with (fail)
      have hqs : (qB a).size ≤ 200 := (fault_none _ (fault_quote a HS.out.1)).1
      refine (compile_ok w1 (qB a) (by omega) (fault_quote a HS.out.1)).mono ?_
      rintro e w2 ⟨r, rfl, hr, hb2, hl2⟩
      go_wp2_with (first | (((with_reducible refine gate_dst (N := 6) rfl ?_); (try (refine gate_guard (by rfl) ?_; dsimp only)); refine box_event ?hg (N := 6) ?hd (cs := #[.int .i64 0, .int .i64 0]) (t := 26) ?hr ?_; (case hd => rfl); (case hg => rfl); (case hr => first | (go_simp; done) | (go_simp; rfl)); intro p ep wp hp lp; have Ep := Aside0.mk ep; clear ep); have vp0 : wp.cell? ⟨p, 0, none⟩ = some (.int .i64 0) := (blk_cell hp 0).trans rfl; have vp1 : wp.cell? ⟨p, 1, none⟩ = some (.int .i64 0) := (blk_cell hp 1).trans rfl; have fp0 := blk_frozen hp 0; have fp1 := blk_frozen hp 1; have hpr : r ≠ p := (by have := Ep.out; have := blk_lt hb2; omega); have hp4 := blk_set (blk_set hp 0 (.int .i64 0)) 1 (.int .i64 0); have u0 := (blk_cell hp4 0).trans (show _ = some (Value.int .i64 0) from rfl); have u1 := (blk_cell hp4 1).trans (show _ = some (Value.int .i64 0) from rfl)) | fail)
      have hb5 := blk_far (blk_far (blk_below hb2 lp) (p := ⟨p, 0, none⟩) hpr (.int .i64 0)) (p := ⟨p, 1, none⟩) hpr (.int .i64 0)
      have hpw : W.heap.size ≤ p := by have := Ep.out; have := hl1.size; have := hl2.size; omega
      have hrw : W.heap.size ≤ r := by have := hl1.size; omega
      have hl5 := ((below_then (below_then hl1 hl1.size hl2) (below_then hl1 hl1.size hl2).size lp).setCell (p := ⟨p, 0, none⟩) hpw (.int .i64 0)).setCell (p := ⟨p, 1, none⟩) hpw (.int .i64 0)
      obtain ⟨w5, hw5⟩ : ∃ w5, World.setCell (World.setCell wp ⟨p, 0, none⟩ (.int .i64 0)) ⟨p, 1, none⟩ (.int .i64 0) = w5 := ⟨_, rfl⟩
      rw [hw5] at hb5 hl5
      rw [hw5]
      clear hw5 u0 u1 hp4 vp0 vp1 fp0 fp1 hp lp hb2 hl2 hl1 hpr hpw hr
      have HRW := Aside0.mk hrw
      have hF := findW w5 r (qB a) b 0 hqs (by have := HS.out; omega) (.inl hb5)
      obtain ⟨R, hR⟩ : ∃ R, findP b (stepsB (qB a)) (firstB (qB a)) 0 = R := ⟨_, rfl⟩
      rw [hR, findV_eq] at hF
      have HR := Aside0.mk hR
      have HQS := Aside0.mk hqs
      refine hF.mono ?_
      rintro e w6 ⟨rfl, hX6, hK6⟩
      have hl6 := hl5.trans (hK6.below W.heap.size hrw hl5.size)
      clear hF hK6 hl5 hb5 hR hrw hqs
      have HX6 := Aside0.mk hX6
      have HL6 := Aside0.mk hl6
      clear hX6 hl6
      have g1 : (a.size : Int) ≤ 60 := by have := HS.out; omega
      have g2 : (b.size : Int) ≤ 200 := by have := HS.out; omega
      go_wp2_with (fail)
      go_loopg [10, 11] (((b.size : Int) - (a.size : Int) + 2).toNat + 1) (fun kq v10 v11 wr => ∃ (t z : Int), v10 = .int .i64 t ∧ v11 = .int .i64 z ∧ Aside0 (QInv a b t z ∧ z ≤ (b.size : Int) - (a.size : Int) ∧ z + 2 ≤ kq ∧ 1 ≤ kq ∧ -1 ≤ t ∧ t ≤ 200) ∧ Aside0 (RgX wr r (qB a)) ∧ Aside0 (Below W.heap.size W wr))
      case atStart =>
        refine ⟨-1, (b.size : Int) - (a.size : Int), rfl, rfl, ⟨QInv.start a b, by omega, by omega, by omega, by omega, by omega⟩, HX6, HL6⟩
      case round =>
        obtain ⟨t, z, rfl, rfl, HI, HX, HW⟩ := hrel
        have g3 : -1 ≤ t := HI.out.2.2.2.2.1
        have g4 : t ≤ 200 := HI.out.2.2.2.2.2
        by_cases hz : 0 ≤ z
        · have d2 : decide (z ≥ 0) = true := decide_eq_true hz
          have d3 : z + (a.size : Int) ≤ (b.size : Int) := by have := HI.out.2.1; omega
          obtain ⟨ko, rfl⟩ : ∃ ko, gk = ko + 1 := ⟨gk - 1, by have := HI.out; omega⟩
          by_cases hE : b.extract z.toNat (z + (a.size : Int)).toNat = a
          · have HE := Aside0.mk (HI.out.1.yes hz (by omega) hE)
            have d5 : ((b.extract z.toNat (z + (a.size : Int)).toNat).toList == a.toList) = true := by rw [tl_eq]; exact decide_eq_true hE
            clear hE
            go_wp2_with (fail)
            go_roundg ko
            case measure => have := HI.out; omega
            case rel => exact ⟨z, z - 1, rfl, rfl, ⟨HE.out, by omega, by have := HI.out; omega, by have := HI.out; omega, by omega, by omega⟩, HX, HW⟩
          · have HE := Aside0.mk (HI.out.1.no hz (by omega) hE)
            have d5 : ((b.extract z.toNat (z + (a.size : Int)).toNat).toList == a.toList) = false := by rw [tl_eq]; exact decide_eq_false hE
            clear hE
            go_wp2_with (fail)
            go_roundg ko
            case measure => have := HI.out; omega
            case rel => exact ⟨t, z - 1, rfl, rfl, ⟨HE.out, by omega, by have := HI.out; omega, by have := HI.out; omega, by omega, by omega⟩, HX, HW⟩
        · have d2 : decide (z ≥ 0) = false := decide_eq_false hz
          have hIA := isW wr r (qB a) a HQS.out (by omega) HX.out
          rw [quote_isA a HS.out.1] at hIA
          have qf := quote_find a b HS.out.1 t z HI.out.1 (by omega)
          rw [HR.out] at qf
          have HHS := Aside0.mk hz
          clear hz
          rcases qf with ⟨rfl, rfl⟩ | ⟨i, hti, rfl⟩
          · dsimp only [fX, fY, Option.isSome]
            go_wp2_with (fail)
            refine hIA.mono ?_
            rintro e w7 ⟨rfl, hX7, hK7⟩
            have hIB := isW w7 r (qB a) b HQS.out (by omega) hX7
            rw [quote_isB a b HS.out.1, ← tl_eq] at hIB
            have hl7 := HW.out.trans (hK7.below W.heap.size HRW.out HW.out.size)
            go_wp2_with (first | (go_at_call 17; refine hIB.mono ?_; rintro e w8 ⟨rfl, hX8, hK8⟩; have hl8 := hl7.trans (hK8.below W.heap.size HRW.out hl7.size); have hA := aliveW w8) | (go_at_call 10; refine hA.mono ?_; rintro e w9 ⟨rfl, hl9⟩) | fail)
            go_ret
            exact ⟨rfl, below_then hl8 hl8.size hl9⟩
          · dsimp only [fX, fY, Option.isSome]
            rw [← hti]
            have g5 : 0 ≤ t := by omega
            go_wp2_with (fail)
            refine hIA.mono ?_
            rintro e w7 ⟨rfl, hX7, hK7⟩
            have hIB := isW w7 r (qB a) b HQS.out (by omega) hX7
            rw [quote_isB a b HS.out.1, ← tl_eq] at hIB
            have hl7 := HW.out.trans (hK7.below W.heap.size HRW.out HW.out.size)
            go_wp2_with (first | (go_at_call 17; refine hIB.mono ?_; rintro e w8 ⟨rfl, hX8, hK8⟩; have hl8 := hl7.trans (hK8.below W.heap.size HRW.out hl7.size); have hA := aliveW w8) | (go_at_call 10; refine hA.mono ?_; rintro e w9 ⟨rfl, hl9⟩) | fail)
            go_ret
            exact ⟨rfl, below_then hl8 hl8.size hl9⟩
    · have d1 : decide ((200 : Int) < (b.size : Int)) = true := decide_eq_true (by omega)
      go_wp2_with (fail)
      refine (aliveW _).mono ?_
      rintro e w9 ⟨rfl, hl9⟩
      go_wp2_with (fail)
      go_ret
      exact ⟨rfl, hl9⟩
  · have d0 : decide ((60 : Int) < (a.size : Int)) = true := decide_eq_true (by omega)
    go_wp2_with (fail)
    refine (aliveW _).mono ?_
    rintro e w9 ⟨rfl, hl9⟩
    go_wp2_with (fail)
    go_ret
    exact ⟨rfl, hl9⟩
end Go.Proofs.Ytnjpdhekeffpnaa.Rx
