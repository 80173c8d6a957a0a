/- The document's Replace, walked. -/
import Derived.Test.YtnjpdhekeffpnaaRxSc
import Derived.Test.YtnjpdhekeffpnaaRxPq
set_option linter.unusedVariables false
set_option linter.unusedSimpArgs false
namespace Go.Proofs.Ytnjpdhekeffpnaa.Rx
open Go.RowKit Go.Proofs.YtnjpdhekeffpnaaW.PrintWords Go.Proofs.YtnjpdhekeffpnaaW.PrintLast Go.Proofs.YtnjpdhekeffpnaaW.PrintMore

theorem bs_app (a b : List UInt8) (s : ByteArray) (h : s.data.toList = b) : (⟨a.toArray⟩ : ByteArray) ++ s = ⟨(a ++ b).toArray⟩ := by
  subst h
  apply ByteArray.ext
  apply Array.ext'
  simp
set_option maxHeartbeats 16000000 in
set_option maxRecDepth 1000000 in
theorem refReplaceW (w : World) (p s by_ : ByteArray) (all : Bool) (nd : Nd) (k : Int) (As : Option Addr) (ns cs : Nat) (Al : Option Addr) (nl cl : Nat) (hM : knd.M w 0 (fun _ => True) nd [.int .i64 k, .slice As ns cs, .slice Al nl cl]) (hf : faultB p = none) (hRT : RT nd (readE p).1) (hz : s.size ≤ 1000) (hb : by_.size ≤ 1000) :
    Calls Try.prog 20 #[.agg #[.int .i64 k, .slice As ns cs, .slice Al nl cl], .string s, .string by_, .bool all] w fun e w' => e = .returned (.string ⟨(replP s by_ all (stepsB p) (firstB p)).toArray⟩) ∧ Below w.heap.size w w' := by
  have hu32 := Try.underlying32
  obtain ⟨R, hR⟩ : ∃ R, replP s by_ all (stepsB p) (firstB p) = R := ⟨_, rfl⟩
  rw [hR]
  unfold replP at hR
  have HF := fun (W : World) (z : Int) (h : knd.M W 0 (fun _ => True) nd [.int .i64 k, .slice As ns cs, .slice Al nl cl]) => refFindW W p s z nd k As ns cs Al nl cl h hf hRT (by omega)
  have HM := Aside0.mk hM
  have HR := Aside0.mk (⟨hR, hz, hb⟩ : replL s by_ all (stepsB p) (firstB p) (s.size + 2) 0 0 [] = R ∧ s.size ≤ 1000 ∧ by_.size ≤ 1000)
  clear hR hz hb hM hf hRT
  obtain ⟨N, hN⟩ : ∃ N, s.size + 2 = N := ⟨_, rfl⟩
  have HN := Aside0.mk hN
  clear hN
  go_enter Try.func20, Try.ntmps20
  go_wp2_with (first | (((with_reducible refine gate_dst (N := 4) rfl ?_); (try (refine gate_guard (by rfl) ?_; dsimp only)); refine box_event ?hg (N := 4) ?hd (cs := #[.int .i64 k, .slice As ns cs, .slice Al nl cl]) (t := TN) ?hr ?_; (case hd => rfl); (case hg => rfl); (case hr => first | (go_simp; done) | (go_simp; rfl)); intro x ex wx hx lx; have Ex := Aside0.mk ex; clear ex)) | fail)
  have HX1 := Aside0.mk hx
  have HL1 := Aside0.mk lx
  clear hx lx
  go_loopg [9, 10, 11] (N + 1) (fun kq v9 v10 v11 wr => ∃ (n dn a : Nat) (acc : List UInt8), v9 = .string ⟨acc.toArray⟩ ∧ v10 = .int .i64 (dn : Int) ∧ v11 = .int .i64 (a : Int) ∧ Aside0 (n + 1 = kq ∧ s.size + 2 ≤ n + a ∧ a ≤ s.size + 1 ∧ dn ≤ a ∧ dn ≤ s.size ∧ replL s by_ all (stepsB p) (firstB p) n dn a acc = R ∧ acc.length ≤ 1003000 * a) ∧ Aside0 (wr.heap[x]? = some (.cells #[.int .i64 k, .slice As ns cs, .slice Al nl cl] TN (0, 0))) ∧ Aside0 (Below w.heap.size w wr))
  case atStart => exact ⟨N, 0, 0, [], rfl, rfl, rfl, ⟨rfl, by have := HN.out; omega, by omega, by omega, by omega, by rw [← HN.out]; exact HR.out.1, by simp⟩, HX1, HL1⟩
  case round =>
    clear HX1 HL1
    obtain ⟨n, dn, a, acc, rfl, rfl, rfl, HI, HX, HW⟩ := hrel
    obtain ⟨l, rfl⟩ : ∃ l, n = l + 1 := ⟨n - 1, by have := HI.out; omega⟩
    obtain ⟨ko, rfl⟩ : ∃ ko, gk = ko + 1 := ⟨gk - 1, by have := HI.out; omega⟩
    obtain ⟨so, hso⟩ : ∃ so : ByteArray, ⟨acc.toArray⟩ = so := ⟨_, rfl⟩
    rw [hso]
    have HSO := Aside0.mk hso
    have hsz : so.size = acc.length := by rw [← hso]; show acc.toArray.size = _; simp
    obtain ⟨dz, hdz⟩ : ∃ z : Int, (dn : Int) = z := ⟨_, rfl⟩
    obtain ⟨az, haz⟩ : ∃ z : Int, (a : Int) = z := ⟨_, rfl⟩
    have hxx := HX.out
    (have x0 : wr.cell? ⟨x, 0, none⟩ = some (.int .i64 (k)) := (blk_cell hxx 0).trans rfl; have x1 : wr.cell? ⟨x, 1, none⟩ = some (.slice As ns cs) := (blk_cell hxx 1).trans rfl; have x2 : wr.cell? ⟨x, 2, none⟩ = some (.slice Al nl cl) := (blk_cell hxx 2).trans rfl)
    have hF := HF wr (a : Int) (Kd.M_below HM.out HW.out)
    have hq := HI.out.2.2.2.2.2.1
    rw [replL] at hq
    have hd0 : 0 ≤ dz := by omega
    have hd1 : dz ≤ (s.size : Int) := by have := HI.out; omega
    have hdn : dz.toNat = dn := by omega
    clear hso hxx
    cases hf : findP s (stepsB p) (firstB p) (a : Int) with
    | none =>
      rw [hf] at hF hq
      rw [haz] at hF
      dsimp only [findV] at hF hq
      have HQ := Aside0.mk hq
      have HDN := Aside0.mk hdn
      rw [hdz, haz]
      clear hq hf hdz haz hdn
      have hac := HI.out.2.2.2.2.2.2
      have hss := HR.out.2.1
      have haa := HI.out.2.2.1
      have n1 : (9223372036854775807 < so.size + (s.size - dz.toNat)) = False := eq_false (by omega)
      have n2 : so.size + (s.size - dz.toNat) ≤ 9223372036854775807 := by omega
      have n3 : (9223372036854775807 < so.size + (s.extract dz.toNat s.size).size) = False := eq_false (by rw [ByteArray.size_extract, Nat.min_self]; omega)
      have n4 : so.size + (s.extract dz.toNat s.size).size ≤ 9223372036854775807 := by rw [ByteArray.size_extract, Nat.min_self]; omega
      go_wp2_with (first | (go_at_call 16; refine hF.mono ?_; rintro e w2 ⟨rfl, hl2⟩) | fail)
      refine bodyPost_ret (by simp [results, Try.results20, go_sem]; try rfl) rfl ?_
      refine ⟨?_, below_then HW.out HW.out.size hl2⟩
      rw [← HQ.out, ← ex_drop, ← HDN.out, ← HSO.out, bs_app acc _ _ rfl]
    | some q =>
      obtain ⟨i, kz⟩ := q
      obtain ⟨hr1, hr2, hr3, hr4⟩ := findP_range s _ _ a i kz hf
      rw [hf] at hF hq
      rw [haz] at hF
      obtain ⟨iz, hiz⟩ : ∃ z : Int, (i : Int) = z := ⟨_, rfl⟩
      dsimp only [findV] at hF hq
      rw [hiz] at hF
      have hin : iz.toNat = i := by omega
      have f1 : dz ≤ iz := by have := HI.out; omega
      have f2 : iz ≤ kz := by omega
      have f3 : iz ≤ (s.size : Int) := by omega
      have f4 : 0 ≤ iz := by omega
      have f5 : 0 ≤ kz := by omega
      have f6 : iz + 1 < 9223372036854775808 := by have := HR.out; omega
      have f7 : kz ≤ (s.size : Int) := hr4
      have f8 : kz + 1 < 9223372036854775808 := by have := HR.out; omega
      have HQ := Aside0.mk hq
      have HDN := Aside0.mk (⟨hdn, hin⟩ : dz.toNat = dn ∧ iz.toNat = i)
      have HRN := Aside0.mk (⟨hr1, hr2, hr3, hiz⟩ : a ≤ i ∧ i ≤ s.size ∧ (i : Int) ≤ kz ∧ (i : Int) = iz)
      have hln : acc.length ≤ 1003000 * a := HI.out.2.2.2.2.2.2
      have hll : acc.length ≤ 1003000 * i := by have := HRN.out.1; omega
      have hii := HRN.out.2.1
      have hss := HR.out.2.1
      have hexl : (s.extract dz.toNat iz.toNat).data.toList.length = iz.toNat - dz.toNat := ex_len s _ _ (by omega)
      have hexs : (s.extract dz.toNat iz.toNat).size = iz.toNat - dz.toNat := by rw [← hexl, Array.length_toList]; rfl
      have hexl2 : (s.extract iz.toNat kz.toNat).data.toList.length = kz.toNat - iz.toNat := ex_len s _ _ (by omega)
      have hexs2 : (s.extract iz.toNat kz.toNat).size = kz.toNat - iz.toNat := by rw [← hexl2, Array.length_toList]; rfl
      have hpl : (putL (s.extract iz.toNat kz.toNat).data.toList by_.data.toList).length ≤ 1001000 := by
        refine Nat.le_trans (putL_len _ _) (Nat.le_trans (Nat.mul_le_mul (show by_.data.toList.length ≤ 1000 by rw [Array.length_toList]; exact HR.out.2.2) (show _ ≤ 1001 by rw [hexl2]; omega)) (by decide))
      have hP := fun (W : World) => refPutW W by_ (s.extract iz.toNat kz.toNat) (by have := HR.out.2.2; omega) (by omega)
      obtain ⟨PP, hPP⟩ : ∃ PP, putL (s.extract iz.toNat kz.toNat).data.toList by_.data.toList = PP := ⟨_, rfl⟩
      rw [hPP] at hpl hP
      obtain ⟨pb, hpb⟩ : ∃ pb : ByteArray, ⟨PP.toArray⟩ = pb := ⟨_, rfl⟩
      rw [hpb] at hP
      have hps : pb.size = PP.length := by rw [← hpb]; show PP.toArray.size = _; simp
      rw [hdz, haz]
      clear hq hf hdz haz hdn hr1 hr2 hr3 hr4 hiz hin
      go_wp2_with (first | (go_at_call 16; refine hF.mono ?_; rintro e w2 ⟨rfl, hl2⟩) | fail)
      have HW2 := Aside0.mk (below_then HW.out HW.out.size hl2)
      have HX2 := Aside0.mk (blk_below HX.out hl2)
      clear HW HX hl2 x0 x1 x2
      have hmi : min iz.toNat s.size = iz.toNat := by omega
      have n1 : (9223372036854775807 < (s.extract dz.toNat iz.toNat).size + pb.size) = False := eq_false (by rw [hexs]; omega)
      have n2 : (9223372036854775807 < iz.toNat - dz.toNat + pb.size) = False := eq_false (by omega)
      have n3 : (9223372036854775807 < min iz.toNat s.size - dz.toNat + pb.size) = False := eq_false (by omega)
      have n4 : (9223372036854775807 < so.size + (iz.toNat - dz.toNat + pb.size)) = False := eq_false (by omega)
      have n5 : (9223372036854775807 < so.size + (min iz.toNat s.size - dz.toNat + pb.size)) = False := eq_false (by omega)
      have n6 : (9223372036854775807 < so.size + ((s.extract dz.toNat iz.toNat).size + pb.size)) = False := eq_false (by rw [hexs]; omega)
      go_region_with (first
        | (go_at_call 35; (with_reducible refine (hP _).mono ?_); rintro e3 w3 ⟨rfl, hl3⟩)
        | fail)
      all_goals
        have hl4 : Below w2.heap.size w2 w3 := below_then (below_drew (Below.refl _ _)) (Nat.le_refl _) hl3
        have HW3 := Aside0.mk (below_then HW2.out HW2.out.size hl4)
        have HX3 := Aside0.mk (blk_below HX2.out hl4)
        have hnew : so ++ (s.extract dz.toNat iz.toNat ++ pb) = ⟨(acc ++ (s.extract dz.toNat iz.toNat).data.toList ++ PP).toArray⟩ := by
          rw [← HSO.out, bs_app acc ((s.extract dz.toNat iz.toNat).data.toList ++ PP) _ (by rw [← hpb]; simp), List.append_assoc]
        obtain ⟨ac2, hac2⟩ : ∃ ac2, acc ++ (s.extract dz.toNat iz.toNat).data.toList ++ PP = ac2 := ⟨_, rfl⟩
        have hl2n : ac2.length ≤ 1003000 * i + 1000 + 1001000 := by rw [← hac2, List.length_append, List.length_append, hexl]; omega
        rw [hac2] at hnew
        rw [hnew]
        have HLN := Aside0.mk hl2n
        have HAC := Aside0.mk hac2
        have HPP := Aside0.mk hPP
        obtain ⟨sn, hsn⟩ : ∃ sn : ByteArray, ⟨ac2.toArray⟩ = sn := ⟨_, rfl⟩
        have hsz2 : sn.size = ac2.length := by rw [← hsn]; show ac2.toArray.size = _; simp
        have HSN := Aside0.mk hsn
        rw [hsn]
        clear n1 n2 n3 n4 n5 n6 hnew hac2 hPP hexl hexs hexl2 hexs2 hpl hP hps hpb hln hll hmi hsn hl3 hl4 hii
        cases all with
        | true =>
          have hq := HQ.out
          rw [if_pos rfl] at hq
          have HQ2 := Aside0.mk hq
          clear hq
          by_cases hlt : iz = kz
          · have g2 : (iz == kz) = true := beq_iff_eq.2 hlt
            go_wp2_with (fail)
            go_roundg ko
            case measure => have := HI.out; omega
            case rel => exact ⟨l, kz.toNat, max kz.toNat (i + 1), ac2, by rw [HSN.out], by rw [Int.toNat_of_nonneg f5], by rw [Nat.max_eq_right (by have := HRN.out; omega), ← hlt, ← HRN.out.2.2.2]; rfl, ⟨by have := HI.out; omega, by have := HI.out; have := HRN.out; omega, by have := HRN.out; omega, by have := HRN.out; omega, by omega, by rw [← HQ2.out, ← HDN.out.1, ← HDN.out.2, HPP.out, HAC.out], by have := HLN.out; have := HRN.out; omega⟩, HX3, HW3⟩
          · have g2 : (iz == kz) = false := beq_false_of_ne hlt
            go_wp2_with (fail)
            go_roundg ko
            case measure => have := HI.out; omega
            case rel => exact ⟨l, kz.toNat, max kz.toNat (i + 1), ac2, by rw [HSN.out], by rw [Int.toNat_of_nonneg f5], by rw [Nat.max_eq_left (by have := HRN.out; omega), Int.toNat_of_nonneg f5], ⟨by have := HI.out; omega, by have := HI.out; have := HRN.out; omega, by have := HRN.out; omega, by have := HRN.out; omega, by omega, by rw [← HQ2.out, ← HDN.out.1, ← HDN.out.2, HPP.out, HAC.out], by have := HLN.out; have := HRN.out; omega⟩, HX3, HW3⟩
        | false =>
          have hq := HQ.out
          rw [if_neg (by simp)] at hq
          have HQ2 := Aside0.mk hq
          clear hq
          have haa := HI.out.2.2.1
          have hi2 := HRN.out.2.1
          have n1 : (9223372036854775807 < sn.size + (s.size - kz.toNat)) = False := eq_false (by have := HLN.out; omega)
          have n2 : sn.size + (s.size - kz.toNat) ≤ 9223372036854775807 := by have := HLN.out; omega
          by_cases hlt : iz = kz
          · have g2 : (iz == kz) = true := beq_iff_eq.2 hlt
            go_wp2_with (fail)
            refine bodyPost_ret (by simp [results, Try.results20, go_sem]; try rfl) rfl ?_
            refine ⟨?_, HW3.out⟩
            rw [← HQ2.out, ← ex_drop, ← HDN.out.1, ← HDN.out.2, HPP.out, HAC.out, ← HSN.out, bs_app ac2 _ _ rfl]
          · have g2 : (iz == kz) = false := beq_false_of_ne hlt
            go_wp2_with (fail)
            refine bodyPost_ret (by simp [results, Try.results20, go_sem]; try rfl) rfl ?_
            refine ⟨?_, HW3.out⟩
            rw [← HQ2.out, ← ex_drop, ← HDN.out.1, ← HDN.out.2, HPP.out, HAC.out, ← HSN.out, bs_app ac2 _ _ rfl]
end Go.Proofs.Ytnjpdhekeffpnaa.Rx
