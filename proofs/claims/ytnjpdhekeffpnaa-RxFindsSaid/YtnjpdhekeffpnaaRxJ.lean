/- The longest match, walked. -/
import Derived.Test.YtnjpdhekeffpnaaRxU
import Derived.Test.YtnjpdhekeffpnaaRxV
set_option linter.unusedVariables false
set_option linter.unusedSimpArgs false
namespace Go.Proofs.Ytnjpdhekeffpnaa.Rx
open Go.RowKit Go.Proofs.YtnjpdhekeffpnaaW.PrintWords Go.Proofs.YtnjpdhekeffpnaaW.PrintLast Go.Proofs.YtnjpdhekeffpnaaW.PrintMore

theorem infoO : (Try.prog.info? 4).map (fun i => (i.zero, i.size, i.bytes)) = some (some (.bool false), 1, 1) := by kernel_rfl
set_option maxHeartbeats 8000000 in
set_option maxRecDepth 100000 in
theorem setHasW2 (w : World) (x m c : Nat) (k nx ot : Value) (h : w.heap[x]? = some (.cells #[k, .int .u64 (wd m 0), .int .u64 (wd m 1), .int .u64 (wd m 2), .int .u64 (wd m 3), nx, ot] TS (0, 0))) (h1 : c < 256) :
    Calls Try.prog 45 #[.pointer (some ⟨x, 1, none⟩), .int .u8 (c : Int)] w fun r w' => r = .returned (.bool (m.testBit c)) ∧ w' = w := by
  have hu98 := Try.underlying98
  obtain ⟨d, hd⟩ : ∃ d, c / 64 = d := ⟨_, rfl⟩
  obtain ⟨r, hr⟩ : ∃ r, c % 64 = r := ⟨_, rfl⟩
  have e1 : (c : Int) / 64 = (d : Int) := by omega
  have e2 : bits .and .u8 (c : Int) 63 = (r : Int) := by rw [u8_and63' c h1, hr]
  have x0 : w.cell? ⟨x, 1 + d, none⟩ = some (.int .u64 (wd m d)) := by
    rw [blk_cell h]
    rcases (show d = 0 ∨ d = 1 ∨ d = 2 ∨ d = 3 by omega) with rfl | rfl | rfl | rfl <;> rfl
  have hd4 : (d : Int) < 4 := by omega
  have hd0 : (0 : Int) ≤ (d : Int) := by omega
  have hr0 : (0 : Int) ≤ (r : Int) := by omega
  have hr4 : (r : Int) ≤ 64 := by omega
  have HD := Aside0.mk (⟨hd, hr⟩ : c / 64 = d ∧ c % 64 = r)
  clear hd hr h
  go_enter Try.func45, Try.ntmps45
  go_wp2_with (fail)
  go_ret
  refine ⟨?_, rfl⟩
  rw [has_bit m d r (by have := HD.out.2; omega), show 64 * d + r = c by have := HD.out; omega]
  rfl
theorem Mk.push {r g : Nat} {w a b : World} (h : Mk r w a) (k : Mk g a b) (hg : w.heap.size ≤ g) : Mk r w b :=
  ⟨fun B h1 h2 => (h.below B h1 h2).trans (k.below B (Nat.le_trans h2 hg) (Nat.le_trans h2 h.size)), fun q h1 h2 => (k.keep q (Nat.lt_of_lt_of_le h1 h.size) (by omega)).trans (h.keep q h1 h2)⟩
theorem free_rep (n : Nat) : free (List.replicate n false) = n := by unfold free; simp [List.countP_replicate]
theorem MarkAt.mk {w w' : World} {g g2 c : Nat} {m : List Bool} (h : MarkAt w g c m) (k : Mk g2 w w') (hne : g ≠ g2) : MarkAt w' g c m := by
  refine Kd.R_of_own (enc := Value.bool) (h1 := fun _ => rfl) (own_move (Kd.own_of_R (enc := Value.bool) (h1 := fun _ => rfl) h) (fun q hq => ?_)) (fun _ _ => trivial)
  have hq' : g = q := by simpa [Value.ownBlock] using hq
  subst hq'
  obtain ⟨cs, hc⟩ := h.blk
  exact k.keep g (blk_lt hc) hne
theorem new_le {w w1 : World} {g n c : Nat} (h : w.heap.size ≤ w1.heap.size) (k : ∃ b, (Value.slice (some ⟨g, 0, none⟩) n c).ownBlock = some b ∧ w1.heap.size ≤ b) : w.heap.size ≤ g := by
  obtain ⟨b, h1, h2⟩ := k
  have e : g = b := by simpa [Value.ownBlock] using h1
  omega
theorem stepL_end (s : ByteArray) (st : List Stp) (a : Nat) (m : List Bool) (k n : Nat) (nx : List Bool) (sm : Bool) (la : Int) (h : ¬ n < m.length) : stepL s st a m k n nx sm la = (nx, sm, la) := by
  cases k with
  | zero => rfl
  | succ k => rw [stepL, if_neg h]
theorem free_len (m : List Bool) : free m ≤ m.length := List.countP_le_length
theorem grown_below {w w' : World} (h : w.grownBy w' none) : Below w.heap.size w w' := ⟨h.os, h.tape, h.output, h.size, fun k hk => h.block k hk (by simp)⟩
set_option maxHeartbeats 16000000 in
set_option maxRecDepth 100000 in
theorem longestW (w : World) (r : Nat) (p s : ByteArray) (at_ : Nat) (hs : p.size ≤ 200) (hz : s.size ≤ 1000000000) (ha : at_ ≤ s.size) (h : RgX w r p) :
    Calls Try.prog 29 #[.pointer (some ⟨r, 0, none⟩), .string s, .int .i64 (at_ : Int)] w fun e w' => e = .returned (.int .i64 (longP s (stepsB p) (firstB p) at_)) ∧ RgAt w' r p (stepsB p) (firstB p) ∧ Mk r w w' := by
  have hmf : ∀ (fn : Fn) (first cap : Array Value) (w : World), (Instr.makeFunc fn first cap).run Try.prog w = .ok (.func fn first cap) w := fun _ _ _ _ => rfl
  have hu58 := Try.underlying58
  have hu100 := Try.underlying100
  have hdo := doW w r p hs h
  have hwf := wf_steps p
  obtain ⟨st, hst⟩ : ∃ st, stepsB p = st := ⟨_, rfl⟩
  obtain ⟨fi, hfi⟩ : ∃ fi, firstB p = fi := ⟨_, rfl⟩
  rw [hst, hfi] at hdo hwf ⊢
  have HH := Aside0.mk (⟨by omega, by omega, hwf.2.1, hwf.1, hz, ha⟩ : st.length ≤ 1000 ∧ 0 < st.length ∧ fi < st.length ∧ WfS st ∧ s.size ≤ 1000000000 ∧ at_ ≤ s.size)
  obtain ⟨za, hza⟩ : ∃ za : Int, (at_ : Int) = za := ⟨_, rfl⟩
  have HZ := Aside0.mk hza
  rw [hza]
  clear hwf hst hfi hs hz ha h hza
  go_enter Try.func29, Try.ntmps29
  go_wp2_with (fail)
  refine hdo.mono ?_
  rintro e w1 ⟨rfl, hR1, hK1⟩
  obtain ⟨vs, hr1, hRs1⟩ := hR1
  obtain ⟨As, cs, rfl⟩ := Kd.R_slice hRs1
  have x5 : w1.cell? ⟨r, 5, none⟩ = some (.slice As st.length cs) := (blk_cell hr1 5).trans rfl
  have x6 : w1.cell? ⟨r, 6, none⟩ = some (.int .i64 (fi : Int)) := (blk_cell hr1 6).trans rfl
  have HR1 := Aside0.mk (show RgAt w1 r p st fi from ⟨_, hr1, hRs1⟩)
  have HK1 := Aside0.mk hK1
  have e0 : (za == 0) = decide (at_ = 0) := by rw [← HZ.out]; by_cases h : at_ = 0 <;> simp [h]
  have e1 : (za == (s.size : Int)) = decide (at_ = s.size) := by rw [← HZ.out]; by_cases h : at_ = s.size <;> simp [h]; omega
  clear hr1 hRs1 hK1 hdo
  go_wp2_with (first | (((with_reducible refine gate_dst (N := 25) rfl ?_); refine Kd.R_make Kd.bool (w0 := w1) 0 TO rfl (N := 25) rfl 29 (.tmp 24) (.tmp 24) rfl (st.length : Int) rfl rfl Try.underlying29 (.bool false) 1 infoO rfl (by decide) (by decide) false (ok := fun _ => True) (okp := fun _ => True) rfl (fun _ _ => trivial) trivial (Int.natCast_nonneg _) ?mL ?mB (Nat.zero_le _) ?_; (case mL => rw [Int.toNat_natCast]; have := HH.out.1; omega); (case mB => exact Below.refl _ _); intro v25 w25 hR25 hB25 hg25 hat25; rw [Int.toNat_natCast] at hR25; obtain ⟨g25, c25, e25, -⟩ := Kd.R_form hR25 (by rw [List.length_replicate]; have := HH.out.2.1; omega); rw [List.length_replicate] at e25; subst e25); have hl25 := grown_below hg25; obtain ⟨vs2, hr2, hRs2⟩ := HR1.out.below hl25; obtain ⟨As2, cs2, rfl⟩ := Kd.R_slice hRs2; have y5 : w25.cell? ⟨r, 5, none⟩ = some (.slice As2 st.length cs2) := (blk_cell hr2 5).trans rfl; have y6 : w25.cell? ⟨r, 6, none⟩ = some (.int .i64 (fi : Int)) := (blk_cell hr2 6).trans rfl; have HR2 := Aside0.mk (show RgAt w25 r p st fi from ⟨_, hr2, hRs2⟩)) | fail)
  have hM2 : MarkAt w25 g25 c25 (List.replicate st.length false) := by unfold MarkAt; rw [List.length_replicate]; exact hR25
  have hK2 := (HK1.out.push (Mk.of hl25 : Mk g25 w1 w25) (new_le HK1.out.size hat25))
  have hgw : w.heap.size ≤ g25 := new_le HK1.out.size hat25
  have ihw := walkRW r p st fi (decide (at_ = 0)) (decide (at_ = s.size)) HH.out.2.2.2.1 (by have := HH.out.1; omega) g25 c25 (st.length + 1) w25 (List.replicate st.length false) fi (by rw [free_rep]; omega) HH.out.2.2.1 (List.length_replicate) HR2.out hM2
  rw [List.length_replicate] at ihw
  refine ihw.mono ?_
  rintro e w3 ⟨rfl, hM3, hK3⟩
  have HR3 := Aside0.mk (HR2.out.mk hK3 hM2.blk)
  have HM3 := Aside0.mk hM3
  have HK3 := Aside0.mk (hK2.push hK3 hgw)
  have HGW := Aside0.mk hgw
  have hml : (walkP st (decide (at_ = 0)) (decide (at_ = s.size)) (st.length + 1) (List.replicate st.length false) fi).length = st.length := by rw [walkP_len, List.length_replicate]
  have hlp : longP s st fi at_ = longL s st (s.size + 2) at_ (walkP st (decide (at_ = 0)) (decide (at_ = s.size)) (st.length + 1) (List.replicate st.length false) fi) (-1) := rfl
  obtain ⟨m0, hm0⟩ : ∃ m0, walkP st (decide (at_ = 0)) (decide (at_ = s.size)) (st.length + 1) (List.replicate st.length false) fi = m0 := ⟨_, rfl⟩
  rw [hm0] at HM3 hml hlp
  obtain ⟨RR, hRR⟩ : ∃ RR, longP s st fi at_ = RR := ⟨_, rfl⟩
  have HLP := Aside0.mk (⟨hlp.symm.trans hRR, hml⟩ : longL s st (s.size + 2) at_ m0 (-1) = RR ∧ m0.length = st.length)
  have HRR := Aside0.mk hRR
  clear ihw hM2 hK2 hM3 hK3 hgw hml hlp hm0 hRR hR25 hB25 hg25 hat25 hl25 hr2 hRs2 y5 y6 x5 x6 e0 e1
  obtain ⟨N, hN⟩ : ∃ N, s.size + 2 = N := ⟨_, rfl⟩
  have HN := Aside0.mk hN
  clear hN
  go_wp2_with (fail)
  go_loopg [2, 7, 8] (N + 1) (fun kq v2 v7 v8 wr => ∃ (n a g c : Nat) (last : Int) (m : List Bool), v2 = .int .i64 (a : Int) ∧ v7 = .int .i64 last ∧ v8 = .slice (some ⟨g, 0, none⟩) st.length c ∧ Aside0 (n + 1 = kq ∧ s.size < a + n ∧ a ≤ s.size ∧ longL s st n a m last = RR ∧ m.length = st.length ∧ w.heap.size ≤ g) ∧ Aside0 (RgAt wr r p st fi) ∧ Aside0 (MarkAt wr g c m) ∧ Aside0 (Mk r w wr))
  case atStart =>
    exact ⟨N, at_, g25, c25, -1, m0, by rw [HZ.out], rfl, rfl, ⟨rfl, by have := HN.out; omega, HH.out.2.2.2.2.2, by rw [← HN.out]; exact HLP.out.1, HLP.out.2, HGW.out⟩, HR3, HM3, HK3⟩
  case round =>
    clear HR3 HM3 HK3 HGW HLP
    obtain ⟨n, a, g, c, last, m, rfl, rfl, rfl, HI, HR, HM, HK⟩ := hrel
    obtain ⟨l, rfl⟩ : ∃ l, n = l + 1 := ⟨n - 1, by have := HI.out; omega⟩
    obtain ⟨az, haz⟩ : ∃ az : Int, (a : Int) = az := ⟨_, rfl⟩
    rw [haz]
    have HAZ := Aside0.mk haz
    clear haz
    obtain ⟨ko, rfl⟩ : ∃ ko, gk = ko + 1 := ⟨gk - 1, by have := HI.out; omega⟩
    obtain ⟨vs, hr1, hRs1⟩ := HR.out
    obtain ⟨As4, cs4, rfl⟩ := Kd.R_slice hRs1
    have x5 : wr.cell? ⟨r, 5, none⟩ = some (.slice As4 st.length cs4) := (blk_cell hr1 5).trans rfl
    clear hr1 hRs1
    go_wp2_with (first | (((with_reducible refine gate_dst (N := 44) rfl ?_); refine Kd.R_make Kd.bool (w0 := wr) 0 TO rfl (N := 44) rfl 29 (.tmp 43) (.tmp 43) rfl (st.length : Int) rfl rfl Try.underlying29 (.bool false) 1 infoO rfl (by decide) (by decide) false (ok := fun _ => True) (okp := fun _ => True) rfl (fun _ _ => trivial) trivial (Int.natCast_nonneg _) ?mL ?mB (Nat.zero_le _) ?_; (case mL => rw [Int.toNat_natCast]; have := HH.out.1; omega); (case mB => exact Below.refl _ _); intro v44 w44 hR44 hB44 hg44 hat44; rw [Int.toNat_natCast] at hR44; obtain ⟨g44, c44, e44, -⟩ := Kd.R_form hR44 (by rw [List.length_replicate]; have := HH.out.2.1; omega); rw [List.length_replicate] at e44; subst e44); have hl44 := grown_below hg44) | fail)
    have hM44 : MarkAt w44 g44 c44 (List.replicate st.length false) := by unfold MarkAt; rw [List.length_replicate]; exact hR44
    have hg44w : w.heap.size ≤ g44 := new_le HK.out.size hat44
    have hgg : wr.heap.size ≤ g44 := new_le (Nat.le_refl _) hat44
    obtain ⟨csg, hcg⟩ := HM.out.blk
    have hgne : g ≠ g44 := by have := blk_lt hcg; omega
    have HR4 := Aside0.mk (HR.out.below hl44)
    have HM4 := Aside0.mk (HM.out.mkO hl44)
    have HN4 := Aside0.mk hM44
    have HK4 := Aside0.mk (HK.out.push (Mk.of hl44 : Mk g44 wr w44) hg44w)
    have HG4 := Aside0.mk (⟨hgne, hg44w⟩ : g ≠ g44 ∧ w.heap.size ≤ g44)
    obtain ⟨TT, hTT⟩ : ∃ TT, stepL s st a m (m.length + 1) 0 (List.replicate st.length false) false last = TT := ⟨_, rfl⟩
    have hlo := HI.out.2.2.2.1
    rw [longL, hTT] at hlo
    have HLO := Aside0.mk hlo
    have HTT := Aside0.mk hTT
    obtain ⟨M, hM⟩ : ∃ M, m.length + 1 = M := ⟨_, rfl⟩
    have HMM := Aside0.mk hM
    clear hR44 hB44 hg44 hat44 hl44 hM44 hg44w hgg hcg hgne x5 hTT hlo hM HR HM HK
    go_loopg [7, 10, 47] (M + 1) (fun kq v7 v10 v47 wi => ∃ (i k : Nat) (sm : Bool) (la : Int) (nx : List Bool), v7 = .int .i64 la ∧ v10 = .bool sm ∧ v47 = .int .i64 (i : Int) ∧ Aside0 (k + 1 = kq ∧ k + i = M ∧ i ≤ m.length ∧ stepL s st a m k i nx sm la = TT ∧ nx.length = st.length ∧ (sm = true → a < s.size)) ∧ Aside0 (RgAt wi r p st fi) ∧ Aside0 (MarkAt wi g c m) ∧ Aside0 (MarkAt wi g44 c44 nx) ∧ Aside0 (Mk r w wi))
    case atStart =>
      exact ⟨0, M, false, last, _, rfl, rfl, rfl, ⟨rfl, by omega, Nat.zero_le _, by rw [← HMM.out]; exact HTT.out, List.length_replicate, fun h => by cases h⟩, HR4, HM4, HN4, HK4⟩
    case round =>
      clear HR4 HM4 HN4 HK4
      obtain ⟨i, k, sm, la, nx, rfl, rfl, rfl, HI2, HR, HM, HX, HK⟩ := hrel
      by_cases hi : i < st.length
      · obtain ⟨k1, rfl⟩ : ∃ k1, gk = k1 + 1 := ⟨gk - 1, by have := HI2.out; omega⟩
        obtain ⟨k2, rfl⟩ : ∃ k2, k = k2 + 1 := ⟨k - 1, by have := HI2.out; have := HMM.out; have := HI.out; omega⟩
        have d0 : decide ((i : Int) < (st.length : Int)) = true := decide_eq_true (by omega)
        have d1 : (0 : Int) ≤ (i : Int) := by omega
        have d2 : (i : Int) < (st.length : Int) := by omega
        have hile : i ≤ st.length := by omega
        clear hile
        have d3 : (i : Int) + 1 < 9223372036854775808 := by have := HH.out; omega
        have hml := HI.out.2.2.2.2.1
        have m0 : wr.cell? ⟨g, i, none⟩ = some (.bool (m.getD i true)) := HM.out.at i (by omega)
        have hst := HI2.out.2.2.2.1
        rw [stepL, if_pos (show i < m.length by omega)] at hst
        have hgd : m.getD i true = m.getD i false := by simp [List.getD_eq_getElem?_getD, List.getElem?_eq_getElem (show i < m.length by omega)]
        cases hb : m.getD i false with
        | false =>
          rw [hgd, hb] at m0
          rw [if_pos hb] at hst
          have HST := Aside0.mk hst
          clear hst hgd hb hml
          go_wp2_with (fail)
          go_roundg k1
          case measure => have := HI2.out; omega
          case rel => exact ⟨i + 1, k2, sm, la, nx, rfl, rfl, by first | rfl | simp, ⟨by have := HI2.out; omega, by have := HI2.out; omega, by have := HI.out; omega, HST.out, HI2.out.2.2.2.2.1, HI2.out.2.2.2.2.2⟩, HR, HM, HX, HK⟩
        | true =>
          rw [hgd, hb] at m0
          rw [if_neg (by rw [hb]; simp)] at hst
          have HST := Aside0.mk hst
          clear hst hgd hb hml
          obtain ⟨S1, hS1⟩ : ∃ x, stp st i = x := ⟨_, rfl⟩
          have hmem : st[i]'hi = S1 := by rw [← hS1]; simp [stp, List.getD_eq_getElem?_getD, List.getElem?_eq_getElem hi]
          have hW1 := HH.out.2.2.2.1 (st[i]'hi) (List.getElem_mem _)
          rw [hmem] at hW1
          rw [hS1] at HST
          have HS1 := Aside0.mk hW1
          obtain ⟨vst, hrc, hRs⟩ := HR.out
          obtain ⟨ab, ca, rfl, -⟩ := Kd.R_form hRs (by have := HH.out.2.1; omega)
          have hcs := kst_cells (Kd.R_reads' hRs).2.2 i hi
          rw [hmem, Int.toNat_natCast, kst_sz] at hcs
          have y5 : wr.cell? ⟨r, 5, none⟩ = some (.slice (some ⟨ab, 0, none⟩) st.length ca) := (blk_cell hrc 5).trans rfl
          obtain ⟨a1, ha1⟩ : ∃ x, wd S1.m 0 = x := ⟨_, rfl⟩
          obtain ⟨a2, ha2⟩ : ∃ x, wd S1.m 1 = x := ⟨_, rfl⟩
          obtain ⟨a3, ha3⟩ : ∃ x, wd S1.m 2 = x := ⟨_, rfl⟩
          obtain ⟨a4, ha4⟩ : ∃ x, wd S1.m 3 = x := ⟨_, rfl⟩
          obtain ⟨kz, hkz⟩ : ∃ kz : Int, (S1.k : Int) = kz := ⟨_, rfl⟩
          have q0 : wr.cell? ⟨ab, i * 7, none⟩ = some (.int .i64 kz) := by rw [← hkz]; exact hcs 0 _ rfl
          have q1 : wr.cell? ⟨ab, i * 7 + 1, none⟩ = some (.int .u64 a1) := by rw [← ha1]; exact hcs 1 _ rfl
          have q2 : wr.cell? ⟨ab, i * 7 + 2, none⟩ = some (.int .u64 a2) := by rw [← ha2]; exact hcs 2 _ rfl
          have q3 : wr.cell? ⟨ab, i * 7 + 3, none⟩ = some (.int .u64 a3) := by rw [← ha3]; exact hcs 3 _ rfl
          have q4 : wr.cell? ⟨ab, i * 7 + 4, none⟩ = some (.int .u64 a4) := by rw [← ha4]; exact hcs 4 _ rfl
          have q5 : wr.cell? ⟨ab, i * 7 + 5, none⟩ = some (.int .i64 (S1.nx : Int)) := hcs 5 _ rfl
          have q6 : wr.cell? ⟨ab, i * 7 + 6, none⟩ = some (.int .i64 (S1.ot : Int)) := hcs 6 _ rfl
          have HKZ := Aside0.mk (⟨hkz, ha1, ha2, ha3, ha4⟩ : (S1.k : Int) = kz ∧ wd S1.m 0 = a1 ∧ wd S1.m 1 = a2 ∧ wd S1.m 2 = a3 ∧ wd S1.m 3 = a4)
          clear hmem hW1 hrc hRs hcs hS1 ha1 ha2 ha3 ha4 hkz
          have d4 : (0 : Int) ≤ az := by rw [← HAZ.out]; exact Int.natCast_nonneg _
          by_cases k4 : S1.k = 4
          · have hst := HST.out
            rw [if_pos k4, HAZ.out] at hst
            have HST2 := Aside0.mk hst
            have e4 : kz = 4 := by rw [← HKZ.out.1, k4]; rfl
            rw [e4] at q0
            clear hst k4 e4
            go_wp2_with (first | (((with_reducible refine gate_dst (N := 13) rfl ?_); (try (refine gate_guard (by rfl) ?_; dsimp only)); refine box_event ?hg (N := 13) ?hd (cs := #[.int .i64 0, .int .u64 0, .int .u64 0, .int .u64 0, .int .u64 0, .int .i64 0, .int .i64 0]) (t := 100) ?hr ?_; (case hd => rfl); (case hg => rfl); (case hr => first | (go_simp; done) | (go_simp; rfl)); intro x ex wx hx lx; have Ex := Aside0.mk ex; clear ex); have z0' : wx.cell? ⟨x, 0, none⟩ = some (.int .i64 0) := (blk_cell hx 0).trans rfl; have z1' : wx.cell? ⟨x, 1, none⟩ = some (.int .u64 0) := (blk_cell hx 1).trans rfl; have z2' : wx.cell? ⟨x, 2, none⟩ = some (.int .u64 0) := (blk_cell hx 2).trans rfl; have z3' : wx.cell? ⟨x, 3, none⟩ = some (.int .u64 0) := (blk_cell hx 3).trans rfl; have z4' : wx.cell? ⟨x, 4, none⟩ = some (.int .u64 0) := (blk_cell hx 4).trans rfl; have z5' : wx.cell? ⟨x, 5, none⟩ = some (.int .i64 0) := (blk_cell hx 5).trans rfl; have z6' : wx.cell? ⟨x, 6, none⟩ = some (.int .i64 0) := (blk_cell hx 6).trans rfl; have fz0 := blk_frozen hx 0; have fz1 := blk_frozen hx 1; have fz2 := blk_frozen hx 2; have fz3 := blk_frozen hx 3; have fz4 := blk_frozen hx 4; have fz5 := blk_frozen hx 5; have fz6 := blk_frozen hx 6) | fail)
            have hxw : wr.heap.size ≤ x := by have := Ex.out; omega
            have hB2 := ((((((lx.setCell (p := ⟨x, 0, none⟩) hxw (.int .i64 4)).setCell (p := ⟨x, 1, none⟩) hxw (.int .u64 a1)).setCell (p := ⟨x, 2, none⟩) hxw (.int .u64 a2)).setCell (p := ⟨x, 3, none⟩) hxw (.int .u64 a3)).setCell (p := ⟨x, 4, none⟩) hxw (.int .u64 a4)).setCell (p := ⟨x, 5, none⟩) hxw (.int .i64 (S1.nx : Int))).setCell (p := ⟨x, 6, none⟩) hxw (.int .i64 (S1.ot : Int))
            have hx7 := set7 hx (.int .i64 4) (.int .u64 a1) (.int .u64 a2) (.int .u64 a3) (.int .u64 a4) (.int .i64 (S1.nx : Int)) (.int .i64 (S1.ot : Int))
            obtain ⟨w2, hw2⟩ : ∃ w2, World.setCell (World.setCell (World.setCell (World.setCell (World.setCell (World.setCell (World.setCell wx ⟨x, 0, none⟩ (.int .i64 4)) ⟨x, 1, none⟩ (.int .u64 a1)) ⟨x, 2, none⟩ (.int .u64 a2)) ⟨x, 3, none⟩ (.int .u64 a3)) ⟨x, 4, none⟩ (.int .u64 a4)) ⟨x, 5, none⟩ (.int .i64 (S1.nx : Int))) ⟨x, 6, none⟩ (.int .i64 (S1.ot : Int)) = w2 := ⟨_, rfl⟩
            rw [hw2] at hB2 hx7
            rw [hw2]
            have HM2 := Aside0.mk (HM.out.mkO hB2)
            have HX2 := Aside0.mk (HX.out.mkO hB2)
            have HR2 := Aside0.mk (HR.out.below hB2)
            have HK2 := Aside0.mk (HK.out.push (Mk.of hB2 : Mk g44 wr w2) HG4.out.2)
            have hxg : x ≠ g44 := by obtain ⟨cs, hc⟩ := HX.out.blk; have := blk_lt hc; omega
            clear hB2 hw2 z0' z1' z2' z3' z4' z5' z6' fz0 fz1 fz2 fz3 fz4 fz5 fz6 q0 q1 q2 q3 q4 q5 q6 y5 hx lx
            go_roundg k1
            case measure => have := HI2.out; omega
            case rel => exact ⟨i + 1, k2, sm, az, nx, rfl, rfl, by first | rfl | simp, ⟨by have := HI2.out; omega, by have := HI2.out; omega, by have := HI.out; omega, HST2.out, HI2.out.2.2.2.2.1, HI2.out.2.2.2.2.2⟩, HR2, HM2, HX2, HK2⟩
          · have hst := HST.out
            rw [if_neg k4] at hst
            have e4 : (kz == 4) = false := beq_false_of_ne (fun e => k4 (by have := HKZ.out.1; omega))
            by_cases k0 : S1.k = 0
            · have e0 : kz = 0 := by rw [← HKZ.out.1, k0]; rfl
              rw [e0] at q0
              by_cases ha : a < s.size
              · have d5 : az < (s.size : Int) := by rw [← HAZ.out]; omega
                have d6 : decide (az < (s.size : Int)) = true := decide_eq_true d5
                have hat : az.toNat < s.size := by omega
                obtain ⟨cb, hcb⟩ : ∃ cb, (s[az.toNat]'hat).toNat = cb := ⟨_, rfl⟩
                have hcb2 : (bt s (a : Int)).toNat = cb := by rw [HAZ.out, ← bt_at s az hat, hcb]; rfl
                have hcl : cb < 256 := by rw [← hcb]; exact (s[az.toNat]'hat).toNat_lt
                rw [hcb2] at hst
                have HCB := Aside0.mk (⟨hcb, hcl, ha, k0⟩ : (s[az.toNat]'hat).toNat = cb ∧ cb < 256 ∧ a < s.size ∧ S1.k = 0)
                have HST := Aside0.mk hst
                clear hst hcb hcb2 hcl k0 k4 e0 e4 d6
                go_wp2_with (first | (((with_reducible refine gate_dst (N := 13) rfl ?_); (try (refine gate_guard (by rfl) ?_; dsimp only)); refine box_event ?hg (N := 13) ?hd (cs := #[.int .i64 0, .int .u64 0, .int .u64 0, .int .u64 0, .int .u64 0, .int .i64 0, .int .i64 0]) (t := 100) ?hr ?_; (case hd => rfl); (case hg => rfl); (case hr => first | (go_simp; done) | (go_simp; rfl)); intro x ex wx hx lx; have Ex := Aside0.mk ex; clear ex); have z0' : wx.cell? ⟨x, 0, none⟩ = some (.int .i64 0) := (blk_cell hx 0).trans rfl; have z1' : wx.cell? ⟨x, 1, none⟩ = some (.int .u64 0) := (blk_cell hx 1).trans rfl; have z2' : wx.cell? ⟨x, 2, none⟩ = some (.int .u64 0) := (blk_cell hx 2).trans rfl; have z3' : wx.cell? ⟨x, 3, none⟩ = some (.int .u64 0) := (blk_cell hx 3).trans rfl; have z4' : wx.cell? ⟨x, 4, none⟩ = some (.int .u64 0) := (blk_cell hx 4).trans rfl; have z5' : wx.cell? ⟨x, 5, none⟩ = some (.int .i64 0) := (blk_cell hx 5).trans rfl; have z6' : wx.cell? ⟨x, 6, none⟩ = some (.int .i64 0) := (blk_cell hx 6).trans rfl; have fz0 := blk_frozen hx 0; have fz1 := blk_frozen hx 1; have fz2 := blk_frozen hx 2; have fz3 := blk_frozen hx 3; have fz4 := blk_frozen hx 4; have fz5 := blk_frozen hx 5; have fz6 := blk_frozen hx 6) | fail)
                have hxw : wr.heap.size ≤ x := by have := Ex.out; omega
                have hB2 := ((((((lx.setCell (p := ⟨x, 0, none⟩) hxw (.int .i64 0)).setCell (p := ⟨x, 1, none⟩) hxw (.int .u64 a1)).setCell (p := ⟨x, 2, none⟩) hxw (.int .u64 a2)).setCell (p := ⟨x, 3, none⟩) hxw (.int .u64 a3)).setCell (p := ⟨x, 4, none⟩) hxw (.int .u64 a4)).setCell (p := ⟨x, 5, none⟩) hxw (.int .i64 (S1.nx : Int))).setCell (p := ⟨x, 6, none⟩) hxw (.int .i64 (S1.ot : Int))
                have hx7 := set7 hx (.int .i64 0) (.int .u64 a1) (.int .u64 a2) (.int .u64 a3) (.int .u64 a4) (.int .i64 (S1.nx : Int)) (.int .i64 (S1.ot : Int))
                obtain ⟨w2, hw2⟩ : ∃ w2, World.setCell (World.setCell (World.setCell (World.setCell (World.setCell (World.setCell (World.setCell wx ⟨x, 0, none⟩ (.int .i64 0)) ⟨x, 1, none⟩ (.int .u64 a1)) ⟨x, 2, none⟩ (.int .u64 a2)) ⟨x, 3, none⟩ (.int .u64 a3)) ⟨x, 4, none⟩ (.int .u64 a4)) ⟨x, 5, none⟩ (.int .i64 (S1.nx : Int))) ⟨x, 6, none⟩ (.int .i64 (S1.ot : Int)) = w2 := ⟨_, rfl⟩
                rw [hw2] at hB2 hx7
                rw [hw2]
                have HM2 := Aside0.mk (HM.out.mkO hB2)
                have HX2 := Aside0.mk (HX.out.mkO hB2)
                have HR2 := Aside0.mk (HR.out.below hB2)
                have HK2 := Aside0.mk (HK.out.push (Mk.of hB2 : Mk g44 wr w2) HG4.out.2)
                have hxg : x ≠ g44 := by obtain ⟨cs, hc⟩ := HX.out.blk; have := blk_lt hc; omega
                clear hB2 hw2 z0' z1' z2' z3' z4' z5' z6' fz0 fz1 fz2 fz3 fz4 fz5 fz6 q0 q1 q2 q3 q4 q5 q6 y5 hx lx
                have hx8 := hx7
                rw [← HKZ.out.2.1, ← HKZ.out.2.2.1, ← HKZ.out.2.2.2.1, ← HKZ.out.2.2.2.2] at hx8
                have hh := setHasW2 w2 x S1.m (s[az.toNat]'hat).toNat _ _ _ hx8 (s[az.toNat]'hat).toNat_lt
                rw [show S1.m.testBit (s[az.toNat]'hat).toNat = S1.m.testBit cb by rw [HCB.out.1]] at hh
                cases ht : S1.m.testBit cb with
                | true =>
                  rw [ht] at hh
                  have hst := HST.out
                  rw [if_pos ⟨HCB.out.2.2.2, HCB.out.2.2.1, ht⟩] at hst
                  have HST2 := Aside0.mk hst
                  have e6 : (az + 1 == (s.size : Int)) = decide (a + 1 = s.size) := by
                    rw [← HAZ.out]
                    by_cases h : a + 1 = s.size
                    · rw [decide_eq_true h]; exact beq_iff_eq.2 (by omega)
                    · rw [decide_eq_false h]; exact beq_false_of_ne (by omega)
                  have d7 : az + 1 < 9223372036854775808 := by have := HH.out; have := HCB.out; rw [← HAZ.out]; omega
                  have v5 : w2.cell? ⟨x, 5, none⟩ = some (.int .i64 (S1.nx : Int)) := (blk_cell hx7 5).trans rfl
                  have hfr : free nx < st.length + 1 := by have := free_len nx; have := HI2.out.2.2.2.2.1; omega
                  have ihw := walkRW r p st fi false (decide (a + 1 = s.size)) HH.out.2.2.2.1 (by have := HH.out.1; omega) g44 c44 (st.length + 1) w2 nx S1.nx hfr HS1.out.1 HI2.out.2.2.2.2.1 HR2.out HX2.out
                  rw [HI2.out.2.2.2.2.1] at ihw
                  clear hst hx8 hx7 hfr
                  refine hh.mono ?_
                  rintro e wh ⟨rfl, ewh⟩
                  subst ewh
                  go_wp2_with (fail)
                  refine ihw.mono ?_
                  rintro e w3 ⟨rfl, hM3, hK3⟩
                  have HR3 := Aside0.mk (HR2.out.mk hK3 HX2.out.blk)
                  have HM3 := Aside0.mk (HM2.out.mk hK3 HG4.out.1)
                  have HX3 := Aside0.mk hM3
                  have HK3 := Aside0.mk (HK2.out.push hK3 HG4.out.2)
                  clear ihw hM3 hK3 hh e6 v5
                  go_wp2_with (fail)
                  go_roundg k1
                  case measure => have := HI2.out; omega
                  case rel => exact ⟨i + 1, k2, true, la, _, rfl, rfl, by first | rfl | simp, ⟨by have := HI2.out; omega, by have := HI2.out; omega, by have := HI.out; omega, HST2.out, (by rw [walkP_len]; exact HI2.out.2.2.2.2.1), (fun _ => HCB.out.2.2.1)⟩, HR3, HM3, HX3, HK3⟩
                | false =>
                  rw [ht] at hh
                  have hst := HST.out
                  rw [if_neg (fun e => by rw [ht] at e; exact absurd e.2.2 (by simp))] at hst
                  have HST2 := Aside0.mk hst
                  clear hst hx8 hx7
                  refine hh.mono ?_
                  rintro e wh ⟨rfl, ewh⟩
                  subst ewh
                  clear hh
                  go_wp2_with (fail)
                  go_roundg k1
                  case measure => have := HI2.out; omega
                  case rel => exact ⟨i + 1, k2, sm, la, nx, rfl, rfl, by first | rfl | simp, ⟨by have := HI2.out; omega, by have := HI2.out; omega, by have := HI.out; omega, HST2.out, HI2.out.2.2.2.2.1, HI2.out.2.2.2.2.2⟩, HR2, HM2, HX2, HK2⟩
              · have d6 : decide (az < (s.size : Int)) = false := decide_eq_false (by rw [← HAZ.out]; omega)
                rw [if_neg (fun e => ha e.2.1)] at hst
                have HST2 := Aside0.mk hst
                clear hst k0 k4 e0 ha
                go_wp2_with (first | (((with_reducible refine gate_dst (N := 13) rfl ?_); (try (refine gate_guard (by rfl) ?_; dsimp only)); refine box_event ?hg (N := 13) ?hd (cs := #[.int .i64 0, .int .u64 0, .int .u64 0, .int .u64 0, .int .u64 0, .int .i64 0, .int .i64 0]) (t := 100) ?hr ?_; (case hd => rfl); (case hg => rfl); (case hr => first | (go_simp; done) | (go_simp; rfl)); intro x ex wx hx lx; have Ex := Aside0.mk ex; clear ex); have z0' : wx.cell? ⟨x, 0, none⟩ = some (.int .i64 0) := (blk_cell hx 0).trans rfl; have z1' : wx.cell? ⟨x, 1, none⟩ = some (.int .u64 0) := (blk_cell hx 1).trans rfl; have z2' : wx.cell? ⟨x, 2, none⟩ = some (.int .u64 0) := (blk_cell hx 2).trans rfl; have z3' : wx.cell? ⟨x, 3, none⟩ = some (.int .u64 0) := (blk_cell hx 3).trans rfl; have z4' : wx.cell? ⟨x, 4, none⟩ = some (.int .u64 0) := (blk_cell hx 4).trans rfl; have z5' : wx.cell? ⟨x, 5, none⟩ = some (.int .i64 0) := (blk_cell hx 5).trans rfl; have z6' : wx.cell? ⟨x, 6, none⟩ = some (.int .i64 0) := (blk_cell hx 6).trans rfl; have fz0 := blk_frozen hx 0; have fz1 := blk_frozen hx 1; have fz2 := blk_frozen hx 2; have fz3 := blk_frozen hx 3; have fz4 := blk_frozen hx 4; have fz5 := blk_frozen hx 5; have fz6 := blk_frozen hx 6) | fail)
                have hxw : wr.heap.size ≤ x := by have := Ex.out; omega
                have hB2 := ((((((lx.setCell (p := ⟨x, 0, none⟩) hxw (.int .i64 0)).setCell (p := ⟨x, 1, none⟩) hxw (.int .u64 a1)).setCell (p := ⟨x, 2, none⟩) hxw (.int .u64 a2)).setCell (p := ⟨x, 3, none⟩) hxw (.int .u64 a3)).setCell (p := ⟨x, 4, none⟩) hxw (.int .u64 a4)).setCell (p := ⟨x, 5, none⟩) hxw (.int .i64 (S1.nx : Int))).setCell (p := ⟨x, 6, none⟩) hxw (.int .i64 (S1.ot : Int))
                have hx7 := set7 hx (.int .i64 0) (.int .u64 a1) (.int .u64 a2) (.int .u64 a3) (.int .u64 a4) (.int .i64 (S1.nx : Int)) (.int .i64 (S1.ot : Int))
                obtain ⟨w2, hw2⟩ : ∃ w2, World.setCell (World.setCell (World.setCell (World.setCell (World.setCell (World.setCell (World.setCell wx ⟨x, 0, none⟩ (.int .i64 0)) ⟨x, 1, none⟩ (.int .u64 a1)) ⟨x, 2, none⟩ (.int .u64 a2)) ⟨x, 3, none⟩ (.int .u64 a3)) ⟨x, 4, none⟩ (.int .u64 a4)) ⟨x, 5, none⟩ (.int .i64 (S1.nx : Int))) ⟨x, 6, none⟩ (.int .i64 (S1.ot : Int)) = w2 := ⟨_, rfl⟩
                rw [hw2] at hB2 hx7
                rw [hw2]
                have HM2 := Aside0.mk (HM.out.mkO hB2)
                have HX2 := Aside0.mk (HX.out.mkO hB2)
                have HR2 := Aside0.mk (HR.out.below hB2)
                have HK2 := Aside0.mk (HK.out.push (Mk.of hB2 : Mk g44 wr w2) HG4.out.2)
                have hxg : x ≠ g44 := by obtain ⟨cs, hc⟩ := HX.out.blk; have := blk_lt hc; omega
                clear hB2 hw2 z0' z1' z2' z3' z4' z5' z6' fz0 fz1 fz2 fz3 fz4 fz5 fz6 q0 q1 q2 q3 q4 q5 q6 y5 hx lx
                go_roundg k1
                case measure => have := HI2.out; omega
                case rel => exact ⟨i + 1, k2, sm, la, nx, rfl, rfl, by first | rfl | simp, ⟨by have := HI2.out; omega, by have := HI2.out; omega, by have := HI.out; omega, HST2.out, HI2.out.2.2.2.2.1, HI2.out.2.2.2.2.2⟩, HR2, HM2, HX2, HK2⟩
            · have hst2 := hst
              rw [if_neg (fun e => k0 e.1)] at hst2
              have HST2 := Aside0.mk hst2
              have e0 : (kz == 0) = false := beq_false_of_ne (fun e => k0 (by have := HKZ.out.1; omega))
              clear hst hst2 k0 k4
              go_wp2_with (first | (((with_reducible refine gate_dst (N := 13) rfl ?_); (try (refine gate_guard (by rfl) ?_; dsimp only)); refine box_event ?hg (N := 13) ?hd (cs := #[.int .i64 0, .int .u64 0, .int .u64 0, .int .u64 0, .int .u64 0, .int .i64 0, .int .i64 0]) (t := 100) ?hr ?_; (case hd => rfl); (case hg => rfl); (case hr => first | (go_simp; done) | (go_simp; rfl)); intro x ex wx hx lx; have Ex := Aside0.mk ex; clear ex); have z0' : wx.cell? ⟨x, 0, none⟩ = some (.int .i64 0) := (blk_cell hx 0).trans rfl; have z1' : wx.cell? ⟨x, 1, none⟩ = some (.int .u64 0) := (blk_cell hx 1).trans rfl; have z2' : wx.cell? ⟨x, 2, none⟩ = some (.int .u64 0) := (blk_cell hx 2).trans rfl; have z3' : wx.cell? ⟨x, 3, none⟩ = some (.int .u64 0) := (blk_cell hx 3).trans rfl; have z4' : wx.cell? ⟨x, 4, none⟩ = some (.int .u64 0) := (blk_cell hx 4).trans rfl; have z5' : wx.cell? ⟨x, 5, none⟩ = some (.int .i64 0) := (blk_cell hx 5).trans rfl; have z6' : wx.cell? ⟨x, 6, none⟩ = some (.int .i64 0) := (blk_cell hx 6).trans rfl; have fz0 := blk_frozen hx 0; have fz1 := blk_frozen hx 1; have fz2 := blk_frozen hx 2; have fz3 := blk_frozen hx 3; have fz4 := blk_frozen hx 4; have fz5 := blk_frozen hx 5; have fz6 := blk_frozen hx 6) | fail)
              have hxw : wr.heap.size ≤ x := by have := Ex.out; omega
              have hB2 := ((((((lx.setCell (p := ⟨x, 0, none⟩) hxw (.int .i64 kz)).setCell (p := ⟨x, 1, none⟩) hxw (.int .u64 a1)).setCell (p := ⟨x, 2, none⟩) hxw (.int .u64 a2)).setCell (p := ⟨x, 3, none⟩) hxw (.int .u64 a3)).setCell (p := ⟨x, 4, none⟩) hxw (.int .u64 a4)).setCell (p := ⟨x, 5, none⟩) hxw (.int .i64 (S1.nx : Int))).setCell (p := ⟨x, 6, none⟩) hxw (.int .i64 (S1.ot : Int))
              have hx7 := set7 hx (.int .i64 kz) (.int .u64 a1) (.int .u64 a2) (.int .u64 a3) (.int .u64 a4) (.int .i64 (S1.nx : Int)) (.int .i64 (S1.ot : Int))
              obtain ⟨w2, hw2⟩ : ∃ w2, World.setCell (World.setCell (World.setCell (World.setCell (World.setCell (World.setCell (World.setCell wx ⟨x, 0, none⟩ (.int .i64 kz)) ⟨x, 1, none⟩ (.int .u64 a1)) ⟨x, 2, none⟩ (.int .u64 a2)) ⟨x, 3, none⟩ (.int .u64 a3)) ⟨x, 4, none⟩ (.int .u64 a4)) ⟨x, 5, none⟩ (.int .i64 (S1.nx : Int))) ⟨x, 6, none⟩ (.int .i64 (S1.ot : Int)) = w2 := ⟨_, rfl⟩
              rw [hw2] at hB2 hx7
              rw [hw2]
              have HM2 := Aside0.mk (HM.out.mkO hB2)
              have HX2 := Aside0.mk (HX.out.mkO hB2)
              have HR2 := Aside0.mk (HR.out.below hB2)
              have HK2 := Aside0.mk (HK.out.push (Mk.of hB2 : Mk g44 wr w2) HG4.out.2)
              have hxg : x ≠ g44 := by obtain ⟨cs, hc⟩ := HX.out.blk; have := blk_lt hc; omega
              clear hB2 hw2 z0' z1' z2' z3' z4' z5' z6' fz0 fz1 fz2 fz3 fz4 fz5 fz6 q0 q1 q2 q3 q4 q5 q6 y5 hx lx
              go_roundg k1
              case measure => have := HI2.out; omega
              case rel => exact ⟨i + 1, k2, sm, la, nx, rfl, rfl, by first | rfl | simp, ⟨by have := HI2.out; omega, by have := HI2.out; omega, by have := HI.out; omega, HST2.out, HI2.out.2.2.2.2.1, HI2.out.2.2.2.2.2⟩, HR2, HM2, HX2, HK2⟩
      · have d0 : decide ((i : Int) < (st.length : Int)) = false := decide_eq_false (by omega)
        have hst := HI2.out.2.2.2.1
        rw [stepL_end s st a m k i nx sm la (by have := HI.out.2.2.2.2.1; omega)] at hst
        have hlo := HLO.out
        rw [← hst] at hlo
        dsimp only at hlo
        cases sm with
        | true =>
          rw [if_pos rfl] at hlo
          have HLO2 := Aside0.mk hlo
          have has := HI2.out.2.2.2.2.2 rfl
          have d7 : az + 1 < 9223372036854775808 := by have := HH.out; rw [← HAZ.out]; omega
          have d4 : (0 : Int) ≤ az := by rw [← HAZ.out]; exact Int.natCast_nonneg _
          have HAS := Aside0.mk has
          clear hst hlo has
          go_wp2_with (fail)
          go_roundg ko
          case measure => have := HI.out; omega
          case rel => exact ⟨l, a + 1, g44, c44, la, nx, by rw [← HAZ.out]; rfl, rfl, rfl, ⟨by have := HI.out; omega, by have := HI.out; omega, HAS.out, HLO2.out, HI2.out.2.2.2.2.1, HG4.out.2⟩, HR, HX, HK⟩
        | false =>
          rw [if_neg (by simp)] at hlo
          have HLO2 := Aside0.mk hlo
          clear hst hlo
          go_wp2_with (fail)
          go_ret
          exact ⟨by rw [HRR.out, ← HLO2.out]; rfl, HR.out, HK.out⟩
end Go.Proofs.Ytnjpdhekeffpnaa.Rx
