/- The law LoopAll, walked. -/
import Derived.Test.YtiedbnjoomcdbaaDoorTrO
import Derived.Test.YtiedbnjoomcdbaaDoorAlive
import Derived.Test.YtiedbnjoomcdbaaDoorRowLine
set_option linter.unusedVariables false
set_option linter.unusedSimpArgs false
namespace Go.Proofs.YtiedbnjoomcdbaaDoor.Tr
open Go.RowKit Go.Proofs.YtiedbnjoomcdbaaDoorW.PrintWords Go.Proofs.YtiedbnjoomcdbaaDoorW.PrintLast Go.Proofs.YtiedbnjoomcdbaaDoorW.PrintMore

theorem rd33 (l : List RL) (i : Nat) (h : i < l.length) : PT.rd_T33 l (i : Int) = l[i] := by
  unfold PT.rd_T33
  simp [List.getD_eq_getElem?_getD, h]
theorem same_ev (l : List RL) (hl : l.length ≤ 1000000) : ∀ (m i : Nat), l.length - i = m → i ≤ l.length → Ev fun n => PT.bobstayref11_Same.l0 n l l (i : Int) = some true
  | 0, i, hm, hi => ev_all fun n => by rw [PT.bobstayref11_Same.l0, if_neg (by omega)]
  | m + 1, i, hm, hi => ev_step (same_ev l hl m (i + 1) (by omega) (by omega)) fun n ih => by
    rw [PT.bobstayref11_Same.l0, if_pos (by omega), if_pos (by omega), if_pos (by omega), if_neg (by simp), v64 (by omega) (by omega)]
    exact ih
theorem same_f (l : List RL) (hl : l.length ≤ 1000000) : Ev fun n => PT.bobstayref11_Same.f n l l = some true :=
  ev_imp (same_ev l hl l.length 0 (by omega) (by omega)) fun n h => by unfold PT.bobstayref11_Same.f; rw [if_pos rfl]; exact h
/-- is a word one of the ten? -/
def kw (w : ByteArray) : Bool := isEnd w || (isIf w || decide (w = wFor))
def plainL (x : RL) : Bool := !kw (dirP (cv x)).1
theorem flt_take (l : List RL) (i : Nat) (z : RL) (h : i < l.length) : (l.take (i + 1)).filter plainL = (l.take i).filter plainL ++ if plainL (l.getD i z) = true then [l.getD i z] else [] := by
  rw [List.take_add_one, List.getElem?_eq_getElem h, List.filter_append, List.getD_eq_getElem?_getD, List.getElem?_eq_getElem h]
  simp [List.filter_cons]
def zR : RL := ⟨⟨#[]⟩, 0, false⟩
theorem kw_cases {w : ByteArray} (h : kw w = true) : w = wIf ∨ w = wIfdef ∨ w = wIfndef ∨ w = wIfmake ∨ w = wIfnmake ∨ w = wElif ∨ w = wElse ∨ w = wEndif ∨ w = wFor ∨ w = wEndfor := by
  unfold kw at h
  simp only [Bool.or_eq_true, decide_eq_true_eq] at h
  rcases h with h | h | h
  · rcases end_cases h with h | h | h | h <;> simp [h]
  · rcases if_cases h with h | h | h | h | h <;> simp [h]
  · simp [h]
theorem kw_not {w : ByteArray} (h : kw w = false) : (¬ w = wElif ∧ ¬ w = wElse ∧ ¬ w = wEndif ∧ ¬ w = wEndfor) ∧ (¬ w = wIf ∧ ¬ w = wIfdef ∧ ¬ w = wIfndef ∧ ¬ w = wIfmake ∧ ¬ w = wIfnmake) ∧ ¬ w = wFor := by
  unfold kw at h
  simp only [Bool.or_eq_false_iff, decide_eq_false_iff_not] at h
  exact ⟨end_not h.1, if_not h.2.1, h.2.2⟩
theorem plainW (w0 : World) : ∀ d, PlOk w0 d
  | 0 => plain0 w0
  | d + 1 => plainS w0 d (plainW w0 d)
theorem layW (w0 : World) : ∀ d, LyOk w0 d
  | 0 => lay0 w0
  | d + 1 => layS w0 d (layW w0 d)
set_option maxHeartbeats 16000000 in
set_option maxRecDepth 100000 in
theorem LoopAllWalk (W : World) (A : Option Addr) (cap : Nat) (l : List RL) (hr : Kd.C kL W A l.length l) (hc : l.length ≤ cap) (hn : l.length ≤ 1000000)
    (hlaw : l.length ≤ 400 → (∀ x ∈ l, x.f0.size ≤ 2000) → Ok (endS (l.map cv)) → Dep 33 (blkP (l.map cv) 32 ⟨0, 0, 0⟩).1 ∧ Small 33 (blkP (l.map cv) 32 ⟨0, 0, 0⟩).1 ∧ (plD 33 (blkP (l.map cv) 32 ⟨0, 0, 0⟩).1).map toR = l.filter plainL) :
    Calls Tryd.prog 5 #[.slice A l.length cap] W fun e W' => e = .returned (.bool true) ∧ Below W.heap.size W W' := by
  have hu33 := Tryd.underlying33
  have hu38 := Tryd.underlying38
  have HR := Aside0.mk hr
  have HC := Aside0.mk hc
  have HN := Aside0.mk hn
  have HLAW := Aside0.mk hlaw
  obtain ⟨b, ⟨kf, hkf⟩, hfb⟩ := far_f l hn
  obtain ⟨kt, hkt⟩ := theirs_f l hn
  have HF := Aside0.mk (hkf kf (Nat.le_refl _))
  have HT := Aside0.mk (hkt kt (Nat.le_refl _))
  have HFB := Aside0.mk hfb
  clear hr hc hn hlaw hkf hkt hfb
  go_enter Tryd.func5, Tryd.ntmps5
  go_wp2_with (fail)
  refine (PT.bobstaylaw12_far.calls kf A cap l b W HR.out HC.out HF.out).mono ?_
  rintro e w1 ⟨rfl, hd1⟩
  have HB1 := Aside0.mk (show Below W.heap.size W w1 from by first | exact hd1 | exact hd1.below)
  clear hd1
  cases b with
  | true =>
    go_wp2_with (fail)
    refine (aliveW _).mono ?_
    rintro e w2 ⟨rfl, hb2⟩
    go_wp2_with (fail)
    go_ret
    exact ⟨rfl, below_step HB1.out hb2⟩
  | false =>
    obtain ⟨hl4, hl2⟩ := HFB.out rfl
    have HLS := Aside0.mk (show LsOk (l.map cv) from ⟨by simpa using Nat.le_trans hl4 (by decide), fun x hx => by
      obtain ⟨y, hy, rfl⟩ := List.mem_map.1 hx
      exact Nat.le_trans (hl2 y hy) (by decide)⟩)
    have HL2 := Aside0.mk hl2
    have HL4 := Aside0.mk hl4
    clear hl2
    go_wp2_with (fail)
    refine (PT.bobstaylaw12_theirs.calls kt A cap l (l.map cv) w1 (Kd.C_below HR.out HB1.out) HC.out HT.out).mono ?_
    rintro e w2 ⟨v2, rfl, hR2, hb2⟩
    obtain ⟨A2, c2, e2, hl2', hC2⟩ := Kd.R_reads hR2
    subst e2
    have HB2 := Aside0.mk (below_step HB1.out hb2)
    have HC2 := Aside0.mk hC2
    clear hR2 hb2 hC2
    have KB := Aside0.mk (buildW w2 A2 c2 (l.map cv) HC2.out hl2' HLS.out)
    rw [List.length_map] at KB
    go_wp2_with (fail)
    refine KB.out.mono ?_
    rintro e w3 ⟨hb3, h3⟩
    have HB3 := Aside0.mk (below_step HB2.out hb3)
    rcases h3 with ⟨hok, v3, rfl, hR3⟩ | ⟨hno, rfl⟩
    · obtain ⟨hdep, hsm, hpl⟩ := HLAW.out HL4.out HL2.out hok
      obtain ⟨tr, htr⟩ : ∃ tr, (blkP (l.map cv) 32 ⟨0, 0, 0⟩).1 = tr := ⟨_, rfl⟩
      rw [htr] at hR3 hdep hsm hpl
      obtain ⟨A3, c3, e3, hl3, hC3⟩ := Kd.R_reads hR3
      obtain ⟨n3, hn3⟩ : ∃ k, tr.length = k := ⟨_, rfl⟩
      rw [hn3] at e3 hl3 hC3
      subst e3
      have HDP := Aside0.mk hdep
      have HSM := Aside0.mk hsm
      have HPL := Aside0.mk hpl
      have HN3 := Aside0.mk hn3
      have HC3 := Aside0.mk hC3
      have HL3 := Aside0.mk hl3
      clear hok hR3 hdep hsm hpl htr hn3 hC3 hl3 hb3 KB HLAW
      go_wp2_with (fail)
      have HB4 := Aside0.mk (below_alloc HB3.out (.cells #[.int .i64 0, .int .i64 0] 38))
      have HC4 := Aside0.mk (Kd.C_below HC3.out (below_alloc (Below.refl _ _) (.cells #[.int .i64 0, .int .i64 0] 38)))
      generalize w3.alloc (.cells #[.int .i64 0, .int .i64 0] 38) = W4 at *
      have HV0 := Aside0.mk (Kd.R_nil kL TLr W4 W4.heap.size (fun _ => True))
      go_loopw [5, 25] (fun v5 v25 wr => ∃ i : Int, v25 = .int .i64 i ∧ 0 ≤ i ∧ i ≤ l.length ∧ Aside0 (Below W4.heap.size W4 wr) ∧ Aside0 (Kd.R kL TLr wr W4.heap.size (fun _ => True) v5 ((l.take i.toNat).filter plainL))) (fun _ v25 _ => l.length - (intOf v25).toNat)
      case atStart => exact ⟨0, rfl, by omega, by omega, ⟨Below.refl _ _⟩, HV0⟩
      case round =>
        clear HV0
        obtain ⟨i, rfl, hi0, hi1, HZr, HRr⟩ := hrel
        have HBr := Aside0.mk (below_step HB4.out HZr.out)
        by_cases hlt : i < l.length
        · have d0 : decide (i < (l.length : Int)) = true := decide_eq_true hlt
          have HII := Aside0.mk (And.intro hi0 hlt)
          have hwi : wrap64 (i + 1) = i + 1 := by have := HN.out; unfold wrap64; omega
          obtain ⟨ad, e, x0, x1, x2⟩ := PT.at_T33 (Kd.C_below HR.out HBr.out) i hi0 hlt
          subst e
          have hrd : PT.rd_T33 l i = l.getD i.toNat zR := rfl
          rw [hrd] at x0 x1 x2
          clear hrd
          have HFT := Aside0.mk (flt_take l i.toNat zR (by omega))
          have HXM := Aside0.mk (HL2.out (l.getD i.toNat zR) (mem_getD l i.toNat zR (by omega)))
          generalize l.getD i.toNat zR = x at x0 x1 x2 HFT HXM
          obtain ⟨d1, d2, hd⟩ : ∃ d1 d2, dirP (cv x) = (d1, d2) := ⟨_, _, rfl⟩
          obtain ⟨kd, hkd⟩ := dirD (cv x) (Nat.le_trans HXM.out (by decide))
          rw [hd] at hkd
          have HKD := Aside0.mk (show PT.bobstayref12_Directive.f kd x.f0 x.f1 x.f2 = some (d1, d2) from hkd kd (Nat.le_refl _))
          have HPX := Aside0.mk (show plainL x = !kw d1 by unfold plainL; rw [hd])
          clear hd hkd
          obtain ⟨b7, hb7⟩ : ∃ b, wr.heap.size = b := ⟨_, rfl⟩
          have hbe := below_alloc (Below.refl wr.heap.size wr) (Obj.cells #[.string x.f0, .int .i64 x.f1, .bool x.f2] TLr)
          have hk7 := heap_alloc_new wr (Obj.cells #[.string x.f0, .int .i64 x.f1, .bool x.f2] TLr)
          rw [hb7] at hk7
          have HK7 := Aside0.mk hk7
          have HZ7 := Aside0.mk (below_step HZr.out hbe)
          have HR7 := Aside0.mk (Kd.R_below HRr.out hbe)
          clear hk7 hbe HZr HRr
          go_upto_region 10 with (fail)
          (try simp only [hb7])
          clear x0 x1 x2
          generalize wr.alloc (Obj.cells #[.string x.f0, .int .i64 x.f1, .bool x.f2] TLr) = W7 at *
          have y0 : W7.cell? ⟨b7, 0, none⟩ = some (.string x.f0) := (blk_cell HK7.out 0).trans rfl
          have y1 : W7.cell? ⟨b7, 1, none⟩ = some (.int .i64 x.f1) := (blk_cell HK7.out 1).trans rfl
          have y2 : W7.cell? ⟨b7, 2, none⟩ = some (.bool x.f2) := (blk_cell HK7.out 2).trans rfl
          go_wp2_with (fail)
          refine (PT.bobstayref12_Directive.calls kd x.f0 x.f1 x.f2 d1 d2 _ HKD.out).mono ?_
          rintro e w11 ⟨rfl, hd11⟩
          have hb11 : Below W7.heap.size W7 w11 := by first | exact hd11 | exact hd11.below
          have HK11 := Aside0.mk (blk_below HK7.out hb11)
          have HZ11 := Aside0.mk (below_step HZ7.out hb11)
          have HR11 := Aside0.mk (Kd.R_below HR7.out hb11)
          clear hd11 hb11 y0 y1 y2 HK7 HZ7 HR7
          have y0 : w11.cell? ⟨b7, 0, none⟩ = some (.string x.f0) := (blk_cell HK11.out 0).trans rfl
          have y1 : w11.cell? ⟨b7, 1, none⟩ = some (.int .i64 x.f1) := (blk_cell HK11.out 1).trans rfl
          have y2 : w11.cell? ⟨b7, 2, none⟩ = some (.bool x.f2) := (blk_cell HK11.out 2).trans rfl
          cases hk : kw d1 with
          | true =>
            have HP2 := Aside0.mk (show plainL x = false by rw [HPX.out, hk]; rfl)
            clear HPX HKD
            rcases kw_cases hk with rfl | rfl | rfl | rfl | rfl | rfl | rfl | rfl | rfl | rfl
            all_goals
              clear hk
              (first | unfold wIf | unfold wIfdef | unfold wIfndef | unfold wIfmake | unfold wIfnmake | unfold wElif | unfold wElse | unfold wEndif | unfold wFor | unfold wEndfor)
              go_wp2_with (fail)
              go_roundw
              case measure => (try rw [hwi]); exact msrN HII.out.1 HII.out.2
              case rel => exact ⟨i + 1, by go_num, (nxtN HII.out.1 HII.out.2).1, (nxtN HII.out.1 HII.out.2).2, HZ11, ⟨by rw [show (i + 1).toNat = i.toNat + 1 by have := HII.out.1; omega, HFT.out, if_neg (by rw [HP2.out]; decide), List.append_nil]; exact HR11.out⟩⟩
          | false =>
            have HP2 := Aside0.mk (show plainL x = true by rw [HPX.out, hk]; rfl)
            obtain ⟨⟨q1, q2, q3, q4⟩, ⟨q5, q6, q7, q8, q9⟩, q0⟩ := kw_not hk
            have s1a := neq_l (l := [101, 108, 105, 102]) q1; have s1b : ((d1).toList == ([101, 108, 105, 102] : List UInt8)) = false := (by simpa using s1a); have s1c : decide ((d1).toList = ([101, 108, 105, 102] : List UInt8)) = false := decide_eq_false s1a
            have s2a := neq_l (l := [101, 108, 115, 101]) q2; have s2b : ((d1).toList == ([101, 108, 115, 101] : List UInt8)) = false := (by simpa using s2a); have s2c : decide ((d1).toList = ([101, 108, 115, 101] : List UInt8)) = false := decide_eq_false s2a
            have s3a := neq_l (l := [101, 110, 100, 105, 102]) q3; have s3b : ((d1).toList == ([101, 110, 100, 105, 102] : List UInt8)) = false := (by simpa using s3a); have s3c : decide ((d1).toList = ([101, 110, 100, 105, 102] : List UInt8)) = false := decide_eq_false s3a
            have s4a := neq_l (l := [101, 110, 100, 102, 111, 114]) q4; have s4b : ((d1).toList == ([101, 110, 100, 102, 111, 114] : List UInt8)) = false := (by simpa using s4a); have s4c : decide ((d1).toList = ([101, 110, 100, 102, 111, 114] : List UInt8)) = false := decide_eq_false s4a
            have s5a := neq_l (l := [105, 102]) q5; have s5b : ((d1).toList == ([105, 102] : List UInt8)) = false := (by simpa using s5a); have s5c : decide ((d1).toList = ([105, 102] : List UInt8)) = false := decide_eq_false s5a
            have s6a := neq_l (l := [105, 102, 100, 101, 102]) q6; have s6b : ((d1).toList == ([105, 102, 100, 101, 102] : List UInt8)) = false := (by simpa using s6a); have s6c : decide ((d1).toList = ([105, 102, 100, 101, 102] : List UInt8)) = false := decide_eq_false s6a
            have s7a := neq_l (l := [105, 102, 110, 100, 101, 102]) q7; have s7b : ((d1).toList == ([105, 102, 110, 100, 101, 102] : List UInt8)) = false := (by simpa using s7a); have s7c : decide ((d1).toList = ([105, 102, 110, 100, 101, 102] : List UInt8)) = false := decide_eq_false s7a
            have s8a := neq_l (l := [105, 102, 109, 97, 107, 101]) q8; have s8b : ((d1).toList == ([105, 102, 109, 97, 107, 101] : List UInt8)) = false := (by simpa using s8a); have s8c : decide ((d1).toList = ([105, 102, 109, 97, 107, 101] : List UInt8)) = false := decide_eq_false s8a
            have s9a := neq_l (l := [105, 102, 110, 109, 97, 107, 101]) q9; have s9b : ((d1).toList == ([105, 102, 110, 109, 97, 107, 101] : List UInt8)) = false := (by simpa using s9a); have s9c : decide ((d1).toList = ([105, 102, 110, 109, 97, 107, 101] : List UInt8)) = false := decide_eq_false s9a
            have s0a := neq_l (l := [102, 111, 114]) q0; have s0b : ((d1).toList == ([102, 111, 114] : List UInt8)) = false := (by simpa using s0a); have s0c : decide ((d1).toList = ([102, 111, 114] : List UInt8)) = false := decide_eq_false s0a
            clear q1 q2 q3 q4 q5 q6 q7 q8 q9 q0 hk HPX HKD
            go_wp2_with ((with_reducible refine gate_builtin (b := .append) (xs := #[.tmp 35, .tmp 37]) rfl ?_); at_builtin; refine Kd.R_append kL (w0 := W4) W4.heap.size rfl (.tmp 35) (.tmp 37) 22 TLr (.agg #[.string ⟨#[]⟩, .int .i64 0, .bool false]) 32 rfl Tryd.underlying22 infoL rfl (by decide) (by decide) u5 ((l.take i.toNat).filter plainL) x [.string x.f0, .int .i64 x.f1, .bool x.f2] (fun _ => True) (fun _ => False) rfl rfl ?aP ?aF ?aN ?aO ?aB ?aS ?aL ?_)
            case aP => exact PT.k33_mkM _ _ _ x
            case aF => exact fun k hk => hk.elim
            case aN => exact fun _ _ => trivial
            case aO => exact HR11.out
            case aB => exact HZ11.out
            case aS => exact HZ11.out.size
            case aL => have h1 := List.length_filter_le plainL (l.take i.toNat); have h2 := HN.out; rw [List.length_take] at h1; omega
            intro v12 w12 hR12 hB12 hg12 hat12
            have HZ12 := Aside0.mk hB12
            have HR12 := Aside0.mk hR12
            clear hR12 hB12 hg12 hat12 y0 y1 y2
            go_wp2_with (fail)
            go_roundw
            case measure => (try rw [hwi]); exact msrN HII.out.1 HII.out.2
            case rel => exact ⟨i + 1, by go_num, (nxtN HII.out.1 HII.out.2).1, (nxtN HII.out.1 HII.out.2).2, HZ12, ⟨by rw [show (i + 1).toNat = i.toNat + 1 by have := HII.out.1; omega, HFT.out, if_pos HP2.out]; exact HR12.out⟩⟩
        · have d0 : decide (i < (l.length : Int)) = false := decide_eq_false hlt
          rw [show l.take i.toNat = l from List.take_of_length_le (by omega)] at HRr
          obtain ⟨Aw, cw, ew, hlw, hCw⟩ := Kd.R_reads HRr.out
          subst ew
          have HCw := Aside0.mk hCw
          have HLw := Aside0.mk hlw
          obtain ⟨L, hL⟩ : ∃ L, l.filter plainL = L := ⟨_, rfl⟩
          have HLL := Aside0.mk (show L.length ≤ 1000000 by rw [← hL]; exact Nat.le_trans (List.length_filter_le _ _) HN.out)
          rw [hL] at HPL HCw HLw ⊢
          clear hCw hlw hL HRr
          have hpn : (plD 33 tr).length ≤ 1000000 := by have h := congrArg List.length HPL.out; rw [List.length_map] at h; have := HLL.out; omega
          have HPN := Aside0.mk hpn
          clear hpn
          have KL := Aside0.mk (layW W4 33 tr 40 HDP.out (by omega) (by omega) HSM.out A3 c3 (by rw [HN3.out]; exact HC4.out) (by rw [HN3.out]; exact HL3.out) wr HZr.out)
          rw [HN3.out] at KL
          go_wp2_with (fail)
          refine KL.out.mono ?_
          rintro e w12 ⟨v12, rfl, hR12, hb12⟩
          obtain ⟨A12, c12, e12, hl12, hC12⟩ := Kd.R_reads hR12
          rw [HN3.out] at e12 hl12 hC12
          subst e12
          have HB12 := Aside0.mk (below_step HBr.out hb12)
          have KP := Aside0.mk (plainW W4 33 tr HDP.out HPN.out w12 A12 c12 (by rw [HN3.out]; exact hC12) (by rw [HN3.out]; exact hl12))
          rw [HN3.out, HPL.out] at KP
          have HCw2 := Aside0.mk (Kd.C_below HCw.out hb12)
          clear hR12 hb12 hC12 KL
          go_wp2_with (fail)
          refine KP.out.mono ?_
          rintro e w13 ⟨v13, rfl, hR13, hb13⟩
          obtain ⟨A13, c13, e13, hl13, hC13⟩ := Kd.R_reads hR13
          subst e13
          have HB13 := Aside0.mk (below_step HB12.out hb13)
          obtain ⟨ks, hks⟩ := same_f L HLL.out
          have KS := Aside0.mk (PT.bobstayref11_Same.calls ks A13 c13 L Aw cw L true w13 hC13 hl13 (Kd.C_below HCw2.out hb13) HLw.out (hks ks (Nat.le_refl _)))
          clear hR13 hb13 hC13 KP hks
          go_wp2_with (fail)
          refine KS.out.mono ?_
          rintro e w14 ⟨rfl, hd14⟩
          have HB14 := Aside0.mk (below_step HB13.out (show Below w13.heap.size w13 w14 from by first | exact hd14 | exact hd14.below))
          clear hd14 KS
          go_wp2_with (fail)
          refine (aliveW _).mono ?_
          rintro e w15 ⟨rfl, hb15⟩
          go_wp2_with (fail)
          go_ret
          exact ⟨rfl, below_step HB14.out hb15⟩
    · clear hb3 KB HLAW
      rcases bad_or hno with d1 | ⟨d2, d1⟩
      · clear hno
        go_wp2_with (fail)
        refine (aliveW _).mono ?_
        rintro e w4 ⟨rfl, hb4⟩
        go_wp2_with (fail)
        go_ret
        exact ⟨rfl, below_step (below_alloc HB3.out _) hb4⟩
      · clear hno
        rw [d2]
        go_wp2_with (fail)
        refine (aliveW _).mono ?_
        rintro e w4 ⟨rfl, hb4⟩
        go_wp2_with (fail)
        go_ret
        exact ⟨rfl, below_step (below_alloc HB3.out _) hb4⟩
end Go.Proofs.YtiedbnjoomcdbaaDoor.Tr
set_option linter.unusedVariables false
set_option linter.unusedSimpArgs false
namespace Go.Proofs.YtiedbnjoomcdbaaDoor.Tr
open Go.RowKit

def pg (x : GL) : Bool := !kw (dirP x).1
def seg (ls : List GL) (i j : Nat) : List GL := ((ls.take j).drop i).filter pg
theorem seg_self (ls : List GL) (i : Nat) : seg ls i i = [] := by
  unfold seg
  rw [List.drop_eq_nil_of_le (by simp; omega)]
  rfl
theorem seg_next (ls : List GL) {i j : Nat} (hi : i ≤ j) (h : j < ls.length) : seg ls i (j + 1) = seg ls i j ++ if pg (ls.getD j z0) = true then [ls.getD j z0] else [] := by
  unfold seg
  rw [List.take_add_one, List.getElem?_eq_getElem h, List.drop_append_of_le_length (by simp; omega), List.filter_append, List.getD_eq_getElem?_getD, List.getElem?_eq_getElem h]
  simp [List.filter_cons]
theorem seg_app (ls : List GL) {i j k : Nat} (hij : i ≤ j) (hjk : j ≤ k) (h : k ≤ ls.length) : seg ls i k = seg ls i j ++ seg ls j k := by
  unfold seg
  rw [← List.filter_append]
  congr 1
  have e : ls.take k = ls.take j ++ (ls.take k).drop j := by
    have h2 := List.take_append_drop j (ls.take k)
    rw [List.take_take, Nat.min_eq_left hjk] at h2
    exact h2.symm
  conv => lhs; rw [e]
  rw [List.drop_append_of_le_length (by simp; omega)]
theorem kw_end {w : ByteArray} (h : isEnd w = true) : kw w = true := by unfold kw; rw [h]; rfl
theorem kw_open {w : ByteArray} (h : isIf w = true ∨ w = wFor) : kw w = true := by
  unfold kw
  rcases h with h | h
  · rw [h]; simp
  · rw [decide_eq_true h]; simp
theorem seg_kw (ls : List GL) {i j : Nat} (hi : i ≤ j) (h : j < ls.length) (hk : kw (dirP (ls.getD j z0)).1 = true) : seg ls i (j + 1) = seg ls i j := by
  rw [seg_next ls hi h, if_neg (by unfold pg; rw [hk]; decide), List.append_nil]
/-- what a reader of blocks makes -/
structure BL (ls : List GL) (d : Nat) (bl : St → List Nd × St) : Prop where
  dep : ∀ s, s.i ≤ ls.length → Dep d (bl s).1
  sml : ∀ s, s.i ≤ ls.length → Small d (bl s).1
  sg : ∀ s, s.i ≤ ls.length → Ok (bl s).2 → plD d (bl s).1 = seg ls s.i (bl s).2.i
  stop : ∀ s, s.i ≤ ls.length → Ok (bl s).2 → (bl s).2.i < ls.length → kw (dirP (ls.getD (bl s).2.i z0)).1 = true
  fwd : Fwd ls bl
  ok : ∀ s, Ok (bl s).2 → Ok s
/-- what a reader of one block makes -/
structure EL (ls : List GL) (d : Nat) (rd : GL → ByteArray × ByteArray → St → Nd × St) : Prop where
  dep : ∀ l dd s, s.i ≤ ls.length → (∀ b ∈ brsN (rd l dd s).1, Dep d (kidsB b)) ∧ Dep d (kidsN (rd l dd s).1)
  sml : ∀ l dd s, s.i ≤ ls.length → (brsN (rd l dd s).1).length ≤ 1000000 ∧ (∀ b ∈ brsN (rd l dd s).1, Small d (kidsB b)) ∧ Small d (kidsN (rd l dd s).1)
  sg : ∀ l dd s, s.i ≤ ls.length → Ok (rd l dd s).2 → oneP d (rd l dd s).1 = seg ls s.i (rd l dd s).2.i
  fwd : ∀ l dd s, s.i ≤ ls.length → s.i ≤ (rd l dd s).2.i ∧ (rd l dd s).2.i ≤ ls.length
theorem wr_ok {e a : Int} {s : St} (he : e ≠ 0) : ¬ Ok (wr e a s) := by
  unfold wr
  split
  · intro h; exact he h.1
  · rename_i h; exact h
theorem dep_nil : ∀ d, Dep d []
  | 0 => rfl
  | d + 1 => fun x h => by cases h
theorem sml_nil : ∀ d, Small d []
  | 0 => trivial
  | d + 1 => ⟨by simp, fun x h => by cases h⟩
theorem plD_nil : ∀ d, plD d [] = []
  | 0 => rfl
  | d + 1 => rfl
section
variable {ls : List GL} (hls : ls.length ≤ 100000)
theorem blkL_ok (top : Bool) (cnd lop : GL → ByteArray × ByteArray → St → Nd × St) : ∀ n s out, Ok (blkL ls top cnd lop n s out).2 → Ok s
  | 0, s, out, h => by rw [blkL] at h; exact h
  | n + 1, s, out, h => by
    by_cases hk : Ok s
    · exact hk
    · rw [blkL, if_neg (fun h2 => hk h2.1)] at h
      exact absurd h hk
theorem blkL_law (d : Nat) (top : Bool) (cnd lop : GL → ByteArray × ByteArray → St → Nd × St) (hc : top = false → EL ls d cnd) (hl : top = false → EL ls d lop) :
    ∀ n s out, s.i ≤ ls.length → ls.length < s.i + n → out.length ≤ s.i → (∀ x ∈ out, ((∀ b ∈ brsN x, Dep d (kidsB b)) ∧ Dep d (kidsN x)) ∧ (brsN x).length ≤ 1000000 ∧ (∀ b ∈ brsN x, Small d (kidsB b)) ∧ Small d (kidsN x)) →
      (∀ x ∈ (blkL ls top cnd lop n s out).1, ((∀ b ∈ brsN x, Dep d (kidsB b)) ∧ Dep d (kidsN x)) ∧ (brsN x).length ≤ 1000000 ∧ (∀ b ∈ brsN x, Small d (kidsB b)) ∧ Small d (kidsN x)) ∧ (blkL ls top cnd lop n s out).1.length ≤ ls.length ∧
      (s.i ≤ (blkL ls top cnd lop n s out).2.i ∧ (blkL ls top cnd lop n s out).2.i ≤ ls.length) ∧
      (Ok (blkL ls top cnd lop n s out).2 → (∀ i0, i0 ≤ s.i → out.flatMap (oneP d) = seg ls i0 s.i → (blkL ls top cnd lop n s out).1.flatMap (oneP d) = seg ls i0 (blkL ls top cnd lop n s out).2.i) ∧
        ((blkL ls top cnd lop n s out).2.i < ls.length → kw (dirP (ls.getD (blkL ls top cnd lop n s out).2.i z0)).1 = true))
  | 0, s, out, h, hn, ho, hx => by omega
  | n + 1, s, out, h, hn, ho, hx => by
    rw [blkL]
    by_cases hk : Ok s ∧ s.i < ls.length
    · rw [if_pos hk]
      by_cases hE : isEnd (dirP (ls.getD s.i z0)).1 = true
      · rw [if_pos hE]
        exact ⟨hx, by simp only; omega, ⟨Nat.le_refl _, h⟩, fun _ => ⟨fun i0 _ he => he, fun _ => kw_end hE⟩⟩
      · rw [if_neg hE]
        by_cases hO : isIf (dirP (ls.getD s.i z0)).1 = true ∨ (dirP (ls.getD s.i z0)).1 = wFor
        · rw [if_pos hO]
          cases top with
          | true =>
            rw [if_pos rfl]
            exact ⟨hx, by simp only; omega, by simp only [wr_i]; exact ⟨Nat.le_refl _, h⟩, fun hok => absurd hok (wr_ok (by decide))⟩
          | false =>
            rw [if_neg (by decide)]
            have key : ∀ rd, EL ls d rd → ∀ r, rd (ls.getD s.i z0) (dirP (ls.getD s.i z0)) ⟨s.i + 1, s.e, s.a⟩ = r → (
                (∀ x ∈ (blkL ls false cnd lop n r.2 (out ++ [r.1])).1, ((∀ b ∈ brsN x, Dep d (kidsB b)) ∧ Dep d (kidsN x)) ∧ (brsN x).length ≤ 1000000 ∧ (∀ b ∈ brsN x, Small d (kidsB b)) ∧ Small d (kidsN x)) ∧ (blkL ls false cnd lop n r.2 (out ++ [r.1])).1.length ≤ ls.length ∧
                (s.i ≤ (blkL ls false cnd lop n r.2 (out ++ [r.1])).2.i ∧ (blkL ls false cnd lop n r.2 (out ++ [r.1])).2.i ≤ ls.length) ∧
                (Ok (blkL ls false cnd lop n r.2 (out ++ [r.1])).2 → (∀ i0, i0 ≤ s.i → out.flatMap (oneP d) = seg ls i0 s.i → (blkL ls false cnd lop n r.2 (out ++ [r.1])).1.flatMap (oneP d) = seg ls i0 (blkL ls false cnd lop n r.2 (out ++ [r.1])).2.i) ∧
                  ((blkL ls false cnd lop n r.2 (out ++ [r.1])).2.i < ls.length → kw (dirP (ls.getD (blkL ls false cnd lop n r.2 (out ++ [r.1])).2.i z0)).1 = true))) := by
              intro rd he r hr
              have h1 : (⟨s.i + 1, s.e, s.a⟩ : St).i ≤ ls.length := hk.2
              have hf := he.fwd (ls.getD s.i z0) (dirP (ls.getD s.i z0)) _ h1
              have hd := he.dep (ls.getD s.i z0) (dirP (ls.getD s.i z0)) _ h1
              have hs := he.sml (ls.getD s.i z0) (dirP (ls.getD s.i z0)) _ h1
              have hg := he.sg (ls.getD s.i z0) (dirP (ls.getD s.i z0)) _ h1
              rw [hr] at hf hd hs hg
              simp only at hf hg
              obtain ⟨g1, g2, g3, g4⟩ := blkL_law d false cnd lop hc hl n r.2 (out ++ [r.1]) hf.2 (by omega) (by simp; omega) (fun x hx2 => by
                rcases List.mem_append.1 hx2 with hx2 | hx2
                · exact hx x hx2
                · rw [List.mem_singleton.1 hx2]; exact ⟨hd, hs⟩)
              refine ⟨g1, g2, ⟨by omega, g3.2⟩, fun hok => ⟨fun i0 hi0 hs0 => ?_, (g4 hok).2⟩⟩
              have hokr := blkL_ok false cnd lop n _ _ hok
              refine (g4 hok).1 i0 (by omega) ?_
              rw [List.flatMap_append, hs0]
              simp only [List.flatMap_cons, List.flatMap_nil, List.append_nil]
              rw [hg hokr, seg_app ls (show i0 ≤ s.i + 1 by omega) hf.1 hf.2, seg_kw ls hi0 hk.2 (kw_open hO)]
            by_cases hI : isIf (dirP (ls.getD s.i z0)).1 = true
            · rw [if_pos hI]
              exact key cnd (hc rfl) _ rfl
            · rw [if_neg hI]
              exact key lop (hl rfl) _ rfl
        · rw [if_neg hO]
          have hp : pg (ls.getD s.i z0) = true := by
            unfold pg kw
            have h1 : isEnd (dirP (ls.getD s.i z0)).1 = false := by simpa using hE
            have h2 : isIf (dirP (ls.getD s.i z0)).1 = false := by simpa using fun h => hO (.inl h)
            rw [h1, h2, decide_eq_false (fun h => hO (.inr h))]
            rfl
          obtain ⟨g1, g2, g3, g4⟩ := blkL_law d top cnd lop hc hl n ⟨s.i + 1, s.e, s.a⟩ (out ++ [plainN (ls.getD s.i z0)]) hk.2 (by simp only; omega) (by simp; omega) (fun x hx2 => by
            rcases List.mem_append.1 hx2 with hx2 | hx2
            · exact hx x hx2
            · rw [List.mem_singleton.1 hx2]
              exact ⟨⟨fun b hb => (by cases hb), dep_nil d⟩, (by simp [brsN, plainN, ndF]), fun b hb => (by cases hb), sml_nil d⟩)
          refine ⟨g1, g2, ⟨by have := g3.1; simp only at this; omega, g3.2⟩, fun hok => ⟨fun i0 hi0 hs0 => ?_, (g4 hok).2⟩⟩
          refine (g4 hok).1 i0 (by simp only; omega) ?_
          rw [List.flatMap_append, hs0]
          simp only [List.flatMap_cons, List.flatMap_nil, List.append_nil]
          rw [seg_next ls hi0 hk.2, if_pos hp]
          congr 1
          unfold oneP
          have e1 : kidsN (plainN (ls.getD s.i z0)) = [] := rfl
          have e2 : brsN (plainN (ls.getD s.i z0)) = [] := rfl
          rw [e1, e2, plD_nil, if_pos (show kdN (plainN (ls.getD s.i z0)) = 1 from rfl)]
          rfl
    · rw [if_neg hk]
      refine ⟨hx, by simp only; omega, ⟨Nat.le_refl _, h⟩, fun hok => ⟨fun i0 _ he => he, fun hlt => absurd ⟨hok, hlt⟩ hk⟩⟩
theorem clo_yes {l0 : GL} {s : St} (h : s.i ≤ ls.length) (hk : (cloP ls l0 s).ok = true) : s.i < ls.length ∧ Ok s := by
  unfold cloP at hk
  by_cases he : Ok (cloE ls l0 s)
  · exact cloE_ok ls he h
  · rw [if_neg he] at hk; cases hk
theorem clo_no {l0 : GL} {s : St} (hk : (cloP ls l0 s).ok = false) : ¬ Ok (cloP ls l0 s).s := by
  unfold cloP at hk ⊢
  by_cases he : Ok (cloE ls l0 s)
  · rw [if_pos he] at hk; cases hk
  · rw [if_neg he]; exact he
theorem clo_of {l0 : GL} {s : St} (h : s.i ≤ ls.length) (hk : Ok (cloP ls l0 s).s) : (cloP ls l0 s).ok = true := by
  cases ho : (cloP ls l0 s).ok with
  | true => rfl
  | false => exact absurd hk (clo_no ho)
theorem cndL_law (hls : ls.length ≤ 100000) (d : Nat) {bl : St → List Nd × St} (hb : BL ls d bl) (l0 : GL) :
    ∀ n w t a out s, s.i ≤ ls.length → ls.length < s.i + n → out.length ≤ s.i → (∀ b ∈ out, Dep d (kidsB b) ∧ Small d (kidsB b)) →
      (∀ b ∈ (cndL ls bl l0 n w t a out s).1, Dep d (kidsB b) ∧ Small d (kidsB b)) ∧ (cndL ls bl l0 n w t a out s).1.length ≤ ls.length + 1 ∧
      (Ok (cndL ls bl l0 n w t a out s).2 → Ok s ∧ ∀ i0, i0 ≤ s.i → (out.flatMap fun b => plD d (kidsB b)) = seg ls i0 s.i → ((cndL ls bl l0 n w t a out s).1.flatMap fun b => plD d (kidsB b)) = seg ls i0 (cndL ls bl l0 n w t a out s).2.i)
  | 0, w, t, a, out, s, h, hn, ho, hx => by omega
  | n + 1, w, t, a, out, s, h, hn, ho, hx => by
    have k1 := hb.dep s h
    have k2 := hb.sml s h
    have k3 := hb.sg s h
    have k4 := hb.stop s h
    have k5 := hb.fwd s h
    have k6 := hb.ok s
    rw [cndL]
    obtain ⟨X, hX⟩ : ∃ X, bl s = X := ⟨_, rfl⟩
    rw [hX] at k1 k2 k3 k4 k5 k6 ⊢
    obtain ⟨kids, s1⟩ := X
    simp only at k1 k2 k3 k4 k5 k6 ⊢
    have c1 := clo_i ls (l0 := l0) k5.2
    have hx' : ∀ b ∈ out ++ [Br.mk w t a kids], Dep d (kidsB b) ∧ Small d (kidsB b) := fun b hb2 => by
      rcases List.mem_append.1 hb2 with hb2 | hb2
      · exact hx b hb2
      · rw [List.mem_singleton.1 hb2]; exact ⟨k1, k2⟩
    have main : Ok (cloP ls l0 s1).s → Ok s ∧ ∀ i0, i0 ≤ s.i → (out.flatMap fun b => plD d (kidsB b)) = seg ls i0 s.i → ((out ++ [Br.mk w t a kids]).flatMap fun b => plD d (kidsB b)) = seg ls i0 (cloP ls l0 s1).s.i := fun hok => by
      have ho1 := clo_of k5.2 hok
      obtain ⟨hlt, hok1⟩ := clo_yes k5.2 ho1
      refine ⟨k6 hok1, fun i0 hi0 hs0 => ?_⟩
      rw [List.flatMap_append, hs0, c1.2.2 ho1]
      simp only [List.flatMap_cons, List.flatMap_nil, List.append_nil]
      rw [show kidsB (Br.mk w t a kids) = kids from rfl, k3 hok1, ← seg_app ls hi0 k5.1 k5.2, seg_kw ls (by omega) hlt (k4 hok1 hlt)]
    by_cases q1 : (cloP ls l0 s1).ok = false ∨ (cloP ls l0 s1).w = wEndif
    · rw [if_pos q1]
      exact ⟨hx', by simp; omega, main⟩
    · rw [if_neg q1]
      by_cases q2 : (cloP ls l0 s1).w = wEndfor ∨ w = wElse
      · rw [if_pos q2]
        exact ⟨hx', by simp; omega, fun hok => absurd hok (wr_ok (by decide))⟩
      · rw [if_neg q2]
        have ho1 : (cloP ls l0 s1).ok = true := by
          cases h2 : (cloP ls l0 s1).ok with
          | true => rfl
          | false => exact absurd (.inl h2) q1
        have hi1 := c1.2.2 ho1
        obtain ⟨g1, g2, g3⟩ := cndL_law hls d hb l0 n (cloP ls l0 s1).w (cloP ls l0 s1).t (cloP ls l0 s1).l.f1 (out ++ [Br.mk w t a kids]) (cloP ls l0 s1).s c1.2.1 (by omega) (by simp; omega) hx'
        refine ⟨g1, g2, fun hok => ?_⟩
        obtain ⟨g4, g5⟩ := g3 hok
        obtain ⟨m1, m2⟩ := main g4
        exact ⟨m1, fun i0 hi0 hs0 => g5 i0 (by omega) (m2 i0 hi0 hs0)⟩
theorem cnd_EL (hls : ls.length ≤ 100000) (d : Nat) {bl : St → List Nd × St} (hb : BL ls d bl) : EL ls d (cndP ls bl) := by
  have key := fun l (dd : ByteArray × ByteArray) (s : St) (h : s.i ≤ ls.length) => cndL_law hls d hb l (ls.length + 2) dd.1 dd.2 l.f1 [] s h (by omega) (by simp) (fun b hb => by cases hb)
  refine ⟨fun l dd s h => ?_, fun l dd s h => ?_, fun l dd s h hok => ?_, fun l dd s h => cndP_i ls hb.fwd l dd s h⟩
  · exact ⟨fun b hb2 => ((key l dd s h).1 b hb2).1, dep_nil d⟩
  · exact ⟨Nat.le_trans (key l dd s h).2.1 (by omega), fun b hb2 => ((key l dd s h).1 b hb2).2, sml_nil d⟩
  · have h2 := ((key l dd s h).2.2 hok).2 s.i (Nat.le_refl _) (by rw [seg_self]; rfl)
    unfold oneP
    rw [show kidsN (cndP ls bl l dd s).1 = [] from rfl, plD_nil, List.append_nil, if_neg (show ¬ kdN (cndP ls bl l dd s).1 = 1 by show ¬ (2 : Int) = 1; decide), List.nil_append]
    exact h2
theorem lop_EL (hls : ls.length ≤ 100000) (d : Nat) {bl : St → List Nd × St} (hb : BL ls d bl) : EL ls d (lopP ls bl) := by
  refine ⟨fun l dd s h => ?_, fun l dd s h => ?_, fun l dd s h hok => ?_, fun l dd s h => lopP_i ls hb.fwd l dd s h⟩
  · unfold lopP
    split
    · exact ⟨fun b hb2 => (by cases hb2), hb.dep s h⟩
    · exact ⟨fun b hb2 => (by cases hb2), dep_nil d⟩
  · unfold lopP
    split
    · exact ⟨(by simp [brsN, ndF]), fun b hb2 => (by cases hb2), hb.sml s h⟩
    · exact ⟨(by simp [brsN, ndF]), fun b hb2 => (by cases hb2), sml_nil d⟩
  · have k3 := hb.sg s h
    have k4 := hb.stop s h
    have k5 := hb.fwd s h
    unfold lopP at hok ⊢
    by_cases hf : (forP dd.2).2.2 = true
    · rw [if_pos hf] at hok ⊢
      obtain ⟨X, hX⟩ : ∃ X, bl s = X := ⟨_, rfl⟩
      rw [hX] at k3 k4 k5 hok ⊢
      obtain ⟨kids, s1⟩ := X
      simp only at k3 k4 k5 hok ⊢
      by_cases q : (cloP ls l s1).ok = true ∧ (cloP ls l s1).w ≠ wEndfor
      · rw [if_pos q] at hok
        exact absurd hok (wr_ok (by decide))
      · rw [if_neg q] at hok ⊢
        have ho1 := clo_of k5.2 hok
        obtain ⟨hlt, hok1⟩ := clo_yes k5.2 ho1
        rw [(clo_i ls (l0 := l) k5.2).2.2 ho1, seg_kw ls k5.1 hlt (k4 hok1 hlt), ← k3 hok1]
        unfold oneP
        rw [if_neg (show ¬ kdN (Nd.mk 3 l [] (forP dd.2).1 (forP dd.2).2.1 kids) = 1 by show ¬ (3 : Int) = 1; decide)]
        rfl
    · rw [if_neg hf] at hok
      exact absurd hok (wr_ok (by decide))
theorem BL_of (hls : ls.length ≤ 100000) (d : Nat) (top : Bool) (cnd lop : GL → ByteArray × ByteArray → St → Nd × St) (hc : top = false → EL ls d cnd) (hl : top = false → EL ls d lop) : BL ls (d + 1) (fun s => blkL ls top cnd lop (ls.length + 1) s []) := by
  have key := fun (s : St) (h : s.i ≤ ls.length) => blkL_law (ls := ls) d top cnd lop hc hl (ls.length + 1) s [] h (by omega) (by simp) (fun x hx => by cases hx)
  refine ⟨fun s h x hx => ((key s h).1 x hx).1, fun s h => ⟨Nat.le_trans (key s h).2.1 (by omega), fun x hx => ((key s h).1 x hx).2⟩, fun s h hok => ?_, fun s h hok hlt => ((key s h).2.2.2 hok).2 hlt, fun s h => (key s h).2.2.1, fun s hok => blkL_ok top cnd lop _ s _ hok⟩
  exact ((key s h).2.2.2 hok).1 s.i (Nat.le_refl _) (by rw [seg_self]; rfl)
theorem blkP_BL (hls : ls.length ≤ 100000) : ∀ d, BL ls (d + 1) (blkP ls d)
  | 0 => by
    rw [blkP]
    exact BL_of hls 0 true _ _ (fun h => by cases h) (fun h => by cases h)
  | d + 1 => by
    rw [blkP]
    exact BL_of hls (d + 1) false _ _ (fun _ => cnd_EL hls (d + 1) (blkP_BL hls d)) (fun _ => lop_EL hls (d + 1) (blkP_BL hls d))
end
theorem all_law (l : List RL) (hl : l.length ≤ 400) (hok : Ok (endS (l.map cv))) :
    Dep 33 (blkP (l.map cv) 32 ⟨0, 0, 0⟩).1 ∧ Small 33 (blkP (l.map cv) 32 ⟨0, 0, 0⟩).1 ∧ (plD 33 (blkP (l.map cv) 32 ⟨0, 0, 0⟩).1).map toR = l.filter plainL := by
  have hb := blkP_BL (ls := l.map cv) (by simp; omega) 32
  have h0 : (⟨0, 0, 0⟩ : St).i ≤ (l.map cv).length := Nat.zero_le _
  have hf := hb.fwd ⟨0, 0, 0⟩ h0
  unfold endS at hok
  by_cases hlt : (blkP (l.map cv) 32 ⟨0, 0, 0⟩).2.i < (l.map cv).length
  · rw [if_pos hlt] at hok
    exact absurd hok (wr_ok (by decide))
  · rw [if_neg hlt] at hok
    refine ⟨hb.dep _ h0, hb.sml _ h0, ?_⟩
    rw [hb.sg _ h0 hok, show (blkP (l.map cv) 32 ⟨0, 0, 0⟩).2.i = (l.map cv).length by omega]
    unfold seg
    rw [List.take_length]
    simp only [List.drop_zero]
    rw [List.filter_map, List.map_map]
    have e1 : (toR ∘ cv) = id := by funext x; rfl
    have e2 : (pg ∘ cv) = plainL := by funext x; rfl
    rw [e1, e2, List.map_id]
theorem LoopAllRow (W : World) (A : Option Addr) (cap : Nat) (l : List RL) (hr : Go.Proofs.YtiedbnjoomcdbaaDoorW.PrintWords.Kd.C kL W A l.length l) (hc : l.length ≤ cap) (hn : l.length ≤ 1000000) :
    Calls Tryd.prog 5 #[.slice A l.length cap] W fun e W' => e = .returned (.bool true) ∧ Below W.heap.size W W' :=
  LoopAllWalk W A cap l hr hc hn (fun h _ hok => all_law l h hok)
end Go.Proofs.YtiedbnjoomcdbaaDoor.Tr
set_option linter.unusedVariables false
set_option linter.unusedSimpArgs false
namespace Go.Proofs.YtiedbnjoomcdbaaDoor.Tr
open Go.RowKit Go.Proofs.YtiedbnjoomcdbaaDoor.Ba Go.Proofs.YtiedbnjoomcdbaaDoorW.PrintWords

def mkR (x : ByteArray × Int × Bool) : RL := ⟨x.1, x.2.1, x.2.2⟩
theorem rowR {W : World} {A : Option Addr} {cap : Nat} {ls : List (ByteArray × Int × Bool)} (h : LineRow W A cap ls) : Kd.C kL W A (ls.map mkR).length (ls.map mkR) := by
  obtain ⟨h1, h2, h3⟩ := h
  refine ⟨rfl, by rw [List.length_map]; exact h2, fun hn => ?_⟩
  rw [List.length_map] at hn
  obtain ⟨ad, rfl, hc⟩ := h3 hn
  refine ⟨ad, rfl, fun j p hp => ?_⟩
  rw [List.getElem?_map, Option.map_eq_some_iff] at hp
  obtain ⟨x, hx, rfl⟩ := hp
  obtain ⟨q0, q1, q2⟩ := hc j x hx
  refine ⟨_, rfl, PT.k33_mk W (mkR x), fun i u hu => ?_⟩
  match i, hu with
  | 0, hu => simp at hu; subst hu; exact q0
  | 1, hu => simp at hu; subst hu; exact q1
  | 2, hu => simp at hu; subst hu; exact q2
theorem tot_len : ∀ ls : List (ByteArray × Int × Bool), 4 * ls.length ≤ totL ls
  | [] => by simp
  | x :: ls => by
    have ih := tot_len ls
    rw [show totL (x :: ls) = x.1.size + 4 + totL ls by simp [totL], List.length_cons]
    omega
theorem LoopAllLine (W : World) (A : Option Addr) (cap : Nat) (ls : List (ByteArray × Int × Bool)) (hr : LineRow W A cap ls) (hl : totL ls ≤ 1048576) :
    Calls Tryd.prog 5 #[.slice A ls.length cap] W fun e W' => e = .returned (.bool true) ∧ Below W.heap.size W W' := by
  have t1 := tot_len ls
  have len1 : (ls.map mkR).length = ls.length := List.length_map _
  have := LoopAllRow W A cap (ls.map mkR) (rowR hr) (by rw [len1]; exact hr.1) (by rw [len1]; generalize totL ls = X at *; omega)
  rw [len1] at this
  exact this
end Go.Proofs.YtiedbnjoomcdbaaDoor.Tr
