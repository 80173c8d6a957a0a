/- What is done in one scope turns no other one: the law walked. -/
import Derived.Test.YtpgfffibiogekaaVarH
import Derived.Test.YtpgfffibiogekaaVarL
set_option linter.unusedVariables false
set_option linter.unusedSimpArgs false
namespace Go.Proofs.Ytpgfffibiogekaa.MS
open Go.RowKit Go.Proofs.YtpgfffibiogekaaW.PrintWords Go.Proofs.YtpgfffibiogekaaW.PrintLast Go.Proofs.YtpgfffibiogekaaW.PrintMore

theorem putD_other (D : Nat → DataW Unit) (z : Int) (s v : ByteArray) (i : Nat) (h : (i : Int) ≠ z) : putD D z s v i = D i := by
  unfold putD
  split
  · rename_i hE
    have hz : isSc z = true := by
      cases hz : isSc z with
      | true => rfl
      | false => unfold putE at hE; rw [hz] at hE; simp at hE
    obtain ⟨n, rfl, -, -⟩ := isSc_nat hz
    show (if i = (n : Int).toNat then _ else _) = _
    rw [Int.toNat_natCast, if_neg (by omega)]
  · rfl
theorem dropD_other (D : Nat → DataW Unit) (z : Int) (s : ByteArray) (i : Nat) (h : (i : Int) ≠ z) : dropD D z s i = D i := by
  unfold dropD
  split
  · rename_i hE
    have hz : isSc z = true := by
      cases hz : isSc z with
      | true => rfl
      | false => unfold dropE at hE; rw [hz] at hE; simp at hE
    obtain ⟨n, rfl, -, -⟩ := isSc_nat hz
    show (if i = (n : Int).toNat then _ else _) = _
    rw [Int.toNat_natCast, if_neg (by omega)]
  · rfl
theorem clearD_other (D : Nat → DataW Unit) (z : Int) (i : Nat) (h : (i : Int) ≠ z) : clearD D z i = D i := by
  unfold clearD
  split
  · rename_i hz
    obtain ⟨n, rfl, -, -⟩ := isSc_nat hz
    show (if i = (n : Int).toNat then _ else _) = _
    rw [Int.toNat_natCast, if_neg (by omega)]
  · rfl
theorem doD_other (D : Nat → DataW Unit) (a : Ac) (i : Nat) (h : (i : Int) ≠ a.z) : doD D a i = D i := by
  unfold doD defD
  repeat' split
  all_goals first | rfl | exact putD_other _ _ _ _ _ h | exact dropD_other _ _ _ _ h | exact clearD_other _ _ _ h
theorem nmL_nat (D : Nat → DataW Unit) (i : Nat) (h1 : 1 ≤ i) (h5 : i < 5) : nmL D (i : Int) = sortN (D i) := by
  have hsc : isSc (i : Int) = true := by unfold isSc; simp; omega
  rw [nmL, hsc, if_pos rfl, Int.toNat_natCast]
theorem inSc_nat (D : Nat → DataW Unit) (i : Nat) (s : ByteArray) (h1 : 1 ≤ i) (h5 : i < 5) : inSc D (i : Int) s = look (D i) s := by
  have hsc : isSc (i : Int) = true := by unfold isSc; simp; omega
  rw [inSc, hsc, if_pos rfl, Int.toNat_natCast]

set_option maxHeartbeats 16000000 in
set_option maxRecDepth 1000000 in
theorem apartW (w : World) (A : Option Addr) (cap : Nat) (ls : List Ac) (a : Ac) (hr : Ba.ActRow w A cap ls) (hk : ∀ x ∈ ls, 0 ≤ x.k ∧ x.k < 256) (hsz : ∀ x ∈ ls, x.s.size ≤ 1048576 ∧ x.v.size ≤ 1048576) (hka : 0 ≤ a.k ∧ a.k < 256) (hn : a.s.size ≤ 1048576) (hv : a.v.size ≤ 1048576) :
    Calls Try.prog 7 #[.slice A ls.length cap, actV a] w fun e w' => e = .returned (.bool true) ∧ Below w.heap.size w w' := by
  have hu28 := Try.underlying28
  obtain ⟨N, hN⟩ : ∃ N, min ls.length 1500 = N := ⟨_, rfl⟩
  have hNl : N ≤ ls.length := by omega
  have hN15 : N ≤ 1500 := by omega
  obtain ⟨n0, hn0⟩ : ∃ n0, ls.length = n0 := ⟨_, rfl⟩
  have hl1 := hr.1
  have hl2 := hr.2.1
  rw [hn0] at hl1 hl2 hNl hN ⊢
  unfold actV
  go_enter Try.func7, Try.ntmps7
  go_wp2_with (first
    | ((with_reducible refine gate_dst (N := 3) rfl ?_); (try (refine gate_guard (by rfl) ?_; dsimp only)); refine box_event ?hg (N := 3) ?hd (cs := #[.int .u8 a.k, .int .i64 a.z, .string a.s, .string a.v]) (t := 28) ?hr ?_; (case hd => rfl); (case hg => rfl); (case hr => first | (go_simp; done) | (go_simp; rfl)); intro b3 e3 w0 p3 hl0; have HL0 := Aside0.mk hl0; have P3 := Aside0.mk p3; clear e3 p3 hl0)
    | fail)
  refine (newW w0).mono ?_
  rintro e w1 ⟨⟨g, m, rfl, hS1⟩, hB1⟩
  go_wp2_with (fail)
  refine (aliveW w1).mono ?_
  rintro e w2 ⟨rfl, hb2⟩
  have hS2 := hS1.below hb2
  have hB2 := below_then hB1 hB1.size hb2
  clear hS1 hB1 hb2
  go_wp2_with (fail)
  refine (shortW A n0 cap _ hl1 hl2).mono ?_
  rw [hN]
  rintro e w3 ⟨rfl, rfl⟩
  have HR := Aside0.mk hr
  have HK := Aside0.mk hk
  have HZ := Aside0.mk hsz
  clear hr hk hsz hN
  go_wp2_with (fail)
  have hS0 := Aside0.mk hS2
  have hB0 := Aside0.mk hB2
  clear hS2 hB2
  have HL := Aside0.mk (⟨hn0, hNl, hN15⟩ : ls.length = n0 ∧ N ≤ n0 ∧ N ≤ 1500)
  clear hl1 hl2 hn0 hNl hN15
  go_loopg [26] (N + 1) (fun kq v27 wr => ∃ (i : Nat) (D : Nat → DataW Unit), v27 = .int .i64 (i : Int) ∧ Aside0 (i + kq = N + 1) ∧ Aside0 (SetAt wr w0.heap.size g m D) ∧ Aside0 (Below w0.heap.size w0 wr))
  case atStart =>
    exact ⟨0, _, rfl, ⟨by omega⟩, hS0, hB0⟩
  case round =>
    obtain ⟨i, D, rfl, HI, HS, HB⟩ := hrel
    by_cases hi : i < N
    · obtain ⟨k1, rfl⟩ : ∃ k1, gk = k1 + 1 := ⟨gk - 1, by have := HI.out; omega⟩
      have e0 : decide ((i : Int) < (N : Int)) = true := decide_eq_true (by omega)
      have e1 : decide ((0 : Int) ≤ (i : Int)) = true := decide_eq_true (by omega)
      obtain ⟨ad, x, rfl, hx, c0, c1, c2, c3⟩ := act_cells HR.out (below_then HL0.out HL0.out.size HB.out) i (by have := HL.out; omega)
      go_wp2_with (first
        | ((with_reducible refine gate_dst (N := 7) rfl ?_); (try (refine gate_guard (by rfl) ?_; dsimp only)); refine box_event ?hg (N := 7) ?hd (cs := #[.int .u8 0, .int .i64 0, .string ⟨#[]⟩, .string ⟨#[]⟩]) (t := 28) ?hr ?_; (case hd => rfl); (case hg => rfl); (case hr => first | (go_simp; done) | (go_simp; rfl)); intro b9 e9 w9 hb9 hl9; have hS9 := HS.out.below hl9; have E9 := Aside0.mk e9; have hB9 := below_then HB.out HB.out.size hl9; have x0 : w9.cell? ⟨b9, 0, none⟩ = some (.int .u8 0) := (blk_cell hb9 0).trans rfl; have x1 : w9.cell? ⟨b9, 1, none⟩ = some (.int .i64 0) := (blk_cell hb9 1).trans rfl; have x2 : w9.cell? ⟨b9, 2, none⟩ = some (.string ⟨#[]⟩) := (blk_cell hb9 2).trans rfl; have x3 : w9.cell? ⟨b9, 3, none⟩ = some (.string ⟨#[]⟩) := (blk_cell hb9 3).trans rfl; have v0 := blk_frozen hb9 0; have v1 := blk_frozen hb9 1; have v2 := blk_frozen hb9 2; have v3 := blk_frozen hb9 3; clear e9)
        | fail)
      have hbg : b9 ≠ g := by have := E9.out; have := blk_lt HS.out.blk; omega
      have hbm : ∀ j, j < 5 → m j ≠ b9 := fun j hj => by have := E9.out; have := (HS.out.own j hj).lt; omega
      have hbb : w0.heap.size ≤ b9 := by have := E9.out; have := HB.out.size; omega
      have hS10 := (((hS9.far (j := 0) hbg hbm (.int .u8 x.k)).far (j := 1) hbg hbm (.int .i64 x.z)).far (j := 2) hbg hbm (.string x.s)).far (j := 3) hbg hbm (.string x.v)
      have hB10 := (((hB9.setCell (p := ⟨b9, 0, none⟩) hbb (.int .u8 x.k)).setCell (p := ⟨b9, 1, none⟩) hbb (.int .i64 x.z)).setCell (p := ⟨b9, 2, none⟩) hbb (.string x.s)).setCell (p := ⟨b9, 3, none⟩) hbb (.string x.v)
      have hxz := HZ.out x hx
      refine (doesW _ w0.heap.size g m D x hS10 (Nat.le_trans hxz.1 (by decide)) (Nat.le_trans hxz.2 (by decide)) (HK.out x hx)).mono ?_
      rintro e w11 ⟨rfl, hS11, hB11⟩
      have hB12 := hB10.trans hB11
      clear hB9 hB10 hB11 hS9 hS10 x0 x1 x2 x3 v0 v1 v2 v3 c0 c1 c2 c3 hb9 hl9 hbg hbm hbb hxz
      have hii : (i : Int) + 1 < 9223372036854775808 := by have := HL.out.2.2; omega
      have HS11 := Aside0.mk hS11
      have HB12 := Aside0.mk hB12
      clear hS11 hB12
      go_wp2_with (fail)
      go_roundg k1
      case measure => have := HI.out; omega
      case rel =>
        exact ⟨i + 1, _, by first | rfl | simp, ⟨by have := HI.out; omega⟩, HS11, HB12⟩
    · have e0 : decide ((i : Int) < (N : Int)) = false := decide_eq_false (by omega)
      have p3 := blk_below P3.out HB.out
      have x0 : wr.cell? ⟨b3, 0, none⟩ = some (.int .u8 a.k) := (blk_cell p3 0).trans rfl
      have x1 : wr.cell? ⟨b3, 1, none⟩ = some (.int .i64 a.z) := (blk_cell p3 1).trans rfl
      have x2 : wr.cell? ⟨b3, 2, none⟩ = some (.string a.s) := (blk_cell p3 2).trans rfl
      have x3 : wr.cell? ⟨b3, 3, none⟩ = some (.string a.v) := (blk_cell p3 3).trans rfl
      go_wp2_with (fail)
      refine (copyW _ _ g m D HS.out).mono ?_
      rintro e w5 ⟨⟨g2, m2, rfl, hC5⟩, hb5⟩
      have hS5 := HS.out.below hb5
      have hB5 := below_then HB.out HB.out.size hb5
      have hdis : ∀ i, i < 5 → g2 ≠ m i ∧ ∀ j, j < 5 → m2 j ≠ m i := fun i hi => by
        have h1 := (HS.out.own i hi).lt
        have h2 := hC5.ge.1
        refine ⟨by omega, fun j hj => ?_⟩
        have h3 := hC5.ge.2 j hj
        omega
      clear x0 x1 x2 x3 p3 hb5
      have p3 := blk_below P3.out hB5
      have x0 : w5.cell? ⟨b3, 0, none⟩ = some (.int .u8 a.k) := (blk_cell p3 0).trans rfl
      have x1 : w5.cell? ⟨b3, 1, none⟩ = some (.int .i64 a.z) := (blk_cell p3 1).trans rfl
      have x2 : w5.cell? ⟨b3, 2, none⟩ = some (.string a.s) := (blk_cell p3 2).trans rfl
      have x3 : w5.cell? ⟨b3, 3, none⟩ = some (.string a.v) := (blk_cell p3 3).trans rfl
      go_wp2_with (fail)
      refine (doesF _ _ g m D a hS5 (Nat.le_trans hn (by decide)) (Nat.le_trans hv (by decide)) hka).mono ?_
      rintro e w7 ⟨rfl, hS7, hF7⟩
      have hC7 := Aside0.mk (hC5.fr hF7 hdis)
      have hS7 := Aside0.mk hS7
      have hB7 := Aside0.mk (hB5.trans hF7.1)
      clear x0 x1 x2 x3 p3 hF7 hB5 hC5 hS5 HS HB HI hdis
      go_wp2_with (fail)
      go_loopg [9] 10 (fun kq v9 wr => ∃ (i : Nat), v9 = .int .i64 (i : Int) ∧ Aside0 (i + kq = 11 ∧ 1 ≤ i) ∧ Aside0 (SetAt wr w0.heap.size g m (doD D a)) ∧ (∃ B2, Aside0 (SetAt wr B2 g2 m2 D)) ∧ Aside0 (Below w0.heap.size w0 wr))
      case atStart =>
        exact ⟨1, rfl, ⟨by omega, by omega⟩, hS7, ⟨_, hC7⟩, hB7⟩
      case round =>
        obtain ⟨q, rfl, HI, HS, ⟨B2, HC⟩, HB⟩ := hrel
        have p3 := blk_below P3.out HB.out
        have x1 : wr.cell? ⟨b3, 1, none⟩ = some (.int .i64 a.z) := (blk_cell p3 1).trans rfl
        by_cases hq : q < 5
        · obtain ⟨k1, rfl⟩ : ∃ k1, gk = k1 + 1 := ⟨gk - 1, by have := HI.out; omega⟩
          have e0 : decide ((q : Int) ≤ 4) = true := decide_eq_true (by omega)
          have hqq : (q : Int) + 1 < 9223372036854775808 := by omega
          have h1q := HI.out.2
          by_cases hz : (q : Int) = a.z
          · have ez : ((q : Int) == a.z) = true := beq_iff_eq.2 hz
            clear hz
            go_wp2_with (fail)
            go_roundg k1
            case measure => have := HI.out; omega
            case rel => exact ⟨q + 1, by first | rfl | simp, ⟨by have := HI.out; omega, by omega⟩, HS, ⟨B2, HC⟩, HB⟩
          · have ez : ((q : Int) == a.z) = false := beq_false_of_ne hz
            have hDq := doD_other D a q hz
            clear hz
            have eN1 : nmL (doD D a) (q : Int) = sortN (D q) := by rw [nmL_nat _ q h1q hq, hDq]
            have eN2 : nmL D (q : Int) = sortN (D q) := nmL_nat _ q h1q hq
            have eI : ∀ s, inSc (doD D a) (q : Int) s = inSc D (q : Int) s := fun s => by rw [inSc_nat _ q s h1q hq, inSc_nat _ q s h1q hq, hDq]
            have hlen : (sortN (D q)).length ≤ 1024 := by rw [sortN_len _ (HC.out.own q hq).isMap]; exact HC.out.cnt q hq
            have hszN := sortN_size (HC.out.own q hq)
            have HE := Aside0.mk (⟨eI, hszN⟩ : (∀ s, inSc (doD D a) (q : Int) s = inSc D (q : Int) s) ∧ ∀ x ∈ sortN (D q), x.size ≤ maxLen)
            obtain ⟨L, hL⟩ : ∃ L, sortN (D q) = L := ⟨_, rfl⟩
            rw [hL] at eN1 eN2 hlen HE
            clear hDq eI hszN hL
            go_wp2_with (fail)
            refine (namesL _ _ g m _ q HS.out).mono ?_
            rw [eN1]
            rintro e w8 ⟨v8, rfl, hR8, hb8⟩
            have hC8 := HC.out.below hb8
            have hS8 := HS.out.below hb8
            have hB8 := below_then HB.out HB.out.size hb8
            obtain ⟨A8, c8, rfl⟩ := Kd.R_slice hR8
            clear hb8
            go_wp2_with (fail)
            refine (namesL _ _ g2 m2 _ q hC8).mono ?_
            rw [eN2]
            rintro e w9 ⟨v9, rfl, hR9, hb9⟩
            have hR8' := Kd.R_below hR8 hb9
            obtain ⟨A9, c9, rfl⟩ := Kd.R_slice hR9
            obtain ⟨-, hc8, hK8⟩ := Kd.R_reads' hR8'
            obtain ⟨-, hc9, hK9⟩ := Kd.R_reads' hR9
            have hC9 := hC8.below hb9
            have hS9 := hS8.below hb9
            have hB9 := below_then hB8 hB8.size hb9
            go_wp2_with (fail)
            refine (PV.bobstayref01_Same.calls 2000 A8 c8 L A9 c9 L true _ hK8 hc8 hK9 hc9 (sameL L hlen)).mono ?_
            rintro e w10 ⟨rfl, hd⟩
            have hC10 := hC9.below hd.below
            have hS10 := hS9.below hd.below
            have hB10 := below_then hB9 hB9.size hd.below
            clear hR8 hR8' hR9 hK8 hK9 hc8 hc9 hb9 hd hC8 hS8 hB8 hC9 hS9 hB9
            go_wp2_with (fail)
            refine (namesL _ _ g2 m2 _ q hC10).mono ?_
            rw [eN2]
            rintro e w11 ⟨v11, rfl, hR11, hb11⟩
            obtain ⟨A11, c11, rfl⟩ := Kd.R_slice hR11
            have HC11 := Aside0.mk (hC10.below hb11)
            have HS11 := Aside0.mk (hS10.below hb11)
            have HB11 := Aside0.mk (below_then hB10 hB10.size hb11)
            have HR11 := Aside0.mk hR11
            clear hC10 hS10 hB10 hb11 hR11 HS HC HB x1 p3
            go_wp2_with (fail)
            go_loopg [61] (L.length + 1) (fun kq2 v61 wi => ∃ (j : Nat), v61 = .int .i64 (j : Int) ∧ Aside0 (j + kq2 = L.length + 1) ∧ wi = w11)
            case atStart => exact ⟨0, rfl, ⟨by omega⟩, rfl⟩
            case round =>
              obtain ⟨j, rfl, HJ, hw⟩ := hrel
              subst hw
              by_cases hj : j < L.length
              · obtain ⟨k2, rfl⟩ : ∃ k2, gk = k2 + 1 := ⟨gk - 1, by have := HJ.out; omega⟩
                have d0 : decide ((j : Int) < (L.length : Int)) = true := decide_eq_true (by omega)
                have d1 : decide ((0 : Int) ≤ (j : Int)) = true := decide_eq_true (by omega)
                have hjj : (j : Int) + 1 < 9223372036854775808 := by omega
                obtain ⟨-, hc11, hK11⟩ := Kd.R_reads' HR11.out
                obtain ⟨ad, eA, hcells⟩ := hK11.2.2 (by omega)
                obtain ⟨cc, _, hk, hcell⟩ := hcells j L[j] (List.getElem?_eq_getElem hj)
                have hcj := hcell 0 (.string L[j]) (by rw [show cc = [.string L[j]] from hk]; rfl)
                have hcj2 : World.cell? wr (ad.add j) = some (.string L[j]) := by simpa [Kd.string, Kd.scalar] using hcj
                have hsz := HE.out.2 L[j] (List.getElem_mem hj)
                have hin := HE.out.1 L[j]
                obtain ⟨x, hx⟩ : ∃ x, L[j] = x := ⟨_, rfl⟩
                rw [hx] at hcj2 hsz hin
                subst eA
                clear hcj hk hcells hK11 hcell hx
                go_wp2_with (fail)
                refine (inW _ _ g m _ q x HS11.out hsz).mono ?_
                rw [hin]
                rintro e w12 ⟨rfl, rfl⟩
                go_wp2_with (fail)
                refine (inW _ _ g2 m2 _ q x HC11.out hsz).mono ?_
                rintro e w13 ⟨rfl, rfl⟩
                go_wp2_with (fail)
                go_roundg k2
                case measure => have := HJ.out; omega
                case rel => exact ⟨j + 1, by first | rfl | simp, ⟨by have := HJ.out; omega⟩, rfl⟩
              · have d0 : decide ((j : Int) < (L.length : Int)) = false := decide_eq_false (by omega)
                go_wp2_with (fail)
                go_roundg k1
                case measure => have := HI.out; omega
                case rel => exact ⟨q + 1, by first | rfl | simp, ⟨by have := HI.out; omega, by omega⟩, HS11, ⟨B2, HC11⟩, HB11⟩
        · have e0 : decide ((q : Int) ≤ 4) = false := decide_eq_false (by omega)
          go_wp2_with (fail)
          go_ret
          exact ⟨rfl, below_then HL0.out HL0.out.size HB.out⟩
end Go.Proofs.Ytpgfffibiogekaa.MS
