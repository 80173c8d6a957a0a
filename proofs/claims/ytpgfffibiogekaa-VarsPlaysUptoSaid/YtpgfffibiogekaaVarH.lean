/- A scope that comes ahead hides the others, and when it is dropped they are seen again: the law walked. -/
import Derived.Test.YtpgfffibiogekaaRowAct
set_option linter.unusedVariables false
set_option linter.unusedSimpArgs false
namespace Go.Proofs.Ytpgfffibiogekaa.MS
open Go.RowKit Go.Proofs.YtpgfffibiogekaaW.PrintWords Go.Proofs.YtpgfffibiogekaaW.PrintLast Go.Proofs.YtpgfffibiogekaaW.PrintMore

theorem SetAt.far {w : World} {base g : Nat} {m : Nat → Nat} {D : Nat → DataW Unit} (h : SetAt w base g m D) {b j : Nat} (hb : b ≠ g) (hm : ∀ i, i < 5 → m i ≠ b) (u : Value) : SetAt (w.setCell ⟨b, j, none⟩ u) base g m D :=
  ⟨blk_far h.blk (p := ⟨b, j, none⟩) (fun e => hb e.symm) u, h.ne, h.ge, fun i hi => (h.own i hi).setCell (a := ⟨b, j, none⟩) (hm i hi) u, h.val, h.cnt⟩

theorem shortW (A : Option Addr) (n cap : Nat) (w : World) (hn : n ≤ cap) (hm : n ≤ 9223372036854775807) : Calls Try.prog 10 #[.slice A n cap] w fun e w' => e = .returned (.slice A (min n 1500) cap) ∧ w' = w := by
  have hu := Try.underlying22
  go_enter Try.func10, Try.ntmps10
  by_cases h : n ≤ 1500
  · have e1 : min n 1500 = n := by omega
    have e2 : min (n : Int) 1500 = (n : Int) := by omega
    rw [e1]
    go_wp2
    go_ret
    exact ⟨rfl, rfl⟩
  · have e1 : min n 1500 = 1500 := by omega
    have e2 : min (n : Int) 1500 = 1500 := by omega
    rw [e1]
    go_wp2
    go_ret
    exact ⟨rfl, rfl⟩
theorem act_cells {w wr : World} {A : Option Addr} {cap : Nat} {ls : List Ac} (h : Ba.ActRow w A cap ls) (hb : Below w.heap.size w wr) (i : Nat) (h1 : i < ls.length) : ∃ ad x, A = some ad ∧ x ∈ ls ∧
    wr.cell? (ad.add (i * 4)) = some (.int .u8 x.k) ∧ wr.cell? ⟨(ad.add (i * 4)).block, (ad.add (i * 4)).off + 1, none⟩ = some (.int .i64 x.z) ∧ wr.cell? ⟨(ad.add (i * 4)).block, (ad.add (i * 4)).off + 2, none⟩ = some (.string x.s) ∧ wr.cell? ⟨(ad.add (i * 4)).block, (ad.add (i * 4)).off + 3, none⟩ = some (.string x.v) := by
  obtain ⟨ad, rfl, hc⟩ := h.2.2 (by omega)
  obtain ⟨c0, c1, c2, c3⟩ := hc i ls[i] (List.getElem?_eq_getElem h1)
  refine ⟨ad, ls[i], rfl, List.getElem_mem h1, (hb.cell (World.block_lt_of_cell? w _ c0)).trans c0, ?_, ?_, ?_⟩
  · rw [← add_field _ _ 1 (by omega)]; exact (hb.cell (World.block_lt_of_cell? w _ c1)).trans c1
  · rw [← add_field _ _ 2 (by omega)]; exact (hb.cell (World.block_lt_of_cell? w _ c2)).trans c2
  · rw [← add_field _ _ 3 (by omega)]; exact (hb.cell (World.block_lt_of_cell? w _ c3)).trans c3
theorem putD_zero (D : Nat → DataW Unit) (z : Int) (s v : ByteArray) : putD D z s v 0 = D 0 := by
  unfold putD
  split
  · rename_i h
    by_cases hz : isSc z = true
    · obtain ⟨n, rfl, hn1, hn⟩ := isSc_nat hz
      show (if 0 = (n : Int).toNat then _ else _) = _
      rw [Int.toNat_natCast, if_neg (by omega)]
    · exfalso
      unfold putE at h
      rw [show isSc z = false by simpa using hz] at h
      simp at h
  · rfl
theorem dropD_zero (D : Nat → DataW Unit) (z : Int) (s : ByteArray) : dropD D z s 0 = D 0 := by
  unfold dropD
  split
  · rename_i h
    by_cases hz : isSc z = true
    · obtain ⟨n, rfl, hn1, hn⟩ := isSc_nat hz
      show (if 0 = (n : Int).toNat then _ else _) = _
      rw [Int.toNat_natCast, if_neg (by omega)]
    · exfalso
      unfold dropE at h
      rw [show isSc z = false by simpa using hz] at h
      simp at h
  · rfl
theorem clearD_zero (D : Nat → DataW Unit) (z : Int) : clearD D z 0 = D 0 := by
  unfold clearD
  split
  · rename_i hz
    obtain ⟨n, rfl, hn1, hn⟩ := isSc_nat hz
    show (if 0 = (n : Int).toNat then _ else _) = _
    rw [Int.toNat_natCast, if_neg (by omega)]
  · rfl
theorem doD_zero (D : Nat → DataW Unit) (a : Ac) : doD D a 0 = D 0 := by
  unfold doD defD
  repeat' split
  all_goals first | rfl | exact putD_zero _ _ _ _ | exact dropD_zero _ _ _ | exact clearD_zero _ _

def aheadTo (D : Nat → DataW Unit) (s : ByteArray) (i : Nat) : Bool := (List.range i).any fun n => decide (1 ≤ n) && (look (D n) s).isSome
def NEW : ByteArray := ⟨#[110, 101, 119]⟩
theorem aheadTo_succ (D : Nat → DataW Unit) (s : ByteArray) (i : Nat) (h : 1 ≤ i) : aheadTo D s (i + 1) = (aheadTo D s i || (look (D i) s).isSome) := by
  unfold aheadTo
  rw [List.range_succ, List.any_append]
  simp [h]
structure Told (D2 D3 : Nat → DataW Unit) (n : Nat) (nm : ByteArray) : Prop where
  z2 : look (D2 0) nm = none
  n2 : look (D2 n) nm = none
  n3 : look (D3 n) nm = some NEW
  oth : ∀ i, i ≠ n → look (D3 i) nm = look (D2 i) nm
theorem told_ahead {D2 D3 : Nat → DataW Unit} {n : Nat} {nm : ByteArray} (h : Told D2 D3 n nm) (h1 : 1 ≤ n) (hn : n < 5) (ha : aheadTo D3 nm n = true) : getV D3 nm = getV D2 nm ∧ (getV D2 nm).isSome = true := by
  obtain ⟨z2, n2, n3, oth⟩ := h
  have e0 := oth 0 (by omega)
  unfold getV
  rw [e0, z2]
  rcases lt5 hn with rfl | rfl | rfl | rfl | rfl
  · omega
  · simp [aheadTo, List.range_succ] at ha
  · have e1 := oth 1 (by decide)
    have e3 := oth 3 (by decide)
    have e4 := oth 4 (by decide)
    simp [aheadTo, List.range_succ, e1] at ha
    rw [e1, e3, e4, n2, n3]
    cases h1 : look (D2 1) nm with
    | none => rw [h1] at ha; simp at ha
    | some v => simp
  · have e1 := oth 1 (by decide)
    have e2 := oth 2 (by decide)
    have e4 := oth 4 (by decide)
    simp [aheadTo, List.range_succ, e1, e2] at ha
    rw [e1, e2, e4, n2, n3]
    cases h1 : look (D2 1) nm with
    | none =>
      cases h2 : look (D2 2) nm with
      | none => rw [h1, h2] at ha; simp at ha
      | some v => simp
    | some v => simp
  · have e1 := oth 1 (by decide)
    have e2 := oth 2 (by decide)
    have e3 := oth 3 (by decide)
    simp [aheadTo, List.range_succ, e1, e2, e3] at ha
    rw [e1, e2, e3, n2, n3]
    cases h1 : look (D2 1) nm with
    | none =>
      cases h2 : look (D2 2) nm with
      | none =>
        cases h3 : look (D2 3) nm with
        | none => rw [h1, h2, h3] at ha; simp at ha
        | some v => simp
      | some v => simp
    | some v => simp
theorem told_not {D2 D3 : Nat → DataW Unit} {n : Nat} {nm : ByteArray} (h : Told D2 D3 n nm) (h1 : 1 ≤ n) (hn : n < 5) (ha : aheadTo D3 nm n = false) : getV D3 nm = some NEW := by
  obtain ⟨z2, n2, n3, oth⟩ := h
  have e0 := oth 0 (by omega)
  unfold getV
  rw [e0, z2]
  rcases lt5 hn with rfl | rfl | rfl | rfl | rfl
  · omega
  · rw [n3]; simp
  · simp [aheadTo, List.range_succ] at ha
    rw [ha, n3]; simp
  · simp [aheadTo, List.range_succ] at ha
    rw [ha.1, ha.2, n3]; simp
  · simp [aheadTo, List.range_succ] at ha
    rw [ha.1, ha.2.1, ha.2.2, n3]; simp
theorem drop_none (D : Nat → DataW Unit) (z : Int) (s : ByteArray) (h : isSc z = true) : look (dropD D z s z.toNat) s = none := by
  unfold dropD
  split
  · show look (if z.toNat = z.toNat then _ else _) s = none
    rw [if_pos rfl, look_del, if_pos rfl]
  · rename_i hd
    unfold dropE at hd
    rw [h, if_pos rfl] at hd
    split at hd
    · rename_i e; exact e
    · exact absurd rfl hd
theorem told_of (D1 : Nat → DataW Unit) (z : Int) (nm : ByteArray) (n : Nat) (hz : z = (n : Int)) (h1 : 1 ≤ n) (hn : n < 5) (h0 : D1 0 = .map []) (hm : Maps.IsMap (dropD D1 z nm n)) (hP : putE (dropD D1 z nm) z nm NEW = 0) : Told (dropD D1 z nm) (putD (dropD D1 z nm) z nm NEW) n nm := by
  have hsc : isSc z = true := by rw [hz]; unfold isSc; simp; omega
  refine ⟨by rw [dropD_zero, h0]; rfl, ?_, ?_, fun i hi => ?_⟩
  · have := drop_none D1 z nm hsc
    rw [hz, Int.toNat_natCast] at this
    rw [hz]; exact this
  · rw [putD, if_pos hP]
    show look (if n = z.toNat then _ else _) nm = _
    rw [hz, Int.toNat_natCast, if_pos rfl, look_put _ (by rw [← hz]; exact hm), if_pos rfl]
  · rw [putD, if_pos hP]
    show look (if i = z.toNat then _ else _) nm = _
    rw [hz, Int.toNat_natCast, if_neg hi]
theorem told_back {D2 D3 : Nat → DataW Unit} {n : Nat} {nm : ByteArray} (h : Told D2 D3 n nm) (h1 : 1 ≤ n) (hn : n < 5) : dropE D3 (n : Int) nm = 0 ∧ getV (dropD D3 (n : Int) nm) nm = getV D2 nm := by
  have hsc : isSc (n : Int) = true := by unfold isSc; simp; omega
  have hE : dropE D3 (n : Int) nm = 0 := by rw [dropE, hsc, if_pos rfl, Int.toNat_natCast, h.n3, if_neg (by simp)]
  refine ⟨hE, ?_⟩
  have hl : ∀ i, look (dropD D3 (n : Int) nm i) nm = look (D2 i) nm := fun i => by
    rw [dropD, if_pos hE]
    show look (if i = (n : Int).toNat then _ else _) nm = _
    rw [Int.toNat_natCast]
    by_cases e : i = n
    · rw [if_pos e, look_del, if_pos rfl, e, h.n2]
    · rw [if_neg e, h.oth i e]
  unfold getV
  rw [hl, hl, hl, hl, hl]
set_option maxHeartbeats 16000000 in
set_option maxRecDepth 1000000 in
theorem hidesW (w : World) (A : Option Addr) (cap : Nat) (ls : List Ac) (nm : ByteArray) (z : Int) (hr : Ba.ActRow w A cap ls) (hk : ∀ x ∈ ls, 0 ≤ x.k ∧ x.k < 256) (hsz : ∀ x ∈ ls, x.s.size ≤ 1048576 ∧ x.v.size ≤ 1048576) (hn : nm.size ≤ 1048576) :
    Calls Try.prog 3 #[.slice A ls.length cap, .string nm, .int .i64 z] w fun e w' => e = .returned (.bool true) ∧ Below w.heap.size w w' := by
  have hu28 := Try.underlying28
  obtain ⟨N, hN⟩ : ∃ N, min ls.length 1500 = N := ⟨_, rfl⟩
  have hNl : N ≤ ls.length := by omega
  have hN15 : N ≤ 1500 := by omega
  obtain ⟨n0, hn0⟩ : ∃ n0, ls.length = n0 := ⟨_, rfl⟩
  have hl1 := hr.1
  have hl2 := hr.2.1
  rw [hn0] at hl1 hl2 hNl hN ⊢
  go_enter Try.func3, Try.ntmps3
  go_wp2_with (fail)
  refine (newW w).mono ?_
  rintro e w1 ⟨⟨g, m, rfl, hS1⟩, hB1⟩
  go_wp2_with (fail)
  refine (aliveW w1).mono ?_
  rintro e w2 ⟨rfl, hb2⟩
  have hS2 := hS1.below hb2
  have hB2 := below_then hB1 hB1.size hb2
  clear hS1 hB1 hb2
  go_wp2_with (fail)
  refine (shortW A n0 cap _ hl1 hl2).mono ?_
  rw [hN]
  rintro e w3 ⟨rfl, rfl⟩
  have HR := Aside0.mk hr
  have HK := Aside0.mk hk
  have HZ := Aside0.mk hsz
  clear hr hk hsz hN
  go_wp2_with (fail)
  have hS0 := Aside0.mk hS2
  have hB0 := Aside0.mk hB2
  clear hS2 hB2
  have HL := Aside0.mk (⟨hn0, hNl, hN15⟩ : ls.length = n0 ∧ N ≤ n0 ∧ N ≤ 1500)
  clear hl1 hl2 hn0 hNl hN15
  go_loopg [30] (N + 1) (fun kq v30 wr => ∃ (i : Nat) (D : Nat → DataW Unit), v30 = .int .i64 (i : Int) ∧ Aside0 (i + kq = N + 1 ∧ D 0 = .map []) ∧ Aside0 (SetAt wr w.heap.size g m D) ∧ Aside0 (Below w.heap.size w wr))
  case atStart =>
    exact ⟨0, _, rfl, ⟨by omega, rfl⟩, hS0, hB0⟩
  case round =>
    obtain ⟨i, D, rfl, HI, HS, HB⟩ := hrel
    by_cases hi : i < N
    · obtain ⟨k1, rfl⟩ : ∃ k1, gk = k1 + 1 := ⟨gk - 1, by have := HI.out.1; omega⟩
      have e0 : decide ((i : Int) < (N : Int)) = true := decide_eq_true (by omega)
      have e1 : decide ((0 : Int) ≤ (i : Int)) = true := decide_eq_true (by omega)
      obtain ⟨ad, x, rfl, hx, c0, c1, c2, c3⟩ := act_cells HR.out HB.out i (by have := HL.out; omega)
      go_wp2_with (first
        | ((with_reducible refine gate_dst (N := 9) rfl ?_); (try (refine gate_guard (by rfl) ?_; dsimp only)); refine box_event ?hg (N := 9) ?hd (cs := #[.int .u8 0, .int .i64 0, .string ⟨#[]⟩, .string ⟨#[]⟩]) (t := 28) ?hr ?_; (case hd => rfl); (case hg => rfl); (case hr => first | (go_simp; done) | (go_simp; rfl)); intro b9 e9 w9 hb9 hl9; have hS9 := HS.out.below hl9; have E9 := Aside0.mk e9; have hB9 := below_then HB.out HB.out.size hl9; have x0 : w9.cell? ⟨b9, 0, none⟩ = some (.int .u8 0) := (blk_cell hb9 0).trans rfl; have x1 : w9.cell? ⟨b9, 1, none⟩ = some (.int .i64 0) := (blk_cell hb9 1).trans rfl; have x2 : w9.cell? ⟨b9, 2, none⟩ = some (.string ⟨#[]⟩) := (blk_cell hb9 2).trans rfl; have x3 : w9.cell? ⟨b9, 3, none⟩ = some (.string ⟨#[]⟩) := (blk_cell hb9 3).trans rfl; have v0 := blk_frozen hb9 0; have v1 := blk_frozen hb9 1; have v2 := blk_frozen hb9 2; have v3 := blk_frozen hb9 3; clear e9)
        | fail)
      have hbg : b9 ≠ g := by have := E9.out; have := blk_lt HS.out.blk; omega
      have hbm : ∀ j, j < 5 → m j ≠ b9 := fun j hj => by have := E9.out; have := (HS.out.own j hj).lt; omega
      have hbb : w.heap.size ≤ b9 := by have := E9.out; have := HB.out.size; omega
      have hS10 := (((hS9.far (j := 0) hbg hbm (.int .u8 x.k)).far (j := 1) hbg hbm (.int .i64 x.z)).far (j := 2) hbg hbm (.string x.s)).far (j := 3) hbg hbm (.string x.v)
      have hB10 := (((hB9.setCell (p := ⟨b9, 0, none⟩) hbb (.int .u8 x.k)).setCell (p := ⟨b9, 1, none⟩) hbb (.int .i64 x.z)).setCell (p := ⟨b9, 2, none⟩) hbb (.string x.s)).setCell (p := ⟨b9, 3, none⟩) hbb (.string x.v)
      have hxz := HZ.out x hx
      refine (doesW _ w.heap.size g m D x hS10 (Nat.le_trans hxz.1 (by decide)) (Nat.le_trans hxz.2 (by decide)) (HK.out x hx)).mono ?_
      rintro e w11 ⟨rfl, hS11, hB11⟩
      have hB12 := hB10.trans hB11
      clear hB9 hB10 hB11 hS9 hS10 x0 x1 x2 x3 v0 v1 v2 v3 c0 c1 c2 c3 hb9 hl9 hbg hbm hbb hxz
      have hii : (i : Int) + 1 < 9223372036854775808 := by have := HL.out.2.2; omega
      have HS11 := Aside0.mk hS11
      have HB12 := Aside0.mk hB12
      clear hS11 hB12
      go_wp2_with (fail)
      go_roundg k1
      case measure => have := HI.out; omega
      case rel =>
        exact ⟨i + 1, _, by first | rfl | simp, ⟨by have := HI.out; omega, by rw [doD_zero]; exact HI.out.2⟩, HS11, HB12⟩
    · have e0 : decide ((i : Int) < (N : Int)) = false := decide_eq_false (by omega)
      go_wp2_with (fail)
      refine (dropW _ _ g m D z nm HS.out (Nat.le_trans hn (by decide))).mono ?_
      rintro e w4 ⟨rfl, hS4, hB4⟩
      have hB4' := HB.out.trans hB4
      have h0 := HI.out.2
      clear hB4 HS HB HI
      go_wp2_with (fail)
      refine (getW _ _ g m _ nm hS4 (Nat.le_trans hn (by decide))).mono ?_
      rintro e w5 ⟨rfl, rfl⟩
      go_wp2_with (fail)
      refine (putW _ _ g m _ z nm NEW hS4 (Nat.le_trans hn (by decide)) (by decide)).mono ?_
      by_cases hP : putE (dropD D z nm) z nm NEW = 0
      · rw [hP]
        rintro e w6 ⟨rfl, hS6, hB6⟩
        have hsc : isSc z = true := by
          cases hz : isSc z with
          | true => rfl
          | false => rw [putE, hz] at hP; simp at hP
        obtain ⟨n, hzn, hn1, hn5⟩ := isSc_nat hsc
        have hT := told_of D z nm n hzn hn1 hn5 h0 (hS4.own n hn5).isMap hP
        have hB6' := hB4'.trans hB6
        obtain ⟨D2, hD2⟩ : ∃ D2, dropD D z nm = D2 := ⟨_, rfl⟩
        rw [hD2] at hT hS6 ⊢
        obtain ⟨D3, hD3⟩ : ∃ D3, putD D2 z nm NEW = D3 := ⟨_, rfl⟩
        rw [hD3] at hT hS6
        clear hP hD2 hD3 hB6 hB4' hS4 h0 hsc
        subst hzn
        have hT1 := told_ahead hT hn1 hn5
        have hT2 := told_not hT hn1 hn5
        obtain ⟨hT3, hT4⟩ := told_back hT hn1 hn5
        obtain ⟨P, hP⟩ : ∃ P, getV D2 nm = P := ⟨_, rfl⟩
        rw [hP] at hT1 hT4 ⊢
        have HT := Aside0.mk (⟨hT1, hT2, hT3, hT4⟩ : (aheadTo D3 nm n = true → getV D3 nm = P ∧ P.isSome = true) ∧ (aheadTo D3 nm n = false → getV D3 nm = some NEW) ∧ dropE D3 n nm = 0 ∧ getV (dropD D3 n nm) nm = P)
        clear hT1 hT2 hT3 hT4 hT hP
        have HS6 := Aside0.mk hS6
        have HB6 := Aside0.mk hB6'
        clear hS6 hB6'
        go_wp2_with (fail)
        go_loopg [12, 13] (n + 1) (fun kq v12 v13 wr => ∃ (i : Nat), v13 = .int .i64 (i : Int) ∧ v12 = .bool (aheadTo D3 nm i) ∧ Aside0 (i + kq = n + 2 ∧ 1 ≤ i ∧ i ≤ n) ∧ Aside0 (SetAt wr w.heap.size g m D3) ∧ Aside0 (Below w.heap.size w wr))
        case atStart =>
          exact ⟨1, rfl, by simp [aheadTo], ⟨by omega, by omega, by omega⟩, HS6, HB6⟩
        case round =>
          obtain ⟨i, rfl, rfl, HI, HS, HB⟩ := hrel
          by_cases hi : i < n
          · obtain ⟨k1, rfl⟩ : ∃ k1, gk = k1 + 1 := ⟨gk - 1, by have := HI.out.1; omega⟩
            have e0 : decide ((i : Int) < (n : Int)) = true := decide_eq_true (by omega)
            go_wp2_with (fail)
            refine (inW _ _ g m D3 i nm HS.out (Nat.le_trans hn (by decide))).mono ?_
            have hin : inSc D3 (i : Int) nm = look (D3 i) nm := by
              have : isSc (i : Int) = true := by unfold isSc; have := HI.out.2; simp; omega
              rw [inSc, this, if_pos rfl, Int.toNat_natCast]
            rw [hin]
            rintro e w7 ⟨rfl, rfl⟩
            have hsu := aheadTo_succ D3 nm i HI.out.2.1
            have hii : (i : Int) + 1 < 9223372036854775808 := by omega
            cases ha : aheadTo D3 nm i with
            | true =>
              rw [ha] at hsu
              go_wp2_with (fail)
              go_roundg k1
              case measure => have := HI.out; omega
              case rel => exact ⟨i + 1, by first | rfl | simp, by rw [hsu]; rfl, ⟨by have := HI.out; omega, by omega, by omega⟩, HS, HB⟩
            | false =>
              rw [ha] at hsu
              go_wp2_with (fail)
              go_roundg k1
              case measure => have := HI.out; omega
              case rel => exact ⟨i + 1, by first | rfl | simp, by rw [hsu]; rfl, ⟨by have := HI.out; omega, by omega, by omega⟩, HS, HB⟩
          · have hin : i = n := by have := HI.out; omega
            subst hin
            have e0 : decide ((i : Int) < (i : Int)) = false := decide_eq_false (by omega)
            obtain ⟨hT1, hT2, hT3, hT4⟩ := HT.out
            cases ha : aheadTo D3 nm i with
            | true =>
              obtain ⟨q1, q2⟩ := hT1 ha
              go_wp2_with (fail)
              refine (getW _ _ g m _ nm HS.out (Nat.le_trans hn (by decide))).mono ?_
              rw [q1]
              rintro e w8 ⟨rfl, rfl⟩
              go_wp2_with (fail)
              refine (dropW _ _ g m D3 i nm HS.out (Nat.le_trans hn (by decide))).mono ?_
              rw [hT3]
              rintro e w9 ⟨rfl, hS9, hB9⟩
              have hB9' := HB.out.trans hB9
              go_wp2_with (fail)
              refine (getW _ _ g m _ nm hS9 (Nat.le_trans hn (by decide))).mono ?_
              rw [hT4]
              rintro e w10 ⟨rfl, rfl⟩
              go_wp2_with (fail)
              go_ret
              exact ⟨rfl, hB9'⟩
            | false =>
              have q1 := hT2 ha
              have hNE : (NEW.toList == ([110, 101, 119] : List UInt8)) = true := by decide +kernel
              go_wp2_with (fail)
              refine (getW _ _ g m _ nm HS.out (Nat.le_trans hn (by decide))).mono ?_
              rw [q1]
              rintro e w8 ⟨rfl, rfl⟩
              go_wp2_with (fail)
              refine (dropW _ _ g m D3 i nm HS.out (Nat.le_trans hn (by decide))).mono ?_
              rw [hT3]
              rintro e w9 ⟨rfl, hS9, hB9⟩
              have hB9' := HB.out.trans hB9
              go_wp2_with (fail)
              refine (getW _ _ g m _ nm hS9 (Nat.le_trans hn (by decide))).mono ?_
              rw [hT4]
              rintro e w10 ⟨rfl, rfl⟩
              go_wp2_with (fail)
              go_ret
              exact ⟨rfl, hB9'⟩
      · obtain ⟨pe, hpe⟩ : ∃ pe, putE (dropD D z nm) z nm NEW = pe := ⟨_, rfl⟩
        rw [hpe] at hP ⊢
        rintro e w6 ⟨rfl, hS6, hB6⟩
        have hb : (pe == (0 : Int)) = false := beq_false_of_ne hP
        have hB6' := hB4'.trans hB6
        clear hP hpe hS6 hS4 hB4' hB6
        go_wp2_with (fail)
        go_ret
        exact ⟨rfl, hB6'⟩
end Go.Proofs.Ytpgfffibiogekaa.MS
