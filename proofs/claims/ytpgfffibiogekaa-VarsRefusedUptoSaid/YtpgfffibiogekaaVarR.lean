/- What is refused turns nothing, and a default turns nothing that has a value: the law walked. -/
import Derived.Test.YtpgfffibiogekaaVarH
import Derived.Test.YtpgfffibiogekaaVarN
set_option linter.unusedVariables false
set_option linter.unusedSimpArgs false
namespace Go.Proofs.Ytpgfffibiogekaa.MS
open Go.RowKit Go.Proofs.YtpgfffibiogekaaW.PrintWords Go.Proofs.YtpgfffibiogekaaW.PrintLast Go.Proofs.YtpgfffibiogekaaW.PrintMore

theorem putD_keep {D : Nat → DataW Unit} {z : Int} {s v : ByteArray} (h : putE D z s v ≠ 0) : putD D z s v = D := by rw [putD, if_neg h]
theorem dropD_keep {D : Nat → DataW Unit} {z : Int} {s : ByteArray} (h : dropE D z s ≠ 0) : dropD D z s = D := by rw [dropD, if_neg h]
theorem defD_keep {D : Nat → DataW Unit} {z : Int} {s v : ByteArray} (h : defE D z s v ≠ 0) : defD D z s v = D := by
  unfold defE at h
  unfold defD
  split
  · rfl
  · rename_i hc
    rw [if_neg hc] at h
    exact putD_keep h
theorem doD_keep (D : Nat → DataW Unit) (a : Ac) (h : doE D a ≠ 0) : doD D a = D := by
  unfold doE at h
  unfold doD
  by_cases h0 : (a.k % 5 == 0) = true
  · rw [if_pos h0] at h ⊢; exact putD_keep h
  · rw [if_neg h0] at h ⊢
    by_cases h1 : (a.k % 5 == 1) = true
    · rw [if_pos h1] at h ⊢; exact putD_keep h
    · rw [if_neg h1] at h ⊢
      by_cases h2 : (a.k % 5 == 2) = true
      · rw [if_pos h2] at h ⊢; exact defD_keep h
      · rw [if_neg h2] at h ⊢
        by_cases h3 : (a.k % 5 == 3) = true
        · rw [if_pos h3] at h ⊢; exact dropD_keep h
        · rw [if_neg h3] at h; exact absurd rfl h
theorem doD_had (D : Nat → DataW Unit) (a : Ac) (hE : doE D a = 0) (h2 : (a.k % 5 == 2) = true) (hh : (getV D a.s).isSome = true) : doD D a = D := by
  have hk : a.k % 5 = 2 := by simpa using h2
  have h0 : ¬ (a.k % 5 == 0) = true := by rw [hk]; decide
  have h1 : ¬ (a.k % 5 == 1) = true := by rw [hk]; decide
  unfold doE at hE
  unfold doD
  rw [if_neg h0, if_neg h1, if_pos h2] at hE ⊢
  unfold defE at hE
  unfold defD
  rw [hh, Bool.true_and] at hE ⊢
  by_cases hz : isSc a.z = true
  · rw [if_pos hz]
  · rw [if_neg hz] at hE
    exfalso
    unfold putE at hE
    rw [show isSc a.z = false by simpa using hz] at hE
    simp at hE
set_option maxHeartbeats 16000000 in
set_option maxRecDepth 1000000 in
theorem refusedW (w : World) (A : Option Addr) (cap : Nat) (ls : List Ac) (a : Ac) (hr : Ba.ActRow w A cap ls) (hk : ∀ x ∈ ls, 0 ≤ x.k ∧ x.k < 256) (hsz : ∀ x ∈ ls, x.s.size ≤ 1048576 ∧ x.v.size ≤ 1048576) (hka : 0 ≤ a.k ∧ a.k < 256) (hn : a.s.size ≤ 1048576) (hv : a.v.size ≤ 1048576) :
    Calls Try.prog 6 #[.slice A ls.length cap, actV a] w fun e w' => e = .returned (.bool true) ∧ Below w.heap.size w w' := by
  have hu28 := Try.underlying28
  obtain ⟨N, hN⟩ : ∃ N, min ls.length 1500 = N := ⟨_, rfl⟩
  have hNl : N ≤ ls.length := by omega
  have hN15 : N ≤ 1500 := by omega
  obtain ⟨n0, hn0⟩ : ∃ n0, ls.length = n0 := ⟨_, rfl⟩
  have hl1 := hr.1
  have hl2 := hr.2.1
  rw [hn0] at hl1 hl2 hNl hN ⊢
  unfold actV
  go_enter Try.func6, Try.ntmps6
  go_wp2_with (first
    | ((with_reducible refine gate_dst (N := 3) rfl ?_); (try (refine gate_guard (by rfl) ?_; dsimp only)); refine box_event ?hg (N := 3) ?hd (cs := #[.int .u8 a.k, .int .i64 a.z, .string a.s, .string a.v]) (t := 28) ?hr ?_; (case hd => rfl); (case hg => rfl); (case hr => first | (go_simp; done) | (go_simp; rfl)); intro b3 e3 w0 p3 hl0; have HL0 := Aside0.mk hl0; have P3 := Aside0.mk p3; clear e3 p3 hl0)
    | fail)
  refine (newW w0).mono ?_
  rintro e w1 ⟨⟨g, m, rfl, hS1⟩, hB1⟩
  go_wp2_with (fail)
  refine (aliveW w1).mono ?_
  rintro e w2 ⟨rfl, hb2⟩
  have hS2 := hS1.below hb2
  have hB2 := below_then hB1 hB1.size hb2
  clear hS1 hB1 hb2
  go_wp2_with (fail)
  refine (shortW A n0 cap _ hl1 hl2).mono ?_
  rw [hN]
  rintro e w3 ⟨rfl, rfl⟩
  have HR := Aside0.mk hr
  have HK := Aside0.mk hk
  have HZ := Aside0.mk hsz
  clear hr hk hsz hN
  go_wp2_with (fail)
  have hS0 := Aside0.mk hS2
  have hB0 := Aside0.mk hB2
  clear hS2 hB2
  have HL := Aside0.mk (⟨hn0, hNl, hN15⟩ : ls.length = n0 ∧ N ≤ n0 ∧ N ≤ 1500)
  clear hl1 hl2 hn0 hNl hN15
  go_loopg [27] (N + 1) (fun kq v27 wr => ∃ (i : Nat) (D : Nat → DataW Unit), v27 = .int .i64 (i : Int) ∧ Aside0 (i + kq = N + 1) ∧ Aside0 (SetAt wr w0.heap.size g m D) ∧ Aside0 (Below w0.heap.size w0 wr))
  case atStart =>
    exact ⟨0, _, rfl, ⟨by omega⟩, hS0, hB0⟩
  case round =>
    obtain ⟨i, D, rfl, HI, HS, HB⟩ := hrel
    by_cases hi : i < N
    · obtain ⟨k1, rfl⟩ : ∃ k1, gk = k1 + 1 := ⟨gk - 1, by have := HI.out; omega⟩
      have e0 : decide ((i : Int) < (N : Int)) = true := decide_eq_true (by omega)
      have e1 : decide ((0 : Int) ≤ (i : Int)) = true := decide_eq_true (by omega)
      obtain ⟨ad, x, rfl, hx, c0, c1, c2, c3⟩ := act_cells HR.out (below_then HL0.out HL0.out.size HB.out) i (by have := HL.out; omega)
      go_wp2_with (first
        | ((with_reducible refine gate_dst (N := 7) rfl ?_); (try (refine gate_guard (by rfl) ?_; dsimp only)); refine box_event ?hg (N := 7) ?hd (cs := #[.int .u8 0, .int .i64 0, .string ⟨#[]⟩, .string ⟨#[]⟩]) (t := 28) ?hr ?_; (case hd => rfl); (case hg => rfl); (case hr => first | (go_simp; done) | (go_simp; rfl)); intro b9 e9 w9 hb9 hl9; have hS9 := HS.out.below hl9; have E9 := Aside0.mk e9; have hB9 := below_then HB.out HB.out.size hl9; have x0 : w9.cell? ⟨b9, 0, none⟩ = some (.int .u8 0) := (blk_cell hb9 0).trans rfl; have x1 : w9.cell? ⟨b9, 1, none⟩ = some (.int .i64 0) := (blk_cell hb9 1).trans rfl; have x2 : w9.cell? ⟨b9, 2, none⟩ = some (.string ⟨#[]⟩) := (blk_cell hb9 2).trans rfl; have x3 : w9.cell? ⟨b9, 3, none⟩ = some (.string ⟨#[]⟩) := (blk_cell hb9 3).trans rfl; have v0 := blk_frozen hb9 0; have v1 := blk_frozen hb9 1; have v2 := blk_frozen hb9 2; have v3 := blk_frozen hb9 3; clear e9)
        | fail)
      have hbg : b9 ≠ g := by have := E9.out; have := blk_lt HS.out.blk; omega
      have hbm : ∀ j, j < 5 → m j ≠ b9 := fun j hj => by have := E9.out; have := (HS.out.own j hj).lt; omega
      have hbb : w0.heap.size ≤ b9 := by have := E9.out; have := HB.out.size; omega
      have hS10 := (((hS9.far (j := 0) hbg hbm (.int .u8 x.k)).far (j := 1) hbg hbm (.int .i64 x.z)).far (j := 2) hbg hbm (.string x.s)).far (j := 3) hbg hbm (.string x.v)
      have hB10 := (((hB9.setCell (p := ⟨b9, 0, none⟩) hbb (.int .u8 x.k)).setCell (p := ⟨b9, 1, none⟩) hbb (.int .i64 x.z)).setCell (p := ⟨b9, 2, none⟩) hbb (.string x.s)).setCell (p := ⟨b9, 3, none⟩) hbb (.string x.v)
      have hxz := HZ.out x hx
      refine (doesW _ w0.heap.size g m D x hS10 (Nat.le_trans hxz.1 (by decide)) (Nat.le_trans hxz.2 (by decide)) (HK.out x hx)).mono ?_
      rintro e w11 ⟨rfl, hS11, hB11⟩
      have hB12 := hB10.trans hB11
      clear hB9 hB10 hB11 hS9 hS10 x0 x1 x2 x3 v0 v1 v2 v3 c0 c1 c2 c3 hb9 hl9 hbg hbm hbb hxz
      have hii : (i : Int) + 1 < 9223372036854775808 := by have := HL.out.2.2; omega
      have HS11 := Aside0.mk hS11
      have HB12 := Aside0.mk hB12
      clear hS11 hB12
      go_wp2_with (fail)
      go_roundg k1
      case measure => have := HI.out; omega
      case rel =>
        exact ⟨i + 1, _, by first | rfl | simp, ⟨by have := HI.out; omega⟩, HS11, HB12⟩
    · have e0 : decide ((i : Int) < (N : Int)) = false := decide_eq_false (by omega)
      have p3 := blk_below P3.out HB.out
      have x0 : wr.cell? ⟨b3, 0, none⟩ = some (.int .u8 a.k) := (blk_cell p3 0).trans rfl
      have x1 : wr.cell? ⟨b3, 1, none⟩ = some (.int .i64 a.z) := (blk_cell p3 1).trans rfl
      have x2 : wr.cell? ⟨b3, 2, none⟩ = some (.string a.s) := (blk_cell p3 2).trans rfl
      have x3 : wr.cell? ⟨b3, 3, none⟩ = some (.string a.v) := (blk_cell p3 3).trans rfl
      go_wp2_with (fail)
      refine (getW _ _ g m _ a.s HS.out (Nat.le_trans hn (by decide))).mono ?_
      rintro e w5 ⟨rfl, rfl⟩
      go_wp2_with (fail)
      refine (inW _ _ g m _ a.z a.s HS.out (Nat.le_trans hn (by decide))).mono ?_
      rintro e w5 ⟨rfl, rfl⟩
      go_wp2_with (fail)
      refine (namesW _ _ g m _ a.z HS.out).mono ?_
      rintro e w6 ⟨⟨A6, c6, rfl⟩, hb6⟩
      have hS6 := HS.out.below hb6
      have hB6 := below_then HB.out HB.out.size hb6
      clear x0 x1 x2 x3 p3 hb6
      have p3 := blk_below P3.out hB6
      have x0 : w6.cell? ⟨b3, 0, none⟩ = some (.int .u8 a.k) := (blk_cell p3 0).trans rfl
      have x1 : w6.cell? ⟨b3, 1, none⟩ = some (.int .i64 a.z) := (blk_cell p3 1).trans rfl
      have x2 : w6.cell? ⟨b3, 2, none⟩ = some (.string a.s) := (blk_cell p3 2).trans rfl
      have x3 : w6.cell? ⟨b3, 3, none⟩ = some (.string a.v) := (blk_cell p3 3).trans rfl
      go_wp2_with (fail)
      refine (doesW _ _ g m D a hS6 (Nat.le_trans hn (by decide)) (Nat.le_trans hv (by decide)) hka).mono ?_
      rintro e w7 ⟨rfl, hS7, hB7⟩
      have hB8 := hB6.trans hB7
      clear x0 x1 x2 x3 p3 hB7 hB6 hS6 HS HB HI
      have p3 := blk_below P3.out hB8
      have x0 : w7.cell? ⟨b3, 0, none⟩ = some (.int .u8 a.k) := (blk_cell p3 0).trans rfl
      have x1 : w7.cell? ⟨b3, 1, none⟩ = some (.int .i64 a.z) := (blk_cell p3 1).trans rfl
      have x2 : w7.cell? ⟨b3, 2, none⟩ = some (.string a.s) := (blk_cell p3 2).trans rfl
      cases hE : (doE D a == (0 : Int)) with
      | true =>
        cases h2 : (a.k % 5 == 2) with
        | true =>
          cases hh : (getV D a.s).isSome with
          | true =>
            have hD := doD_had D a (by simpa using hE) h2 hh
            rw [hD] at hS7
            go_wp2_with (fail)
            refine (getW _ _ g m _ a.s hS7 (Nat.le_trans hn (by decide))).mono ?_
            rintro e w8 ⟨rfl, rfl⟩
            go_wp2_with (fail)
            refine (inW _ _ g m _ a.z a.s hS7 (Nat.le_trans hn (by decide))).mono ?_
            rintro e w9 ⟨rfl, rfl⟩
            go_wp2_with (fail)
            refine (namesW _ _ g m _ a.z hS7).mono ?_
            rintro e w10 ⟨⟨A10, c10, rfl⟩, hb10⟩
            have hB11 := below_then hB8 hB8.size hb10
            go_wp2_with (fail)
            go_ret
            exact ⟨rfl, below_then HL0.out HL0.out.size hB11⟩
          | false =>
            go_wp2_with (fail)
            go_ret
            exact ⟨rfl, below_then HL0.out HL0.out.size hB8⟩
        | false =>
          go_wp2_with (fail)
          go_ret
          exact ⟨rfl, below_then HL0.out HL0.out.size hB8⟩
      | false =>
        have hD := doD_keep D a (by simpa using hE)
        rw [hD] at hS7
        go_wp2_with (fail)
        refine (getW _ _ g m _ a.s hS7 (Nat.le_trans hn (by decide))).mono ?_
        rintro e w8 ⟨rfl, rfl⟩
        go_wp2_with (fail)
        refine (inW _ _ g m _ a.z a.s hS7 (Nat.le_trans hn (by decide))).mono ?_
        rintro e w9 ⟨rfl, rfl⟩
        go_wp2_with (fail)
        refine (namesW _ _ g m _ a.z hS7).mono ?_
        rintro e w10 ⟨⟨A10, c10, rfl⟩, hb10⟩
        have hB11 := below_then hB8 hB8.size hb10
        go_wp2_with (fail)
        go_ret
        exact ⟨rfl, below_then HL0.out HL0.out.size hB11⟩
end Go.Proofs.Ytpgfffibiogekaa.MS
