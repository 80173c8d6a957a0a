/- A set answers every call as the document says: the law walked. -/
import Derived.Test.YtpgfffibiogekaaPlayPST
import Derived.Test.YtpgfffibiogekaaVarA
import Derived.Deep.RegionHeld3
set_option linter.unusedVariables false
set_option linter.unusedSimpArgs false
namespace Go.Proofs.Ytpgfffibiogekaa.MS
open Go.RowKit Go.Proofs.YtpgfffibiogekaaW.PrintWords Go.Proofs.YtpgfffibiogekaaW.PrintLast Go.Proofs.YtpgfffibiogekaaW.PrintMore

theorem RAt.fr {w w' : World} {base r base2 : Nat} {X : Nat → Prop} {l : List V3} {m : Nat → Nat} (h : RAt w base r X l) (f : Fr base2 m w w') (hd : ∀ i, i < 5 → r ≠ m i ∧ X (m i)) : RAt w' base r X l := by
  obtain ⟨h1, hX, v, h2, h3⟩ := h
  refine ⟨h1, fun k hk => Nat.lt_of_lt_of_le (hX k hk) f.1.size, v, ?_, Kd.R_step h3 (fun k ho hk => f.2 k hk (fun i hi e => ho.2 (e ▸ (hd i hi).2)))⟩
  rw [f.2 r (blk_lt h2) (fun i hi => (hd i hi).1)]; exact h2
/-- both sets, in memory, alike -/
def Both (w : World) (B g r : Nat) (m : Nat → Nat) (D : Nat → DataW Unit) (l : List V3) : Prop :=
  SetAt w B g m D ∧ RAt w B r (fun k => k = g ∨ ∃ i, i < 5 ∧ k = m i) l ∧ Agree D l ∧ g ≠ r ∧ ∀ i, i < 5 → m i ≠ r
theorem Both.below {w w' : World} {B g r : Nat} {m : Nat → Nat} {D : Nat → DataW Unit} {l : List V3} (h : Both w B g r m D l) (hb : Below w.heap.size w w') : Both w' B g r m D l :=
  ⟨h.1.below hb, h.2.1.below hb, h.2.2⟩
theorem play_ne {w : World} {B g b : Nat} {m : Nat → Nat} {D : Nat → DataW Unit} (h : SetAt w B g m D) (hb : w.heap.size ≤ b) : ∀ i, i < 5 → b ≠ m i := fun i hi => by
  have := (h.own i hi).lt
  omega
theorem both_start {w w1 : World} {B g r : Nat} {m : Nat → Nat} (hS : SetAt w B g m (fun _ => .map [])) (er : r = w.heap.size) (hb : w1.heap[r]? = some (.cells #[.slice none 0 0] 45 (0, 0))) (hl : Below w.heap.size w w1) : Both w1 B g r m (fun _ => .map []) [] := by
  have hlt := fun i hi => (hS.own i hi).lt
  have hg := blk_lt hS.blk
  refine ⟨hS.below hl, ⟨?_, ?_, _, hb, Kd.R_nil _ _ _ _ _⟩, agree_nil, by omega, fun i hi => by have := hlt i hi; omega⟩
  · have := hS.base_le; omega
  · have hs := hl.size
    rintro k (rfl | ⟨i, hi, rfl⟩)
    · omega
    · have := hlt i hi; omega
set_option maxHeartbeats 16000000 in
set_option maxRecDepth 1000000 in
theorem playsW (w : World) (A : Option Addr) (cap : Nat) (ls : List Ac) (nm : ByteArray) (hr : Ba.ActRow w A cap ls) (hk : ∀ x ∈ ls, 0 ≤ x.k ∧ x.k < 256) (hsz : ∀ x ∈ ls, x.s.size ≤ 1048576 ∧ x.v.size ≤ 1048576) (hn : nm.size ≤ 1048576) :
    Calls Try.prog 5 #[.slice A ls.length cap, .string nm] w fun e w' => e = .returned (.bool true) ∧ Below w.heap.size w w' := by
  have hu28 := Try.underlying28
  obtain ⟨N, hN⟩ : ∃ N, min ls.length 1500 = N := ⟨_, rfl⟩
  have hNl : N ≤ ls.length := by omega
  have hN15 : N ≤ 1500 := by omega
  obtain ⟨n0, hn0⟩ : ∃ n0, ls.length = n0 := ⟨_, rfl⟩
  have hl1 := hr.1
  have hl2 := hr.2.1
  rw [hn0] at hl1 hl2 hNl hN ⊢
  obtain ⟨rn, hrn⟩ : ∃ b, rg nm = b := ⟨_, rfl⟩
  go_enter Try.func5, Try.ntmps5
  go_wp2_with (fail)
  refine (newW w).mono ?_
  rintro e w1 ⟨⟨g, m, rfl, hS1⟩, hB1⟩
  go_wp2_with (first
    | ((with_reducible refine gate_dst (N := 6) rfl ?_); (try (refine gate_guard (by rfl) ?_; dsimp only)); refine box_event ?hg (N := 6) ?hd (cs := #[.slice none 0 0]) (t := 45) ?hr ?_; (case hd => rfl); (case hg => rfl); (case hr => first | (go_simp; done) | (go_simp; rfl)); intro r er w2 hb2 hl2b; have HBO := Aside0.mk (both_start hS1 er hb2 hl2b); have HB2 := Aside0.mk (below_then hB1 hB1.size hl2b); clear hS1 hB1 er hb2 hl2b)
    | fail)
  refine (MS.rightW nm w2).mono ?_
  rw [hrn]
  rintro e w3 ⟨rfl, hb3⟩
  have HBO3 := Aside0.mk (HBO.out.below hb3)
  have HB3 := Aside0.mk (below_then HB2.out HB2.out.size hb3)
  clear HBO HB2 hb3
  go_wp2_with (fail)
  refine (rightRW nm w3 (by omega)).mono ?_
  rw [hrn]
  rintro e w4 ⟨rfl, hb4⟩
  have HBO4 := Aside0.mk (HBO3.out.below hb4)
  have HB4 := Aside0.mk (below_then HB3.out HB3.out.size hb4)
  clear HBO3 HB3 hb4
  have ebb : (rn != rn) = false := by simp
  go_wp2_with (fail)
  refine (aliveW w4).mono ?_
  rintro e w5 ⟨rfl, hb5⟩
  have HBO5 := Aside0.mk (HBO4.out.below hb5)
  have HB5 := Aside0.mk (below_then HB4.out HB4.out.size hb5)
  clear HBO4 HB4 hb5
  go_wp2_with (fail)
  refine (shortW A n0 cap _ hl1 hl2).mono ?_
  rw [hN]
  rintro e w6 ⟨rfl, rfl⟩
  have HR := Aside0.mk hr
  have HK := Aside0.mk hk
  have HZ := Aside0.mk hsz
  clear hr hk hsz hN
  go_wp2_with (fail)
  have HL := Aside0.mk (⟨hn0, hNl, hN15⟩ : ls.length = n0 ∧ N ≤ n0 ∧ N ≤ 1500)
  clear hl1 hl2 hn0 hNl hN15
  go_loopg [39] (N + 1) (fun kq v39 wr => ∃ (i : Nat) (D : Nat → DataW Unit) (l : List V3), v39 = .int .i64 (i : Int) ∧ Aside0 (i + kq = N + 1) ∧ Aside0 (Both wr w.heap.size g r m D l) ∧ Aside0 (Below w.heap.size w wr))
  case atStart =>
    exact ⟨0, _, _, rfl, ⟨by omega⟩, HBO5, HB5⟩
  case round =>
    obtain ⟨i, D, l, rfl, HI, HO, HB⟩ := hrel
    by_cases hi : i < N
    · obtain ⟨k1, rfl⟩ : ∃ k1, gk = k1 + 1 := ⟨gk - 1, by have := HI.out; omega⟩
      have e0 : decide ((i : Int) < (N : Int)) = true := decide_eq_true (by omega)
      have e1 : decide ((0 : Int) ≤ (i : Int)) = true := decide_eq_true (by omega)
      obtain ⟨ad, x, rfl, hx, c0, c1, c2, c3⟩ := act_cells HR.out HB.out i (by have := HL.out; omega)
      go_wp2_with (first
        | ((with_reducible refine gate_dst (N := 8) rfl ?_); (try (refine gate_guard (by rfl) ?_; dsimp only)); refine box_event ?hg (N := 8) ?hd (cs := #[.int .u8 0, .int .i64 0, .string ⟨#[]⟩, .string ⟨#[]⟩]) (t := 28) ?hr ?_; (case hd => rfl); (case hg => rfl); (case hr => first | (go_simp; done) | (go_simp; rfl)); intro b9 e9 w9 hb9 hl9; have HO9 := Aside0.mk (HO.out.below hl9); have E9 := Aside0.mk e9; have HL9 := Aside0.mk hl9; have x0 : w9.cell? ⟨b9, 0, none⟩ = some (.int .u8 0) := (blk_cell hb9 0).trans rfl; have x1 : w9.cell? ⟨b9, 1, none⟩ = some (.int .i64 0) := (blk_cell hb9 1).trans rfl; have x2 : w9.cell? ⟨b9, 2, none⟩ = some (.string ⟨#[]⟩) := (blk_cell hb9 2).trans rfl; have x3 : w9.cell? ⟨b9, 3, none⟩ = some (.string ⟨#[]⟩) := (blk_cell hb9 3).trans rfl; have v0 := blk_frozen hb9 0; have v1 := blk_frozen hb9 1; have v2 := blk_frozen hb9 2; have v3 := blk_frozen hb9 3; have HB9 := Aside0.mk hb9; clear e9 hl9 hb9)
        | fail)
      have hbb : wr.heap.size ≤ b9 := by have := E9.out; omega
      have hl10 := (((HL9.out.setCell (p := ⟨b9, 0, none⟩) hbb (.int .u8 x.k)).setCell (p := ⟨b9, 1, none⟩) hbb (.int .i64 x.z)).setCell (p := ⟨b9, 2, none⟩) hbb (.string x.s)).setCell (p := ⟨b9, 3, none⟩) hbb (.string x.v)
      have hb10 := blk_set (blk_set (blk_set (blk_set HB9.out 0 (.int .u8 x.k)) 1 (.int .i64 x.z)) 2 (.string x.s)) 3 (.string x.v)
      have HO10 := Aside0.mk (HO.out.below hl10)
      have HB10 := Aside0.mk (below_then HB.out HB.out.size hl10)
      have y0 := (blk_cell hb10 0).trans rfl
      have y1 := (blk_cell hb10 1).trans rfl
      have y2 := (blk_cell hb10 2).trans rfl
      have y3 := (blk_cell hb10 3).trans rfl
      have HC10 := Aside0.mk hb10
      have HBB := Aside0.mk hbb
      clear x0 x1 x2 x3 v0 v1 v2 v3 hl10 hb10 HL9 HB9 HO9 hbb c0 c1 c2 c3
      generalize World.setCell (World.setCell (World.setCell (World.setCell w9 ⟨b9, 0, none⟩ (.int .u8 x.k)) ⟨b9, 1, none⟩ (.int .i64 x.z)) ⟨b9, 2, none⟩ (.string x.s)) ⟨b9, 3, none⟩ (.string x.v) = w10 at *
      have hB0 : w.heap.size ≤ w10.heap.size := HO10.out.1.base_le
      have ihA := fun W (hb : Below w10.heap.size w10 W) => doesF W w.heap.size g m D x (HO10.out.below hb).1 (Nat.le_trans (HZ.out x hx).1 (by decide)) (Nat.le_trans (HZ.out x hx).2 (by decide)) (HK.out x hx)
      have ihB := fun W (hf : Fr w.heap.size m w10 W) => wouldRW W w.heap.size r (fun k => k = g ∨ ∃ i, i < 5 ∧ k = m i) l x (HO10.out.2.1.fr hf (fun i hi => ⟨fun e => HO10.out.2.2.2.2 i hi e.symm, .inr ⟨i, hi, rfl⟩⟩)) (Nat.le_trans (agree_len HO10.out.1 HO10.out.2.2.1) (by decide)) (Nat.le_trans (HZ.out x hx).1 (by decide)) (Nat.le_trans (HZ.out x hx).2 (by decide)) (agree_val HO10.out.1 HO10.out.2.2.1) (HK.out x hx)
      have hFd : Fr w.heap.size m w10 w10.drew := Fr.of hB0 (below_drew (Below.refl _ _))
      have hst := agree_step HO10.out.1 HO10.out.2.2.1 x
      have hEE := hst.1
      obtain ⟨E1, hE1⟩ : ∃ E, doE D x = E := ⟨_, rfl⟩
      obtain ⟨E2, hE2⟩ : ∃ E, woE l x = E := ⟨_, rfl⟩
      have ebb : (E1 != E2) = false := by rw [← hE1, ← hE2, hEE]; simp
      have HA2 := Aside0.mk hst.2
      unfold actV at ihA ihB
      rw [hE1] at ihA
      rw [hE2] at ihB
      clear hst hEE hE1 hE2
      go_region_with (first
        | (go_at_call 11; (with_reducible refine (ihA _ ?hA).mono ?_); (case hA => exact below_drew (Below.refl _ _)); rintro e w11 ⟨rfl, hS11, hF11⟩; have hF12 := hFd.trans hF11; have hc11 := (hF12.2 b9 (blk_lt HC10.out) (play_ne HO.out.1 HBB.out)).trans HC10.out; have z0 := (blk_cell hc11 0).trans rfl; have z1 := (blk_cell hc11 1).trans rfl; have z2 := (blk_cell hc11 2).trans rfl; have z3 := (blk_cell hc11 3).trans rfl)
        | (go_at_call 20; (with_reducible refine (ihB _ ?hB).mono ?_); (case hB => exact hF12); rintro e w12 ⟨rfl, hS12, hF13⟩)
        | fail)
      all_goals
        have hc12 := (hF13.2 b9 (blk_lt hc11) (fun _ _ => by have h1 := HBB.out; obtain ⟨h2, _, vv, h3, _⟩ := HO.out.2.1; have := blk_lt h3; show b9 ≠ r; omega)).trans hc11
        have HO12 := Aside0.mk (show Both w12 w.heap.size g r m (doD D x) (woL l x) from ⟨hS11.fr hF13 (fun i hi => ⟨HO10.out.2.2.2.1, fun j hj => HO10.out.2.2.2.2 j hj⟩), hS12, HA2.out, HO10.out.2.2.2⟩)
        have HB12 := Aside0.mk ((HB10.out.trans hF12.1).trans hF13.1)
        have q1 := (blk_cell hc12 1).trans rfl
        have q2 := (blk_cell hc12 2).trans rfl
        clear hc12 hc11 hF11 hF12 hF13 hFd hS11 hS12 ihA ihB z0 z1 z2 z3 y0 y1 y2 y3 HA2
        generalize doD D x = D2 at HO12
        generalize woL l x = l2 at HO12
        have eG := (HO12.out.2.2.1.get x.s).symm
        have eI := (HO12.out.2.2.1.eq x.z x.s).symm
        have hl2 := Nat.le_trans (agree_len HO12.out.1 HO12.out.2.2.1) (show 4096 ≤ 1000000 by decide)
        have hxs := Nat.le_trans (HZ.out x hx).1 (show 1048576 ≤ maxLen by decide)
        have ihG := getRW w12 w.heap.size r _ l2 x.s HO12.out.2.1 hl2
        have ihI := inRW w12 w.heap.size r _ l2 x.z x.s HO12.out.2.1 hl2
        have ihH := getW w12 w.heap.size g m D2 x.s HO12.out.1 hxs
        have ihJ := inW w12 w.heap.size g m D2 x.z x.s HO12.out.1 hxs
        rw [eG] at ihG
        rw [eI] at ihI
        clear eG eI hl2 hxs
        generalize getV D2 x.s = G at ihG ihH
        generalize inSc D2 x.z x.s = I at ihI ihJ
        go_wp2_with (first
          | (go_at_call 13; refine ihH.mono ?_; rintro e w12 ⟨rfl, rfl⟩)
          | (go_at_call 21; refine ihG.mono ?_; rintro e w12 ⟨rfl, rfl⟩)
          | (go_at_call 15; refine ihJ.mono ?_; rintro e w12 ⟨rfl, rfl⟩)
          | (go_at_call 22; refine ihI.mono ?_; rintro e w12 ⟨rfl, rfl⟩)
          | fail)
        clear ihG ihH ihI ihJ q1 q2
        go_roundg k1
        case measure => have := HI.out; omega
        case rel =>
          have hw : wrap64 ((i : Int) + 1) = ((i + 1 : Nat) : Int) := by have := HL.out.2.2; unfold wrap64; omega
          exact ⟨i + 1, D2, l2, by rw [hw], ⟨by have := HI.out; omega⟩, HO12, HB12⟩
    · have e0 : decide ((i : Int) < (N : Int)) = false := decide_eq_false (by omega)
      go_wp2_with (fail)
      go_loopg [98] 7 (fun kq v98 wr => ∃ (q : Nat), v98 = .int .i64 (q : Int) ∧ Aside0 (q + kq = 7) ∧ Aside0 (Both wr w.heap.size g r m D l) ∧ Aside0 (Below w.heap.size w wr))
      case atStart =>
        exact ⟨0, rfl, ⟨by omega⟩, HO, HB⟩
      case round =>
        clear HO HB HI
        obtain ⟨q, rfl, HI, HO, HB⟩ := hrel
        by_cases hq : q < 6
        · obtain ⟨k1, rfl⟩ : ∃ k1, gk = k1 + 1 := ⟨gk - 1, by have := HI.out; omega⟩
          have e0 : decide ((q : Int) < 6) = true := decide_eq_true (by omega)
          have hqq : (q : Int) + 1 < 9223372036854775808 := by omega
          have hS := HO.out.1
          have hA := HO.out.2.2.1
          obtain ⟨eM, hM⟩ := agree_many hS hA q
          have eN := agree_names hS hA q
          have hl5 := Nat.le_trans (agree_len hS hA) (show 4096 ≤ 500000 by decide)
          have ihN := namesL wr w.heap.size g m D q hS
          have ihR := fun W (hb : Below wr.heap.size wr W) => namesRW W w.heap.size r _ l q (HO.out.2.1.below hb) hl5
          rw [← eN, eM] at ihR
          clear eM eN hS hA hl5
          generalize nmL D (q : Int) = L at ihN ihR hM
          go_wp2_with (fail)
          refine ihN.mono ?_
          rintro e w8 ⟨v8, rfl, hR8, hb8⟩
          obtain ⟨A8, c8, rfl⟩ := Kd.R_slice hR8
          have HO8 := Aside0.mk (HO.out.below hb8)
          have HB8 := Aside0.mk (below_then HB.out HB.out.size hb8)
          have HR8 := Aside0.mk hR8
          have ihR := ihR w8 hb8
          clear hb8 hR8 ihN
          go_wp2_with (fail)
          refine ihR.mono ?_
          rintro e w9 ⟨⟨A9, c9, rfl, hK9, hc9⟩, hb9⟩
          obtain ⟨-, hc8, hK8⟩ := Kd.R_reads' (Kd.R_below HR8.out hb9)
          have HO9 := Aside0.mk (HO8.out.below hb9)
          have HB9 := Aside0.mk (below_then HB8.out HB8.out.size hb9)
          clear hb9 HR8 HO8 HB8 ihR
          go_wp2_with (fail)
          refine (PV.bobstayref01_Same.calls 2000 A8 c8 L A9 c9 L true _ hK8 hc8 hK9 hc9 (sameL L hM)).mono ?_
          rintro e w10 ⟨rfl, hd⟩
          have HO10 := Aside0.mk (HO9.out.below hd.below)
          have HB10 := Aside0.mk (below_then HB9.out HB9.out.size hd.below)
          clear hd hK8 hK9 hc8 hc9 hM HO9 HB9
          go_wp2_with (fail)
          go_roundg k1
          case measure => have := HI.out; omega
          case rel => exact ⟨q + 1, by first | rfl | simp, ⟨by have := HI.out; omega⟩, HO10, HB10⟩
        · have e0 : decide ((q : Int) < 6) = false := decide_eq_false (by omega)
          have hl2 := Nat.le_trans (agree_len HO.out.1 HO.out.2.2.1) (show 4096 ≤ 1000000 by decide)
          have hxs := Nat.le_trans hn (show 1048576 ≤ maxLen by decide)
          have eG := (HO.out.2.2.1.get nm).symm
          have ihG := getRW wr w.heap.size r _ l nm HO.out.2.1 hl2
          have ihH := getW wr w.heap.size g m D nm HO.out.1 hxs
          rw [eG] at ihG
          clear eG hl2 hxs
          generalize getV D nm = G at ihG ihH
          go_wp2_with (first
            | (go_at_call 13; refine ihH.mono ?_; rintro e wr ⟨rfl, rfl⟩)
            | (go_at_call 21; refine ihG.mono ?_; rintro e wr ⟨rfl, rfl⟩)
            | fail)
          go_ret
          exact ⟨rfl, HB.out⟩
end Go.Proofs.Ytpgfffibiogekaa.MS
