/- The reader of expressions: a set in brackets, walked. -/
import Derived.Test.YtnjpdhekeffpnaaRxW
set_option linter.unusedVariables false
set_option linter.unusedSimpArgs false
namespace Go.Proofs.Ytnjpdhekeffpnaa.Rx
open Go.RowKit Go.Proofs.YtnjpdhekeffpnaaW.PrintWords Go.Proofs.YtnjpdhekeffpnaaW.PrintLast Go.Proofs.YtnjpdhekeffpnaaW.PrintMore

def setV (m : Nat) : Value := .agg #[.int .u64 (wd m 0), .int .u64 (wd m 1), .int .u64 (wd m 2), .int .u64 (wd m 3)]
theorem brL_stop (s : ByteArray) (b0 n m : Nat) (S : BS) (h : peekB s S = none) : brL s b0 n m S = (false, 0, wrongB 3 s.size S) := by
  cases n with
  | zero => rfl
  | succ n => rw [brL, h]
theorem brL_go (s : ByteArray) (b0 n m : Nat) (S : BS) (c : Int) (h : peekB s S = some c) : brL s b0 (n + 1) m S = if c = 93 ∧ b0 < S.at_ then (true, m, skip S 1)
      else if s.size - S.at_ < 3 ∨ bt s ((S.at_ : Int) + 1) ≠ 45 ∨ bt s ((S.at_ : Int) + 2) = 93 then brL s b0 n (addR m c.toNat 1) (skip S 1)
      else if bt s ((S.at_ : Int) + 2) < c then (false, 0, wrongB 2 (S.at_ + 1) S)
      else brL s b0 n (addR m c.toNat ((bt s ((S.at_ : Int) + 2)).toNat + 1 - c.toNat)) (skip S 3) := by rw [brL, h]
/-- a set is stored into the cell of the answer -/
theorem ret_set {w w6 : World} {base b : Nat} {s : ByteArray} {S : BS} {p m0 : Nat} (hb : base ≤ w.heap.size) (hp : w6.heap[p]? = some (.cells (sC m0) TE (0, 0))) (hpw : w.heap.size ≤ p) (hpb : p ≠ b)
    (hB : BAt w6 base b s S) (hF : Fr base b none w w6) (a0 a1 a2 a3 : Int) :
    ∀ w7, w7 = (((w6.setCell ⟨p, 0, none⟩ (.int .u64 a0)).setCell ⟨p, 1, none⟩ (.int .u64 a1)).setCell ⟨p, 2, none⟩ (.int .u64 a2)).setCell ⟨p, 3, none⟩ (.int .u64 a3) →
      w7.cell? ⟨p, 0, none⟩ = some (.int .u64 a0) ∧ w7.cell? ⟨p, 1, none⟩ = some (.int .u64 a1) ∧ w7.cell? ⟨p, 2, none⟩ = some (.int .u64 a2) ∧ w7.cell? ⟨p, 3, none⟩ = some (.int .u64 a3) ∧ BAt w7 base b s S ∧ Fr base b none w w7 := by
  rintro w7 rfl
  have h1 := blk_set hp 0 (.int .u64 a0)
  have h2 := blk_set h1 1 (.int .u64 a1)
  have h3 := blk_set h2 2 (.int .u64 a2)
  have h4 := blk_set h3 3 (.int .u64 a3)
  have e : ((((sC m0).setIfInBounds 0 (.int .u64 a0)).setIfInBounds 1 (.int .u64 a1)).setIfInBounds 2 (.int .u64 a2)).setIfInBounds 3 (.int .u64 a3) = #[.int .u64 a0, .int .u64 a1, .int .u64 a2, .int .u64 a3] := by simp [sC]
  rw [e] at h4
  refine ⟨(blk_cell h4 0).trans rfl, (blk_cell h4 1).trans rfl, (blk_cell h4 2).trans rfl, (blk_cell h4 3).trans rfl, ?_, ?_⟩
  · exact (((hB.other hp (by decide) hpb 0 _).other h1 (by decide) hpb 1 _).other h2 (by decide) hpb 2 _).other h3 (by decide) hpb 3 _
  · exact (((hF.new hb hpw 0 _).new hb hpw 1 _).new hb hpw 2 _).new hb hpw 3 _
theorem setV0 : setV 0 = .agg #[.int .u64 0, .int .u64 0, .int .u64 0, .int .u64 0] := by simp [setV, wd]
/-- the words of which the first i are turned -/
def cmC (m i : Nat) : Array Value := #[.int .u64 (if 0 < i then wd (full ^^^ m) 0 else wd m 0), .int .u64 (if 1 < i then wd (full ^^^ m) 1 else wd m 1), .int .u64 (if 2 < i then wd (full ^^^ m) 2 else wd m 2), .int .u64 (if 3 < i then wd (full ^^^ m) 3 else wd m 3)]
theorem cmC_at (m i : Nat) (hi : i < 4) : (cmC m i)[i]? = some (.int .u64 (wd m i)) := by
  rcases (show i = 0 ∨ i = 1 ∨ i = 2 ∨ i = 3 by omega) with rfl | rfl | rfl | rfl <;> rfl
theorem bits_xor (a b : Nat) (ha : a < 2 ^ 64) (hb : b < 2 ^ 64) : bits .xor .u64 (a : Int) (b : Int) = ((a ^^^ b : Nat) : Int) := by
  have hk : IntKind.u64.bits = 64 := rfl
  have ha' : a % 2 ^ 64 = a := Nat.mod_eq_of_lt ha
  have hb' : b % 2 ^ 64 = b := Nat.mod_eq_of_lt hb
  simp only [bits, hk, BitVec.ofInt_natCast, BitVec.toNat_xor, BitVec.toNat_ofNat, ha', hb']
  exact wraps_u64 _ (Int.natCast_nonneg _) (by exact_mod_cast Nat.xor_lt_two_pow ha hb)
theorem xor_wd (m i : Nat) (hi : i < 4) : bits .xor .u64 IntKind.u64.max (wd m i) = wd (full ^^^ m) i := by
  have hmx : IntKind.u64.max = ((2 ^ 64 - 1 : Nat) : Int) := by decide
  have hlt : m / 2 ^ (64 * i) % 2 ^ 64 < 2 ^ 64 := Nat.mod_lt _ (by decide)
  have key : (full ^^^ m) / 2 ^ (64 * i) % 2 ^ 64 = (2 ^ 64 - 1) ^^^ (m / 2 ^ (64 * i) % 2 ^ 64) := by
    apply Nat.eq_of_testBit_eq
    intro j
    rw [Nat.testBit_mod_two_pow, Nat.testBit_div_two_pow, Nat.testBit_xor, Nat.testBit_xor, Nat.testBit_mod_two_pow, Nat.testBit_div_two_pow, full, Nat.testBit_two_pow_sub_one, Nat.testBit_two_pow_sub_one]
    by_cases hj : j < 64
    · rw [decide_eq_true hj, Bool.true_and, Bool.true_and, decide_eq_true (show j + 64 * i < 256 by omega)]
    · rw [decide_eq_false hj, Bool.false_and, Bool.false_and]; rfl
  unfold wd
  rw [key, hmx, bits_xor _ _ (by decide) hlt]
theorem cmC4 (m : Nat) : cmC m 4 = sC (full ^^^ m) := by simp [cmC, sC]
theorem cmC_step (m i : Nat) (hi : i < 4) : (cmC m i).setIfInBounds i (.int .u64 (wd (full ^^^ m) i)) = cmC m (i + 1) := by
  rcases (show i = 0 ∨ i = 1 ∨ i = 2 ∨ i = 3 by omega) with rfl | rfl | rfl | rfl <;> simp [cmC]
theorem ext_size' (s : ByteArray) (k : Nat) : (s.extract k s.size).size = s.size - k := by rw [ByteArray.size_extract, Nat.min_self]
theorem ext_bt (s : ByteArray) (at_ k : Nat) (h : k < (s.extract ((at_ : Int).toNat) s.size).size) : (((s.extract ((at_ : Int).toNat) s.size)[k]'h).toNat : Int) = bt s ((at_ : Int) + k) := by
  have h2 := h
  rw [Int.toNat_natCast, ext_size'] at h2
  have e : ((at_ : Int) + k).toNat = at_ + k := by omega
  unfold bt
  rw [dif_pos (by rw [e]; omega)]
  simp only [e, ByteArray.getElem_extract, Int.toNat_natCast]
def bkF (nb : Bool) (r : Bool × Nat × BS) : Nat × BS := (if nb = true then (if r.1 = true then full ^^^ r.2.1 else 0) else r.2.1, r.2.2)
theorem bkF_t (m : Nat) (S : BS) : bkF true (true, m, S) = (full ^^^ m, S) := by simp [bkF]
theorem bkF_f (m : Nat) (S : BS) : bkF false (true, m, S) = (m, S) := by simp [bkF]
set_option maxHeartbeats 16000000 in
set_option maxRecDepth 100000 in
theorem bracketW (w : World) (base b : Nat) (s : ByteArray) (S : BS) (h : BAt w base b s S) (hs : s.size ≤ 200) (ha : S.at_ ≤ s.size) :
    Calls Try.prog 60 #[.pointer (some ⟨b, 0, none⟩)] w fun r w' => r = .returned (setV (bracketB s S).1) ∧ BAt w' base b s (bracketB s S).2 ∧ Fr base b none w w' := by
  have hu98 := Try.underlying98
  have hu69 := Try.underlying69
  have HS := Aside0.mk h
  have HH := Aside0.mk (⟨hs, ha⟩ : s.size ≤ 200 ∧ S.at_ ≤ s.size)
  clear h hs ha
  go_enter Try.func60, Try.ntmps60
  go_wp2_with (first | ((with_reducible refine gate_dst (N := 2) rfl ?_); (try (refine gate_guard (by rfl) ?_; dsimp only)); refine box_event ?hg (N := 2) ?hd (cs := sC 0) (t := 98) ?hr ?_; (case hd => rfl); (case hg => rfl); (case hr => first | (go_simp; done) | (go_simp; rfl)); intro p ep wp hp lp; have Ep := Aside0.mk ep; clear ep) | ((with_reducible refine gate_dst (N := 3) rfl ?_); (try (refine gate_guard (by rfl) ?_; dsimp only)); refine box_event ?hg (N := 3) ?hd (cs := sC 0) (t := 98) ?hr ?_; (case hd => rfl); (case hg => rfl); (case hr => first | (go_simp; done) | (go_simp; rfl)); intro u eu wu hu lu; have Eu := Aside0.mk eu; clear eu) | fail)
  have hlp := below_then lp lp.size lu
  have hbs := HS.out.base_le
  have HW := Aside0.mk (⟨by have := Ep.out; omega, by have := Ep.out; have := HS.out.lt; omega, by have := Eu.out; have := lp.size; omega, by have := Eu.out; have := lp.size; have := HS.out.lt; omega, by have := Eu.out; have := blk_lt hp; omega, hbs⟩ : w.heap.size ≤ p ∧ p ≠ b ∧ w.heap.size ≤ u ∧ u ≠ b ∧ u ≠ p ∧ base ≤ w.heap.size)
  refine (peekW wu base b s S (HS.out.below hlp)).mono ?_
  rintro e w3 ⟨rfl, hb3⟩
  have HB3 := Aside0.mk ((HS.out.below hlp).below hb3)
  have HF3 := Aside0.mk (Fr.of (b := b) (O := none) hbs (below_then hlp hlp.size hb3))
  have HP := Aside0.mk (blk_below (blk_below hp lu) hb3)
  have HU := Aside0.mk (blk_below hu hb3)
  clear hlp hbs hp hu lp lu hb3
  obtain ⟨c0, hc0⟩ : ∃ c, peekB s S = c := ⟨_, rfl⟩
  rw [hc0]
  obtain ⟨z, hz⟩ : ∃ z, S.at_ = z := ⟨_, rfl⟩
  obtain ⟨hb1, vs, hb2, hR2⟩ := HB3.out
  have x1 : w3.cell? ⟨b, 1, none⟩ = some (.int .i64 z) := by rw [← hz]; exact (blk_cell hb2 1).trans rfl
  have f1 := blk_frozen hb2 1
  have hat : (z : Int) + 1 < 9223372036854775808 := by have := HH.out; omega
  have HZ := Aside0.mk (⟨hz, hc0⟩ : S.at_ = z ∧ peekB s S = c0)
  clear hb2 hR2 hb1 hz hc0
  cases hn : ((c0.getD 0) == 94)
  case' false =>
    go_wp2_with (fail)
    obtain ⟨z1, hz1⟩ : ∃ z1, z = z1 := ⟨_, rfl⟩
    have HX := Aside0.mk (show bracketB s S = bkF false (brL s z1 (s.size + 1) 0 ⟨z1, S.F, S.st⟩) ∧ z1 ≤ s.size from ⟨by
      rw [bracketB, if_neg (fun e => by rw [HZ.out.2] at e; rw [e] at hn; simp at hn), ← hz1, ← HZ.out.1]; rfl, by rw [← hz1, ← HZ.out.1]; exact HH.out.2⟩)
    have HB4 := Aside0.mk (show BAt w3 base b s ⟨z1, S.F, S.st⟩ by rw [← hz1, ← HZ.out.1]; exact HB3.out)
    have HF4 := HF3
    have HP4 := HP
    have HU4 := HU
    rw [hz1]
    clear hz1 HB3 HF3 HP HU x1 f1
    generalize w3 = w4 at *
    clear hn hat
  case' true =>
    go_wp2_with (fail)
    have hinc := HB3.out.inc 1 ((z : Int) + 1) (by rw [← HZ.out.1]; simp)
    have HP4 := Aside0.mk ((Below.heap_setCell w3 ⟨b, 1, none⟩ (.int .i64 ((z : Int) + 1)) p HW.out.2.1).trans HP.out)
    have HU4 := Aside0.mk ((Below.heap_setCell w3 ⟨b, 1, none⟩ (.int .i64 ((z : Int) + 1)) u HW.out.2.2.2.1).trans HU.out)
    obtain ⟨z1, hz1⟩ : ∃ z1 : Nat, (z : Int) + 1 = (z1 : Int) := ⟨z + 1, by simp⟩
    have hz2 : z1 = z + 1 := by omega
    have hpk : peekB s S = some 94 := by
      rw [HZ.out.2]
      cases c0 with
      | none => simp at hn
      | some c => simp at hn; rw [hn]
    have HX := Aside0.mk (show bracketB s S = bkF true (brL s z1 (s.size + 1) 0 ⟨z1, S.F, S.st⟩) ∧ z1 ≤ s.size from ⟨by
      rw [bracketB, if_pos hpk, hz2, ← HZ.out.1]; rfl, by rw [hz2, ← HZ.out.1]; exact (peek_lt hpk).1⟩)
    have HB4 := Aside0.mk (show BAt (w3.setCell ⟨b, 1, none⟩ (.int .i64 ((z : Int) + 1))) base b s ⟨z1, S.F, S.st⟩ by rw [hz2, ← HZ.out.1]; have := hinc.1; rw [← HZ.out.1] at this; exact this)
    have HF4 := Aside0.mk (HF3.out.trans hinc.2)
    rw [hz1] at HP4 HU4 HB4 HF4
    rw [hz1]
    clear hz1 hz2 HB3 HF3 HP HU x1 f1 hinc hpk
    generalize World.setCell w3 ⟨b, 1, none⟩ (.int .i64 (z1 : Int)) = w4 at *
    clear hn hat
  all_goals
    obtain ⟨N, hN⟩ : ∃ N, s.size + 1 = N := ⟨_, rfl⟩
    obtain ⟨X, hXX⟩ : ∃ X, brL s z1 (s.size + 1) 0 ⟨z1, S.F, S.st⟩ = X := ⟨_, rfl⟩
    have HXX := Aside0.mk (⟨by rw [← hN]; exact hXX, hN⟩ : brL s z1 N 0 ⟨z1, S.F, S.st⟩ = X ∧ s.size + 1 = N)
    rw [hXX] at HX
    clear hN hXX
    go_loopg [8] (N + 1) (fun kq v8 wr => ∃ (n m : Nat) (S' : BS), v8 = v8 ∧ Aside0 (n + 1 = kq ∧ s.size < S'.at_ + n ∧ brL s z1 n m S' = X ∧ S'.at_ ≤ s.size) ∧ Aside0 (BAt wr base b s S') ∧ Aside0 (wr.heap[u]? = some (.cells (sC m) TE (0, 0))) ∧ Aside0 (wr.heap[p]? = some (.cells (sC 0) TE (0, 0))) ∧ Aside0 (Fr base b none w wr))
    case atStart => exact ⟨N, 0, _, rfl, ⟨rfl, by have := HXX.out.2; show s.size < z1 + N; omega, HXX.out.1, HX.out.2⟩, HB4, HU4, HP4, HF4⟩
    case round =>
      clear HB4 HU4 HP4 HF4 HXX
      obtain ⟨n, m, S', -, HI, HB, HU', HP', HF⟩ := hrel
      have ihP := peekW wr base b s S' HB.out
      obtain ⟨c, hc⟩ : ∃ c, peekB s S' = c := ⟨_, rfl⟩
      rw [hc] at ihP
      have HC := Aside0.mk hc
      clear hc
      go_wp2_with (fail)
      refine ihP.mono ?_
      rintro e wx ⟨rfl, hbx⟩
      have hBx := HB.out.below hbx
      have HUx := Aside0.mk (blk_below HU'.out hbx)
      have HPx := Aside0.mk (blk_below HP'.out hbx)
      have HFx := Aside0.mk (HF.out.trans (Fr.of HB.out.base_le hbx))
      have HBx := Aside0.mk hBx
      have hbk := hBx.2.choose_spec.1
      have x0 : wx.cell? ⟨b, 0, none⟩ = some (.string s) := (blk_cell hbk 0).trans rfl
      have x1 : wx.cell? ⟨b, 1, none⟩ = some (.int .i64 S'.at_) := (blk_cell hbk 1).trans rfl
      have f1 := blk_frozen hbk 1
      clear hbx ihP HB HU' HP' HF hBx hbk
      cases c with
      | none =>
        have hX := HI.out.2.2.1
        rw [brL_stop s z1 n m S' HC.out] at hX
        have HE := Aside0.mk hX
        clear hX
        go_wp2_with (fail)
        refine (wrongW wx base b s S' 3 s.size HBx.out).mono ?_
        rintro e wy ⟨rfl, hBy, hFy⟩
        have hp := hFy.blk HPx.out HW.out.2.1 (by simp) (by decide)
        have HBy := Aside0.mk hBy
        have HFy := Aside0.mk (HFx.out.trans hFy)
        clear hBy hFy
        have p_0 : wy.cell? ⟨p, 0, none⟩ = some (.int .u64 (wd 0 0)) := (blk_cell hp 0).trans rfl; have p_1 : wy.cell? ⟨p, 1, none⟩ = some (.int .u64 (wd 0 1)) := (blk_cell hp 1).trans rfl; have p_2 : wy.cell? ⟨p, 2, none⟩ = some (.int .u64 (wd 0 2)) := (blk_cell hp 2).trans rfl; have p_3 : wy.cell? ⟨p, 3, none⟩ = some (.int .u64 (wd 0 3)) := (blk_cell hp 3).trans rfl; have fp_0 := blk_frozen hp 0; have fp_1 := blk_frozen hp 1; have fp_2 := blk_frozen hp 2; have fp_3 := blk_frozen hp 3
        go_wp2_with (fail)
        have hr := ret_set HW.out.2.2.2.2.2 hp HW.out.1 HW.out.2.1 HBy.out HFy.out 0 0 0 0 _ rfl
        (obtain ⟨w9, hw9⟩ : ∃ w9, World.setCell (World.setCell (World.setCell (World.setCell wy ⟨p, 0, none⟩ (.int .u64 (0))) ⟨p, 1, none⟩ (.int .u64 (0))) ⟨p, 2, none⟩ (.int .u64 (0))) ⟨p, 3, none⟩ (.int .u64 (0)) = w9 := ⟨_, rfl⟩; rw [hw9] at hr; rw [hw9]; clear hw9; obtain ⟨r0, r1, r2, r3, hBr, hFr⟩ := hr; refine bodyPost_ret (by simp [results, Try.results60, go_sem, r0, r1, r2, r3, hu98]; try rfl) rfl ?_)
        rw [HX.out.1, ← HE.out]
        exact ⟨by show _ = Ending.returned (setV 0); rw [setV0]; try rfl, hBr, hFr⟩
      | some c =>
        have hbr := bt_range s S'.at_
        have hcl := peek_lt HC.out
        obtain ⟨l, rfl⟩ : ∃ l, n = l + 1 := ⟨n - 1, by have := HI.out.2.1; omega⟩
        obtain ⟨k1, rfl⟩ : ∃ k1, gk = k1 + 1 := ⟨gk - 1, by have := HI.out; omega⟩
        have hc0 : 0 ≤ c ∧ c ≤ 255 := by rw [hcl.2.2]; exact hbr
        have hX := HI.out.2.2.1
        rw [brL_go s z1 l m S' c HC.out] at hX
        obtain ⟨a, haa⟩ : ∃ a : Int, (S'.at_ : Int) = a := ⟨_, rfl⟩
        rw [haa] at x1
        have hat : a + 1 < 9223372036854775808 := by have := HH.out; have := hcl.1; omega
        have hat3 : a + 3 < 9223372036854775808 := by have := HH.out; have := hcl.1; omega
        have hat0 : 0 ≤ a := by omega
        have hats : S'.at_ < s.size := hcl.1
        have HAA := Aside0.mk haa
        have hcb := hcl.2.2
        clear hbr hcl
        by_cases h1 : c = 93 ∧ z1 < S'.at_
        · rw [if_pos h1] at hX
          have HE := Aside0.mk hX
          have d1 : decide ((z1 : Int) < a) = true := decide_eq_true (by omega)
          obtain ⟨rfl, -⟩ := h1
          have HCB := Aside0.mk (⟨hcb, hats⟩ : (93 : Int) = bt s S'.at_ ∧ S'.at_ < s.size)
          clear hX hcb hats hc0 hat3 haa
          have hu := HUx.out
          have hp := HPx.out
          have nub : u ≠ b := HW.out.2.2.2.1
          have npb : p ≠ b := HW.out.2.1
          have nup : u ≠ p := HW.out.2.2.2.2.1
          have npu : p ≠ u := fun e => nup e.symm
          have u_0 : wx.cell? ⟨u, 0, none⟩ = some (.int .u64 (wd m 0)) := (blk_cell hu 0).trans rfl; have u_1 : wx.cell? ⟨u, 1, none⟩ = some (.int .u64 (wd m 1)) := (blk_cell hu 1).trans rfl; have u_2 : wx.cell? ⟨u, 2, none⟩ = some (.int .u64 (wd m 2)) := (blk_cell hu 2).trans rfl; have u_3 : wx.cell? ⟨u, 3, none⟩ = some (.int .u64 (wd m 3)) := (blk_cell hu 3).trans rfl; have fu_0 := blk_frozen hu 0; have fu_1 := blk_frozen hu 1; have fu_2 := blk_frozen hu 2; have fu_3 := blk_frozen hu 3
          have p_0 : wx.cell? ⟨p, 0, none⟩ = some (.int .u64 (wd 0 0)) := (blk_cell hp 0).trans rfl; have p_1 : wx.cell? ⟨p, 1, none⟩ = some (.int .u64 (wd 0 1)) := (blk_cell hp 1).trans rfl; have p_2 : wx.cell? ⟨p, 2, none⟩ = some (.int .u64 (wd 0 2)) := (blk_cell hp 2).trans rfl; have p_3 : wx.cell? ⟨p, 3, none⟩ = some (.int .u64 (wd 0 3)) := (blk_cell hp 3).trans rfl; have fp_0 := blk_frozen hp 0; have fp_1 := blk_frozen hp 1; have fp_2 := blk_frozen hp 2; have fp_3 := blk_frozen hp 3
          obtain ⟨m0, hm0⟩ : ∃ a, wd m 0 = a := ⟨_, rfl⟩
          obtain ⟨m1, hm1⟩ : ∃ a, wd m 1 = a := ⟨_, rfl⟩
          obtain ⟨m2, hm2⟩ : ∃ a, wd m 2 = a := ⟨_, rfl⟩
          obtain ⟨m3, hm3⟩ : ∃ a, wd m 3 = a := ⟨_, rfl⟩
          rw [hm0] at u_0
          rw [hm1] at u_1
          rw [hm2] at u_2
          rw [hm3] at u_3
          have HM := Aside0.mk (⟨hm0, hm1, hm2, hm3⟩ : wd m 0 = m0 ∧ wd m 1 = m1 ∧ wd m 2 = m2 ∧ wd m 3 = m3)
          clear hm0 hm1 hm2 hm3 hu hp
          go_wp2_with (fail)
          have hinc := HBx.out.inc 1 (a + 1) (by rw [← HAA.out]; simp)
          have hu := (Below.heap_setCell wx ⟨b, 1, none⟩ (.int .i64 (a + 1)) u nub).trans HUx.out
          have hp := (Below.heap_setCell wx ⟨b, 1, none⟩ (.int .i64 (a + 1)) p npb).trans HPx.out
          have HBy := Aside0.mk hinc.1
          have HFy := Aside0.mk (HFx.out.trans hinc.2)
          clear hinc x0 x1 f1 u_0 u_1 u_2 u_3 fu_0 fu_1 fu_2 fu_3 p_0 p_1 p_2 p_3 fp_0 fp_1 fp_2 fp_3
          obtain ⟨wy, hwy⟩ : ∃ wy, World.setCell wx ⟨b, 1, none⟩ (.int .i64 (a + 1)) = wy := ⟨_, rfl⟩
          rw [hwy] at hu hp HBy HFy
          rw [hwy]
          clear hwy hat hat0 d1
          first
            | (have hr := ret_set HW.out.2.2.2.2.2 hp HW.out.1 HW.out.2.1 HBy.out HFy.out m0 m1 m2 m3 _ rfl
               (obtain ⟨w9, hw9⟩ : ∃ w9, World.setCell (World.setCell (World.setCell (World.setCell wy ⟨p, 0, none⟩ (.int .u64 (m0))) ⟨p, 1, none⟩ (.int .u64 (m1))) ⟨p, 2, none⟩ (.int .u64 (m2))) ⟨p, 3, none⟩ (.int .u64 (m3)) = w9 := ⟨_, rfl⟩; rw [hw9] at hr; rw [hw9]; clear hw9; obtain ⟨r0, r1, r2, r3, hBr, hFr⟩ := hr; refine bodyPost_ret (by simp [results, Try.results60, go_sem, r0, r1, r2, r3, hu98]; try rfl) rfl ?_)
               rw [HX.out.1, ← HE.out, bkF_f]
               refine ⟨?_, hBr, hFr⟩
               rw [← HM.out.1, ← HM.out.2.1, ← HM.out.2.2.1, ← HM.out.2.2.2]
               rfl)
            | skip
          all_goals
            have HUy := Aside0.mk hu
            have HPy := Aside0.mk hp
            clear hu hp nub npb
            go_loopg [119] 5 (fun kq v119 wr => ∃ (i : Nat), v119 = .int .i64 (i : Int) ∧ Aside0 (i + kq = 5 ∧ i ≤ 4) ∧ Aside0 (BAt wr base b s (skip S' 1)) ∧ Aside0 (wr.heap[u]? = some (.cells (cmC m i) TE (0, 0))) ∧ Aside0 (wr.heap[p]? = some (.cells (sC 0) TE (0, 0))) ∧ Aside0 (Fr base b none w wr))
            case atStart => exact ⟨0, rfl, ⟨rfl, by omega⟩, HBy, HUy, HPy, HFy⟩
            case round =>
              clear HBy HUy HPy HFy
              obtain ⟨i, rfl, HI2, HB2, HU2, HP2, HF2⟩ := hrel
              by_cases hi : i < 4
              · obtain ⟨k2, rfl⟩ : ∃ k2, gk = k2 + 1 := ⟨gk - 1, by have := HI2.out; omega⟩
                have d0 : decide ((i : Int) < 4) = true := decide_eq_true (by omega)
                have d2 : (i : Int) < 4 := by omega
                have d3 : (0 : Int) ≤ (i : Int) := by omega
                have y0 : wr.cell? ⟨u, i, none⟩ = some (.int .u64 (wd m i)) := (blk_cell HU2.out i).trans (cmC_at m i hi)
                have yf := blk_frozen HU2.out i
                obtain ⟨mi, hmi⟩ : ∃ x, wd m i = x := ⟨_, rfl⟩
                rw [hmi] at y0
                have HMI := Aside0.mk hmi
                clear hmi
                go_wp2_with (fail)
                have hv : bits .xor .u64 IntKind.u64.max mi = wd (full ^^^ m) i := by rw [← HMI.out]; exact xor_wd m i hi
                rw [hv]
                have HU3 := Aside0.mk ((blk_set HU2.out i (.int .u64 (wd (full ^^^ m) i))).trans (by rw [cmC_step m i hi]))
                have HB3 := Aside0.mk (HB2.out.other HU2.out (by decide) HW.out.2.2.2.1 i (.int .u64 (wd (full ^^^ m) i)))
                have HP3 := Aside0.mk ((Below.heap_setCell wr ⟨u, i, none⟩ (.int .u64 (wd (full ^^^ m) i)) p (fun e => HW.out.2.2.2.2.1 e.symm)).trans HP2.out)
                have HF3 := Aside0.mk (HF2.out.new HW.out.2.2.2.2.2 HW.out.2.2.1 i (.int .u64 (wd (full ^^^ m) i)))
                clear hv y0 yf
                go_roundg k2
                case measure => have := HI2.out; omega
                case rel => exact ⟨i + 1, by first | rfl | simp, ⟨by have := HI2.out; omega, by omega⟩, HB3, HU3, HP3, HF3⟩
              · have d0 : decide ((i : Int) < 4) = false := decide_eq_false (by omega)
                have hi4 : i = 4 := by have := HI2.out; omega
                subst hi4
                have hu : wr.heap[u]? = some (.cells (sC (full ^^^ m)) TE (0, 0)) := by rw [← cmC4]; exact HU2.out
                have hp := HP2.out
                have u_0 : wr.cell? ⟨u, 0, none⟩ = some (.int .u64 (wd (full ^^^ m) 0)) := (blk_cell hu 0).trans rfl; have u_1 : wr.cell? ⟨u, 1, none⟩ = some (.int .u64 (wd (full ^^^ m) 1)) := (blk_cell hu 1).trans rfl; have u_2 : wr.cell? ⟨u, 2, none⟩ = some (.int .u64 (wd (full ^^^ m) 2)) := (blk_cell hu 2).trans rfl; have u_3 : wr.cell? ⟨u, 3, none⟩ = some (.int .u64 (wd (full ^^^ m) 3)) := (blk_cell hu 3).trans rfl; have fu_0 := blk_frozen hu 0; have fu_1 := blk_frozen hu 1; have fu_2 := blk_frozen hu 2; have fu_3 := blk_frozen hu 3
                have p_0 : wr.cell? ⟨p, 0, none⟩ = some (.int .u64 (wd 0 0)) := (blk_cell hp 0).trans rfl; have p_1 : wr.cell? ⟨p, 1, none⟩ = some (.int .u64 (wd 0 1)) := (blk_cell hp 1).trans rfl; have p_2 : wr.cell? ⟨p, 2, none⟩ = some (.int .u64 (wd 0 2)) := (blk_cell hp 2).trans rfl; have p_3 : wr.cell? ⟨p, 3, none⟩ = some (.int .u64 (wd 0 3)) := (blk_cell hp 3).trans rfl; have fp_0 := blk_frozen hp 0; have fp_1 := blk_frozen hp 1; have fp_2 := blk_frozen hp 2; have fp_3 := blk_frozen hp 3
                obtain ⟨n0, hn0⟩ : ∃ a, wd (full ^^^ m) 0 = a := ⟨_, rfl⟩
                obtain ⟨n1, hn1⟩ : ∃ a, wd (full ^^^ m) 1 = a := ⟨_, rfl⟩
                obtain ⟨n2, hn2⟩ : ∃ a, wd (full ^^^ m) 2 = a := ⟨_, rfl⟩
                obtain ⟨n3, hn3⟩ : ∃ a, wd (full ^^^ m) 3 = a := ⟨_, rfl⟩
                rw [hn0] at u_0
                rw [hn1] at u_1
                rw [hn2] at u_2
                rw [hn3] at u_3
                have HNN := Aside0.mk (⟨hn0, hn1, hn2, hn3⟩ : wd (full ^^^ m) 0 = n0 ∧ wd (full ^^^ m) 1 = n1 ∧ wd (full ^^^ m) 2 = n2 ∧ wd (full ^^^ m) 3 = n3)
                have HHP := Aside0.mk hp
                clear hn0 hn1 hn2 hn3 hu hp
                go_wp2_with (fail)
                have hr := ret_set HW.out.2.2.2.2.2 HHP.out HW.out.1 HW.out.2.1 HB2.out HF2.out n0 n1 n2 n3 _ rfl
                (obtain ⟨w9, hw9⟩ : ∃ w9, World.setCell (World.setCell (World.setCell (World.setCell wr ⟨p, 0, none⟩ (.int .u64 (n0))) ⟨p, 1, none⟩ (.int .u64 (n1))) ⟨p, 2, none⟩ (.int .u64 (n2))) ⟨p, 3, none⟩ (.int .u64 (n3)) = w9 := ⟨_, rfl⟩; rw [hw9] at hr; rw [hw9]; clear hw9; obtain ⟨r0, r1, r2, r3, hBr, hFr⟩ := hr; refine bodyPost_ret (by simp [results, Try.results60, go_sem, r0, r1, r2, r3, hu98]; try rfl) rfl ?_)
                rw [HX.out.1, ← HE.out, bkF_t]
                refine ⟨?_, hBr, hFr⟩
                rw [← HNN.out.1, ← HNN.out.2.1, ← HNN.out.2.2.1, ← HNN.out.2.2.2]
                rfl
        · rw [if_neg h1] at hX
          have hlo : a ≤ (s.size : Int) := by omega
          have h93 : (c == 93) = false ∨ ((c == 93) = true ∧ decide ((z1 : Int) < a) = false) := by
            by_cases h : c = 93
            · exact .inr ⟨beq_iff_eq.2 h, decide_eq_false (fun e => h1 ⟨h, by omega⟩)⟩
            · exact .inl (beq_false_of_ne h)
          have HX2 := Aside0.mk (⟨hX, hc0, hcb, hats⟩ : _ ∧ (0 ≤ c ∧ c ≤ 255) ∧ c = bt s S'.at_ ∧ S'.at_ < s.size)
          clear hX hc0 hcb hats h1 haa
          rcases h93 with h93 | ⟨h93, h94⟩
          all_goals
            go_wp2_with (fail)
            go_quiet (fail)
            have hbz : Below wx.heap.size wx (wx.drewN nq) := below_draws (Below.refl _ _) nq
            have HBz := Aside0.mk (HBx.out.below hbz)
            have HUz := Aside0.mk (blk_below HUx.out hbz)
            have HPz := Aside0.mk (blk_below HPx.out hbz)
            have HFz := Aside0.mk (HFx.out.trans (Fr.of HBx.out.base_le hbz))
            clear hbz x0 x1 f1 HBx HUx HPx HFx
            generalize wx.drewN nq = wz at *
            have hbk := HBz.out.2.choose_spec.1
            have x0 : wz.cell? ⟨b, 0, none⟩ = some (.string s) := (blk_cell hbk 0).trans rfl
            have x1 : wz.cell? ⟨b, 1, none⟩ = some (.int .i64 a) := by rw [← HAA.out]; exact (blk_cell hbk 1).trans rfl
            have f1 := blk_frozen hbk 1
            obtain ⟨X, hXe⟩ : ∃ X, s.extract a.toNat s.size = X := ⟨_, rfl⟩
            have hXs : X.size = s.size - S'.at_ := by rw [← hXe, ← HAA.out, Int.toNat_natCast]; exact ext_size' s S'.at_
            have hXb : ∀ k (h : k < X.size), ((X[k]'h).toNat : Int) = bt s ((S'.at_ : Int) + k) := by
              intro k h
              have e := HAA.out
              subst e
              subst hXe
              exact ext_bt s S'.at_ k h
            rw [hXe]
            have HXB := Aside0.mk hXb
            have HXS := Aside0.mk hXs
            clear hbk hXe
            have hXI := HX2.out.1
            by_cases hA : s.size - S'.at_ < 3 ∨ bt s ((S'.at_ : Int) + 1) ≠ 45 ∨ bt s ((S'.at_ : Int) + 2) = 93
            · rw [if_pos hA] at hXI
              have hfc : decide ((X.size : Int) < 3) = true ∨ (decide ((X.size : Int) < 3) = false ∧ ∃ (h1 : 1 < X.size) (h2 : 2 < X.size), (((X[1]'h1).toNat : Int) == 45) = false) ∨ (decide ((X.size : Int) < 3) = false ∧ ∃ (h1 : 1 < X.size) (h2 : 2 < X.size), ((X[1]'h1).toNat : Int) = 45 ∧ ((X[2]'h2).toNat : Int) = 93) := by
                by_cases h3 : X.size < 3
                · exact .inl (decide_eq_true (by omega))
                · have e1 := hXb 1 (by omega)
                  have e2 := hXb 2 (by omega)
                  by_cases h45 : bt s ((S'.at_ : Int) + 1) = 45
                  · refine .inr (.inr ⟨decide_eq_false (by omega), by omega, by omega, ?_, ?_⟩)
                    · exact e1.trans h45
                    · rcases hA with h | h | h
                      · omega
                      · exact absurd h45 h
                      · exact e2.trans h
                  · exact .inr (.inl ⟨decide_eq_false (by omega), by omega, by omega, beq_false_of_ne (fun e => h45 (e1.symm.trans e))⟩)
              have hcn : c = ((c.toNat : Nat) : Int) := by have := HX2.out.2.1; omega
              obtain ⟨cn, hcn'⟩ : ∃ cn, c.toNat = cn := ⟨_, rfl⟩
              rw [hcn'] at hcn hXI
              have HE := Aside0.mk hXI
              have HCN := Aside0.mk (⟨hcn, hcn'⟩ : c = (cn : Int) ∧ c.toNat = cn)
              clear hXI hXb hXs hA hcn hcn'
              rcases hfc with g1 | ⟨g1, gh1, gh2, g2⟩ | ⟨g1, gh1, gh2, g2, g3⟩
              all_goals
                have hcn := HCN.out.1
                subst hcn
              all_goals go_wp2_with (fail)
              all_goals
                refine (setAddW wz u m cn cn HUz.out (by have := HX2.out.2.1; omega) (by have := HX2.out.2.1; omega)).mono ?_
                rintro e w5 ⟨rfl, hq5, hO5⟩
                rw [show cn + 1 - cn = 1 by omega] at hq5
                have HU5 := Aside0.mk hq5
                have HB5 := Aside0.mk (HBz.out.one hO5 HUz.out (by decide) HW.out.2.2.2.1 (Nat.le_trans HW.out.2.2.2.2.2 HW.out.2.2.1))
                have HP5 := Aside0.mk ((hO5.keep p (fun e => HW.out.2.2.2.2.1 e.symm)).trans HPz.out)
                have HF5 := Aside0.mk (HFz.out.one hO5 HW.out.2.2.2.2.2 HW.out.2.2.1)
                have hbk := HB5.out.2.choose_spec.1
                have x1 : w5.cell? ⟨b, 1, none⟩ = some (.int .i64 a) := by rw [← HAA.out]; exact (blk_cell hbk 1).trans rfl
                have f1 := blk_frozen hbk 1
                clear hq5 hO5 hbk
                go_wp2_with (fail)
                have hinc := HB5.out.inc 1 (a + 1) (by rw [← HAA.out]; simp)
                have HB6 := Aside0.mk hinc.1
                have HU6 := Aside0.mk ((Below.heap_setCell w5 ⟨b, 1, none⟩ (.int .i64 (a + 1)) u HW.out.2.2.2.1).trans HU5.out)
                have HP6 := Aside0.mk ((Below.heap_setCell w5 ⟨b, 1, none⟩ (.int .i64 (a + 1)) p HW.out.2.1).trans HP5.out)
                have HF6 := Aside0.mk (HF5.out.trans hinc.2)
                clear hinc x1 f1
                go_roundg k1
                case measure => have := HI.out; omega
                case rel => exact ⟨l, _, skip S' 1, trivial, ⟨by have := HI.out; omega, by have := HI.out.2.1; show _ < S'.at_ + 1 + l; omega, HE.out, by have := HX2.out.2.2.2; show S'.at_ + 1 ≤ _; omega⟩, HB6, HU6, HP6, HF6⟩
            · rw [if_neg hA] at hXI
              have h3 : 3 ≤ s.size - S'.at_ := Nat.le_of_not_lt (fun e => hA (.inl e))
              have HN3 := Aside0.mk h3
              have h45 : bt s ((S'.at_ : Int) + 1) = 45 := Classical.byContradiction (fun e => hA (.inr (.inl e)))
              have h93' : ¬ bt s ((S'.at_ : Int) + 2) = 93 := fun e => hA (.inr (.inr e))
              have gh1 : 1 < X.size := by omega
              have gh2 : 2 < X.size := by omega
              have e1 := hXb 1 gh1
              have e2 := hXb 2 gh2
              have g1 : decide ((X.size : Int) < 3) = false := decide_eq_false (by omega)
              have g2 : ((X[1]'gh1).toNat : Int) = 45 := e1.trans h45
              have g3 : (((X[2]'gh2).toNat : Int) == 93) = false := beq_false_of_ne (fun e => h93' (e2.symm.trans e))
              obtain ⟨yn, hyn⟩ : ∃ yn : Nat, (X[2]'gh2).toNat = yn := ⟨_, rfl⟩
              have hy2 : bt s ((S'.at_ : Int) + 2) = (yn : Int) := by rw [← hyn]; exact e2.symm
              have hy3 : yn < 256 := by rw [← hyn]; exact (X[2]'gh2).toNat_lt
              rw [hy2] at hXI
              have HY := Aside0.mk (⟨hyn, hy3⟩ : (X[2]'gh2).toNat = yn ∧ yn < 256)
              have e3 : ((X[2]'gh2).toNat : Int) = (yn : Int) := by rw [hyn]
              have hcn : c = ((c.toNat : Nat) : Int) := by have := HX2.out.2.1; omega
              obtain ⟨cn, hcn'⟩ : ∃ cn, c.toNat = cn := ⟨_, rfl⟩
              rw [hcn'] at hcn hXI
              rw [Int.toNat_natCast] at hXI
              have HCN := Aside0.mk (⟨hcn, hcn'⟩ : c = (cn : Int) ∧ c.toNat = cn)
              by_cases hD : (yn : Int) < c
              · rw [if_pos hD] at hXI
                have HE := Aside0.mk hXI
                have g4 : decide (((X[2]'gh2).toNat : Int) < c) = true := decide_eq_true (by rw [e3]; exact hD)
                have hw := wrongW wz base b s S' 2 (S'.at_ + 1) HBz.out
                rw [show ((S'.at_ + 1 : Nat) : Int) = a + 1 by rw [← HAA.out]; simp] at hw
                clear hXI hXb hXs hA hcn hcn' h3 h45 h93' hy2 hy3 hyn e1 e2 e3 hD
                go_wp2_with (fail)
                refine hw.mono ?_
                rintro e wy ⟨rfl, hBy, hFy⟩
                have hp := hFy.blk HPz.out HW.out.2.1 (by simp) (by decide)
                have HBy := Aside0.mk hBy
                have HFy := Aside0.mk (HFz.out.trans hFy)
                clear hBy hFy hw
                have p_0 : wy.cell? ⟨p, 0, none⟩ = some (.int .u64 (wd 0 0)) := (blk_cell hp 0).trans rfl; have p_1 : wy.cell? ⟨p, 1, none⟩ = some (.int .u64 (wd 0 1)) := (blk_cell hp 1).trans rfl; have p_2 : wy.cell? ⟨p, 2, none⟩ = some (.int .u64 (wd 0 2)) := (blk_cell hp 2).trans rfl; have p_3 : wy.cell? ⟨p, 3, none⟩ = some (.int .u64 (wd 0 3)) := (blk_cell hp 3).trans rfl; have fp_0 := blk_frozen hp 0; have fp_1 := blk_frozen hp 1; have fp_2 := blk_frozen hp 2; have fp_3 := blk_frozen hp 3
                go_wp2_with (fail)
                have hr := ret_set HW.out.2.2.2.2.2 hp HW.out.1 HW.out.2.1 HBy.out HFy.out 0 0 0 0 _ rfl
                (obtain ⟨w9, hw9⟩ : ∃ w9, World.setCell (World.setCell (World.setCell (World.setCell wy ⟨p, 0, none⟩ (.int .u64 (0))) ⟨p, 1, none⟩ (.int .u64 (0))) ⟨p, 2, none⟩ (.int .u64 (0))) ⟨p, 3, none⟩ (.int .u64 (0)) = w9 := ⟨_, rfl⟩; rw [hw9] at hr; rw [hw9]; clear hw9; obtain ⟨r0, r1, r2, r3, hBr, hFr⟩ := hr; refine bodyPost_ret (by simp [results, Try.results60, go_sem, r0, r1, r2, r3, hu98]; try rfl) rfl ?_)
                rw [HX.out.1, ← HE.out]
                exact ⟨by show _ = Ending.returned (setV 0); rw [setV0]; try rfl, hBr, hFr⟩
              · rw [if_neg hD] at hXI
                have HE := Aside0.mk hXI
                have g4 : decide (((X[2]'gh2).toNat : Int) < c) = false := decide_eq_false (by rw [e3]; exact hD)
                clear hXI hXb hXs hA h3 h45 h93' hy2 hy3 hyn e1 e2 e3 hD hcn'
                have hsa := setAddW wz u m cn (X[2]'gh2).toNat HUz.out (by have := HX2.out.2.1; omega) (X[2]'gh2).toNat_lt
                rw [← hcn] at hsa
                clear hcn
                go_wp2_with (fail)
                refine hsa.mono ?_
                rintro e w5 ⟨rfl, hq5, hO5⟩
                rw [HY.out.1] at hq5
                have HU5 := Aside0.mk hq5
                have HB5 := Aside0.mk (HBz.out.one hO5 HUz.out (by decide) HW.out.2.2.2.1 (Nat.le_trans HW.out.2.2.2.2.2 HW.out.2.2.1))
                have HP5 := Aside0.mk ((hO5.keep p (fun e => HW.out.2.2.2.2.1 e.symm)).trans HPz.out)
                have HF5 := Aside0.mk (HFz.out.one hO5 HW.out.2.2.2.2.2 HW.out.2.2.1)
                have hbk := HB5.out.2.choose_spec.1
                have x1 : w5.cell? ⟨b, 1, none⟩ = some (.int .i64 a) := by rw [← HAA.out]; exact (blk_cell hbk 1).trans rfl
                have f1 := blk_frozen hbk 1
                clear hq5 hO5 hbk hsa
                go_wp2_with (fail)
                have hinc := HB5.out.inc 3 (a + 3) (by rw [← HAA.out]; simp)
                have HB6 := Aside0.mk hinc.1
                have HU6 := Aside0.mk ((Below.heap_setCell w5 ⟨b, 1, none⟩ (.int .i64 (a + 3)) u HW.out.2.2.2.1).trans HU5.out)
                have HP6 := Aside0.mk ((Below.heap_setCell w5 ⟨b, 1, none⟩ (.int .i64 (a + 3)) p HW.out.2.1).trans HP5.out)
                have HF6 := Aside0.mk (HF5.out.trans hinc.2)
                clear hinc x1 f1
                go_roundg k1
                case measure => have := HI.out; omega
                case rel => exact ⟨l, _, skip S' 3, trivial, ⟨by have := HI.out; omega, by have := HI.out.2.1; show _ < S'.at_ + 3 + l; omega, HE.out, by have := HN3.out; show S'.at_ + 3 ≤ _; omega⟩, HB6, HU6, HP6, HF6⟩
end Go.Proofs.Ytnjpdhekeffpnaa.Rx
