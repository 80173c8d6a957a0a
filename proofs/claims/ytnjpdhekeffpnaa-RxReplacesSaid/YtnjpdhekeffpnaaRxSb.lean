/- Where parts of an expression may end, walked. -/
import Derived.Test.YtnjpdhekeffpnaaRxSa
set_option linter.unusedVariables false
set_option linter.unusedSimpArgs false
namespace Go.Proofs.Ytnjpdhekeffpnaa.Rx
open Go.RowKit Go.Proofs.YtnjpdhekeffpnaaW.PrintWords Go.Proofs.YtnjpdhekeffpnaaW.PrintLast Go.Proofs.YtnjpdhekeffpnaaW.PrintMore

theorem knd_openM {w : World} {base : Nat} {ok : Nat → Prop} {k : Int} {set : List Bool} {l : List Nd} {cs : List Value} (h : knd.M w base ok (.mk k set l) cs) : ∃ vs vk, cs = [.int .i64 k, vs, vk] ∧ Kd.R Kd.bool TO w base ok vs set ∧ Kd.R knd TN w base ok vk l := by
  obtain ⟨n, h⟩ := h
  cases n with
  | zero => exact h.elim
  | succ n =>
    obtain ⟨_, _, rfl, rfl, _, _, rfl, ⟨vs, rfl, h1⟩, ⟨vk, rfl, h2⟩⟩ := h
    exact ⟨vs, vk, rfl, h1, Kd.fix_R h2⟩
/-- a part among parts in memory -/
theorem kid_at {w : World} {base g c : Nat} {ok : Nat → Prop} {l : List Nd} (h : Kd.R knd TN w base ok (.slice (some ⟨g, 0, none⟩) l.length c) l) (j : Nat) (hj : j < l.length) :
    ∃ (k : Int) (As : Option Addr) (ns cs : Nat) (Al : Option Addr) (nl cl : Nat), knd.M w base ok l[j] [.int .i64 k, .slice As ns cs, .slice Al nl cl] ∧ w.cell? ⟨g, j * 3, none⟩ = some (.int .i64 k) ∧ w.cell? ⟨g, j * 3 + 1, none⟩ = some (.slice As ns cs) ∧ w.cell? ⟨g, j * 3 + 2, none⟩ = some (.slice Al nl cl) := by
  obtain ⟨_, inner, ho, hr⟩ := h
  have hM := knd.M_mono (ok' := ok) (fun _ hk => hk.1) (hr.2 j l[j] (List.getElem?_eq_getElem hj))
  obtain ⟨nd, hnd⟩ : ∃ nd, l[j] = nd := ⟨_, rfl⟩
  rw [hnd] at hM ⊢
  obtain ⟨k, set, kl⟩ := nd
  obtain ⟨vs, vk, e1, h1, h2⟩ := knd_openM hM
  obtain ⟨As, cs, rfl⟩ := Kd.R_slice h1
  obtain ⟨Al, cl, rfl⟩ := Kd.R_slice h2
  rw [e1] at hM
  have hc : ∀ q, q < 3 → w.cell? ⟨g, j * 3 + q, none⟩ = [Value.int .i64 k, .slice As set.length cs, .slice Al kl.length cl][q]? := by
    intro q hq
    rw [World.ownsRow.cellAt ho (j * 3 + q) (by show j * 3 + q < l.length * 3; omega), ← e1]
    show inner[j * 3 + q]? = ((inner.drop (j * 3)).take 3)[q]?
    rw [List.getElem?_take, if_pos hq, List.getElem?_drop]
  exact ⟨k, As, set.length, cs, Al, kl.length, cl, hM, hc 0 (by omega), hc 1 (by omega), hc 2 (by omega)⟩
theorem kid_0 {w : World} {base g c : Nat} {ok : Nat → Prop} {n : Nd} (h : Kd.R knd TN w base ok (.slice (some ⟨g, 0, none⟩) 1 c) [n]) :
    ∃ (k : Int) (As : Option Addr) (ns cs : Nat) (Al : Option Addr) (nl cl : Nat), knd.M w base ok n [.int .i64 k, .slice As ns cs, .slice Al nl cl] ∧ w.cell? ⟨g, 0, none⟩ = some (.int .i64 k) ∧ w.cell? ⟨g, 1, none⟩ = some (.slice As ns cs) ∧ w.cell? ⟨g, 2, none⟩ = some (.slice Al nl cl) := by
  obtain ⟨k, As, ns, cs, Al, nl, cl, h1, h2, h3, h4⟩ := kid_at (l := [n]) h 0 (by simp)
  exact ⟨k, As, ns, cs, Al, nl, cl, h1, by simpa using h2, by simpa using h3, by simpa using h4⟩
/-- the walk of 'ends' on a tree, told -/
def EndsOk (s : ByteArray) (nd : Nd) (e : Re) : Prop := ∀ (W : World) (k : Int) (As : Option Addr) (ns cs : Nat) (Al : Option Addr) (nl cl : Nat) (g c : Nat) (a : List Bool), knd.M W 0 (fun _ => True) nd [.int .i64 k, .slice As ns cs, .slice Al nl cl] → BoolAt W 0 g c a → a.length = s.size + 1 →
  Calls Try.prog 30 #[.agg #[.int .i64 k, .slice As ns cs, .slice Al nl cl], .string s, .slice (some ⟨g, 0, none⟩) (s.size + 1) c] W fun r W' => ∃ g' c' out, r = .returned (.slice (some ⟨g', 0, none⟩) (s.size + 1) c') ∧ BoolAt W' 0 g' c' out ∧ OutS s e a out ∧ Below W.heap.size W W'
def AgainOk (s : ByteArray) (nd : Nd) (e : Re) : Prop := ∀ (W : World) (k : Int) (As : Option Addr) (ns cs : Nat) (Al : Option Addr) (nl cl : Nat) (g c : Nat) (a : List Bool), knd.M W 0 (fun _ => True) nd [.int .i64 k, .slice As ns cs, .slice Al nl cl] → BoolAt W 0 g c a → a.length = s.size + 1 →
  Calls Try.prog 47 #[.agg #[.int .i64 k, .slice As ns cs, .slice Al nl cl], .string s, .slice (some ⟨g, 0, none⟩) (s.size + 1) c] W fun r W' => ∃ g' c' out, r = .returned (.slice (some ⟨g', 0, none⟩) (s.size + 1) c') ∧ BoolAt W' 0 g' c' out ∧ OutS s (.star e) a out ∧ Below W.heap.size W W'
theorem bothW' (w : World) (n ga ca gb cb : Nat) (a b : List Bool) (ha : BoolAt w 0 ga ca a) (hb : BoolAt w 0 gb cb b) (hal : a.length = n + 1) (hbl : b.length = n + 1) (hN : n ≤ 100000) :
    Calls Try.prog 46 #[.slice (some ⟨ga, 0, none⟩) (n + 1) ca, .slice (some ⟨gb, 0, none⟩) (n + 1) cb] w fun e w' => ∃ g c, e = .returned (.slice (some ⟨g, 0, none⟩) (n + 1) c) ∧ BoolAt w' 0 g c (bothL a b) ∧ Below w.heap.size w w' := by
  have := bothW w ga ca gb cb a b ha hb (hal.trans hbl.symm) (by omega) (by omega)
  rwa [hal, hbl] at this
set_option maxHeartbeats 8000000 in
set_option maxRecDepth 100000 in
theorem againW (s : ByteArray) (nd : Nd) (e : Re) (hs : s.size ≤ 100000) (he : EndsOk s nd e) : AgainOk s nd e := by
  intro w k As ns cs Al nl cl g c a hM hA hal
  have hu32 := Try.underlying32
  have HH := Aside0.mk (⟨hs, he, hal⟩ : s.size ≤ 100000 ∧ EndsOk s nd e ∧ a.length = s.size + 1)
  have HM := Aside0.mk hM
  have HA := Aside0.mk hA
  clear hs he hal hM hA
  go_enter Try.func47, Try.ntmps47
  go_wp2_with (first | ((with_reducible refine gate_dst (N := 3) rfl ?_); (try (refine gate_guard (by rfl) ?_; dsimp only)); refine box_event ?hg (N := 3) ?hd (cs := #[.int .i64 k, .slice As ns cs, .slice Al nl cl]) (t := TN) ?hr ?_; (case hd => rfl); (case hg => rfl); (case hr => first | (go_simp; done) | (go_simp; rfl)); intro x ex wx hx lx; have Ex := Aside0.mk ex; clear ex) | fail)
  have HM1 := Aside0.mk (Kd.M_below HM.out lx)
  have HA1 := Aside0.mk (HA.out.below lx)
  have HX1 := Aside0.mk hx
  have HL1 := Aside0.mk lx
  clear hx lx HA HM
  have hsz : (s.size : Int) ≤ 100000 := by have := HH.out.1; omega
  go_loopg [7, 8] (s.size + 2) (fun kq v7 v8 wr => ∃ (z : Int) (g' c' : Nat) (out : List Bool), v7 = .slice (some ⟨g', 0, none⟩) (s.size + 1) c' ∧ v8 = .int .i64 z ∧ Aside0 (0 ≤ z ∧ z ≤ (s.size : Int) + 1 ∧ z + kq = (s.size : Int) + 2 ∧ OutK s e z.toNat a out) ∧ Aside0 (BoolAt wr 0 g' c' out) ∧ Aside0 (knd.M wr 0 (fun _ => True) nd [.int .i64 k, .slice As ns cs, .slice Al nl cl]) ∧ Aside0 (wr.heap[x]? = some (.cells #[.int .i64 k, .slice As ns cs, .slice Al nl cl] TN (0, 0))) ∧ Aside0 (Below w.heap.size w wr))
  case atStart => exact ⟨0, g, c, a, rfl, rfl, ⟨by omega, by omega, by omega, OutK.zero s e a HH.out.2.2⟩, HA1, HM1, HX1, HL1⟩
  case round =>
    clear HA1 HM1 HX1 HL1
    obtain ⟨z, g', c', out, rfl, rfl, HI, HA, HM, HX, HW⟩ := hrel
    have d1 : 0 ≤ z := HI.out.1
    by_cases hz : z ≤ (s.size : Int)
    · have d0 : decide (z ≤ (s.size : Int)) = true := decide_eq_true hz
      obtain ⟨ko, rfl⟩ : ∃ ko, gk = ko + 1 := ⟨gk - 1, by have := HI.out; omega⟩
      have hxx := HX.out
      (have x0 : wr.cell? ⟨x, 0, none⟩ = some (.int .i64 (k)) := (blk_cell hxx 0).trans rfl; have x1 : wr.cell? ⟨x, 1, none⟩ = some (.slice As ns cs) := (blk_cell hxx 1).trans rfl; have x2 : wr.cell? ⟨x, 2, none⟩ = some (.slice Al nl cl) := (blk_cell hxx 2).trans rfl)
      have ihE := HH.out.2.1 wr k As ns cs Al nl cl g' c' out HM.out HA.out HI.out.2.2.2.1
      have dz : z + 1 < 9223372036854775808 := by omega
      clear hxx
      go_wp2_with (fail)
      refine ihE.mono ?_
      rintro e2 w2 ⟨g2, c2, o2, rfl, hA2, hO2, hl2⟩
      have HO2 := Aside0.mk hO2
      have hB := bothW' w2 s.size g' c' g2 c2 out o2 (HA.out.below hl2) hA2 HI.out.2.2.2.1 hO2.1 HH.out.1
      have HL2 := Aside0.mk hl2
      clear hA2 hO2 ihE x0 x1 x2 hl2
      go_wp2_with (fail)
      refine hB.mono ?_
      rintro e3 w3 ⟨g3, c3, rfl, hA3, hl3⟩
      have HA3 := Aside0.mk hA3
      have HL3 := Aside0.mk (below_then HL2.out HL2.out.size hl3)
      clear hB hA3 hl3
      go_wp2_with (fail)
      go_roundg ko
      case measure => have := HI.out; omega
      case rel => exact ⟨z + 1, g3, c3, _, rfl, rfl, ⟨by omega, by omega, by have := HI.out; omega, by rw [show (z + 1).toNat = z.toNat + 1 by omega]; exact HI.out.2.2.2.succ HO2.out⟩, HA3, ⟨Kd.M_below HM.out HL3.out⟩, ⟨blk_below HX.out HL3.out⟩, ⟨below_then HW.out HW.out.size HL3.out⟩⟩
    · have d0 : decide (z ≤ (s.size : Int)) = false := decide_eq_false hz
      have HZ := Aside0.mk hz
      clear hz
      go_wp2_with (fail)
      go_ret
      exact ⟨g', c', rfl, out, HA.out, HI.out.2.2.2.star (by have := HZ.out; omega), HW.out⟩
theorem set_get (n i : Nat) (x : Bool) (hi : i < n) (j : Nat) : ((List.replicate n false).set i x).getD j false = if j = i then x else false := by
  rw [List.getD_eq_getElem?_getD, List.getElem?_set]
  by_cases hij : i = j
  · subst hij; simp [hi]
  · rw [if_neg hij, if_neg (fun e => hij e.symm), List.getElem?_replicate]
    split <;> rfl
set_option maxHeartbeats 8000000 in
set_option maxRecDepth 100000 in
theorem endsBeg (s : ByteArray) (hs : s.size ≤ 100000) : EndsOk s (.mk 2 [] []) .beg := by
  intro w k As ns cs Al nl cl g c0 a hM hA hal
  have hu32 := Try.underlying32
  obtain ⟨vs, vk, e1, hS, hK⟩ := knd_openM hM
  injection e1 with e1 e2
  injection e1 with e1 e1
  injection e2 with e2 e3
  injection e3 with e3 e4
  subst e1; subst e2; subst e3
  clear e4
  have HH := Aside0.mk (⟨hs, hal⟩ : s.size ≤ 100000 ∧ a.length = s.size + 1)
  have HA := Aside0.mk hA
  have hsz : (s.size : Int) ≤ 100000 := by omega
  have hsz0 : (0 : Int) ≤ (s.size : Int) := Int.natCast_nonneg _
  obtain ⟨ga, hga⟩ : ∃ ga, g = ga := ⟨_, rfl⟩
  rw [hga] at HA ⊢
  clear hga hM hA hal hs hS hK g
  go_enter Try.func30, Try.ntmps30
  go_wp2_with (first | ((with_reducible refine gate_dst (N := 3) rfl ?_); (try (refine gate_guard (by rfl) ?_; dsimp only)); refine box_event ?hg (N := 3) ?hd (cs := #[.int .i64 2, .slice As ns cs, .slice Al nl cl]) (t := TN) ?hr ?_; (case hd => rfl); (case hg => rfl); (case hr => first | (go_simp; done) | (go_simp; rfl)); intro x ex wx hx lx; have Ex := Aside0.mk ex; clear ex) | (((with_reducible refine gate_dst (N := 14) rfl ?_); refine Kd.R_make Kd.bool (w0 := wx) 0 TO rfl (N := 14) rfl 29 _ _ rfl ((s.size : Int) + 1) rfl rfl Try.underlying29 (.bool false) 1 infoO rfl (by decide) (by decide) false (ok := fun _ => True) (okp := fun _ => True) rfl (fun _ _ => trivial) trivial ?m0 ?mL (Below.refl _ _) (Nat.zero_le _) ?_; (case m0 => omega); (case mL => omega); intro v14 w14 hR14 hB14 hg14 hat14; obtain ⟨g, c, e14, -⟩ := Kd.R_form hR14 (by rw [List.length_replicate]; omega); rw [List.length_replicate] at e14; subst e14; have hl14 := grown_below hg14); rw [show ((s.size : Int) + 1).toNat = s.size + 1 by omega] at hR14; have hM : BoolAt w14 0 g c (List.replicate (s.size + 1) false) := (by unfold BoolAt; rw [List.length_replicate]; exact hR14); have hxx := blk_below hx hl14; (have x0 : w14.cell? ⟨x, 0, none⟩ = some (.int .i64 (2)) := (blk_cell hxx 0).trans rfl; have x1 : w14.cell? ⟨x, 1, none⟩ = some (.slice As ns cs) := (blk_cell hxx 1).trans rfl; have x2 : w14.cell? ⟨x, 2, none⟩ = some (.slice Al nl cl) := (blk_cell hxx 2).trans rfl); have hgw : w.heap.size ≤ g := (by obtain ⟨b9, h9, h10⟩ := hat14; have := lx.size; simp [Value.ownBlock] at h9; omega); have ca := (((HA.out.below lx).below hl14).at 0 (by have := HH.out; omega)); have cz := hM.at 0 (by rw [List.length_replicate]; omega); have fz := hM.frozen 0) | fail)
  go_ret
  refine ⟨g, c, rfl, _, hM.set 0 _, ⟨by simp, fun j hj => ?_⟩, (below_then lx lx.size hl14).setCell (p := ⟨g, 0, none⟩) hgw _⟩
  rw [set_get (s.size + 1) 0 _ (by omega) j]
  constructor
  · intro h
    by_cases h0 : j = 0
    · rw [if_pos h0] at h; exact ⟨0, by omega, h, rfl, h0⟩
    · rw [if_neg h0] at h; cases h
  · rintro ⟨i, hi, h1, h2, h3⟩
    rw [h2] at h3 h1
    rw [if_pos h3]; exact h1
set_option maxHeartbeats 8000000 in
set_option maxRecDepth 100000 in
theorem endsFin (s : ByteArray) (hs : s.size ≤ 100000) : EndsOk s (.mk 3 [] []) .fin := by
  intro w k As ns cs Al nl cl g c0 a hM hA hal
  have hu32 := Try.underlying32
  obtain ⟨vs, vk, e1, hS, hK⟩ := knd_openM hM
  injection e1 with e1 e2
  injection e1 with e1 e1
  injection e2 with e2 e3
  injection e3 with e3 e4
  subst e1; subst e2; subst e3
  clear e4
  have HH := Aside0.mk (⟨hs, hal⟩ : s.size ≤ 100000 ∧ a.length = s.size + 1)
  have HA := Aside0.mk hA
  have hsz : (s.size : Int) ≤ 100000 := by omega
  have hsz0 : (0 : Int) ≤ (s.size : Int) := Int.natCast_nonneg _
  obtain ⟨ga, hga⟩ : ∃ ga, g = ga := ⟨_, rfl⟩
  rw [hga] at HA ⊢
  clear hga hM hA hal hs hS hK g
  go_enter Try.func30, Try.ntmps30
  go_wp2_with (first | ((with_reducible refine gate_dst (N := 3) rfl ?_); (try (refine gate_guard (by rfl) ?_; dsimp only)); refine box_event ?hg (N := 3) ?hd (cs := #[.int .i64 3, .slice As ns cs, .slice Al nl cl]) (t := TN) ?hr ?_; (case hd => rfl); (case hg => rfl); (case hr => first | (go_simp; done) | (go_simp; rfl)); intro x ex wx hx lx; have Ex := Aside0.mk ex; clear ex) | (((with_reducible refine gate_dst (N := 14) rfl ?_); refine Kd.R_make Kd.bool (w0 := wx) 0 TO rfl (N := 14) rfl 29 _ _ rfl ((s.size : Int) + 1) rfl rfl Try.underlying29 (.bool false) 1 infoO rfl (by decide) (by decide) false (ok := fun _ => True) (okp := fun _ => True) rfl (fun _ _ => trivial) trivial ?m0 ?mL (Below.refl _ _) (Nat.zero_le _) ?_; (case m0 => omega); (case mL => omega); intro v14 w14 hR14 hB14 hg14 hat14; obtain ⟨g, c, e14, -⟩ := Kd.R_form hR14 (by rw [List.length_replicate]; omega); rw [List.length_replicate] at e14; subst e14; have hl14 := grown_below hg14); rw [show ((s.size : Int) + 1).toNat = s.size + 1 by omega] at hR14; have hM : BoolAt w14 0 g c (List.replicate (s.size + 1) false) := (by unfold BoolAt; rw [List.length_replicate]; exact hR14); have hxx := blk_below hx hl14; (have x0 : w14.cell? ⟨x, 0, none⟩ = some (.int .i64 (3)) := (blk_cell hxx 0).trans rfl; have x1 : w14.cell? ⟨x, 1, none⟩ = some (.slice As ns cs) := (blk_cell hxx 1).trans rfl; have x2 : w14.cell? ⟨x, 2, none⟩ = some (.slice Al nl cl) := (blk_cell hxx 2).trans rfl); have hgw : w.heap.size ≤ g := (by obtain ⟨b9, h9, h10⟩ := hat14; have := lx.size; simp [Value.ownBlock] at h9; omega); have ca := (((HA.out.below lx).below hl14).at s.size (by have := HH.out; omega)); have cz := hM.at s.size (by rw [List.length_replicate]; omega); have fz := hM.frozen s.size) | fail)
  go_ret
  refine ⟨g, c, rfl, _, hM.set s.size _, ⟨by simp, fun j hj => ?_⟩, (below_then lx lx.size hl14).setCell (p := ⟨g, s.size, none⟩) hgw _⟩
  rw [set_get (s.size + 1) s.size _ (by omega) j]
  constructor
  · intro h
    by_cases h0 : j = s.size
    · rw [if_pos h0] at h; exact ⟨s.size, by omega, h, rfl, h0⟩
    · rw [if_neg h0] at h; cases h
  · rintro ⟨i, hi, h1, h2, h3⟩
    rw [h2] at h3 h1
    rw [if_pos h3]; exact h1
/-- a byte's places, up to z -/
def outB (s : ByteArray) (m : Nat) (a : List Bool) (z : Nat) : List Bool := (List.range (s.size + 1)).map fun j => decide (1 ≤ j ∧ j ≤ z) && (a.getD (j - 1) false && m.testBit (bt s ((j - 1 : Nat) : Int)).toNat)
theorem outB_len (s : ByteArray) (m : Nat) (a : List Bool) (z : Nat) : (outB s m a z).length = s.size + 1 := by simp [outB]
theorem outB_0 (s : ByteArray) (m : Nat) (a : List Bool) : outB s m a 0 = List.replicate (s.size + 1) false := by
  apply List.ext_getElem (by simp [outB])
  intro i h1 h2
  simp only [outB, List.getElem_map, List.getElem_range, List.getElem_replicate]
  rw [decide_eq_false (by omega), Bool.false_and]
theorem outB_set (s : ByteArray) (m : Nat) (a : List Bool) (z : Nat) (hz : z < s.size) : (outB s m a z).set (z + 1) (a.getD z false && m.testBit (bt s (z : Int)).toNat) = outB s m a (z + 1) := by
  apply List.ext_getElem (by simp [outB])
  intro i h1 h2
  rw [List.getElem_set]
  simp only [outB, List.getElem_map, List.getElem_range]
  by_cases hi : z + 1 = i
  · subst hi
    rw [if_pos rfl, decide_eq_true (by omega), Bool.true_and]
    simp
  · rw [if_neg hi]
    congr 1
    rw [Bool.eq_iff_iff, decide_eq_true_iff, decide_eq_true_iff]
    omega
theorem outB_outS (s : ByteArray) (m : Nat) (a : List Bool) : OutS s (.byte m) a (outB s m a s.size) := by
  refine ⟨outB_len s m a _, fun j hj => ?_⟩
  rw [List.getD_eq_getElem?_getD, List.getElem?_eq_getElem (by rw [outB_len]; omega)]
  simp only [outB, List.getElem_map, List.getElem_range, Option.getD_some, Bool.and_eq_true, decide_eq_true_iff]
  constructor
  · rintro ⟨⟨h1, _⟩, h2, h3⟩
    exact ⟨j - 1, by omega, h2, by omega, h3, by omega⟩
  · rintro ⟨i, hi, h1, h2, h3, rfl⟩
    exact ⟨⟨by omega, by omega⟩, by simpa using h1, by simpa using h3⟩
set_option maxHeartbeats 16000000 in
set_option maxRecDepth 100000 in
theorem endsByte (s : ByteArray) (hs : s.size ≤ 100000) (m : Nat) : EndsOk s (.mk 1 (tabl m) []) (.byte m) := by
  intro w k As ns cs Al nl cl g c0 a hM hA hal
  have hu32 := Try.underlying32
  obtain ⟨vs, vk, e1, hS, hK⟩ := knd_openM hM
  injection e1 with e1 e2
  injection e1 with e1 e1
  injection e2 with e2 e3
  injection e3 with e3 e4
  subst e1; subst e2; subst e3
  clear e4
  obtain ⟨gs, cap, e5, -⟩ := Kd.R_form hS (by rw [tabl_len]; omega)
  rw [tabl_len] at e5
  injection e5 with e5 e6 e7
  subst e5; subst e6; subst e7
  have HSS := Aside0.mk (show BoolAt w 0 gs cs (tabl m) by unfold BoolAt; rw [tabl_len]; exact hS)
  have HH := Aside0.mk (⟨hs, hal⟩ : s.size ≤ 100000 ∧ a.length = s.size + 1)
  have HA := Aside0.mk hA
  have hsz : (s.size : Int) ≤ 100000 := by omega
  have hsz0 : (0 : Int) ≤ (s.size : Int) := Int.natCast_nonneg _
  obtain ⟨ga, hga⟩ : ∃ ga, g = ga := ⟨_, rfl⟩
  rw [hga] at HA ⊢
  clear hga hM hA hal hs hS hK g
  go_enter Try.func30, Try.ntmps30
  go_wp2_with (first | ((with_reducible refine gate_dst (N := 3) rfl ?_); (try (refine gate_guard (by rfl) ?_; dsimp only)); refine box_event ?hg (N := 3) ?hd (cs := #[.int .i64 1, .slice (some ⟨gs, 0, none⟩) 256 cs, .slice Al nl cl]) (t := TN) ?hr ?_; (case hd => rfl); (case hg => rfl); (case hr => first | (go_simp; done) | (go_simp; rfl)); intro x ex wx hx lx; have Ex := Aside0.mk ex; clear ex) | (((with_reducible refine gate_dst (N := 14) rfl ?_); refine Kd.R_make Kd.bool (w0 := wx) 0 TO rfl (N := 14) rfl 29 _ _ rfl ((s.size : Int) + 1) rfl rfl Try.underlying29 (.bool false) 1 infoO rfl (by decide) (by decide) false (ok := fun _ => True) (okp := fun _ => True) rfl (fun _ _ => trivial) trivial ?m0 ?mL (Below.refl _ _) (Nat.zero_le _) ?_; (case m0 => omega); (case mL => omega); intro v14 w14 hR14 hB14 hg14 hat14; obtain ⟨g, c, e14, -⟩ := Kd.R_form hR14 (by rw [List.length_replicate]; omega); rw [List.length_replicate] at e14; subst e14; have hl14 := grown_below hg14); rw [show ((s.size : Int) + 1).toNat = s.size + 1 by omega] at hR14; have hM : BoolAt w14 0 g c (List.replicate (s.size + 1) false) := (by unfold BoolAt; rw [List.length_replicate]; exact hR14); have hxx := blk_below hx hl14; (have x0 : w14.cell? ⟨x, 0, none⟩ = some (.int .i64 (1)) := (blk_cell hxx 0).trans rfl; have x1 : w14.cell? ⟨x, 1, none⟩ = some (.slice (some ⟨gs, 0, none⟩) 256 cs) := (blk_cell hxx 1).trans rfl; have x2 : w14.cell? ⟨x, 2, none⟩ = some (.slice Al nl cl) := (blk_cell hxx 2).trans rfl); have hgw : w.heap.size ≤ g := (by obtain ⟨b9, h9, h10⟩ := hat14; have := lx.size; simp [Value.ownBlock] at h9; omega)) | fail)
  have HG := Aside0.mk (⟨hgw, blk_lt hx, lx.size⟩ : w.heap.size ≤ g ∧ x < wx.heap.size ∧ w.heap.size ≤ wx.heap.size)
  have HM1 := Aside0.mk (show BoolAt w14 0 g c (outB s m a 0) by rw [outB_0]; exact hM)
  have HXX := Aside0.mk hxx
  have HL1 := Aside0.mk (below_then lx lx.size hl14)
  have hgx : wx.heap.size ≤ g := by obtain ⟨b9, h9, h10⟩ := hat14; simp [Value.ownBlock] at h9; omega
  have HGX := Aside0.mk (show x ≠ g by have := blk_lt hx; omega)
  clear hM hxx hx lx hR14 hB14 hg14 hat14 hl14 x0 x1 x2 hgw hgx
  go_loopg [8] (s.size + 1) (fun kq v8 wr => ∃ z : Int, v8 = .int .i64 z ∧ Aside0 (0 ≤ z ∧ z ≤ (s.size : Int) ∧ z + kq = (s.size : Int) + 1) ∧ Aside0 (BoolAt wr 0 g c (outB s m a z.toNat)) ∧ Aside0 (wr.heap[x]? = some (.cells #[.int .i64 1, .slice (some ⟨gs, 0, none⟩) 256 cs, .slice Al nl cl] TN (0, 0))) ∧ Aside0 (Below w.heap.size w wr))
  case atStart => exact ⟨0, rfl, ⟨by omega, by omega, by omega⟩, HM1, HXX, HL1⟩
  case round =>
    clear HM1 HXX HL1
    obtain ⟨z, rfl, HI, HM, HX, HW⟩ := hrel
    have d1 : 0 ≤ z := HI.out.1
    by_cases hz : z < (s.size : Int)
    · have d0 : decide (z < (s.size : Int)) = true := decide_eq_true hz
      obtain ⟨ko, rfl⟩ : ∃ ko, gk = ko + 1 := ⟨gk - 1, by have := HI.out; omega⟩
      have ca := (HA.out.below HW.out).at z.toNat (by have := HH.out; omega)
      have hat : z.toNat < s.size := by omega
      obtain ⟨yb, hyb⟩ : ∃ y : Int, ((s[z.toNat]'hat).toNat : Int) = y := ⟨_, rfl⟩
      have hbt : bt s ((z.toNat : Nat) : Int) = yb := by rw [← hyb]; unfold bt; rw [dif_pos (show ((z.toNat : Nat) : Int).toNat < s.size by rw [Int.toNat_natCast]; exact hat)]; simp only [Int.toNat_natCast]
      have hyr : 0 ≤ yb ∧ yb < 256 := by rw [← hyb]; exact ⟨Int.natCast_nonneg _, by have := (s[z.toNat]'hat).toNat_lt; omega⟩
      have cs' := (HSS.out.below HW.out).at yb.toNat (by rw [tabl_len]; omega)
      rw [tabl_get m yb.toNat (by omega)] at cs'
      have cz := HM.out.at (z.toNat + 1) (by rw [outB_len]; omega)
      have fz := HM.out.frozen (z.toNat + 1)
      have hst := outB_set s m a z.toNat hat
      rw [hbt] at hst
      obtain ⟨xa, hxa⟩ : ∃ x, a.getD z.toNat false = x := ⟨_, rfl⟩
      rw [hxa] at ca hst
      have HST := Aside0.mk hst
      have y0 := hyr.1
      have y1 := hyr.2
      have hz1 : (z + 1).toNat = z.toNat + 1 := by omega
      have HZ1 := Aside0.mk hz1
      have dn : z + 1 < 9223372036854775808 := by omega
      have dm : z + 1 < (s.size : Int) + 1 := by omega
      have hxx := HX.out
      (have x0 : wr.cell? ⟨x, 0, none⟩ = some (.int .i64 (1)) := (blk_cell hxx 0).trans rfl; have x1 : wr.cell? ⟨x, 1, none⟩ = some (.slice (some ⟨gs, 0, none⟩) 256 cs) := (blk_cell hxx 1).trans rfl; have x2 : wr.cell? ⟨x, 2, none⟩ = some (.slice Al nl cl) := (blk_cell hxx 2).trans rfl)
      clear hxa hst hyr hxx hbt
      cases xa
      · go_wp2_with (fail)
        go_region
        all_goals
          (try go_wp2_with (fail))
          go_roundg ko
          case measure => have := HI.out; omega
          case rel =>
            have h1 := (HM.out.below (below_drew (Below.refl wr.heap.size wr))).set (z.toNat + 1) (false)
            have h2 := HM.out.set (z.toNat + 1) (false)
            rw [show (false) = ((false : Bool) && m.testBit yb.toNat) by simp, HST.out] at h1 h2
            have h3 := (Below.heap_setCell wr.drew ⟨g, z.toNat + 1, none⟩ (.bool (false)) x HGX.out).trans (show wr.drew.heap[x]? = _ from HX.out)
            refine ⟨z + 1, rfl, ⟨by omega, by omega, by have := HI.out; omega⟩, ⟨?_⟩, ⟨?_⟩, ⟨?_⟩⟩
            · rw [HZ1.out]
              first | exact h1 | exact h2 | exact h2.below (below_drew (Below.refl _ _))
            · first | exact h3 | exact (Below.heap_setCell wr ⟨g, z.toNat + 1, none⟩ _ x HGX.out).trans HX.out
            · first | exact (below_drew HW.out).setCell (p := ⟨g, z.toNat + 1, none⟩) HG.out.1 _ | exact below_drew (HW.out.setCell (p := ⟨g, z.toNat + 1, none⟩) HG.out.1 _)
      · go_wp2_with (fail)
        go_region
        all_goals
          (try go_wp2_with (fail))
          go_roundg ko
          case measure => have := HI.out; omega
          case rel =>
            have h1 := (HM.out.below (below_drew (Below.refl wr.heap.size wr))).set (z.toNat + 1) (m.testBit yb.toNat)
            have h2 := HM.out.set (z.toNat + 1) (m.testBit yb.toNat)
            rw [show (m.testBit yb.toNat) = ((true : Bool) && m.testBit yb.toNat) by simp, HST.out] at h1 h2
            have h3 := (Below.heap_setCell wr.drew ⟨g, z.toNat + 1, none⟩ (.bool (m.testBit yb.toNat)) x HGX.out).trans (show wr.drew.heap[x]? = _ from HX.out)
            refine ⟨z + 1, rfl, ⟨by omega, by omega, by have := HI.out; omega⟩, ⟨?_⟩, ⟨?_⟩, ⟨?_⟩⟩
            · rw [HZ1.out]
              first | exact h1 | exact h2 | exact h2.below (below_drew (Below.refl _ _))
            · first | exact h3 | exact (Below.heap_setCell wr ⟨g, z.toNat + 1, none⟩ _ x HGX.out).trans HX.out
            · first | exact (below_drew HW.out).setCell (p := ⟨g, z.toNat + 1, none⟩) HG.out.1 _ | exact below_drew (HW.out.setCell (p := ⟨g, z.toNat + 1, none⟩) HG.out.1 _)
    · have d0 : decide (z < (s.size : Int)) = false := decide_eq_false hz
      have HZ := Aside0.mk (show z.toNat = s.size by have := HI.out; omega)
      clear hz
      go_wp2_with (fail)
      go_ret
      exact ⟨g, c, outB s m a z.toNat, rfl, HM.out, by rw [HZ.out]; exact outB_outS s m a, HW.out⟩
set_option maxHeartbeats 16000000 in
set_option maxRecDepth 100000 in
theorem endsWay (s : ByteArray) (hs : s.size ≤ 100000) (l : List Nd) (e : Re) (hl : RC l e) (hk : ∀ (j : Nat) (hj : j < l.length) (f : Re), RT l[j] f → EndsOk s l[j] f) : EndsOk s (.mk 4 [] l) e := by
  intro w k As ns cs Al nl cl g c0 a hM hA hal
  have hu32 := Try.underlying32
  obtain ⟨vs, vk, e1, hS, hK⟩ := knd_openM hM
  injection e1 with e1 e2
  injection e1 with e1 e1
  injection e2 with e2 e3
  injection e3 with e3 e4
  subst e1; subst e2; subst e3
  clear e4
  obtain ⟨es, hel, hee, hes⟩ := RC.list hl
  obtain ⟨A9, c9, e9⟩ := Kd.R_slice hK
  injection e9 with e9 e10 e11
  subst e10
  have HKK := Aside0.mk (⟨⟨hel, hee, hes, hk⟩, hK⟩ : (es.length = l.length ∧ e = es.foldl .cat .eps ∧ (∀ (j : Nat) (h1 : j < l.length) (h2 : j < es.length), RT l[j] es[j]) ∧ (∀ (j : Nat) (hj : j < l.length) (f : Re), RT l[j] f → EndsOk s l[j] f)) ∧ Kd.R knd TN w 0 (fun _ => True) (.slice Al l.length cl) l)
  have hln : l.length ≤ 9223372036854775807 := by obtain ⟨_, _, _, _, hC⟩ := Kd.R_reads hK; exact Kd.C_max hC
  clear hel hee hes hk hl e9 e11
  have HH := Aside0.mk (⟨hs, hal⟩ : s.size ≤ 100000 ∧ a.length = s.size + 1)
  have HA := Aside0.mk hA
  have hsz : (s.size : Int) ≤ 100000 := by omega
  have hsz0 : (0 : Int) ≤ (s.size : Int) := Int.natCast_nonneg _
  obtain ⟨ga, hga⟩ : ∃ ga, g = ga := ⟨_, rfl⟩
  rw [hga] at HA ⊢
  clear hga hM hA hal hs hS hK g
  go_enter Try.func30, Try.ntmps30
  go_wp2_with (first | ((with_reducible refine gate_dst (N := 3) rfl ?_); (try (refine gate_guard (by rfl) ?_; dsimp only)); refine box_event ?hg (N := 3) ?hd (cs := #[.int .i64 4, .slice As ns cs, .slice Al l.length cl]) (t := TN) ?hr ?_; (case hd => rfl); (case hg => rfl); (case hr => first | (go_simp; done) | (go_simp; rfl)); intro x ex wx hx lx; have Ex := Aside0.mk ex; clear ex) | (((with_reducible refine gate_dst (N := 14) rfl ?_); refine Kd.R_make Kd.bool (w0 := wx) 0 TO rfl (N := 14) rfl 29 _ _ rfl ((s.size : Int) + 1) rfl rfl Try.underlying29 (.bool false) 1 infoO rfl (by decide) (by decide) false (ok := fun _ => True) (okp := fun _ => True) rfl (fun _ _ => trivial) trivial ?m0 ?mL (Below.refl _ _) (Nat.zero_le _) ?_; (case m0 => omega); (case mL => omega); intro v14 w14 hR14 hB14 hg14 hat14; obtain ⟨g, c, e14, -⟩ := Kd.R_form hR14 (by rw [List.length_replicate]; omega); rw [List.length_replicate] at e14; subst e14; have hl14 := grown_below hg14); rw [show ((s.size : Int) + 1).toNat = s.size + 1 by omega] at hR14; have hM : BoolAt w14 0 g c (List.replicate (s.size + 1) false) := (by unfold BoolAt; rw [List.length_replicate]; exact hR14); have hxx := blk_below hx hl14; (have x0 : w14.cell? ⟨x, 0, none⟩ = some (.int .i64 (4)) := (blk_cell hxx 0).trans rfl; have x1 : w14.cell? ⟨x, 1, none⟩ = some (.slice As ns cs) := (blk_cell hxx 1).trans rfl; have x2 : w14.cell? ⟨x, 2, none⟩ = some (.slice Al l.length cl) := (blk_cell hxx 2).trans rfl); have hgw : w.heap.size ≤ g := (by obtain ⟨b9, h9, h10⟩ := hat14; have := lx.size; simp [Value.ownBlock] at h9; omega)) | fail)
  have HXX := Aside0.mk hxx
  have HL1 := Aside0.mk (below_then lx lx.size hl14)
  have HA1 := Aside0.mk ((HA.out.below lx).below hl14)
  clear hM hxx hx lx hR14 hB14 hg14 hat14 hl14 x0 x1 x2 hgw
  go_loopg [7, 9] (l.length + 1) (fun kq v7 v9 wr => ∃ (z : Int) (g' c' : Nat) (out : List Bool), v7 = .slice (some ⟨g', 0, none⟩) (s.size + 1) c' ∧ v9 = .int .i64 z ∧ Aside0 (0 ≤ z ∧ z ≤ (l.length : Int) ∧ z + kq = (l.length : Int) + 1 ∧ OutS s ((es.take z.toNat).foldl .cat .eps) a out) ∧ Aside0 (BoolAt wr 0 g' c' out) ∧ Aside0 (wr.heap[x]? = some (.cells #[.int .i64 4, .slice As ns cs, .slice Al l.length cl] TN (0, 0))) ∧ Aside0 (Below w.heap.size w wr))
  case atStart => exact ⟨0, ga, c0, a, rfl, rfl, ⟨by omega, by omega, by omega, OutS.eps s a HH.out.2⟩, HA1, HXX, HL1⟩
  case round =>
    clear HA1 HXX HL1 HA
    obtain ⟨z, g', c', out, rfl, rfl, HI, HA, HX, HW⟩ := hrel
    have d1 : 0 ≤ z := HI.out.1
    by_cases hz : z < (l.length : Int)
    · have d0 : decide (z < (l.length : Int)) = true := decide_eq_true hz
      obtain ⟨ko, rfl⟩ : ∃ ko, gk = ko + 1 := ⟨gk - 1, by have := HI.out; omega⟩
      have hxx := HX.out
      obtain ⟨gk, cap, e5, -⟩ := Kd.R_form (Kd.R_below HKK.out.2 HW.out) (by omega)
      injection e5 with e5 e6 e7
      subst e5; subst e7
      obtain ⟨k2, As2, ns2, cs2, Al2, nl2, cl2, hM2, q0, q1, q2⟩ := kid_at (Kd.R_below HKK.out.2 HW.out) z.toNat (by omega)
      (have x0 : wr.cell? ⟨x, 0, none⟩ = some (.int .i64 (4)) := (blk_cell hxx 0).trans rfl; have x1 : wr.cell? ⟨x, 1, none⟩ = some (.slice As ns cs) := (blk_cell hxx 1).trans rfl; have x2 : wr.cell? ⟨x, 2, none⟩ = some (.slice (some ⟨gk, 0, none⟩) l.length cl) := (blk_cell hxx 2).trans rfl)
      have hze : z.toNat < es.length := by rw [HKK.out.1.1]; omega
      have ihE := HKK.out.1.2.2.2 z.toNat (by omega) es[z.toNat] (HKK.out.1.2.2.1 z.toNat (by omega) hze) wr k2 As2 ns2 cs2 Al2 nl2 cl2 g' c' out hM2 HA.out HI.out.2.2.2.1
      have HZE := Aside0.mk hze
      have dz : z + 1 < 9223372036854775808 := by omega
      clear hxx hM2
      go_wp2_with (fail)
      refine ihE.mono ?_
      rintro e2 w2 ⟨g2, c2, o2, rfl, hA2, hO2, hl2⟩
      have HA2 := Aside0.mk hA2
      have HO2 := Aside0.mk hO2
      have HL2 := Aside0.mk hl2
      clear hA2 hO2 hl2 ihE x0 x1 x2 q0 q1 q2
      go_wp2_with (fail)
      go_roundg ko
      case measure => have := HI.out; omega
      case rel =>
        refine ⟨z + 1, g2, c2, o2, rfl, rfl, ⟨by omega, by omega, by have := HI.out; omega, ?_⟩, HA2, ⟨blk_below HX.out HL2.out⟩, ⟨below_then HW.out HW.out.size HL2.out⟩⟩
        rw [show (z + 1).toNat = z.toNat + 1 by omega, List.take_succ_eq_append_getElem hze, List.foldl_append]
        exact OutS.cat HI.out.2.2.2 HO2.out
    · have d0 : decide (z < (l.length : Int)) = false := decide_eq_false hz
      have HZ := Aside0.mk (show z.toNat = l.length by have := HI.out; omega)
      have hxx := HX.out
      (have x0 : wr.cell? ⟨x, 0, none⟩ = some (.int .i64 (4)) := (blk_cell hxx 0).trans rfl; have x1 : wr.cell? ⟨x, 1, none⟩ = some (.slice As ns cs) := (blk_cell hxx 1).trans rfl; have x2 : wr.cell? ⟨x, 2, none⟩ = some (.slice Al l.length cl) := (blk_cell hxx 2).trans rfl)
      clear hz hxx
      go_wp2_with (fail)
      go_ret
      refine ⟨g', c', out, rfl, HA.out, ?_, HW.out⟩
      have h1 := HI.out.2.2.2
      rw [HZ.out, ← HKK.out.1.1, List.take_length, ← HKK.out.1.2.1] at h1
      exact h1
set_option maxHeartbeats 16000000 in
set_option maxRecDepth 100000 in
theorem endsWays (s : ByteArray) (hs : s.size ≤ 100000) (l : List Nd) (e : Re) (hl : RA l e) (hk : ∀ (j : Nat) (hj : j < l.length) (f : Re), RT l[j] f → EndsOk s l[j] f) : EndsOk s (.mk 5 [] l) e := by
  intro w k As ns cs Al nl cl g c0 a hM hA hal
  have hu32 := Try.underlying32
  obtain ⟨vs, vk, e1, hS, hK⟩ := knd_openM hM
  injection e1 with e1 e2
  injection e1 with e1 e1
  injection e2 with e2 e3
  injection e3 with e3 e4
  subst e1; subst e2; subst e3
  clear e4
  obtain ⟨es, hel, hee, hes⟩ := RA.list hl
  obtain ⟨A9, c9, e9⟩ := Kd.R_slice hK
  injection e9 with e9 e10 e11
  subst e10
  have HKK := Aside0.mk (⟨⟨hel, hee, hes, hk⟩, hK⟩ : (es.length = l.length ∧ (∀ s i j, M s e i j ↔ ∃ x ∈ es, M s x i j) ∧ (∀ (j : Nat) (h1 : j < l.length) (h2 : j < es.length), RT l[j] es[j]) ∧ (∀ (j : Nat) (hj : j < l.length) (f : Re), RT l[j] f → EndsOk s l[j] f)) ∧ Kd.R knd TN w 0 (fun _ => True) (.slice Al l.length cl) l)
  have hln : l.length ≤ 9223372036854775807 := by obtain ⟨_, _, _, _, hC⟩ := Kd.R_reads hK; exact Kd.C_max hC
  clear hel hee hes hk hl e9 e11
  have HH := Aside0.mk (⟨hs, hal⟩ : s.size ≤ 100000 ∧ a.length = s.size + 1)
  have HA := Aside0.mk hA
  have hsz : (s.size : Int) ≤ 100000 := by omega
  have hsz0 : (0 : Int) ≤ (s.size : Int) := Int.natCast_nonneg _
  obtain ⟨ga, hga⟩ : ∃ ga, g = ga := ⟨_, rfl⟩
  rw [hga] at HA ⊢
  clear hga hM hA hal hs hS hK g
  go_enter Try.func30, Try.ntmps30
  go_wp2_with (first | ((with_reducible refine gate_dst (N := 3) rfl ?_); (try (refine gate_guard (by rfl) ?_; dsimp only)); refine box_event ?hg (N := 3) ?hd (cs := #[.int .i64 5, .slice As ns cs, .slice Al l.length cl]) (t := TN) ?hr ?_; (case hd => rfl); (case hg => rfl); (case hr => first | (go_simp; done) | (go_simp; rfl)); intro x ex wx hx lx; have Ex := Aside0.mk ex; clear ex) | (((with_reducible refine gate_dst (N := 14) rfl ?_); refine Kd.R_make Kd.bool (w0 := wx) 0 TO rfl (N := 14) rfl 29 _ _ rfl ((s.size : Int) + 1) rfl rfl Try.underlying29 (.bool false) 1 infoO rfl (by decide) (by decide) false (ok := fun _ => True) (okp := fun _ => True) rfl (fun _ _ => trivial) trivial ?m0 ?mL (Below.refl _ _) (Nat.zero_le _) ?_; (case m0 => omega); (case mL => omega); intro v14 w14 hR14 hB14 hg14 hat14; obtain ⟨g, c, e14, -⟩ := Kd.R_form hR14 (by rw [List.length_replicate]; omega); rw [List.length_replicate] at e14; subst e14; have hl14 := grown_below hg14); rw [show ((s.size : Int) + 1).toNat = s.size + 1 by omega] at hR14; have hM : BoolAt w14 0 g c (List.replicate (s.size + 1) false) := (by unfold BoolAt; rw [List.length_replicate]; exact hR14); have hxx := blk_below hx hl14; (have x0 : w14.cell? ⟨x, 0, none⟩ = some (.int .i64 (5)) := (blk_cell hxx 0).trans rfl; have x1 : w14.cell? ⟨x, 1, none⟩ = some (.slice As ns cs) := (blk_cell hxx 1).trans rfl; have x2 : w14.cell? ⟨x, 2, none⟩ = some (.slice Al l.length cl) := (blk_cell hxx 2).trans rfl); have hgw : w.heap.size ≤ g := (by obtain ⟨b9, h9, h10⟩ := hat14; have := lx.size; simp [Value.ownBlock] at h9; omega)) | fail)
  have HXX := Aside0.mk hxx
  have HL1 := Aside0.mk (below_then lx lx.size hl14)
  have HM1 := Aside0.mk hM
  clear hM hxx hx lx hR14 hB14 hg14 hat14 hl14 x0 x1 x2 hgw
  go_loopg [7, 10] (l.length + 1) (fun kq v7 v10 wr => ∃ (z : Int) (g' c' : Nat) (out : List Bool), v7 = .slice (some ⟨g', 0, none⟩) (s.size + 1) c' ∧ v10 = .int .i64 z ∧ Aside0 (0 ≤ z ∧ z ≤ (l.length : Int) ∧ z + kq = (l.length : Int) + 1 ∧ OutA s (es.take z.toNat) a out) ∧ Aside0 (BoolAt wr 0 g' c' out) ∧ Aside0 (wr.heap[x]? = some (.cells #[.int .i64 5, .slice As ns cs, .slice Al l.length cl] TN (0, 0))) ∧ Aside0 (Below w.heap.size w wr))
  case atStart => exact ⟨0, g, c, _, rfl, rfl, ⟨by omega, by omega, by omega, OutA.none s a⟩, HM1, HXX, HL1⟩
  case round =>
    clear HM1 HXX HL1
    obtain ⟨z, g', c', out, rfl, rfl, HI, HO, HX, HW⟩ := hrel
    have d1 : 0 ≤ z := HI.out.1
    by_cases hz : z < (l.length : Int)
    · have d0 : decide (z < (l.length : Int)) = true := decide_eq_true hz
      obtain ⟨ko, rfl⟩ : ∃ ko, gk = ko + 1 := ⟨gk - 1, by have := HI.out; omega⟩
      have hxx := HX.out
      obtain ⟨gk, cap, e5, -⟩ := Kd.R_form (Kd.R_below HKK.out.2 HW.out) (by omega)
      injection e5 with e5 e6 e7
      subst e5; subst e7
      obtain ⟨k2, As2, ns2, cs2, Al2, nl2, cl2, hM2, q0, q1, q2⟩ := kid_at (Kd.R_below HKK.out.2 HW.out) z.toNat (by omega)
      (have x0 : wr.cell? ⟨x, 0, none⟩ = some (.int .i64 (5)) := (blk_cell hxx 0).trans rfl; have x1 : wr.cell? ⟨x, 1, none⟩ = some (.slice As ns cs) := (blk_cell hxx 1).trans rfl; have x2 : wr.cell? ⟨x, 2, none⟩ = some (.slice (some ⟨gk, 0, none⟩) l.length cl) := (blk_cell hxx 2).trans rfl)
      have hze : z.toNat < es.length := by rw [HKK.out.1.1]; omega
      have ihE := HKK.out.1.2.2.2 z.toNat (by omega) es[z.toNat] (HKK.out.1.2.2.1 z.toNat (by omega) hze) wr k2 As2 ns2 cs2 Al2 nl2 cl2 ga c0 a hM2 (HA.out.below HW.out) HH.out.2
      have HZE := Aside0.mk hze
      have dz : z + 1 < 9223372036854775808 := by omega
      clear hxx hM2
      go_wp2_with (fail)
      refine ihE.mono ?_
      rintro e2 w2 ⟨g2, c2, o2, rfl, hA2, hO2, hl2⟩
      have hB := bothW' w2 s.size g' c' g2 c2 out o2 (HO.out.below hl2) hA2 HI.out.2.2.2.1 hO2.1 HH.out.1
      have HO2 := Aside0.mk hO2
      have HL2 := Aside0.mk hl2
      clear hA2 hO2 hl2 ihE x0 x1 x2 q0 q1 q2
      go_wp2_with (fail)
      refine hB.mono ?_
      rintro e3 w3 ⟨g3, c3, rfl, hA3, hl3⟩
      have HA3 := Aside0.mk hA3
      have HL3 := Aside0.mk (below_then HL2.out HL2.out.size hl3)
      clear hB hA3 hl3
      go_wp2_with (fail)
      go_roundg ko
      case measure => have := HI.out; omega
      case rel =>
        refine ⟨z + 1, g3, c3, _, rfl, rfl, ⟨by omega, by omega, by have := HI.out; omega, ?_⟩, HA3, ⟨blk_below HX.out HL3.out⟩, ⟨below_then HW.out HW.out.size HL3.out⟩⟩
        rw [show (z + 1).toNat = z.toNat + 1 by omega, List.take_succ_eq_append_getElem hze]
        exact OutA.snoc HI.out.2.2.2 HO2.out
    · have d0 : decide (z < (l.length : Int)) = false := decide_eq_false hz
      have HZ := Aside0.mk (show z.toNat = l.length by have := HI.out; omega)
      have hxx := HX.out
      (have x0 : wr.cell? ⟨x, 0, none⟩ = some (.int .i64 (5)) := (blk_cell hxx 0).trans rfl; have x1 : wr.cell? ⟨x, 1, none⟩ = some (.slice As ns cs) := (blk_cell hxx 1).trans rfl; have x2 : wr.cell? ⟨x, 2, none⟩ = some (.slice Al l.length cl) := (blk_cell hxx 2).trans rfl)
      clear hz hxx
      go_wp2_with (fail)
      go_ret
      refine ⟨g', c', out, rfl, HO.out, ?_, HW.out⟩
      have h1 := HI.out.2.2.2
      rw [HZ.out, ← HKK.out.1.1, List.take_length] at h1
      exact h1.whole HKK.out.1.2.1
set_option maxHeartbeats 16000000 in
set_option maxRecDepth 100000 in
theorem endsStar (s : ByteArray) (hs : s.size ≤ 100000) (n : Nd) (e : Re) (hk : AgainOk s n e) : EndsOk s (.mk 6 [] [n]) (.star e) := by
  intro w k As ns cs Al nl cl g c0 a hM hA hal
  have hu32 := Try.underlying32
  obtain ⟨vs, vk, e1, hS, hK⟩ := knd_openM hM
  injection e1 with e1 e2
  injection e1 with e1 e1
  injection e2 with e2 e3
  injection e3 with e3 e4
  subst e1; subst e2; subst e3
  clear e4
  obtain ⟨gk, cap, e5, -⟩ := Kd.R_form hK (by simp)
  rw [show ([n] : List Nd).length = 1 from rfl] at e5
  injection e5 with e5 e6 e7
  subst e5; subst e6; subst e7
  have HKK := Aside0.mk (⟨hk, hK⟩ : (AgainOk s n e) ∧ Kd.R knd TN w 0 (fun _ => True) (.slice (some ⟨gk, 0, none⟩) 1 cl) [n])
  clear hk
  have HH := Aside0.mk (⟨hs, hal⟩ : s.size ≤ 100000 ∧ a.length = s.size + 1)
  have HA := Aside0.mk hA
  have hsz : (s.size : Int) ≤ 100000 := by omega
  have hsz0 : (0 : Int) ≤ (s.size : Int) := Int.natCast_nonneg _
  obtain ⟨ga, hga⟩ : ∃ ga, g = ga := ⟨_, rfl⟩
  rw [hga] at HA ⊢
  clear hga hM hA hal hs hS hK g
  go_enter Try.func30, Try.ntmps30
  go_wp2_with (first | ((with_reducible refine gate_dst (N := 3) rfl ?_); (try (refine gate_guard (by rfl) ?_; dsimp only)); refine box_event ?hg (N := 3) ?hd (cs := #[.int .i64 6, .slice As ns cs, .slice (some ⟨gk, 0, none⟩) 1 cl]) (t := TN) ?hr ?_; (case hd => rfl); (case hg => rfl); (case hr => first | (go_simp; done) | (go_simp; rfl)); intro x ex wx hx lx; have Ex := Aside0.mk ex; clear ex) | (((with_reducible refine gate_dst (N := 14) rfl ?_); refine Kd.R_make Kd.bool (w0 := wx) 0 TO rfl (N := 14) rfl 29 _ _ rfl ((s.size : Int) + 1) rfl rfl Try.underlying29 (.bool false) 1 infoO rfl (by decide) (by decide) false (ok := fun _ => True) (okp := fun _ => True) rfl (fun _ _ => trivial) trivial ?m0 ?mL (Below.refl _ _) (Nat.zero_le _) ?_; (case m0 => omega); (case mL => omega); intro v14 w14 hR14 hB14 hg14 hat14; obtain ⟨g, c, e14, -⟩ := Kd.R_form hR14 (by rw [List.length_replicate]; omega); rw [List.length_replicate] at e14; subst e14; have hl14 := grown_below hg14); have hxx := blk_below hx hl14; (have x0 : w14.cell? ⟨x, 0, none⟩ = some (.int .i64 (6)) := (blk_cell hxx 0).trans rfl; have x1 : w14.cell? ⟨x, 1, none⟩ = some (.slice As ns cs) := (blk_cell hxx 1).trans rfl; have x2 : w14.cell? ⟨x, 2, none⟩ = some (.slice (some ⟨gk, 0, none⟩) 1 cl) := (blk_cell hxx 2).trans rfl); have hw1 := below_then lx lx.size hl14; have HW1 := Aside0.mk hw1; obtain ⟨k2, As2, ns2, cs2, Al2, nl2, cl2, hM2, q0, q1, q2⟩ := kid_0 (Kd.R_below HKK.out.2 hw1); have ihA := HKK.out.1 w14 k2 As2 ns2 cs2 Al2 nl2 cl2 ga c0 a hM2 (HA.out.below hw1) HH.out.2) | fail)
  refine ihA.mono ?_
  rintro e2 w2 ⟨g2, c2, o2, rfl, hA2, hO2, hl2⟩
  go_wp2_with (fail)
  go_ret
  first | exact ⟨g2, c2, o2, rfl, hA2, hO2, below_then HW1.out HW1.out.size hl2⟩ | exact ⟨g2, c2, rfl, o2, hA2, hO2, below_then HW1.out HW1.out.size hl2⟩
set_option maxHeartbeats 16000000 in
set_option maxRecDepth 100000 in
theorem endsOpt (s : ByteArray) (hs : s.size ≤ 100000) (n : Nd) (e : Re) (hk : EndsOk s n e) : EndsOk s (.mk 8 [] [n]) (.opt e) := by
  intro w k As ns cs Al nl cl g c0 a hM hA hal
  have hu32 := Try.underlying32
  obtain ⟨vs, vk, e1, hS, hK⟩ := knd_openM hM
  injection e1 with e1 e2
  injection e1 with e1 e1
  injection e2 with e2 e3
  injection e3 with e3 e4
  subst e1; subst e2; subst e3
  clear e4
  obtain ⟨gk, cap, e5, -⟩ := Kd.R_form hK (by simp)
  rw [show ([n] : List Nd).length = 1 from rfl] at e5
  injection e5 with e5 e6 e7
  subst e5; subst e6; subst e7
  have HKK := Aside0.mk (⟨hk, hK⟩ : (EndsOk s n e) ∧ Kd.R knd TN w 0 (fun _ => True) (.slice (some ⟨gk, 0, none⟩) 1 cl) [n])
  clear hk
  have HH := Aside0.mk (⟨hs, hal⟩ : s.size ≤ 100000 ∧ a.length = s.size + 1)
  have HA := Aside0.mk hA
  have hsz : (s.size : Int) ≤ 100000 := by omega
  have hsz0 : (0 : Int) ≤ (s.size : Int) := Int.natCast_nonneg _
  obtain ⟨ga, hga⟩ : ∃ ga, g = ga := ⟨_, rfl⟩
  rw [hga] at HA ⊢
  clear hga hM hA hal hs hS hK g
  go_enter Try.func30, Try.ntmps30
  go_wp2_with (first | ((with_reducible refine gate_dst (N := 3) rfl ?_); (try (refine gate_guard (by rfl) ?_; dsimp only)); refine box_event ?hg (N := 3) ?hd (cs := #[.int .i64 8, .slice As ns cs, .slice (some ⟨gk, 0, none⟩) 1 cl]) (t := TN) ?hr ?_; (case hd => rfl); (case hg => rfl); (case hr => first | (go_simp; done) | (go_simp; rfl)); intro x ex wx hx lx; have Ex := Aside0.mk ex; clear ex) | (((with_reducible refine gate_dst (N := 14) rfl ?_); refine Kd.R_make Kd.bool (w0 := wx) 0 TO rfl (N := 14) rfl 29 _ _ rfl ((s.size : Int) + 1) rfl rfl Try.underlying29 (.bool false) 1 infoO rfl (by decide) (by decide) false (ok := fun _ => True) (okp := fun _ => True) rfl (fun _ _ => trivial) trivial ?m0 ?mL (Below.refl _ _) (Nat.zero_le _) ?_; (case m0 => omega); (case mL => omega); intro v14 w14 hR14 hB14 hg14 hat14; obtain ⟨g, c, e14, -⟩ := Kd.R_form hR14 (by rw [List.length_replicate]; omega); rw [List.length_replicate] at e14; subst e14; have hl14 := grown_below hg14); have hxx := blk_below hx hl14; (have x0 : w14.cell? ⟨x, 0, none⟩ = some (.int .i64 (8)) := (blk_cell hxx 0).trans rfl; have x1 : w14.cell? ⟨x, 1, none⟩ = some (.slice As ns cs) := (blk_cell hxx 1).trans rfl; have x2 : w14.cell? ⟨x, 2, none⟩ = some (.slice (some ⟨gk, 0, none⟩) 1 cl) := (blk_cell hxx 2).trans rfl); have hw1 := below_then lx lx.size hl14; have HW1 := Aside0.mk hw1; obtain ⟨k2, As2, ns2, cs2, Al2, nl2, cl2, hM2, q0, q1, q2⟩ := kid_0 (Kd.R_below HKK.out.2 hw1); have ihE := HKK.out.1 w14 k2 As2 ns2 cs2 Al2 nl2 cl2 ga c0 a hM2 (HA.out.below hw1) HH.out.2) | fail)
  refine ihE.mono ?_
  rintro e2 w2 ⟨g2, c2, o2, rfl, hA2, hO2, hl2⟩
  have hB := bothW' w2 s.size ga c0 g2 c2 a o2 ((HA.out.below HW1.out).below hl2) hA2 HH.out.2 hO2.1 HH.out.1
  have HL2 := Aside0.mk (below_then HW1.out HW1.out.size hl2)
  go_wp2_with (fail)
  refine hB.mono ?_
  rintro e3 w3 ⟨g3, c3, rfl, hA3, hl3⟩
  go_wp2_with (fail)
  go_ret
  exact ⟨g3, c3, _, rfl, hA3, OutS.opt HH.out.2 hO2, below_then HL2.out HL2.out.size hl3⟩
set_option maxHeartbeats 16000000 in
set_option maxRecDepth 100000 in
theorem endsPlus (s : ByteArray) (hs : s.size ≤ 100000) (n : Nd) (e : Re) (hk : EndsOk s n e ∧ AgainOk s n e) : EndsOk s (.mk 7 [] [n]) (.plus e) := by
  intro w k As ns cs Al nl cl g c0 a hM hA hal
  have hu32 := Try.underlying32
  obtain ⟨vs, vk, e1, hS, hK⟩ := knd_openM hM
  injection e1 with e1 e2
  injection e1 with e1 e1
  injection e2 with e2 e3
  injection e3 with e3 e4
  subst e1; subst e2; subst e3
  clear e4
  obtain ⟨gk, cap, e5, -⟩ := Kd.R_form hK (by simp)
  rw [show ([n] : List Nd).length = 1 from rfl] at e5
  injection e5 with e5 e6 e7
  subst e5; subst e6; subst e7
  have HKK := Aside0.mk (⟨hk, hK⟩ : (EndsOk s n e ∧ AgainOk s n e) ∧ Kd.R knd TN w 0 (fun _ => True) (.slice (some ⟨gk, 0, none⟩) 1 cl) [n])
  clear hk
  have HH := Aside0.mk (⟨hs, hal⟩ : s.size ≤ 100000 ∧ a.length = s.size + 1)
  have HA := Aside0.mk hA
  have hsz : (s.size : Int) ≤ 100000 := by omega
  have hsz0 : (0 : Int) ≤ (s.size : Int) := Int.natCast_nonneg _
  obtain ⟨ga, hga⟩ : ∃ ga, g = ga := ⟨_, rfl⟩
  rw [hga] at HA ⊢
  clear hga hM hA hal hs hS hK g
  go_enter Try.func30, Try.ntmps30
  go_wp2_with (first | ((with_reducible refine gate_dst (N := 3) rfl ?_); (try (refine gate_guard (by rfl) ?_; dsimp only)); refine box_event ?hg (N := 3) ?hd (cs := #[.int .i64 7, .slice As ns cs, .slice (some ⟨gk, 0, none⟩) 1 cl]) (t := TN) ?hr ?_; (case hd => rfl); (case hg => rfl); (case hr => first | (go_simp; done) | (go_simp; rfl)); intro x ex wx hx lx; have Ex := Aside0.mk ex; clear ex) | (((with_reducible refine gate_dst (N := 14) rfl ?_); refine Kd.R_make Kd.bool (w0 := wx) 0 TO rfl (N := 14) rfl 29 _ _ rfl ((s.size : Int) + 1) rfl rfl Try.underlying29 (.bool false) 1 infoO rfl (by decide) (by decide) false (ok := fun _ => True) (okp := fun _ => True) rfl (fun _ _ => trivial) trivial ?m0 ?mL (Below.refl _ _) (Nat.zero_le _) ?_; (case m0 => omega); (case mL => omega); intro v14 w14 hR14 hB14 hg14 hat14; obtain ⟨g, c, e14, -⟩ := Kd.R_form hR14 (by rw [List.length_replicate]; omega); rw [List.length_replicate] at e14; subst e14; have hl14 := grown_below hg14); have hxx := blk_below hx hl14; (have x0 : w14.cell? ⟨x, 0, none⟩ = some (.int .i64 (7)) := (blk_cell hxx 0).trans rfl; have x1 : w14.cell? ⟨x, 1, none⟩ = some (.slice As ns cs) := (blk_cell hxx 1).trans rfl; have x2 : w14.cell? ⟨x, 2, none⟩ = some (.slice (some ⟨gk, 0, none⟩) 1 cl) := (blk_cell hxx 2).trans rfl); have hw1 := below_then lx lx.size hl14; have HW1 := Aside0.mk hw1; obtain ⟨k2, As2, ns2, cs2, Al2, nl2, cl2, hM2, q0, q1, q2⟩ := kid_0 (Kd.R_below HKK.out.2 hw1); have ihE := fun (W : World) (hb : Below w14.heap.size w14 W) => HKK.out.1.1 W k2 As2 ns2 cs2 Al2 nl2 cl2 ga c0 a (Kd.M_below hM2 hb) ((HA.out.below hw1).below hb) HH.out.2; have ihG := fun (W : World) (hb : Below w14.heap.size w14 W) (g2 c2 : Nat) (o2 : List Bool) (h1 : BoolAt W 0 g2 c2 o2) (h2 : o2.length = s.size + 1) => HKK.out.1.2 W k2 As2 ns2 cs2 Al2 nl2 cl2 g2 c2 o2 (Kd.M_below hM2 hb) h1 h2) | fail)
  go_region_with (first
    | (go_at_call 30; (with_reducible refine (ihE _ ?hA).mono ?_); (case hA => exact below_drew (Below.refl _ _)); rintro e2 w2 ⟨g2, c2, o2, rfl, hA2, hO2, hl2⟩; have hl3 : Below w14.heap.size w14 w2 := below_then (below_drew (Below.refl _ _)) (Nat.le_refl _) hl2; have hxx2 := blk_below hxx hl3; have z2 := (blk_cell hxx2 2).trans (show _ = some (Value.slice (some ⟨gk, 0, none⟩) 1 cl) from rfl); have r0 := pw_cell_below hl3 q0; have r1 := pw_cell_below hl3 q1; have r2 := pw_cell_below hl3 q2)
    | (go_at_call 47; (with_reducible refine (ihG _ ?hA g2 c2 o2 ?hB ?hC).mono ?_); (case hA => exact hl3); (case hB => exact hA2); (case hC => exact hO2.1); rintro e3 w3 ⟨g3, c3, o3, rfl, hA3, hO3, hl4⟩)
    | fail)
  all_goals
    (try go_wp2_with (fail))
    go_ret
    exact ⟨g3, c3, o3, rfl, hA3, OutS.plus hO2 hO3, below_then (below_then HW1.out HW1.out.size hl3) (Nat.le_trans HW1.out.size hl3.size) hl4⟩
/-- where an expression may end, of every tree -/
theorem endsAll (s : ByteArray) (hs : s.size ≤ 100000) : ∀ (N : Nat) (nd : Nd) (e : Re), SizeOf.sizeOf nd < N → RT nd e → EndsOk s nd e
  | 0, nd, e, hN, _ => absurd hN (Nat.not_lt_zero _)
  | N + 1, nd, e, hN, hRT => by
    have kid : ∀ (k : Int) (set : List Bool) (l : List Nd), SizeOf.sizeOf (Nd.mk k set l) < N + 1 → ∀ (j : Nat) (hj : j < l.length) (f : Re), RT l[j] f → EndsOk s l[j] f := by
      intro k set l hN j hj f hf
      have h1 := List.sizeOf_lt_of_mem (List.getElem_mem hj)
      have h2 := Nd.mk.sizeOf_spec k set l
      exact endsAll s hs N _ f (by omega) hf
    have one : ∀ (k : Int) (n : Nd) (f : Re), SizeOf.sizeOf (Nd.mk k [] [n]) < N + 1 → RT n f → EndsOk s n f := by
      intro k n f hN hf
      exact kid k [] [n] hN 0 (by simp) f hf
    match hRT with
    | .byte m => exact endsByte s hs m
    | .beg => exact endsBeg s hs
    | .fin => exact endsFin s hs
    | .way h => exact endsWay s hs _ _ h (kid _ _ _ hN)
    | .ways h => exact endsWays s hs _ _ h (kid _ _ _ hN)
    | .star h => exact endsStar s hs _ _ (againW s _ _ hs (one _ _ _ hN h))
    | .plus h => exact endsPlus s hs _ _ ⟨one _ _ _ hN h, againW s _ _ hs (one _ _ _ hN h)⟩
    | .opt h => exact endsOpt s hs _ _ (one _ _ _ hN h)
theorem endsW (s : ByteArray) (hs : s.size ≤ 100000) (nd : Nd) (e : Re) (h : RT nd e) : EndsOk s nd e := endsAll s hs _ nd e (Nat.lt_succ_self _) h
end Go.Proofs.Ytnjpdhekeffpnaa.Rx
