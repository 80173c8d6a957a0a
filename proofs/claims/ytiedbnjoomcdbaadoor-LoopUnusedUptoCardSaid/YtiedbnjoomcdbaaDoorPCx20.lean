-- PRINTED by print.py (a twelfth state) out of the translation. Not trusted: Lean checks it.
import Derived.Test.YtiedbnjoomcdbaaDoorPCx5
import Derived.Test.YtiedbnjoomcdbaaDoorPCx1
namespace Go.Proofs.YtiedbnjoomcdbaaDoor.PC
open Go.RowKit Go.Proofs.YtiedbnjoomcdbaaDoorW.PrintWords Go.Proofs.YtiedbnjoomcdbaaDoorW.PrintLast Go.Proofs.YtiedbnjoomcdbaaDoorW.PrintMore
attribute [local go_sem] max2_int min2_int max_two min_two max_three min_three max_four min_four   -- for this text's walks alone
set_option linter.unusedVariables false
set_option linter.unusedSimpArgs false

/-! ### bobstaylaw12_LoopUnused: function 4 -/
mutual
def bobstaylaw12_LoopUnused.l0 : Nat → ByteArray → ByteArray → List (S34) → List (S33) → Int → Int → Option (Bool)
  | 0, _, _, _, _, _, _ => none
  | k + 1, x1, x2, x7, x36, x37, x38 => if x38 < x37 then (if 0 ≤ x38 then (if x38 < (x36.length : Int) then (if x38 < (x7.length : Int) then (if ((rd_T34 x7 x38).f1) = ((rd_T33 x36 x38).f1) then (if (((rd_T34 x7 x38).f2) != ((rd_T33 x36 x38).f2)) = true then (some false) else (bobstaylaw12_LoopUnused.l1 k x1 x2 x7 x38 true 0 x36 x37 x38 ((rd_T33 x36 x38).f0) ((rd_T33 x36 x38).f1) ((rd_T33 x36 x38).f2))) else (some false)) else (none)) else (none)) else (none)) else (bobstaylaw12_LoopUnused.l2 k x1 x2 0)
def bobstaylaw12_LoopUnused.l1 : Nat → ByteArray → ByteArray → List (S34) → Int → Bool → Int → List (S33) → Int → Int → ByteArray → Int → Bool → Option (Bool)
  | 0, _, _, _, _, _, _, _, _, _, _, _, _ => none
  | k + 1, x1, x2, x7, x8, x10, x11, x36, x37, x38, x191000, x191001, x191002 => if x11 < (x191000.size : Int) then (if x10 = true then (if 0 ≤ x11 then (bobstaylaw12_LoopUnused.l1 k x1 x2 x7 x8 ((bt x191000 x11) != 36) (wrap64 (x11 + 1)) x36 x37 x38 x191000 x191001 x191002) else (none)) else (bobstaylaw12_LoopUnused.l1 k x1 x2 x7 x8 false (wrap64 (x11 + 1)) x36 x37 x38 x191000 x191001 x191002)) else (if x10 = true then (if 0 ≤ x8 then (if x8 < (x7.length : Int) then (if ((rd_T34 x7 x8).f0).toList = x191000.toList then (bobstaylaw12_LoopUnused.l0 k x1 x2 x7 x36 x37 (wrap64 (x38 + 1))) else (some false)) else (none)) else (none)) else (bobstaylaw12_LoopUnused.l0 k x1 x2 x7 x36 x37 (wrap64 (x38 + 1))))
def bobstaylaw12_LoopUnused.l2 : Nat → ByteArray → ByteArray → Int → Option (Bool)
  | 0, _, _, _ => none
  | k + 1, x1, x2, x12 => if x12 < (x1.size : Int) then (if 0 ≤ x12 then (if (bt x1 x12) = 36 then ((bobstaylaw12_alive.f).bind fun t194 => (some t194)) else (if (bt x1 x12) = 123 then ((bobstaylaw12_alive.f).bind fun t195 => (some t195)) else (if (bt x1 x12) = 125 then ((bobstaylaw12_alive.f).bind fun t196 => (some t196)) else (bobstaylaw12_LoopUnused.l2 k x1 x2 (wrap64 (x12 + 1)))))) else (none)) else (bobstaylaw12_LoopUnused.l3 k x1 x2 0)
def bobstaylaw12_LoopUnused.l3 : Nat → ByteArray → ByteArray → Int → Option (Bool)
  | 0, _, _, _ => none
  | k + 1, x1, x2, x13 => if x13 < (x2.size : Int) then (if 0 ≤ x13 then (if (bt x2 x13) = 36 then ((bobstaylaw12_alive.f).bind fun t197 => (some t197)) else (bobstaylaw12_LoopUnused.l3 k x1 x2 (wrap64 (x13 + 1)))) else (none)) else (if 3 + x1.size ≤ 9223372036854775807 then (if ((⟨#[97, 36, 123]⟩ : ByteArray) ++ x1).size + 2 ≤ 9223372036854775807 then ((loop_Bind.f k (([(⟨((⟨#[97, 36, 123]⟩ : ByteArray) ++ x1) ++ (⟨#[125, 98]⟩ : ByteArray), 0, false⟩ : S34)] : List (S34))) x1 x2).bind fun t201 => (if (t201.length : Int) = 1 then (if 0 < (t201.length : Int) then (if 1 + x2.size ≤ 9223372036854775807 then (if ((⟨#[97]⟩ : ByteArray) ++ x2).size + 1 ≤ 9223372036854775807 then (if ((rd_T34 t201 0).f0).toList = (((⟨#[97]⟩ : ByteArray) ++ x2) ++ (⟨#[98]⟩ : ByteArray)).toList then ((bobstaylaw12_alive.f).bind fun t205 => (some t205)) else (some false)) else (none)) else (none)) else (none)) else (some false))) else (none)) else (none))
end
def bobstaylaw12_LoopUnused.f (k : Nat) (l0 : List (S33)) (a1 : ByteArray) (a2 : ByteArray) : Option (Bool) := (bobstaylaw12_far.f k l0).bind fun t180 => (if t180 = true then ((bobstaylaw12_alive.f).bind fun t181 => (some t181)) else (if (wrap64 ((a1.size : Int) + (a2.size : Int))) > 500 then ((bobstaylaw12_alive.f).bind fun t182 => (some t182)) else ((bobstaylaw12_theirs.f k l0).bind fun t183 => ((loop_Bind.f k t183 a1 a2).bind fun t186 => (if (t186.length : Int) = (l0.length : Int) then (bobstaylaw12_LoopUnused.l0 k a1 a2 t186 l0 (l0.length : Int) 0) else (some false))))))
theorem bobstaylaw12_LoopUnused.mono_l : ∀ k, (∀ y0 y1 y2 y3 y4 y5, LeO (bobstaylaw12_LoopUnused.l0 k y0 y1 y2 y3 y4 y5) (bobstaylaw12_LoopUnused.l0 (k + 1) y0 y1 y2 y3 y4 y5)) ∧ (∀ y0 y1 y2 y3 y4 y5 y6 y7 y8 y9 y10 y11, LeO (bobstaylaw12_LoopUnused.l1 k y0 y1 y2 y3 y4 y5 y6 y7 y8 y9 y10 y11) (bobstaylaw12_LoopUnused.l1 (k + 1) y0 y1 y2 y3 y4 y5 y6 y7 y8 y9 y10 y11)) ∧ (∀ y0 y1 y2, LeO (bobstaylaw12_LoopUnused.l2 k y0 y1 y2) (bobstaylaw12_LoopUnused.l2 (k + 1) y0 y1 y2)) ∧ (∀ y0 y1 y2, LeO (bobstaylaw12_LoopUnused.l3 k y0 y1 y2) (bobstaylaw12_LoopUnused.l3 (k + 1) y0 y1 y2))
  | 0 => ⟨fun _ _ _ _ _ _ r h => by simp [bobstaylaw12_LoopUnused.l0] at h, fun _ _ _ _ _ _ _ _ _ _ _ _ r h => by simp [bobstaylaw12_LoopUnused.l1] at h, fun _ _ _ r h => by simp [bobstaylaw12_LoopUnused.l2] at h, fun _ _ _ r h => by simp [bobstaylaw12_LoopUnused.l3] at h⟩
  | k + 1 => by
    obtain ⟨ih0, ih1, ih2, ih3⟩ := bobstaylaw12_LoopUnused.mono_l k
    refine ⟨?_, ?_, ?_, ?_⟩
    · intro y0 y1 y2 y3 y4 y5
      unfold bobstaylaw12_LoopUnused.l0
      repeat' first
      | (with_reducible exact ih0 _ _ _ _ _ _)
      | (with_reducible exact ih1 _ _ _ _ _ _ _ _ _ _ _ _)
      | (with_reducible exact ih2 _ _ _)
      | (with_reducible exact ih3 _ _ _)
      | (with_reducible exact bobstaylaw12_far.mono _ _)
      | (with_reducible exact bobstaylaw12_theirs.mono _ _)
      | (with_reducible exact loop_Bind.mono _ _ _ _)
      | (with_reducible exact LeO.refl _)
      | (with_reducible exact LeO.none _)
      | (with_reducible refine LeO.ite ?_ ?_)
      | (with_reducible refine LeO.bind ?_ (fun _ => ?_))
      | exact ih0 _ _ _ _ _ _
      | exact ih1 _ _ _ _ _ _ _ _ _ _ _ _
      | exact ih2 _ _ _
      | exact ih3 _ _ _
      | exact bobstaylaw12_far.mono _ _
      | exact bobstaylaw12_theirs.mono _ _
      | exact loop_Bind.mono _ _ _ _
      | exact LeO.none _
      | refine LeO.ite ?_ ?_
      | refine LeO.bind ?_ (fun _ => ?_)
    · intro y0 y1 y2 y3 y4 y5 y6 y7 y8 y9 y10 y11
      unfold bobstaylaw12_LoopUnused.l1
      repeat' first
      | (with_reducible exact ih0 _ _ _ _ _ _)
      | (with_reducible exact ih1 _ _ _ _ _ _ _ _ _ _ _ _)
      | (with_reducible exact ih2 _ _ _)
      | (with_reducible exact ih3 _ _ _)
      | (with_reducible exact bobstaylaw12_far.mono _ _)
      | (with_reducible exact bobstaylaw12_theirs.mono _ _)
      | (with_reducible exact loop_Bind.mono _ _ _ _)
      | (with_reducible exact LeO.refl _)
      | (with_reducible exact LeO.none _)
      | (with_reducible refine LeO.ite ?_ ?_)
      | (with_reducible refine LeO.bind ?_ (fun _ => ?_))
      | exact ih0 _ _ _ _ _ _
      | exact ih1 _ _ _ _ _ _ _ _ _ _ _ _
      | exact ih2 _ _ _
      | exact ih3 _ _ _
      | exact bobstaylaw12_far.mono _ _
      | exact bobstaylaw12_theirs.mono _ _
      | exact loop_Bind.mono _ _ _ _
      | exact LeO.none _
      | refine LeO.ite ?_ ?_
      | refine LeO.bind ?_ (fun _ => ?_)
    · intro y0 y1 y2
      unfold bobstaylaw12_LoopUnused.l2
      repeat' first
      | (with_reducible exact ih0 _ _ _ _ _ _)
      | (with_reducible exact ih1 _ _ _ _ _ _ _ _ _ _ _ _)
      | (with_reducible exact ih2 _ _ _)
      | (with_reducible exact ih3 _ _ _)
      | (with_reducible exact bobstaylaw12_far.mono _ _)
      | (with_reducible exact bobstaylaw12_theirs.mono _ _)
      | (with_reducible exact loop_Bind.mono _ _ _ _)
      | (with_reducible exact LeO.refl _)
      | (with_reducible exact LeO.none _)
      | (with_reducible refine LeO.ite ?_ ?_)
      | (with_reducible refine LeO.bind ?_ (fun _ => ?_))
      | exact ih0 _ _ _ _ _ _
      | exact ih1 _ _ _ _ _ _ _ _ _ _ _ _
      | exact ih2 _ _ _
      | exact ih3 _ _ _
      | exact bobstaylaw12_far.mono _ _
      | exact bobstaylaw12_theirs.mono _ _
      | exact loop_Bind.mono _ _ _ _
      | exact LeO.none _
      | refine LeO.ite ?_ ?_
      | refine LeO.bind ?_ (fun _ => ?_)
    · intro y0 y1 y2
      unfold bobstaylaw12_LoopUnused.l3
      repeat' first
      | (with_reducible exact ih0 _ _ _ _ _ _)
      | (with_reducible exact ih1 _ _ _ _ _ _ _ _ _ _ _ _)
      | (with_reducible exact ih2 _ _ _)
      | (with_reducible exact ih3 _ _ _)
      | (with_reducible exact bobstaylaw12_far.mono _ _)
      | (with_reducible exact bobstaylaw12_theirs.mono _ _)
      | (with_reducible exact loop_Bind.mono _ _ _ _)
      | (with_reducible exact LeO.refl _)
      | (with_reducible exact LeO.none _)
      | (with_reducible refine LeO.ite ?_ ?_)
      | (with_reducible refine LeO.bind ?_ (fun _ => ?_))
      | exact ih0 _ _ _ _ _ _
      | exact ih1 _ _ _ _ _ _ _ _ _ _ _ _
      | exact ih2 _ _ _
      | exact ih3 _ _ _
      | exact bobstaylaw12_far.mono _ _
      | exact bobstaylaw12_theirs.mono _ _
      | exact loop_Bind.mono _ _ _ _
      | exact LeO.none _
      | refine LeO.ite ?_ ?_
      | refine LeO.bind ?_ (fun _ => ?_)
theorem bobstaylaw12_LoopUnused.mono : ∀ a0 a1 a2 k, LeO (bobstaylaw12_LoopUnused.f k a0 a1 a2) (bobstaylaw12_LoopUnused.f (k + 1) a0 a1 a2) := by
  intro a0 a1 a2 k
  obtain ⟨ih0, ih1, ih2, ih3⟩ := bobstaylaw12_LoopUnused.mono_l k
  unfold bobstaylaw12_LoopUnused.f
  repeat' first
      | (with_reducible exact ih0 _ _ _ _ _ _)
      | (with_reducible exact ih1 _ _ _ _ _ _ _ _ _ _ _ _)
      | (with_reducible exact ih2 _ _ _)
      | (with_reducible exact ih3 _ _ _)
      | (with_reducible exact bobstaylaw12_far.mono _ _)
      | (with_reducible exact bobstaylaw12_theirs.mono _ _)
      | (with_reducible exact loop_Bind.mono _ _ _ _)
      | (with_reducible exact LeO.refl _)
      | (with_reducible exact LeO.none _)
      | (with_reducible refine LeO.ite ?_ ?_)
      | (with_reducible refine LeO.bind ?_ (fun _ => ?_))
      | exact ih0 _ _ _ _ _ _
      | exact ih1 _ _ _ _ _ _ _ _ _ _ _ _
      | exact ih2 _ _ _
      | exact ih3 _ _ _
      | exact bobstaylaw12_far.mono _ _
      | exact bobstaylaw12_theirs.mono _ _
      | exact loop_Bind.mono _ _ _ _
      | exact LeO.none _
      | refine LeO.ite ?_ ?_
      | refine LeO.bind ?_ (fun _ => ?_)
set_option maxHeartbeats 8000000 in
set_option maxRecDepth 100000 in
theorem bobstaylaw12_LoopUnused.calls (k : Nat) (A0 : Option Addr) (c0 : Nat) (l0 : List (S33)) (a1 : ByteArray) (a2 : ByteArray) (r : Bool) (w : World) (hr0 : Kd.C k33 w A0 l0.length l0) (hc0 : l0.length ≤ c0) (h : bobstaylaw12_LoopUnused.f k l0 a1 a2 = some r) :
    Calls Tryd.prog 4 #[.slice A0 l0.length c0, .string a1, .string a2] w fun e w' => e = .returned (.bool r) ∧ Below w.heap.size w w' := by
  have hu33 := Tryd.underlying33
  have hu34 := Tryd.underlying34
  have HR0 := Aside0.mk hr0
  have HC0 := Aside0.mk hc0
  clear hr0 hc0
  have HB := Aside0.mk (Below.refl w.heap.size w)
  have H : ((bobstaylaw12_far.f k l0).bind fun t180 => (if t180 = true then ((bobstaylaw12_alive.f).bind fun t181 => (some t181)) else (if (wrap64 ((a1.size : Int) + (a2.size : Int))) > 500 then ((bobstaylaw12_alive.f).bind fun t182 => (some t182)) else ((bobstaylaw12_theirs.f k l0).bind fun t183 => ((loop_Bind.f k t183 a1 a2).bind fun t186 => (if (t186.length : Int) = (l0.length : Int) then (bobstaylaw12_LoopUnused.l0 k a1 a2 t186 l0 (l0.length : Int) 0) else (some false))))))) = some r := h
  clear h
  replace H := Option.bind_eq_some_iff.mp H
  obtain ⟨t180, A40, H⟩ := H
  replace H : (if t180 = true then ((bobstaylaw12_alive.f).bind fun t181 => (some t181)) else (if (wrap64 ((a1.size : Int) + (a2.size : Int))) > 500 then ((bobstaylaw12_alive.f).bind fun t182 => (some t182)) else ((bobstaylaw12_theirs.f k l0).bind fun t183 => ((loop_Bind.f k t183 a1 a2).bind fun t186 => (if (t186.length : Int) = (l0.length : Int) then (bobstaylaw12_LoopUnused.l0 k a1 a2 t186 l0 (l0.length : Int) 0) else (some false)))))) = some r := H
  have A4 := Aside0.mk A40
  clear A40
  by_cases c5 : t180 = true
  · subst c5
    have H1 : ((bobstaylaw12_alive.f).bind fun t181 => (some t181)) = some r := by rw [if_pos rfl] at H; exact H
    clear H
    have H := H1
    clear H1
    replace H := Option.bind_eq_some_iff.mp H
    obtain ⟨t181, A60, H⟩ := H
    replace H : (some t181) = some r := H
    have A6 := Aside0.mk A60
    clear A60
    obtain rfl := Option.some.inj H
    go_enter Tryd.func4, Tryd.ntmps4
    go_wp2_with (first | (go_at_call 8; (with_reducible refine (bobstaylaw12_far.calls k _ _ l0 true _ ?side1 ?side2 A4.out).mono ?_); (case side1 => repeat (first | exact HR0.out | (with_reducible refine Kd.C_alloc ?_ _) | (with_reducible refine Kd.C_drewN ?_ _) | (with_reducible refine Kd.C_drew ?_))); (case side2 => exact HC0.out); rintro e w7 ⟨rfl, hb⟩; have n0_ := Aside0.mk (below_step (by repeat (first | (with_reducible first | exact HB.out | apply below_alloc | apply pw_below_drewN | apply below_drew1) | exact HB.out)) hb); clear HB; have HB := n0_; clear n0_; (try clear hb); (try clear hb2); (try clear hk); (try clear hi)) | (go_at_call 9; (with_reducible refine (bobstaylaw12_alive.calls  t181 _ A6.out).mono ?_); rintro e w8 ⟨rfl, hb⟩; have n0_ := Aside0.mk (below_step (by repeat (first | (with_reducible first | exact HB.out | apply below_alloc | apply pw_below_drewN | apply below_drew1) | exact HB.out)) hb); clear HB; have HB := n0_; clear n0_; (try clear hb); (try clear hb2); (try clear hk); (try clear hi)))
    repeat (go_quiet (first | (go_at_call 8; (with_reducible refine (bobstaylaw12_far.calls k _ _ l0 true _ ?side1 ?side2 A4.out).mono ?_); (case side1 => repeat (first | exact HR0.out | (with_reducible refine Kd.C_alloc ?_ _) | (with_reducible refine Kd.C_drewN ?_ _) | (with_reducible refine Kd.C_drew ?_))); (case side2 => exact HC0.out); rintro e w7 ⟨rfl, hb⟩; have n0_ := Aside0.mk (below_step (by repeat (first | (with_reducible first | exact HB.out | apply below_alloc | apply pw_below_drewN | apply below_drew1) | exact HB.out)) hb); clear HB; have HB := n0_; clear n0_; (try clear hb); (try clear hb2); (try clear hk); (try clear hi)) | (go_at_call 9; (with_reducible refine (bobstaylaw12_alive.calls  t181 _ A6.out).mono ?_); rintro e w8 ⟨rfl, hb⟩; have n0_ := Aside0.mk (below_step (by repeat (first | (with_reducible first | exact HB.out | apply below_alloc | apply pw_below_drewN | apply below_drew1) | exact HB.out)) hb); clear HB; have HB := n0_; clear n0_; (try clear hb); (try clear hb2); (try clear hk); (try clear hi))); try go_wp2_with (first | (go_at_call 8; (with_reducible refine (bobstaylaw12_far.calls k _ _ l0 true _ ?side1 ?side2 A4.out).mono ?_); (case side1 => repeat (first | exact HR0.out | (with_reducible refine Kd.C_alloc ?_ _) | (with_reducible refine Kd.C_drewN ?_ _) | (with_reducible refine Kd.C_drew ?_))); (case side2 => exact HC0.out); rintro e w7 ⟨rfl, hb⟩; have n0_ := Aside0.mk (below_step (by repeat (first | (with_reducible first | exact HB.out | apply below_alloc | apply pw_below_drewN | apply below_drew1) | exact HB.out)) hb); clear HB; have HB := n0_; clear n0_; (try clear hb); (try clear hb2); (try clear hk); (try clear hi)) | (go_at_call 9; (with_reducible refine (bobstaylaw12_alive.calls  t181 _ A6.out).mono ?_); rintro e w8 ⟨rfl, hb⟩; have n0_ := Aside0.mk (below_step (by repeat (first | (with_reducible first | exact HB.out | apply below_alloc | apply pw_below_drewN | apply below_drew1) | exact HB.out)) hb); clear HB; have HB := n0_; clear n0_; (try clear hb); (try clear hb2); (try clear hk); (try clear hi))))
    go_ret
    exact ⟨by first | rfl | (simp [errW_none, errW_some] <;> rfl) | (simp [*, errW_none, errW_some] <;> rfl), by repeat (first | (with_reducible first | exact HB.out | apply below_alloc | apply pw_below_drewN | apply below_drew1) | exact HB.out)⟩
  · replace c5 := Bool.eq_false_iff.mpr c5
    subst c5
    have H1 : (if (wrap64 ((a1.size : Int) + (a2.size : Int))) > 500 then ((bobstaylaw12_alive.f).bind fun t182 => (some t182)) else ((bobstaylaw12_theirs.f k l0).bind fun t183 => ((loop_Bind.f k t183 a1 a2).bind fun t186 => (if (t186.length : Int) = (l0.length : Int) then (bobstaylaw12_LoopUnused.l0 k a1 a2 t186 l0 (l0.length : Int) 0) else (some false))))) = some r := by rw [if_neg (show ¬ (false = true) by decide)] at H; exact H
    clear H
    have H := H1
    clear H1
    by_cases c9 : (wrap64 ((a1.size : Int) + (a2.size : Int))) > 500
    · rw [if_pos c9] at H
      have c9b0 : decide (500 < (wrap64 ((a1.size : Int) + (a2.size : Int)))) = true := decide_eq_true c9
      clear c9
      replace H := Option.bind_eq_some_iff.mp H
      obtain ⟨t182, A100, H⟩ := H
      replace H : (some t182) = some r := H
      have A10 := Aside0.mk A100
      clear A100
      obtain rfl := Option.some.inj H
      go_enter Tryd.func4, Tryd.ntmps4
      go_wp2_with (first | (go_at_call 8; (with_reducible refine (bobstaylaw12_far.calls k _ _ l0 false _ ?side1 ?side2 A4.out).mono ?_); (case side1 => repeat (first | exact HR0.out | (with_reducible refine Kd.C_alloc ?_ _) | (with_reducible refine Kd.C_drewN ?_ _) | (with_reducible refine Kd.C_drew ?_))); (case side2 => exact HC0.out); rintro e w11 ⟨rfl, hb⟩; have n0_ := Aside0.mk (below_step (by repeat (first | (with_reducible first | exact HB.out | apply below_alloc | apply pw_below_drewN | apply below_drew1) | exact HB.out)) hb); clear HB; have HB := n0_; clear n0_; (try clear hb); (try clear hb2); (try clear hk); (try clear hi)) | (go_at_call 9; (with_reducible refine (bobstaylaw12_alive.calls  t182 _ A10.out).mono ?_); rintro e w12 ⟨rfl, hb⟩; have n0_ := Aside0.mk (below_step (by repeat (first | (with_reducible first | exact HB.out | apply below_alloc | apply pw_below_drewN | apply below_drew1) | exact HB.out)) hb); clear HB; have HB := n0_; clear n0_; (try clear hb); (try clear hb2); (try clear hk); (try clear hi)))
      repeat (go_quiet (first | (go_at_call 8; (with_reducible refine (bobstaylaw12_far.calls k _ _ l0 false _ ?side1 ?side2 A4.out).mono ?_); (case side1 => repeat (first | exact HR0.out | (with_reducible refine Kd.C_alloc ?_ _) | (with_reducible refine Kd.C_drewN ?_ _) | (with_reducible refine Kd.C_drew ?_))); (case side2 => exact HC0.out); rintro e w11 ⟨rfl, hb⟩; have n0_ := Aside0.mk (below_step (by repeat (first | (with_reducible first | exact HB.out | apply below_alloc | apply pw_below_drewN | apply below_drew1) | exact HB.out)) hb); clear HB; have HB := n0_; clear n0_; (try clear hb); (try clear hb2); (try clear hk); (try clear hi)) | (go_at_call 9; (with_reducible refine (bobstaylaw12_alive.calls  t182 _ A10.out).mono ?_); rintro e w12 ⟨rfl, hb⟩; have n0_ := Aside0.mk (below_step (by repeat (first | (with_reducible first | exact HB.out | apply below_alloc | apply pw_below_drewN | apply below_drew1) | exact HB.out)) hb); clear HB; have HB := n0_; clear n0_; (try clear hb); (try clear hb2); (try clear hk); (try clear hi))); try go_wp2_with (first | (go_at_call 8; (with_reducible refine (bobstaylaw12_far.calls k _ _ l0 false _ ?side1 ?side2 A4.out).mono ?_); (case side1 => repeat (first | exact HR0.out | (with_reducible refine Kd.C_alloc ?_ _) | (with_reducible refine Kd.C_drewN ?_ _) | (with_reducible refine Kd.C_drew ?_))); (case side2 => exact HC0.out); rintro e w11 ⟨rfl, hb⟩; have n0_ := Aside0.mk (below_step (by repeat (first | (with_reducible first | exact HB.out | apply below_alloc | apply pw_below_drewN | apply below_drew1) | exact HB.out)) hb); clear HB; have HB := n0_; clear n0_; (try clear hb); (try clear hb2); (try clear hk); (try clear hi)) | (go_at_call 9; (with_reducible refine (bobstaylaw12_alive.calls  t182 _ A10.out).mono ?_); rintro e w12 ⟨rfl, hb⟩; have n0_ := Aside0.mk (below_step (by repeat (first | (with_reducible first | exact HB.out | apply below_alloc | apply pw_below_drewN | apply below_drew1) | exact HB.out)) hb); clear HB; have HB := n0_; clear n0_; (try clear hb); (try clear hb2); (try clear hk); (try clear hi))))
      go_ret
      exact ⟨by first | rfl | (simp [errW_none, errW_some] <;> rfl) | (simp [*, errW_none, errW_some] <;> rfl), by repeat (first | (with_reducible first | exact HB.out | apply below_alloc | apply pw_below_drewN | apply below_drew1) | exact HB.out)⟩
    · rw [if_neg c9] at H
      have c9b0 : decide (500 < (wrap64 ((a1.size : Int) + (a2.size : Int)))) = false := decide_eq_false c9
      clear c9
      replace H := Option.bind_eq_some_iff.mp H
      obtain ⟨t183, A130, H⟩ := H
      replace H : ((loop_Bind.f k t183 a1 a2).bind fun t186 => (if (t186.length : Int) = (l0.length : Int) then (bobstaylaw12_LoopUnused.l0 k a1 a2 t186 l0 (l0.length : Int) 0) else (some false))) = some r := H
      have A13 := Aside0.mk A130
      clear A130
      replace H := Option.bind_eq_some_iff.mp H
      obtain ⟨t186, A140, H⟩ := H
      replace H : (if (t186.length : Int) = (l0.length : Int) then (bobstaylaw12_LoopUnused.l0 k a1 a2 t186 l0 (l0.length : Int) 0) else (some false)) = some r := H
      have A14 := Aside0.mk A140
      clear A140
      by_cases c15 : (t186.length : Int) = (l0.length : Int)
      · rw [if_pos c15] at H
        have c15b0 : ((t186.length : Int) == (l0.length : Int)) = true := beq_iff_eq.mpr c15
        have c15b1 : ((t186.length : Int) != (l0.length : Int)) = false := bne_eq_false_iff_eq.mpr c15
        have c15b2 : (t186.length == l0.length) = true := by first | simpa using c15 | (simp at c15 ⊢; omega)
        clear c15
        have H' := Aside0.mk H
        clear H
        go_enter Tryd.func4, Tryd.ntmps4
        go_wp2_with (first | (go_at_call 8; (with_reducible refine (bobstaylaw12_far.calls k _ _ l0 false _ ?side1 ?side2 A4.out).mono ?_); (case side1 => repeat (first | exact HR0.out | (with_reducible refine Kd.C_alloc ?_ _) | (with_reducible refine Kd.C_drewN ?_ _) | (with_reducible refine Kd.C_drew ?_))); (case side2 => exact HC0.out); rintro e w16 ⟨rfl, hb⟩; have n0_ := Aside0.mk (below_step (by repeat (first | (with_reducible first | exact HB.out | apply below_alloc | apply pw_below_drewN | apply below_drew1) | exact HB.out)) hb); clear HB; have HB := n0_; clear n0_; (try clear hb); (try clear hb2); (try clear hk); (try clear hi)) | (go_at_call 13; (with_reducible refine (bobstaylaw12_theirs.calls k _ _ l0 t183 _ ?side1 ?side2 A13.out).mono ?_); (case side1 => repeat (first | exact (Kd.C_below HR0.out HB.out) | (with_reducible refine Kd.C_alloc ?_ _) | (with_reducible refine Kd.C_drewN ?_ _) | (with_reducible refine Kd.C_drew ?_))); (case side2 => exact HC0.out); rintro e w17 ⟨v184, rfl, ho0, hb⟩; have n0_ := Aside0.mk (Kd.R_lower ho0 (below_size (by repeat (first | (with_reducible first | exact HB.out | apply below_alloc | apply pw_below_drewN | apply below_drew1) | exact HB.out)))); have n1_ := Aside0.mk (below_step (by repeat (first | (with_reducible first | exact HB.out | apply below_alloc | apply pw_below_drewN | apply below_drew1) | exact HB.out)) hb); clear HB; have HO185 := n0_; have HB := n1_; clear n0_ n1_; (try clear hb); (try clear hb2); (try clear hk); (try clear hi); (try clear ho0); obtain ⟨Ao18, co18, eo18⟩ := Kd.R_slice HO185.out; subst eo18) | (go_at_call 12; (with_reducible refine (loop_Bind.calls k _ _ t183 a1 a2 t186 _ ?side1 ?side2 A14.out).mono ?_); (case side1 => repeat (first | exact (Kd.R_reads' HO185.out).2.2 | (with_reducible refine Kd.C_alloc ?_ _) | (with_reducible refine Kd.C_drewN ?_ _) | (with_reducible refine Kd.C_drew ?_))); (case side2 => exact (Kd.R_reads' HO185.out).2.1); rintro e w19 ⟨v187, rfl, ho0, hb⟩; have n0_ := Aside0.mk (Kd.R_elder' (by (with_reducible repeat (first | apply Kd.R_alloc | apply Kd.R_drewN | apply Kd.R_drew)); exact HO185.out) (Kd.R_base ho0) hb); have n1_ := Aside0.mk (Kd.R_lower (Kd.R_new' ho0 (Kd.R_lt (by (with_reducible repeat (first | apply Kd.R_alloc | apply Kd.R_drewN | apply Kd.R_drew)); exact HO185.out))) (below_size (by repeat (first | (with_reducible first | exact HB.out | apply below_alloc | apply pw_below_drewN | apply below_drew1) | exact HB.out)))); have n2_ := Aside0.mk (below_step (by repeat (first | (with_reducible first | exact HB.out | apply below_alloc | apply pw_below_drewN | apply below_drew1) | exact HB.out)) hb); clear HO185; clear HB; have HO185 := n0_; have HO188 := n1_; have HB := n2_; clear n0_ n1_ n2_; (try clear hb); (try clear hb2); (try clear hk); (try clear hi); (try clear ho0); obtain ⟨Ao20, co20, eo20⟩ := Kd.R_slice HO188.out; subst eo20))
        repeat (go_quiet (first | (go_at_call 8; (with_reducible refine (bobstaylaw12_far.calls k _ _ l0 false _ ?side1 ?side2 A4.out).mono ?_); (case side1 => repeat (first | exact HR0.out | (with_reducible refine Kd.C_alloc ?_ _) | (with_reducible refine Kd.C_drewN ?_ _) | (with_reducible refine Kd.C_drew ?_))); (case side2 => exact HC0.out); rintro e w16 ⟨rfl, hb⟩; have n0_ := Aside0.mk (below_step (by repeat (first | (with_reducible first | exact HB.out | apply below_alloc | apply pw_below_drewN | apply below_drew1) | exact HB.out)) hb); clear HB; have HB := n0_; clear n0_; (try clear hb); (try clear hb2); (try clear hk); (try clear hi)) | (go_at_call 13; (with_reducible refine (bobstaylaw12_theirs.calls k _ _ l0 t183 _ ?side1 ?side2 A13.out).mono ?_); (case side1 => repeat (first | exact (Kd.C_below HR0.out HB.out) | (with_reducible refine Kd.C_alloc ?_ _) | (with_reducible refine Kd.C_drewN ?_ _) | (with_reducible refine Kd.C_drew ?_))); (case side2 => exact HC0.out); rintro e w17 ⟨v184, rfl, ho0, hb⟩; have n0_ := Aside0.mk (Kd.R_lower ho0 (below_size (by repeat (first | (with_reducible first | exact HB.out | apply below_alloc | apply pw_below_drewN | apply below_drew1) | exact HB.out)))); have n1_ := Aside0.mk (below_step (by repeat (first | (with_reducible first | exact HB.out | apply below_alloc | apply pw_below_drewN | apply below_drew1) | exact HB.out)) hb); clear HB; have HO185 := n0_; have HB := n1_; clear n0_ n1_; (try clear hb); (try clear hb2); (try clear hk); (try clear hi); (try clear ho0); obtain ⟨Ao18, co18, eo18⟩ := Kd.R_slice HO185.out; subst eo18) | (go_at_call 12; (with_reducible refine (loop_Bind.calls k _ _ t183 a1 a2 t186 _ ?side1 ?side2 A14.out).mono ?_); (case side1 => repeat (first | exact (Kd.R_reads' HO185.out).2.2 | (with_reducible refine Kd.C_alloc ?_ _) | (with_reducible refine Kd.C_drewN ?_ _) | (with_reducible refine Kd.C_drew ?_))); (case side2 => exact (Kd.R_reads' HO185.out).2.1); rintro e w19 ⟨v187, rfl, ho0, hb⟩; have n0_ := Aside0.mk (Kd.R_elder' (by (with_reducible repeat (first | apply Kd.R_alloc | apply Kd.R_drewN | apply Kd.R_drew)); exact HO185.out) (Kd.R_base ho0) hb); have n1_ := Aside0.mk (Kd.R_lower (Kd.R_new' ho0 (Kd.R_lt (by (with_reducible repeat (first | apply Kd.R_alloc | apply Kd.R_drewN | apply Kd.R_drew)); exact HO185.out))) (below_size (by repeat (first | (with_reducible first | exact HB.out | apply below_alloc | apply pw_below_drewN | apply below_drew1) | exact HB.out)))); have n2_ := Aside0.mk (below_step (by repeat (first | (with_reducible first | exact HB.out | apply below_alloc | apply pw_below_drewN | apply below_drew1) | exact HB.out)) hb); clear HO185; clear HB; have HO185 := n0_; have HO188 := n1_; have HB := n2_; clear n0_ n1_ n2_; (try clear hb); (try clear hb2); (try clear hk); (try clear hi); (try clear ho0); obtain ⟨Ao20, co20, eo20⟩ := Kd.R_slice HO188.out; subst eo20)); try go_wp2_with (first | (go_at_call 8; (with_reducible refine (bobstaylaw12_far.calls k _ _ l0 false _ ?side1 ?side2 A4.out).mono ?_); (case side1 => repeat (first | exact HR0.out | (with_reducible refine Kd.C_alloc ?_ _) | (with_reducible refine Kd.C_drewN ?_ _) | (with_reducible refine Kd.C_drew ?_))); (case side2 => exact HC0.out); rintro e w16 ⟨rfl, hb⟩; have n0_ := Aside0.mk (below_step (by repeat (first | (with_reducible first | exact HB.out | apply below_alloc | apply pw_below_drewN | apply below_drew1) | exact HB.out)) hb); clear HB; have HB := n0_; clear n0_; (try clear hb); (try clear hb2); (try clear hk); (try clear hi)) | (go_at_call 13; (with_reducible refine (bobstaylaw12_theirs.calls k _ _ l0 t183 _ ?side1 ?side2 A13.out).mono ?_); (case side1 => repeat (first | exact (Kd.C_below HR0.out HB.out) | (with_reducible refine Kd.C_alloc ?_ _) | (with_reducible refine Kd.C_drewN ?_ _) | (with_reducible refine Kd.C_drew ?_))); (case side2 => exact HC0.out); rintro e w17 ⟨v184, rfl, ho0, hb⟩; have n0_ := Aside0.mk (Kd.R_lower ho0 (below_size (by repeat (first | (with_reducible first | exact HB.out | apply below_alloc | apply pw_below_drewN | apply below_drew1) | exact HB.out)))); have n1_ := Aside0.mk (below_step (by repeat (first | (with_reducible first | exact HB.out | apply below_alloc | apply pw_below_drewN | apply below_drew1) | exact HB.out)) hb); clear HB; have HO185 := n0_; have HB := n1_; clear n0_ n1_; (try clear hb); (try clear hb2); (try clear hk); (try clear hi); (try clear ho0); obtain ⟨Ao18, co18, eo18⟩ := Kd.R_slice HO185.out; subst eo18) | (go_at_call 12; (with_reducible refine (loop_Bind.calls k _ _ t183 a1 a2 t186 _ ?side1 ?side2 A14.out).mono ?_); (case side1 => repeat (first | exact (Kd.R_reads' HO185.out).2.2 | (with_reducible refine Kd.C_alloc ?_ _) | (with_reducible refine Kd.C_drewN ?_ _) | (with_reducible refine Kd.C_drew ?_))); (case side2 => exact (Kd.R_reads' HO185.out).2.1); rintro e w19 ⟨v187, rfl, ho0, hb⟩; have n0_ := Aside0.mk (Kd.R_elder' (by (with_reducible repeat (first | apply Kd.R_alloc | apply Kd.R_drewN | apply Kd.R_drew)); exact HO185.out) (Kd.R_base ho0) hb); have n1_ := Aside0.mk (Kd.R_lower (Kd.R_new' ho0 (Kd.R_lt (by (with_reducible repeat (first | apply Kd.R_alloc | apply Kd.R_drewN | apply Kd.R_drew)); exact HO185.out))) (below_size (by repeat (first | (with_reducible first | exact HB.out | apply below_alloc | apply pw_below_drewN | apply below_drew1) | exact HB.out)))); have n2_ := Aside0.mk (below_step (by repeat (first | (with_reducible first | exact HB.out | apply below_alloc | apply pw_below_drewN | apply below_drew1) | exact HB.out)) hb); clear HO185; clear HB; have HO185 := n0_; have HO188 := n1_; have HB := n2_; clear n0_ n1_ n2_; (try clear hb); (try clear hb2); (try clear hk); (try clear hi); (try clear ho0); obtain ⟨Ao20, co20, eo20⟩ := Kd.R_slice HO188.out; subst eo20)))
        go_loopg [38] k (fun kq v38 w' => ∃ (x38_1 : Int), v38 = .int .i64 x38_1 ∧ Aside0 (bobstaylaw12_LoopUnused.l0 kq a1 a2 t186 l0 (l0.length : Int) x38_1 = some r) ∧ Aside0 (kq ≤ k) ∧ Aside0 (Kd.R k34 34 w' w.heap.size (fun _ => True) (.slice Ao20 t186.length co20) t186) ∧ Aside0 (Below w.heap.size w w'))
        case atStart => exact ⟨(0), (by first | rfl | (simp; done) | (simp [*]; done)), H', ⟨Nat.le_refl _⟩, ⟨by (with_reducible repeat (first | apply Kd.R_alloc | apply Kd.R_drewN | apply Kd.R_drew)); exact Kd.R_mono HO188.out (fun _ hk => trivial)⟩, ⟨by repeat (first | (with_reducible first | exact HB.out | apply below_alloc | apply pw_below_drewN | apply below_drew1) | exact HB.out)⟩⟩
        case round =>
          clear H'
          try clear c1
          try clear p2
          try clear c4
          try clear c5
          try clear p6
          try clear c9
          try clear c9b0
          try clear c15
          try clear c15b0
          try clear c15b1
          try clear c15b2
          obtain ⟨x38_1, rfl, HA, HK1, HO_7, HB⟩ := hrel
          cases gk with
          | zero => exact absurd HA.out (by simp [bobstaylaw12_LoopUnused.l0])
          | succ k1 =>
            have H := HA.out
            clear HA
            simp only [bobstaylaw12_LoopUnused.l0] at H
            by_cases c21 : x38_1 < (l0.length : Int)
            · rw [if_pos c21] at H
              have c21b0 : decide (x38_1 < (l0.length : Int)) = true := decide_eq_true c21
              clear c21
              by_cases c22 : 0 ≤ x38_1
              · rw [if_pos c22] at H
                have c22b0 : decide (0 ≤ x38_1) = true := decide_eq_true c22
                clear c22
                by_cases c23 : x38_1 < (l0.length : Int)
                · rw [if_pos c23] at H
                  have c23b0 : decide (x38_1 < (l0.length : Int)) = true := decide_eq_true c23
                  clear c23
                  by_cases c24 : x38_1 < (t186.length : Int)
                  · rw [if_pos c24] at H
                    have c24b0 : decide (x38_1 < (t186.length : Int)) = true := decide_eq_true c24
                    clear c24
                    by_cases c25 : ((rd_T34 t186 x38_1).f1) = ((rd_T33 l0 x38_1).f1)
                    · rw [if_pos c25] at H
                      have c25b0 : (((rd_T34 t186 x38_1).f1) == ((rd_T33 l0 x38_1).f1)) = true := beq_iff_eq.mpr c25
                      have c25b1 : (((rd_T34 t186 x38_1).f1) != ((rd_T33 l0 x38_1).f1)) = false := bne_eq_false_iff_eq.mpr c25
                      clear c25
                      by_cases c26 : (((rd_T34 t186 x38_1).f2) != ((rd_T33 l0 x38_1).f2)) = true
                      · rw [if_pos c26] at H
                        have c26b0 : (((rd_T34 t186 x38_1).f2) != ((rd_T33 l0 x38_1).f2)) = true := c26
                        (try (have c26b1 : decide (((rd_T34 t186 x38_1).f2) = ((rd_T33 l0 x38_1).f2)) = false := by simpa using c26))
                        (try (have c26b2 : (((rd_T34 t186 x38_1).f2) == ((rd_T33 l0 x38_1).f2)) = false := by simpa using c26))
                        (try (have c26b3 : ¬ (((rd_T34 t186 x38_1).f2) = ((rd_T33 l0 x38_1).f2)) := by simpa using c26))
                        clear c26
                        obtain rfl := Option.some.inj H
                        have p189 : 0 ≤ (x38_1 : Int) := of_decide_eq_true (by first | (with_reducible assumption) | assumption)
                        have q189 : x38_1 < (l0.length : Int) := of_decide_eq_true (by first | (with_reducible assumption) | assumption)
                        obtain ⟨ad189, e189, hx189_0, hx189_1, hx189_2⟩ := at_T33 HR0.out x38_1 p189 q189
                        cases e189
                        replace hx189_0 := (HB.out.cell (World.block_lt_of_cell? w _ hx189_0)).trans hx189_0
                        replace hx189_1 := (HB.out.cell (World.block_lt_of_cell? w _ hx189_1)).trans hx189_1
                        replace hx189_2 := (HB.out.cell (World.block_lt_of_cell? w _ hx189_2)).trans hx189_2
                        replace p189 := eq_true p189
                        replace q189 := eq_true q189
                        go_wp2_with (first | ((with_reducible refine gate_dst (N := 9) rfl ?_); (try (refine gate_guard (by rfl) ?_; dsimp only)); refine box_event ?hg (N := 9) ?hd (cs := #[.string (⟨#[]⟩ : ByteArray), .int .i64 0, .bool false]) (t := 33) ?hr ?_; (case hd => rfl); (case hg => rfl); (case hr => first | (go_simp; done) | (go_simp; rfl)); intro gb190 hg w27 hbox hb; have n0_ := Aside0.mk (Kd.R_below (by (with_reducible repeat (first | apply Kd.R_alloc | apply Kd.R_drewN | apply Kd.R_drew)); exact HO_7.out) hb); have n1_ := Aside0.mk (below_step (by repeat (first | (with_reducible first | exact HB.out | apply below_alloc | apply pw_below_drewN | apply below_drew1) | exact HB.out)) hb); have n2_ := Aside0.mk (hbox); have n3_ := Aside0.mk ((by rw [hg]; exact (below_size (by repeat (first | (with_reducible first | exact HB.out | apply below_alloc | apply pw_below_drewN | apply below_drew1) | exact HB.out))) : w.heap.size ≤ gb190)); have n4_ := Aside0.mk ((by rw [hg]; exact (below_size (by repeat (first | (with_reducible first | exact HB.out | apply below_alloc | apply pw_below_drewN | apply below_drew1) | exact HB.out))) : w.heap.size ≤ gb190)); clear HO_7; clear HB; have HO_7 := n0_; have HB := n1_; have BK190 := n2_; have GW190 := n3_; have GE190 := n4_; clear n0_ n1_ n2_ n3_ n4_; clear hb hbox hg; have hcz28_0 : w27.cell? ⟨gb190, 0, none⟩ = some (.string (⟨#[]⟩ : ByteArray)) := (blk_cell BK190.out 0).trans rfl; have hcz28_1 : w27.cell? ⟨gb190, 1, none⟩ = some (.int .i64 0) := (blk_cell BK190.out 1).trans rfl; have hcz28_2 : w27.cell? ⟨gb190, 2, none⟩ = some (.bool false) := (blk_cell BK190.out 2).trans rfl; have hfz28_0 := blk_frozen BK190.out 0; have hfz28_1 := blk_frozen BK190.out 1; have hfz28_2 := blk_frozen BK190.out 2; have p191 : 0 ≤ (x38_1 : Int) := of_decide_eq_true (by first | (with_reducible assumption) | assumption); have q191 : x38_1 < (t186.length : Int) := of_decide_eq_true (by first | (with_reducible assumption) | assumption); obtain ⟨ad191, e191, hx191_0, hx191_1, hx191_2⟩ := at_T34 (Kd.R_reads' HO_7.out).2.2 x38_1 p191 q191; cases e191; have hn191_0 : ad191.block ≠ gb190 := (by first | exact Kd.own_blk (Kd.R_ne HO_7.out BK190.out (by decide)) | exact Kd.own_blk (fun e_ => (HO_7.out.1 _ e_.symm).2 rfl) | exact Kd.own_blk (fun e_ => (HO_7.out.1 _ e_.symm).1.2 rfl)); have hn191_1 : ad191.block ≠ gb190 := (by first | exact Kd.own_blk (Kd.R_ne HO_7.out BK190.out (by decide)) | exact Kd.own_blk (fun e_ => (HO_7.out.1 _ e_.symm).2 rfl) | exact Kd.own_blk (fun e_ => (HO_7.out.1 _ e_.symm).1.2 rfl)); have hn191_2 : ad191.block ≠ gb190 := (by first | exact Kd.own_blk (Kd.R_ne HO_7.out BK190.out (by decide)) | exact Kd.own_blk (fun e_ => (HO_7.out.1 _ e_.symm).2 rfl) | exact Kd.own_blk (fun e_ => (HO_7.out.1 _ e_.symm).1.2 rfl)); replace hx191_0 := (cell_far (p := ⟨gb190, 0, none⟩) (by first | (rw [add_block]; exact hn191_0) | (show (Addr.add _ _).block ≠ _; rw [add_block]; exact hn191_0) | exact hn191_0) (.string ((rd_T33 l0 x38_1).f0))).trans hx191_0; replace hx191_1 := (cell_far (p := ⟨gb190, 0, none⟩) (by first | (rw [add_block]; exact hn191_0) | (show (Addr.add _ _).block ≠ _; rw [add_block]; exact hn191_0) | exact hn191_0) (.string ((rd_T33 l0 x38_1).f0))).trans hx191_1; replace hx191_2 := (cell_far (p := ⟨gb190, 0, none⟩) (by first | (rw [add_block]; exact hn191_0) | (show (Addr.add _ _).block ≠ _; rw [add_block]; exact hn191_0) | exact hn191_0) (.string ((rd_T33 l0 x38_1).f0))).trans hx191_2; replace hx191_0 := (cell_far (p := ⟨gb190, 1, none⟩) (by first | (rw [add_block]; exact hn191_1) | (show (Addr.add _ _).block ≠ _; rw [add_block]; exact hn191_1) | exact hn191_1) (.int .i64 ((rd_T33 l0 x38_1).f1))).trans hx191_0; replace hx191_1 := (cell_far (p := ⟨gb190, 1, none⟩) (by first | (rw [add_block]; exact hn191_1) | (show (Addr.add _ _).block ≠ _; rw [add_block]; exact hn191_1) | exact hn191_1) (.int .i64 ((rd_T33 l0 x38_1).f1))).trans hx191_1; replace hx191_2 := (cell_far (p := ⟨gb190, 1, none⟩) (by first | (rw [add_block]; exact hn191_1) | (show (Addr.add _ _).block ≠ _; rw [add_block]; exact hn191_1) | exact hn191_1) (.int .i64 ((rd_T33 l0 x38_1).f1))).trans hx191_2; replace hx191_0 := (cell_far (p := ⟨gb190, 2, none⟩) (by first | (rw [add_block]; exact hn191_2) | (show (Addr.add _ _).block ≠ _; rw [add_block]; exact hn191_2) | exact hn191_2) (.bool ((rd_T33 l0 x38_1).f2))).trans hx191_0; replace hx191_1 := (cell_far (p := ⟨gb190, 2, none⟩) (by first | (rw [add_block]; exact hn191_2) | (show (Addr.add _ _).block ≠ _; rw [add_block]; exact hn191_2) | exact hn191_2) (.bool ((rd_T33 l0 x38_1).f2))).trans hx191_1; replace hx191_2 := (cell_far (p := ⟨gb190, 2, none⟩) (by first | (rw [add_block]; exact hn191_2) | (show (Addr.add _ _).block ≠ _; rw [add_block]; exact hn191_2) | exact hn191_2) (.bool ((rd_T33 l0 x38_1).f2))).trans hx191_2; (try have hy191_0 := fun (n_ : Nat) => (show (((((w27.drewN n_).setCell ⟨gb190, 0, none⟩ (.string ((rd_T33 l0 x38_1).f0))).setCell ⟨gb190, 1, none⟩ (.int .i64 ((rd_T33 l0 x38_1).f1))).setCell ⟨gb190, 2, none⟩ (.bool ((rd_T33 l0 x38_1).f2)))).cell? _ = some _ from hx191_0)); (try have hy191_1 := fun (n_ : Nat) => (show (((((w27.drewN n_).setCell ⟨gb190, 0, none⟩ (.string ((rd_T33 l0 x38_1).f0))).setCell ⟨gb190, 1, none⟩ (.int .i64 ((rd_T33 l0 x38_1).f1))).setCell ⟨gb190, 2, none⟩ (.bool ((rd_T33 l0 x38_1).f2)))).cell? _ = some _ from hx191_1)); (try have hy191_2 := fun (n_ : Nat) => (show (((((w27.drewN n_).setCell ⟨gb190, 0, none⟩ (.string ((rd_T33 l0 x38_1).f0))).setCell ⟨gb190, 1, none⟩ (.int .i64 ((rd_T33 l0 x38_1).f1))).setCell ⟨gb190, 2, none⟩ (.bool ((rd_T33 l0 x38_1).f2)))).cell? _ = some _ from hx191_2)); clear hn191_0; clear hn191_1; clear hn191_2; replace p191 := eq_true p191; replace q191 := eq_true q191; have p192 : 0 ≤ (x38_1 : Int) := of_decide_eq_true (by first | (with_reducible assumption) | assumption); have q192 : x38_1 < (t186.length : Int) := of_decide_eq_true (by first | (with_reducible assumption) | assumption); obtain ⟨ad192, e192, hx192_0, hx192_1, hx192_2⟩ := at_T34 (Kd.R_reads' HO_7.out).2.2 x38_1 p192 q192; obtain rfl : ad191 = ad192 := (by injection e192); have hn192_0 : ad191.block ≠ gb190 := (by first | exact Kd.own_blk (Kd.R_ne HO_7.out BK190.out (by decide)) | exact Kd.own_blk (fun e_ => (HO_7.out.1 _ e_.symm).2 rfl) | exact Kd.own_blk (fun e_ => (HO_7.out.1 _ e_.symm).1.2 rfl)); have hn192_1 : ad191.block ≠ gb190 := (by first | exact Kd.own_blk (Kd.R_ne HO_7.out BK190.out (by decide)) | exact Kd.own_blk (fun e_ => (HO_7.out.1 _ e_.symm).2 rfl) | exact Kd.own_blk (fun e_ => (HO_7.out.1 _ e_.symm).1.2 rfl)); have hn192_2 : ad191.block ≠ gb190 := (by first | exact Kd.own_blk (Kd.R_ne HO_7.out BK190.out (by decide)) | exact Kd.own_blk (fun e_ => (HO_7.out.1 _ e_.symm).2 rfl) | exact Kd.own_blk (fun e_ => (HO_7.out.1 _ e_.symm).1.2 rfl)); replace hx192_0 := (cell_far (p := ⟨gb190, 0, none⟩) (by first | (rw [add_block]; exact hn192_0) | (show (Addr.add _ _).block ≠ _; rw [add_block]; exact hn192_0) | exact hn192_0) (.string ((rd_T33 l0 x38_1).f0))).trans hx192_0; replace hx192_1 := (cell_far (p := ⟨gb190, 0, none⟩) (by first | (rw [add_block]; exact hn192_0) | (show (Addr.add _ _).block ≠ _; rw [add_block]; exact hn192_0) | exact hn192_0) (.string ((rd_T33 l0 x38_1).f0))).trans hx192_1; replace hx192_2 := (cell_far (p := ⟨gb190, 0, none⟩) (by first | (rw [add_block]; exact hn192_0) | (show (Addr.add _ _).block ≠ _; rw [add_block]; exact hn192_0) | exact hn192_0) (.string ((rd_T33 l0 x38_1).f0))).trans hx192_2; replace hx192_0 := (cell_far (p := ⟨gb190, 1, none⟩) (by first | (rw [add_block]; exact hn192_1) | (show (Addr.add _ _).block ≠ _; rw [add_block]; exact hn192_1) | exact hn192_1) (.int .i64 ((rd_T33 l0 x38_1).f1))).trans hx192_0; replace hx192_1 := (cell_far (p := ⟨gb190, 1, none⟩) (by first | (rw [add_block]; exact hn192_1) | (show (Addr.add _ _).block ≠ _; rw [add_block]; exact hn192_1) | exact hn192_1) (.int .i64 ((rd_T33 l0 x38_1).f1))).trans hx192_1; replace hx192_2 := (cell_far (p := ⟨gb190, 1, none⟩) (by first | (rw [add_block]; exact hn192_1) | (show (Addr.add _ _).block ≠ _; rw [add_block]; exact hn192_1) | exact hn192_1) (.int .i64 ((rd_T33 l0 x38_1).f1))).trans hx192_2; replace hx192_0 := (cell_far (p := ⟨gb190, 2, none⟩) (by first | (rw [add_block]; exact hn192_2) | (show (Addr.add _ _).block ≠ _; rw [add_block]; exact hn192_2) | exact hn192_2) (.bool ((rd_T33 l0 x38_1).f2))).trans hx192_0; replace hx192_1 := (cell_far (p := ⟨gb190, 2, none⟩) (by first | (rw [add_block]; exact hn192_2) | (show (Addr.add _ _).block ≠ _; rw [add_block]; exact hn192_2) | exact hn192_2) (.bool ((rd_T33 l0 x38_1).f2))).trans hx192_1; replace hx192_2 := (cell_far (p := ⟨gb190, 2, none⟩) (by first | (rw [add_block]; exact hn192_2) | (show (Addr.add _ _).block ≠ _; rw [add_block]; exact hn192_2) | exact hn192_2) (.bool ((rd_T33 l0 x38_1).f2))).trans hx192_2; (try have hy192_0 := fun (n_ : Nat) => (show (((((w27.drewN n_).setCell ⟨gb190, 0, none⟩ (.string ((rd_T33 l0 x38_1).f0))).setCell ⟨gb190, 1, none⟩ (.int .i64 ((rd_T33 l0 x38_1).f1))).setCell ⟨gb190, 2, none⟩ (.bool ((rd_T33 l0 x38_1).f2)))).cell? _ = some _ from hx192_0)); (try have hy192_1 := fun (n_ : Nat) => (show (((((w27.drewN n_).setCell ⟨gb190, 0, none⟩ (.string ((rd_T33 l0 x38_1).f0))).setCell ⟨gb190, 1, none⟩ (.int .i64 ((rd_T33 l0 x38_1).f1))).setCell ⟨gb190, 2, none⟩ (.bool ((rd_T33 l0 x38_1).f2)))).cell? _ = some _ from hx192_1)); (try have hy192_2 := fun (n_ : Nat) => (show (((((w27.drewN n_).setCell ⟨gb190, 0, none⟩ (.string ((rd_T33 l0 x38_1).f0))).setCell ⟨gb190, 1, none⟩ (.int .i64 ((rd_T33 l0 x38_1).f1))).setCell ⟨gb190, 2, none⟩ (.bool ((rd_T33 l0 x38_1).f2)))).cell? _ = some _ from hx192_2)); clear hn192_0; clear hn192_1; clear hn192_2; replace p192 := eq_true p192; replace q192 := eq_true q192))
                        repeat (go_quiet (first | ((with_reducible refine gate_dst (N := 9) rfl ?_); (try (refine gate_guard (by rfl) ?_; dsimp only)); refine box_event ?hg (N := 9) ?hd (cs := #[.string (⟨#[]⟩ : ByteArray), .int .i64 0, .bool false]) (t := 33) ?hr ?_; (case hd => rfl); (case hg => rfl); (case hr => first | (go_simp; done) | (go_simp; rfl)); intro gb190 hg w27 hbox hb; have n0_ := Aside0.mk (Kd.R_below (by (with_reducible repeat (first | apply Kd.R_alloc | apply Kd.R_drewN | apply Kd.R_drew)); exact HO_7.out) hb); have n1_ := Aside0.mk (below_step (by repeat (first | (with_reducible first | exact HB.out | apply below_alloc | apply pw_below_drewN | apply below_drew1) | exact HB.out)) hb); have n2_ := Aside0.mk (hbox); have n3_ := Aside0.mk ((by rw [hg]; exact (below_size (by repeat (first | (with_reducible first | exact HB.out | apply below_alloc | apply pw_below_drewN | apply below_drew1) | exact HB.out))) : w.heap.size ≤ gb190)); have n4_ := Aside0.mk ((by rw [hg]; exact (below_size (by repeat (first | (with_reducible first | exact HB.out | apply below_alloc | apply pw_below_drewN | apply below_drew1) | exact HB.out))) : w.heap.size ≤ gb190)); clear HO_7; clear HB; have HO_7 := n0_; have HB := n1_; have BK190 := n2_; have GW190 := n3_; have GE190 := n4_; clear n0_ n1_ n2_ n3_ n4_; clear hb hbox hg; have hcz28_0 : w27.cell? ⟨gb190, 0, none⟩ = some (.string (⟨#[]⟩ : ByteArray)) := (blk_cell BK190.out 0).trans rfl; have hcz28_1 : w27.cell? ⟨gb190, 1, none⟩ = some (.int .i64 0) := (blk_cell BK190.out 1).trans rfl; have hcz28_2 : w27.cell? ⟨gb190, 2, none⟩ = some (.bool false) := (blk_cell BK190.out 2).trans rfl; have hfz28_0 := blk_frozen BK190.out 0; have hfz28_1 := blk_frozen BK190.out 1; have hfz28_2 := blk_frozen BK190.out 2; have p191 : 0 ≤ (x38_1 : Int) := of_decide_eq_true (by first | (with_reducible assumption) | assumption); have q191 : x38_1 < (t186.length : Int) := of_decide_eq_true (by first | (with_reducible assumption) | assumption); obtain ⟨ad191, e191, hx191_0, hx191_1, hx191_2⟩ := at_T34 (Kd.R_reads' HO_7.out).2.2 x38_1 p191 q191; cases e191; have hn191_0 : ad191.block ≠ gb190 := (by first | exact Kd.own_blk (Kd.R_ne HO_7.out BK190.out (by decide)) | exact Kd.own_blk (fun e_ => (HO_7.out.1 _ e_.symm).2 rfl) | exact Kd.own_blk (fun e_ => (HO_7.out.1 _ e_.symm).1.2 rfl)); have hn191_1 : ad191.block ≠ gb190 := (by first | exact Kd.own_blk (Kd.R_ne HO_7.out BK190.out (by decide)) | exact Kd.own_blk (fun e_ => (HO_7.out.1 _ e_.symm).2 rfl) | exact Kd.own_blk (fun e_ => (HO_7.out.1 _ e_.symm).1.2 rfl)); have hn191_2 : ad191.block ≠ gb190 := (by first | exact Kd.own_blk (Kd.R_ne HO_7.out BK190.out (by decide)) | exact Kd.own_blk (fun e_ => (HO_7.out.1 _ e_.symm).2 rfl) | exact Kd.own_blk (fun e_ => (HO_7.out.1 _ e_.symm).1.2 rfl)); replace hx191_0 := (cell_far (p := ⟨gb190, 0, none⟩) (by first | (rw [add_block]; exact hn191_0) | (show (Addr.add _ _).block ≠ _; rw [add_block]; exact hn191_0) | exact hn191_0) (.string ((rd_T33 l0 x38_1).f0))).trans hx191_0; replace hx191_1 := (cell_far (p := ⟨gb190, 0, none⟩) (by first | (rw [add_block]; exact hn191_0) | (show (Addr.add _ _).block ≠ _; rw [add_block]; exact hn191_0) | exact hn191_0) (.string ((rd_T33 l0 x38_1).f0))).trans hx191_1; replace hx191_2 := (cell_far (p := ⟨gb190, 0, none⟩) (by first | (rw [add_block]; exact hn191_0) | (show (Addr.add _ _).block ≠ _; rw [add_block]; exact hn191_0) | exact hn191_0) (.string ((rd_T33 l0 x38_1).f0))).trans hx191_2; replace hx191_0 := (cell_far (p := ⟨gb190, 1, none⟩) (by first | (rw [add_block]; exact hn191_1) | (show (Addr.add _ _).block ≠ _; rw [add_block]; exact hn191_1) | exact hn191_1) (.int .i64 ((rd_T33 l0 x38_1).f1))).trans hx191_0; replace hx191_1 := (cell_far (p := ⟨gb190, 1, none⟩) (by first | (rw [add_block]; exact hn191_1) | (show (Addr.add _ _).block ≠ _; rw [add_block]; exact hn191_1) | exact hn191_1) (.int .i64 ((rd_T33 l0 x38_1).f1))).trans hx191_1; replace hx191_2 := (cell_far (p := ⟨gb190, 1, none⟩) (by first | (rw [add_block]; exact hn191_1) | (show (Addr.add _ _).block ≠ _; rw [add_block]; exact hn191_1) | exact hn191_1) (.int .i64 ((rd_T33 l0 x38_1).f1))).trans hx191_2; replace hx191_0 := (cell_far (p := ⟨gb190, 2, none⟩) (by first | (rw [add_block]; exact hn191_2) | (show (Addr.add _ _).block ≠ _; rw [add_block]; exact hn191_2) | exact hn191_2) (.bool ((rd_T33 l0 x38_1).f2))).trans hx191_0; replace hx191_1 := (cell_far (p := ⟨gb190, 2, none⟩) (by first | (rw [add_block]; exact hn191_2) | (show (Addr.add _ _).block ≠ _; rw [add_block]; exact hn191_2) | exact hn191_2) (.bool ((rd_T33 l0 x38_1).f2))).trans hx191_1; replace hx191_2 := (cell_far (p := ⟨gb190, 2, none⟩) (by first | (rw [add_block]; exact hn191_2) | (show (Addr.add _ _).block ≠ _; rw [add_block]; exact hn191_2) | exact hn191_2) (.bool ((rd_T33 l0 x38_1).f2))).trans hx191_2; (try have hy191_0 := fun (n_ : Nat) => (show (((((w27.drewN n_).setCell ⟨gb190, 0, none⟩ (.string ((rd_T33 l0 x38_1).f0))).setCell ⟨gb190, 1, none⟩ (.int .i64 ((rd_T33 l0 x38_1).f1))).setCell ⟨gb190, 2, none⟩ (.bool ((rd_T33 l0 x38_1).f2)))).cell? _ = some _ from hx191_0)); (try have hy191_1 := fun (n_ : Nat) => (show (((((w27.drewN n_).setCell ⟨gb190, 0, none⟩ (.string ((rd_T33 l0 x38_1).f0))).setCell ⟨gb190, 1, none⟩ (.int .i64 ((rd_T33 l0 x38_1).f1))).setCell ⟨gb190, 2, none⟩ (.bool ((rd_T33 l0 x38_1).f2)))).cell? _ = some _ from hx191_1)); (try have hy191_2 := fun (n_ : Nat) => (show (((((w27.drewN n_).setCell ⟨gb190, 0, none⟩ (.string ((rd_T33 l0 x38_1).f0))).setCell ⟨gb190, 1, none⟩ (.int .i64 ((rd_T33 l0 x38_1).f1))).setCell ⟨gb190, 2, none⟩ (.bool ((rd_T33 l0 x38_1).f2)))).cell? _ = some _ from hx191_2)); clear hn191_0; clear hn191_1; clear hn191_2; replace p191 := eq_true p191; replace q191 := eq_true q191; have p192 : 0 ≤ (x38_1 : Int) := of_decide_eq_true (by first | (with_reducible assumption) | assumption); have q192 : x38_1 < (t186.length : Int) := of_decide_eq_true (by first | (with_reducible assumption) | assumption); obtain ⟨ad192, e192, hx192_0, hx192_1, hx192_2⟩ := at_T34 (Kd.R_reads' HO_7.out).2.2 x38_1 p192 q192; obtain rfl : ad191 = ad192 := (by injection e192); have hn192_0 : ad191.block ≠ gb190 := (by first | exact Kd.own_blk (Kd.R_ne HO_7.out BK190.out (by decide)) | exact Kd.own_blk (fun e_ => (HO_7.out.1 _ e_.symm).2 rfl) | exact Kd.own_blk (fun e_ => (HO_7.out.1 _ e_.symm).1.2 rfl)); have hn192_1 : ad191.block ≠ gb190 := (by first | exact Kd.own_blk (Kd.R_ne HO_7.out BK190.out (by decide)) | exact Kd.own_blk (fun e_ => (HO_7.out.1 _ e_.symm).2 rfl) | exact Kd.own_blk (fun e_ => (HO_7.out.1 _ e_.symm).1.2 rfl)); have hn192_2 : ad191.block ≠ gb190 := (by first | exact Kd.own_blk (Kd.R_ne HO_7.out BK190.out (by decide)) | exact Kd.own_blk (fun e_ => (HO_7.out.1 _ e_.symm).2 rfl) | exact Kd.own_blk (fun e_ => (HO_7.out.1 _ e_.symm).1.2 rfl)); replace hx192_0 := (cell_far (p := ⟨gb190, 0, none⟩) (by first | (rw [add_block]; exact hn192_0) | (show (Addr.add _ _).block ≠ _; rw [add_block]; exact hn192_0) | exact hn192_0) (.string ((rd_T33 l0 x38_1).f0))).trans hx192_0; replace hx192_1 := (cell_far (p := ⟨gb190, 0, none⟩) (by first | (rw [add_block]; exact hn192_0) | (show (Addr.add _ _).block ≠ _; rw [add_block]; exact hn192_0) | exact hn192_0) (.string ((rd_T33 l0 x38_1).f0))).trans hx192_1; replace hx192_2 := (cell_far (p := ⟨gb190, 0, none⟩) (by first | (rw [add_block]; exact hn192_0) | (show (Addr.add _ _).block ≠ _; rw [add_block]; exact hn192_0) | exact hn192_0) (.string ((rd_T33 l0 x38_1).f0))).trans hx192_2; replace hx192_0 := (cell_far (p := ⟨gb190, 1, none⟩) (by first | (rw [add_block]; exact hn192_1) | (show (Addr.add _ _).block ≠ _; rw [add_block]; exact hn192_1) | exact hn192_1) (.int .i64 ((rd_T33 l0 x38_1).f1))).trans hx192_0; replace hx192_1 := (cell_far (p := ⟨gb190, 1, none⟩) (by first | (rw [add_block]; exact hn192_1) | (show (Addr.add _ _).block ≠ _; rw [add_block]; exact hn192_1) | exact hn192_1) (.int .i64 ((rd_T33 l0 x38_1).f1))).trans hx192_1; replace hx192_2 := (cell_far (p := ⟨gb190, 1, none⟩) (by first | (rw [add_block]; exact hn192_1) | (show (Addr.add _ _).block ≠ _; rw [add_block]; exact hn192_1) | exact hn192_1) (.int .i64 ((rd_T33 l0 x38_1).f1))).trans hx192_2; replace hx192_0 := (cell_far (p := ⟨gb190, 2, none⟩) (by first | (rw [add_block]; exact hn192_2) | (show (Addr.add _ _).block ≠ _; rw [add_block]; exact hn192_2) | exact hn192_2) (.bool ((rd_T33 l0 x38_1).f2))).trans hx192_0; replace hx192_1 := (cell_far (p := ⟨gb190, 2, none⟩) (by first | (rw [add_block]; exact hn192_2) | (show (Addr.add _ _).block ≠ _; rw [add_block]; exact hn192_2) | exact hn192_2) (.bool ((rd_T33 l0 x38_1).f2))).trans hx192_1; replace hx192_2 := (cell_far (p := ⟨gb190, 2, none⟩) (by first | (rw [add_block]; exact hn192_2) | (show (Addr.add _ _).block ≠ _; rw [add_block]; exact hn192_2) | exact hn192_2) (.bool ((rd_T33 l0 x38_1).f2))).trans hx192_2; (try have hy192_0 := fun (n_ : Nat) => (show (((((w27.drewN n_).setCell ⟨gb190, 0, none⟩ (.string ((rd_T33 l0 x38_1).f0))).setCell ⟨gb190, 1, none⟩ (.int .i64 ((rd_T33 l0 x38_1).f1))).setCell ⟨gb190, 2, none⟩ (.bool ((rd_T33 l0 x38_1).f2)))).cell? _ = some _ from hx192_0)); (try have hy192_1 := fun (n_ : Nat) => (show (((((w27.drewN n_).setCell ⟨gb190, 0, none⟩ (.string ((rd_T33 l0 x38_1).f0))).setCell ⟨gb190, 1, none⟩ (.int .i64 ((rd_T33 l0 x38_1).f1))).setCell ⟨gb190, 2, none⟩ (.bool ((rd_T33 l0 x38_1).f2)))).cell? _ = some _ from hx192_1)); (try have hy192_2 := fun (n_ : Nat) => (show (((((w27.drewN n_).setCell ⟨gb190, 0, none⟩ (.string ((rd_T33 l0 x38_1).f0))).setCell ⟨gb190, 1, none⟩ (.int .i64 ((rd_T33 l0 x38_1).f1))).setCell ⟨gb190, 2, none⟩ (.bool ((rd_T33 l0 x38_1).f2)))).cell? _ = some _ from hx192_2)); clear hn192_0; clear hn192_1; clear hn192_2; replace p192 := eq_true p192; replace q192 := eq_true q192)); try go_wp2_with (first | ((with_reducible refine gate_dst (N := 9) rfl ?_); (try (refine gate_guard (by rfl) ?_; dsimp only)); refine box_event ?hg (N := 9) ?hd (cs := #[.string (⟨#[]⟩ : ByteArray), .int .i64 0, .bool false]) (t := 33) ?hr ?_; (case hd => rfl); (case hg => rfl); (case hr => first | (go_simp; done) | (go_simp; rfl)); intro gb190 hg w27 hbox hb; have n0_ := Aside0.mk (Kd.R_below (by (with_reducible repeat (first | apply Kd.R_alloc | apply Kd.R_drewN | apply Kd.R_drew)); exact HO_7.out) hb); have n1_ := Aside0.mk (below_step (by repeat (first | (with_reducible first | exact HB.out | apply below_alloc | apply pw_below_drewN | apply below_drew1) | exact HB.out)) hb); have n2_ := Aside0.mk (hbox); have n3_ := Aside0.mk ((by rw [hg]; exact (below_size (by repeat (first | (with_reducible first | exact HB.out | apply below_alloc | apply pw_below_drewN | apply below_drew1) | exact HB.out))) : w.heap.size ≤ gb190)); have n4_ := Aside0.mk ((by rw [hg]; exact (below_size (by repeat (first | (with_reducible first | exact HB.out | apply below_alloc | apply pw_below_drewN | apply below_drew1) | exact HB.out))) : w.heap.size ≤ gb190)); clear HO_7; clear HB; have HO_7 := n0_; have HB := n1_; have BK190 := n2_; have GW190 := n3_; have GE190 := n4_; clear n0_ n1_ n2_ n3_ n4_; clear hb hbox hg; have hcz28_0 : w27.cell? ⟨gb190, 0, none⟩ = some (.string (⟨#[]⟩ : ByteArray)) := (blk_cell BK190.out 0).trans rfl; have hcz28_1 : w27.cell? ⟨gb190, 1, none⟩ = some (.int .i64 0) := (blk_cell BK190.out 1).trans rfl; have hcz28_2 : w27.cell? ⟨gb190, 2, none⟩ = some (.bool false) := (blk_cell BK190.out 2).trans rfl; have hfz28_0 := blk_frozen BK190.out 0; have hfz28_1 := blk_frozen BK190.out 1; have hfz28_2 := blk_frozen BK190.out 2; have p191 : 0 ≤ (x38_1 : Int) := of_decide_eq_true (by first | (with_reducible assumption) | assumption); have q191 : x38_1 < (t186.length : Int) := of_decide_eq_true (by first | (with_reducible assumption) | assumption); obtain ⟨ad191, e191, hx191_0, hx191_1, hx191_2⟩ := at_T34 (Kd.R_reads' HO_7.out).2.2 x38_1 p191 q191; cases e191; have hn191_0 : ad191.block ≠ gb190 := (by first | exact Kd.own_blk (Kd.R_ne HO_7.out BK190.out (by decide)) | exact Kd.own_blk (fun e_ => (HO_7.out.1 _ e_.symm).2 rfl) | exact Kd.own_blk (fun e_ => (HO_7.out.1 _ e_.symm).1.2 rfl)); have hn191_1 : ad191.block ≠ gb190 := (by first | exact Kd.own_blk (Kd.R_ne HO_7.out BK190.out (by decide)) | exact Kd.own_blk (fun e_ => (HO_7.out.1 _ e_.symm).2 rfl) | exact Kd.own_blk (fun e_ => (HO_7.out.1 _ e_.symm).1.2 rfl)); have hn191_2 : ad191.block ≠ gb190 := (by first | exact Kd.own_blk (Kd.R_ne HO_7.out BK190.out (by decide)) | exact Kd.own_blk (fun e_ => (HO_7.out.1 _ e_.symm).2 rfl) | exact Kd.own_blk (fun e_ => (HO_7.out.1 _ e_.symm).1.2 rfl)); replace hx191_0 := (cell_far (p := ⟨gb190, 0, none⟩) (by first | (rw [add_block]; exact hn191_0) | (show (Addr.add _ _).block ≠ _; rw [add_block]; exact hn191_0) | exact hn191_0) (.string ((rd_T33 l0 x38_1).f0))).trans hx191_0; replace hx191_1 := (cell_far (p := ⟨gb190, 0, none⟩) (by first | (rw [add_block]; exact hn191_0) | (show (Addr.add _ _).block ≠ _; rw [add_block]; exact hn191_0) | exact hn191_0) (.string ((rd_T33 l0 x38_1).f0))).trans hx191_1; replace hx191_2 := (cell_far (p := ⟨gb190, 0, none⟩) (by first | (rw [add_block]; exact hn191_0) | (show (Addr.add _ _).block ≠ _; rw [add_block]; exact hn191_0) | exact hn191_0) (.string ((rd_T33 l0 x38_1).f0))).trans hx191_2; replace hx191_0 := (cell_far (p := ⟨gb190, 1, none⟩) (by first | (rw [add_block]; exact hn191_1) | (show (Addr.add _ _).block ≠ _; rw [add_block]; exact hn191_1) | exact hn191_1) (.int .i64 ((rd_T33 l0 x38_1).f1))).trans hx191_0; replace hx191_1 := (cell_far (p := ⟨gb190, 1, none⟩) (by first | (rw [add_block]; exact hn191_1) | (show (Addr.add _ _).block ≠ _; rw [add_block]; exact hn191_1) | exact hn191_1) (.int .i64 ((rd_T33 l0 x38_1).f1))).trans hx191_1; replace hx191_2 := (cell_far (p := ⟨gb190, 1, none⟩) (by first | (rw [add_block]; exact hn191_1) | (show (Addr.add _ _).block ≠ _; rw [add_block]; exact hn191_1) | exact hn191_1) (.int .i64 ((rd_T33 l0 x38_1).f1))).trans hx191_2; replace hx191_0 := (cell_far (p := ⟨gb190, 2, none⟩) (by first | (rw [add_block]; exact hn191_2) | (show (Addr.add _ _).block ≠ _; rw [add_block]; exact hn191_2) | exact hn191_2) (.bool ((rd_T33 l0 x38_1).f2))).trans hx191_0; replace hx191_1 := (cell_far (p := ⟨gb190, 2, none⟩) (by first | (rw [add_block]; exact hn191_2) | (show (Addr.add _ _).block ≠ _; rw [add_block]; exact hn191_2) | exact hn191_2) (.bool ((rd_T33 l0 x38_1).f2))).trans hx191_1; replace hx191_2 := (cell_far (p := ⟨gb190, 2, none⟩) (by first | (rw [add_block]; exact hn191_2) | (show (Addr.add _ _).block ≠ _; rw [add_block]; exact hn191_2) | exact hn191_2) (.bool ((rd_T33 l0 x38_1).f2))).trans hx191_2; (try have hy191_0 := fun (n_ : Nat) => (show (((((w27.drewN n_).setCell ⟨gb190, 0, none⟩ (.string ((rd_T33 l0 x38_1).f0))).setCell ⟨gb190, 1, none⟩ (.int .i64 ((rd_T33 l0 x38_1).f1))).setCell ⟨gb190, 2, none⟩ (.bool ((rd_T33 l0 x38_1).f2)))).cell? _ = some _ from hx191_0)); (try have hy191_1 := fun (n_ : Nat) => (show (((((w27.drewN n_).setCell ⟨gb190, 0, none⟩ (.string ((rd_T33 l0 x38_1).f0))).setCell ⟨gb190, 1, none⟩ (.int .i64 ((rd_T33 l0 x38_1).f1))).setCell ⟨gb190, 2, none⟩ (.bool ((rd_T33 l0 x38_1).f2)))).cell? _ = some _ from hx191_1)); (try have hy191_2 := fun (n_ : Nat) => (show (((((w27.drewN n_).setCell ⟨gb190, 0, none⟩ (.string ((rd_T33 l0 x38_1).f0))).setCell ⟨gb190, 1, none⟩ (.int .i64 ((rd_T33 l0 x38_1).f1))).setCell ⟨gb190, 2, none⟩ (.bool ((rd_T33 l0 x38_1).f2)))).cell? _ = some _ from hx191_2)); clear hn191_0; clear hn191_1; clear hn191_2; replace p191 := eq_true p191; replace q191 := eq_true q191; have p192 : 0 ≤ (x38_1 : Int) := of_decide_eq_true (by first | (with_reducible assumption) | assumption); have q192 : x38_1 < (t186.length : Int) := of_decide_eq_true (by first | (with_reducible assumption) | assumption); obtain ⟨ad192, e192, hx192_0, hx192_1, hx192_2⟩ := at_T34 (Kd.R_reads' HO_7.out).2.2 x38_1 p192 q192; obtain rfl : ad191 = ad192 := (by injection e192); have hn192_0 : ad191.block ≠ gb190 := (by first | exact Kd.own_blk (Kd.R_ne HO_7.out BK190.out (by decide)) | exact Kd.own_blk (fun e_ => (HO_7.out.1 _ e_.symm).2 rfl) | exact Kd.own_blk (fun e_ => (HO_7.out.1 _ e_.symm).1.2 rfl)); have hn192_1 : ad191.block ≠ gb190 := (by first | exact Kd.own_blk (Kd.R_ne HO_7.out BK190.out (by decide)) | exact Kd.own_blk (fun e_ => (HO_7.out.1 _ e_.symm).2 rfl) | exact Kd.own_blk (fun e_ => (HO_7.out.1 _ e_.symm).1.2 rfl)); have hn192_2 : ad191.block ≠ gb190 := (by first | exact Kd.own_blk (Kd.R_ne HO_7.out BK190.out (by decide)) | exact Kd.own_blk (fun e_ => (HO_7.out.1 _ e_.symm).2 rfl) | exact Kd.own_blk (fun e_ => (HO_7.out.1 _ e_.symm).1.2 rfl)); replace hx192_0 := (cell_far (p := ⟨gb190, 0, none⟩) (by first | (rw [add_block]; exact hn192_0) | (show (Addr.add _ _).block ≠ _; rw [add_block]; exact hn192_0) | exact hn192_0) (.string ((rd_T33 l0 x38_1).f0))).trans hx192_0; replace hx192_1 := (cell_far (p := ⟨gb190, 0, none⟩) (by first | (rw [add_block]; exact hn192_0) | (show (Addr.add _ _).block ≠ _; rw [add_block]; exact hn192_0) | exact hn192_0) (.string ((rd_T33 l0 x38_1).f0))).trans hx192_1; replace hx192_2 := (cell_far (p := ⟨gb190, 0, none⟩) (by first | (rw [add_block]; exact hn192_0) | (show (Addr.add _ _).block ≠ _; rw [add_block]; exact hn192_0) | exact hn192_0) (.string ((rd_T33 l0 x38_1).f0))).trans hx192_2; replace hx192_0 := (cell_far (p := ⟨gb190, 1, none⟩) (by first | (rw [add_block]; exact hn192_1) | (show (Addr.add _ _).block ≠ _; rw [add_block]; exact hn192_1) | exact hn192_1) (.int .i64 ((rd_T33 l0 x38_1).f1))).trans hx192_0; replace hx192_1 := (cell_far (p := ⟨gb190, 1, none⟩) (by first | (rw [add_block]; exact hn192_1) | (show (Addr.add _ _).block ≠ _; rw [add_block]; exact hn192_1) | exact hn192_1) (.int .i64 ((rd_T33 l0 x38_1).f1))).trans hx192_1; replace hx192_2 := (cell_far (p := ⟨gb190, 1, none⟩) (by first | (rw [add_block]; exact hn192_1) | (show (Addr.add _ _).block ≠ _; rw [add_block]; exact hn192_1) | exact hn192_1) (.int .i64 ((rd_T33 l0 x38_1).f1))).trans hx192_2; replace hx192_0 := (cell_far (p := ⟨gb190, 2, none⟩) (by first | (rw [add_block]; exact hn192_2) | (show (Addr.add _ _).block ≠ _; rw [add_block]; exact hn192_2) | exact hn192_2) (.bool ((rd_T33 l0 x38_1).f2))).trans hx192_0; replace hx192_1 := (cell_far (p := ⟨gb190, 2, none⟩) (by first | (rw [add_block]; exact hn192_2) | (show (Addr.add _ _).block ≠ _; rw [add_block]; exact hn192_2) | exact hn192_2) (.bool ((rd_T33 l0 x38_1).f2))).trans hx192_1; replace hx192_2 := (cell_far (p := ⟨gb190, 2, none⟩) (by first | (rw [add_block]; exact hn192_2) | (show (Addr.add _ _).block ≠ _; rw [add_block]; exact hn192_2) | exact hn192_2) (.bool ((rd_T33 l0 x38_1).f2))).trans hx192_2; (try have hy192_0 := fun (n_ : Nat) => (show (((((w27.drewN n_).setCell ⟨gb190, 0, none⟩ (.string ((rd_T33 l0 x38_1).f0))).setCell ⟨gb190, 1, none⟩ (.int .i64 ((rd_T33 l0 x38_1).f1))).setCell ⟨gb190, 2, none⟩ (.bool ((rd_T33 l0 x38_1).f2)))).cell? _ = some _ from hx192_0)); (try have hy192_1 := fun (n_ : Nat) => (show (((((w27.drewN n_).setCell ⟨gb190, 0, none⟩ (.string ((rd_T33 l0 x38_1).f0))).setCell ⟨gb190, 1, none⟩ (.int .i64 ((rd_T33 l0 x38_1).f1))).setCell ⟨gb190, 2, none⟩ (.bool ((rd_T33 l0 x38_1).f2)))).cell? _ = some _ from hx192_1)); (try have hy192_2 := fun (n_ : Nat) => (show (((((w27.drewN n_).setCell ⟨gb190, 0, none⟩ (.string ((rd_T33 l0 x38_1).f0))).setCell ⟨gb190, 1, none⟩ (.int .i64 ((rd_T33 l0 x38_1).f1))).setCell ⟨gb190, 2, none⟩ (.bool ((rd_T33 l0 x38_1).f2)))).cell? _ = some _ from hx192_2)); clear hn192_0; clear hn192_1; clear hn192_2; replace p192 := eq_true p192; replace q192 := eq_true q192)))
                        go_ret
                        exact ⟨by first | rfl | (simp [errW_none, errW_some] <;> rfl) | (simp [*, errW_none, errW_some] <;> rfl), by repeat (first | (with_reducible first | exact HB.out | apply below_alloc | apply pw_below_drewN | apply below_drew1 | refine below_set ?_ GE190.out) | exact HB.out)⟩
                      · rw [if_neg c26] at H
                        have c26b0 : (((rd_T34 t186 x38_1).f2) != ((rd_T33 l0 x38_1).f2)) = false := by simpa using c26
                        (try (have c26b1 : decide (((rd_T34 t186 x38_1).f2) = ((rd_T33 l0 x38_1).f2)) = true := by simpa using c26))
                        (try (have c26b2 : (((rd_T34 t186 x38_1).f2) == ((rd_T33 l0 x38_1).f2)) = true := by simpa using c26))
                        clear c26
                        have H' := Aside0.mk H
                        clear H
                        have p189 : 0 ≤ (x38_1 : Int) := of_decide_eq_true (by first | (with_reducible assumption) | assumption)
                        have q189 : x38_1 < (l0.length : Int) := of_decide_eq_true (by first | (with_reducible assumption) | assumption)
                        obtain ⟨ad189, e189, hx189_0, hx189_1, hx189_2⟩ := at_T33 HR0.out x38_1 p189 q189
                        cases e189
                        replace hx189_0 := (HB.out.cell (World.block_lt_of_cell? w _ hx189_0)).trans hx189_0
                        replace hx189_1 := (HB.out.cell (World.block_lt_of_cell? w _ hx189_1)).trans hx189_1
                        replace hx189_2 := (HB.out.cell (World.block_lt_of_cell? w _ hx189_2)).trans hx189_2
                        replace p189 := eq_true p189
                        replace q189 := eq_true q189
                        go_wp2_with (first | ((with_reducible refine gate_dst (N := 9) rfl ?_); (try (refine gate_guard (by rfl) ?_; dsimp only)); refine box_event ?hg (N := 9) ?hd (cs := #[.string (⟨#[]⟩ : ByteArray), .int .i64 0, .bool false]) (t := 33) ?hr ?_; (case hd => rfl); (case hg => rfl); (case hr => first | (go_simp; done) | (go_simp; rfl)); intro gb190 hg w29 hbox hb; have n0_ := Aside0.mk (Kd.R_below (by (with_reducible repeat (first | apply Kd.R_alloc | apply Kd.R_drewN | apply Kd.R_drew)); exact HO_7.out) hb); have n1_ := Aside0.mk (below_step (by repeat (first | (with_reducible first | exact HB.out | apply below_alloc | apply pw_below_drewN | apply below_drew1) | exact HB.out)) hb); have n2_ := Aside0.mk (hbox); have n3_ := Aside0.mk ((by rw [hg]; exact (below_size (by repeat (first | (with_reducible first | exact HB.out | apply below_alloc | apply pw_below_drewN | apply below_drew1) | exact HB.out))) : w.heap.size ≤ gb190)); have n4_ := Aside0.mk ((by rw [hg]; exact (below_size (by repeat (first | (with_reducible first | exact HB.out | apply below_alloc | apply pw_below_drewN | apply below_drew1) | exact HB.out))) : w.heap.size ≤ gb190)); clear HO_7; clear HB; have HO_7 := n0_; have HB := n1_; have BK190 := n2_; have GW190 := n3_; have GE190 := n4_; clear n0_ n1_ n2_ n3_ n4_; clear hb hbox hg; have hcz30_0 : w29.cell? ⟨gb190, 0, none⟩ = some (.string (⟨#[]⟩ : ByteArray)) := (blk_cell BK190.out 0).trans rfl; have hcz30_1 : w29.cell? ⟨gb190, 1, none⟩ = some (.int .i64 0) := (blk_cell BK190.out 1).trans rfl; have hcz30_2 : w29.cell? ⟨gb190, 2, none⟩ = some (.bool false) := (blk_cell BK190.out 2).trans rfl; have hfz30_0 := blk_frozen BK190.out 0; have hfz30_1 := blk_frozen BK190.out 1; have hfz30_2 := blk_frozen BK190.out 2; have p191 : 0 ≤ (x38_1 : Int) := of_decide_eq_true (by first | (with_reducible assumption) | assumption); have q191 : x38_1 < (t186.length : Int) := of_decide_eq_true (by first | (with_reducible assumption) | assumption); obtain ⟨ad191, e191, hx191_0, hx191_1, hx191_2⟩ := at_T34 (Kd.R_reads' HO_7.out).2.2 x38_1 p191 q191; cases e191; have hn191_0 : ad191.block ≠ gb190 := (by first | exact Kd.own_blk (Kd.R_ne HO_7.out BK190.out (by decide)) | exact Kd.own_blk (fun e_ => (HO_7.out.1 _ e_.symm).2 rfl) | exact Kd.own_blk (fun e_ => (HO_7.out.1 _ e_.symm).1.2 rfl)); have hn191_1 : ad191.block ≠ gb190 := (by first | exact Kd.own_blk (Kd.R_ne HO_7.out BK190.out (by decide)) | exact Kd.own_blk (fun e_ => (HO_7.out.1 _ e_.symm).2 rfl) | exact Kd.own_blk (fun e_ => (HO_7.out.1 _ e_.symm).1.2 rfl)); have hn191_2 : ad191.block ≠ gb190 := (by first | exact Kd.own_blk (Kd.R_ne HO_7.out BK190.out (by decide)) | exact Kd.own_blk (fun e_ => (HO_7.out.1 _ e_.symm).2 rfl) | exact Kd.own_blk (fun e_ => (HO_7.out.1 _ e_.symm).1.2 rfl)); replace hx191_0 := (cell_far (p := ⟨gb190, 0, none⟩) (by first | (rw [add_block]; exact hn191_0) | (show (Addr.add _ _).block ≠ _; rw [add_block]; exact hn191_0) | exact hn191_0) (.string ((rd_T33 l0 x38_1).f0))).trans hx191_0; replace hx191_1 := (cell_far (p := ⟨gb190, 0, none⟩) (by first | (rw [add_block]; exact hn191_0) | (show (Addr.add _ _).block ≠ _; rw [add_block]; exact hn191_0) | exact hn191_0) (.string ((rd_T33 l0 x38_1).f0))).trans hx191_1; replace hx191_2 := (cell_far (p := ⟨gb190, 0, none⟩) (by first | (rw [add_block]; exact hn191_0) | (show (Addr.add _ _).block ≠ _; rw [add_block]; exact hn191_0) | exact hn191_0) (.string ((rd_T33 l0 x38_1).f0))).trans hx191_2; replace hx191_0 := (cell_far (p := ⟨gb190, 1, none⟩) (by first | (rw [add_block]; exact hn191_1) | (show (Addr.add _ _).block ≠ _; rw [add_block]; exact hn191_1) | exact hn191_1) (.int .i64 ((rd_T33 l0 x38_1).f1))).trans hx191_0; replace hx191_1 := (cell_far (p := ⟨gb190, 1, none⟩) (by first | (rw [add_block]; exact hn191_1) | (show (Addr.add _ _).block ≠ _; rw [add_block]; exact hn191_1) | exact hn191_1) (.int .i64 ((rd_T33 l0 x38_1).f1))).trans hx191_1; replace hx191_2 := (cell_far (p := ⟨gb190, 1, none⟩) (by first | (rw [add_block]; exact hn191_1) | (show (Addr.add _ _).block ≠ _; rw [add_block]; exact hn191_1) | exact hn191_1) (.int .i64 ((rd_T33 l0 x38_1).f1))).trans hx191_2; replace hx191_0 := (cell_far (p := ⟨gb190, 2, none⟩) (by first | (rw [add_block]; exact hn191_2) | (show (Addr.add _ _).block ≠ _; rw [add_block]; exact hn191_2) | exact hn191_2) (.bool ((rd_T33 l0 x38_1).f2))).trans hx191_0; replace hx191_1 := (cell_far (p := ⟨gb190, 2, none⟩) (by first | (rw [add_block]; exact hn191_2) | (show (Addr.add _ _).block ≠ _; rw [add_block]; exact hn191_2) | exact hn191_2) (.bool ((rd_T33 l0 x38_1).f2))).trans hx191_1; replace hx191_2 := (cell_far (p := ⟨gb190, 2, none⟩) (by first | (rw [add_block]; exact hn191_2) | (show (Addr.add _ _).block ≠ _; rw [add_block]; exact hn191_2) | exact hn191_2) (.bool ((rd_T33 l0 x38_1).f2))).trans hx191_2; (try have hy191_0 := fun (n_ : Nat) => (show (((((w29.drewN n_).setCell ⟨gb190, 0, none⟩ (.string ((rd_T33 l0 x38_1).f0))).setCell ⟨gb190, 1, none⟩ (.int .i64 ((rd_T33 l0 x38_1).f1))).setCell ⟨gb190, 2, none⟩ (.bool ((rd_T33 l0 x38_1).f2)))).cell? _ = some _ from hx191_0)); (try have hy191_1 := fun (n_ : Nat) => (show (((((w29.drewN n_).setCell ⟨gb190, 0, none⟩ (.string ((rd_T33 l0 x38_1).f0))).setCell ⟨gb190, 1, none⟩ (.int .i64 ((rd_T33 l0 x38_1).f1))).setCell ⟨gb190, 2, none⟩ (.bool ((rd_T33 l0 x38_1).f2)))).cell? _ = some _ from hx191_1)); (try have hy191_2 := fun (n_ : Nat) => (show (((((w29.drewN n_).setCell ⟨gb190, 0, none⟩ (.string ((rd_T33 l0 x38_1).f0))).setCell ⟨gb190, 1, none⟩ (.int .i64 ((rd_T33 l0 x38_1).f1))).setCell ⟨gb190, 2, none⟩ (.bool ((rd_T33 l0 x38_1).f2)))).cell? _ = some _ from hx191_2)); clear hn191_0; clear hn191_1; clear hn191_2; replace p191 := eq_true p191; replace q191 := eq_true q191; have p192 : 0 ≤ (x38_1 : Int) := of_decide_eq_true (by first | (with_reducible assumption) | assumption); have q192 : x38_1 < (t186.length : Int) := of_decide_eq_true (by first | (with_reducible assumption) | assumption); obtain ⟨ad192, e192, hx192_0, hx192_1, hx192_2⟩ := at_T34 (Kd.R_reads' HO_7.out).2.2 x38_1 p192 q192; obtain rfl : ad191 = ad192 := (by injection e192); have hn192_0 : ad191.block ≠ gb190 := (by first | exact Kd.own_blk (Kd.R_ne HO_7.out BK190.out (by decide)) | exact Kd.own_blk (fun e_ => (HO_7.out.1 _ e_.symm).2 rfl) | exact Kd.own_blk (fun e_ => (HO_7.out.1 _ e_.symm).1.2 rfl)); have hn192_1 : ad191.block ≠ gb190 := (by first | exact Kd.own_blk (Kd.R_ne HO_7.out BK190.out (by decide)) | exact Kd.own_blk (fun e_ => (HO_7.out.1 _ e_.symm).2 rfl) | exact Kd.own_blk (fun e_ => (HO_7.out.1 _ e_.symm).1.2 rfl)); have hn192_2 : ad191.block ≠ gb190 := (by first | exact Kd.own_blk (Kd.R_ne HO_7.out BK190.out (by decide)) | exact Kd.own_blk (fun e_ => (HO_7.out.1 _ e_.symm).2 rfl) | exact Kd.own_blk (fun e_ => (HO_7.out.1 _ e_.symm).1.2 rfl)); replace hx192_0 := (cell_far (p := ⟨gb190, 0, none⟩) (by first | (rw [add_block]; exact hn192_0) | (show (Addr.add _ _).block ≠ _; rw [add_block]; exact hn192_0) | exact hn192_0) (.string ((rd_T33 l0 x38_1).f0))).trans hx192_0; replace hx192_1 := (cell_far (p := ⟨gb190, 0, none⟩) (by first | (rw [add_block]; exact hn192_0) | (show (Addr.add _ _).block ≠ _; rw [add_block]; exact hn192_0) | exact hn192_0) (.string ((rd_T33 l0 x38_1).f0))).trans hx192_1; replace hx192_2 := (cell_far (p := ⟨gb190, 0, none⟩) (by first | (rw [add_block]; exact hn192_0) | (show (Addr.add _ _).block ≠ _; rw [add_block]; exact hn192_0) | exact hn192_0) (.string ((rd_T33 l0 x38_1).f0))).trans hx192_2; replace hx192_0 := (cell_far (p := ⟨gb190, 1, none⟩) (by first | (rw [add_block]; exact hn192_1) | (show (Addr.add _ _).block ≠ _; rw [add_block]; exact hn192_1) | exact hn192_1) (.int .i64 ((rd_T33 l0 x38_1).f1))).trans hx192_0; replace hx192_1 := (cell_far (p := ⟨gb190, 1, none⟩) (by first | (rw [add_block]; exact hn192_1) | (show (Addr.add _ _).block ≠ _; rw [add_block]; exact hn192_1) | exact hn192_1) (.int .i64 ((rd_T33 l0 x38_1).f1))).trans hx192_1; replace hx192_2 := (cell_far (p := ⟨gb190, 1, none⟩) (by first | (rw [add_block]; exact hn192_1) | (show (Addr.add _ _).block ≠ _; rw [add_block]; exact hn192_1) | exact hn192_1) (.int .i64 ((rd_T33 l0 x38_1).f1))).trans hx192_2; replace hx192_0 := (cell_far (p := ⟨gb190, 2, none⟩) (by first | (rw [add_block]; exact hn192_2) | (show (Addr.add _ _).block ≠ _; rw [add_block]; exact hn192_2) | exact hn192_2) (.bool ((rd_T33 l0 x38_1).f2))).trans hx192_0; replace hx192_1 := (cell_far (p := ⟨gb190, 2, none⟩) (by first | (rw [add_block]; exact hn192_2) | (show (Addr.add _ _).block ≠ _; rw [add_block]; exact hn192_2) | exact hn192_2) (.bool ((rd_T33 l0 x38_1).f2))).trans hx192_1; replace hx192_2 := (cell_far (p := ⟨gb190, 2, none⟩) (by first | (rw [add_block]; exact hn192_2) | (show (Addr.add _ _).block ≠ _; rw [add_block]; exact hn192_2) | exact hn192_2) (.bool ((rd_T33 l0 x38_1).f2))).trans hx192_2; (try have hy192_0 := fun (n_ : Nat) => (show (((((w29.drewN n_).setCell ⟨gb190, 0, none⟩ (.string ((rd_T33 l0 x38_1).f0))).setCell ⟨gb190, 1, none⟩ (.int .i64 ((rd_T33 l0 x38_1).f1))).setCell ⟨gb190, 2, none⟩ (.bool ((rd_T33 l0 x38_1).f2)))).cell? _ = some _ from hx192_0)); (try have hy192_1 := fun (n_ : Nat) => (show (((((w29.drewN n_).setCell ⟨gb190, 0, none⟩ (.string ((rd_T33 l0 x38_1).f0))).setCell ⟨gb190, 1, none⟩ (.int .i64 ((rd_T33 l0 x38_1).f1))).setCell ⟨gb190, 2, none⟩ (.bool ((rd_T33 l0 x38_1).f2)))).cell? _ = some _ from hx192_1)); (try have hy192_2 := fun (n_ : Nat) => (show (((((w29.drewN n_).setCell ⟨gb190, 0, none⟩ (.string ((rd_T33 l0 x38_1).f0))).setCell ⟨gb190, 1, none⟩ (.int .i64 ((rd_T33 l0 x38_1).f1))).setCell ⟨gb190, 2, none⟩ (.bool ((rd_T33 l0 x38_1).f2)))).cell? _ = some _ from hx192_2)); clear hn192_0; clear hn192_1; clear hn192_2; replace p192 := eq_true p192; replace q192 := eq_true q192))
                        repeat (go_quiet (first | ((with_reducible refine gate_dst (N := 9) rfl ?_); (try (refine gate_guard (by rfl) ?_; dsimp only)); refine box_event ?hg (N := 9) ?hd (cs := #[.string (⟨#[]⟩ : ByteArray), .int .i64 0, .bool false]) (t := 33) ?hr ?_; (case hd => rfl); (case hg => rfl); (case hr => first | (go_simp; done) | (go_simp; rfl)); intro gb190 hg w29 hbox hb; have n0_ := Aside0.mk (Kd.R_below (by (with_reducible repeat (first | apply Kd.R_alloc | apply Kd.R_drewN | apply Kd.R_drew)); exact HO_7.out) hb); have n1_ := Aside0.mk (below_step (by repeat (first | (with_reducible first | exact HB.out | apply below_alloc | apply pw_below_drewN | apply below_drew1) | exact HB.out)) hb); have n2_ := Aside0.mk (hbox); have n3_ := Aside0.mk ((by rw [hg]; exact (below_size (by repeat (first | (with_reducible first | exact HB.out | apply below_alloc | apply pw_below_drewN | apply below_drew1) | exact HB.out))) : w.heap.size ≤ gb190)); have n4_ := Aside0.mk ((by rw [hg]; exact (below_size (by repeat (first | (with_reducible first | exact HB.out | apply below_alloc | apply pw_below_drewN | apply below_drew1) | exact HB.out))) : w.heap.size ≤ gb190)); clear HO_7; clear HB; have HO_7 := n0_; have HB := n1_; have BK190 := n2_; have GW190 := n3_; have GE190 := n4_; clear n0_ n1_ n2_ n3_ n4_; clear hb hbox hg; have hcz30_0 : w29.cell? ⟨gb190, 0, none⟩ = some (.string (⟨#[]⟩ : ByteArray)) := (blk_cell BK190.out 0).trans rfl; have hcz30_1 : w29.cell? ⟨gb190, 1, none⟩ = some (.int .i64 0) := (blk_cell BK190.out 1).trans rfl; have hcz30_2 : w29.cell? ⟨gb190, 2, none⟩ = some (.bool false) := (blk_cell BK190.out 2).trans rfl; have hfz30_0 := blk_frozen BK190.out 0; have hfz30_1 := blk_frozen BK190.out 1; have hfz30_2 := blk_frozen BK190.out 2; have p191 : 0 ≤ (x38_1 : Int) := of_decide_eq_true (by first | (with_reducible assumption) | assumption); have q191 : x38_1 < (t186.length : Int) := of_decide_eq_true (by first | (with_reducible assumption) | assumption); obtain ⟨ad191, e191, hx191_0, hx191_1, hx191_2⟩ := at_T34 (Kd.R_reads' HO_7.out).2.2 x38_1 p191 q191; cases e191; have hn191_0 : ad191.block ≠ gb190 := (by first | exact Kd.own_blk (Kd.R_ne HO_7.out BK190.out (by decide)) | exact Kd.own_blk (fun e_ => (HO_7.out.1 _ e_.symm).2 rfl) | exact Kd.own_blk (fun e_ => (HO_7.out.1 _ e_.symm).1.2 rfl)); have hn191_1 : ad191.block ≠ gb190 := (by first | exact Kd.own_blk (Kd.R_ne HO_7.out BK190.out (by decide)) | exact Kd.own_blk (fun e_ => (HO_7.out.1 _ e_.symm).2 rfl) | exact Kd.own_blk (fun e_ => (HO_7.out.1 _ e_.symm).1.2 rfl)); have hn191_2 : ad191.block ≠ gb190 := (by first | exact Kd.own_blk (Kd.R_ne HO_7.out BK190.out (by decide)) | exact Kd.own_blk (fun e_ => (HO_7.out.1 _ e_.symm).2 rfl) | exact Kd.own_blk (fun e_ => (HO_7.out.1 _ e_.symm).1.2 rfl)); replace hx191_0 := (cell_far (p := ⟨gb190, 0, none⟩) (by first | (rw [add_block]; exact hn191_0) | (show (Addr.add _ _).block ≠ _; rw [add_block]; exact hn191_0) | exact hn191_0) (.string ((rd_T33 l0 x38_1).f0))).trans hx191_0; replace hx191_1 := (cell_far (p := ⟨gb190, 0, none⟩) (by first | (rw [add_block]; exact hn191_0) | (show (Addr.add _ _).block ≠ _; rw [add_block]; exact hn191_0) | exact hn191_0) (.string ((rd_T33 l0 x38_1).f0))).trans hx191_1; replace hx191_2 := (cell_far (p := ⟨gb190, 0, none⟩) (by first | (rw [add_block]; exact hn191_0) | (show (Addr.add _ _).block ≠ _; rw [add_block]; exact hn191_0) | exact hn191_0) (.string ((rd_T33 l0 x38_1).f0))).trans hx191_2; replace hx191_0 := (cell_far (p := ⟨gb190, 1, none⟩) (by first | (rw [add_block]; exact hn191_1) | (show (Addr.add _ _).block ≠ _; rw [add_block]; exact hn191_1) | exact hn191_1) (.int .i64 ((rd_T33 l0 x38_1).f1))).trans hx191_0; replace hx191_1 := (cell_far (p := ⟨gb190, 1, none⟩) (by first | (rw [add_block]; exact hn191_1) | (show (Addr.add _ _).block ≠ _; rw [add_block]; exact hn191_1) | exact hn191_1) (.int .i64 ((rd_T33 l0 x38_1).f1))).trans hx191_1; replace hx191_2 := (cell_far (p := ⟨gb190, 1, none⟩) (by first | (rw [add_block]; exact hn191_1) | (show (Addr.add _ _).block ≠ _; rw [add_block]; exact hn191_1) | exact hn191_1) (.int .i64 ((rd_T33 l0 x38_1).f1))).trans hx191_2; replace hx191_0 := (cell_far (p := ⟨gb190, 2, none⟩) (by first | (rw [add_block]; exact hn191_2) | (show (Addr.add _ _).block ≠ _; rw [add_block]; exact hn191_2) | exact hn191_2) (.bool ((rd_T33 l0 x38_1).f2))).trans hx191_0; replace hx191_1 := (cell_far (p := ⟨gb190, 2, none⟩) (by first | (rw [add_block]; exact hn191_2) | (show (Addr.add _ _).block ≠ _; rw [add_block]; exact hn191_2) | exact hn191_2) (.bool ((rd_T33 l0 x38_1).f2))).trans hx191_1; replace hx191_2 := (cell_far (p := ⟨gb190, 2, none⟩) (by first | (rw [add_block]; exact hn191_2) | (show (Addr.add _ _).block ≠ _; rw [add_block]; exact hn191_2) | exact hn191_2) (.bool ((rd_T33 l0 x38_1).f2))).trans hx191_2; (try have hy191_0 := fun (n_ : Nat) => (show (((((w29.drewN n_).setCell ⟨gb190, 0, none⟩ (.string ((rd_T33 l0 x38_1).f0))).setCell ⟨gb190, 1, none⟩ (.int .i64 ((rd_T33 l0 x38_1).f1))).setCell ⟨gb190, 2, none⟩ (.bool ((rd_T33 l0 x38_1).f2)))).cell? _ = some _ from hx191_0)); (try have hy191_1 := fun (n_ : Nat) => (show (((((w29.drewN n_).setCell ⟨gb190, 0, none⟩ (.string ((rd_T33 l0 x38_1).f0))).setCell ⟨gb190, 1, none⟩ (.int .i64 ((rd_T33 l0 x38_1).f1))).setCell ⟨gb190, 2, none⟩ (.bool ((rd_T33 l0 x38_1).f2)))).cell? _ = some _ from hx191_1)); (try have hy191_2 := fun (n_ : Nat) => (show (((((w29.drewN n_).setCell ⟨gb190, 0, none⟩ (.string ((rd_T33 l0 x38_1).f0))).setCell ⟨gb190, 1, none⟩ (.int .i64 ((rd_T33 l0 x38_1).f1))).setCell ⟨gb190, 2, none⟩ (.bool ((rd_T33 l0 x38_1).f2)))).cell? _ = some _ from hx191_2)); clear hn191_0; clear hn191_1; clear hn191_2; replace p191 := eq_true p191; replace q191 := eq_true q191; have p192 : 0 ≤ (x38_1 : Int) := of_decide_eq_true (by first | (with_reducible assumption) | assumption); have q192 : x38_1 < (t186.length : Int) := of_decide_eq_true (by first | (with_reducible assumption) | assumption); obtain ⟨ad192, e192, hx192_0, hx192_1, hx192_2⟩ := at_T34 (Kd.R_reads' HO_7.out).2.2 x38_1 p192 q192; obtain rfl : ad191 = ad192 := (by injection e192); have hn192_0 : ad191.block ≠ gb190 := (by first | exact Kd.own_blk (Kd.R_ne HO_7.out BK190.out (by decide)) | exact Kd.own_blk (fun e_ => (HO_7.out.1 _ e_.symm).2 rfl) | exact Kd.own_blk (fun e_ => (HO_7.out.1 _ e_.symm).1.2 rfl)); have hn192_1 : ad191.block ≠ gb190 := (by first | exact Kd.own_blk (Kd.R_ne HO_7.out BK190.out (by decide)) | exact Kd.own_blk (fun e_ => (HO_7.out.1 _ e_.symm).2 rfl) | exact Kd.own_blk (fun e_ => (HO_7.out.1 _ e_.symm).1.2 rfl)); have hn192_2 : ad191.block ≠ gb190 := (by first | exact Kd.own_blk (Kd.R_ne HO_7.out BK190.out (by decide)) | exact Kd.own_blk (fun e_ => (HO_7.out.1 _ e_.symm).2 rfl) | exact Kd.own_blk (fun e_ => (HO_7.out.1 _ e_.symm).1.2 rfl)); replace hx192_0 := (cell_far (p := ⟨gb190, 0, none⟩) (by first | (rw [add_block]; exact hn192_0) | (show (Addr.add _ _).block ≠ _; rw [add_block]; exact hn192_0) | exact hn192_0) (.string ((rd_T33 l0 x38_1).f0))).trans hx192_0; replace hx192_1 := (cell_far (p := ⟨gb190, 0, none⟩) (by first | (rw [add_block]; exact hn192_0) | (show (Addr.add _ _).block ≠ _; rw [add_block]; exact hn192_0) | exact hn192_0) (.string ((rd_T33 l0 x38_1).f0))).trans hx192_1; replace hx192_2 := (cell_far (p := ⟨gb190, 0, none⟩) (by first | (rw [add_block]; exact hn192_0) | (show (Addr.add _ _).block ≠ _; rw [add_block]; exact hn192_0) | exact hn192_0) (.string ((rd_T33 l0 x38_1).f0))).trans hx192_2; replace hx192_0 := (cell_far (p := ⟨gb190, 1, none⟩) (by first | (rw [add_block]; exact hn192_1) | (show (Addr.add _ _).block ≠ _; rw [add_block]; exact hn192_1) | exact hn192_1) (.int .i64 ((rd_T33 l0 x38_1).f1))).trans hx192_0; replace hx192_1 := (cell_far (p := ⟨gb190, 1, none⟩) (by first | (rw [add_block]; exact hn192_1) | (show (Addr.add _ _).block ≠ _; rw [add_block]; exact hn192_1) | exact hn192_1) (.int .i64 ((rd_T33 l0 x38_1).f1))).trans hx192_1; replace hx192_2 := (cell_far (p := ⟨gb190, 1, none⟩) (by first | (rw [add_block]; exact hn192_1) | (show (Addr.add _ _).block ≠ _; rw [add_block]; exact hn192_1) | exact hn192_1) (.int .i64 ((rd_T33 l0 x38_1).f1))).trans hx192_2; replace hx192_0 := (cell_far (p := ⟨gb190, 2, none⟩) (by first | (rw [add_block]; exact hn192_2) | (show (Addr.add _ _).block ≠ _; rw [add_block]; exact hn192_2) | exact hn192_2) (.bool ((rd_T33 l0 x38_1).f2))).trans hx192_0; replace hx192_1 := (cell_far (p := ⟨gb190, 2, none⟩) (by first | (rw [add_block]; exact hn192_2) | (show (Addr.add _ _).block ≠ _; rw [add_block]; exact hn192_2) | exact hn192_2) (.bool ((rd_T33 l0 x38_1).f2))).trans hx192_1; replace hx192_2 := (cell_far (p := ⟨gb190, 2, none⟩) (by first | (rw [add_block]; exact hn192_2) | (show (Addr.add _ _).block ≠ _; rw [add_block]; exact hn192_2) | exact hn192_2) (.bool ((rd_T33 l0 x38_1).f2))).trans hx192_2; (try have hy192_0 := fun (n_ : Nat) => (show (((((w29.drewN n_).setCell ⟨gb190, 0, none⟩ (.string ((rd_T33 l0 x38_1).f0))).setCell ⟨gb190, 1, none⟩ (.int .i64 ((rd_T33 l0 x38_1).f1))).setCell ⟨gb190, 2, none⟩ (.bool ((rd_T33 l0 x38_1).f2)))).cell? _ = some _ from hx192_0)); (try have hy192_1 := fun (n_ : Nat) => (show (((((w29.drewN n_).setCell ⟨gb190, 0, none⟩ (.string ((rd_T33 l0 x38_1).f0))).setCell ⟨gb190, 1, none⟩ (.int .i64 ((rd_T33 l0 x38_1).f1))).setCell ⟨gb190, 2, none⟩ (.bool ((rd_T33 l0 x38_1).f2)))).cell? _ = some _ from hx192_1)); (try have hy192_2 := fun (n_ : Nat) => (show (((((w29.drewN n_).setCell ⟨gb190, 0, none⟩ (.string ((rd_T33 l0 x38_1).f0))).setCell ⟨gb190, 1, none⟩ (.int .i64 ((rd_T33 l0 x38_1).f1))).setCell ⟨gb190, 2, none⟩ (.bool ((rd_T33 l0 x38_1).f2)))).cell? _ = some _ from hx192_2)); clear hn192_0; clear hn192_1; clear hn192_2; replace p192 := eq_true p192; replace q192 := eq_true q192)); try go_wp2_with (first | ((with_reducible refine gate_dst (N := 9) rfl ?_); (try (refine gate_guard (by rfl) ?_; dsimp only)); refine box_event ?hg (N := 9) ?hd (cs := #[.string (⟨#[]⟩ : ByteArray), .int .i64 0, .bool false]) (t := 33) ?hr ?_; (case hd => rfl); (case hg => rfl); (case hr => first | (go_simp; done) | (go_simp; rfl)); intro gb190 hg w29 hbox hb; have n0_ := Aside0.mk (Kd.R_below (by (with_reducible repeat (first | apply Kd.R_alloc | apply Kd.R_drewN | apply Kd.R_drew)); exact HO_7.out) hb); have n1_ := Aside0.mk (below_step (by repeat (first | (with_reducible first | exact HB.out | apply below_alloc | apply pw_below_drewN | apply below_drew1) | exact HB.out)) hb); have n2_ := Aside0.mk (hbox); have n3_ := Aside0.mk ((by rw [hg]; exact (below_size (by repeat (first | (with_reducible first | exact HB.out | apply below_alloc | apply pw_below_drewN | apply below_drew1) | exact HB.out))) : w.heap.size ≤ gb190)); have n4_ := Aside0.mk ((by rw [hg]; exact (below_size (by repeat (first | (with_reducible first | exact HB.out | apply below_alloc | apply pw_below_drewN | apply below_drew1) | exact HB.out))) : w.heap.size ≤ gb190)); clear HO_7; clear HB; have HO_7 := n0_; have HB := n1_; have BK190 := n2_; have GW190 := n3_; have GE190 := n4_; clear n0_ n1_ n2_ n3_ n4_; clear hb hbox hg; have hcz30_0 : w29.cell? ⟨gb190, 0, none⟩ = some (.string (⟨#[]⟩ : ByteArray)) := (blk_cell BK190.out 0).trans rfl; have hcz30_1 : w29.cell? ⟨gb190, 1, none⟩ = some (.int .i64 0) := (blk_cell BK190.out 1).trans rfl; have hcz30_2 : w29.cell? ⟨gb190, 2, none⟩ = some (.bool false) := (blk_cell BK190.out 2).trans rfl; have hfz30_0 := blk_frozen BK190.out 0; have hfz30_1 := blk_frozen BK190.out 1; have hfz30_2 := blk_frozen BK190.out 2; have p191 : 0 ≤ (x38_1 : Int) := of_decide_eq_true (by first | (with_reducible assumption) | assumption); have q191 : x38_1 < (t186.length : Int) := of_decide_eq_true (by first | (with_reducible assumption) | assumption); obtain ⟨ad191, e191, hx191_0, hx191_1, hx191_2⟩ := at_T34 (Kd.R_reads' HO_7.out).2.2 x38_1 p191 q191; cases e191; have hn191_0 : ad191.block ≠ gb190 := (by first | exact Kd.own_blk (Kd.R_ne HO_7.out BK190.out (by decide)) | exact Kd.own_blk (fun e_ => (HO_7.out.1 _ e_.symm).2 rfl) | exact Kd.own_blk (fun e_ => (HO_7.out.1 _ e_.symm).1.2 rfl)); have hn191_1 : ad191.block ≠ gb190 := (by first | exact Kd.own_blk (Kd.R_ne HO_7.out BK190.out (by decide)) | exact Kd.own_blk (fun e_ => (HO_7.out.1 _ e_.symm).2 rfl) | exact Kd.own_blk (fun e_ => (HO_7.out.1 _ e_.symm).1.2 rfl)); have hn191_2 : ad191.block ≠ gb190 := (by first | exact Kd.own_blk (Kd.R_ne HO_7.out BK190.out (by decide)) | exact Kd.own_blk (fun e_ => (HO_7.out.1 _ e_.symm).2 rfl) | exact Kd.own_blk (fun e_ => (HO_7.out.1 _ e_.symm).1.2 rfl)); replace hx191_0 := (cell_far (p := ⟨gb190, 0, none⟩) (by first | (rw [add_block]; exact hn191_0) | (show (Addr.add _ _).block ≠ _; rw [add_block]; exact hn191_0) | exact hn191_0) (.string ((rd_T33 l0 x38_1).f0))).trans hx191_0; replace hx191_1 := (cell_far (p := ⟨gb190, 0, none⟩) (by first | (rw [add_block]; exact hn191_0) | (show (Addr.add _ _).block ≠ _; rw [add_block]; exact hn191_0) | exact hn191_0) (.string ((rd_T33 l0 x38_1).f0))).trans hx191_1; replace hx191_2 := (cell_far (p := ⟨gb190, 0, none⟩) (by first | (rw [add_block]; exact hn191_0) | (show (Addr.add _ _).block ≠ _; rw [add_block]; exact hn191_0) | exact hn191_0) (.string ((rd_T33 l0 x38_1).f0))).trans hx191_2; replace hx191_0 := (cell_far (p := ⟨gb190, 1, none⟩) (by first | (rw [add_block]; exact hn191_1) | (show (Addr.add _ _).block ≠ _; rw [add_block]; exact hn191_1) | exact hn191_1) (.int .i64 ((rd_T33 l0 x38_1).f1))).trans hx191_0; replace hx191_1 := (cell_far (p := ⟨gb190, 1, none⟩) (by first | (rw [add_block]; exact hn191_1) | (show (Addr.add _ _).block ≠ _; rw [add_block]; exact hn191_1) | exact hn191_1) (.int .i64 ((rd_T33 l0 x38_1).f1))).trans hx191_1; replace hx191_2 := (cell_far (p := ⟨gb190, 1, none⟩) (by first | (rw [add_block]; exact hn191_1) | (show (Addr.add _ _).block ≠ _; rw [add_block]; exact hn191_1) | exact hn191_1) (.int .i64 ((rd_T33 l0 x38_1).f1))).trans hx191_2; replace hx191_0 := (cell_far (p := ⟨gb190, 2, none⟩) (by first | (rw [add_block]; exact hn191_2) | (show (Addr.add _ _).block ≠ _; rw [add_block]; exact hn191_2) | exact hn191_2) (.bool ((rd_T33 l0 x38_1).f2))).trans hx191_0; replace hx191_1 := (cell_far (p := ⟨gb190, 2, none⟩) (by first | (rw [add_block]; exact hn191_2) | (show (Addr.add _ _).block ≠ _; rw [add_block]; exact hn191_2) | exact hn191_2) (.bool ((rd_T33 l0 x38_1).f2))).trans hx191_1; replace hx191_2 := (cell_far (p := ⟨gb190, 2, none⟩) (by first | (rw [add_block]; exact hn191_2) | (show (Addr.add _ _).block ≠ _; rw [add_block]; exact hn191_2) | exact hn191_2) (.bool ((rd_T33 l0 x38_1).f2))).trans hx191_2; (try have hy191_0 := fun (n_ : Nat) => (show (((((w29.drewN n_).setCell ⟨gb190, 0, none⟩ (.string ((rd_T33 l0 x38_1).f0))).setCell ⟨gb190, 1, none⟩ (.int .i64 ((rd_T33 l0 x38_1).f1))).setCell ⟨gb190, 2, none⟩ (.bool ((rd_T33 l0 x38_1).f2)))).cell? _ = some _ from hx191_0)); (try have hy191_1 := fun (n_ : Nat) => (show (((((w29.drewN n_).setCell ⟨gb190, 0, none⟩ (.string ((rd_T33 l0 x38_1).f0))).setCell ⟨gb190, 1, none⟩ (.int .i64 ((rd_T33 l0 x38_1).f1))).setCell ⟨gb190, 2, none⟩ (.bool ((rd_T33 l0 x38_1).f2)))).cell? _ = some _ from hx191_1)); (try have hy191_2 := fun (n_ : Nat) => (show (((((w29.drewN n_).setCell ⟨gb190, 0, none⟩ (.string ((rd_T33 l0 x38_1).f0))).setCell ⟨gb190, 1, none⟩ (.int .i64 ((rd_T33 l0 x38_1).f1))).setCell ⟨gb190, 2, none⟩ (.bool ((rd_T33 l0 x38_1).f2)))).cell? _ = some _ from hx191_2)); clear hn191_0; clear hn191_1; clear hn191_2; replace p191 := eq_true p191; replace q191 := eq_true q191; have p192 : 0 ≤ (x38_1 : Int) := of_decide_eq_true (by first | (with_reducible assumption) | assumption); have q192 : x38_1 < (t186.length : Int) := of_decide_eq_true (by first | (with_reducible assumption) | assumption); obtain ⟨ad192, e192, hx192_0, hx192_1, hx192_2⟩ := at_T34 (Kd.R_reads' HO_7.out).2.2 x38_1 p192 q192; obtain rfl : ad191 = ad192 := (by injection e192); have hn192_0 : ad191.block ≠ gb190 := (by first | exact Kd.own_blk (Kd.R_ne HO_7.out BK190.out (by decide)) | exact Kd.own_blk (fun e_ => (HO_7.out.1 _ e_.symm).2 rfl) | exact Kd.own_blk (fun e_ => (HO_7.out.1 _ e_.symm).1.2 rfl)); have hn192_1 : ad191.block ≠ gb190 := (by first | exact Kd.own_blk (Kd.R_ne HO_7.out BK190.out (by decide)) | exact Kd.own_blk (fun e_ => (HO_7.out.1 _ e_.symm).2 rfl) | exact Kd.own_blk (fun e_ => (HO_7.out.1 _ e_.symm).1.2 rfl)); have hn192_2 : ad191.block ≠ gb190 := (by first | exact Kd.own_blk (Kd.R_ne HO_7.out BK190.out (by decide)) | exact Kd.own_blk (fun e_ => (HO_7.out.1 _ e_.symm).2 rfl) | exact Kd.own_blk (fun e_ => (HO_7.out.1 _ e_.symm).1.2 rfl)); replace hx192_0 := (cell_far (p := ⟨gb190, 0, none⟩) (by first | (rw [add_block]; exact hn192_0) | (show (Addr.add _ _).block ≠ _; rw [add_block]; exact hn192_0) | exact hn192_0) (.string ((rd_T33 l0 x38_1).f0))).trans hx192_0; replace hx192_1 := (cell_far (p := ⟨gb190, 0, none⟩) (by first | (rw [add_block]; exact hn192_0) | (show (Addr.add _ _).block ≠ _; rw [add_block]; exact hn192_0) | exact hn192_0) (.string ((rd_T33 l0 x38_1).f0))).trans hx192_1; replace hx192_2 := (cell_far (p := ⟨gb190, 0, none⟩) (by first | (rw [add_block]; exact hn192_0) | (show (Addr.add _ _).block ≠ _; rw [add_block]; exact hn192_0) | exact hn192_0) (.string ((rd_T33 l0 x38_1).f0))).trans hx192_2; replace hx192_0 := (cell_far (p := ⟨gb190, 1, none⟩) (by first | (rw [add_block]; exact hn192_1) | (show (Addr.add _ _).block ≠ _; rw [add_block]; exact hn192_1) | exact hn192_1) (.int .i64 ((rd_T33 l0 x38_1).f1))).trans hx192_0; replace hx192_1 := (cell_far (p := ⟨gb190, 1, none⟩) (by first | (rw [add_block]; exact hn192_1) | (show (Addr.add _ _).block ≠ _; rw [add_block]; exact hn192_1) | exact hn192_1) (.int .i64 ((rd_T33 l0 x38_1).f1))).trans hx192_1; replace hx192_2 := (cell_far (p := ⟨gb190, 1, none⟩) (by first | (rw [add_block]; exact hn192_1) | (show (Addr.add _ _).block ≠ _; rw [add_block]; exact hn192_1) | exact hn192_1) (.int .i64 ((rd_T33 l0 x38_1).f1))).trans hx192_2; replace hx192_0 := (cell_far (p := ⟨gb190, 2, none⟩) (by first | (rw [add_block]; exact hn192_2) | (show (Addr.add _ _).block ≠ _; rw [add_block]; exact hn192_2) | exact hn192_2) (.bool ((rd_T33 l0 x38_1).f2))).trans hx192_0; replace hx192_1 := (cell_far (p := ⟨gb190, 2, none⟩) (by first | (rw [add_block]; exact hn192_2) | (show (Addr.add _ _).block ≠ _; rw [add_block]; exact hn192_2) | exact hn192_2) (.bool ((rd_T33 l0 x38_1).f2))).trans hx192_1; replace hx192_2 := (cell_far (p := ⟨gb190, 2, none⟩) (by first | (rw [add_block]; exact hn192_2) | (show (Addr.add _ _).block ≠ _; rw [add_block]; exact hn192_2) | exact hn192_2) (.bool ((rd_T33 l0 x38_1).f2))).trans hx192_2; (try have hy192_0 := fun (n_ : Nat) => (show (((((w29.drewN n_).setCell ⟨gb190, 0, none⟩ (.string ((rd_T33 l0 x38_1).f0))).setCell ⟨gb190, 1, none⟩ (.int .i64 ((rd_T33 l0 x38_1).f1))).setCell ⟨gb190, 2, none⟩ (.bool ((rd_T33 l0 x38_1).f2)))).cell? _ = some _ from hx192_0)); (try have hy192_1 := fun (n_ : Nat) => (show (((((w29.drewN n_).setCell ⟨gb190, 0, none⟩ (.string ((rd_T33 l0 x38_1).f0))).setCell ⟨gb190, 1, none⟩ (.int .i64 ((rd_T33 l0 x38_1).f1))).setCell ⟨gb190, 2, none⟩ (.bool ((rd_T33 l0 x38_1).f2)))).cell? _ = some _ from hx192_1)); (try have hy192_2 := fun (n_ : Nat) => (show (((((w29.drewN n_).setCell ⟨gb190, 0, none⟩ (.string ((rd_T33 l0 x38_1).f0))).setCell ⟨gb190, 1, none⟩ (.int .i64 ((rd_T33 l0 x38_1).f1))).setCell ⟨gb190, 2, none⟩ (.bool ((rd_T33 l0 x38_1).f2)))).cell? _ = some _ from hx192_2)); clear hn192_0; clear hn192_1; clear hn192_2; replace p192 := eq_true p192; replace q192 := eq_true q192)))
                        go_loopg [10, 11] k1 (fun kq v10 v11 w' => ∃ (x10_2 : Bool) (x11_2 : Int), v10 = .bool x10_2 ∧ v11 = .int .i64 x11_2 ∧ Aside0 (bobstaylaw12_LoopUnused.l1 kq a1 a2 t186 x38_1 x10_2 x11_2 l0 (l0.length : Int) x38_1 ((rd_T33 l0 x38_1).f0) ((rd_T33 l0 x38_1).f1) ((rd_T33 l0 x38_1).f2) = some r) ∧ Aside0 (kq ≤ k1) ∧ Aside0 (Kd.R k34 34 w' w.heap.size (fun _ => True) (.slice (some ad191) t186.length co20) t186) ∧ Aside0 (w'.heap[gb190]? = some (.cells #[.string ((rd_T33 l0 x38_1).f0), .int .i64 ((rd_T33 l0 x38_1).f1), .bool ((rd_T33 l0 x38_1).f2)] 33 (0, 0))) ∧ Aside0 (Below w.heap.size w w'))
                        case atStart => exact ⟨(true), (0), (by first | rfl | (simp; done) | (simp [*]; done)), (by first | rfl | (simp; done) | (simp [*]; done)), H', ⟨Nat.le_refl _⟩, ⟨by (with_reducible repeat (first | apply Kd.R_alloc | apply Kd.R_drewN | apply Kd.R_drew)); exact Kd.R_mono (Kd.R_far (p := ⟨gb190, 2, none⟩) (Kd.R_far (p := ⟨gb190, 1, none⟩) (Kd.R_far (p := ⟨gb190, 0, none⟩) (Kd.R_types HO_7.out BK190.out (by decide)) (fun _ hk => hk.2) (.string ((rd_T33 l0 x38_1).f0))) (fun _ hk => hk.2) (.int .i64 ((rd_T33 l0 x38_1).f1))) (fun _ hk => hk.2) (.bool ((rd_T33 l0 x38_1).f2))) (fun _ hk => trivial)⟩, ⟨by (with_reducible repeat (first | refine blk_drewN ?_ _ | refine blk_drew ?_ | refine blk_alloc ?_ _)); refine blk_put (cs := #[.string ((rd_T33 l0 x38_1).f0), .int .i64 ((rd_T33 l0 x38_1).f1), .bool false]) ?_ 2 _ rfl; (with_reducible repeat (first | refine blk_drewN ?_ _ | refine blk_drew ?_ | refine blk_alloc ?_ _)); refine blk_put (cs := #[.string ((rd_T33 l0 x38_1).f0), .int .i64 0, .bool false]) ?_ 1 _ rfl; (with_reducible repeat (first | refine blk_drewN ?_ _ | refine blk_drew ?_ | refine blk_alloc ?_ _)); refine blk_put (cs := #[.string (⟨#[]⟩ : ByteArray), .int .i64 0, .bool false]) ?_ 0 _ rfl; (with_reducible repeat (first | refine blk_drewN ?_ _ | refine blk_drew ?_ | refine blk_alloc ?_ _)); exact BK190.out⟩, ⟨by repeat (first | (with_reducible first | exact HB.out | apply below_alloc | apply pw_below_drewN | apply below_drew1 | refine below_set ?_ GE190.out) | exact HB.out)⟩⟩
                        case round =>
                          clear H'
                          try clear c1
                          try clear p1
                          try clear q1
                          try clear hx1
                          try clear c2
                          try clear p2
                          try clear c4
                          try clear c5
                          try clear p6
                          try clear c9
                          try clear c9b0
                          try clear c15
                          try clear c15b0
                          try clear c15b1
                          try clear c15b2
                          try clear p18
                          try clear q18
                          try clear hx18
                          try clear p19
                          try clear q19
                          try clear hx19
                          try clear c21
                          try clear c21b0
                          try clear c22
                          try clear c22b0
                          try clear c23
                          try clear c23b0
                          try clear c24
                          try clear c24b0
                          try clear c25
                          try clear c25b0
                          try clear c25b1
                          try clear c26
                          try clear c26b0
                          try clear c26b1
                          try clear c26b2
                          try clear hcz28_0
                          try clear hcz28_1
                          try clear hcz28_2
                          try clear hcz30_0
                          try clear hcz30_1
                          try clear hcz30_2
                          try clear hfz28_0
                          try clear hfz28_1
                          try clear hfz28_2
                          try clear hfz30_0
                          try clear hfz30_1
                          try clear hfz30_2
                          try clear hx189_0
                          try clear hx189_1
                          try clear hx189_2
                          try clear hx191_0
                          try clear hx191_1
                          try clear hx191_2
                          try clear hx192_0
                          try clear hx192_1
                          try clear hx192_2
                          try clear p189
                          try clear p191
                          try clear p192
                          try clear p2
                          try clear p6
                          try clear q189
                          try clear q191
                          try clear q192
                          obtain ⟨x10_2, x11_2, rfl, rfl, HA, HK2, HO_7, BK190, HB⟩ := hrel
                          cases gk with
                          | zero => exact absurd HA.out (by simp [bobstaylaw12_LoopUnused.l1])
                          | succ k2 =>
                            have H := HA.out
                            clear HA
                            simp only [bobstaylaw12_LoopUnused.l1] at H
                            by_cases c31 : x11_2 < (((rd_T33 l0 x38_1).f0).size : Int)
                            · rw [if_pos c31] at H
                              have c31b0 : decide (x11_2 < (((rd_T33 l0 x38_1).f0).size : Int)) = true := decide_eq_true c31
                              clear c31
                              by_cases c32 : x10_2 = true
                              · subst c32
                                have H1 : (if 0 ≤ x11_2 then (bobstaylaw12_LoopUnused.l1 k2 a1 a2 t186 x38_1 ((bt ((rd_T33 l0 x38_1).f0) x11_2) != 36) (wrap64 (x11_2 + 1)) l0 (l0.length : Int) x38_1 ((rd_T33 l0 x38_1).f0) ((rd_T33 l0 x38_1).f1) ((rd_T33 l0 x38_1).f2)) else (none)) = some r := by rw [if_pos rfl] at H; exact H
                                clear H
                                have H := H1
                                clear H1
                                by_cases c33 : 0 ≤ x11_2
                                · rw [if_pos c33] at H
                                  have c33b0 : decide (0 ≤ x11_2) = true := decide_eq_true c33
                                  clear c33
                                  have H' := Aside0.mk H
                                  clear H
                                  have hcz35_0 : wr.cell? ⟨gb190, 0, none⟩ = some (.string ((rd_T33 l0 x38_1).f0)) := (blk_cell BK190.out 0).trans rfl
                                  have hcz35_1 : wr.cell? ⟨gb190, 1, none⟩ = some (.int .i64 ((rd_T33 l0 x38_1).f1)) := (blk_cell BK190.out 1).trans rfl
                                  have hcz35_2 : wr.cell? ⟨gb190, 2, none⟩ = some (.bool ((rd_T33 l0 x38_1).f2)) := (blk_cell BK190.out 2).trans rfl
                                  have hfz35_0 := blk_frozen BK190.out 0
                                  have hfz35_1 := blk_frozen BK190.out 1
                                  have hfz35_2 := blk_frozen BK190.out 2
                                  have p34 : 0 ≤ (x11_2 : Int) := of_decide_eq_true (by first | (with_reducible assumption) | assumption)
                                  have q34 : x11_2 < (((rd_T33 l0 x38_1).f0).size : Int) := of_decide_eq_true (by first | (with_reducible assumption) | assumption)
                                  have hx34 := bt_at ((rd_T33 l0 x38_1).f0) x11_2
                                  replace p34 := eq_true p34
                                  replace q34 := eq_true q34
                                  go_wp2
                                  repeat (go_quiet (fail); try go_wp2)
                                  go_roundg k2
                                  case measure => have := HK1.out; have := HK2.out; omega
                                  case rel => exact ⟨(((bt ((rd_T33 l0 x38_1).f0) x11_2) != 36)), (wrap64 (x11_2 + 1)), (by first | rfl | (simp; done) | (simp [*]; done)), (by first | rfl | (simp; done) | (simp [*]; done)), H', ⟨by have := HK1.out; have := HK2.out; omega⟩, ⟨by (with_reducible repeat (first | apply Kd.R_alloc | apply Kd.R_drewN | apply Kd.R_drew)); exact HO_7.out⟩, ⟨by (with_reducible repeat (first | refine blk_drewN ?_ _ | refine blk_drew ?_ | refine blk_alloc ?_ _)); exact BK190.out⟩, ⟨by repeat (first | (with_reducible first | exact HB.out | apply below_alloc | apply pw_below_drewN | apply below_drew1 | refine below_set ?_ GE190.out) | exact HB.out)⟩⟩
                                · rw [if_neg c33] at H
                                  exact absurd H (by simp)
                              · replace c32 := Bool.eq_false_iff.mpr c32
                                subst c32
                                have H1 : (bobstaylaw12_LoopUnused.l1 k2 a1 a2 t186 x38_1 false (wrap64 (x11_2 + 1)) l0 (l0.length : Int) x38_1 ((rd_T33 l0 x38_1).f0) ((rd_T33 l0 x38_1).f1) ((rd_T33 l0 x38_1).f2)) = some r := by rw [if_neg (show ¬ (false = true) by decide)] at H; exact H
                                clear H
                                have H := H1
                                clear H1
                                have H' := Aside0.mk H
                                clear H
                                have hcz36_0 : wr.cell? ⟨gb190, 0, none⟩ = some (.string ((rd_T33 l0 x38_1).f0)) := (blk_cell BK190.out 0).trans rfl
                                have hcz36_1 : wr.cell? ⟨gb190, 1, none⟩ = some (.int .i64 ((rd_T33 l0 x38_1).f1)) := (blk_cell BK190.out 1).trans rfl
                                have hcz36_2 : wr.cell? ⟨gb190, 2, none⟩ = some (.bool ((rd_T33 l0 x38_1).f2)) := (blk_cell BK190.out 2).trans rfl
                                have hfz36_0 := blk_frozen BK190.out 0
                                have hfz36_1 := blk_frozen BK190.out 1
                                have hfz36_2 := blk_frozen BK190.out 2
                                go_wp2
                                repeat (go_quiet (fail); try go_wp2)
                                go_roundg k2
                                case measure => have := HK1.out; have := HK2.out; omega
                                case rel => exact ⟨(false), (wrap64 (x11_2 + 1)), (by first | rfl | (simp; done) | (simp [*]; done)), (by first | rfl | (simp; done) | (simp [*]; done)), H', ⟨by have := HK1.out; have := HK2.out; omega⟩, ⟨by (with_reducible repeat (first | apply Kd.R_alloc | apply Kd.R_drewN | apply Kd.R_drew)); exact HO_7.out⟩, ⟨by (with_reducible repeat (first | refine blk_drewN ?_ _ | refine blk_drew ?_ | refine blk_alloc ?_ _)); exact BK190.out⟩, ⟨by repeat (first | (with_reducible first | exact HB.out | apply below_alloc | apply pw_below_drewN | apply below_drew1 | refine below_set ?_ GE190.out) | exact HB.out)⟩⟩
                            · rw [if_neg c31] at H
                              have c31b0 : decide (x11_2 < (((rd_T33 l0 x38_1).f0).size : Int)) = false := decide_eq_false c31
                              clear c31
                              by_cases c37 : x10_2 = true
                              · subst c37
                                have H1 : (if 0 ≤ x38_1 then (if x38_1 < (t186.length : Int) then (if ((rd_T34 t186 x38_1).f0).toList = ((rd_T33 l0 x38_1).f0).toList then (bobstaylaw12_LoopUnused.l0 k2 a1 a2 t186 l0 (l0.length : Int) (wrap64 (x38_1 + 1))) else (some false)) else (none)) else (none)) = some r := by rw [if_pos rfl] at H; exact H
                                clear H
                                have H := H1
                                clear H1
                                by_cases c38 : 0 ≤ x38_1
                                · rw [if_pos c38] at H
                                  have c38b0 : decide (0 ≤ x38_1) = true := decide_eq_true c38
                                  clear c38
                                  by_cases c39 : x38_1 < (t186.length : Int)
                                  · rw [if_pos c39] at H
                                    have c39b0 : decide (x38_1 < (t186.length : Int)) = true := decide_eq_true c39
                                    clear c39
                                    by_cases c40 : ((rd_T34 t186 x38_1).f0).toList = ((rd_T33 l0 x38_1).f0).toList
                                    · rw [if_pos c40] at H
                                      have c40b0 : (((rd_T34 t186 x38_1).f0).toList == ((rd_T33 l0 x38_1).f0).toList) = true := beq_iff_eq.mpr c40
                                      have c40b1 : (((rd_T34 t186 x38_1).f0).toList != ((rd_T33 l0 x38_1).f0).toList) = false := bne_eq_false_iff_eq.mpr c40
                                      clear c40
                                      have H' := Aside0.mk H
                                      clear H
                                      have hcz41_0 : wr.cell? ⟨gb190, 0, none⟩ = some (.string ((rd_T33 l0 x38_1).f0)) := (blk_cell BK190.out 0).trans rfl
                                      have hcz41_1 : wr.cell? ⟨gb190, 1, none⟩ = some (.int .i64 ((rd_T33 l0 x38_1).f1)) := (blk_cell BK190.out 1).trans rfl
                                      have hcz41_2 : wr.cell? ⟨gb190, 2, none⟩ = some (.bool ((rd_T33 l0 x38_1).f2)) := (blk_cell BK190.out 2).trans rfl
                                      have hfz41_0 := blk_frozen BK190.out 0
                                      have hfz41_1 := blk_frozen BK190.out 1
                                      have hfz41_2 := blk_frozen BK190.out 2
                                      have p193 : 0 ≤ (x38_1 : Int) := of_decide_eq_true (by first | (with_reducible assumption) | assumption)
                                      have q193 : x38_1 < (t186.length : Int) := of_decide_eq_true (by first | (with_reducible assumption) | assumption)
                                      obtain ⟨ad193, e193, hx193_0, hx193_1, hx193_2⟩ := at_T34 (Kd.R_reads' HO_7.out).2.2 x38_1 p193 q193
                                      obtain rfl : ad191 = ad193 := (by injection e193)
                                      replace p193 := eq_true p193
                                      replace q193 := eq_true q193
                                      go_wp2
                                      repeat (go_quiet (fail); try go_wp2)
                                      go_roundg k2
                                      case measure => have := HK1.out; have := HK2.out; omega
                                      case rel => exact ⟨(wrap64 (x38_1 + 1)), (by first | rfl | (simp; done) | (simp [*]; done)), H', ⟨by have := HK1.out; have := HK2.out; omega⟩, ⟨by (with_reducible repeat (first | apply Kd.R_alloc | apply Kd.R_drewN | apply Kd.R_drew)); exact HO_7.out⟩, ⟨by repeat (first | (with_reducible first | exact HB.out | apply below_alloc | apply pw_below_drewN | apply below_drew1 | refine below_set ?_ GE190.out) | exact HB.out)⟩⟩
                                    · rw [if_neg c40] at H
                                      have c40b0 : (((rd_T34 t186 x38_1).f0).toList == ((rd_T33 l0 x38_1).f0).toList) = false := beq_eq_false_iff_ne.mpr c40
                                      have c40b1 : (((rd_T34 t186 x38_1).f0).toList != ((rd_T33 l0 x38_1).f0).toList) = true := bne_iff_ne.mpr c40
                                      obtain rfl := Option.some.inj H
                                      have hcz42_0 : wr.cell? ⟨gb190, 0, none⟩ = some (.string ((rd_T33 l0 x38_1).f0)) := (blk_cell BK190.out 0).trans rfl
                                      have hcz42_1 : wr.cell? ⟨gb190, 1, none⟩ = some (.int .i64 ((rd_T33 l0 x38_1).f1)) := (blk_cell BK190.out 1).trans rfl
                                      have hcz42_2 : wr.cell? ⟨gb190, 2, none⟩ = some (.bool ((rd_T33 l0 x38_1).f2)) := (blk_cell BK190.out 2).trans rfl
                                      have hfz42_0 := blk_frozen BK190.out 0
                                      have hfz42_1 := blk_frozen BK190.out 1
                                      have hfz42_2 := blk_frozen BK190.out 2
                                      have p193 : 0 ≤ (x38_1 : Int) := of_decide_eq_true (by first | (with_reducible assumption) | assumption)
                                      have q193 : x38_1 < (t186.length : Int) := of_decide_eq_true (by first | (with_reducible assumption) | assumption)
                                      obtain ⟨ad193, e193, hx193_0, hx193_1, hx193_2⟩ := at_T34 (Kd.R_reads' HO_7.out).2.2 x38_1 p193 q193
                                      obtain rfl : ad191 = ad193 := (by injection e193)
                                      replace p193 := eq_true p193
                                      replace q193 := eq_true q193
                                      go_wp2
                                      repeat (go_quiet (fail); try go_wp2)
                                      go_ret
                                      exact ⟨by first | rfl | (simp [errW_none, errW_some] <;> rfl) | (simp [*, errW_none, errW_some] <;> rfl), by repeat (first | (with_reducible first | exact HB.out | apply below_alloc | apply pw_below_drewN | apply below_drew1 | refine below_set ?_ GE190.out) | exact HB.out)⟩
                                  · rw [if_neg c39] at H
                                    exact absurd H (by simp)
                                · rw [if_neg c38] at H
                                  exact absurd H (by simp)
                              · replace c37 := Bool.eq_false_iff.mpr c37
                                subst c37
                                have H1 : (bobstaylaw12_LoopUnused.l0 k2 a1 a2 t186 l0 (l0.length : Int) (wrap64 (x38_1 + 1))) = some r := by rw [if_neg (show ¬ (false = true) by decide)] at H; exact H
                                clear H
                                have H := H1
                                clear H1
                                have H' := Aside0.mk H
                                clear H
                                have hcz43_0 : wr.cell? ⟨gb190, 0, none⟩ = some (.string ((rd_T33 l0 x38_1).f0)) := (blk_cell BK190.out 0).trans rfl
                                have hcz43_1 : wr.cell? ⟨gb190, 1, none⟩ = some (.int .i64 ((rd_T33 l0 x38_1).f1)) := (blk_cell BK190.out 1).trans rfl
                                have hcz43_2 : wr.cell? ⟨gb190, 2, none⟩ = some (.bool ((rd_T33 l0 x38_1).f2)) := (blk_cell BK190.out 2).trans rfl
                                have hfz43_0 := blk_frozen BK190.out 0
                                have hfz43_1 := blk_frozen BK190.out 1
                                have hfz43_2 := blk_frozen BK190.out 2
                                go_wp2
                                repeat (go_quiet (fail); try go_wp2)
                                go_roundg k2
                                case measure => have := HK1.out; have := HK2.out; omega
                                case rel => exact ⟨(wrap64 (x38_1 + 1)), (by first | rfl | (simp; done) | (simp [*]; done)), H', ⟨by have := HK1.out; have := HK2.out; omega⟩, ⟨by (with_reducible repeat (first | apply Kd.R_alloc | apply Kd.R_drewN | apply Kd.R_drew)); exact HO_7.out⟩, ⟨by repeat (first | (with_reducible first | exact HB.out | apply below_alloc | apply pw_below_drewN | apply below_drew1 | refine below_set ?_ GE190.out) | exact HB.out)⟩⟩
                    · rw [if_neg c25] at H
                      have c25b0 : (((rd_T34 t186 x38_1).f1) == ((rd_T33 l0 x38_1).f1)) = false := beq_eq_false_iff_ne.mpr c25
                      have c25b1 : (((rd_T34 t186 x38_1).f1) != ((rd_T33 l0 x38_1).f1)) = true := bne_iff_ne.mpr c25
                      obtain rfl := Option.some.inj H
                      have p189 : 0 ≤ (x38_1 : Int) := of_decide_eq_true (by first | (with_reducible assumption) | assumption)
                      have q189 : x38_1 < (l0.length : Int) := of_decide_eq_true (by first | (with_reducible assumption) | assumption)
                      obtain ⟨ad189, e189, hx189_0, hx189_1, hx189_2⟩ := at_T33 HR0.out x38_1 p189 q189
                      cases e189
                      replace hx189_0 := (HB.out.cell (World.block_lt_of_cell? w _ hx189_0)).trans hx189_0
                      replace hx189_1 := (HB.out.cell (World.block_lt_of_cell? w _ hx189_1)).trans hx189_1
                      replace hx189_2 := (HB.out.cell (World.block_lt_of_cell? w _ hx189_2)).trans hx189_2
                      replace p189 := eq_true p189
                      replace q189 := eq_true q189
                      go_wp2_with (first | ((with_reducible refine gate_dst (N := 9) rfl ?_); (try (refine gate_guard (by rfl) ?_; dsimp only)); refine box_event ?hg (N := 9) ?hd (cs := #[.string (⟨#[]⟩ : ByteArray), .int .i64 0, .bool false]) (t := 33) ?hr ?_; (case hd => rfl); (case hg => rfl); (case hr => first | (go_simp; done) | (go_simp; rfl)); intro gb190 hg w44 hbox hb; have n0_ := Aside0.mk (Kd.R_below (by (with_reducible repeat (first | apply Kd.R_alloc | apply Kd.R_drewN | apply Kd.R_drew)); exact HO_7.out) hb); have n1_ := Aside0.mk (below_step (by repeat (first | (with_reducible first | exact HB.out | apply below_alloc | apply pw_below_drewN | apply below_drew1) | exact HB.out)) hb); have n2_ := Aside0.mk (hbox); have n3_ := Aside0.mk ((by rw [hg]; exact (below_size (by repeat (first | (with_reducible first | exact HB.out | apply below_alloc | apply pw_below_drewN | apply below_drew1) | exact HB.out))) : w.heap.size ≤ gb190)); have n4_ := Aside0.mk ((by rw [hg]; exact (below_size (by repeat (first | (with_reducible first | exact HB.out | apply below_alloc | apply pw_below_drewN | apply below_drew1) | exact HB.out))) : w.heap.size ≤ gb190)); clear HO_7; clear HB; have HO_7 := n0_; have HB := n1_; have BK190 := n2_; have GW190 := n3_; have GE190 := n4_; clear n0_ n1_ n2_ n3_ n4_; clear hb hbox hg; have hcz45_0 : w44.cell? ⟨gb190, 0, none⟩ = some (.string (⟨#[]⟩ : ByteArray)) := (blk_cell BK190.out 0).trans rfl; have hcz45_1 : w44.cell? ⟨gb190, 1, none⟩ = some (.int .i64 0) := (blk_cell BK190.out 1).trans rfl; have hcz45_2 : w44.cell? ⟨gb190, 2, none⟩ = some (.bool false) := (blk_cell BK190.out 2).trans rfl; have hfz45_0 := blk_frozen BK190.out 0; have hfz45_1 := blk_frozen BK190.out 1; have hfz45_2 := blk_frozen BK190.out 2; have p191 : 0 ≤ (x38_1 : Int) := of_decide_eq_true (by first | (with_reducible assumption) | assumption); have q191 : x38_1 < (t186.length : Int) := of_decide_eq_true (by first | (with_reducible assumption) | assumption); obtain ⟨ad191, e191, hx191_0, hx191_1, hx191_2⟩ := at_T34 (Kd.R_reads' HO_7.out).2.2 x38_1 p191 q191; cases e191; have hn191_0 : ad191.block ≠ gb190 := (by first | exact Kd.own_blk (Kd.R_ne HO_7.out BK190.out (by decide)) | exact Kd.own_blk (fun e_ => (HO_7.out.1 _ e_.symm).2 rfl) | exact Kd.own_blk (fun e_ => (HO_7.out.1 _ e_.symm).1.2 rfl)); have hn191_1 : ad191.block ≠ gb190 := (by first | exact Kd.own_blk (Kd.R_ne HO_7.out BK190.out (by decide)) | exact Kd.own_blk (fun e_ => (HO_7.out.1 _ e_.symm).2 rfl) | exact Kd.own_blk (fun e_ => (HO_7.out.1 _ e_.symm).1.2 rfl)); have hn191_2 : ad191.block ≠ gb190 := (by first | exact Kd.own_blk (Kd.R_ne HO_7.out BK190.out (by decide)) | exact Kd.own_blk (fun e_ => (HO_7.out.1 _ e_.symm).2 rfl) | exact Kd.own_blk (fun e_ => (HO_7.out.1 _ e_.symm).1.2 rfl)); replace hx191_0 := (cell_far (p := ⟨gb190, 0, none⟩) (by first | (rw [add_block]; exact hn191_0) | (show (Addr.add _ _).block ≠ _; rw [add_block]; exact hn191_0) | exact hn191_0) (.string ((rd_T33 l0 x38_1).f0))).trans hx191_0; replace hx191_1 := (cell_far (p := ⟨gb190, 0, none⟩) (by first | (rw [add_block]; exact hn191_0) | (show (Addr.add _ _).block ≠ _; rw [add_block]; exact hn191_0) | exact hn191_0) (.string ((rd_T33 l0 x38_1).f0))).trans hx191_1; replace hx191_2 := (cell_far (p := ⟨gb190, 0, none⟩) (by first | (rw [add_block]; exact hn191_0) | (show (Addr.add _ _).block ≠ _; rw [add_block]; exact hn191_0) | exact hn191_0) (.string ((rd_T33 l0 x38_1).f0))).trans hx191_2; replace hx191_0 := (cell_far (p := ⟨gb190, 1, none⟩) (by first | (rw [add_block]; exact hn191_1) | (show (Addr.add _ _).block ≠ _; rw [add_block]; exact hn191_1) | exact hn191_1) (.int .i64 ((rd_T33 l0 x38_1).f1))).trans hx191_0; replace hx191_1 := (cell_far (p := ⟨gb190, 1, none⟩) (by first | (rw [add_block]; exact hn191_1) | (show (Addr.add _ _).block ≠ _; rw [add_block]; exact hn191_1) | exact hn191_1) (.int .i64 ((rd_T33 l0 x38_1).f1))).trans hx191_1; replace hx191_2 := (cell_far (p := ⟨gb190, 1, none⟩) (by first | (rw [add_block]; exact hn191_1) | (show (Addr.add _ _).block ≠ _; rw [add_block]; exact hn191_1) | exact hn191_1) (.int .i64 ((rd_T33 l0 x38_1).f1))).trans hx191_2; replace hx191_0 := (cell_far (p := ⟨gb190, 2, none⟩) (by first | (rw [add_block]; exact hn191_2) | (show (Addr.add _ _).block ≠ _; rw [add_block]; exact hn191_2) | exact hn191_2) (.bool ((rd_T33 l0 x38_1).f2))).trans hx191_0; replace hx191_1 := (cell_far (p := ⟨gb190, 2, none⟩) (by first | (rw [add_block]; exact hn191_2) | (show (Addr.add _ _).block ≠ _; rw [add_block]; exact hn191_2) | exact hn191_2) (.bool ((rd_T33 l0 x38_1).f2))).trans hx191_1; replace hx191_2 := (cell_far (p := ⟨gb190, 2, none⟩) (by first | (rw [add_block]; exact hn191_2) | (show (Addr.add _ _).block ≠ _; rw [add_block]; exact hn191_2) | exact hn191_2) (.bool ((rd_T33 l0 x38_1).f2))).trans hx191_2; (try have hy191_0 := fun (n_ : Nat) => (show (((((w44.drewN n_).setCell ⟨gb190, 0, none⟩ (.string ((rd_T33 l0 x38_1).f0))).setCell ⟨gb190, 1, none⟩ (.int .i64 ((rd_T33 l0 x38_1).f1))).setCell ⟨gb190, 2, none⟩ (.bool ((rd_T33 l0 x38_1).f2)))).cell? _ = some _ from hx191_0)); (try have hy191_1 := fun (n_ : Nat) => (show (((((w44.drewN n_).setCell ⟨gb190, 0, none⟩ (.string ((rd_T33 l0 x38_1).f0))).setCell ⟨gb190, 1, none⟩ (.int .i64 ((rd_T33 l0 x38_1).f1))).setCell ⟨gb190, 2, none⟩ (.bool ((rd_T33 l0 x38_1).f2)))).cell? _ = some _ from hx191_1)); (try have hy191_2 := fun (n_ : Nat) => (show (((((w44.drewN n_).setCell ⟨gb190, 0, none⟩ (.string ((rd_T33 l0 x38_1).f0))).setCell ⟨gb190, 1, none⟩ (.int .i64 ((rd_T33 l0 x38_1).f1))).setCell ⟨gb190, 2, none⟩ (.bool ((rd_T33 l0 x38_1).f2)))).cell? _ = some _ from hx191_2)); clear hn191_0; clear hn191_1; clear hn191_2; replace p191 := eq_true p191; replace q191 := eq_true q191))
                      repeat (go_quiet (first | ((with_reducible refine gate_dst (N := 9) rfl ?_); (try (refine gate_guard (by rfl) ?_; dsimp only)); refine box_event ?hg (N := 9) ?hd (cs := #[.string (⟨#[]⟩ : ByteArray), .int .i64 0, .bool false]) (t := 33) ?hr ?_; (case hd => rfl); (case hg => rfl); (case hr => first | (go_simp; done) | (go_simp; rfl)); intro gb190 hg w44 hbox hb; have n0_ := Aside0.mk (Kd.R_below (by (with_reducible repeat (first | apply Kd.R_alloc | apply Kd.R_drewN | apply Kd.R_drew)); exact HO_7.out) hb); have n1_ := Aside0.mk (below_step (by repeat (first | (with_reducible first | exact HB.out | apply below_alloc | apply pw_below_drewN | apply below_drew1) | exact HB.out)) hb); have n2_ := Aside0.mk (hbox); have n3_ := Aside0.mk ((by rw [hg]; exact (below_size (by repeat (first | (with_reducible first | exact HB.out | apply below_alloc | apply pw_below_drewN | apply below_drew1) | exact HB.out))) : w.heap.size ≤ gb190)); have n4_ := Aside0.mk ((by rw [hg]; exact (below_size (by repeat (first | (with_reducible first | exact HB.out | apply below_alloc | apply pw_below_drewN | apply below_drew1) | exact HB.out))) : w.heap.size ≤ gb190)); clear HO_7; clear HB; have HO_7 := n0_; have HB := n1_; have BK190 := n2_; have GW190 := n3_; have GE190 := n4_; clear n0_ n1_ n2_ n3_ n4_; clear hb hbox hg; have hcz45_0 : w44.cell? ⟨gb190, 0, none⟩ = some (.string (⟨#[]⟩ : ByteArray)) := (blk_cell BK190.out 0).trans rfl; have hcz45_1 : w44.cell? ⟨gb190, 1, none⟩ = some (.int .i64 0) := (blk_cell BK190.out 1).trans rfl; have hcz45_2 : w44.cell? ⟨gb190, 2, none⟩ = some (.bool false) := (blk_cell BK190.out 2).trans rfl; have hfz45_0 := blk_frozen BK190.out 0; have hfz45_1 := blk_frozen BK190.out 1; have hfz45_2 := blk_frozen BK190.out 2; have p191 : 0 ≤ (x38_1 : Int) := of_decide_eq_true (by first | (with_reducible assumption) | assumption); have q191 : x38_1 < (t186.length : Int) := of_decide_eq_true (by first | (with_reducible assumption) | assumption); obtain ⟨ad191, e191, hx191_0, hx191_1, hx191_2⟩ := at_T34 (Kd.R_reads' HO_7.out).2.2 x38_1 p191 q191; cases e191; have hn191_0 : ad191.block ≠ gb190 := (by first | exact Kd.own_blk (Kd.R_ne HO_7.out BK190.out (by decide)) | exact Kd.own_blk (fun e_ => (HO_7.out.1 _ e_.symm).2 rfl) | exact Kd.own_blk (fun e_ => (HO_7.out.1 _ e_.symm).1.2 rfl)); have hn191_1 : ad191.block ≠ gb190 := (by first | exact Kd.own_blk (Kd.R_ne HO_7.out BK190.out (by decide)) | exact Kd.own_blk (fun e_ => (HO_7.out.1 _ e_.symm).2 rfl) | exact Kd.own_blk (fun e_ => (HO_7.out.1 _ e_.symm).1.2 rfl)); have hn191_2 : ad191.block ≠ gb190 := (by first | exact Kd.own_blk (Kd.R_ne HO_7.out BK190.out (by decide)) | exact Kd.own_blk (fun e_ => (HO_7.out.1 _ e_.symm).2 rfl) | exact Kd.own_blk (fun e_ => (HO_7.out.1 _ e_.symm).1.2 rfl)); replace hx191_0 := (cell_far (p := ⟨gb190, 0, none⟩) (by first | (rw [add_block]; exact hn191_0) | (show (Addr.add _ _).block ≠ _; rw [add_block]; exact hn191_0) | exact hn191_0) (.string ((rd_T33 l0 x38_1).f0))).trans hx191_0; replace hx191_1 := (cell_far (p := ⟨gb190, 0, none⟩) (by first | (rw [add_block]; exact hn191_0) | (show (Addr.add _ _).block ≠ _; rw [add_block]; exact hn191_0) | exact hn191_0) (.string ((rd_T33 l0 x38_1).f0))).trans hx191_1; replace hx191_2 := (cell_far (p := ⟨gb190, 0, none⟩) (by first | (rw [add_block]; exact hn191_0) | (show (Addr.add _ _).block ≠ _; rw [add_block]; exact hn191_0) | exact hn191_0) (.string ((rd_T33 l0 x38_1).f0))).trans hx191_2; replace hx191_0 := (cell_far (p := ⟨gb190, 1, none⟩) (by first | (rw [add_block]; exact hn191_1) | (show (Addr.add _ _).block ≠ _; rw [add_block]; exact hn191_1) | exact hn191_1) (.int .i64 ((rd_T33 l0 x38_1).f1))).trans hx191_0; replace hx191_1 := (cell_far (p := ⟨gb190, 1, none⟩) (by first | (rw [add_block]; exact hn191_1) | (show (Addr.add _ _).block ≠ _; rw [add_block]; exact hn191_1) | exact hn191_1) (.int .i64 ((rd_T33 l0 x38_1).f1))).trans hx191_1; replace hx191_2 := (cell_far (p := ⟨gb190, 1, none⟩) (by first | (rw [add_block]; exact hn191_1) | (show (Addr.add _ _).block ≠ _; rw [add_block]; exact hn191_1) | exact hn191_1) (.int .i64 ((rd_T33 l0 x38_1).f1))).trans hx191_2; replace hx191_0 := (cell_far (p := ⟨gb190, 2, none⟩) (by first | (rw [add_block]; exact hn191_2) | (show (Addr.add _ _).block ≠ _; rw [add_block]; exact hn191_2) | exact hn191_2) (.bool ((rd_T33 l0 x38_1).f2))).trans hx191_0; replace hx191_1 := (cell_far (p := ⟨gb190, 2, none⟩) (by first | (rw [add_block]; exact hn191_2) | (show (Addr.add _ _).block ≠ _; rw [add_block]; exact hn191_2) | exact hn191_2) (.bool ((rd_T33 l0 x38_1).f2))).trans hx191_1; replace hx191_2 := (cell_far (p := ⟨gb190, 2, none⟩) (by first | (rw [add_block]; exact hn191_2) | (show (Addr.add _ _).block ≠ _; rw [add_block]; exact hn191_2) | exact hn191_2) (.bool ((rd_T33 l0 x38_1).f2))).trans hx191_2; (try have hy191_0 := fun (n_ : Nat) => (show (((((w44.drewN n_).setCell ⟨gb190, 0, none⟩ (.string ((rd_T33 l0 x38_1).f0))).setCell ⟨gb190, 1, none⟩ (.int .i64 ((rd_T33 l0 x38_1).f1))).setCell ⟨gb190, 2, none⟩ (.bool ((rd_T33 l0 x38_1).f2)))).cell? _ = some _ from hx191_0)); (try have hy191_1 := fun (n_ : Nat) => (show (((((w44.drewN n_).setCell ⟨gb190, 0, none⟩ (.string ((rd_T33 l0 x38_1).f0))).setCell ⟨gb190, 1, none⟩ (.int .i64 ((rd_T33 l0 x38_1).f1))).setCell ⟨gb190, 2, none⟩ (.bool ((rd_T33 l0 x38_1).f2)))).cell? _ = some _ from hx191_1)); (try have hy191_2 := fun (n_ : Nat) => (show (((((w44.drewN n_).setCell ⟨gb190, 0, none⟩ (.string ((rd_T33 l0 x38_1).f0))).setCell ⟨gb190, 1, none⟩ (.int .i64 ((rd_T33 l0 x38_1).f1))).setCell ⟨gb190, 2, none⟩ (.bool ((rd_T33 l0 x38_1).f2)))).cell? _ = some _ from hx191_2)); clear hn191_0; clear hn191_1; clear hn191_2; replace p191 := eq_true p191; replace q191 := eq_true q191)); try go_wp2_with (first | ((with_reducible refine gate_dst (N := 9) rfl ?_); (try (refine gate_guard (by rfl) ?_; dsimp only)); refine box_event ?hg (N := 9) ?hd (cs := #[.string (⟨#[]⟩ : ByteArray), .int .i64 0, .bool false]) (t := 33) ?hr ?_; (case hd => rfl); (case hg => rfl); (case hr => first | (go_simp; done) | (go_simp; rfl)); intro gb190 hg w44 hbox hb; have n0_ := Aside0.mk (Kd.R_below (by (with_reducible repeat (first | apply Kd.R_alloc | apply Kd.R_drewN | apply Kd.R_drew)); exact HO_7.out) hb); have n1_ := Aside0.mk (below_step (by repeat (first | (with_reducible first | exact HB.out | apply below_alloc | apply pw_below_drewN | apply below_drew1) | exact HB.out)) hb); have n2_ := Aside0.mk (hbox); have n3_ := Aside0.mk ((by rw [hg]; exact (below_size (by repeat (first | (with_reducible first | exact HB.out | apply below_alloc | apply pw_below_drewN | apply below_drew1) | exact HB.out))) : w.heap.size ≤ gb190)); have n4_ := Aside0.mk ((by rw [hg]; exact (below_size (by repeat (first | (with_reducible first | exact HB.out | apply below_alloc | apply pw_below_drewN | apply below_drew1) | exact HB.out))) : w.heap.size ≤ gb190)); clear HO_7; clear HB; have HO_7 := n0_; have HB := n1_; have BK190 := n2_; have GW190 := n3_; have GE190 := n4_; clear n0_ n1_ n2_ n3_ n4_; clear hb hbox hg; have hcz45_0 : w44.cell? ⟨gb190, 0, none⟩ = some (.string (⟨#[]⟩ : ByteArray)) := (blk_cell BK190.out 0).trans rfl; have hcz45_1 : w44.cell? ⟨gb190, 1, none⟩ = some (.int .i64 0) := (blk_cell BK190.out 1).trans rfl; have hcz45_2 : w44.cell? ⟨gb190, 2, none⟩ = some (.bool false) := (blk_cell BK190.out 2).trans rfl; have hfz45_0 := blk_frozen BK190.out 0; have hfz45_1 := blk_frozen BK190.out 1; have hfz45_2 := blk_frozen BK190.out 2; have p191 : 0 ≤ (x38_1 : Int) := of_decide_eq_true (by first | (with_reducible assumption) | assumption); have q191 : x38_1 < (t186.length : Int) := of_decide_eq_true (by first | (with_reducible assumption) | assumption); obtain ⟨ad191, e191, hx191_0, hx191_1, hx191_2⟩ := at_T34 (Kd.R_reads' HO_7.out).2.2 x38_1 p191 q191; cases e191; have hn191_0 : ad191.block ≠ gb190 := (by first | exact Kd.own_blk (Kd.R_ne HO_7.out BK190.out (by decide)) | exact Kd.own_blk (fun e_ => (HO_7.out.1 _ e_.symm).2 rfl) | exact Kd.own_blk (fun e_ => (HO_7.out.1 _ e_.symm).1.2 rfl)); have hn191_1 : ad191.block ≠ gb190 := (by first | exact Kd.own_blk (Kd.R_ne HO_7.out BK190.out (by decide)) | exact Kd.own_blk (fun e_ => (HO_7.out.1 _ e_.symm).2 rfl) | exact Kd.own_blk (fun e_ => (HO_7.out.1 _ e_.symm).1.2 rfl)); have hn191_2 : ad191.block ≠ gb190 := (by first | exact Kd.own_blk (Kd.R_ne HO_7.out BK190.out (by decide)) | exact Kd.own_blk (fun e_ => (HO_7.out.1 _ e_.symm).2 rfl) | exact Kd.own_blk (fun e_ => (HO_7.out.1 _ e_.symm).1.2 rfl)); replace hx191_0 := (cell_far (p := ⟨gb190, 0, none⟩) (by first | (rw [add_block]; exact hn191_0) | (show (Addr.add _ _).block ≠ _; rw [add_block]; exact hn191_0) | exact hn191_0) (.string ((rd_T33 l0 x38_1).f0))).trans hx191_0; replace hx191_1 := (cell_far (p := ⟨gb190, 0, none⟩) (by first | (rw [add_block]; exact hn191_0) | (show (Addr.add _ _).block ≠ _; rw [add_block]; exact hn191_0) | exact hn191_0) (.string ((rd_T33 l0 x38_1).f0))).trans hx191_1; replace hx191_2 := (cell_far (p := ⟨gb190, 0, none⟩) (by first | (rw [add_block]; exact hn191_0) | (show (Addr.add _ _).block ≠ _; rw [add_block]; exact hn191_0) | exact hn191_0) (.string ((rd_T33 l0 x38_1).f0))).trans hx191_2; replace hx191_0 := (cell_far (p := ⟨gb190, 1, none⟩) (by first | (rw [add_block]; exact hn191_1) | (show (Addr.add _ _).block ≠ _; rw [add_block]; exact hn191_1) | exact hn191_1) (.int .i64 ((rd_T33 l0 x38_1).f1))).trans hx191_0; replace hx191_1 := (cell_far (p := ⟨gb190, 1, none⟩) (by first | (rw [add_block]; exact hn191_1) | (show (Addr.add _ _).block ≠ _; rw [add_block]; exact hn191_1) | exact hn191_1) (.int .i64 ((rd_T33 l0 x38_1).f1))).trans hx191_1; replace hx191_2 := (cell_far (p := ⟨gb190, 1, none⟩) (by first | (rw [add_block]; exact hn191_1) | (show (Addr.add _ _).block ≠ _; rw [add_block]; exact hn191_1) | exact hn191_1) (.int .i64 ((rd_T33 l0 x38_1).f1))).trans hx191_2; replace hx191_0 := (cell_far (p := ⟨gb190, 2, none⟩) (by first | (rw [add_block]; exact hn191_2) | (show (Addr.add _ _).block ≠ _; rw [add_block]; exact hn191_2) | exact hn191_2) (.bool ((rd_T33 l0 x38_1).f2))).trans hx191_0; replace hx191_1 := (cell_far (p := ⟨gb190, 2, none⟩) (by first | (rw [add_block]; exact hn191_2) | (show (Addr.add _ _).block ≠ _; rw [add_block]; exact hn191_2) | exact hn191_2) (.bool ((rd_T33 l0 x38_1).f2))).trans hx191_1; replace hx191_2 := (cell_far (p := ⟨gb190, 2, none⟩) (by first | (rw [add_block]; exact hn191_2) | (show (Addr.add _ _).block ≠ _; rw [add_block]; exact hn191_2) | exact hn191_2) (.bool ((rd_T33 l0 x38_1).f2))).trans hx191_2; (try have hy191_0 := fun (n_ : Nat) => (show (((((w44.drewN n_).setCell ⟨gb190, 0, none⟩ (.string ((rd_T33 l0 x38_1).f0))).setCell ⟨gb190, 1, none⟩ (.int .i64 ((rd_T33 l0 x38_1).f1))).setCell ⟨gb190, 2, none⟩ (.bool ((rd_T33 l0 x38_1).f2)))).cell? _ = some _ from hx191_0)); (try have hy191_1 := fun (n_ : Nat) => (show (((((w44.drewN n_).setCell ⟨gb190, 0, none⟩ (.string ((rd_T33 l0 x38_1).f0))).setCell ⟨gb190, 1, none⟩ (.int .i64 ((rd_T33 l0 x38_1).f1))).setCell ⟨gb190, 2, none⟩ (.bool ((rd_T33 l0 x38_1).f2)))).cell? _ = some _ from hx191_1)); (try have hy191_2 := fun (n_ : Nat) => (show (((((w44.drewN n_).setCell ⟨gb190, 0, none⟩ (.string ((rd_T33 l0 x38_1).f0))).setCell ⟨gb190, 1, none⟩ (.int .i64 ((rd_T33 l0 x38_1).f1))).setCell ⟨gb190, 2, none⟩ (.bool ((rd_T33 l0 x38_1).f2)))).cell? _ = some _ from hx191_2)); clear hn191_0; clear hn191_1; clear hn191_2; replace p191 := eq_true p191; replace q191 := eq_true q191)))
                      go_ret
                      exact ⟨by first | rfl | (simp [errW_none, errW_some] <;> rfl) | (simp [*, errW_none, errW_some] <;> rfl), by repeat (first | (with_reducible first | exact HB.out | apply below_alloc | apply pw_below_drewN | apply below_drew1 | refine below_set ?_ GE190.out) | exact HB.out)⟩
                  · rw [if_neg c24] at H
                    exact absurd H (by simp)
                · rw [if_neg c23] at H
                  exact absurd H (by simp)
              · rw [if_neg c22] at H
                exact absurd H (by simp)
            · rw [if_neg c21] at H
              have c21b0 : decide (x38_1 < (l0.length : Int)) = false := decide_eq_false c21
              clear c21
              have H' := Aside0.mk H
              clear H
              go_wp2
              repeat (go_quiet (fail); try go_wp2)
              go_loopg [12] k1 (fun kq v12 w' => ∃ (x12_2 : Int), v12 = .int .i64 x12_2 ∧ Aside0 (bobstaylaw12_LoopUnused.l2 kq a1 a2 x12_2 = some r) ∧ Aside0 (kq ≤ k1) ∧ Aside0 (Below w.heap.size w w'))
              case atStart => exact ⟨(0), (by first | rfl | (simp; done) | (simp [*]; done)), H', ⟨Nat.le_refl _⟩, ⟨by repeat (first | (with_reducible first | exact HB.out | apply below_alloc | apply pw_below_drewN | apply below_drew1) | exact HB.out)⟩⟩
              case round =>
                clear H'
                try clear c1
                try clear p1
                try clear q1
                try clear hx1
                try clear c2
                try clear p2
                try clear c3
                try clear p3
                try clear q3
                try clear hx3
                try clear c4
                try clear c5
                try clear p6
                try clear c9
                try clear c9b0
                try clear c15
                try clear c15b0
                try clear c15b1
                try clear c15b2
                try clear p18
                try clear q18
                try clear hx18
                try clear p19
                try clear q19
                try clear hx19
                try clear c21
                try clear c21b0
                try clear c22
                try clear c22b0
                try clear c23
                try clear c23b0
                try clear c24
                try clear c24b0
                try clear c25
                try clear c25b0
                try clear c25b1
                try clear c26
                try clear c26b0
                try clear c26b1
                try clear c26b2
                try clear c31
                try clear c31b0
                try clear c32
                try clear c33
                try clear c33b0
                try clear p34
                try clear q34
                try clear hx34
                try clear c37
                try clear c38
                try clear c38b0
                try clear c39
                try clear c39b0
                try clear c40
                try clear c40b0
                try clear c40b1
                try clear hcz28_0
                try clear hcz28_1
                try clear hcz28_2
                try clear hcz30_0
                try clear hcz30_1
                try clear hcz30_2
                try clear hcz35_0
                try clear hcz35_1
                try clear hcz35_2
                try clear hcz36_0
                try clear hcz36_1
                try clear hcz36_2
                try clear hcz41_0
                try clear hcz41_1
                try clear hcz41_2
                try clear hcz42_0
                try clear hcz42_1
                try clear hcz42_2
                try clear hcz43_0
                try clear hcz43_1
                try clear hcz43_2
                try clear hcz45_0
                try clear hcz45_1
                try clear hcz45_2
                try clear hfz28_0
                try clear hfz28_1
                try clear hfz28_2
                try clear hfz30_0
                try clear hfz30_1
                try clear hfz30_2
                try clear hfz35_0
                try clear hfz35_1
                try clear hfz35_2
                try clear hfz36_0
                try clear hfz36_1
                try clear hfz36_2
                try clear hfz41_0
                try clear hfz41_1
                try clear hfz41_2
                try clear hfz42_0
                try clear hfz42_1
                try clear hfz42_2
                try clear hfz43_0
                try clear hfz43_1
                try clear hfz43_2
                try clear hfz45_0
                try clear hfz45_1
                try clear hfz45_2
                try clear hx189_0
                try clear hx189_1
                try clear hx189_2
                try clear hx191_0
                try clear hx191_1
                try clear hx191_2
                try clear hx192_0
                try clear hx192_1
                try clear hx192_2
                try clear hx193_0
                try clear hx193_1
                try clear hx193_2
                try clear p1
                try clear p18
                try clear p189
                try clear p19
                try clear p191
                try clear p192
                try clear p193
                try clear p2
                try clear p34
                try clear p6
                try clear q1
                try clear q18
                try clear q189
                try clear q19
                try clear q191
                try clear q192
                try clear q193
                try clear q34
                obtain ⟨x12_2, rfl, HA, HK2, HB⟩ := hrel
                cases gk with
                | zero => exact absurd HA.out (by simp [bobstaylaw12_LoopUnused.l2])
                | succ k2 =>
                  have H := HA.out
                  clear HA
                  simp only [bobstaylaw12_LoopUnused.l2] at H
                  by_cases c46 : x12_2 < (a1.size : Int)
                  · rw [if_pos c46] at H
                    have c46b0 : decide (x12_2 < (a1.size : Int)) = true := decide_eq_true c46
                    clear c46
                    by_cases c47 : 0 ≤ x12_2
                    · rw [if_pos c47] at H
                      have c47b0 : decide (0 ≤ x12_2) = true := decide_eq_true c47
                      clear c47
                      by_cases c49 : (bt a1 x12_2) = 36
                      · rw [if_pos c49] at H
                        have c49b0 : ((bt a1 x12_2) == 36) = true := beq_iff_eq.mpr c49
                        have c49b1 : ((bt a1 x12_2) != 36) = false := bne_eq_false_iff_eq.mpr c49
                        clear c49
                        replace H := Option.bind_eq_some_iff.mp H
                        obtain ⟨t194, A500, H⟩ := H
                        replace H : (some t194) = some r := H
                        have A50 := Aside0.mk A500
                        clear A500
                        obtain rfl := Option.some.inj H
                        have p48 : 0 ≤ (x12_2 : Int) := of_decide_eq_true (by first | (with_reducible assumption) | assumption)
                        have q48 : x12_2 < (a1.size : Int) := of_decide_eq_true (by first | (with_reducible assumption) | assumption)
                        have hx48 := bt_at a1 x12_2
                        replace p48 := eq_true p48
                        replace q48 := eq_true q48
                        go_wp2_with (first | (go_at_call 9; (with_reducible refine (bobstaylaw12_alive.calls  t194 _ A50.out).mono ?_); rintro e w51 ⟨rfl, hb⟩; have n0_ := Aside0.mk (below_step (by repeat (first | (with_reducible first | exact HB.out | apply below_alloc | apply pw_below_drewN | apply below_drew1) | exact HB.out)) hb); clear HB; have HB := n0_; clear n0_; (try clear hb); (try clear hb2); (try clear hk); (try clear hi)))
                        repeat (go_quiet (first | (go_at_call 9; (with_reducible refine (bobstaylaw12_alive.calls  t194 _ A50.out).mono ?_); rintro e w51 ⟨rfl, hb⟩; have n0_ := Aside0.mk (below_step (by repeat (first | (with_reducible first | exact HB.out | apply below_alloc | apply pw_below_drewN | apply below_drew1) | exact HB.out)) hb); clear HB; have HB := n0_; clear n0_; (try clear hb); (try clear hb2); (try clear hk); (try clear hi))); try go_wp2_with (first | (go_at_call 9; (with_reducible refine (bobstaylaw12_alive.calls  t194 _ A50.out).mono ?_); rintro e w51 ⟨rfl, hb⟩; have n0_ := Aside0.mk (below_step (by repeat (first | (with_reducible first | exact HB.out | apply below_alloc | apply pw_below_drewN | apply below_drew1) | exact HB.out)) hb); clear HB; have HB := n0_; clear n0_; (try clear hb); (try clear hb2); (try clear hk); (try clear hi))))
                        go_ret
                        exact ⟨by first | rfl | (simp [errW_none, errW_some] <;> rfl) | (simp [*, errW_none, errW_some] <;> rfl), by repeat (first | (with_reducible first | exact HB.out | apply below_alloc | apply pw_below_drewN | apply below_drew1) | exact HB.out)⟩
                      · rw [if_neg c49] at H
                        have c49b0 : ((bt a1 x12_2) == 36) = false := beq_eq_false_iff_ne.mpr c49
                        have c49b1 : ((bt a1 x12_2) != 36) = true := bne_iff_ne.mpr c49
                        by_cases c53 : (bt a1 x12_2) = 123
                        · rw [if_pos c53] at H
                          have c53b0 : ((bt a1 x12_2) == 123) = true := beq_iff_eq.mpr c53
                          have c53b1 : ((bt a1 x12_2) != 123) = false := bne_eq_false_iff_eq.mpr c53
                          clear c53
                          replace H := Option.bind_eq_some_iff.mp H
                          obtain ⟨t195, A540, H⟩ := H
                          replace H : (some t195) = some r := H
                          have A54 := Aside0.mk A540
                          clear A540
                          obtain rfl := Option.some.inj H
                          have p48 : 0 ≤ (x12_2 : Int) := of_decide_eq_true (by first | (with_reducible assumption) | assumption)
                          have q48 : x12_2 < (a1.size : Int) := of_decide_eq_true (by first | (with_reducible assumption) | assumption)
                          have hx48 := bt_at a1 x12_2
                          replace p48 := eq_true p48
                          replace q48 := eq_true q48
                          have p52 : 0 ≤ (x12_2 : Int) := of_decide_eq_true (by first | (with_reducible assumption) | assumption)
                          have q52 : x12_2 < (a1.size : Int) := of_decide_eq_true (by first | (with_reducible assumption) | assumption)
                          have hx52 := bt_at a1 x12_2
                          replace p52 := eq_true p52
                          replace q52 := eq_true q52
                          go_wp2_with (first | (go_at_call 9; (with_reducible refine (bobstaylaw12_alive.calls  t195 _ A54.out).mono ?_); rintro e w55 ⟨rfl, hb⟩; have n0_ := Aside0.mk (below_step (by repeat (first | (with_reducible first | exact HB.out | apply below_alloc | apply pw_below_drewN | apply below_drew1) | exact HB.out)) hb); clear HB; have HB := n0_; clear n0_; (try clear hb); (try clear hb2); (try clear hk); (try clear hi)))
                          repeat (go_quiet (first | (go_at_call 9; (with_reducible refine (bobstaylaw12_alive.calls  t195 _ A54.out).mono ?_); rintro e w55 ⟨rfl, hb⟩; have n0_ := Aside0.mk (below_step (by repeat (first | (with_reducible first | exact HB.out | apply below_alloc | apply pw_below_drewN | apply below_drew1) | exact HB.out)) hb); clear HB; have HB := n0_; clear n0_; (try clear hb); (try clear hb2); (try clear hk); (try clear hi))); try go_wp2_with (first | (go_at_call 9; (with_reducible refine (bobstaylaw12_alive.calls  t195 _ A54.out).mono ?_); rintro e w55 ⟨rfl, hb⟩; have n0_ := Aside0.mk (below_step (by repeat (first | (with_reducible first | exact HB.out | apply below_alloc | apply pw_below_drewN | apply below_drew1) | exact HB.out)) hb); clear HB; have HB := n0_; clear n0_; (try clear hb); (try clear hb2); (try clear hk); (try clear hi))))
                          go_ret
                          exact ⟨by first | rfl | (simp [errW_none, errW_some] <;> rfl) | (simp [*, errW_none, errW_some] <;> rfl), by repeat (first | (with_reducible first | exact HB.out | apply below_alloc | apply pw_below_drewN | apply below_drew1) | exact HB.out)⟩
                        · rw [if_neg c53] at H
                          have c53b0 : ((bt a1 x12_2) == 123) = false := beq_eq_false_iff_ne.mpr c53
                          have c53b1 : ((bt a1 x12_2) != 123) = true := bne_iff_ne.mpr c53
                          by_cases c57 : (bt a1 x12_2) = 125
                          · rw [if_pos c57] at H
                            have c57b0 : ((bt a1 x12_2) == 125) = true := beq_iff_eq.mpr c57
                            have c57b1 : ((bt a1 x12_2) != 125) = false := bne_eq_false_iff_eq.mpr c57
                            clear c57
                            replace H := Option.bind_eq_some_iff.mp H
                            obtain ⟨t196, A580, H⟩ := H
                            replace H : (some t196) = some r := H
                            have A58 := Aside0.mk A580
                            clear A580
                            obtain rfl := Option.some.inj H
                            have p48 : 0 ≤ (x12_2 : Int) := of_decide_eq_true (by first | (with_reducible assumption) | assumption)
                            have q48 : x12_2 < (a1.size : Int) := of_decide_eq_true (by first | (with_reducible assumption) | assumption)
                            have hx48 := bt_at a1 x12_2
                            replace p48 := eq_true p48
                            replace q48 := eq_true q48
                            have p52 : 0 ≤ (x12_2 : Int) := of_decide_eq_true (by first | (with_reducible assumption) | assumption)
                            have q52 : x12_2 < (a1.size : Int) := of_decide_eq_true (by first | (with_reducible assumption) | assumption)
                            have hx52 := bt_at a1 x12_2
                            replace p52 := eq_true p52
                            replace q52 := eq_true q52
                            have p56 : 0 ≤ (x12_2 : Int) := of_decide_eq_true (by first | (with_reducible assumption) | assumption)
                            have q56 : x12_2 < (a1.size : Int) := of_decide_eq_true (by first | (with_reducible assumption) | assumption)
                            have hx56 := bt_at a1 x12_2
                            replace p56 := eq_true p56
                            replace q56 := eq_true q56
                            go_wp2_with (first | (go_at_call 9; (with_reducible refine (bobstaylaw12_alive.calls  t196 _ A58.out).mono ?_); rintro e w59 ⟨rfl, hb⟩; have n0_ := Aside0.mk (below_step (by repeat (first | (with_reducible first | exact HB.out | apply below_alloc | apply pw_below_drewN | apply below_drew1) | exact HB.out)) hb); clear HB; have HB := n0_; clear n0_; (try clear hb); (try clear hb2); (try clear hk); (try clear hi)))
                            repeat (go_quiet (first | (go_at_call 9; (with_reducible refine (bobstaylaw12_alive.calls  t196 _ A58.out).mono ?_); rintro e w59 ⟨rfl, hb⟩; have n0_ := Aside0.mk (below_step (by repeat (first | (with_reducible first | exact HB.out | apply below_alloc | apply pw_below_drewN | apply below_drew1) | exact HB.out)) hb); clear HB; have HB := n0_; clear n0_; (try clear hb); (try clear hb2); (try clear hk); (try clear hi))); try go_wp2_with (first | (go_at_call 9; (with_reducible refine (bobstaylaw12_alive.calls  t196 _ A58.out).mono ?_); rintro e w59 ⟨rfl, hb⟩; have n0_ := Aside0.mk (below_step (by repeat (first | (with_reducible first | exact HB.out | apply below_alloc | apply pw_below_drewN | apply below_drew1) | exact HB.out)) hb); clear HB; have HB := n0_; clear n0_; (try clear hb); (try clear hb2); (try clear hk); (try clear hi))))
                            go_ret
                            exact ⟨by first | rfl | (simp [errW_none, errW_some] <;> rfl) | (simp [*, errW_none, errW_some] <;> rfl), by repeat (first | (with_reducible first | exact HB.out | apply below_alloc | apply pw_below_drewN | apply below_drew1) | exact HB.out)⟩
                          · rw [if_neg c57] at H
                            have c57b0 : ((bt a1 x12_2) == 125) = false := beq_eq_false_iff_ne.mpr c57
                            have c57b1 : ((bt a1 x12_2) != 125) = true := bne_iff_ne.mpr c57
                            have H' := Aside0.mk H
                            clear H
                            have p48 : 0 ≤ (x12_2 : Int) := of_decide_eq_true (by first | (with_reducible assumption) | assumption)
                            have q48 : x12_2 < (a1.size : Int) := of_decide_eq_true (by first | (with_reducible assumption) | assumption)
                            have hx48 := bt_at a1 x12_2
                            replace p48 := eq_true p48
                            replace q48 := eq_true q48
                            have p52 : 0 ≤ (x12_2 : Int) := of_decide_eq_true (by first | (with_reducible assumption) | assumption)
                            have q52 : x12_2 < (a1.size : Int) := of_decide_eq_true (by first | (with_reducible assumption) | assumption)
                            have hx52 := bt_at a1 x12_2
                            replace p52 := eq_true p52
                            replace q52 := eq_true q52
                            have p56 : 0 ≤ (x12_2 : Int) := of_decide_eq_true (by first | (with_reducible assumption) | assumption)
                            have q56 : x12_2 < (a1.size : Int) := of_decide_eq_true (by first | (with_reducible assumption) | assumption)
                            have hx56 := bt_at a1 x12_2
                            replace p56 := eq_true p56
                            replace q56 := eq_true q56
                            go_wp2
                            repeat (go_quiet (fail); try go_wp2)
                            go_roundg k2
                            case measure => have := HK1.out; have := HK2.out; omega
                            case rel => exact ⟨(wrap64 (x12_2 + 1)), (by first | rfl | (simp; done) | (simp [*]; done)), H', ⟨by have := HK1.out; have := HK2.out; omega⟩, ⟨by repeat (first | (with_reducible first | exact HB.out | apply below_alloc | apply pw_below_drewN | apply below_drew1) | exact HB.out)⟩⟩
                    · rw [if_neg c47] at H
                      exact absurd H (by simp)
                  · rw [if_neg c46] at H
                    have c46b0 : decide (x12_2 < (a1.size : Int)) = false := decide_eq_false c46
                    clear c46
                    have H' := Aside0.mk H
                    clear H
                    go_wp2
                    repeat (go_quiet (fail); try go_wp2)
                    go_loopg [13] k2 (fun kq v13 w' => ∃ (x13_3 : Int), v13 = .int .i64 x13_3 ∧ Aside0 (bobstaylaw12_LoopUnused.l3 kq a1 a2 x13_3 = some r) ∧ Aside0 (kq ≤ k2) ∧ Aside0 (Below w.heap.size w w'))
                    case atStart => exact ⟨(0), (by first | rfl | (simp; done) | (simp [*]; done)), H', ⟨Nat.le_refl _⟩, ⟨by repeat (first | (with_reducible first | exact HB.out | apply below_alloc | apply pw_below_drewN | apply below_drew1) | exact HB.out)⟩⟩
                    case round =>
                      clear H'
                      try clear c1
                      try clear p1
                      try clear q1
                      try clear hx1
                      try clear c2
                      try clear p2
                      try clear c3
                      try clear p3
                      try clear q3
                      try clear hx3
                      try clear c4
                      try clear p4
                      try clear q4
                      try clear hx4
                      try clear c5
                      try clear p5
                      try clear q5
                      try clear hx5
                      try clear p6
                      try clear c9
                      try clear c9b0
                      try clear c15
                      try clear c15b0
                      try clear c15b1
                      try clear c15b2
                      try clear p18
                      try clear q18
                      try clear hx18
                      try clear p19
                      try clear q19
                      try clear hx19
                      try clear c21
                      try clear c21b0
                      try clear c22
                      try clear c22b0
                      try clear c23
                      try clear c23b0
                      try clear c24
                      try clear c24b0
                      try clear c25
                      try clear c25b0
                      try clear c25b1
                      try clear c26
                      try clear c26b0
                      try clear c26b1
                      try clear c26b2
                      try clear c31
                      try clear c31b0
                      try clear c32
                      try clear c33
                      try clear c33b0
                      try clear p34
                      try clear q34
                      try clear hx34
                      try clear c37
                      try clear c38
                      try clear c38b0
                      try clear c39
                      try clear c39b0
                      try clear c40
                      try clear c40b0
                      try clear c40b1
                      try clear c46
                      try clear c46b0
                      try clear c47
                      try clear c47b0
                      try clear p48
                      try clear q48
                      try clear hx48
                      try clear c49
                      try clear c49b0
                      try clear c49b1
                      try clear p52
                      try clear q52
                      try clear hx52
                      try clear c53
                      try clear c53b0
                      try clear c53b1
                      try clear p56
                      try clear q56
                      try clear hx56
                      try clear c57
                      try clear c57b0
                      try clear c57b1
                      try clear hcz28_0
                      try clear hcz28_1
                      try clear hcz28_2
                      try clear hcz30_0
                      try clear hcz30_1
                      try clear hcz30_2
                      try clear hcz35_0
                      try clear hcz35_1
                      try clear hcz35_2
                      try clear hcz36_0
                      try clear hcz36_1
                      try clear hcz36_2
                      try clear hcz41_0
                      try clear hcz41_1
                      try clear hcz41_2
                      try clear hcz42_0
                      try clear hcz42_1
                      try clear hcz42_2
                      try clear hcz43_0
                      try clear hcz43_1
                      try clear hcz43_2
                      try clear hcz45_0
                      try clear hcz45_1
                      try clear hcz45_2
                      try clear hfz28_0
                      try clear hfz28_1
                      try clear hfz28_2
                      try clear hfz30_0
                      try clear hfz30_1
                      try clear hfz30_2
                      try clear hfz35_0
                      try clear hfz35_1
                      try clear hfz35_2
                      try clear hfz36_0
                      try clear hfz36_1
                      try clear hfz36_2
                      try clear hfz41_0
                      try clear hfz41_1
                      try clear hfz41_2
                      try clear hfz42_0
                      try clear hfz42_1
                      try clear hfz42_2
                      try clear hfz43_0
                      try clear hfz43_1
                      try clear hfz43_2
                      try clear hfz45_0
                      try clear hfz45_1
                      try clear hfz45_2
                      try clear hx189_0
                      try clear hx189_1
                      try clear hx189_2
                      try clear hx191_0
                      try clear hx191_1
                      try clear hx191_2
                      try clear hx192_0
                      try clear hx192_1
                      try clear hx192_2
                      try clear hx193_0
                      try clear hx193_1
                      try clear hx193_2
                      try clear p1
                      try clear p18
                      try clear p189
                      try clear p19
                      try clear p191
                      try clear p192
                      try clear p193
                      try clear p2
                      try clear p3
                      try clear p34
                      try clear p48
                      try clear p52
                      try clear p56
                      try clear p6
                      try clear q1
                      try clear q18
                      try clear q189
                      try clear q19
                      try clear q191
                      try clear q192
                      try clear q193
                      try clear q3
                      try clear q34
                      try clear q48
                      try clear q52
                      try clear q56
                      obtain ⟨x13_3, rfl, HA, HK3, HB⟩ := hrel
                      cases gk with
                      | zero => exact absurd HA.out (by simp [bobstaylaw12_LoopUnused.l3])
                      | succ k3 =>
                        have H := HA.out
                        clear HA
                        simp only [bobstaylaw12_LoopUnused.l3] at H
                        by_cases c60 : x13_3 < (a2.size : Int)
                        · rw [if_pos c60] at H
                          have c60b0 : decide (x13_3 < (a2.size : Int)) = true := decide_eq_true c60
                          clear c60
                          by_cases c61 : 0 ≤ x13_3
                          · rw [if_pos c61] at H
                            have c61b0 : decide (0 ≤ x13_3) = true := decide_eq_true c61
                            clear c61
                            by_cases c63 : (bt a2 x13_3) = 36
                            · rw [if_pos c63] at H
                              have c63b0 : ((bt a2 x13_3) == 36) = true := beq_iff_eq.mpr c63
                              have c63b1 : ((bt a2 x13_3) != 36) = false := bne_eq_false_iff_eq.mpr c63
                              clear c63
                              replace H := Option.bind_eq_some_iff.mp H
                              obtain ⟨t197, A640, H⟩ := H
                              replace H : (some t197) = some r := H
                              have A64 := Aside0.mk A640
                              clear A640
                              obtain rfl := Option.some.inj H
                              have p62 : 0 ≤ (x13_3 : Int) := of_decide_eq_true (by first | (with_reducible assumption) | assumption)
                              have q62 : x13_3 < (a2.size : Int) := of_decide_eq_true (by first | (with_reducible assumption) | assumption)
                              have hx62 := bt_at a2 x13_3
                              replace p62 := eq_true p62
                              replace q62 := eq_true q62
                              go_wp2_with (first | (go_at_call 9; (with_reducible refine (bobstaylaw12_alive.calls  t197 _ A64.out).mono ?_); rintro e w65 ⟨rfl, hb⟩; have n0_ := Aside0.mk (below_step (by repeat (first | (with_reducible first | exact HB.out | apply below_alloc | apply pw_below_drewN | apply below_drew1) | exact HB.out)) hb); clear HB; have HB := n0_; clear n0_; (try clear hb); (try clear hb2); (try clear hk); (try clear hi)))
                              repeat (go_quiet (first | (go_at_call 9; (with_reducible refine (bobstaylaw12_alive.calls  t197 _ A64.out).mono ?_); rintro e w65 ⟨rfl, hb⟩; have n0_ := Aside0.mk (below_step (by repeat (first | (with_reducible first | exact HB.out | apply below_alloc | apply pw_below_drewN | apply below_drew1) | exact HB.out)) hb); clear HB; have HB := n0_; clear n0_; (try clear hb); (try clear hb2); (try clear hk); (try clear hi))); try go_wp2_with (first | (go_at_call 9; (with_reducible refine (bobstaylaw12_alive.calls  t197 _ A64.out).mono ?_); rintro e w65 ⟨rfl, hb⟩; have n0_ := Aside0.mk (below_step (by repeat (first | (with_reducible first | exact HB.out | apply below_alloc | apply pw_below_drewN | apply below_drew1) | exact HB.out)) hb); clear HB; have HB := n0_; clear n0_; (try clear hb); (try clear hb2); (try clear hk); (try clear hi))))
                              go_ret
                              exact ⟨by first | rfl | (simp [errW_none, errW_some] <;> rfl) | (simp [*, errW_none, errW_some] <;> rfl), by repeat (first | (with_reducible first | exact HB.out | apply below_alloc | apply pw_below_drewN | apply below_drew1) | exact HB.out)⟩
                            · rw [if_neg c63] at H
                              have c63b0 : ((bt a2 x13_3) == 36) = false := beq_eq_false_iff_ne.mpr c63
                              have c63b1 : ((bt a2 x13_3) != 36) = true := bne_iff_ne.mpr c63
                              have H' := Aside0.mk H
                              clear H
                              have p62 : 0 ≤ (x13_3 : Int) := of_decide_eq_true (by first | (with_reducible assumption) | assumption)
                              have q62 : x13_3 < (a2.size : Int) := of_decide_eq_true (by first | (with_reducible assumption) | assumption)
                              have hx62 := bt_at a2 x13_3
                              replace p62 := eq_true p62
                              replace q62 := eq_true q62
                              go_wp2
                              repeat (go_quiet (fail); try go_wp2)
                              go_roundg k3
                              case measure => have := HK1.out; have := HK2.out; have := HK3.out; omega
                              case rel => exact ⟨(wrap64 (x13_3 + 1)), (by first | rfl | (simp; done) | (simp [*]; done)), H', ⟨by have := HK1.out; have := HK2.out; have := HK3.out; omega⟩, ⟨by repeat (first | (with_reducible first | exact HB.out | apply below_alloc | apply pw_below_drewN | apply below_drew1) | exact HB.out)⟩⟩
                          · rw [if_neg c61] at H
                            exact absurd H (by simp)
                        · rw [if_neg c60] at H
                          have c60b0 : decide (x13_3 < (a2.size : Int)) = false := decide_eq_false c60
                          clear c60
                          by_cases c66 : 3 + a1.size ≤ 9223372036854775807
                          · rw [if_pos c66] at H
                            have c66b0 := eq_true c66
                            have c66b1 : decide (3 + a1.size ≤ 9223372036854775807) = true := decide_eq_true c66
                            try have c66b2 : (9223372036854775807 < 3 + a1.size) = False := eq_false (Nat.not_lt.2 c66)
                            by_cases c67 : ((⟨#[97, 36, 123]⟩ : ByteArray) ++ a1).size + 2 ≤ 9223372036854775807
                            · rw [if_pos c67] at H
                              have c67b0 := eq_true c67
                              have c67b1 : decide (((⟨#[97, 36, 123]⟩ : ByteArray) ++ a1).size + 2 ≤ 9223372036854775807) = true := decide_eq_true c67
                              try have c67b2 : (9223372036854775807 < ((⟨#[97, 36, 123]⟩ : ByteArray) ++ a1).size + 2) = False := eq_false (Nat.not_lt.2 c67)
                              try have c67b9 : (9223372036854775807 < 3 + (a1).size + 2) = False := eq_false (by have hz := c67; simp only [ByteArray.size_append] at hz; have e0_ : (⟨#[97, 36, 123]⟩ : ByteArray).size = 3 := rfl; omega)
                              obtain ⟨y198, hy198⟩ : ∃ y_ : List (S34), y_ = (([(⟨((⟨#[97, 36, 123]⟩ : ByteArray) ++ a1) ++ (⟨#[125, 98]⟩ : ByteArray), 0, false⟩ : S34)] : List (S34))) := ⟨_, rfl⟩
                              replace H : ((loop_Bind.f k3 y198 a1 a2).bind fun t201 => (if (t201.length : Int) = 1 then (if 0 < (t201.length : Int) then (if 1 + a2.size ≤ 9223372036854775807 then (if ((⟨#[97]⟩ : ByteArray) ++ a2).size + 1 ≤ 9223372036854775807 then (if ((rd_T34 t201 0).f0).toList = (((⟨#[97]⟩ : ByteArray) ++ a2) ++ (⟨#[98]⟩ : ByteArray)).toList then ((bobstaylaw12_alive.f).bind fun t205 => (some t205)) else (some false)) else (none)) else (none)) else (none)) else (some false))) = some r := by first | (rw [hy198]; with_reducible exact H) | (have H2_ := (Option.bind_some _ _).symm.trans H; rw [hy198]; with_reducible exact H2_) | (have H2_ := (Option.bind_some _ _).symm.trans H; with_reducible exact H2_) | with_reducible exact H | (rw [hy198]; exact H) | exact H
                              have Ny198 := Aside0.mk hy198
                              clear hy198
                              replace H := Option.bind_eq_some_iff.mp H
                              obtain ⟨t201, A680, H⟩ := H
                              replace H : (if (t201.length : Int) = 1 then (if 0 < (t201.length : Int) then (if 1 + a2.size ≤ 9223372036854775807 then (if ((⟨#[97]⟩ : ByteArray) ++ a2).size + 1 ≤ 9223372036854775807 then (if ((rd_T34 t201 0).f0).toList = (((⟨#[97]⟩ : ByteArray) ++ a2) ++ (⟨#[98]⟩ : ByteArray)).toList then ((bobstaylaw12_alive.f).bind fun t205 => (some t205)) else (some false)) else (none)) else (none)) else (none)) else (some false)) = some r := H
                              have A68 := Aside0.mk A680
                              clear A680
                              by_cases c69 : (t201.length : Int) = 1
                              · rw [if_pos c69] at H
                                have c69b0 : ((t201.length : Int) == 1) = true := beq_iff_eq.mpr c69
                                have c69b1 : ((t201.length : Int) != 1) = false := bne_eq_false_iff_eq.mpr c69
                                clear c69
                                by_cases c70 : 0 < (t201.length : Int)
                                · rw [if_pos c70] at H
                                  have c70b0 : decide (0 < (t201.length : Int)) = true := decide_eq_true c70
                                  have c70b1 : decide (0 < t201.length) = true := decide_eq_true (by omega)
                                  clear c70
                                  by_cases c71 : 1 + a2.size ≤ 9223372036854775807
                                  · rw [if_pos c71] at H
                                    have c71b0 := eq_true c71
                                    have c71b1 : decide (1 + a2.size ≤ 9223372036854775807) = true := decide_eq_true c71
                                    try have c71b2 : (9223372036854775807 < 1 + a2.size) = False := eq_false (Nat.not_lt.2 c71)
                                    by_cases c72 : ((⟨#[97]⟩ : ByteArray) ++ a2).size + 1 ≤ 9223372036854775807
                                    · rw [if_pos c72] at H
                                      have c72b0 := eq_true c72
                                      have c72b1 : decide (((⟨#[97]⟩ : ByteArray) ++ a2).size + 1 ≤ 9223372036854775807) = true := decide_eq_true c72
                                      try have c72b2 : (9223372036854775807 < ((⟨#[97]⟩ : ByteArray) ++ a2).size + 1) = False := eq_false (Nat.not_lt.2 c72)
                                      try have c72b9 : (9223372036854775807 < 1 + (a2).size + 1) = False := eq_false (by have hz := c72; simp only [ByteArray.size_append] at hz; have e0_ : (⟨#[97]⟩ : ByteArray).size = 1 := rfl; omega)
                                      by_cases c73 : ((rd_T34 t201 0).f0).toList = (((⟨#[97]⟩ : ByteArray) ++ a2) ++ (⟨#[98]⟩ : ByteArray)).toList
                                      · rw [if_pos c73] at H
                                        have c73b0 : (((rd_T34 t201 0).f0).toList == (((⟨#[97]⟩ : ByteArray) ++ a2) ++ (⟨#[98]⟩ : ByteArray)).toList) = true := beq_iff_eq.mpr c73
                                        have c73b1 : (((rd_T34 t201 0).f0).toList != (((⟨#[97]⟩ : ByteArray) ++ a2) ++ (⟨#[98]⟩ : ByteArray)).toList) = false := bne_eq_false_iff_eq.mpr c73
                                        clear c73
                                        replace H := Option.bind_eq_some_iff.mp H
                                        obtain ⟨t205, A740, H⟩ := H
                                        replace H : (some t205) = some r := H
                                        have A74 := Aside0.mk A740
                                        clear A740
                                        obtain rfl := Option.some.inj H
                                        go_wp2_with (first | ((with_reducible refine gate_dst (N := 126) rfl ?_); (try (refine gate_guard (by rfl) ?_; dsimp only)); refine Kd.R_lit k34 _ 34 ?hg (N := 126) ?hd (xs := ([(⟨((⟨#[97, 36, 123]⟩ : ByteArray) ++ a1) ++ (⟨#[125, 98]⟩ : ByteArray), 0, false⟩ : S34)] : List (S34))) (inner := [.string (((⟨#[97, 36, 123]⟩ : ByteArray) ++ a1) ++ (⟨#[125, 98]⟩ : ByteArray)), .int .i64 0, .bool false]) (ok := fun _ => True) (okp := fun _ => True) ?hr ?hp (fun _ hk => hk) trivial (Below.refl _ _) (Nat.le_refl _) (by simp) ?_; (case hd => rfl); (case hg => rfl); (case hr => first | (go_simp; done) | (go_simp; rfl)); (case hp => exact (Reps.c3 (show Kd.M k34 _ _ _ (⟨((⟨#[97, 36, 123]⟩ : ByteArray) ++ a1) ++ (⟨#[125, 98]⟩ : ByteArray), 0, false⟩ : S34) [.string (((⟨#[97, 36, 123]⟩ : ByteArray) ++ a1) ++ (⟨#[125, 98]⟩ : ByteArray)), .int .i64 0, .bool false] from (k34_mkM _ _ _ (⟨((⟨#[97, 36, 123]⟩ : ByteArray) ++ a1) ++ (⟨#[125, 98]⟩ : ByteArray), 0, false⟩ : S34) )) (Reps.none _ _))); intro v199 w75 ho76 hb hg_ hnew_; clear hg_ hnew_; (first | rw [← Ny198.out] at ho76 | (simp only [Int.reduceToNat] at ho76; rw [← Ny198.out] at ho76)); have n0_ := Aside0.mk (Kd.R_lower ho76 (below_size (by repeat (first | (with_reducible first | exact HB.out | apply below_alloc | apply pw_below_drewN | apply below_drew1) | exact HB.out)))); have n1_ := Aside0.mk (below_step (by repeat (first | (with_reducible first | exact HB.out | apply below_alloc | apply pw_below_drewN | apply below_drew1) | exact HB.out)) hb); clear HB; have HO200 := n0_; have HB := n1_; clear n0_ n1_; clear hb ho76; obtain ⟨Ao77, co77, eo77⟩ := Kd.R_slice HO200.out; subst eo77) | (go_at_call 12; (with_reducible refine (loop_Bind.calls k3 _ _ y198 a1 a2 t201 _ ?side1 ?side2 A68.out).mono ?_); (case side1 => repeat (first | exact (Kd.R_reads' HO200.out).2.2 | (with_reducible refine Kd.C_alloc ?_ _) | (with_reducible refine Kd.C_drewN ?_ _) | (with_reducible refine Kd.C_drew ?_))); (case side2 => exact (Kd.R_reads' HO200.out).2.1); rintro e w78 ⟨v202, rfl, ho0, hb⟩; have n0_ := Aside0.mk (Kd.R_elder' (by (with_reducible repeat (first | apply Kd.R_alloc | apply Kd.R_drewN | apply Kd.R_drew)); exact HO200.out) (Kd.R_base ho0) hb); have n1_ := Aside0.mk (Kd.R_lower (Kd.R_new' ho0 (Kd.R_lt (by (with_reducible repeat (first | apply Kd.R_alloc | apply Kd.R_drewN | apply Kd.R_drew)); exact HO200.out))) (below_size (by repeat (first | (with_reducible first | exact HB.out | apply below_alloc | apply pw_below_drewN | apply below_drew1) | exact HB.out)))); have n2_ := Aside0.mk (below_step (by repeat (first | (with_reducible first | exact HB.out | apply below_alloc | apply pw_below_drewN | apply below_drew1) | exact HB.out)) hb); clear HO200; clear HB; have HO200 := n0_; have HO203 := n1_; have HB := n2_; clear n0_ n1_ n2_; (try clear hb); (try clear hb2); (try clear hk); (try clear hi); (try clear ho0); obtain ⟨Ao79, co79, eo79⟩ := Kd.R_slice HO203.out; subst eo79; have p204 : 0 ≤ (0 : Int) := (by omega); have q204 : 0 < (t201.length : Int) := of_decide_eq_true (by first | (with_reducible assumption) | assumption); obtain ⟨ad204, e204, hx204_0, hx204_1, hx204_2⟩ := at_T34 (Kd.R_reads' HO203.out).2.2 0 p204 q204; cases e204; have qi204 : (0 < t201.length) = True := eq_true (by omega); (try rw [show ((0 : Int)).toNat = 0 from rfl] at hx204_0); (try rw [show 0 * 3 = 0 from rfl] at hx204_0); (try rw [Addr.add_zero'] at hx204_0); (try rw [show ((0 : Int)).toNat = 0 from rfl] at hx204_1); (try rw [show 0 * 3 = 0 from rfl] at hx204_1); (try rw [Addr.add_zero'] at hx204_1); (try rw [show ((0 : Int)).toNat = 0 from rfl] at hx204_2); (try rw [show 0 * 3 = 0 from rfl] at hx204_2); (try rw [Addr.add_zero'] at hx204_2); replace p204 := eq_true p204; replace q204 := eq_true q204) | (go_at_call 9; (with_reducible refine (bobstaylaw12_alive.calls  t205 _ A74.out).mono ?_); rintro e w80 ⟨rfl, hb⟩; have n0_ := Aside0.mk (Kd.R_below (by (with_reducible repeat (first | apply Kd.R_alloc | apply Kd.R_drewN | apply Kd.R_drew)); exact HO200.out) hb); have n1_ := Aside0.mk (Kd.R_below (by (with_reducible repeat (first | apply Kd.R_alloc | apply Kd.R_drewN | apply Kd.R_drew)); exact HO203.out) hb); have n2_ := Aside0.mk (below_step (by repeat (first | (with_reducible first | exact HB.out | apply below_alloc | apply pw_below_drewN | apply below_drew1) | exact HB.out)) hb); clear HO200; clear HO203; clear HB; have HO200 := n0_; have HO203 := n1_; have HB := n2_; clear n0_ n1_ n2_; (try clear hb); (try clear hb2); (try clear hk); (try clear hi)))
                                        repeat (go_quiet (first | ((with_reducible refine gate_dst (N := 126) rfl ?_); (try (refine gate_guard (by rfl) ?_; dsimp only)); refine Kd.R_lit k34 _ 34 ?hg (N := 126) ?hd (xs := ([(⟨((⟨#[97, 36, 123]⟩ : ByteArray) ++ a1) ++ (⟨#[125, 98]⟩ : ByteArray), 0, false⟩ : S34)] : List (S34))) (inner := [.string (((⟨#[97, 36, 123]⟩ : ByteArray) ++ a1) ++ (⟨#[125, 98]⟩ : ByteArray)), .int .i64 0, .bool false]) (ok := fun _ => True) (okp := fun _ => True) ?hr ?hp (fun _ hk => hk) trivial (Below.refl _ _) (Nat.le_refl _) (by simp) ?_; (case hd => rfl); (case hg => rfl); (case hr => first | (go_simp; done) | (go_simp; rfl)); (case hp => exact (Reps.c3 (show Kd.M k34 _ _ _ (⟨((⟨#[97, 36, 123]⟩ : ByteArray) ++ a1) ++ (⟨#[125, 98]⟩ : ByteArray), 0, false⟩ : S34) [.string (((⟨#[97, 36, 123]⟩ : ByteArray) ++ a1) ++ (⟨#[125, 98]⟩ : ByteArray)), .int .i64 0, .bool false] from (k34_mkM _ _ _ (⟨((⟨#[97, 36, 123]⟩ : ByteArray) ++ a1) ++ (⟨#[125, 98]⟩ : ByteArray), 0, false⟩ : S34) )) (Reps.none _ _))); intro v199 w75 ho76 hb hg_ hnew_; clear hg_ hnew_; (first | rw [← Ny198.out] at ho76 | (simp only [Int.reduceToNat] at ho76; rw [← Ny198.out] at ho76)); have n0_ := Aside0.mk (Kd.R_lower ho76 (below_size (by repeat (first | (with_reducible first | exact HB.out | apply below_alloc | apply pw_below_drewN | apply below_drew1) | exact HB.out)))); have n1_ := Aside0.mk (below_step (by repeat (first | (with_reducible first | exact HB.out | apply below_alloc | apply pw_below_drewN | apply below_drew1) | exact HB.out)) hb); clear HB; have HO200 := n0_; have HB := n1_; clear n0_ n1_; clear hb ho76; obtain ⟨Ao77, co77, eo77⟩ := Kd.R_slice HO200.out; subst eo77) | (go_at_call 12; (with_reducible refine (loop_Bind.calls k3 _ _ y198 a1 a2 t201 _ ?side1 ?side2 A68.out).mono ?_); (case side1 => repeat (first | exact (Kd.R_reads' HO200.out).2.2 | (with_reducible refine Kd.C_alloc ?_ _) | (with_reducible refine Kd.C_drewN ?_ _) | (with_reducible refine Kd.C_drew ?_))); (case side2 => exact (Kd.R_reads' HO200.out).2.1); rintro e w78 ⟨v202, rfl, ho0, hb⟩; have n0_ := Aside0.mk (Kd.R_elder' (by (with_reducible repeat (first | apply Kd.R_alloc | apply Kd.R_drewN | apply Kd.R_drew)); exact HO200.out) (Kd.R_base ho0) hb); have n1_ := Aside0.mk (Kd.R_lower (Kd.R_new' ho0 (Kd.R_lt (by (with_reducible repeat (first | apply Kd.R_alloc | apply Kd.R_drewN | apply Kd.R_drew)); exact HO200.out))) (below_size (by repeat (first | (with_reducible first | exact HB.out | apply below_alloc | apply pw_below_drewN | apply below_drew1) | exact HB.out)))); have n2_ := Aside0.mk (below_step (by repeat (first | (with_reducible first | exact HB.out | apply below_alloc | apply pw_below_drewN | apply below_drew1) | exact HB.out)) hb); clear HO200; clear HB; have HO200 := n0_; have HO203 := n1_; have HB := n2_; clear n0_ n1_ n2_; (try clear hb); (try clear hb2); (try clear hk); (try clear hi); (try clear ho0); obtain ⟨Ao79, co79, eo79⟩ := Kd.R_slice HO203.out; subst eo79; have p204 : 0 ≤ (0 : Int) := (by omega); have q204 : 0 < (t201.length : Int) := of_decide_eq_true (by first | (with_reducible assumption) | assumption); obtain ⟨ad204, e204, hx204_0, hx204_1, hx204_2⟩ := at_T34 (Kd.R_reads' HO203.out).2.2 0 p204 q204; cases e204; have qi204 : (0 < t201.length) = True := eq_true (by omega); (try rw [show ((0 : Int)).toNat = 0 from rfl] at hx204_0); (try rw [show 0 * 3 = 0 from rfl] at hx204_0); (try rw [Addr.add_zero'] at hx204_0); (try rw [show ((0 : Int)).toNat = 0 from rfl] at hx204_1); (try rw [show 0 * 3 = 0 from rfl] at hx204_1); (try rw [Addr.add_zero'] at hx204_1); (try rw [show ((0 : Int)).toNat = 0 from rfl] at hx204_2); (try rw [show 0 * 3 = 0 from rfl] at hx204_2); (try rw [Addr.add_zero'] at hx204_2); replace p204 := eq_true p204; replace q204 := eq_true q204) | (go_at_call 9; (with_reducible refine (bobstaylaw12_alive.calls  t205 _ A74.out).mono ?_); rintro e w80 ⟨rfl, hb⟩; have n0_ := Aside0.mk (Kd.R_below (by (with_reducible repeat (first | apply Kd.R_alloc | apply Kd.R_drewN | apply Kd.R_drew)); exact HO200.out) hb); have n1_ := Aside0.mk (Kd.R_below (by (with_reducible repeat (first | apply Kd.R_alloc | apply Kd.R_drewN | apply Kd.R_drew)); exact HO203.out) hb); have n2_ := Aside0.mk (below_step (by repeat (first | (with_reducible first | exact HB.out | apply below_alloc | apply pw_below_drewN | apply below_drew1) | exact HB.out)) hb); clear HO200; clear HO203; clear HB; have HO200 := n0_; have HO203 := n1_; have HB := n2_; clear n0_ n1_ n2_; (try clear hb); (try clear hb2); (try clear hk); (try clear hi))); try go_wp2_with (first | ((with_reducible refine gate_dst (N := 126) rfl ?_); (try (refine gate_guard (by rfl) ?_; dsimp only)); refine Kd.R_lit k34 _ 34 ?hg (N := 126) ?hd (xs := ([(⟨((⟨#[97, 36, 123]⟩ : ByteArray) ++ a1) ++ (⟨#[125, 98]⟩ : ByteArray), 0, false⟩ : S34)] : List (S34))) (inner := [.string (((⟨#[97, 36, 123]⟩ : ByteArray) ++ a1) ++ (⟨#[125, 98]⟩ : ByteArray)), .int .i64 0, .bool false]) (ok := fun _ => True) (okp := fun _ => True) ?hr ?hp (fun _ hk => hk) trivial (Below.refl _ _) (Nat.le_refl _) (by simp) ?_; (case hd => rfl); (case hg => rfl); (case hr => first | (go_simp; done) | (go_simp; rfl)); (case hp => exact (Reps.c3 (show Kd.M k34 _ _ _ (⟨((⟨#[97, 36, 123]⟩ : ByteArray) ++ a1) ++ (⟨#[125, 98]⟩ : ByteArray), 0, false⟩ : S34) [.string (((⟨#[97, 36, 123]⟩ : ByteArray) ++ a1) ++ (⟨#[125, 98]⟩ : ByteArray)), .int .i64 0, .bool false] from (k34_mkM _ _ _ (⟨((⟨#[97, 36, 123]⟩ : ByteArray) ++ a1) ++ (⟨#[125, 98]⟩ : ByteArray), 0, false⟩ : S34) )) (Reps.none _ _))); intro v199 w75 ho76 hb hg_ hnew_; clear hg_ hnew_; (first | rw [← Ny198.out] at ho76 | (simp only [Int.reduceToNat] at ho76; rw [← Ny198.out] at ho76)); have n0_ := Aside0.mk (Kd.R_lower ho76 (below_size (by repeat (first | (with_reducible first | exact HB.out | apply below_alloc | apply pw_below_drewN | apply below_drew1) | exact HB.out)))); have n1_ := Aside0.mk (below_step (by repeat (first | (with_reducible first | exact HB.out | apply below_alloc | apply pw_below_drewN | apply below_drew1) | exact HB.out)) hb); clear HB; have HO200 := n0_; have HB := n1_; clear n0_ n1_; clear hb ho76; obtain ⟨Ao77, co77, eo77⟩ := Kd.R_slice HO200.out; subst eo77) | (go_at_call 12; (with_reducible refine (loop_Bind.calls k3 _ _ y198 a1 a2 t201 _ ?side1 ?side2 A68.out).mono ?_); (case side1 => repeat (first | exact (Kd.R_reads' HO200.out).2.2 | (with_reducible refine Kd.C_alloc ?_ _) | (with_reducible refine Kd.C_drewN ?_ _) | (with_reducible refine Kd.C_drew ?_))); (case side2 => exact (Kd.R_reads' HO200.out).2.1); rintro e w78 ⟨v202, rfl, ho0, hb⟩; have n0_ := Aside0.mk (Kd.R_elder' (by (with_reducible repeat (first | apply Kd.R_alloc | apply Kd.R_drewN | apply Kd.R_drew)); exact HO200.out) (Kd.R_base ho0) hb); have n1_ := Aside0.mk (Kd.R_lower (Kd.R_new' ho0 (Kd.R_lt (by (with_reducible repeat (first | apply Kd.R_alloc | apply Kd.R_drewN | apply Kd.R_drew)); exact HO200.out))) (below_size (by repeat (first | (with_reducible first | exact HB.out | apply below_alloc | apply pw_below_drewN | apply below_drew1) | exact HB.out)))); have n2_ := Aside0.mk (below_step (by repeat (first | (with_reducible first | exact HB.out | apply below_alloc | apply pw_below_drewN | apply below_drew1) | exact HB.out)) hb); clear HO200; clear HB; have HO200 := n0_; have HO203 := n1_; have HB := n2_; clear n0_ n1_ n2_; (try clear hb); (try clear hb2); (try clear hk); (try clear hi); (try clear ho0); obtain ⟨Ao79, co79, eo79⟩ := Kd.R_slice HO203.out; subst eo79; have p204 : 0 ≤ (0 : Int) := (by omega); have q204 : 0 < (t201.length : Int) := of_decide_eq_true (by first | (with_reducible assumption) | assumption); obtain ⟨ad204, e204, hx204_0, hx204_1, hx204_2⟩ := at_T34 (Kd.R_reads' HO203.out).2.2 0 p204 q204; cases e204; have qi204 : (0 < t201.length) = True := eq_true (by omega); (try rw [show ((0 : Int)).toNat = 0 from rfl] at hx204_0); (try rw [show 0 * 3 = 0 from rfl] at hx204_0); (try rw [Addr.add_zero'] at hx204_0); (try rw [show ((0 : Int)).toNat = 0 from rfl] at hx204_1); (try rw [show 0 * 3 = 0 from rfl] at hx204_1); (try rw [Addr.add_zero'] at hx204_1); (try rw [show ((0 : Int)).toNat = 0 from rfl] at hx204_2); (try rw [show 0 * 3 = 0 from rfl] at hx204_2); (try rw [Addr.add_zero'] at hx204_2); replace p204 := eq_true p204; replace q204 := eq_true q204) | (go_at_call 9; (with_reducible refine (bobstaylaw12_alive.calls  t205 _ A74.out).mono ?_); rintro e w80 ⟨rfl, hb⟩; have n0_ := Aside0.mk (Kd.R_below (by (with_reducible repeat (first | apply Kd.R_alloc | apply Kd.R_drewN | apply Kd.R_drew)); exact HO200.out) hb); have n1_ := Aside0.mk (Kd.R_below (by (with_reducible repeat (first | apply Kd.R_alloc | apply Kd.R_drewN | apply Kd.R_drew)); exact HO203.out) hb); have n2_ := Aside0.mk (below_step (by repeat (first | (with_reducible first | exact HB.out | apply below_alloc | apply pw_below_drewN | apply below_drew1) | exact HB.out)) hb); clear HO200; clear HO203; clear HB; have HO200 := n0_; have HO203 := n1_; have HB := n2_; clear n0_ n1_ n2_; (try clear hb); (try clear hb2); (try clear hk); (try clear hi))))
                                        go_ret
                                        exact ⟨by first | rfl | (simp [errW_none, errW_some] <;> rfl) | (simp [*, errW_none, errW_some] <;> rfl), by repeat (first | (with_reducible first | exact HB.out | apply below_alloc | apply pw_below_drewN | apply below_drew1) | exact HB.out)⟩
                                      · rw [if_neg c73] at H
                                        have c73b0 : (((rd_T34 t201 0).f0).toList == (((⟨#[97]⟩ : ByteArray) ++ a2) ++ (⟨#[98]⟩ : ByteArray)).toList) = false := beq_eq_false_iff_ne.mpr c73
                                        have c73b1 : (((rd_T34 t201 0).f0).toList != (((⟨#[97]⟩ : ByteArray) ++ a2) ++ (⟨#[98]⟩ : ByteArray)).toList) = true := bne_iff_ne.mpr c73
                                        obtain rfl := Option.some.inj H
                                        go_wp2_with (first | ((with_reducible refine gate_dst (N := 126) rfl ?_); (try (refine gate_guard (by rfl) ?_; dsimp only)); refine Kd.R_lit k34 _ 34 ?hg (N := 126) ?hd (xs := ([(⟨((⟨#[97, 36, 123]⟩ : ByteArray) ++ a1) ++ (⟨#[125, 98]⟩ : ByteArray), 0, false⟩ : S34)] : List (S34))) (inner := [.string (((⟨#[97, 36, 123]⟩ : ByteArray) ++ a1) ++ (⟨#[125, 98]⟩ : ByteArray)), .int .i64 0, .bool false]) (ok := fun _ => True) (okp := fun _ => True) ?hr ?hp (fun _ hk => hk) trivial (Below.refl _ _) (Nat.le_refl _) (by simp) ?_; (case hd => rfl); (case hg => rfl); (case hr => first | (go_simp; done) | (go_simp; rfl)); (case hp => exact (Reps.c3 (show Kd.M k34 _ _ _ (⟨((⟨#[97, 36, 123]⟩ : ByteArray) ++ a1) ++ (⟨#[125, 98]⟩ : ByteArray), 0, false⟩ : S34) [.string (((⟨#[97, 36, 123]⟩ : ByteArray) ++ a1) ++ (⟨#[125, 98]⟩ : ByteArray)), .int .i64 0, .bool false] from (k34_mkM _ _ _ (⟨((⟨#[97, 36, 123]⟩ : ByteArray) ++ a1) ++ (⟨#[125, 98]⟩ : ByteArray), 0, false⟩ : S34) )) (Reps.none _ _))); intro v199 w81 ho82 hb hg_ hnew_; clear hg_ hnew_; (first | rw [← Ny198.out] at ho82 | (simp only [Int.reduceToNat] at ho82; rw [← Ny198.out] at ho82)); have n0_ := Aside0.mk (Kd.R_lower ho82 (below_size (by repeat (first | (with_reducible first | exact HB.out | apply below_alloc | apply pw_below_drewN | apply below_drew1) | exact HB.out)))); have n1_ := Aside0.mk (below_step (by repeat (first | (with_reducible first | exact HB.out | apply below_alloc | apply pw_below_drewN | apply below_drew1) | exact HB.out)) hb); clear HB; have HO200 := n0_; have HB := n1_; clear n0_ n1_; clear hb ho82; obtain ⟨Ao83, co83, eo83⟩ := Kd.R_slice HO200.out; subst eo83) | (go_at_call 12; (with_reducible refine (loop_Bind.calls k3 _ _ y198 a1 a2 t201 _ ?side1 ?side2 A68.out).mono ?_); (case side1 => repeat (first | exact (Kd.R_reads' HO200.out).2.2 | (with_reducible refine Kd.C_alloc ?_ _) | (with_reducible refine Kd.C_drewN ?_ _) | (with_reducible refine Kd.C_drew ?_))); (case side2 => exact (Kd.R_reads' HO200.out).2.1); rintro e w84 ⟨v202, rfl, ho0, hb⟩; have n0_ := Aside0.mk (Kd.R_elder' (by (with_reducible repeat (first | apply Kd.R_alloc | apply Kd.R_drewN | apply Kd.R_drew)); exact HO200.out) (Kd.R_base ho0) hb); have n1_ := Aside0.mk (Kd.R_lower (Kd.R_new' ho0 (Kd.R_lt (by (with_reducible repeat (first | apply Kd.R_alloc | apply Kd.R_drewN | apply Kd.R_drew)); exact HO200.out))) (below_size (by repeat (first | (with_reducible first | exact HB.out | apply below_alloc | apply pw_below_drewN | apply below_drew1) | exact HB.out)))); have n2_ := Aside0.mk (below_step (by repeat (first | (with_reducible first | exact HB.out | apply below_alloc | apply pw_below_drewN | apply below_drew1) | exact HB.out)) hb); clear HO200; clear HB; have HO200 := n0_; have HO203 := n1_; have HB := n2_; clear n0_ n1_ n2_; (try clear hb); (try clear hb2); (try clear hk); (try clear hi); (try clear ho0); obtain ⟨Ao85, co85, eo85⟩ := Kd.R_slice HO203.out; subst eo85; have p204 : 0 ≤ (0 : Int) := (by omega); have q204 : 0 < (t201.length : Int) := of_decide_eq_true (by first | (with_reducible assumption) | assumption); obtain ⟨ad204, e204, hx204_0, hx204_1, hx204_2⟩ := at_T34 (Kd.R_reads' HO203.out).2.2 0 p204 q204; cases e204; have qi204 : (0 < t201.length) = True := eq_true (by omega); (try rw [show ((0 : Int)).toNat = 0 from rfl] at hx204_0); (try rw [show 0 * 3 = 0 from rfl] at hx204_0); (try rw [Addr.add_zero'] at hx204_0); (try rw [show ((0 : Int)).toNat = 0 from rfl] at hx204_1); (try rw [show 0 * 3 = 0 from rfl] at hx204_1); (try rw [Addr.add_zero'] at hx204_1); (try rw [show ((0 : Int)).toNat = 0 from rfl] at hx204_2); (try rw [show 0 * 3 = 0 from rfl] at hx204_2); (try rw [Addr.add_zero'] at hx204_2); replace p204 := eq_true p204; replace q204 := eq_true q204))
                                        repeat (go_quiet (first | ((with_reducible refine gate_dst (N := 126) rfl ?_); (try (refine gate_guard (by rfl) ?_; dsimp only)); refine Kd.R_lit k34 _ 34 ?hg (N := 126) ?hd (xs := ([(⟨((⟨#[97, 36, 123]⟩ : ByteArray) ++ a1) ++ (⟨#[125, 98]⟩ : ByteArray), 0, false⟩ : S34)] : List (S34))) (inner := [.string (((⟨#[97, 36, 123]⟩ : ByteArray) ++ a1) ++ (⟨#[125, 98]⟩ : ByteArray)), .int .i64 0, .bool false]) (ok := fun _ => True) (okp := fun _ => True) ?hr ?hp (fun _ hk => hk) trivial (Below.refl _ _) (Nat.le_refl _) (by simp) ?_; (case hd => rfl); (case hg => rfl); (case hr => first | (go_simp; done) | (go_simp; rfl)); (case hp => exact (Reps.c3 (show Kd.M k34 _ _ _ (⟨((⟨#[97, 36, 123]⟩ : ByteArray) ++ a1) ++ (⟨#[125, 98]⟩ : ByteArray), 0, false⟩ : S34) [.string (((⟨#[97, 36, 123]⟩ : ByteArray) ++ a1) ++ (⟨#[125, 98]⟩ : ByteArray)), .int .i64 0, .bool false] from (k34_mkM _ _ _ (⟨((⟨#[97, 36, 123]⟩ : ByteArray) ++ a1) ++ (⟨#[125, 98]⟩ : ByteArray), 0, false⟩ : S34) )) (Reps.none _ _))); intro v199 w81 ho82 hb hg_ hnew_; clear hg_ hnew_; (first | rw [← Ny198.out] at ho82 | (simp only [Int.reduceToNat] at ho82; rw [← Ny198.out] at ho82)); have n0_ := Aside0.mk (Kd.R_lower ho82 (below_size (by repeat (first | (with_reducible first | exact HB.out | apply below_alloc | apply pw_below_drewN | apply below_drew1) | exact HB.out)))); have n1_ := Aside0.mk (below_step (by repeat (first | (with_reducible first | exact HB.out | apply below_alloc | apply pw_below_drewN | apply below_drew1) | exact HB.out)) hb); clear HB; have HO200 := n0_; have HB := n1_; clear n0_ n1_; clear hb ho82; obtain ⟨Ao83, co83, eo83⟩ := Kd.R_slice HO200.out; subst eo83) | (go_at_call 12; (with_reducible refine (loop_Bind.calls k3 _ _ y198 a1 a2 t201 _ ?side1 ?side2 A68.out).mono ?_); (case side1 => repeat (first | exact (Kd.R_reads' HO200.out).2.2 | (with_reducible refine Kd.C_alloc ?_ _) | (with_reducible refine Kd.C_drewN ?_ _) | (with_reducible refine Kd.C_drew ?_))); (case side2 => exact (Kd.R_reads' HO200.out).2.1); rintro e w84 ⟨v202, rfl, ho0, hb⟩; have n0_ := Aside0.mk (Kd.R_elder' (by (with_reducible repeat (first | apply Kd.R_alloc | apply Kd.R_drewN | apply Kd.R_drew)); exact HO200.out) (Kd.R_base ho0) hb); have n1_ := Aside0.mk (Kd.R_lower (Kd.R_new' ho0 (Kd.R_lt (by (with_reducible repeat (first | apply Kd.R_alloc | apply Kd.R_drewN | apply Kd.R_drew)); exact HO200.out))) (below_size (by repeat (first | (with_reducible first | exact HB.out | apply below_alloc | apply pw_below_drewN | apply below_drew1) | exact HB.out)))); have n2_ := Aside0.mk (below_step (by repeat (first | (with_reducible first | exact HB.out | apply below_alloc | apply pw_below_drewN | apply below_drew1) | exact HB.out)) hb); clear HO200; clear HB; have HO200 := n0_; have HO203 := n1_; have HB := n2_; clear n0_ n1_ n2_; (try clear hb); (try clear hb2); (try clear hk); (try clear hi); (try clear ho0); obtain ⟨Ao85, co85, eo85⟩ := Kd.R_slice HO203.out; subst eo85; have p204 : 0 ≤ (0 : Int) := (by omega); have q204 : 0 < (t201.length : Int) := of_decide_eq_true (by first | (with_reducible assumption) | assumption); obtain ⟨ad204, e204, hx204_0, hx204_1, hx204_2⟩ := at_T34 (Kd.R_reads' HO203.out).2.2 0 p204 q204; cases e204; have qi204 : (0 < t201.length) = True := eq_true (by omega); (try rw [show ((0 : Int)).toNat = 0 from rfl] at hx204_0); (try rw [show 0 * 3 = 0 from rfl] at hx204_0); (try rw [Addr.add_zero'] at hx204_0); (try rw [show ((0 : Int)).toNat = 0 from rfl] at hx204_1); (try rw [show 0 * 3 = 0 from rfl] at hx204_1); (try rw [Addr.add_zero'] at hx204_1); (try rw [show ((0 : Int)).toNat = 0 from rfl] at hx204_2); (try rw [show 0 * 3 = 0 from rfl] at hx204_2); (try rw [Addr.add_zero'] at hx204_2); replace p204 := eq_true p204; replace q204 := eq_true q204)); try go_wp2_with (first | ((with_reducible refine gate_dst (N := 126) rfl ?_); (try (refine gate_guard (by rfl) ?_; dsimp only)); refine Kd.R_lit k34 _ 34 ?hg (N := 126) ?hd (xs := ([(⟨((⟨#[97, 36, 123]⟩ : ByteArray) ++ a1) ++ (⟨#[125, 98]⟩ : ByteArray), 0, false⟩ : S34)] : List (S34))) (inner := [.string (((⟨#[97, 36, 123]⟩ : ByteArray) ++ a1) ++ (⟨#[125, 98]⟩ : ByteArray)), .int .i64 0, .bool false]) (ok := fun _ => True) (okp := fun _ => True) ?hr ?hp (fun _ hk => hk) trivial (Below.refl _ _) (Nat.le_refl _) (by simp) ?_; (case hd => rfl); (case hg => rfl); (case hr => first | (go_simp; done) | (go_simp; rfl)); (case hp => exact (Reps.c3 (show Kd.M k34 _ _ _ (⟨((⟨#[97, 36, 123]⟩ : ByteArray) ++ a1) ++ (⟨#[125, 98]⟩ : ByteArray), 0, false⟩ : S34) [.string (((⟨#[97, 36, 123]⟩ : ByteArray) ++ a1) ++ (⟨#[125, 98]⟩ : ByteArray)), .int .i64 0, .bool false] from (k34_mkM _ _ _ (⟨((⟨#[97, 36, 123]⟩ : ByteArray) ++ a1) ++ (⟨#[125, 98]⟩ : ByteArray), 0, false⟩ : S34) )) (Reps.none _ _))); intro v199 w81 ho82 hb hg_ hnew_; clear hg_ hnew_; (first | rw [← Ny198.out] at ho82 | (simp only [Int.reduceToNat] at ho82; rw [← Ny198.out] at ho82)); have n0_ := Aside0.mk (Kd.R_lower ho82 (below_size (by repeat (first | (with_reducible first | exact HB.out | apply below_alloc | apply pw_below_drewN | apply below_drew1) | exact HB.out)))); have n1_ := Aside0.mk (below_step (by repeat (first | (with_reducible first | exact HB.out | apply below_alloc | apply pw_below_drewN | apply below_drew1) | exact HB.out)) hb); clear HB; have HO200 := n0_; have HB := n1_; clear n0_ n1_; clear hb ho82; obtain ⟨Ao83, co83, eo83⟩ := Kd.R_slice HO200.out; subst eo83) | (go_at_call 12; (with_reducible refine (loop_Bind.calls k3 _ _ y198 a1 a2 t201 _ ?side1 ?side2 A68.out).mono ?_); (case side1 => repeat (first | exact (Kd.R_reads' HO200.out).2.2 | (with_reducible refine Kd.C_alloc ?_ _) | (with_reducible refine Kd.C_drewN ?_ _) | (with_reducible refine Kd.C_drew ?_))); (case side2 => exact (Kd.R_reads' HO200.out).2.1); rintro e w84 ⟨v202, rfl, ho0, hb⟩; have n0_ := Aside0.mk (Kd.R_elder' (by (with_reducible repeat (first | apply Kd.R_alloc | apply Kd.R_drewN | apply Kd.R_drew)); exact HO200.out) (Kd.R_base ho0) hb); have n1_ := Aside0.mk (Kd.R_lower (Kd.R_new' ho0 (Kd.R_lt (by (with_reducible repeat (first | apply Kd.R_alloc | apply Kd.R_drewN | apply Kd.R_drew)); exact HO200.out))) (below_size (by repeat (first | (with_reducible first | exact HB.out | apply below_alloc | apply pw_below_drewN | apply below_drew1) | exact HB.out)))); have n2_ := Aside0.mk (below_step (by repeat (first | (with_reducible first | exact HB.out | apply below_alloc | apply pw_below_drewN | apply below_drew1) | exact HB.out)) hb); clear HO200; clear HB; have HO200 := n0_; have HO203 := n1_; have HB := n2_; clear n0_ n1_ n2_; (try clear hb); (try clear hb2); (try clear hk); (try clear hi); (try clear ho0); obtain ⟨Ao85, co85, eo85⟩ := Kd.R_slice HO203.out; subst eo85; have p204 : 0 ≤ (0 : Int) := (by omega); have q204 : 0 < (t201.length : Int) := of_decide_eq_true (by first | (with_reducible assumption) | assumption); obtain ⟨ad204, e204, hx204_0, hx204_1, hx204_2⟩ := at_T34 (Kd.R_reads' HO203.out).2.2 0 p204 q204; cases e204; have qi204 : (0 < t201.length) = True := eq_true (by omega); (try rw [show ((0 : Int)).toNat = 0 from rfl] at hx204_0); (try rw [show 0 * 3 = 0 from rfl] at hx204_0); (try rw [Addr.add_zero'] at hx204_0); (try rw [show ((0 : Int)).toNat = 0 from rfl] at hx204_1); (try rw [show 0 * 3 = 0 from rfl] at hx204_1); (try rw [Addr.add_zero'] at hx204_1); (try rw [show ((0 : Int)).toNat = 0 from rfl] at hx204_2); (try rw [show 0 * 3 = 0 from rfl] at hx204_2); (try rw [Addr.add_zero'] at hx204_2); replace p204 := eq_true p204; replace q204 := eq_true q204)))
                                        go_ret
                                        exact ⟨by first | rfl | (simp [errW_none, errW_some] <;> rfl) | (simp [*, errW_none, errW_some] <;> rfl), by repeat (first | (with_reducible first | exact HB.out | apply below_alloc | apply pw_below_drewN | apply below_drew1) | exact HB.out)⟩
                                    · rw [if_neg c72] at H
                                      exact absurd H (by simp)
                                  · rw [if_neg c71] at H
                                    exact absurd H (by simp)
                                · rw [if_neg c70] at H
                                  exact absurd H (by simp)
                              · rw [if_neg c69] at H
                                have c69b0 : ((t201.length : Int) == 1) = false := beq_eq_false_iff_ne.mpr c69
                                have c69b1 : ((t201.length : Int) != 1) = true := bne_iff_ne.mpr c69
                                obtain rfl := Option.some.inj H
                                go_wp2_with (first | ((with_reducible refine gate_dst (N := 126) rfl ?_); (try (refine gate_guard (by rfl) ?_; dsimp only)); refine Kd.R_lit k34 _ 34 ?hg (N := 126) ?hd (xs := ([(⟨((⟨#[97, 36, 123]⟩ : ByteArray) ++ a1) ++ (⟨#[125, 98]⟩ : ByteArray), 0, false⟩ : S34)] : List (S34))) (inner := [.string (((⟨#[97, 36, 123]⟩ : ByteArray) ++ a1) ++ (⟨#[125, 98]⟩ : ByteArray)), .int .i64 0, .bool false]) (ok := fun _ => True) (okp := fun _ => True) ?hr ?hp (fun _ hk => hk) trivial (Below.refl _ _) (Nat.le_refl _) (by simp) ?_; (case hd => rfl); (case hg => rfl); (case hr => first | (go_simp; done) | (go_simp; rfl)); (case hp => exact (Reps.c3 (show Kd.M k34 _ _ _ (⟨((⟨#[97, 36, 123]⟩ : ByteArray) ++ a1) ++ (⟨#[125, 98]⟩ : ByteArray), 0, false⟩ : S34) [.string (((⟨#[97, 36, 123]⟩ : ByteArray) ++ a1) ++ (⟨#[125, 98]⟩ : ByteArray)), .int .i64 0, .bool false] from (k34_mkM _ _ _ (⟨((⟨#[97, 36, 123]⟩ : ByteArray) ++ a1) ++ (⟨#[125, 98]⟩ : ByteArray), 0, false⟩ : S34) )) (Reps.none _ _))); intro v199 w86 ho87 hb hg_ hnew_; clear hg_ hnew_; (first | rw [← Ny198.out] at ho87 | (simp only [Int.reduceToNat] at ho87; rw [← Ny198.out] at ho87)); have n0_ := Aside0.mk (Kd.R_lower ho87 (below_size (by repeat (first | (with_reducible first | exact HB.out | apply below_alloc | apply pw_below_drewN | apply below_drew1) | exact HB.out)))); have n1_ := Aside0.mk (below_step (by repeat (first | (with_reducible first | exact HB.out | apply below_alloc | apply pw_below_drewN | apply below_drew1) | exact HB.out)) hb); clear HB; have HO200 := n0_; have HB := n1_; clear n0_ n1_; clear hb ho87; obtain ⟨Ao88, co88, eo88⟩ := Kd.R_slice HO200.out; subst eo88) | (go_at_call 12; (with_reducible refine (loop_Bind.calls k3 _ _ y198 a1 a2 t201 _ ?side1 ?side2 A68.out).mono ?_); (case side1 => repeat (first | exact (Kd.R_reads' HO200.out).2.2 | (with_reducible refine Kd.C_alloc ?_ _) | (with_reducible refine Kd.C_drewN ?_ _) | (with_reducible refine Kd.C_drew ?_))); (case side2 => exact (Kd.R_reads' HO200.out).2.1); rintro e w89 ⟨v202, rfl, ho0, hb⟩; have n0_ := Aside0.mk (Kd.R_elder' (by (with_reducible repeat (first | apply Kd.R_alloc | apply Kd.R_drewN | apply Kd.R_drew)); exact HO200.out) (Kd.R_base ho0) hb); have n1_ := Aside0.mk (Kd.R_lower (Kd.R_new' ho0 (Kd.R_lt (by (with_reducible repeat (first | apply Kd.R_alloc | apply Kd.R_drewN | apply Kd.R_drew)); exact HO200.out))) (below_size (by repeat (first | (with_reducible first | exact HB.out | apply below_alloc | apply pw_below_drewN | apply below_drew1) | exact HB.out)))); have n2_ := Aside0.mk (below_step (by repeat (first | (with_reducible first | exact HB.out | apply below_alloc | apply pw_below_drewN | apply below_drew1) | exact HB.out)) hb); clear HO200; clear HB; have HO200 := n0_; have HO203 := n1_; have HB := n2_; clear n0_ n1_ n2_; (try clear hb); (try clear hb2); (try clear hk); (try clear hi); (try clear ho0); obtain ⟨Ao90, co90, eo90⟩ := Kd.R_slice HO203.out; subst eo90))
                                repeat (go_quiet (first | ((with_reducible refine gate_dst (N := 126) rfl ?_); (try (refine gate_guard (by rfl) ?_; dsimp only)); refine Kd.R_lit k34 _ 34 ?hg (N := 126) ?hd (xs := ([(⟨((⟨#[97, 36, 123]⟩ : ByteArray) ++ a1) ++ (⟨#[125, 98]⟩ : ByteArray), 0, false⟩ : S34)] : List (S34))) (inner := [.string (((⟨#[97, 36, 123]⟩ : ByteArray) ++ a1) ++ (⟨#[125, 98]⟩ : ByteArray)), .int .i64 0, .bool false]) (ok := fun _ => True) (okp := fun _ => True) ?hr ?hp (fun _ hk => hk) trivial (Below.refl _ _) (Nat.le_refl _) (by simp) ?_; (case hd => rfl); (case hg => rfl); (case hr => first | (go_simp; done) | (go_simp; rfl)); (case hp => exact (Reps.c3 (show Kd.M k34 _ _ _ (⟨((⟨#[97, 36, 123]⟩ : ByteArray) ++ a1) ++ (⟨#[125, 98]⟩ : ByteArray), 0, false⟩ : S34) [.string (((⟨#[97, 36, 123]⟩ : ByteArray) ++ a1) ++ (⟨#[125, 98]⟩ : ByteArray)), .int .i64 0, .bool false] from (k34_mkM _ _ _ (⟨((⟨#[97, 36, 123]⟩ : ByteArray) ++ a1) ++ (⟨#[125, 98]⟩ : ByteArray), 0, false⟩ : S34) )) (Reps.none _ _))); intro v199 w86 ho87 hb hg_ hnew_; clear hg_ hnew_; (first | rw [← Ny198.out] at ho87 | (simp only [Int.reduceToNat] at ho87; rw [← Ny198.out] at ho87)); have n0_ := Aside0.mk (Kd.R_lower ho87 (below_size (by repeat (first | (with_reducible first | exact HB.out | apply below_alloc | apply pw_below_drewN | apply below_drew1) | exact HB.out)))); have n1_ := Aside0.mk (below_step (by repeat (first | (with_reducible first | exact HB.out | apply below_alloc | apply pw_below_drewN | apply below_drew1) | exact HB.out)) hb); clear HB; have HO200 := n0_; have HB := n1_; clear n0_ n1_; clear hb ho87; obtain ⟨Ao88, co88, eo88⟩ := Kd.R_slice HO200.out; subst eo88) | (go_at_call 12; (with_reducible refine (loop_Bind.calls k3 _ _ y198 a1 a2 t201 _ ?side1 ?side2 A68.out).mono ?_); (case side1 => repeat (first | exact (Kd.R_reads' HO200.out).2.2 | (with_reducible refine Kd.C_alloc ?_ _) | (with_reducible refine Kd.C_drewN ?_ _) | (with_reducible refine Kd.C_drew ?_))); (case side2 => exact (Kd.R_reads' HO200.out).2.1); rintro e w89 ⟨v202, rfl, ho0, hb⟩; have n0_ := Aside0.mk (Kd.R_elder' (by (with_reducible repeat (first | apply Kd.R_alloc | apply Kd.R_drewN | apply Kd.R_drew)); exact HO200.out) (Kd.R_base ho0) hb); have n1_ := Aside0.mk (Kd.R_lower (Kd.R_new' ho0 (Kd.R_lt (by (with_reducible repeat (first | apply Kd.R_alloc | apply Kd.R_drewN | apply Kd.R_drew)); exact HO200.out))) (below_size (by repeat (first | (with_reducible first | exact HB.out | apply below_alloc | apply pw_below_drewN | apply below_drew1) | exact HB.out)))); have n2_ := Aside0.mk (below_step (by repeat (first | (with_reducible first | exact HB.out | apply below_alloc | apply pw_below_drewN | apply below_drew1) | exact HB.out)) hb); clear HO200; clear HB; have HO200 := n0_; have HO203 := n1_; have HB := n2_; clear n0_ n1_ n2_; (try clear hb); (try clear hb2); (try clear hk); (try clear hi); (try clear ho0); obtain ⟨Ao90, co90, eo90⟩ := Kd.R_slice HO203.out; subst eo90)); try go_wp2_with (first | ((with_reducible refine gate_dst (N := 126) rfl ?_); (try (refine gate_guard (by rfl) ?_; dsimp only)); refine Kd.R_lit k34 _ 34 ?hg (N := 126) ?hd (xs := ([(⟨((⟨#[97, 36, 123]⟩ : ByteArray) ++ a1) ++ (⟨#[125, 98]⟩ : ByteArray), 0, false⟩ : S34)] : List (S34))) (inner := [.string (((⟨#[97, 36, 123]⟩ : ByteArray) ++ a1) ++ (⟨#[125, 98]⟩ : ByteArray)), .int .i64 0, .bool false]) (ok := fun _ => True) (okp := fun _ => True) ?hr ?hp (fun _ hk => hk) trivial (Below.refl _ _) (Nat.le_refl _) (by simp) ?_; (case hd => rfl); (case hg => rfl); (case hr => first | (go_simp; done) | (go_simp; rfl)); (case hp => exact (Reps.c3 (show Kd.M k34 _ _ _ (⟨((⟨#[97, 36, 123]⟩ : ByteArray) ++ a1) ++ (⟨#[125, 98]⟩ : ByteArray), 0, false⟩ : S34) [.string (((⟨#[97, 36, 123]⟩ : ByteArray) ++ a1) ++ (⟨#[125, 98]⟩ : ByteArray)), .int .i64 0, .bool false] from (k34_mkM _ _ _ (⟨((⟨#[97, 36, 123]⟩ : ByteArray) ++ a1) ++ (⟨#[125, 98]⟩ : ByteArray), 0, false⟩ : S34) )) (Reps.none _ _))); intro v199 w86 ho87 hb hg_ hnew_; clear hg_ hnew_; (first | rw [← Ny198.out] at ho87 | (simp only [Int.reduceToNat] at ho87; rw [← Ny198.out] at ho87)); have n0_ := Aside0.mk (Kd.R_lower ho87 (below_size (by repeat (first | (with_reducible first | exact HB.out | apply below_alloc | apply pw_below_drewN | apply below_drew1) | exact HB.out)))); have n1_ := Aside0.mk (below_step (by repeat (first | (with_reducible first | exact HB.out | apply below_alloc | apply pw_below_drewN | apply below_drew1) | exact HB.out)) hb); clear HB; have HO200 := n0_; have HB := n1_; clear n0_ n1_; clear hb ho87; obtain ⟨Ao88, co88, eo88⟩ := Kd.R_slice HO200.out; subst eo88) | (go_at_call 12; (with_reducible refine (loop_Bind.calls k3 _ _ y198 a1 a2 t201 _ ?side1 ?side2 A68.out).mono ?_); (case side1 => repeat (first | exact (Kd.R_reads' HO200.out).2.2 | (with_reducible refine Kd.C_alloc ?_ _) | (with_reducible refine Kd.C_drewN ?_ _) | (with_reducible refine Kd.C_drew ?_))); (case side2 => exact (Kd.R_reads' HO200.out).2.1); rintro e w89 ⟨v202, rfl, ho0, hb⟩; have n0_ := Aside0.mk (Kd.R_elder' (by (with_reducible repeat (first | apply Kd.R_alloc | apply Kd.R_drewN | apply Kd.R_drew)); exact HO200.out) (Kd.R_base ho0) hb); have n1_ := Aside0.mk (Kd.R_lower (Kd.R_new' ho0 (Kd.R_lt (by (with_reducible repeat (first | apply Kd.R_alloc | apply Kd.R_drewN | apply Kd.R_drew)); exact HO200.out))) (below_size (by repeat (first | (with_reducible first | exact HB.out | apply below_alloc | apply pw_below_drewN | apply below_drew1) | exact HB.out)))); have n2_ := Aside0.mk (below_step (by repeat (first | (with_reducible first | exact HB.out | apply below_alloc | apply pw_below_drewN | apply below_drew1) | exact HB.out)) hb); clear HO200; clear HB; have HO200 := n0_; have HO203 := n1_; have HB := n2_; clear n0_ n1_ n2_; (try clear hb); (try clear hb2); (try clear hk); (try clear hi); (try clear ho0); obtain ⟨Ao90, co90, eo90⟩ := Kd.R_slice HO203.out; subst eo90)))
                                go_ret
                                exact ⟨by first | rfl | (simp [errW_none, errW_some] <;> rfl) | (simp [*, errW_none, errW_some] <;> rfl), by repeat (first | (with_reducible first | exact HB.out | apply below_alloc | apply pw_below_drewN | apply below_drew1) | exact HB.out)⟩
                            · rw [if_neg c67] at H
                              exact absurd H (by simp)
                          · rw [if_neg c66] at H
                            exact absurd H (by simp)
      · rw [if_neg c15] at H
        have c15b0 : ((t186.length : Int) == (l0.length : Int)) = false := beq_eq_false_iff_ne.mpr c15
        have c15b1 : ((t186.length : Int) != (l0.length : Int)) = true := bne_iff_ne.mpr c15
        have c15b2 : (t186.length == l0.length) = false := by first | simpa using c15 | (simp at c15 ⊢; omega)
        obtain rfl := Option.some.inj H
        go_enter Tryd.func4, Tryd.ntmps4
        go_wp2_with (first | (go_at_call 8; (with_reducible refine (bobstaylaw12_far.calls k _ _ l0 false _ ?side1 ?side2 A4.out).mono ?_); (case side1 => repeat (first | exact HR0.out | (with_reducible refine Kd.C_alloc ?_ _) | (with_reducible refine Kd.C_drewN ?_ _) | (with_reducible refine Kd.C_drew ?_))); (case side2 => exact HC0.out); rintro e w91 ⟨rfl, hb⟩; have n0_ := Aside0.mk (below_step (by repeat (first | (with_reducible first | exact HB.out | apply below_alloc | apply pw_below_drewN | apply below_drew1) | exact HB.out)) hb); clear HB; have HB := n0_; clear n0_; (try clear hb); (try clear hb2); (try clear hk); (try clear hi)) | (go_at_call 13; (with_reducible refine (bobstaylaw12_theirs.calls k _ _ l0 t183 _ ?side1 ?side2 A13.out).mono ?_); (case side1 => repeat (first | exact (Kd.C_below HR0.out HB.out) | (with_reducible refine Kd.C_alloc ?_ _) | (with_reducible refine Kd.C_drewN ?_ _) | (with_reducible refine Kd.C_drew ?_))); (case side2 => exact HC0.out); rintro e w92 ⟨v184, rfl, ho0, hb⟩; have n0_ := Aside0.mk (Kd.R_lower ho0 (below_size (by repeat (first | (with_reducible first | exact HB.out | apply below_alloc | apply pw_below_drewN | apply below_drew1) | exact HB.out)))); have n1_ := Aside0.mk (below_step (by repeat (first | (with_reducible first | exact HB.out | apply below_alloc | apply pw_below_drewN | apply below_drew1) | exact HB.out)) hb); clear HB; have HO185 := n0_; have HB := n1_; clear n0_ n1_; (try clear hb); (try clear hb2); (try clear hk); (try clear hi); (try clear ho0); obtain ⟨Ao93, co93, eo93⟩ := Kd.R_slice HO185.out; subst eo93) | (go_at_call 12; (with_reducible refine (loop_Bind.calls k _ _ t183 a1 a2 t186 _ ?side1 ?side2 A14.out).mono ?_); (case side1 => repeat (first | exact (Kd.R_reads' HO185.out).2.2 | (with_reducible refine Kd.C_alloc ?_ _) | (with_reducible refine Kd.C_drewN ?_ _) | (with_reducible refine Kd.C_drew ?_))); (case side2 => exact (Kd.R_reads' HO185.out).2.1); rintro e w94 ⟨v187, rfl, ho0, hb⟩; have n0_ := Aside0.mk (Kd.R_elder' (by (with_reducible repeat (first | apply Kd.R_alloc | apply Kd.R_drewN | apply Kd.R_drew)); exact HO185.out) (Kd.R_base ho0) hb); have n1_ := Aside0.mk (Kd.R_lower (Kd.R_new' ho0 (Kd.R_lt (by (with_reducible repeat (first | apply Kd.R_alloc | apply Kd.R_drewN | apply Kd.R_drew)); exact HO185.out))) (below_size (by repeat (first | (with_reducible first | exact HB.out | apply below_alloc | apply pw_below_drewN | apply below_drew1) | exact HB.out)))); have n2_ := Aside0.mk (below_step (by repeat (first | (with_reducible first | exact HB.out | apply below_alloc | apply pw_below_drewN | apply below_drew1) | exact HB.out)) hb); clear HO185; clear HB; have HO185 := n0_; have HO188 := n1_; have HB := n2_; clear n0_ n1_ n2_; (try clear hb); (try clear hb2); (try clear hk); (try clear hi); (try clear ho0); obtain ⟨Ao95, co95, eo95⟩ := Kd.R_slice HO188.out; subst eo95))
        repeat (go_quiet (first | (go_at_call 8; (with_reducible refine (bobstaylaw12_far.calls k _ _ l0 false _ ?side1 ?side2 A4.out).mono ?_); (case side1 => repeat (first | exact HR0.out | (with_reducible refine Kd.C_alloc ?_ _) | (with_reducible refine Kd.C_drewN ?_ _) | (with_reducible refine Kd.C_drew ?_))); (case side2 => exact HC0.out); rintro e w91 ⟨rfl, hb⟩; have n0_ := Aside0.mk (below_step (by repeat (first | (with_reducible first | exact HB.out | apply below_alloc | apply pw_below_drewN | apply below_drew1) | exact HB.out)) hb); clear HB; have HB := n0_; clear n0_; (try clear hb); (try clear hb2); (try clear hk); (try clear hi)) | (go_at_call 13; (with_reducible refine (bobstaylaw12_theirs.calls k _ _ l0 t183 _ ?side1 ?side2 A13.out).mono ?_); (case side1 => repeat (first | exact (Kd.C_below HR0.out HB.out) | (with_reducible refine Kd.C_alloc ?_ _) | (with_reducible refine Kd.C_drewN ?_ _) | (with_reducible refine Kd.C_drew ?_))); (case side2 => exact HC0.out); rintro e w92 ⟨v184, rfl, ho0, hb⟩; have n0_ := Aside0.mk (Kd.R_lower ho0 (below_size (by repeat (first | (with_reducible first | exact HB.out | apply below_alloc | apply pw_below_drewN | apply below_drew1) | exact HB.out)))); have n1_ := Aside0.mk (below_step (by repeat (first | (with_reducible first | exact HB.out | apply below_alloc | apply pw_below_drewN | apply below_drew1) | exact HB.out)) hb); clear HB; have HO185 := n0_; have HB := n1_; clear n0_ n1_; (try clear hb); (try clear hb2); (try clear hk); (try clear hi); (try clear ho0); obtain ⟨Ao93, co93, eo93⟩ := Kd.R_slice HO185.out; subst eo93) | (go_at_call 12; (with_reducible refine (loop_Bind.calls k _ _ t183 a1 a2 t186 _ ?side1 ?side2 A14.out).mono ?_); (case side1 => repeat (first | exact (Kd.R_reads' HO185.out).2.2 | (with_reducible refine Kd.C_alloc ?_ _) | (with_reducible refine Kd.C_drewN ?_ _) | (with_reducible refine Kd.C_drew ?_))); (case side2 => exact (Kd.R_reads' HO185.out).2.1); rintro e w94 ⟨v187, rfl, ho0, hb⟩; have n0_ := Aside0.mk (Kd.R_elder' (by (with_reducible repeat (first | apply Kd.R_alloc | apply Kd.R_drewN | apply Kd.R_drew)); exact HO185.out) (Kd.R_base ho0) hb); have n1_ := Aside0.mk (Kd.R_lower (Kd.R_new' ho0 (Kd.R_lt (by (with_reducible repeat (first | apply Kd.R_alloc | apply Kd.R_drewN | apply Kd.R_drew)); exact HO185.out))) (below_size (by repeat (first | (with_reducible first | exact HB.out | apply below_alloc | apply pw_below_drewN | apply below_drew1) | exact HB.out)))); have n2_ := Aside0.mk (below_step (by repeat (first | (with_reducible first | exact HB.out | apply below_alloc | apply pw_below_drewN | apply below_drew1) | exact HB.out)) hb); clear HO185; clear HB; have HO185 := n0_; have HO188 := n1_; have HB := n2_; clear n0_ n1_ n2_; (try clear hb); (try clear hb2); (try clear hk); (try clear hi); (try clear ho0); obtain ⟨Ao95, co95, eo95⟩ := Kd.R_slice HO188.out; subst eo95)); try go_wp2_with (first | (go_at_call 8; (with_reducible refine (bobstaylaw12_far.calls k _ _ l0 false _ ?side1 ?side2 A4.out).mono ?_); (case side1 => repeat (first | exact HR0.out | (with_reducible refine Kd.C_alloc ?_ _) | (with_reducible refine Kd.C_drewN ?_ _) | (with_reducible refine Kd.C_drew ?_))); (case side2 => exact HC0.out); rintro e w91 ⟨rfl, hb⟩; have n0_ := Aside0.mk (below_step (by repeat (first | (with_reducible first | exact HB.out | apply below_alloc | apply pw_below_drewN | apply below_drew1) | exact HB.out)) hb); clear HB; have HB := n0_; clear n0_; (try clear hb); (try clear hb2); (try clear hk); (try clear hi)) | (go_at_call 13; (with_reducible refine (bobstaylaw12_theirs.calls k _ _ l0 t183 _ ?side1 ?side2 A13.out).mono ?_); (case side1 => repeat (first | exact (Kd.C_below HR0.out HB.out) | (with_reducible refine Kd.C_alloc ?_ _) | (with_reducible refine Kd.C_drewN ?_ _) | (with_reducible refine Kd.C_drew ?_))); (case side2 => exact HC0.out); rintro e w92 ⟨v184, rfl, ho0, hb⟩; have n0_ := Aside0.mk (Kd.R_lower ho0 (below_size (by repeat (first | (with_reducible first | exact HB.out | apply below_alloc | apply pw_below_drewN | apply below_drew1) | exact HB.out)))); have n1_ := Aside0.mk (below_step (by repeat (first | (with_reducible first | exact HB.out | apply below_alloc | apply pw_below_drewN | apply below_drew1) | exact HB.out)) hb); clear HB; have HO185 := n0_; have HB := n1_; clear n0_ n1_; (try clear hb); (try clear hb2); (try clear hk); (try clear hi); (try clear ho0); obtain ⟨Ao93, co93, eo93⟩ := Kd.R_slice HO185.out; subst eo93) | (go_at_call 12; (with_reducible refine (loop_Bind.calls k _ _ t183 a1 a2 t186 _ ?side1 ?side2 A14.out).mono ?_); (case side1 => repeat (first | exact (Kd.R_reads' HO185.out).2.2 | (with_reducible refine Kd.C_alloc ?_ _) | (with_reducible refine Kd.C_drewN ?_ _) | (with_reducible refine Kd.C_drew ?_))); (case side2 => exact (Kd.R_reads' HO185.out).2.1); rintro e w94 ⟨v187, rfl, ho0, hb⟩; have n0_ := Aside0.mk (Kd.R_elder' (by (with_reducible repeat (first | apply Kd.R_alloc | apply Kd.R_drewN | apply Kd.R_drew)); exact HO185.out) (Kd.R_base ho0) hb); have n1_ := Aside0.mk (Kd.R_lower (Kd.R_new' ho0 (Kd.R_lt (by (with_reducible repeat (first | apply Kd.R_alloc | apply Kd.R_drewN | apply Kd.R_drew)); exact HO185.out))) (below_size (by repeat (first | (with_reducible first | exact HB.out | apply below_alloc | apply pw_below_drewN | apply below_drew1) | exact HB.out)))); have n2_ := Aside0.mk (below_step (by repeat (first | (with_reducible first | exact HB.out | apply below_alloc | apply pw_below_drewN | apply below_drew1) | exact HB.out)) hb); clear HO185; clear HB; have HO185 := n0_; have HO188 := n1_; have HB := n2_; clear n0_ n1_ n2_; (try clear hb); (try clear hb2); (try clear hk); (try clear hi); (try clear ho0); obtain ⟨Ao95, co95, eo95⟩ := Kd.R_slice HO188.out; subst eo95)))
        go_ret
        exact ⟨by first | rfl | (simp [errW_none, errW_some] <;> rfl) | (simp [*, errW_none, errW_some] <;> rfl), by repeat (first | (with_reducible first | exact HB.out | apply below_alloc | apply pw_below_drewN | apply below_drew1) | exact HB.out)⟩

end Go.Proofs.YtiedbnjoomcdbaaDoor.PC
