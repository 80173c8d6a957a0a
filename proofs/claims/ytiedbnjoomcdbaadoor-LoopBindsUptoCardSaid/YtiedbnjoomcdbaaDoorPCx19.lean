-- PRINTED by print.py (a twelfth state) out of the translation. Not trusted: Lean checks it.
import Derived.Test.YtiedbnjoomcdbaaDoorPCx5
import Derived.Test.YtiedbnjoomcdbaaDoorPCx1
namespace Go.Proofs.YtiedbnjoomcdbaaDoor.PC
open Go.RowKit Go.Proofs.YtiedbnjoomcdbaaDoorW.PrintWords Go.Proofs.YtiedbnjoomcdbaaDoorW.PrintLast Go.Proofs.YtiedbnjoomcdbaaDoorW.PrintMore
attribute [local go_sem] max2_int min2_int max_two min_two max_three min_three max_four min_four   -- for this text's walks alone
set_option linter.unusedVariables false
set_option linter.unusedSimpArgs false

attribute [local go_sem high] eqA33
/-! ### bobstayref11_Same: function 10 -/
def bobstayref11_Same.l0 : Nat → List (S33) → List (S33) → Int → Option (Bool)
  | 0, _, _, _ => none
  | k + 1, x0, x1, x5 => if x5 < (x0.length : Int) then (if 0 ≤ x5 then (if x5 < (x1.length : Int) then (if (!((((rd_T33 x0 x5).f0).toList) == (((rd_T33 x1 x5).f0).toList)) || (!(((rd_T33 x0 x5).f1) == ((rd_T33 x1 x5).f1)) || (!(((rd_T33 x0 x5).f2) == ((rd_T33 x1 x5).f2))))) = true then (some false) else (bobstayref11_Same.l0 k x0 x1 (wrap64 (x5 + 1)))) else (none)) else (none)) else (some true)
def bobstayref11_Same.f (k : Nat) (l0 : List (S33)) (l1 : List (S33)) : Option (Bool) := if (l0.length : Int) = (l1.length : Int) then (bobstayref11_Same.l0 k l0 l1 0) else (some false)
theorem bobstayref11_Same.mono_l : ∀ k, (∀ y0 y1 y2, LeO (bobstayref11_Same.l0 k y0 y1 y2) (bobstayref11_Same.l0 (k + 1) y0 y1 y2))
  | 0 => fun _ _ _ r h => by simp [bobstayref11_Same.l0] at h
  | k + 1 => by
    have ih0 := bobstayref11_Same.mono_l k
    · intro y0 y1 y2
      unfold bobstayref11_Same.l0
      repeat' first
      | (with_reducible exact ih0 _ _ _)
      | (with_reducible exact LeO.refl _)
      | (with_reducible exact LeO.none _)
      | (with_reducible refine LeO.ite ?_ ?_)
      | (with_reducible refine LeO.bind ?_ (fun _ => ?_))
      | exact ih0 _ _ _
      | exact LeO.none _
      | refine LeO.ite ?_ ?_
      | refine LeO.bind ?_ (fun _ => ?_)
theorem bobstayref11_Same.mono : ∀ a0 a1 k, LeO (bobstayref11_Same.f k a0 a1) (bobstayref11_Same.f (k + 1) a0 a1) := by
  intro a0 a1 k
  have ih0 := bobstayref11_Same.mono_l k
  unfold bobstayref11_Same.f
  repeat' first
      | (with_reducible exact ih0 _ _ _)
      | (with_reducible exact LeO.refl _)
      | (with_reducible exact LeO.none _)
      | (with_reducible refine LeO.ite ?_ ?_)
      | (with_reducible refine LeO.bind ?_ (fun _ => ?_))
      | exact ih0 _ _ _
      | exact LeO.none _
      | refine LeO.ite ?_ ?_
      | refine LeO.bind ?_ (fun _ => ?_)
set_option maxHeartbeats 8000000 in
set_option maxRecDepth 100000 in
theorem bobstayref11_Same.calls (k : Nat) (A0 : Option Addr) (c0 : Nat) (l0 : List (S33)) (A1 : Option Addr) (c1 : Nat) (l1 : List (S33)) (r : Bool) (w : World) (hr0 : Kd.C k33 w A0 l0.length l0) (hc0 : l0.length ≤ c0) (hr1 : Kd.C k33 w A1 l1.length l1) (hc1 : l1.length ≤ c1) (h : bobstayref11_Same.f k l0 l1 = some r) :
    Calls Tryd.prog 10 #[.slice A0 l0.length c0, .slice A1 l1.length c1] w fun e w' => e = .returned (.bool r) ∧ Drawn0 w w' := by
  have hu33 := Tryd.underlying33
  have HR0 := Aside0.mk hr0
  have HC0 := Aside0.mk hc0
  clear hr0 hc0
  have HR1 := Aside0.mk hr1
  have HC1 := Aside0.mk hc1
  clear hr1 hc1
  have H : (if (l0.length : Int) = (l1.length : Int) then (bobstayref11_Same.l0 k l0 l1 0) else (some false)) = some r := h
  clear h
  by_cases c3 : (l0.length : Int) = (l1.length : Int)
  · rw [if_pos c3] at H
    have c3b0 : ((l0.length : Int) == (l1.length : Int)) = true := beq_iff_eq.mpr c3
    have c3b1 : ((l0.length : Int) != (l1.length : Int)) = false := bne_eq_false_iff_eq.mpr c3
    have c3b2 : (l0.length == l1.length) = true := by first | simpa using c3 | (simp at c3 ⊢; omega)
    clear c3
    have H' := Aside0.mk H
    clear H
    go_enter Tryd.func10, Tryd.ntmps10
    go_wp2
    repeat (go_quiet (fail); try go_wp2)
    go_loopg [5] k (fun kq v5 w' => ∃ (x5_1 : Int), v5 = .int .i64 x5_1 ∧ Aside0 (bobstayref11_Same.l0 kq l0 l1 x5_1 = some r) ∧ Aside0 (kq ≤ k) ∧ Drawn0 w w')
    case atStart => exact ⟨(0), (by first | rfl | (simp; done) | (simp [*]; done)), H', ⟨Nat.le_refl _⟩, by repeat (first | exact Drawn0.refl _ | apply Drawn0.step)⟩
    case round =>
      clear H'
      try clear c1
      try clear p2
      try clear c3
      try clear c3b0
      try clear c3b1
      try clear c3b2
      obtain ⟨x5_1, rfl, HA, HK1, ⟨m1, rfl⟩⟩ := hrel
      cases gk with
      | zero => exact absurd HA.out (by simp [bobstayref11_Same.l0])
      | succ k1 =>
        have H := HA.out
        clear HA
        simp only [bobstayref11_Same.l0] at H
        by_cases c4 : x5_1 < (l0.length : Int)
        · rw [if_pos c4] at H
          have c4b0 : decide (x5_1 < (l0.length : Int)) = true := decide_eq_true c4
          clear c4
          by_cases c5 : 0 ≤ x5_1
          · rw [if_pos c5] at H
            have c5b0 : decide (0 ≤ x5_1) = true := decide_eq_true c5
            clear c5
            by_cases c6 : x5_1 < (l1.length : Int)
            · rw [if_pos c6] at H
              have c6b0 : decide (x5_1 < (l1.length : Int)) = true := decide_eq_true c6
              clear c6
              by_cases c7 : (!((((rd_T33 l0 x5_1).f0).toList) == (((rd_T33 l1 x5_1).f0).toList)) || (!(((rd_T33 l0 x5_1).f1) == ((rd_T33 l1 x5_1).f1)) || (!(((rd_T33 l0 x5_1).f2) == ((rd_T33 l1 x5_1).f2))))) = true
              · rw [if_pos c7] at H
                have c7b0 : (!((((rd_T33 l0 x5_1).f0).toList) == (((rd_T33 l1 x5_1).f0).toList)) || (!(((rd_T33 l0 x5_1).f1) == ((rd_T33 l1 x5_1).f1)) || (!(((rd_T33 l0 x5_1).f2) == ((rd_T33 l1 x5_1).f2))))) = true := c7
                clear c7
                obtain rfl := Option.some.inj H
                have p109 : 0 ≤ (x5_1 : Int) := of_decide_eq_true (by first | (with_reducible assumption) | assumption)
                have q109 : x5_1 < (l0.length : Int) := of_decide_eq_true (by first | (with_reducible assumption) | assumption)
                obtain ⟨ad109, e109, hx109_0, hx109_1, hx109_2⟩ := at_T33 HR0.out x5_1 p109 q109
                cases e109
                replace p109 := eq_true p109
                replace q109 := eq_true q109
                have p110 : 0 ≤ (x5_1 : Int) := of_decide_eq_true (by first | (with_reducible assumption) | assumption)
                have q110 : x5_1 < (l1.length : Int) := of_decide_eq_true (by first | (with_reducible assumption) | assumption)
                obtain ⟨ad110, e110, hx110_0, hx110_1, hx110_2⟩ := at_T33 HR1.out x5_1 p110 q110
                cases e110
                replace p110 := eq_true p110
                replace q110 := eq_true q110
                go_wp2
                repeat (go_quiet (fail); try go_wp2)
                go_ret
                exact ⟨by first | rfl | (simp; done) | (simp [*]; done), by repeat (first | exact Drawn0.refl _ | apply Drawn0.step)⟩
              · rw [if_neg c7] at H
                have c7b0 : (!((((rd_T33 l0 x5_1).f0).toList) == (((rd_T33 l1 x5_1).f0).toList)) || (!(((rd_T33 l0 x5_1).f1) == ((rd_T33 l1 x5_1).f1)) || (!(((rd_T33 l0 x5_1).f2) == ((rd_T33 l1 x5_1).f2))))) = false := by simpa using c7
                clear c7
                have H' := Aside0.mk H
                clear H
                have p109 : 0 ≤ (x5_1 : Int) := of_decide_eq_true (by first | (with_reducible assumption) | assumption)
                have q109 : x5_1 < (l0.length : Int) := of_decide_eq_true (by first | (with_reducible assumption) | assumption)
                obtain ⟨ad109, e109, hx109_0, hx109_1, hx109_2⟩ := at_T33 HR0.out x5_1 p109 q109
                cases e109
                replace p109 := eq_true p109
                replace q109 := eq_true q109
                have p110 : 0 ≤ (x5_1 : Int) := of_decide_eq_true (by first | (with_reducible assumption) | assumption)
                have q110 : x5_1 < (l1.length : Int) := of_decide_eq_true (by first | (with_reducible assumption) | assumption)
                obtain ⟨ad110, e110, hx110_0, hx110_1, hx110_2⟩ := at_T33 HR1.out x5_1 p110 q110
                cases e110
                replace p110 := eq_true p110
                replace q110 := eq_true q110
                go_wp2
                repeat (go_quiet (fail); try go_wp2)
                go_roundg k1
                case measure => have := HK1.out; omega
                case rel => exact ⟨(wrap64 (x5_1 + 1)), (by first | rfl | (simp; done) | (simp [*]; done)), H', ⟨by have := HK1.out; omega⟩, by repeat (first | exact Drawn0.refl _ | apply Drawn0.step)⟩
            · rw [if_neg c6] at H
              exact absurd H (by simp)
          · rw [if_neg c5] at H
            exact absurd H (by simp)
        · rw [if_neg c4] at H
          have c4b0 : decide (x5_1 < (l0.length : Int)) = false := decide_eq_false c4
          clear c4
          obtain rfl := Option.some.inj H
          go_wp2
          repeat (go_quiet (fail); try go_wp2)
          go_ret
          exact ⟨by first | rfl | (simp; done) | (simp [*]; done), by repeat (first | exact Drawn0.refl _ | apply Drawn0.step)⟩
  · rw [if_neg c3] at H
    have c3b0 : ((l0.length : Int) == (l1.length : Int)) = false := beq_eq_false_iff_ne.mpr c3
    have c3b1 : ((l0.length : Int) != (l1.length : Int)) = true := bne_iff_ne.mpr c3
    have c3b2 : (l0.length == l1.length) = false := by first | simpa using c3 | (simp at c3 ⊢; omega)
    obtain rfl := Option.some.inj H
    go_enter Tryd.func10, Tryd.ntmps10
    go_wp2
    repeat (go_quiet (fail); try go_wp2)
    go_ret
    exact ⟨by first | rfl | (simp; done) | (simp [*]; done), by repeat (first | exact Drawn0.refl _ | apply Drawn0.step)⟩

end Go.Proofs.YtiedbnjoomcdbaaDoor.PC

namespace Go.Proofs.YtiedbnjoomcdbaaDoor.PC
open Go.RowKit Go.Proofs.YtiedbnjoomcdbaaDoorW.PrintWords Go.Proofs.YtiedbnjoomcdbaaDoorW.PrintLast Go.Proofs.YtiedbnjoomcdbaaDoorW.PrintMore
attribute [local go_sem] max2_int min2_int max_two min_two max_three min_three max_four min_four   -- for this text's walks alone
set_option linter.unusedVariables false
set_option linter.unusedSimpArgs false

/-! ### bobstayref08_closing: function 48 -/
def bobstayref08_closing.f (a0 : Int) : Option (Int) := if a0 = 123 then (some 125) else (if a0 = 40 then (some 41) else (some 0))
set_option maxHeartbeats 8000000 in
set_option maxRecDepth 100000 in
theorem bobstayref08_closing.calls (a0 : Int) (r : Int) (w : World) (h : bobstayref08_closing.f a0 = some r) :
    Calls Tryd.prog 48 #[.int .u8 a0] w fun e w' => e = .returned (.int .u8 r) ∧ Drawn0 w w' := by
  have H : (if a0 = 123 then (some 125) else (if a0 = 40 then (some 41) else (some 0))) = some r := h
  clear h
  by_cases c2 : a0 = 123
  · rw [if_pos c2] at H
    have c2b0 : (a0 == 123) = true := beq_iff_eq.mpr c2
    have c2b1 : (a0 != 123) = false := bne_eq_false_iff_eq.mpr c2
    clear c2
    obtain rfl := Option.some.inj H
    go_enter Tryd.func48, Tryd.ntmps48
    go_wp2
    go_ret
    exact ⟨by first | rfl | (simp; done) | (simp [*]; done), by repeat (first | exact Drawn0.refl _ | apply Drawn0.step)⟩
  · rw [if_neg c2] at H
    have c2b0 : (a0 == 123) = false := beq_eq_false_iff_ne.mpr c2
    have c2b1 : (a0 != 123) = true := bne_iff_ne.mpr c2
    by_cases c3 : a0 = 40
    · rw [if_pos c3] at H
      have c3b0 : (a0 == 40) = true := beq_iff_eq.mpr c3
      have c3b1 : (a0 != 40) = false := bne_eq_false_iff_eq.mpr c3
      clear c3
      obtain rfl := Option.some.inj H
      go_enter Tryd.func48, Tryd.ntmps48
      go_wp2
      go_ret
      exact ⟨by first | rfl | (simp; done) | (simp [*]; done), by repeat (first | exact Drawn0.refl _ | apply Drawn0.step)⟩
    · rw [if_neg c3] at H
      have c3b0 : (a0 == 40) = false := beq_eq_false_iff_ne.mpr c3
      have c3b1 : (a0 != 40) = true := bne_iff_ne.mpr c3
      obtain rfl := Option.some.inj H
      go_enter Tryd.func48, Tryd.ntmps48
      go_wp2
      go_ret
      exact ⟨by first | rfl | (simp; done) | (simp [*]; done), by repeat (first | exact Drawn0.refl _ | apply Drawn0.step)⟩

end Go.Proofs.YtiedbnjoomcdbaaDoor.PC

namespace Go.Proofs.YtiedbnjoomcdbaaDoor.PC
open Go.RowKit Go.Proofs.YtiedbnjoomcdbaaDoorW.PrintWords Go.Proofs.YtiedbnjoomcdbaaDoorW.PrintLast Go.Proofs.YtiedbnjoomcdbaaDoorW.PrintMore
attribute [local go_sem] max2_int min2_int max_two min_two max_three min_three max_four min_four   -- for this text's walks alone
set_option linter.unusedVariables false
set_option linter.unusedSimpArgs false

/-! ### bobstayref08_End: function 38 -/
mutual
def bobstayref08_End.l0 : Nat → ByteArray → Int → Int → Int → Int → Option (Int)
  | 0, _, _, _, _, _ => none
  | k + 1, x0, x5, x6, x7, x8 => if x8 < (x0.size : Int) then (if 0 ≤ x8 then (if (bt x0 x8) = 36 then ((bobstayref08_End.f k x0 x8).bind fun t133 => (if t133 < 0 then (some (-1)) else (bobstayref08_End.l0 k x0 x5 x6 x7 t133))) else (if (bt x0 x8) = x6 then (bobstayref08_End.l0 k x0 x5 x6 (wrap64 (x7 + 1)) (wrap64 (x8 + 1))) else (if (bt x0 x8) = x5 then (if x7 = 0 then (some (wrap64 (x8 + 1))) else (bobstayref08_End.l0 k x0 x5 x6 (wrap64 (x7 - 1)) (wrap64 (x8 + 1)))) else (bobstayref08_End.l0 k x0 x5 x6 x7 (wrap64 (x8 + 1)))))) else (none)) else (some (-1))
def bobstayref08_End.f : Nat → ByteArray → Int → Option (Int)
  | 0, _, _ => none
  | k + 1, a0, a1 => if (wrap64 (a1 + 1)) ≥ (a0.size : Int) then (some (wrap64 (a1 + 1))) else (if 0 ≤ (wrap64 (a1 + 1)) then (if (wrap64 (a1 + 1)) < (a0.size : Int) then ((bobstayref08_closing.f (bt a0 (wrap64 (a1 + 1)))).bind fun t132 => (if t132 = 0 then (some (wrap64 (a1 + 2))) else (bobstayref08_End.l0 k a0 t132 (bt a0 (wrap64 (a1 + 1))) 0 (wrap64 (a1 + 2))))) else (none)) else (none))
end
theorem bobstayref08_End.mono_l : ∀ k, (∀ y0 y1, LeO (bobstayref08_End.f k y0 y1) (bobstayref08_End.f (k + 1) y0 y1)) ∧ (∀ y0 y1 y2 y3 y4, LeO (bobstayref08_End.l0 k y0 y1 y2 y3 y4) (bobstayref08_End.l0 (k + 1) y0 y1 y2 y3 y4))
  | 0 => ⟨fun _ _ r h => by simp [bobstayref08_End.f] at h, fun _ _ _ _ _ r h => by simp [bobstayref08_End.l0] at h⟩
  | k + 1 => by
    obtain ⟨ih0, ih1⟩ := bobstayref08_End.mono_l k
    refine ⟨?_, ?_⟩
    · intro y0 y1
      unfold bobstayref08_End.f
      repeat' first
      | (with_reducible exact ih0 _ _)
      | (with_reducible exact ih1 _ _ _ _ _)
      | (with_reducible exact LeO.refl _)
      | (with_reducible exact LeO.none _)
      | (with_reducible refine LeO.ite ?_ ?_)
      | (with_reducible refine LeO.bind ?_ (fun _ => ?_))
      | exact ih0 _ _
      | exact ih1 _ _ _ _ _
      | exact LeO.none _
      | refine LeO.ite ?_ ?_
      | refine LeO.bind ?_ (fun _ => ?_)
    · intro y0 y1 y2 y3 y4
      unfold bobstayref08_End.l0
      repeat' first
      | (with_reducible exact ih0 _ _)
      | (with_reducible exact ih1 _ _ _ _ _)
      | (with_reducible exact LeO.refl _)
      | (with_reducible exact LeO.none _)
      | (with_reducible refine LeO.ite ?_ ?_)
      | (with_reducible refine LeO.bind ?_ (fun _ => ?_))
      | exact ih0 _ _
      | exact ih1 _ _ _ _ _
      | exact LeO.none _
      | refine LeO.ite ?_ ?_
      | refine LeO.bind ?_ (fun _ => ?_)
theorem bobstayref08_End.mono : ∀ a0 a1 k, LeO (bobstayref08_End.f k a0 a1) (bobstayref08_End.f (k + 1) a0 a1) := by
  intro a0 a1 k
  obtain ⟨ih0, ih1⟩ := bobstayref08_End.mono_l k
  exact ih0 a0 a1
set_option maxHeartbeats 8000000 in
set_option maxRecDepth 100000 in
theorem bobstayref08_End.calls (k : Nat) : ∀ (a0 : ByteArray) (a1 : Int) (r : Int) (w : World) (h : bobstayref08_End.f k a0 a1 = some r),
    Calls Tryd.prog 38 #[.string a0, .int .i64 a1] w fun e w' => e = .returned (.int .i64 r) ∧ Drawn0 w w' := by
  induction k using Nat.strongRecOn with
  | _ k ih =>
  intro a0 a1 r w h
  cases k with
  | zero => exact absurd h (by simp [bobstayref08_End.f])
  | succ k =>
  simp only [bobstayref08_End.f] at h
  have H : (if (wrap64 (a1 + 1)) ≥ (a0.size : Int) then (some (wrap64 (a1 + 1))) else (if 0 ≤ (wrap64 (a1 + 1)) then (if (wrap64 (a1 + 1)) < (a0.size : Int) then ((bobstayref08_closing.f (bt a0 (wrap64 (a1 + 1)))).bind fun t132 => (if t132 = 0 then (some (wrap64 (a1 + 2))) else (bobstayref08_End.l0 k a0 t132 (bt a0 (wrap64 (a1 + 1))) 0 (wrap64 (a1 + 2))))) else (none)) else (none))) = some r := h
  clear h
  by_cases c3 : (wrap64 (a1 + 1)) ≥ (a0.size : Int)
  · rw [if_pos c3] at H
    have c3b0 : decide ((a0.size : Int) ≤ (wrap64 (a1 + 1))) = true := decide_eq_true c3
    clear c3
    obtain rfl := Option.some.inj H
    go_enter Tryd.func38, Tryd.ntmps38
    go_wp2
    go_ret
    exact ⟨by first | rfl | (simp; done) | (simp [*]; done), by repeat (first | exact Drawn0.refl _ | apply Drawn0.step)⟩
  · rw [if_neg c3] at H
    have c3b0 : decide ((a0.size : Int) ≤ (wrap64 (a1 + 1))) = false := decide_eq_false c3
    clear c3
    obtain ⟨ji4, hji4⟩ : ∃ j_ : Int, (wrap64 (a1 + 1)) = j_ := ⟨_, rfl⟩
    replace H : (if 0 ≤ (ji4) then (if (ji4) < (a0.size : Int) then ((bobstayref08_closing.f (bt a0 (ji4))).bind fun t132 => (if t132 = 0 then (some (wrap64 (a1 + 2))) else (bobstayref08_End.l0 k a0 t132 (bt a0 (ji4)) 0 (wrap64 (a1 + 2))))) else (none)) else (none)) = some r := by first | (rw [hji4] at H; exact H) | (simp only [hji4] at H ⊢; exact H)
    (try rw [hji4] at c3b0)
    have hji4w : (IntKind.i64.wrap (a1 + 1)) = ji4 := (i64_w _).trans hji4
    by_cases c5 : 0 ≤ (ji4)
    · rw [if_pos c5] at H
      have c5b0 : decide (0 ≤ (ji4)) = true := decide_eq_true c5
      clear c5
      by_cases c6 : (ji4) < (a0.size : Int)
      · rw [if_pos c6] at H
        have c6b0 : decide ((ji4) < (a0.size : Int)) = true := decide_eq_true c6
        clear c6
        replace H := Option.bind_eq_some_iff.mp H
        obtain ⟨t132, A80, H⟩ := H
        replace H : (if t132 = 0 then (some (wrap64 (a1 + 2))) else (bobstayref08_End.l0 k a0 t132 (bt a0 (ji4)) 0 (wrap64 (a1 + 2)))) = some r := H
        have A8 := Aside0.mk A80
        clear A80
        by_cases c9 : t132 = 0
        · rw [if_pos c9] at H
          have c9b0 : (t132 == 0) = true := beq_iff_eq.mpr c9
          have c9b1 : (t132 != 0) = false := bne_eq_false_iff_eq.mpr c9
          clear c9
          obtain rfl := Option.some.inj H
          have p7 : 0 ≤ ((ji4) : Int) := of_decide_eq_true (by first | (with_reducible assumption) | assumption)
          have q7 : (ji4) < (a0.size : Int) := of_decide_eq_true (by first | (with_reducible assumption) | assumption)
          have hx7 := bt_at a0 (ji4)
          replace p7 := eq_true p7
          replace q7 := eq_true q7
          go_enter Tryd.func38, Tryd.ntmps38
          go_wp2_with (first | ((with_reducible refine gate_callee (f := 48) rfl ?_); refine goesL_ (some 20) rfl rfl Tryd.func48 (by kernel_rfl) rfl #[.int .u8 (bt a0 (ji4))] rfl (by (try simp only [List.map_toArray, List.map_cons, List.map_nil]); first | done | (simp only [hji4]; rfl) | rfl | (simp only [List.length_drop, List.length_take]; rfl)) ?_; (with_reducible refine (bobstayref08_closing.calls (bt a0 (ji4)) t132 _ A8.out).mono ?_); rintro e w' ⟨rfl, ⟨nd, rfl⟩⟩; refine ⟨_, rfl, ?_⟩))
          go_ret
          exact ⟨by first | rfl | (simp; done) | (simp only [← hji4] <;> (first | rfl | simp)) | (simp [*]; done), by repeat (first | exact Drawn0.refl _ | apply Drawn0.step)⟩
        · rw [if_neg c9] at H
          have c9b0 : (t132 == 0) = false := beq_eq_false_iff_ne.mpr c9
          have c9b1 : (t132 != 0) = true := bne_iff_ne.mpr c9
          have H' := Aside0.mk H
          clear H
          have p7 : 0 ≤ ((ji4) : Int) := of_decide_eq_true (by first | (with_reducible assumption) | assumption)
          have q7 : (ji4) < (a0.size : Int) := of_decide_eq_true (by first | (with_reducible assumption) | assumption)
          have hx7 := bt_at a0 (ji4)
          replace p7 := eq_true p7
          replace q7 := eq_true q7
          go_enter Tryd.func38, Tryd.ntmps38
          go_wp2_with (first | ((with_reducible refine gate_callee (f := 48) rfl ?_); refine goesL_ (some 20) rfl rfl Tryd.func48 (by kernel_rfl) rfl #[.int .u8 (bt a0 (ji4))] rfl (by (try simp only [List.map_toArray, List.map_cons, List.map_nil]); first | done | (simp only [hji4]; rfl) | rfl | (simp only [List.length_drop, List.length_take]; rfl)) ?_; (with_reducible refine (bobstayref08_closing.calls (bt a0 (ji4)) t132 _ A8.out).mono ?_); rintro e w' ⟨rfl, ⟨nd, rfl⟩⟩; refine ⟨_, rfl, ?_⟩; have p10 : 0 ≤ ((ji4) : Int) := of_decide_eq_true (by first | (with_reducible assumption) | assumption); have q10 : (ji4) < (a0.size : Int) := of_decide_eq_true (by first | (with_reducible assumption) | assumption); have hx10 := bt_at a0 (ji4); replace p10 := eq_true p10; replace q10 := eq_true q10))
          go_loopg [7, 8] k (fun kq v7 v8 w' => ∃ (x7_1 : Int) (x8_1 : Int), v7 = .int .i64 x7_1 ∧ v8 = .int .i64 x8_1 ∧ Aside0 (bobstayref08_End.l0 kq a0 t132 (bt a0 (ji4)) x7_1 x8_1 = some r) ∧ Aside0 (kq ≤ k) ∧ Drawn0 w w')
          case atStart => exact ⟨(0), (wrap64 (a1 + 2)), (by first | rfl | (simp; done) | (simp [*]; done)), (by first | rfl | (simp; done) | (simp [*]; done)), H', ⟨Nat.le_refl _⟩, by repeat (first | exact Drawn0.refl _ | apply Drawn0.step)⟩
          case round =>
            clear H'
            try clear p1
            try clear q1
            try clear hx1
            try clear p2
            try clear c3
            try clear c3b0
            try clear c4
            try clear c5
            try clear c5b0
            try clear c6
            try clear c6b0
            try clear p6
            try clear p7
            try clear q7
            try clear hx7
            try clear c9
            try clear c9b0
            try clear c9b1
            try clear p10
            try clear q10
            try clear hx10
            try clear p10
            try clear p7
            try clear q10
            try clear q7
            obtain ⟨x7_1, x8_1, rfl, rfl, HA, HK1, ⟨m1, rfl⟩⟩ := hrel
            cases gk with
            | zero => exact absurd HA.out (by simp [bobstayref08_End.l0])
            | succ k1 =>
              have H := HA.out
              clear HA
              simp only [bobstayref08_End.l0] at H
              by_cases c11 : x8_1 < (a0.size : Int)
              · rw [if_pos c11] at H
                have c11b0 : decide (x8_1 < (a0.size : Int)) = true := decide_eq_true c11
                clear c11
                by_cases c12 : 0 ≤ x8_1
                · rw [if_pos c12] at H
                  have c12b0 : decide (0 ≤ x8_1) = true := decide_eq_true c12
                  clear c12
                  by_cases c14 : (bt a0 x8_1) = 36
                  · rw [if_pos c14] at H
                    have c14b0 : ((bt a0 x8_1) == 36) = true := beq_iff_eq.mpr c14
                    have c14b1 : ((bt a0 x8_1) != 36) = false := bne_eq_false_iff_eq.mpr c14
                    clear c14
                    replace H := Option.bind_eq_some_iff.mp H
                    obtain ⟨t133, A150, H⟩ := H
                    replace H : (if t133 < 0 then (some (-1)) else (bobstayref08_End.l0 k1 a0 t132 (bt a0 (ji4)) x7_1 t133)) = some r := H
                    have A15 := Aside0.mk A150
                    clear A150
                    by_cases c16 : t133 < 0
                    · rw [if_pos c16] at H
                      have c16b0 : decide (t133 < 0) = true := decide_eq_true c16
                      clear c16
                      obtain rfl := Option.some.inj H
                      have p13 : 0 ≤ (x8_1 : Int) := of_decide_eq_true (by first | (with_reducible assumption) | assumption)
                      have q13 : x8_1 < (a0.size : Int) := of_decide_eq_true (by first | (with_reducible assumption) | assumption)
                      have hx13 := bt_at a0 x8_1
                      replace p13 := eq_true p13
                      replace q13 := eq_true q13
                      go_wp2_with (first | ((with_reducible refine gate_callee (f := 38) rfl ?_); refine goesL_ (some 42) rfl rfl Tryd.func38 (by kernel_rfl) rfl #[.string a0, .int .i64 x8_1] rfl (by (try simp only [List.map_toArray, List.map_cons, List.map_nil]); first | done | rfl | (simp only [List.length_drop, List.length_take]; rfl)) ?_; (with_reducible refine (ih k1 (by have := HK1.out; omega) a0 x8_1 t133 _ A15.out).mono ?_); rintro e w' ⟨rfl, ⟨nd, rfl⟩⟩; refine ⟨_, rfl, ?_⟩))
                      go_ret
                      exact ⟨by first | rfl | (simp; done) | (simp only [← hji4] <;> (first | rfl | simp)) | (simp [*]; done), by repeat (first | exact Drawn0.refl _ | apply Drawn0.step)⟩
                    · rw [if_neg c16] at H
                      have c16b0 : decide (t133 < 0) = false := decide_eq_false c16
                      clear c16
                      have H' := Aside0.mk H
                      clear H
                      have p13 : 0 ≤ (x8_1 : Int) := of_decide_eq_true (by first | (with_reducible assumption) | assumption)
                      have q13 : x8_1 < (a0.size : Int) := of_decide_eq_true (by first | (with_reducible assumption) | assumption)
                      have hx13 := bt_at a0 x8_1
                      replace p13 := eq_true p13
                      replace q13 := eq_true q13
                      go_wp2_with (first | ((with_reducible refine gate_callee (f := 38) rfl ?_); refine goesL_ (some 42) rfl rfl Tryd.func38 (by kernel_rfl) rfl #[.string a0, .int .i64 x8_1] rfl (by (try simp only [List.map_toArray, List.map_cons, List.map_nil]); first | done | rfl | (simp only [List.length_drop, List.length_take]; rfl)) ?_; (with_reducible refine (ih k1 (by have := HK1.out; omega) a0 x8_1 t133 _ A15.out).mono ?_); rintro e w' ⟨rfl, ⟨nd, rfl⟩⟩; refine ⟨_, rfl, ?_⟩))
                      go_roundg k1
                      case measure => have := HK1.out; omega
                      case rel => exact ⟨(x7_1), (t133), (by first | rfl | (simp; done) | (simp [*]; done)), (by first | rfl | (simp; done) | (simp [*]; done)), H', ⟨by have := HK1.out; omega⟩, by repeat (first | exact Drawn0.refl _ | apply Drawn0.step)⟩
                  · rw [if_neg c14] at H
                    have c14b0 : ((bt a0 x8_1) == 36) = false := beq_eq_false_iff_ne.mpr c14
                    have c14b1 : ((bt a0 x8_1) != 36) = true := bne_iff_ne.mpr c14
                    by_cases c18 : (bt a0 x8_1) = (bt a0 (ji4))
                    · rw [if_pos c18] at H
                      have c18b0 : ((bt a0 x8_1) == (bt a0 (ji4))) = true := beq_iff_eq.mpr c18
                      have c18b1 : ((bt a0 x8_1) != (bt a0 (ji4))) = false := bne_eq_false_iff_eq.mpr c18
                      clear c18
                      have H' := Aside0.mk H
                      clear H
                      have p13 : 0 ≤ (x8_1 : Int) := of_decide_eq_true (by first | (with_reducible assumption) | assumption)
                      have q13 : x8_1 < (a0.size : Int) := of_decide_eq_true (by first | (with_reducible assumption) | assumption)
                      have hx13 := bt_at a0 x8_1
                      replace p13 := eq_true p13
                      replace q13 := eq_true q13
                      have p17 : 0 ≤ (x8_1 : Int) := of_decide_eq_true (by first | (with_reducible assumption) | assumption)
                      have q17 : x8_1 < (a0.size : Int) := of_decide_eq_true (by first | (with_reducible assumption) | assumption)
                      have hx17 := bt_at a0 x8_1
                      replace p17 := eq_true p17
                      replace q17 := eq_true q17
                      go_wp2
                      go_roundg k1
                      case measure => have := HK1.out; omega
                      case rel => exact ⟨(wrap64 (x7_1 + 1)), (wrap64 (x8_1 + 1)), (by first | rfl | (simp; done) | (simp [*]; done)), (by first | rfl | (simp; done) | (simp [*]; done)), H', ⟨by have := HK1.out; omega⟩, by repeat (first | exact Drawn0.refl _ | apply Drawn0.step)⟩
                    · rw [if_neg c18] at H
                      have c18b0 : ((bt a0 x8_1) == (bt a0 (ji4))) = false := beq_eq_false_iff_ne.mpr c18
                      have c18b1 : ((bt a0 x8_1) != (bt a0 (ji4))) = true := bne_iff_ne.mpr c18
                      by_cases c20 : (bt a0 x8_1) = t132
                      · rw [if_pos c20] at H
                        have c20b0 : ((bt a0 x8_1) == t132) = true := beq_iff_eq.mpr c20
                        have c20b1 : ((bt a0 x8_1) != t132) = false := bne_eq_false_iff_eq.mpr c20
                        clear c20
                        by_cases c21 : x7_1 = 0
                        · rw [if_pos c21] at H
                          have c21b0 : (x7_1 == 0) = true := beq_iff_eq.mpr c21
                          have c21b1 : (x7_1 != 0) = false := bne_eq_false_iff_eq.mpr c21
                          clear c21
                          obtain rfl := Option.some.inj H
                          have p13 : 0 ≤ (x8_1 : Int) := of_decide_eq_true (by first | (with_reducible assumption) | assumption)
                          have q13 : x8_1 < (a0.size : Int) := of_decide_eq_true (by first | (with_reducible assumption) | assumption)
                          have hx13 := bt_at a0 x8_1
                          replace p13 := eq_true p13
                          replace q13 := eq_true q13
                          have p17 : 0 ≤ (x8_1 : Int) := of_decide_eq_true (by first | (with_reducible assumption) | assumption)
                          have q17 : x8_1 < (a0.size : Int) := of_decide_eq_true (by first | (with_reducible assumption) | assumption)
                          have hx17 := bt_at a0 x8_1
                          replace p17 := eq_true p17
                          replace q17 := eq_true q17
                          have p19 : 0 ≤ (x8_1 : Int) := of_decide_eq_true (by first | (with_reducible assumption) | assumption)
                          have q19 : x8_1 < (a0.size : Int) := of_decide_eq_true (by first | (with_reducible assumption) | assumption)
                          have hx19 := bt_at a0 x8_1
                          replace p19 := eq_true p19
                          replace q19 := eq_true q19
                          go_wp2
                          go_ret
                          exact ⟨by first | rfl | (simp; done) | (simp only [← hji4] <;> (first | rfl | simp)) | (simp [*]; done), by repeat (first | exact Drawn0.refl _ | apply Drawn0.step)⟩
                        · rw [if_neg c21] at H
                          have c21b0 : (x7_1 == 0) = false := beq_eq_false_iff_ne.mpr c21
                          have c21b1 : (x7_1 != 0) = true := bne_iff_ne.mpr c21
                          have H' := Aside0.mk H
                          clear H
                          have p13 : 0 ≤ (x8_1 : Int) := of_decide_eq_true (by first | (with_reducible assumption) | assumption)
                          have q13 : x8_1 < (a0.size : Int) := of_decide_eq_true (by first | (with_reducible assumption) | assumption)
                          have hx13 := bt_at a0 x8_1
                          replace p13 := eq_true p13
                          replace q13 := eq_true q13
                          have p17 : 0 ≤ (x8_1 : Int) := of_decide_eq_true (by first | (with_reducible assumption) | assumption)
                          have q17 : x8_1 < (a0.size : Int) := of_decide_eq_true (by first | (with_reducible assumption) | assumption)
                          have hx17 := bt_at a0 x8_1
                          replace p17 := eq_true p17
                          replace q17 := eq_true q17
                          have p19 : 0 ≤ (x8_1 : Int) := of_decide_eq_true (by first | (with_reducible assumption) | assumption)
                          have q19 : x8_1 < (a0.size : Int) := of_decide_eq_true (by first | (with_reducible assumption) | assumption)
                          have hx19 := bt_at a0 x8_1
                          replace p19 := eq_true p19
                          replace q19 := eq_true q19
                          have p22 : 0 ≤ (x8_1 : Int) := of_decide_eq_true (by first | (with_reducible assumption) | assumption)
                          have q22 : x8_1 < (a0.size : Int) := of_decide_eq_true (by first | (with_reducible assumption) | assumption)
                          have hx22 := bt_at a0 x8_1
                          replace p22 := eq_true p22
                          replace q22 := eq_true q22
                          go_wp2
                          go_roundg k1
                          case measure => have := HK1.out; omega
                          case rel => exact ⟨(wrap64 (x7_1 - 1)), (wrap64 (x8_1 + 1)), (by first | rfl | (simp; done) | (simp [*]; done)), (by first | rfl | (simp; done) | (simp [*]; done)), H', ⟨by have := HK1.out; omega⟩, by repeat (first | exact Drawn0.refl _ | apply Drawn0.step)⟩
                      · rw [if_neg c20] at H
                        have c20b0 : ((bt a0 x8_1) == t132) = false := beq_eq_false_iff_ne.mpr c20
                        have c20b1 : ((bt a0 x8_1) != t132) = true := bne_iff_ne.mpr c20
                        have H' := Aside0.mk H
                        clear H
                        have p13 : 0 ≤ (x8_1 : Int) := of_decide_eq_true (by first | (with_reducible assumption) | assumption)
                        have q13 : x8_1 < (a0.size : Int) := of_decide_eq_true (by first | (with_reducible assumption) | assumption)
                        have hx13 := bt_at a0 x8_1
                        replace p13 := eq_true p13
                        replace q13 := eq_true q13
                        have p17 : 0 ≤ (x8_1 : Int) := of_decide_eq_true (by first | (with_reducible assumption) | assumption)
                        have q17 : x8_1 < (a0.size : Int) := of_decide_eq_true (by first | (with_reducible assumption) | assumption)
                        have hx17 := bt_at a0 x8_1
                        replace p17 := eq_true p17
                        replace q17 := eq_true q17
                        have p19 : 0 ≤ (x8_1 : Int) := of_decide_eq_true (by first | (with_reducible assumption) | assumption)
                        have q19 : x8_1 < (a0.size : Int) := of_decide_eq_true (by first | (with_reducible assumption) | assumption)
                        have hx19 := bt_at a0 x8_1
                        replace p19 := eq_true p19
                        replace q19 := eq_true q19
                        have p23 : 0 ≤ (x8_1 : Int) := of_decide_eq_true (by first | (with_reducible assumption) | assumption)
                        have q23 : x8_1 < (a0.size : Int) := of_decide_eq_true (by first | (with_reducible assumption) | assumption)
                        have hx23 := bt_at a0 x8_1
                        replace p23 := eq_true p23
                        replace q23 := eq_true q23
                        go_wp2
                        go_roundg k1
                        case measure => have := HK1.out; omega
                        case rel => exact ⟨(x7_1), (wrap64 (x8_1 + 1)), (by first | rfl | (simp; done) | (simp [*]; done)), (by first | rfl | (simp; done) | (simp [*]; done)), H', ⟨by have := HK1.out; omega⟩, by repeat (first | exact Drawn0.refl _ | apply Drawn0.step)⟩
                · rw [if_neg c12] at H
                  exact absurd H (by simp)
              · rw [if_neg c11] at H
                have c11b0 : decide (x8_1 < (a0.size : Int)) = false := decide_eq_false c11
                clear c11
                obtain rfl := Option.some.inj H
                go_wp2
                go_ret
                exact ⟨by first | rfl | (simp; done) | (simp only [← hji4] <;> (first | rfl | simp)) | (simp [*]; done), by repeat (first | exact Drawn0.refl _ | apply Drawn0.step)⟩
      · rw [if_neg c6] at H
        exact absurd H (by simp)
    · rw [if_neg c5] at H
      exact absurd H (by simp)

end Go.Proofs.YtiedbnjoomcdbaaDoor.PC

namespace Go.Proofs.YtiedbnjoomcdbaaDoor.PC
open Go.RowKit Go.Proofs.YtiedbnjoomcdbaaDoorW.PrintWords Go.Proofs.YtiedbnjoomcdbaaDoorW.PrintLast Go.Proofs.YtiedbnjoomcdbaaDoorW.PrintMore
attribute [local go_sem] max2_int min2_int max_two min_two max_three min_three max_four min_four   -- for this text's walks alone
set_option linter.unusedVariables false
set_option linter.unusedSimpArgs false

/-! ### bobstayref08_Quote: function 39 -/
def bobstayref08_Quote.l0 : Nat → ByteArray → List Int → Int → Option (ByteArray)
  | 0, _, _, _ => none
  | k + 1, x0, x3, x4 => if x4 < (x0.size : Int) then (if 0 ≤ x4 then (if (bt x0 x4) = 36 then (if x3.length < 140737488355328 then ((some (x3 ++ [36] : List Int)).bind fun y134 => (if y134.length < 140737488355328 then (bobstayref08_Quote.l0 k x0 (y134 ++ [bt x0 x4]) (wrap64 (x4 + 1))) else (none))) else (none)) else (if x3.length < 140737488355328 then (bobstayref08_Quote.l0 k x0 (x3 ++ [bt x0 x4]) (wrap64 (x4 + 1))) else (none))) else (none)) else (some (strOfNums x3))
def bobstayref08_Quote.f (k : Nat) (a0 : ByteArray) : Option (ByteArray) := bobstayref08_Quote.l0 k a0 ([] : List Int) 0
theorem bobstayref08_Quote.mono_l : ∀ k, (∀ y0 y1 y2, LeO (bobstayref08_Quote.l0 k y0 y1 y2) (bobstayref08_Quote.l0 (k + 1) y0 y1 y2))
  | 0 => fun _ _ _ r h => by simp [bobstayref08_Quote.l0] at h
  | k + 1 => by
    have ih0 := bobstayref08_Quote.mono_l k
    · intro y0 y1 y2
      unfold bobstayref08_Quote.l0
      repeat' first
      | (with_reducible exact ih0 _ _ _)
      | (with_reducible exact LeO.refl _)
      | (with_reducible exact LeO.none _)
      | (with_reducible refine LeO.ite ?_ ?_)
      | (with_reducible refine LeO.bind ?_ (fun _ => ?_))
      | exact ih0 _ _ _
      | exact LeO.none _
      | refine LeO.ite ?_ ?_
      | refine LeO.bind ?_ (fun _ => ?_)
theorem bobstayref08_Quote.mono : ∀ a0 k, LeO (bobstayref08_Quote.f k a0) (bobstayref08_Quote.f (k + 1) a0) := by
  intro a0 k
  have ih0 := bobstayref08_Quote.mono_l k
  unfold bobstayref08_Quote.f
  repeat' first
      | (with_reducible exact ih0 _ _ _)
      | (with_reducible exact LeO.refl _)
      | (with_reducible exact LeO.none _)
      | (with_reducible refine LeO.ite ?_ ?_)
      | (with_reducible refine LeO.bind ?_ (fun _ => ?_))
      | exact ih0 _ _ _
      | exact LeO.none _
      | refine LeO.ite ?_ ?_
      | refine LeO.bind ?_ (fun _ => ?_)
set_option maxHeartbeats 8000000 in
set_option maxRecDepth 100000 in
theorem bobstayref08_Quote.calls (k : Nat) (a0 : ByteArray) (r : ByteArray) (w : World) (h : bobstayref08_Quote.f k a0 = some r) :
    Calls Tryd.prog 39 #[.string a0] w fun e w' => e = .returned (.string r) ∧ Below w.heap.size w w' := by
  have HB := Aside0.mk (Below.refl w.heap.size w)
  have H : (bobstayref08_Quote.l0 k a0 ([] : List Int) 0) = some r := h
  clear h
  have H' := Aside0.mk H
  clear H
  go_enter Tryd.func39, Tryd.ntmps39
  go_wp2
  go_loopg [3, 4] k (fun kq v3 v4 w' => ∃ (x3_1 : List Int) (x4_1 : Int), v4 = .int .i64 x4_1 ∧ Aside0 (bobstayref08_Quote.l0 kq a0 x3_1 x4_1 = some r) ∧ Aside0 (kq ≤ k) ∧ Aside0 (Kd.R (Kd.int .u8) 5 w' w.heap.size (fun _ => True) v3 x3_1) ∧ Aside0 (Below w.heap.size w w'))
  case atStart => exact ⟨(([] : List Int)), (0), (by first | rfl | (simp; done) | (simp [*]; done)), H', ⟨Nat.le_refl _⟩, ⟨by first | exact Kd.R_nil _ _ _ _ _ | exact Kd.N_nil _ _ _ _ _ | exact Kd.V_nil _ _ _ _ _ | exact Kd.Q_nil _ _ _ _ _ | exact Kd.S_nil _ _ _ _ _⟩, ⟨by repeat (first | (with_reducible first | exact HB.out | apply below_alloc | apply pw_below_drewN | apply below_drew1) | exact HB.out)⟩⟩
  case round =>
    clear H'
    obtain ⟨x3_1, x4_1, rfl, HA, HK1, HO_3, HB⟩ := hrel
    cases gk with
    | zero => exact absurd HA.out (by simp [bobstayref08_Quote.l0])
    | succ k1 =>
      have H := HA.out
      clear HA
      simp only [bobstayref08_Quote.l0] at H
      by_cases c2 : x4_1 < (a0.size : Int)
      · rw [if_pos c2] at H
        have c2b0 : decide (x4_1 < (a0.size : Int)) = true := decide_eq_true c2
        clear c2
        by_cases c3 : 0 ≤ x4_1
        · rw [if_pos c3] at H
          have c3b0 : decide (0 ≤ x4_1) = true := decide_eq_true c3
          clear c3
          by_cases c5 : (bt a0 x4_1) = 36
          · rw [if_pos c5] at H
            have c5b0 : ((bt a0 x4_1) == 36) = true := beq_iff_eq.mpr c5
            have c5b1 : ((bt a0 x4_1) != 36) = false := bne_eq_false_iff_eq.mpr c5
            clear c5
            by_cases c6 : x3_1.length < 140737488355328
            · rw [if_pos c6] at H
              have LMc6 := Aside0.mk c6
              clear c6
              obtain ⟨y134, hy134⟩ : ∃ y_ : List Int, y_ = (x3_1 ++ [36]) := ⟨_, rfl⟩
              replace H : (if y134.length < 140737488355328 then (bobstayref08_Quote.l0 k1 a0 (y134 ++ [bt a0 x4_1]) (wrap64 (x4_1 + 1))) else (none)) = some r := by first | (rw [hy134]; with_reducible exact H) | (have H2_ := (Option.bind_some _ _).symm.trans H; rw [hy134]; with_reducible exact H2_) | (have H2_ := (Option.bind_some _ _).symm.trans H; with_reducible exact H2_) | with_reducible exact H | (rw [hy134]; exact H) | exact H
              have Ny134 := Aside0.mk hy134
              clear hy134
              by_cases c8 : y134.length < 140737488355328
              · rw [if_pos c8] at H
                have LMc8 := Aside0.mk c8
                clear c8
                obtain ⟨y137, hy137⟩ : ∃ y_ : List Int, y_ = (y134 ++ [bt a0 x4_1]) := ⟨_, rfl⟩
                replace H : (bobstayref08_Quote.l0 k1 a0 y137 (wrap64 (x4_1 + 1))) = some r := by first | (rw [hy137]; with_reducible exact H) | (have H2_ := (Option.bind_some _ _).symm.trans H; rw [hy137]; with_reducible exact H2_) | (have H2_ := (Option.bind_some _ _).symm.trans H; with_reducible exact H2_) | with_reducible exact H | (rw [hy137]; exact H) | exact H
                have Ny137 := Aside0.mk hy137
                clear hy137
                have H' := Aside0.mk H
                clear H
                have p4 : 0 ≤ (x4_1 : Int) := of_decide_eq_true (by first | (with_reducible assumption) | assumption)
                have q4 : x4_1 < (a0.size : Int) := of_decide_eq_true (by first | (with_reducible assumption) | assumption)
                have hx4 := bt_at a0 x4_1
                replace p4 := eq_true p4
                replace q4 := eq_true q4
                go_wp2_with (first | ((with_reducible refine gate_builtin (b := .append) (xs := #[.tmp 15, .tmp 16]) rfl ?_); at_builtin; refine Kd.R_append (Kd.int .u8) (w0 := w) w.heap.size rfl (.tmp 15) (.tmp 16) 77 5 (.int .u8 0) 1 rfl Tryd.underlying77 info5 rfl (by decide) (by omega) u3 x3_1 36 [.int .u8 36] (fun _ => True) (fun _ => False) rfl rfl ?aP (fun _ hk => hk.elim) ?aF ?aO ?aB ?aS ?aL ?_; (case aP => exact rfl); (case aB => exact (by repeat (first | (with_reducible first | exact HB.out | apply below_alloc | apply pw_below_drewN | apply below_drew1) | exact HB.out))); (case aF => exact (fun _ _ => trivial)); (case aO => exact (by (with_reducible repeat (first | apply Kd.R_alloc | apply Kd.R_drewN | apply Kd.R_drew)); exact HO_3.out)); (case aS => exact (below_size (by repeat (first | (with_reducible first | exact HB.out | apply below_alloc | apply pw_below_drewN | apply below_drew1) | exact HB.out)))); (case aL => have := LMc6.out; omega); intro v135 w9 ho hb hg hat; rw [← Ny134.out] at ho; have n0_ := Aside0.mk (hb); have n1_ := Aside0.mk (ho); clear HB; clear HO_3; have HB := n0_; have HO136 := n1_; clear n0_ n1_; clear ho hb hg hat; have p7 : 0 ≤ (x4_1 : Int) := of_decide_eq_true (by first | (with_reducible assumption) | assumption); have q7 : x4_1 < (a0.size : Int) := of_decide_eq_true (by first | (with_reducible assumption) | assumption); have hx7 := bt_at a0 x4_1; replace p7 := eq_true p7; replace q7 := eq_true q7) | ((with_reducible refine gate_builtin (b := .append) (xs := #[.tmp 18, .tmp 22]) rfl ?_); at_builtin; refine Kd.R_append (Kd.int .u8) (w0 := w) w.heap.size rfl (.tmp 18) (.tmp 22) 77 5 (.int .u8 0) 1 rfl Tryd.underlying77 info5 rfl (by decide) (by omega) v135 y134 (bt a0 x4_1) [.int .u8 (bt a0 x4_1)] (fun _ => True) (fun _ => False) rfl rfl ?aP (fun _ hk => hk.elim) ?aF ?aO ?aB ?aS ?aL ?_; (case aP => exact rfl); (case aB => exact (by repeat (first | (with_reducible first | exact HB.out | apply below_alloc | apply pw_below_drewN | apply below_drew1) | exact HB.out))); (case aF => exact (fun _ _ => trivial)); (case aO => exact (by (with_reducible repeat (first | apply Kd.R_alloc | apply Kd.R_drewN | apply Kd.R_drew)); exact HO136.out)); (case aS => exact (below_size (by repeat (first | (with_reducible first | exact HB.out | apply below_alloc | apply pw_below_drewN | apply below_drew1) | exact HB.out)))); (case aL => have := LMc8.out; omega); intro v138 w10 ho hb hg hat; rw [← Ny137.out] at ho; have n0_ := Aside0.mk (hb); have n1_ := Aside0.mk (ho); clear HB; clear HO136; have HB := n0_; have HO139 := n1_; clear n0_ n1_; clear ho hb hg hat))
                go_roundg k1
                case measure => have := HK1.out; omega
                case rel => exact ⟨(y137), (wrap64 (x4_1 + 1)), (by first | rfl | (simp; done) | (simp [*]; done)), H', ⟨by have := HK1.out; omega⟩, ⟨by (with_reducible repeat (first | apply Kd.R_alloc | apply Kd.R_drewN | apply Kd.R_drew)); exact HO139.out⟩, ⟨by repeat (first | (with_reducible first | exact HB.out | apply below_alloc | apply pw_below_drewN | apply below_drew1) | exact HB.out)⟩⟩
              · rw [if_neg c8] at H
                exact absurd H (by simp)
            · rw [if_neg c6] at H
              exact absurd H (by simp)
          · rw [if_neg c5] at H
            have c5b0 : ((bt a0 x4_1) == 36) = false := beq_eq_false_iff_ne.mpr c5
            have c5b1 : ((bt a0 x4_1) != 36) = true := bne_iff_ne.mpr c5
            by_cases c12 : x3_1.length < 140737488355328
            · rw [if_pos c12] at H
              have LMc12 := Aside0.mk c12
              clear c12
              obtain ⟨y140, hy140⟩ : ∃ y_ : List Int, y_ = (x3_1 ++ [bt a0 x4_1]) := ⟨_, rfl⟩
              replace H : (bobstayref08_Quote.l0 k1 a0 y140 (wrap64 (x4_1 + 1))) = some r := by first | (rw [hy140]; with_reducible exact H) | (have H2_ := (Option.bind_some _ _).symm.trans H; rw [hy140]; with_reducible exact H2_) | (have H2_ := (Option.bind_some _ _).symm.trans H; with_reducible exact H2_) | with_reducible exact H | (rw [hy140]; exact H) | exact H
              have Ny140 := Aside0.mk hy140
              clear hy140
              have H' := Aside0.mk H
              clear H
              have p4 : 0 ≤ (x4_1 : Int) := of_decide_eq_true (by first | (with_reducible assumption) | assumption)
              have q4 : x4_1 < (a0.size : Int) := of_decide_eq_true (by first | (with_reducible assumption) | assumption)
              have hx4 := bt_at a0 x4_1
              replace p4 := eq_true p4
              replace q4 := eq_true q4
              have p11 : 0 ≤ (x4_1 : Int) := of_decide_eq_true (by first | (with_reducible assumption) | assumption)
              have q11 : x4_1 < (a0.size : Int) := of_decide_eq_true (by first | (with_reducible assumption) | assumption)
              have hx11 := bt_at a0 x4_1
              replace p11 := eq_true p11
              replace q11 := eq_true q11
              go_wp2_with (first | ((with_reducible refine gate_builtin (b := .append) (xs := #[.tmp 18, .tmp 22]) rfl ?_); at_builtin; refine Kd.R_append (Kd.int .u8) (w0 := w) w.heap.size rfl (.tmp 18) (.tmp 22) 77 5 (.int .u8 0) 1 rfl Tryd.underlying77 info5 rfl (by decide) (by omega) u3 x3_1 (bt a0 x4_1) [.int .u8 (bt a0 x4_1)] (fun _ => True) (fun _ => False) rfl rfl ?aP (fun _ hk => hk.elim) ?aF ?aO ?aB ?aS ?aL ?_; (case aP => exact rfl); (case aB => exact (by repeat (first | (with_reducible first | exact HB.out | apply below_alloc | apply pw_below_drewN | apply below_drew1) | exact HB.out))); (case aF => exact (fun _ _ => trivial)); (case aO => exact (by (with_reducible repeat (first | apply Kd.R_alloc | apply Kd.R_drewN | apply Kd.R_drew)); exact HO_3.out)); (case aS => exact (below_size (by repeat (first | (with_reducible first | exact HB.out | apply below_alloc | apply pw_below_drewN | apply below_drew1) | exact HB.out)))); (case aL => have := LMc12.out; omega); intro v141 w13 ho hb hg hat; rw [← Ny140.out] at ho; have n0_ := Aside0.mk (hb); have n1_ := Aside0.mk (ho); clear HB; clear HO_3; have HB := n0_; have HO142 := n1_; clear n0_ n1_; clear ho hb hg hat))
              go_roundg k1
              case measure => have := HK1.out; omega
              case rel => exact ⟨(y140), (wrap64 (x4_1 + 1)), (by first | rfl | (simp; done) | (simp [*]; done)), H', ⟨by have := HK1.out; omega⟩, ⟨by (with_reducible repeat (first | apply Kd.R_alloc | apply Kd.R_drewN | apply Kd.R_drew)); exact HO142.out⟩, ⟨by repeat (first | (with_reducible first | exact HB.out | apply below_alloc | apply pw_below_drewN | apply below_drew1) | exact HB.out)⟩⟩
            · rw [if_neg c12] at H
              exact absurd H (by simp)
        · rw [if_neg c3] at H
          exact absurd H (by simp)
      · rw [if_neg c2] at H
        have c2b0 : decide (x4_1 < (a0.size : Int)) = false := decide_eq_false c2
        clear c2
        obtain rfl := Option.some.inj H
        have hcv14 := own_string (P := Tryd.prog) Tryd.underlying77 Tryd.underlying5 Tryd.underlying9 (Kd.own_of_R HO_3.out)
        go_wp2
        go_ret
        exact ⟨by first | rfl | (simp [errW_none, errW_some] <;> rfl) | (simp [*, errW_none, errW_some] <;> rfl), by repeat (first | (with_reducible first | exact HB.out | apply below_alloc | apply pw_below_drewN | apply below_drew1) | exact HB.out)⟩

end Go.Proofs.YtiedbnjoomcdbaaDoor.PC

namespace Go.Proofs.YtiedbnjoomcdbaaDoor.PC
open Go.RowKit Go.Proofs.YtiedbnjoomcdbaaDoorW.PrintWords Go.Proofs.YtiedbnjoomcdbaaDoorW.PrintLast Go.Proofs.YtiedbnjoomcdbaaDoorW.PrintMore
attribute [local go_sem] max2_int min2_int max_two min_two max_three min_three max_four min_four   -- for this text's walks alone
set_option linter.unusedVariables false
set_option linter.unusedSimpArgs false

/-! ### bobstayref12_bind: function 26 -/
def bobstayref12_bind.l0 : Nat → ByteArray → ByteArray → ByteArray → ByteArray → Int → Option (ByteArray)
  | 0, _, _, _, _, _ => none
  | k + 1, x0, x1, x2, x7, x8 => if x8 < (x0.size : Int) then (if 0 ≤ x8 then (if (bt x0 x8) = 36 then (if (wrap64 (x8 + 1)) < (x0.size : Int) then (if 0 ≤ (wrap64 (x8 + 1)) then (if (bt x0 (wrap64 (x8 + 1))) = 36 then (if x7.size + 2 ≤ 9223372036854775807 then (bobstayref12_bind.l0 k x0 x1 x2 (x7 ++ (⟨#[36, 36]⟩ : ByteArray)) (wrap64 (x8 + 2))) else (none)) else ((bobstayref08_End.f k x0 x8).bind fun t143 => (if t143 > 0 then (if x8 ≤ t143 then (if t143 ≤ (x0.size : Int) then (if 2 + x1.size ≤ 9223372036854775807 then (if ((⟨#[36, 123]⟩ : ByteArray) ++ x1).size + 1 ≤ 9223372036854775807 then (if (x0.extract (x8 : Int).toNat (t143 : Int).toNat).toList = (((⟨#[36, 123]⟩ : ByteArray) ++ x1) ++ (⟨#[125]⟩ : ByteArray)).toList then ((bobstayref08_Quote.f k x2).bind fun t144 => (if x7.size + t144.size ≤ 9223372036854775807 then (bobstayref12_bind.l0 k x0 x1 x2 (x7 ++ t144) t143) else (none))) else (if ((⟨#[36, 40]⟩ : ByteArray) ++ x1).size + 1 ≤ 9223372036854775807 then (if (x0.extract (x8 : Int).toNat (t143 : Int).toNat).toList = (((⟨#[36, 40]⟩ : ByteArray) ++ x1) ++ (⟨#[41]⟩ : ByteArray)).toList then ((bobstayref08_Quote.f k x2).bind fun t145 => (if x7.size + t145.size ≤ 9223372036854775807 then (bobstayref12_bind.l0 k x0 x1 x2 (x7 ++ t145) t143) else (none))) else (if (x1.size : Int) = 1 then (if 1 + x1.size ≤ 9223372036854775807 then (if (x0.extract (x8 : Int).toNat (t143 : Int).toNat).toList = ((⟨#[36]⟩ : ByteArray) ++ x1).toList then ((bobstayref08_Quote.f k x2).bind fun t146 => (if x7.size + t146.size ≤ 9223372036854775807 then (bobstayref12_bind.l0 k x0 x1 x2 (x7 ++ t146) t143) else (none))) else (if x7.size + 1 ≤ 9223372036854775807 then (bobstayref12_bind.l0 k x0 x1 x2 (x7 ++ (⟨#[36]⟩ : ByteArray)) (wrap64 (x8 + 1))) else (none))) else (none)) else (if x7.size + 1 ≤ 9223372036854775807 then (bobstayref12_bind.l0 k x0 x1 x2 (x7 ++ (⟨#[36]⟩ : ByteArray)) (wrap64 (x8 + 1))) else (none)))) else (none))) else (none)) else (none)) else (none)) else (none)) else (if 2 + x1.size ≤ 9223372036854775807 then (if ((⟨#[36, 123]⟩ : ByteArray) ++ x1).size + 1 ≤ 9223372036854775807 then (if ([36] : List UInt8) = (((⟨#[36, 123]⟩ : ByteArray) ++ x1) ++ (⟨#[125]⟩ : ByteArray)).toList then ((bobstayref08_Quote.f k x2).bind fun t147 => (if x7.size + t147.size ≤ 9223372036854775807 then (bobstayref12_bind.l0 k x0 x1 x2 (x7 ++ t147) t143) else (none))) else (if ((⟨#[36, 40]⟩ : ByteArray) ++ x1).size + 1 ≤ 9223372036854775807 then (if ([36] : List UInt8) = (((⟨#[36, 40]⟩ : ByteArray) ++ x1) ++ (⟨#[41]⟩ : ByteArray)).toList then ((bobstayref08_Quote.f k x2).bind fun t148 => (if x7.size + t148.size ≤ 9223372036854775807 then (bobstayref12_bind.l0 k x0 x1 x2 (x7 ++ t148) t143) else (none))) else (if (x1.size : Int) = 1 then (if 1 + x1.size ≤ 9223372036854775807 then (if ([36] : List UInt8) = ((⟨#[36]⟩ : ByteArray) ++ x1).toList then ((bobstayref08_Quote.f k x2).bind fun t149 => (if x7.size + t149.size ≤ 9223372036854775807 then (bobstayref12_bind.l0 k x0 x1 x2 (x7 ++ t149) t143) else (none))) else (if x7.size + 1 ≤ 9223372036854775807 then (bobstayref12_bind.l0 k x0 x1 x2 (x7 ++ (⟨#[36]⟩ : ByteArray)) (wrap64 (x8 + 1))) else (none))) else (none)) else (if x7.size + 1 ≤ 9223372036854775807 then (bobstayref12_bind.l0 k x0 x1 x2 (x7 ++ (⟨#[36]⟩ : ByteArray)) (wrap64 (x8 + 1))) else (none)))) else (none))) else (none)) else (none))))) else (none)) else ((bobstayref08_End.f k x0 x8).bind fun t150 => (if t150 > 0 then (if x8 ≤ t150 then (if t150 ≤ (x0.size : Int) then (if 2 + x1.size ≤ 9223372036854775807 then (if ((⟨#[36, 123]⟩ : ByteArray) ++ x1).size + 1 ≤ 9223372036854775807 then (if (x0.extract (x8 : Int).toNat (t150 : Int).toNat).toList = (((⟨#[36, 123]⟩ : ByteArray) ++ x1) ++ (⟨#[125]⟩ : ByteArray)).toList then ((bobstayref08_Quote.f k x2).bind fun t151 => (if x7.size + t151.size ≤ 9223372036854775807 then (bobstayref12_bind.l0 k x0 x1 x2 (x7 ++ t151) t150) else (none))) else (if ((⟨#[36, 40]⟩ : ByteArray) ++ x1).size + 1 ≤ 9223372036854775807 then (if (x0.extract (x8 : Int).toNat (t150 : Int).toNat).toList = (((⟨#[36, 40]⟩ : ByteArray) ++ x1) ++ (⟨#[41]⟩ : ByteArray)).toList then ((bobstayref08_Quote.f k x2).bind fun t152 => (if x7.size + t152.size ≤ 9223372036854775807 then (bobstayref12_bind.l0 k x0 x1 x2 (x7 ++ t152) t150) else (none))) else (if (x1.size : Int) = 1 then (if 1 + x1.size ≤ 9223372036854775807 then (if (x0.extract (x8 : Int).toNat (t150 : Int).toNat).toList = ((⟨#[36]⟩ : ByteArray) ++ x1).toList then ((bobstayref08_Quote.f k x2).bind fun t153 => (if x7.size + t153.size ≤ 9223372036854775807 then (bobstayref12_bind.l0 k x0 x1 x2 (x7 ++ t153) t150) else (none))) else (if x7.size + 1 ≤ 9223372036854775807 then (bobstayref12_bind.l0 k x0 x1 x2 (x7 ++ (⟨#[36]⟩ : ByteArray)) (wrap64 (x8 + 1))) else (none))) else (none)) else (if x7.size + 1 ≤ 9223372036854775807 then (bobstayref12_bind.l0 k x0 x1 x2 (x7 ++ (⟨#[36]⟩ : ByteArray)) (wrap64 (x8 + 1))) else (none)))) else (none))) else (none)) else (none)) else (none)) else (none)) else (if 2 + x1.size ≤ 9223372036854775807 then (if ((⟨#[36, 123]⟩ : ByteArray) ++ x1).size + 1 ≤ 9223372036854775807 then (if ([36] : List UInt8) = (((⟨#[36, 123]⟩ : ByteArray) ++ x1) ++ (⟨#[125]⟩ : ByteArray)).toList then ((bobstayref08_Quote.f k x2).bind fun t154 => (if x7.size + t154.size ≤ 9223372036854775807 then (bobstayref12_bind.l0 k x0 x1 x2 (x7 ++ t154) t150) else (none))) else (if ((⟨#[36, 40]⟩ : ByteArray) ++ x1).size + 1 ≤ 9223372036854775807 then (if ([36] : List UInt8) = (((⟨#[36, 40]⟩ : ByteArray) ++ x1) ++ (⟨#[41]⟩ : ByteArray)).toList then ((bobstayref08_Quote.f k x2).bind fun t155 => (if x7.size + t155.size ≤ 9223372036854775807 then (bobstayref12_bind.l0 k x0 x1 x2 (x7 ++ t155) t150) else (none))) else (if (x1.size : Int) = 1 then (if 1 + x1.size ≤ 9223372036854775807 then (if ([36] : List UInt8) = ((⟨#[36]⟩ : ByteArray) ++ x1).toList then ((bobstayref08_Quote.f k x2).bind fun t156 => (if x7.size + t156.size ≤ 9223372036854775807 then (bobstayref12_bind.l0 k x0 x1 x2 (x7 ++ t156) t150) else (none))) else (if x7.size + 1 ≤ 9223372036854775807 then (bobstayref12_bind.l0 k x0 x1 x2 (x7 ++ (⟨#[36]⟩ : ByteArray)) (wrap64 (x8 + 1))) else (none))) else (none)) else (if x7.size + 1 ≤ 9223372036854775807 then (bobstayref12_bind.l0 k x0 x1 x2 (x7 ++ (⟨#[36]⟩ : ByteArray)) (wrap64 (x8 + 1))) else (none)))) else (none))) else (none)) else (none))))) else (if x8 ≤ (wrap64 (x8 + 1)) then (if (wrap64 (x8 + 1)) ≤ (x0.size : Int) then (if x7.size + (x0.extract (x8 : Int).toNat ((wrap64 (x8 + 1)) : Int).toNat).size ≤ 9223372036854775807 then (bobstayref12_bind.l0 k x0 x1 x2 (x7 ++ (x0.extract (x8 : Int).toNat ((wrap64 (x8 + 1)) : Int).toNat)) (wrap64 (x8 + 1))) else (none)) else (none)) else (none))) else (none)) else (some x7)
def bobstayref12_bind.f (k : Nat) (a0 : ByteArray) (a1 : ByteArray) (a2 : ByteArray) : Option (ByteArray) := bobstayref12_bind.l0 k a0 a1 a2 (⟨#[]⟩ : ByteArray) 0
theorem bobstayref12_bind.mono_l : ∀ k, (∀ y0 y1 y2 y3 y4, LeO (bobstayref12_bind.l0 k y0 y1 y2 y3 y4) (bobstayref12_bind.l0 (k + 1) y0 y1 y2 y3 y4))
  | 0 => fun _ _ _ _ _ r h => by simp [bobstayref12_bind.l0] at h
  | k + 1 => by
    have ih0 := bobstayref12_bind.mono_l k
    · intro y0 y1 y2 y3 y4
      unfold bobstayref12_bind.l0
      repeat' first
      | (with_reducible exact ih0 _ _ _ _ _)
      | (with_reducible exact bobstayref08_End.mono _ _ _)
      | (with_reducible exact bobstayref08_Quote.mono _ _)
      | (with_reducible exact LeO.refl _)
      | (with_reducible exact LeO.none _)
      | (with_reducible refine LeO.ite ?_ ?_)
      | (with_reducible refine LeO.bind ?_ (fun _ => ?_))
      | exact ih0 _ _ _ _ _
      | exact bobstayref08_End.mono _ _ _
      | exact bobstayref08_Quote.mono _ _
      | exact LeO.none _
      | refine LeO.ite ?_ ?_
      | refine LeO.bind ?_ (fun _ => ?_)
theorem bobstayref12_bind.mono : ∀ a0 a1 a2 k, LeO (bobstayref12_bind.f k a0 a1 a2) (bobstayref12_bind.f (k + 1) a0 a1 a2) := by
  intro a0 a1 a2 k
  have ih0 := bobstayref12_bind.mono_l k
  unfold bobstayref12_bind.f
  repeat' first
      | (with_reducible exact ih0 _ _ _ _ _)
      | (with_reducible exact bobstayref08_End.mono _ _ _)
      | (with_reducible exact bobstayref08_Quote.mono _ _)
      | (with_reducible exact LeO.refl _)
      | (with_reducible exact LeO.none _)
      | (with_reducible refine LeO.ite ?_ ?_)
      | (with_reducible refine LeO.bind ?_ (fun _ => ?_))
      | exact ih0 _ _ _ _ _
      | exact bobstayref08_End.mono _ _ _
      | exact bobstayref08_Quote.mono _ _
      | exact LeO.none _
      | refine LeO.ite ?_ ?_
      | refine LeO.bind ?_ (fun _ => ?_)
set_option maxHeartbeats 8000000 in
set_option maxRecDepth 100000 in
theorem bobstayref12_bind.calls (k : Nat) (a0 : ByteArray) (a1 : ByteArray) (a2 : ByteArray) (r : ByteArray) (w : World) (h : bobstayref12_bind.f k a0 a1 a2 = some r) :
    Calls Tryd.prog 26 #[.string a0, .string a1, .string a2] w fun e w' => e = .returned (.string r) ∧ Below w.heap.size w w' := by
  have HB := Aside0.mk (Below.refl w.heap.size w)
  have H : (bobstayref12_bind.l0 k a0 a1 a2 (⟨#[]⟩ : ByteArray) 0) = some r := h
  clear h
  have H' := Aside0.mk H
  clear H
  go_enter Tryd.func26, Tryd.ntmps26
  go_wp2
  go_loopg [7, 8] k (fun kq v7 v8 w' => ∃ (x7_1 : ByteArray) (x8_1 : Int), v7 = .string x7_1 ∧ v8 = .int .i64 x8_1 ∧ Aside0 (bobstayref12_bind.l0 kq a0 a1 a2 x7_1 x8_1 = some r) ∧ Aside0 (kq ≤ k) ∧ Aside0 (Below w.heap.size w w'))
  case atStart => exact ⟨((⟨#[]⟩ : ByteArray)), (0), (by first | rfl | (simp; done) | (simp [*]; done)), (by first | rfl | (simp; done) | (simp [*]; done)), H', ⟨Nat.le_refl _⟩, ⟨by repeat (first | (with_reducible first | exact HB.out | apply below_alloc | apply pw_below_drewN | apply below_drew1) | exact HB.out)⟩⟩
  case round =>
    clear H'
    try clear c2
    try clear p2
    obtain ⟨x7_1, x8_1, rfl, rfl, HA, HK1, HB⟩ := hrel
    cases gk with
    | zero => exact absurd HA.out (by simp [bobstayref12_bind.l0])
    | succ k1 =>
      have H := HA.out
      clear HA
      simp only [bobstayref12_bind.l0] at H
      by_cases c4 : x8_1 < (a0.size : Int)
      · rw [if_pos c4] at H
        have c4b0 : decide (x8_1 < (a0.size : Int)) = true := decide_eq_true c4
        clear c4
        by_cases c5 : 0 ≤ x8_1
        · rw [if_pos c5] at H
          have c5b0 : decide (0 ≤ x8_1) = true := decide_eq_true c5
          clear c5
          by_cases c7 : (bt a0 x8_1) = 36
          · rw [if_pos c7] at H
            have c7b0 : ((bt a0 x8_1) == 36) = true := beq_iff_eq.mpr c7
            have c7b1 : ((bt a0 x8_1) != 36) = false := bne_eq_false_iff_eq.mpr c7
            clear c7
            by_cases c8 : (wrap64 (x8_1 + 1)) < (a0.size : Int)
            · rw [if_pos c8] at H
              have c8b0 : decide ((wrap64 (x8_1 + 1)) < (a0.size : Int)) = true := decide_eq_true c8
              clear c8
              obtain ⟨ji9, hji9⟩ : ∃ j_ : Int, (wrap64 (x8_1 + 1)) = j_ := ⟨_, rfl⟩
              replace H : (if 0 ≤ (ji9) then (if (bt a0 (ji9)) = 36 then (if x7_1.size + 2 ≤ 9223372036854775807 then (bobstayref12_bind.l0 k1 a0 a1 a2 (x7_1 ++ (⟨#[36, 36]⟩ : ByteArray)) (wrap64 (x8_1 + 2))) else (none)) else ((bobstayref08_End.f k1 a0 x8_1).bind fun t143 => (if t143 > 0 then (if x8_1 ≤ t143 then (if t143 ≤ (a0.size : Int) then (if 2 + a1.size ≤ 9223372036854775807 then (if ((⟨#[36, 123]⟩ : ByteArray) ++ a1).size + 1 ≤ 9223372036854775807 then (if (a0.extract (x8_1 : Int).toNat (t143 : Int).toNat).toList = (((⟨#[36, 123]⟩ : ByteArray) ++ a1) ++ (⟨#[125]⟩ : ByteArray)).toList then ((bobstayref08_Quote.f k1 a2).bind fun t144 => (if x7_1.size + t144.size ≤ 9223372036854775807 then (bobstayref12_bind.l0 k1 a0 a1 a2 (x7_1 ++ t144) t143) else (none))) else (if ((⟨#[36, 40]⟩ : ByteArray) ++ a1).size + 1 ≤ 9223372036854775807 then (if (a0.extract (x8_1 : Int).toNat (t143 : Int).toNat).toList = (((⟨#[36, 40]⟩ : ByteArray) ++ a1) ++ (⟨#[41]⟩ : ByteArray)).toList then ((bobstayref08_Quote.f k1 a2).bind fun t145 => (if x7_1.size + t145.size ≤ 9223372036854775807 then (bobstayref12_bind.l0 k1 a0 a1 a2 (x7_1 ++ t145) t143) else (none))) else (if (a1.size : Int) = 1 then (if 1 + a1.size ≤ 9223372036854775807 then (if (a0.extract (x8_1 : Int).toNat (t143 : Int).toNat).toList = ((⟨#[36]⟩ : ByteArray) ++ a1).toList then ((bobstayref08_Quote.f k1 a2).bind fun t146 => (if x7_1.size + t146.size ≤ 9223372036854775807 then (bobstayref12_bind.l0 k1 a0 a1 a2 (x7_1 ++ t146) t143) else (none))) else (if x7_1.size + 1 ≤ 9223372036854775807 then (bobstayref12_bind.l0 k1 a0 a1 a2 (x7_1 ++ (⟨#[36]⟩ : ByteArray)) ji9) else (none))) else (none)) else (if x7_1.size + 1 ≤ 9223372036854775807 then (bobstayref12_bind.l0 k1 a0 a1 a2 (x7_1 ++ (⟨#[36]⟩ : ByteArray)) ji9) else (none)))) else (none))) else (none)) else (none)) else (none)) else (none)) else (if 2 + a1.size ≤ 9223372036854775807 then (if ((⟨#[36, 123]⟩ : ByteArray) ++ a1).size + 1 ≤ 9223372036854775807 then (if ([36] : List UInt8) = (((⟨#[36, 123]⟩ : ByteArray) ++ a1) ++ (⟨#[125]⟩ : ByteArray)).toList then ((bobstayref08_Quote.f k1 a2).bind fun t147 => (if x7_1.size + t147.size ≤ 9223372036854775807 then (bobstayref12_bind.l0 k1 a0 a1 a2 (x7_1 ++ t147) t143) else (none))) else (if ((⟨#[36, 40]⟩ : ByteArray) ++ a1).size + 1 ≤ 9223372036854775807 then (if ([36] : List UInt8) = (((⟨#[36, 40]⟩ : ByteArray) ++ a1) ++ (⟨#[41]⟩ : ByteArray)).toList then ((bobstayref08_Quote.f k1 a2).bind fun t148 => (if x7_1.size + t148.size ≤ 9223372036854775807 then (bobstayref12_bind.l0 k1 a0 a1 a2 (x7_1 ++ t148) t143) else (none))) else (if (a1.size : Int) = 1 then (if 1 + a1.size ≤ 9223372036854775807 then (if ([36] : List UInt8) = ((⟨#[36]⟩ : ByteArray) ++ a1).toList then ((bobstayref08_Quote.f k1 a2).bind fun t149 => (if x7_1.size + t149.size ≤ 9223372036854775807 then (bobstayref12_bind.l0 k1 a0 a1 a2 (x7_1 ++ t149) t143) else (none))) else (if x7_1.size + 1 ≤ 9223372036854775807 then (bobstayref12_bind.l0 k1 a0 a1 a2 (x7_1 ++ (⟨#[36]⟩ : ByteArray)) ji9) else (none))) else (none)) else (if x7_1.size + 1 ≤ 9223372036854775807 then (bobstayref12_bind.l0 k1 a0 a1 a2 (x7_1 ++ (⟨#[36]⟩ : ByteArray)) ji9) else (none)))) else (none))) else (none)) else (none))))) else (none)) = some r := by first | (rw [hji9] at H; exact H) | (simp only [hji9] at H ⊢; exact H)
              (try rw [hji9] at c8b0)
              have hji9w : (IntKind.i64.wrap (x8_1 + 1)) = ji9 := (i64_w _).trans hji9
              by_cases c10 : 0 ≤ (ji9)
              · rw [if_pos c10] at H
                have c10b0 : decide (0 ≤ (ji9)) = true := decide_eq_true c10
                clear c10
                by_cases c12 : (bt a0 (ji9)) = 36
                · rw [if_pos c12] at H
                  have c12b0 : ((bt a0 (ji9)) == 36) = true := beq_iff_eq.mpr c12
                  have c12b1 : ((bt a0 (ji9)) != 36) = false := bne_eq_false_iff_eq.mpr c12
                  clear c12
                  by_cases c13 : x7_1.size + 2 ≤ 9223372036854775807
                  · rw [if_pos c13] at H
                    have c13b0 := eq_true c13
                    have c13b1 : decide (x7_1.size + 2 ≤ 9223372036854775807) = true := decide_eq_true c13
                    try have c13b2 : (9223372036854775807 < x7_1.size + 2) = False := eq_false (Nat.not_lt.2 c13)
                    have H' := Aside0.mk H
                    clear H
                    have p6 : 0 ≤ (x8_1 : Int) := of_decide_eq_true (by first | (with_reducible assumption) | assumption)
                    have q6 : x8_1 < (a0.size : Int) := of_decide_eq_true (by first | (with_reducible assumption) | assumption)
                    have hx6 := bt_at a0 x8_1
                    replace p6 := eq_true p6
                    replace q6 := eq_true q6
                    have p11 : 0 ≤ ((ji9) : Int) := of_decide_eq_true (by first | (with_reducible assumption) | assumption)
                    have q11 : (ji9) < (a0.size : Int) := of_decide_eq_true (by first | (with_reducible assumption) | assumption)
                    have hx11 := bt_at a0 (ji9)
                    replace p11 := eq_true p11
                    replace q11 := eq_true q11
                    go_wp2
                    go_roundg k1
                    case measure => have := HK1.out; omega
                    case rel => exact ⟨(x7_1 ++ (⟨#[36, 36]⟩ : ByteArray)), (wrap64 (x8_1 + 2)), (by first | rfl | (simp; done) | (simp [*]; done)), (by first | rfl | (simp; done) | (simp [*]; done)), H', ⟨by have := HK1.out; omega⟩, ⟨by repeat (first | (with_reducible first | exact HB.out | apply below_alloc | apply pw_below_drewN | apply below_drew1) | exact HB.out)⟩⟩
                  · rw [if_neg c13] at H
                    exact absurd H (by simp)
                · rw [if_neg c12] at H
                  have c12b0 : ((bt a0 (ji9)) == 36) = false := beq_eq_false_iff_ne.mpr c12
                  have c12b1 : ((bt a0 (ji9)) != 36) = true := bne_iff_ne.mpr c12
                  replace H := Option.bind_eq_some_iff.mp H
                  obtain ⟨t143, A140, H⟩ := H
                  replace H : (if t143 > 0 then (if x8_1 ≤ t143 then (if t143 ≤ (a0.size : Int) then (if 2 + a1.size ≤ 9223372036854775807 then (if ((⟨#[36, 123]⟩ : ByteArray) ++ a1).size + 1 ≤ 9223372036854775807 then (if (a0.extract (x8_1 : Int).toNat (t143 : Int).toNat).toList = (((⟨#[36, 123]⟩ : ByteArray) ++ a1) ++ (⟨#[125]⟩ : ByteArray)).toList then ((bobstayref08_Quote.f k1 a2).bind fun t144 => (if x7_1.size + t144.size ≤ 9223372036854775807 then (bobstayref12_bind.l0 k1 a0 a1 a2 (x7_1 ++ t144) t143) else (none))) else (if ((⟨#[36, 40]⟩ : ByteArray) ++ a1).size + 1 ≤ 9223372036854775807 then (if (a0.extract (x8_1 : Int).toNat (t143 : Int).toNat).toList = (((⟨#[36, 40]⟩ : ByteArray) ++ a1) ++ (⟨#[41]⟩ : ByteArray)).toList then ((bobstayref08_Quote.f k1 a2).bind fun t145 => (if x7_1.size + t145.size ≤ 9223372036854775807 then (bobstayref12_bind.l0 k1 a0 a1 a2 (x7_1 ++ t145) t143) else (none))) else (if (a1.size : Int) = 1 then (if 1 + a1.size ≤ 9223372036854775807 then (if (a0.extract (x8_1 : Int).toNat (t143 : Int).toNat).toList = ((⟨#[36]⟩ : ByteArray) ++ a1).toList then ((bobstayref08_Quote.f k1 a2).bind fun t146 => (if x7_1.size + t146.size ≤ 9223372036854775807 then (bobstayref12_bind.l0 k1 a0 a1 a2 (x7_1 ++ t146) t143) else (none))) else (if x7_1.size + 1 ≤ 9223372036854775807 then (bobstayref12_bind.l0 k1 a0 a1 a2 (x7_1 ++ (⟨#[36]⟩ : ByteArray)) ji9) else (none))) else (none)) else (if x7_1.size + 1 ≤ 9223372036854775807 then (bobstayref12_bind.l0 k1 a0 a1 a2 (x7_1 ++ (⟨#[36]⟩ : ByteArray)) ji9) else (none)))) else (none))) else (none)) else (none)) else (none)) else (none)) else (if 2 + a1.size ≤ 9223372036854775807 then (if ((⟨#[36, 123]⟩ : ByteArray) ++ a1).size + 1 ≤ 9223372036854775807 then (if ([36] : List UInt8) = (((⟨#[36, 123]⟩ : ByteArray) ++ a1) ++ (⟨#[125]⟩ : ByteArray)).toList then ((bobstayref08_Quote.f k1 a2).bind fun t147 => (if x7_1.size + t147.size ≤ 9223372036854775807 then (bobstayref12_bind.l0 k1 a0 a1 a2 (x7_1 ++ t147) t143) else (none))) else (if ((⟨#[36, 40]⟩ : ByteArray) ++ a1).size + 1 ≤ 9223372036854775807 then (if ([36] : List UInt8) = (((⟨#[36, 40]⟩ : ByteArray) ++ a1) ++ (⟨#[41]⟩ : ByteArray)).toList then ((bobstayref08_Quote.f k1 a2).bind fun t148 => (if x7_1.size + t148.size ≤ 9223372036854775807 then (bobstayref12_bind.l0 k1 a0 a1 a2 (x7_1 ++ t148) t143) else (none))) else (if (a1.size : Int) = 1 then (if 1 + a1.size ≤ 9223372036854775807 then (if ([36] : List UInt8) = ((⟨#[36]⟩ : ByteArray) ++ a1).toList then ((bobstayref08_Quote.f k1 a2).bind fun t149 => (if x7_1.size + t149.size ≤ 9223372036854775807 then (bobstayref12_bind.l0 k1 a0 a1 a2 (x7_1 ++ t149) t143) else (none))) else (if x7_1.size + 1 ≤ 9223372036854775807 then (bobstayref12_bind.l0 k1 a0 a1 a2 (x7_1 ++ (⟨#[36]⟩ : ByteArray)) ji9) else (none))) else (none)) else (if x7_1.size + 1 ≤ 9223372036854775807 then (bobstayref12_bind.l0 k1 a0 a1 a2 (x7_1 ++ (⟨#[36]⟩ : ByteArray)) ji9) else (none)))) else (none))) else (none)) else (none))) = some r := H
                  have A14 := Aside0.mk A140
                  clear A140
                  by_cases c15 : t143 > 0
                  · rw [if_pos c15] at H
                    have c15b0 : decide (0 < t143) = true := decide_eq_true c15
                    clear c15
                    have c16b0 := eq_true (of_decide_eq_true (by first | (with_reducible assumption) | assumption) : 0 ≤ x8_1)
                    by_cases c17 : x8_1 ≤ t143
                    · rw [if_pos c17] at H
                      have c17b0 := eq_true c17
                      have c17b1 : decide (x8_1 ≤ t143) = true := decide_eq_true c17
                      clear c17
                      by_cases c18 : t143 ≤ (a0.size : Int)
                      · rw [if_pos c18] at H
                        have c18b0 := eq_true c18
                        have c18b1 : decide (t143 ≤ (a0.size : Int)) = true := decide_eq_true c18
                        clear c18
                        by_cases c19 : 2 + a1.size ≤ 9223372036854775807
                        · rw [if_pos c19] at H
                          have c19b0 := eq_true c19
                          have c19b1 : decide (2 + a1.size ≤ 9223372036854775807) = true := decide_eq_true c19
                          try have c19b2 : (9223372036854775807 < 2 + a1.size) = False := eq_false (Nat.not_lt.2 c19)
                          by_cases c20 : ((⟨#[36, 123]⟩ : ByteArray) ++ a1).size + 1 ≤ 9223372036854775807
                          · rw [if_pos c20] at H
                            have c20b0 := eq_true c20
                            have c20b1 : decide (((⟨#[36, 123]⟩ : ByteArray) ++ a1).size + 1 ≤ 9223372036854775807) = true := decide_eq_true c20
                            try have c20b2 : (9223372036854775807 < ((⟨#[36, 123]⟩ : ByteArray) ++ a1).size + 1) = False := eq_false (Nat.not_lt.2 c20)
                            try have c20b9 : (9223372036854775807 < 2 + (a1).size + 1) = False := eq_false (by have hz := c20; simp only [ByteArray.size_append] at hz; have e0_ : (⟨#[36, 123]⟩ : ByteArray).size = 2 := rfl; omega)
                            by_cases c21 : (a0.extract (x8_1 : Int).toNat (t143 : Int).toNat).toList = (((⟨#[36, 123]⟩ : ByteArray) ++ a1) ++ (⟨#[125]⟩ : ByteArray)).toList
                            · rw [if_pos c21] at H
                              have c21b0 : ((a0.extract (x8_1 : Int).toNat (t143 : Int).toNat).toList == (((⟨#[36, 123]⟩ : ByteArray) ++ a1) ++ (⟨#[125]⟩ : ByteArray)).toList) = true := beq_iff_eq.mpr c21
                              have c21b1 : ((a0.extract (x8_1 : Int).toNat (t143 : Int).toNat).toList != (((⟨#[36, 123]⟩ : ByteArray) ++ a1) ++ (⟨#[125]⟩ : ByteArray)).toList) = false := bne_eq_false_iff_eq.mpr c21
                              clear c21
                              replace H := Option.bind_eq_some_iff.mp H
                              obtain ⟨t144, A220, H⟩ := H
                              replace H : (if x7_1.size + t144.size ≤ 9223372036854775807 then (bobstayref12_bind.l0 k1 a0 a1 a2 (x7_1 ++ t144) t143) else (none)) = some r := H
                              have A22 := Aside0.mk A220
                              clear A220
                              by_cases c23 : x7_1.size + t144.size ≤ 9223372036854775807
                              · rw [if_pos c23] at H
                                have c23b0 := eq_true c23
                                have c23b1 : decide (x7_1.size + t144.size ≤ 9223372036854775807) = true := decide_eq_true c23
                                try have c23b2 : (9223372036854775807 < x7_1.size + t144.size) = False := eq_false (Nat.not_lt.2 c23)
                                have H' := Aside0.mk H
                                clear H
                                have p6 : 0 ≤ (x8_1 : Int) := of_decide_eq_true (by first | (with_reducible assumption) | assumption)
                                have q6 : x8_1 < (a0.size : Int) := of_decide_eq_true (by first | (with_reducible assumption) | assumption)
                                have hx6 := bt_at a0 x8_1
                                replace p6 := eq_true p6
                                replace q6 := eq_true q6
                                have p11 : 0 ≤ ((ji9) : Int) := of_decide_eq_true (by first | (with_reducible assumption) | assumption)
                                have q11 : (ji9) < (a0.size : Int) := of_decide_eq_true (by first | (with_reducible assumption) | assumption)
                                have hx11 := bt_at a0 (ji9)
                                replace p11 := eq_true p11
                                replace q11 := eq_true q11
                                go_wp2_with (first | ((with_reducible refine gate_callee (f := 38) rfl ?_); refine goesL_ (some 46) rfl rfl Tryd.func38 (by kernel_rfl) rfl #[.string a0, .int .i64 x8_1] rfl (by (try simp only [List.map_toArray, List.map_cons, List.map_nil]); first | done | rfl | (simp only [List.length_drop, List.length_take]; rfl)) ?_; (with_reducible refine (bobstayref08_End.calls k1 a0 x8_1 t143 _ A14.out).mono ?_); rintro e w' ⟨rfl, ⟨nd, rfl⟩⟩; refine ⟨_, rfl, ?_⟩) | ((with_reducible refine gate_callee (f := 39) rfl ?_); refine goesL_ (some 78) rfl rfl Tryd.func39 (by kernel_rfl) rfl #[.string a2] rfl (by (try simp only [List.map_toArray, List.map_cons, List.map_nil]); first | done | rfl | (simp only [List.length_drop, List.length_take]; rfl)) ?_; (with_reducible refine (bobstayref08_Quote.calls k1 a2 t144 _ A22.out).mono ?_); rintro e w24 ⟨rfl, hb⟩; refine ⟨_, rfl, ?_⟩; have n0_ := Aside0.mk (below_step (by repeat (first | (with_reducible first | exact HB.out | apply below_alloc | apply pw_below_drewN | apply below_drew1) | exact HB.out)) hb); clear HB; have HB := n0_; clear n0_; (try clear hb); (try clear hb2); (try clear hk); (try clear hi)))
                                go_roundg k1
                                case measure => have := HK1.out; omega
                                case rel => exact ⟨(x7_1 ++ t144), (t143), (by first | rfl | (simp; done) | (simp [*]; done)), (by first | rfl | (simp; done) | (simp [*]; done)), H', ⟨by have := HK1.out; omega⟩, ⟨by repeat (first | (with_reducible first | exact HB.out | apply below_alloc | apply pw_below_drewN | apply below_drew1) | exact HB.out)⟩⟩
                              · rw [if_neg c23] at H
                                exact absurd H (by simp)
                            · rw [if_neg c21] at H
                              have c21b0 : ((a0.extract (x8_1 : Int).toNat (t143 : Int).toNat).toList == (((⟨#[36, 123]⟩ : ByteArray) ++ a1) ++ (⟨#[125]⟩ : ByteArray)).toList) = false := beq_eq_false_iff_ne.mpr c21
                              have c21b1 : ((a0.extract (x8_1 : Int).toNat (t143 : Int).toNat).toList != (((⟨#[36, 123]⟩ : ByteArray) ++ a1) ++ (⟨#[125]⟩ : ByteArray)).toList) = true := bne_iff_ne.mpr c21
                              by_cases c25 : ((⟨#[36, 40]⟩ : ByteArray) ++ a1).size + 1 ≤ 9223372036854775807
                              · rw [if_pos c25] at H
                                have c25b0 := eq_true c25
                                have c25b1 : decide (((⟨#[36, 40]⟩ : ByteArray) ++ a1).size + 1 ≤ 9223372036854775807) = true := decide_eq_true c25
                                try have c25b2 : (9223372036854775807 < ((⟨#[36, 40]⟩ : ByteArray) ++ a1).size + 1) = False := eq_false (Nat.not_lt.2 c25)
                                try have c25b9 : (9223372036854775807 < 2 + (a1).size + 1) = False := eq_false (by have hz := c25; simp only [ByteArray.size_append] at hz; have e0_ : (⟨#[36, 40]⟩ : ByteArray).size = 2 := rfl; omega)
                                by_cases c26 : (a0.extract (x8_1 : Int).toNat (t143 : Int).toNat).toList = (((⟨#[36, 40]⟩ : ByteArray) ++ a1) ++ (⟨#[41]⟩ : ByteArray)).toList
                                · rw [if_pos c26] at H
                                  have c26b0 : ((a0.extract (x8_1 : Int).toNat (t143 : Int).toNat).toList == (((⟨#[36, 40]⟩ : ByteArray) ++ a1) ++ (⟨#[41]⟩ : ByteArray)).toList) = true := beq_iff_eq.mpr c26
                                  have c26b1 : ((a0.extract (x8_1 : Int).toNat (t143 : Int).toNat).toList != (((⟨#[36, 40]⟩ : ByteArray) ++ a1) ++ (⟨#[41]⟩ : ByteArray)).toList) = false := bne_eq_false_iff_eq.mpr c26
                                  clear c26
                                  replace H := Option.bind_eq_some_iff.mp H
                                  obtain ⟨t145, A270, H⟩ := H
                                  replace H : (if x7_1.size + t145.size ≤ 9223372036854775807 then (bobstayref12_bind.l0 k1 a0 a1 a2 (x7_1 ++ t145) t143) else (none)) = some r := H
                                  have A27 := Aside0.mk A270
                                  clear A270
                                  by_cases c28 : x7_1.size + t145.size ≤ 9223372036854775807
                                  · rw [if_pos c28] at H
                                    have c28b0 := eq_true c28
                                    have c28b1 : decide (x7_1.size + t145.size ≤ 9223372036854775807) = true := decide_eq_true c28
                                    try have c28b2 : (9223372036854775807 < x7_1.size + t145.size) = False := eq_false (Nat.not_lt.2 c28)
                                    have H' := Aside0.mk H
                                    clear H
                                    have p6 : 0 ≤ (x8_1 : Int) := of_decide_eq_true (by first | (with_reducible assumption) | assumption)
                                    have q6 : x8_1 < (a0.size : Int) := of_decide_eq_true (by first | (with_reducible assumption) | assumption)
                                    have hx6 := bt_at a0 x8_1
                                    replace p6 := eq_true p6
                                    replace q6 := eq_true q6
                                    have p11 : 0 ≤ ((ji9) : Int) := of_decide_eq_true (by first | (with_reducible assumption) | assumption)
                                    have q11 : (ji9) < (a0.size : Int) := of_decide_eq_true (by first | (with_reducible assumption) | assumption)
                                    have hx11 := bt_at a0 (ji9)
                                    replace p11 := eq_true p11
                                    replace q11 := eq_true q11
                                    go_wp2_with (first | ((with_reducible refine gate_callee (f := 38) rfl ?_); refine goesL_ (some 46) rfl rfl Tryd.func38 (by kernel_rfl) rfl #[.string a0, .int .i64 x8_1] rfl (by (try simp only [List.map_toArray, List.map_cons, List.map_nil]); first | done | rfl | (simp only [List.length_drop, List.length_take]; rfl)) ?_; (with_reducible refine (bobstayref08_End.calls k1 a0 x8_1 t143 _ A14.out).mono ?_); rintro e w' ⟨rfl, ⟨nd, rfl⟩⟩; refine ⟨_, rfl, ?_⟩) | ((with_reducible refine gate_callee (f := 39) rfl ?_); refine goesL_ (some 78) rfl rfl Tryd.func39 (by kernel_rfl) rfl #[.string a2] rfl (by (try simp only [List.map_toArray, List.map_cons, List.map_nil]); first | done | rfl | (simp only [List.length_drop, List.length_take]; rfl)) ?_; (with_reducible refine (bobstayref08_Quote.calls k1 a2 t145 _ A27.out).mono ?_); rintro e w29 ⟨rfl, hb⟩; refine ⟨_, rfl, ?_⟩; have n0_ := Aside0.mk (below_step (by repeat (first | (with_reducible first | exact HB.out | apply below_alloc | apply pw_below_drewN | apply below_drew1) | exact HB.out)) hb); clear HB; have HB := n0_; clear n0_; (try clear hb); (try clear hb2); (try clear hk); (try clear hi)))
                                    go_roundg k1
                                    case measure => have := HK1.out; omega
                                    case rel => exact ⟨(x7_1 ++ t145), (t143), (by first | rfl | (simp; done) | (simp [*]; done)), (by first | rfl | (simp; done) | (simp [*]; done)), H', ⟨by have := HK1.out; omega⟩, ⟨by repeat (first | (with_reducible first | exact HB.out | apply below_alloc | apply pw_below_drewN | apply below_drew1) | exact HB.out)⟩⟩
                                  · rw [if_neg c28] at H
                                    exact absurd H (by simp)
                                · rw [if_neg c26] at H
                                  have c26b0 : ((a0.extract (x8_1 : Int).toNat (t143 : Int).toNat).toList == (((⟨#[36, 40]⟩ : ByteArray) ++ a1) ++ (⟨#[41]⟩ : ByteArray)).toList) = false := beq_eq_false_iff_ne.mpr c26
                                  have c26b1 : ((a0.extract (x8_1 : Int).toNat (t143 : Int).toNat).toList != (((⟨#[36, 40]⟩ : ByteArray) ++ a1) ++ (⟨#[41]⟩ : ByteArray)).toList) = true := bne_iff_ne.mpr c26
                                  by_cases c30 : (a1.size : Int) = 1
                                  · rw [if_pos c30] at H
                                    have c30b0 : ((a1.size : Int) == 1) = true := beq_iff_eq.mpr c30
                                    have c30b1 : ((a1.size : Int) != 1) = false := bne_eq_false_iff_eq.mpr c30
                                    clear c30
                                    by_cases c31 : 1 + a1.size ≤ 9223372036854775807
                                    · rw [if_pos c31] at H
                                      have c31b0 := eq_true c31
                                      have c31b1 : decide (1 + a1.size ≤ 9223372036854775807) = true := decide_eq_true c31
                                      try have c31b2 : (9223372036854775807 < 1 + a1.size) = False := eq_false (Nat.not_lt.2 c31)
                                      by_cases c32 : (a0.extract (x8_1 : Int).toNat (t143 : Int).toNat).toList = ((⟨#[36]⟩ : ByteArray) ++ a1).toList
                                      · rw [if_pos c32] at H
                                        have c32b0 : ((a0.extract (x8_1 : Int).toNat (t143 : Int).toNat).toList == ((⟨#[36]⟩ : ByteArray) ++ a1).toList) = true := beq_iff_eq.mpr c32
                                        have c32b1 : ((a0.extract (x8_1 : Int).toNat (t143 : Int).toNat).toList != ((⟨#[36]⟩ : ByteArray) ++ a1).toList) = false := bne_eq_false_iff_eq.mpr c32
                                        clear c32
                                        replace H := Option.bind_eq_some_iff.mp H
                                        obtain ⟨t146, A330, H⟩ := H
                                        replace H : (if x7_1.size + t146.size ≤ 9223372036854775807 then (bobstayref12_bind.l0 k1 a0 a1 a2 (x7_1 ++ t146) t143) else (none)) = some r := H
                                        have A33 := Aside0.mk A330
                                        clear A330
                                        by_cases c34 : x7_1.size + t146.size ≤ 9223372036854775807
                                        · rw [if_pos c34] at H
                                          have c34b0 := eq_true c34
                                          have c34b1 : decide (x7_1.size + t146.size ≤ 9223372036854775807) = true := decide_eq_true c34
                                          try have c34b2 : (9223372036854775807 < x7_1.size + t146.size) = False := eq_false (Nat.not_lt.2 c34)
                                          have H' := Aside0.mk H
                                          clear H
                                          have p6 : 0 ≤ (x8_1 : Int) := of_decide_eq_true (by first | (with_reducible assumption) | assumption)
                                          have q6 : x8_1 < (a0.size : Int) := of_decide_eq_true (by first | (with_reducible assumption) | assumption)
                                          have hx6 := bt_at a0 x8_1
                                          replace p6 := eq_true p6
                                          replace q6 := eq_true q6
                                          have p11 : 0 ≤ ((ji9) : Int) := of_decide_eq_true (by first | (with_reducible assumption) | assumption)
                                          have q11 : (ji9) < (a0.size : Int) := of_decide_eq_true (by first | (with_reducible assumption) | assumption)
                                          have hx11 := bt_at a0 (ji9)
                                          replace p11 := eq_true p11
                                          replace q11 := eq_true q11
                                          go_wp2_with (first | ((with_reducible refine gate_callee (f := 38) rfl ?_); refine goesL_ (some 46) rfl rfl Tryd.func38 (by kernel_rfl) rfl #[.string a0, .int .i64 x8_1] rfl (by (try simp only [List.map_toArray, List.map_cons, List.map_nil]); first | done | rfl | (simp only [List.length_drop, List.length_take]; rfl)) ?_; (with_reducible refine (bobstayref08_End.calls k1 a0 x8_1 t143 _ A14.out).mono ?_); rintro e w' ⟨rfl, ⟨nd, rfl⟩⟩; refine ⟨_, rfl, ?_⟩) | ((with_reducible refine gate_callee (f := 39) rfl ?_); refine goesL_ (some 78) rfl rfl Tryd.func39 (by kernel_rfl) rfl #[.string a2] rfl (by (try simp only [List.map_toArray, List.map_cons, List.map_nil]); first | done | rfl | (simp only [List.length_drop, List.length_take]; rfl)) ?_; (with_reducible refine (bobstayref08_Quote.calls k1 a2 t146 _ A33.out).mono ?_); rintro e w35 ⟨rfl, hb⟩; refine ⟨_, rfl, ?_⟩; have n0_ := Aside0.mk (below_step (by repeat (first | (with_reducible first | exact HB.out | apply below_alloc | apply pw_below_drewN | apply below_drew1) | exact HB.out)) hb); clear HB; have HB := n0_; clear n0_; (try clear hb); (try clear hb2); (try clear hk); (try clear hi)))
                                          go_roundg k1
                                          case measure => have := HK1.out; omega
                                          case rel => exact ⟨(x7_1 ++ t146), (t143), (by first | rfl | (simp; done) | (simp [*]; done)), (by first | rfl | (simp; done) | (simp [*]; done)), H', ⟨by have := HK1.out; omega⟩, ⟨by repeat (first | (with_reducible first | exact HB.out | apply below_alloc | apply pw_below_drewN | apply below_drew1) | exact HB.out)⟩⟩
                                        · rw [if_neg c34] at H
                                          exact absurd H (by simp)
                                      · rw [if_neg c32] at H
                                        have c32b0 : ((a0.extract (x8_1 : Int).toNat (t143 : Int).toNat).toList == ((⟨#[36]⟩ : ByteArray) ++ a1).toList) = false := beq_eq_false_iff_ne.mpr c32
                                        have c32b1 : ((a0.extract (x8_1 : Int).toNat (t143 : Int).toNat).toList != ((⟨#[36]⟩ : ByteArray) ++ a1).toList) = true := bne_iff_ne.mpr c32
                                        by_cases c36 : x7_1.size + 1 ≤ 9223372036854775807
                                        · rw [if_pos c36] at H
                                          have c36b0 := eq_true c36
                                          have c36b1 : decide (x7_1.size + 1 ≤ 9223372036854775807) = true := decide_eq_true c36
                                          try have c36b2 : (9223372036854775807 < x7_1.size + 1) = False := eq_false (Nat.not_lt.2 c36)
                                          have H' := Aside0.mk H
                                          clear H
                                          have p6 : 0 ≤ (x8_1 : Int) := of_decide_eq_true (by first | (with_reducible assumption) | assumption)
                                          have q6 : x8_1 < (a0.size : Int) := of_decide_eq_true (by first | (with_reducible assumption) | assumption)
                                          have hx6 := bt_at a0 x8_1
                                          replace p6 := eq_true p6
                                          replace q6 := eq_true q6
                                          have p11 : 0 ≤ ((ji9) : Int) := of_decide_eq_true (by first | (with_reducible assumption) | assumption)
                                          have q11 : (ji9) < (a0.size : Int) := of_decide_eq_true (by first | (with_reducible assumption) | assumption)
                                          have hx11 := bt_at a0 (ji9)
                                          replace p11 := eq_true p11
                                          replace q11 := eq_true q11
                                          go_wp2_with (first | ((with_reducible refine gate_callee (f := 38) rfl ?_); refine goesL_ (some 46) rfl rfl Tryd.func38 (by kernel_rfl) rfl #[.string a0, .int .i64 x8_1] rfl (by (try simp only [List.map_toArray, List.map_cons, List.map_nil]); first | done | rfl | (simp only [List.length_drop, List.length_take]; rfl)) ?_; (with_reducible refine (bobstayref08_End.calls k1 a0 x8_1 t143 _ A14.out).mono ?_); rintro e w' ⟨rfl, ⟨nd, rfl⟩⟩; refine ⟨_, rfl, ?_⟩))
                                          go_roundg k1
                                          case measure => have := HK1.out; omega
                                          case rel => exact ⟨(x7_1 ++ (⟨#[36]⟩ : ByteArray)), (ji9), (by first | rfl | (simp; done) | (simp [*]; done)), (by first | rfl | (simp; done) | (simp only [← hji9] <;> (first | rfl | simp)) | (simp [*]; done)), H', ⟨by have := HK1.out; omega⟩, ⟨by repeat (first | (with_reducible first | exact HB.out | apply below_alloc | apply pw_below_drewN | apply below_drew1) | exact HB.out)⟩⟩
                                        · rw [if_neg c36] at H
                                          exact absurd H (by simp)
                                    · rw [if_neg c31] at H
                                      exact absurd H (by simp)
                                  · rw [if_neg c30] at H
                                    have c30b0 : ((a1.size : Int) == 1) = false := beq_eq_false_iff_ne.mpr c30
                                    have c30b1 : ((a1.size : Int) != 1) = true := bne_iff_ne.mpr c30
                                    by_cases c37 : x7_1.size + 1 ≤ 9223372036854775807
                                    · rw [if_pos c37] at H
                                      have c37b0 := eq_true c37
                                      have c37b1 : decide (x7_1.size + 1 ≤ 9223372036854775807) = true := decide_eq_true c37
                                      try have c37b2 : (9223372036854775807 < x7_1.size + 1) = False := eq_false (Nat.not_lt.2 c37)
                                      have H' := Aside0.mk H
                                      clear H
                                      have p6 : 0 ≤ (x8_1 : Int) := of_decide_eq_true (by first | (with_reducible assumption) | assumption)
                                      have q6 : x8_1 < (a0.size : Int) := of_decide_eq_true (by first | (with_reducible assumption) | assumption)
                                      have hx6 := bt_at a0 x8_1
                                      replace p6 := eq_true p6
                                      replace q6 := eq_true q6
                                      have p11 : 0 ≤ ((ji9) : Int) := of_decide_eq_true (by first | (with_reducible assumption) | assumption)
                                      have q11 : (ji9) < (a0.size : Int) := of_decide_eq_true (by first | (with_reducible assumption) | assumption)
                                      have hx11 := bt_at a0 (ji9)
                                      replace p11 := eq_true p11
                                      replace q11 := eq_true q11
                                      go_wp2_with (first | ((with_reducible refine gate_callee (f := 38) rfl ?_); refine goesL_ (some 46) rfl rfl Tryd.func38 (by kernel_rfl) rfl #[.string a0, .int .i64 x8_1] rfl (by (try simp only [List.map_toArray, List.map_cons, List.map_nil]); first | done | rfl | (simp only [List.length_drop, List.length_take]; rfl)) ?_; (with_reducible refine (bobstayref08_End.calls k1 a0 x8_1 t143 _ A14.out).mono ?_); rintro e w' ⟨rfl, ⟨nd, rfl⟩⟩; refine ⟨_, rfl, ?_⟩))
                                      go_roundg k1
                                      case measure => have := HK1.out; omega
                                      case rel => exact ⟨(x7_1 ++ (⟨#[36]⟩ : ByteArray)), (ji9), (by first | rfl | (simp; done) | (simp [*]; done)), (by first | rfl | (simp; done) | (simp only [← hji9] <;> (first | rfl | simp)) | (simp [*]; done)), H', ⟨by have := HK1.out; omega⟩, ⟨by repeat (first | (with_reducible first | exact HB.out | apply below_alloc | apply pw_below_drewN | apply below_drew1) | exact HB.out)⟩⟩
                                    · rw [if_neg c37] at H
                                      exact absurd H (by simp)
                              · rw [if_neg c25] at H
                                exact absurd H (by simp)
                          · rw [if_neg c20] at H
                            exact absurd H (by simp)
                        · rw [if_neg c19] at H
                          exact absurd H (by simp)
                      · rw [if_neg c18] at H
                        exact absurd H (by simp)
                    · rw [if_neg c17] at H
                      exact absurd H (by simp)
                  · rw [if_neg c15] at H
                    have c15b0 : decide (0 < t143) = false := decide_eq_false c15
                    clear c15
                    by_cases c38 : 2 + a1.size ≤ 9223372036854775807
                    · rw [if_pos c38] at H
                      have c38b0 := eq_true c38
                      have c38b1 : decide (2 + a1.size ≤ 9223372036854775807) = true := decide_eq_true c38
                      try have c38b2 : (9223372036854775807 < 2 + a1.size) = False := eq_false (Nat.not_lt.2 c38)
                      by_cases c39 : ((⟨#[36, 123]⟩ : ByteArray) ++ a1).size + 1 ≤ 9223372036854775807
                      · rw [if_pos c39] at H
                        have c39b0 := eq_true c39
                        have c39b1 : decide (((⟨#[36, 123]⟩ : ByteArray) ++ a1).size + 1 ≤ 9223372036854775807) = true := decide_eq_true c39
                        try have c39b2 : (9223372036854775807 < ((⟨#[36, 123]⟩ : ByteArray) ++ a1).size + 1) = False := eq_false (Nat.not_lt.2 c39)
                        try have c39b9 : (9223372036854775807 < 2 + (a1).size + 1) = False := eq_false (by have hz := c39; simp only [ByteArray.size_append] at hz; have e0_ : (⟨#[36, 123]⟩ : ByteArray).size = 2 := rfl; omega)
                        by_cases c40 : ([36] : List UInt8) = (((⟨#[36, 123]⟩ : ByteArray) ++ a1) ++ (⟨#[125]⟩ : ByteArray)).toList
                        · rw [if_pos c40] at H
                          have c40b0 : (([36] : List UInt8) == (((⟨#[36, 123]⟩ : ByteArray) ++ a1) ++ (⟨#[125]⟩ : ByteArray)).toList) = true := beq_iff_eq.mpr c40
                          have c40b1 : (([36] : List UInt8) != (((⟨#[36, 123]⟩ : ByteArray) ++ a1) ++ (⟨#[125]⟩ : ByteArray)).toList) = false := bne_eq_false_iff_eq.mpr c40
                          clear c40
                          replace H := Option.bind_eq_some_iff.mp H
                          obtain ⟨t147, A410, H⟩ := H
                          replace H : (if x7_1.size + t147.size ≤ 9223372036854775807 then (bobstayref12_bind.l0 k1 a0 a1 a2 (x7_1 ++ t147) t143) else (none)) = some r := H
                          have A41 := Aside0.mk A410
                          clear A410
                          by_cases c42 : x7_1.size + t147.size ≤ 9223372036854775807
                          · rw [if_pos c42] at H
                            have c42b0 := eq_true c42
                            have c42b1 : decide (x7_1.size + t147.size ≤ 9223372036854775807) = true := decide_eq_true c42
                            try have c42b2 : (9223372036854775807 < x7_1.size + t147.size) = False := eq_false (Nat.not_lt.2 c42)
                            have H' := Aside0.mk H
                            clear H
                            have p6 : 0 ≤ (x8_1 : Int) := of_decide_eq_true (by first | (with_reducible assumption) | assumption)
                            have q6 : x8_1 < (a0.size : Int) := of_decide_eq_true (by first | (with_reducible assumption) | assumption)
                            have hx6 := bt_at a0 x8_1
                            replace p6 := eq_true p6
                            replace q6 := eq_true q6
                            have p11 : 0 ≤ ((ji9) : Int) := of_decide_eq_true (by first | (with_reducible assumption) | assumption)
                            have q11 : (ji9) < (a0.size : Int) := of_decide_eq_true (by first | (with_reducible assumption) | assumption)
                            have hx11 := bt_at a0 (ji9)
                            replace p11 := eq_true p11
                            replace q11 := eq_true q11
                            go_wp2_with (first | ((with_reducible refine gate_callee (f := 38) rfl ?_); refine goesL_ (some 46) rfl rfl Tryd.func38 (by kernel_rfl) rfl #[.string a0, .int .i64 x8_1] rfl (by (try simp only [List.map_toArray, List.map_cons, List.map_nil]); first | done | rfl | (simp only [List.length_drop, List.length_take]; rfl)) ?_; (with_reducible refine (bobstayref08_End.calls k1 a0 x8_1 t143 _ A14.out).mono ?_); rintro e w' ⟨rfl, ⟨nd, rfl⟩⟩; refine ⟨_, rfl, ?_⟩) | ((with_reducible refine gate_callee (f := 39) rfl ?_); refine goesL_ (some 78) rfl rfl Tryd.func39 (by kernel_rfl) rfl #[.string a2] rfl (by (try simp only [List.map_toArray, List.map_cons, List.map_nil]); first | done | rfl | (simp only [List.length_drop, List.length_take]; rfl)) ?_; (with_reducible refine (bobstayref08_Quote.calls k1 a2 t147 _ A41.out).mono ?_); rintro e w43 ⟨rfl, hb⟩; refine ⟨_, rfl, ?_⟩; have n0_ := Aside0.mk (below_step (by repeat (first | (with_reducible first | exact HB.out | apply below_alloc | apply pw_below_drewN | apply below_drew1) | exact HB.out)) hb); clear HB; have HB := n0_; clear n0_; (try clear hb); (try clear hb2); (try clear hk); (try clear hi)))
                            go_roundg k1
                            case measure => have := HK1.out; omega
                            case rel => exact ⟨(x7_1 ++ t147), (t143), (by first | rfl | (simp; done) | (simp [*]; done)), (by first | rfl | (simp; done) | (simp [*]; done)), H', ⟨by have := HK1.out; omega⟩, ⟨by repeat (first | (with_reducible first | exact HB.out | apply below_alloc | apply pw_below_drewN | apply below_drew1) | exact HB.out)⟩⟩
                          · rw [if_neg c42] at H
                            exact absurd H (by simp)
                        · rw [if_neg c40] at H
                          have c40b0 : (([36] : List UInt8) == (((⟨#[36, 123]⟩ : ByteArray) ++ a1) ++ (⟨#[125]⟩ : ByteArray)).toList) = false := beq_eq_false_iff_ne.mpr c40
                          have c40b1 : (([36] : List UInt8) != (((⟨#[36, 123]⟩ : ByteArray) ++ a1) ++ (⟨#[125]⟩ : ByteArray)).toList) = true := bne_iff_ne.mpr c40
                          by_cases c44 : ((⟨#[36, 40]⟩ : ByteArray) ++ a1).size + 1 ≤ 9223372036854775807
                          · rw [if_pos c44] at H
                            have c44b0 := eq_true c44
                            have c44b1 : decide (((⟨#[36, 40]⟩ : ByteArray) ++ a1).size + 1 ≤ 9223372036854775807) = true := decide_eq_true c44
                            try have c44b2 : (9223372036854775807 < ((⟨#[36, 40]⟩ : ByteArray) ++ a1).size + 1) = False := eq_false (Nat.not_lt.2 c44)
                            try have c44b9 : (9223372036854775807 < 2 + (a1).size + 1) = False := eq_false (by have hz := c44; simp only [ByteArray.size_append] at hz; have e0_ : (⟨#[36, 40]⟩ : ByteArray).size = 2 := rfl; omega)
                            by_cases c45 : ([36] : List UInt8) = (((⟨#[36, 40]⟩ : ByteArray) ++ a1) ++ (⟨#[41]⟩ : ByteArray)).toList
                            · rw [if_pos c45] at H
                              have c45b0 : (([36] : List UInt8) == (((⟨#[36, 40]⟩ : ByteArray) ++ a1) ++ (⟨#[41]⟩ : ByteArray)).toList) = true := beq_iff_eq.mpr c45
                              have c45b1 : (([36] : List UInt8) != (((⟨#[36, 40]⟩ : ByteArray) ++ a1) ++ (⟨#[41]⟩ : ByteArray)).toList) = false := bne_eq_false_iff_eq.mpr c45
                              clear c45
                              replace H := Option.bind_eq_some_iff.mp H
                              obtain ⟨t148, A460, H⟩ := H
                              replace H : (if x7_1.size + t148.size ≤ 9223372036854775807 then (bobstayref12_bind.l0 k1 a0 a1 a2 (x7_1 ++ t148) t143) else (none)) = some r := H
                              have A46 := Aside0.mk A460
                              clear A460
                              by_cases c47 : x7_1.size + t148.size ≤ 9223372036854775807
                              · rw [if_pos c47] at H
                                have c47b0 := eq_true c47
                                have c47b1 : decide (x7_1.size + t148.size ≤ 9223372036854775807) = true := decide_eq_true c47
                                try have c47b2 : (9223372036854775807 < x7_1.size + t148.size) = False := eq_false (Nat.not_lt.2 c47)
                                have H' := Aside0.mk H
                                clear H
                                have p6 : 0 ≤ (x8_1 : Int) := of_decide_eq_true (by first | (with_reducible assumption) | assumption)
                                have q6 : x8_1 < (a0.size : Int) := of_decide_eq_true (by first | (with_reducible assumption) | assumption)
                                have hx6 := bt_at a0 x8_1
                                replace p6 := eq_true p6
                                replace q6 := eq_true q6
                                have p11 : 0 ≤ ((ji9) : Int) := of_decide_eq_true (by first | (with_reducible assumption) | assumption)
                                have q11 : (ji9) < (a0.size : Int) := of_decide_eq_true (by first | (with_reducible assumption) | assumption)
                                have hx11 := bt_at a0 (ji9)
                                replace p11 := eq_true p11
                                replace q11 := eq_true q11
                                go_wp2_with (first | ((with_reducible refine gate_callee (f := 38) rfl ?_); refine goesL_ (some 46) rfl rfl Tryd.func38 (by kernel_rfl) rfl #[.string a0, .int .i64 x8_1] rfl (by (try simp only [List.map_toArray, List.map_cons, List.map_nil]); first | done | rfl | (simp only [List.length_drop, List.length_take]; rfl)) ?_; (with_reducible refine (bobstayref08_End.calls k1 a0 x8_1 t143 _ A14.out).mono ?_); rintro e w' ⟨rfl, ⟨nd, rfl⟩⟩; refine ⟨_, rfl, ?_⟩) | ((with_reducible refine gate_callee (f := 39) rfl ?_); refine goesL_ (some 78) rfl rfl Tryd.func39 (by kernel_rfl) rfl #[.string a2] rfl (by (try simp only [List.map_toArray, List.map_cons, List.map_nil]); first | done | rfl | (simp only [List.length_drop, List.length_take]; rfl)) ?_; (with_reducible refine (bobstayref08_Quote.calls k1 a2 t148 _ A46.out).mono ?_); rintro e w48 ⟨rfl, hb⟩; refine ⟨_, rfl, ?_⟩; have n0_ := Aside0.mk (below_step (by repeat (first | (with_reducible first | exact HB.out | apply below_alloc | apply pw_below_drewN | apply below_drew1) | exact HB.out)) hb); clear HB; have HB := n0_; clear n0_; (try clear hb); (try clear hb2); (try clear hk); (try clear hi)))
                                go_roundg k1
                                case measure => have := HK1.out; omega
                                case rel => exact ⟨(x7_1 ++ t148), (t143), (by first | rfl | (simp; done) | (simp [*]; done)), (by first | rfl | (simp; done) | (simp [*]; done)), H', ⟨by have := HK1.out; omega⟩, ⟨by repeat (first | (with_reducible first | exact HB.out | apply below_alloc | apply pw_below_drewN | apply below_drew1) | exact HB.out)⟩⟩
                              · rw [if_neg c47] at H
                                exact absurd H (by simp)
                            · rw [if_neg c45] at H
                              have c45b0 : (([36] : List UInt8) == (((⟨#[36, 40]⟩ : ByteArray) ++ a1) ++ (⟨#[41]⟩ : ByteArray)).toList) = false := beq_eq_false_iff_ne.mpr c45
                              have c45b1 : (([36] : List UInt8) != (((⟨#[36, 40]⟩ : ByteArray) ++ a1) ++ (⟨#[41]⟩ : ByteArray)).toList) = true := bne_iff_ne.mpr c45
                              by_cases c49 : (a1.size : Int) = 1
                              · rw [if_pos c49] at H
                                have c49b0 : ((a1.size : Int) == 1) = true := beq_iff_eq.mpr c49
                                have c49b1 : ((a1.size : Int) != 1) = false := bne_eq_false_iff_eq.mpr c49
                                clear c49
                                by_cases c50 : 1 + a1.size ≤ 9223372036854775807
                                · rw [if_pos c50] at H
                                  have c50b0 := eq_true c50
                                  have c50b1 : decide (1 + a1.size ≤ 9223372036854775807) = true := decide_eq_true c50
                                  try have c50b2 : (9223372036854775807 < 1 + a1.size) = False := eq_false (Nat.not_lt.2 c50)
                                  by_cases c51 : ([36] : List UInt8) = ((⟨#[36]⟩ : ByteArray) ++ a1).toList
                                  · rw [if_pos c51] at H
                                    have c51b0 : (([36] : List UInt8) == ((⟨#[36]⟩ : ByteArray) ++ a1).toList) = true := beq_iff_eq.mpr c51
                                    have c51b1 : (([36] : List UInt8) != ((⟨#[36]⟩ : ByteArray) ++ a1).toList) = false := bne_eq_false_iff_eq.mpr c51
                                    clear c51
                                    replace H := Option.bind_eq_some_iff.mp H
                                    obtain ⟨t149, A520, H⟩ := H
                                    replace H : (if x7_1.size + t149.size ≤ 9223372036854775807 then (bobstayref12_bind.l0 k1 a0 a1 a2 (x7_1 ++ t149) t143) else (none)) = some r := H
                                    have A52 := Aside0.mk A520
                                    clear A520
                                    by_cases c53 : x7_1.size + t149.size ≤ 9223372036854775807
                                    · rw [if_pos c53] at H
                                      have c53b0 := eq_true c53
                                      have c53b1 : decide (x7_1.size + t149.size ≤ 9223372036854775807) = true := decide_eq_true c53
                                      try have c53b2 : (9223372036854775807 < x7_1.size + t149.size) = False := eq_false (Nat.not_lt.2 c53)
                                      have H' := Aside0.mk H
                                      clear H
                                      have p6 : 0 ≤ (x8_1 : Int) := of_decide_eq_true (by first | (with_reducible assumption) | assumption)
                                      have q6 : x8_1 < (a0.size : Int) := of_decide_eq_true (by first | (with_reducible assumption) | assumption)
                                      have hx6 := bt_at a0 x8_1
                                      replace p6 := eq_true p6
                                      replace q6 := eq_true q6
                                      have p11 : 0 ≤ ((ji9) : Int) := of_decide_eq_true (by first | (with_reducible assumption) | assumption)
                                      have q11 : (ji9) < (a0.size : Int) := of_decide_eq_true (by first | (with_reducible assumption) | assumption)
                                      have hx11 := bt_at a0 (ji9)
                                      replace p11 := eq_true p11
                                      replace q11 := eq_true q11
                                      go_wp2_with (first | ((with_reducible refine gate_callee (f := 38) rfl ?_); refine goesL_ (some 46) rfl rfl Tryd.func38 (by kernel_rfl) rfl #[.string a0, .int .i64 x8_1] rfl (by (try simp only [List.map_toArray, List.map_cons, List.map_nil]); first | done | rfl | (simp only [List.length_drop, List.length_take]; rfl)) ?_; (with_reducible refine (bobstayref08_End.calls k1 a0 x8_1 t143 _ A14.out).mono ?_); rintro e w' ⟨rfl, ⟨nd, rfl⟩⟩; refine ⟨_, rfl, ?_⟩) | ((with_reducible refine gate_callee (f := 39) rfl ?_); refine goesL_ (some 78) rfl rfl Tryd.func39 (by kernel_rfl) rfl #[.string a2] rfl (by (try simp only [List.map_toArray, List.map_cons, List.map_nil]); first | done | rfl | (simp only [List.length_drop, List.length_take]; rfl)) ?_; (with_reducible refine (bobstayref08_Quote.calls k1 a2 t149 _ A52.out).mono ?_); rintro e w54 ⟨rfl, hb⟩; refine ⟨_, rfl, ?_⟩; have n0_ := Aside0.mk (below_step (by repeat (first | (with_reducible first | exact HB.out | apply below_alloc | apply pw_below_drewN | apply below_drew1) | exact HB.out)) hb); clear HB; have HB := n0_; clear n0_; (try clear hb); (try clear hb2); (try clear hk); (try clear hi)))
                                      go_roundg k1
                                      case measure => have := HK1.out; omega
                                      case rel => exact ⟨(x7_1 ++ t149), (t143), (by first | rfl | (simp; done) | (simp [*]; done)), (by first | rfl | (simp; done) | (simp [*]; done)), H', ⟨by have := HK1.out; omega⟩, ⟨by repeat (first | (with_reducible first | exact HB.out | apply below_alloc | apply pw_below_drewN | apply below_drew1) | exact HB.out)⟩⟩
                                    · rw [if_neg c53] at H
                                      exact absurd H (by simp)
                                  · rw [if_neg c51] at H
                                    have c51b0 : (([36] : List UInt8) == ((⟨#[36]⟩ : ByteArray) ++ a1).toList) = false := beq_eq_false_iff_ne.mpr c51
                                    have c51b1 : (([36] : List UInt8) != ((⟨#[36]⟩ : ByteArray) ++ a1).toList) = true := bne_iff_ne.mpr c51
                                    by_cases c55 : x7_1.size + 1 ≤ 9223372036854775807
                                    · rw [if_pos c55] at H
                                      have c55b0 := eq_true c55
                                      have c55b1 : decide (x7_1.size + 1 ≤ 9223372036854775807) = true := decide_eq_true c55
                                      try have c55b2 : (9223372036854775807 < x7_1.size + 1) = False := eq_false (Nat.not_lt.2 c55)
                                      have H' := Aside0.mk H
                                      clear H
                                      have p6 : 0 ≤ (x8_1 : Int) := of_decide_eq_true (by first | (with_reducible assumption) | assumption)
                                      have q6 : x8_1 < (a0.size : Int) := of_decide_eq_true (by first | (with_reducible assumption) | assumption)
                                      have hx6 := bt_at a0 x8_1
                                      replace p6 := eq_true p6
                                      replace q6 := eq_true q6
                                      have p11 : 0 ≤ ((ji9) : Int) := of_decide_eq_true (by first | (with_reducible assumption) | assumption)
                                      have q11 : (ji9) < (a0.size : Int) := of_decide_eq_true (by first | (with_reducible assumption) | assumption)
                                      have hx11 := bt_at a0 (ji9)
                                      replace p11 := eq_true p11
                                      replace q11 := eq_true q11
                                      go_wp2_with (first | ((with_reducible refine gate_callee (f := 38) rfl ?_); refine goesL_ (some 46) rfl rfl Tryd.func38 (by kernel_rfl) rfl #[.string a0, .int .i64 x8_1] rfl (by (try simp only [List.map_toArray, List.map_cons, List.map_nil]); first | done | rfl | (simp only [List.length_drop, List.length_take]; rfl)) ?_; (with_reducible refine (bobstayref08_End.calls k1 a0 x8_1 t143 _ A14.out).mono ?_); rintro e w' ⟨rfl, ⟨nd, rfl⟩⟩; refine ⟨_, rfl, ?_⟩))
                                      go_roundg k1
                                      case measure => have := HK1.out; omega
                                      case rel => exact ⟨(x7_1 ++ (⟨#[36]⟩ : ByteArray)), (ji9), (by first | rfl | (simp; done) | (simp [*]; done)), (by first | rfl | (simp; done) | (simp only [← hji9] <;> (first | rfl | simp)) | (simp [*]; done)), H', ⟨by have := HK1.out; omega⟩, ⟨by repeat (first | (with_reducible first | exact HB.out | apply below_alloc | apply pw_below_drewN | apply below_drew1) | exact HB.out)⟩⟩
                                    · rw [if_neg c55] at H
                                      exact absurd H (by simp)
                                · rw [if_neg c50] at H
                                  exact absurd H (by simp)
                              · rw [if_neg c49] at H
                                have c49b0 : ((a1.size : Int) == 1) = false := beq_eq_false_iff_ne.mpr c49
                                have c49b1 : ((a1.size : Int) != 1) = true := bne_iff_ne.mpr c49
                                by_cases c56 : x7_1.size + 1 ≤ 9223372036854775807
                                · rw [if_pos c56] at H
                                  have c56b0 := eq_true c56
                                  have c56b1 : decide (x7_1.size + 1 ≤ 9223372036854775807) = true := decide_eq_true c56
                                  try have c56b2 : (9223372036854775807 < x7_1.size + 1) = False := eq_false (Nat.not_lt.2 c56)
                                  have H' := Aside0.mk H
                                  clear H
                                  have p6 : 0 ≤ (x8_1 : Int) := of_decide_eq_true (by first | (with_reducible assumption) | assumption)
                                  have q6 : x8_1 < (a0.size : Int) := of_decide_eq_true (by first | (with_reducible assumption) | assumption)
                                  have hx6 := bt_at a0 x8_1
                                  replace p6 := eq_true p6
                                  replace q6 := eq_true q6
                                  have p11 : 0 ≤ ((ji9) : Int) := of_decide_eq_true (by first | (with_reducible assumption) | assumption)
                                  have q11 : (ji9) < (a0.size : Int) := of_decide_eq_true (by first | (with_reducible assumption) | assumption)
                                  have hx11 := bt_at a0 (ji9)
                                  replace p11 := eq_true p11
                                  replace q11 := eq_true q11
                                  go_wp2_with (first | ((with_reducible refine gate_callee (f := 38) rfl ?_); refine goesL_ (some 46) rfl rfl Tryd.func38 (by kernel_rfl) rfl #[.string a0, .int .i64 x8_1] rfl (by (try simp only [List.map_toArray, List.map_cons, List.map_nil]); first | done | rfl | (simp only [List.length_drop, List.length_take]; rfl)) ?_; (with_reducible refine (bobstayref08_End.calls k1 a0 x8_1 t143 _ A14.out).mono ?_); rintro e w' ⟨rfl, ⟨nd, rfl⟩⟩; refine ⟨_, rfl, ?_⟩))
                                  go_roundg k1
                                  case measure => have := HK1.out; omega
                                  case rel => exact ⟨(x7_1 ++ (⟨#[36]⟩ : ByteArray)), (ji9), (by first | rfl | (simp; done) | (simp [*]; done)), (by first | rfl | (simp; done) | (simp only [← hji9] <;> (first | rfl | simp)) | (simp [*]; done)), H', ⟨by have := HK1.out; omega⟩, ⟨by repeat (first | (with_reducible first | exact HB.out | apply below_alloc | apply pw_below_drewN | apply below_drew1) | exact HB.out)⟩⟩
                                · rw [if_neg c56] at H
                                  exact absurd H (by simp)
                          · rw [if_neg c44] at H
                            exact absurd H (by simp)
                      · rw [if_neg c39] at H
                        exact absurd H (by simp)
                    · rw [if_neg c38] at H
                      exact absurd H (by simp)
              · rw [if_neg c10] at H
                exact absurd H (by simp)
            · rw [if_neg c8] at H
              have c8b0 : decide ((wrap64 (x8_1 + 1)) < (a0.size : Int)) = false := decide_eq_false c8
              clear c8
              replace H := Option.bind_eq_some_iff.mp H
              obtain ⟨t150, A570, H⟩ := H
              replace H : (if t150 > 0 then (if x8_1 ≤ t150 then (if t150 ≤ (a0.size : Int) then (if 2 + a1.size ≤ 9223372036854775807 then (if ((⟨#[36, 123]⟩ : ByteArray) ++ a1).size + 1 ≤ 9223372036854775807 then (if (a0.extract (x8_1 : Int).toNat (t150 : Int).toNat).toList = (((⟨#[36, 123]⟩ : ByteArray) ++ a1) ++ (⟨#[125]⟩ : ByteArray)).toList then ((bobstayref08_Quote.f k1 a2).bind fun t151 => (if x7_1.size + t151.size ≤ 9223372036854775807 then (bobstayref12_bind.l0 k1 a0 a1 a2 (x7_1 ++ t151) t150) else (none))) else (if ((⟨#[36, 40]⟩ : ByteArray) ++ a1).size + 1 ≤ 9223372036854775807 then (if (a0.extract (x8_1 : Int).toNat (t150 : Int).toNat).toList = (((⟨#[36, 40]⟩ : ByteArray) ++ a1) ++ (⟨#[41]⟩ : ByteArray)).toList then ((bobstayref08_Quote.f k1 a2).bind fun t152 => (if x7_1.size + t152.size ≤ 9223372036854775807 then (bobstayref12_bind.l0 k1 a0 a1 a2 (x7_1 ++ t152) t150) else (none))) else (if (a1.size : Int) = 1 then (if 1 + a1.size ≤ 9223372036854775807 then (if (a0.extract (x8_1 : Int).toNat (t150 : Int).toNat).toList = ((⟨#[36]⟩ : ByteArray) ++ a1).toList then ((bobstayref08_Quote.f k1 a2).bind fun t153 => (if x7_1.size + t153.size ≤ 9223372036854775807 then (bobstayref12_bind.l0 k1 a0 a1 a2 (x7_1 ++ t153) t150) else (none))) else (if x7_1.size + 1 ≤ 9223372036854775807 then (bobstayref12_bind.l0 k1 a0 a1 a2 (x7_1 ++ (⟨#[36]⟩ : ByteArray)) (wrap64 (x8_1 + 1))) else (none))) else (none)) else (if x7_1.size + 1 ≤ 9223372036854775807 then (bobstayref12_bind.l0 k1 a0 a1 a2 (x7_1 ++ (⟨#[36]⟩ : ByteArray)) (wrap64 (x8_1 + 1))) else (none)))) else (none))) else (none)) else (none)) else (none)) else (none)) else (if 2 + a1.size ≤ 9223372036854775807 then (if ((⟨#[36, 123]⟩ : ByteArray) ++ a1).size + 1 ≤ 9223372036854775807 then (if ([36] : List UInt8) = (((⟨#[36, 123]⟩ : ByteArray) ++ a1) ++ (⟨#[125]⟩ : ByteArray)).toList then ((bobstayref08_Quote.f k1 a2).bind fun t154 => (if x7_1.size + t154.size ≤ 9223372036854775807 then (bobstayref12_bind.l0 k1 a0 a1 a2 (x7_1 ++ t154) t150) else (none))) else (if ((⟨#[36, 40]⟩ : ByteArray) ++ a1).size + 1 ≤ 9223372036854775807 then (if ([36] : List UInt8) = (((⟨#[36, 40]⟩ : ByteArray) ++ a1) ++ (⟨#[41]⟩ : ByteArray)).toList then ((bobstayref08_Quote.f k1 a2).bind fun t155 => (if x7_1.size + t155.size ≤ 9223372036854775807 then (bobstayref12_bind.l0 k1 a0 a1 a2 (x7_1 ++ t155) t150) else (none))) else (if (a1.size : Int) = 1 then (if 1 + a1.size ≤ 9223372036854775807 then (if ([36] : List UInt8) = ((⟨#[36]⟩ : ByteArray) ++ a1).toList then ((bobstayref08_Quote.f k1 a2).bind fun t156 => (if x7_1.size + t156.size ≤ 9223372036854775807 then (bobstayref12_bind.l0 k1 a0 a1 a2 (x7_1 ++ t156) t150) else (none))) else (if x7_1.size + 1 ≤ 9223372036854775807 then (bobstayref12_bind.l0 k1 a0 a1 a2 (x7_1 ++ (⟨#[36]⟩ : ByteArray)) (wrap64 (x8_1 + 1))) else (none))) else (none)) else (if x7_1.size + 1 ≤ 9223372036854775807 then (bobstayref12_bind.l0 k1 a0 a1 a2 (x7_1 ++ (⟨#[36]⟩ : ByteArray)) (wrap64 (x8_1 + 1))) else (none)))) else (none))) else (none)) else (none))) = some r := H
              have A57 := Aside0.mk A570
              clear A570
              by_cases c58 : t150 > 0
              · rw [if_pos c58] at H
                have c58b0 : decide (0 < t150) = true := decide_eq_true c58
                clear c58
                have c59b0 := eq_true (of_decide_eq_true (by first | (with_reducible assumption) | assumption) : 0 ≤ x8_1)
                by_cases c60 : x8_1 ≤ t150
                · rw [if_pos c60] at H
                  have c60b0 := eq_true c60
                  have c60b1 : decide (x8_1 ≤ t150) = true := decide_eq_true c60
                  clear c60
                  by_cases c61 : t150 ≤ (a0.size : Int)
                  · rw [if_pos c61] at H
                    have c61b0 := eq_true c61
                    have c61b1 : decide (t150 ≤ (a0.size : Int)) = true := decide_eq_true c61
                    clear c61
                    by_cases c62 : 2 + a1.size ≤ 9223372036854775807
                    · rw [if_pos c62] at H
                      have c62b0 := eq_true c62
                      have c62b1 : decide (2 + a1.size ≤ 9223372036854775807) = true := decide_eq_true c62
                      try have c62b2 : (9223372036854775807 < 2 + a1.size) = False := eq_false (Nat.not_lt.2 c62)
                      by_cases c63 : ((⟨#[36, 123]⟩ : ByteArray) ++ a1).size + 1 ≤ 9223372036854775807
                      · rw [if_pos c63] at H
                        have c63b0 := eq_true c63
                        have c63b1 : decide (((⟨#[36, 123]⟩ : ByteArray) ++ a1).size + 1 ≤ 9223372036854775807) = true := decide_eq_true c63
                        try have c63b2 : (9223372036854775807 < ((⟨#[36, 123]⟩ : ByteArray) ++ a1).size + 1) = False := eq_false (Nat.not_lt.2 c63)
                        try have c63b9 : (9223372036854775807 < 2 + (a1).size + 1) = False := eq_false (by have hz := c63; simp only [ByteArray.size_append] at hz; have e0_ : (⟨#[36, 123]⟩ : ByteArray).size = 2 := rfl; omega)
                        by_cases c64 : (a0.extract (x8_1 : Int).toNat (t150 : Int).toNat).toList = (((⟨#[36, 123]⟩ : ByteArray) ++ a1) ++ (⟨#[125]⟩ : ByteArray)).toList
                        · rw [if_pos c64] at H
                          have c64b0 : ((a0.extract (x8_1 : Int).toNat (t150 : Int).toNat).toList == (((⟨#[36, 123]⟩ : ByteArray) ++ a1) ++ (⟨#[125]⟩ : ByteArray)).toList) = true := beq_iff_eq.mpr c64
                          have c64b1 : ((a0.extract (x8_1 : Int).toNat (t150 : Int).toNat).toList != (((⟨#[36, 123]⟩ : ByteArray) ++ a1) ++ (⟨#[125]⟩ : ByteArray)).toList) = false := bne_eq_false_iff_eq.mpr c64
                          clear c64
                          replace H := Option.bind_eq_some_iff.mp H
                          obtain ⟨t151, A650, H⟩ := H
                          replace H : (if x7_1.size + t151.size ≤ 9223372036854775807 then (bobstayref12_bind.l0 k1 a0 a1 a2 (x7_1 ++ t151) t150) else (none)) = some r := H
                          have A65 := Aside0.mk A650
                          clear A650
                          by_cases c66 : x7_1.size + t151.size ≤ 9223372036854775807
                          · rw [if_pos c66] at H
                            have c66b0 := eq_true c66
                            have c66b1 : decide (x7_1.size + t151.size ≤ 9223372036854775807) = true := decide_eq_true c66
                            try have c66b2 : (9223372036854775807 < x7_1.size + t151.size) = False := eq_false (Nat.not_lt.2 c66)
                            have H' := Aside0.mk H
                            clear H
                            have p6 : 0 ≤ (x8_1 : Int) := of_decide_eq_true (by first | (with_reducible assumption) | assumption)
                            have q6 : x8_1 < (a0.size : Int) := of_decide_eq_true (by first | (with_reducible assumption) | assumption)
                            have hx6 := bt_at a0 x8_1
                            replace p6 := eq_true p6
                            replace q6 := eq_true q6
                            go_wp2_with (first | ((with_reducible refine gate_callee (f := 38) rfl ?_); refine goesL_ (some 46) rfl rfl Tryd.func38 (by kernel_rfl) rfl #[.string a0, .int .i64 x8_1] rfl (by (try simp only [List.map_toArray, List.map_cons, List.map_nil]); first | done | rfl | (simp only [List.length_drop, List.length_take]; rfl)) ?_; (with_reducible refine (bobstayref08_End.calls k1 a0 x8_1 t150 _ A57.out).mono ?_); rintro e w' ⟨rfl, ⟨nd, rfl⟩⟩; refine ⟨_, rfl, ?_⟩) | ((with_reducible refine gate_callee (f := 39) rfl ?_); refine goesL_ (some 78) rfl rfl Tryd.func39 (by kernel_rfl) rfl #[.string a2] rfl (by (try simp only [List.map_toArray, List.map_cons, List.map_nil]); first | done | rfl | (simp only [List.length_drop, List.length_take]; rfl)) ?_; (with_reducible refine (bobstayref08_Quote.calls k1 a2 t151 _ A65.out).mono ?_); rintro e w67 ⟨rfl, hb⟩; refine ⟨_, rfl, ?_⟩; have n0_ := Aside0.mk (below_step (by repeat (first | (with_reducible first | exact HB.out | apply below_alloc | apply pw_below_drewN | apply below_drew1) | exact HB.out)) hb); clear HB; have HB := n0_; clear n0_; (try clear hb); (try clear hb2); (try clear hk); (try clear hi)))
                            go_roundg k1
                            case measure => have := HK1.out; omega
                            case rel => exact ⟨(x7_1 ++ t151), (t150), (by first | rfl | (simp; done) | (simp [*]; done)), (by first | rfl | (simp; done) | (simp [*]; done)), H', ⟨by have := HK1.out; omega⟩, ⟨by repeat (first | (with_reducible first | exact HB.out | apply below_alloc | apply pw_below_drewN | apply below_drew1) | exact HB.out)⟩⟩
                          · rw [if_neg c66] at H
                            exact absurd H (by simp)
                        · rw [if_neg c64] at H
                          have c64b0 : ((a0.extract (x8_1 : Int).toNat (t150 : Int).toNat).toList == (((⟨#[36, 123]⟩ : ByteArray) ++ a1) ++ (⟨#[125]⟩ : ByteArray)).toList) = false := beq_eq_false_iff_ne.mpr c64
                          have c64b1 : ((a0.extract (x8_1 : Int).toNat (t150 : Int).toNat).toList != (((⟨#[36, 123]⟩ : ByteArray) ++ a1) ++ (⟨#[125]⟩ : ByteArray)).toList) = true := bne_iff_ne.mpr c64
                          by_cases c68 : ((⟨#[36, 40]⟩ : ByteArray) ++ a1).size + 1 ≤ 9223372036854775807
                          · rw [if_pos c68] at H
                            have c68b0 := eq_true c68
                            have c68b1 : decide (((⟨#[36, 40]⟩ : ByteArray) ++ a1).size + 1 ≤ 9223372036854775807) = true := decide_eq_true c68
                            try have c68b2 : (9223372036854775807 < ((⟨#[36, 40]⟩ : ByteArray) ++ a1).size + 1) = False := eq_false (Nat.not_lt.2 c68)
                            try have c68b9 : (9223372036854775807 < 2 + (a1).size + 1) = False := eq_false (by have hz := c68; simp only [ByteArray.size_append] at hz; have e0_ : (⟨#[36, 40]⟩ : ByteArray).size = 2 := rfl; omega)
                            by_cases c69 : (a0.extract (x8_1 : Int).toNat (t150 : Int).toNat).toList = (((⟨#[36, 40]⟩ : ByteArray) ++ a1) ++ (⟨#[41]⟩ : ByteArray)).toList
                            · rw [if_pos c69] at H
                              have c69b0 : ((a0.extract (x8_1 : Int).toNat (t150 : Int).toNat).toList == (((⟨#[36, 40]⟩ : ByteArray) ++ a1) ++ (⟨#[41]⟩ : ByteArray)).toList) = true := beq_iff_eq.mpr c69
                              have c69b1 : ((a0.extract (x8_1 : Int).toNat (t150 : Int).toNat).toList != (((⟨#[36, 40]⟩ : ByteArray) ++ a1) ++ (⟨#[41]⟩ : ByteArray)).toList) = false := bne_eq_false_iff_eq.mpr c69
                              clear c69
                              replace H := Option.bind_eq_some_iff.mp H
                              obtain ⟨t152, A700, H⟩ := H
                              replace H : (if x7_1.size + t152.size ≤ 9223372036854775807 then (bobstayref12_bind.l0 k1 a0 a1 a2 (x7_1 ++ t152) t150) else (none)) = some r := H
                              have A70 := Aside0.mk A700
                              clear A700
                              by_cases c71 : x7_1.size + t152.size ≤ 9223372036854775807
                              · rw [if_pos c71] at H
                                have c71b0 := eq_true c71
                                have c71b1 : decide (x7_1.size + t152.size ≤ 9223372036854775807) = true := decide_eq_true c71
                                try have c71b2 : (9223372036854775807 < x7_1.size + t152.size) = False := eq_false (Nat.not_lt.2 c71)
                                have H' := Aside0.mk H
                                clear H
                                have p6 : 0 ≤ (x8_1 : Int) := of_decide_eq_true (by first | (with_reducible assumption) | assumption)
                                have q6 : x8_1 < (a0.size : Int) := of_decide_eq_true (by first | (with_reducible assumption) | assumption)
                                have hx6 := bt_at a0 x8_1
                                replace p6 := eq_true p6
                                replace q6 := eq_true q6
                                go_wp2_with (first | ((with_reducible refine gate_callee (f := 38) rfl ?_); refine goesL_ (some 46) rfl rfl Tryd.func38 (by kernel_rfl) rfl #[.string a0, .int .i64 x8_1] rfl (by (try simp only [List.map_toArray, List.map_cons, List.map_nil]); first | done | rfl | (simp only [List.length_drop, List.length_take]; rfl)) ?_; (with_reducible refine (bobstayref08_End.calls k1 a0 x8_1 t150 _ A57.out).mono ?_); rintro e w' ⟨rfl, ⟨nd, rfl⟩⟩; refine ⟨_, rfl, ?_⟩) | ((with_reducible refine gate_callee (f := 39) rfl ?_); refine goesL_ (some 78) rfl rfl Tryd.func39 (by kernel_rfl) rfl #[.string a2] rfl (by (try simp only [List.map_toArray, List.map_cons, List.map_nil]); first | done | rfl | (simp only [List.length_drop, List.length_take]; rfl)) ?_; (with_reducible refine (bobstayref08_Quote.calls k1 a2 t152 _ A70.out).mono ?_); rintro e w72 ⟨rfl, hb⟩; refine ⟨_, rfl, ?_⟩; have n0_ := Aside0.mk (below_step (by repeat (first | (with_reducible first | exact HB.out | apply below_alloc | apply pw_below_drewN | apply below_drew1) | exact HB.out)) hb); clear HB; have HB := n0_; clear n0_; (try clear hb); (try clear hb2); (try clear hk); (try clear hi)))
                                go_roundg k1
                                case measure => have := HK1.out; omega
                                case rel => exact ⟨(x7_1 ++ t152), (t150), (by first | rfl | (simp; done) | (simp [*]; done)), (by first | rfl | (simp; done) | (simp [*]; done)), H', ⟨by have := HK1.out; omega⟩, ⟨by repeat (first | (with_reducible first | exact HB.out | apply below_alloc | apply pw_below_drewN | apply below_drew1) | exact HB.out)⟩⟩
                              · rw [if_neg c71] at H
                                exact absurd H (by simp)
                            · rw [if_neg c69] at H
                              have c69b0 : ((a0.extract (x8_1 : Int).toNat (t150 : Int).toNat).toList == (((⟨#[36, 40]⟩ : ByteArray) ++ a1) ++ (⟨#[41]⟩ : ByteArray)).toList) = false := beq_eq_false_iff_ne.mpr c69
                              have c69b1 : ((a0.extract (x8_1 : Int).toNat (t150 : Int).toNat).toList != (((⟨#[36, 40]⟩ : ByteArray) ++ a1) ++ (⟨#[41]⟩ : ByteArray)).toList) = true := bne_iff_ne.mpr c69
                              by_cases c73 : (a1.size : Int) = 1
                              · rw [if_pos c73] at H
                                have c73b0 : ((a1.size : Int) == 1) = true := beq_iff_eq.mpr c73
                                have c73b1 : ((a1.size : Int) != 1) = false := bne_eq_false_iff_eq.mpr c73
                                clear c73
                                by_cases c74 : 1 + a1.size ≤ 9223372036854775807
                                · rw [if_pos c74] at H
                                  have c74b0 := eq_true c74
                                  have c74b1 : decide (1 + a1.size ≤ 9223372036854775807) = true := decide_eq_true c74
                                  try have c74b2 : (9223372036854775807 < 1 + a1.size) = False := eq_false (Nat.not_lt.2 c74)
                                  by_cases c75 : (a0.extract (x8_1 : Int).toNat (t150 : Int).toNat).toList = ((⟨#[36]⟩ : ByteArray) ++ a1).toList
                                  · rw [if_pos c75] at H
                                    have c75b0 : ((a0.extract (x8_1 : Int).toNat (t150 : Int).toNat).toList == ((⟨#[36]⟩ : ByteArray) ++ a1).toList) = true := beq_iff_eq.mpr c75
                                    have c75b1 : ((a0.extract (x8_1 : Int).toNat (t150 : Int).toNat).toList != ((⟨#[36]⟩ : ByteArray) ++ a1).toList) = false := bne_eq_false_iff_eq.mpr c75
                                    clear c75
                                    replace H := Option.bind_eq_some_iff.mp H
                                    obtain ⟨t153, A760, H⟩ := H
                                    replace H : (if x7_1.size + t153.size ≤ 9223372036854775807 then (bobstayref12_bind.l0 k1 a0 a1 a2 (x7_1 ++ t153) t150) else (none)) = some r := H
                                    have A76 := Aside0.mk A760
                                    clear A760
                                    by_cases c77 : x7_1.size + t153.size ≤ 9223372036854775807
                                    · rw [if_pos c77] at H
                                      have c77b0 := eq_true c77
                                      have c77b1 : decide (x7_1.size + t153.size ≤ 9223372036854775807) = true := decide_eq_true c77
                                      try have c77b2 : (9223372036854775807 < x7_1.size + t153.size) = False := eq_false (Nat.not_lt.2 c77)
                                      have H' := Aside0.mk H
                                      clear H
                                      have p6 : 0 ≤ (x8_1 : Int) := of_decide_eq_true (by first | (with_reducible assumption) | assumption)
                                      have q6 : x8_1 < (a0.size : Int) := of_decide_eq_true (by first | (with_reducible assumption) | assumption)
                                      have hx6 := bt_at a0 x8_1
                                      replace p6 := eq_true p6
                                      replace q6 := eq_true q6
                                      go_wp2_with (first | ((with_reducible refine gate_callee (f := 38) rfl ?_); refine goesL_ (some 46) rfl rfl Tryd.func38 (by kernel_rfl) rfl #[.string a0, .int .i64 x8_1] rfl (by (try simp only [List.map_toArray, List.map_cons, List.map_nil]); first | done | rfl | (simp only [List.length_drop, List.length_take]; rfl)) ?_; (with_reducible refine (bobstayref08_End.calls k1 a0 x8_1 t150 _ A57.out).mono ?_); rintro e w' ⟨rfl, ⟨nd, rfl⟩⟩; refine ⟨_, rfl, ?_⟩) | ((with_reducible refine gate_callee (f := 39) rfl ?_); refine goesL_ (some 78) rfl rfl Tryd.func39 (by kernel_rfl) rfl #[.string a2] rfl (by (try simp only [List.map_toArray, List.map_cons, List.map_nil]); first | done | rfl | (simp only [List.length_drop, List.length_take]; rfl)) ?_; (with_reducible refine (bobstayref08_Quote.calls k1 a2 t153 _ A76.out).mono ?_); rintro e w78 ⟨rfl, hb⟩; refine ⟨_, rfl, ?_⟩; have n0_ := Aside0.mk (below_step (by repeat (first | (with_reducible first | exact HB.out | apply below_alloc | apply pw_below_drewN | apply below_drew1) | exact HB.out)) hb); clear HB; have HB := n0_; clear n0_; (try clear hb); (try clear hb2); (try clear hk); (try clear hi)))
                                      go_roundg k1
                                      case measure => have := HK1.out; omega
                                      case rel => exact ⟨(x7_1 ++ t153), (t150), (by first | rfl | (simp; done) | (simp [*]; done)), (by first | rfl | (simp; done) | (simp [*]; done)), H', ⟨by have := HK1.out; omega⟩, ⟨by repeat (first | (with_reducible first | exact HB.out | apply below_alloc | apply pw_below_drewN | apply below_drew1) | exact HB.out)⟩⟩
                                    · rw [if_neg c77] at H
                                      exact absurd H (by simp)
                                  · rw [if_neg c75] at H
                                    have c75b0 : ((a0.extract (x8_1 : Int).toNat (t150 : Int).toNat).toList == ((⟨#[36]⟩ : ByteArray) ++ a1).toList) = false := beq_eq_false_iff_ne.mpr c75
                                    have c75b1 : ((a0.extract (x8_1 : Int).toNat (t150 : Int).toNat).toList != ((⟨#[36]⟩ : ByteArray) ++ a1).toList) = true := bne_iff_ne.mpr c75
                                    by_cases c79 : x7_1.size + 1 ≤ 9223372036854775807
                                    · rw [if_pos c79] at H
                                      have c79b0 := eq_true c79
                                      have c79b1 : decide (x7_1.size + 1 ≤ 9223372036854775807) = true := decide_eq_true c79
                                      try have c79b2 : (9223372036854775807 < x7_1.size + 1) = False := eq_false (Nat.not_lt.2 c79)
                                      have H' := Aside0.mk H
                                      clear H
                                      have p6 : 0 ≤ (x8_1 : Int) := of_decide_eq_true (by first | (with_reducible assumption) | assumption)
                                      have q6 : x8_1 < (a0.size : Int) := of_decide_eq_true (by first | (with_reducible assumption) | assumption)
                                      have hx6 := bt_at a0 x8_1
                                      replace p6 := eq_true p6
                                      replace q6 := eq_true q6
                                      go_wp2_with (first | ((with_reducible refine gate_callee (f := 38) rfl ?_); refine goesL_ (some 46) rfl rfl Tryd.func38 (by kernel_rfl) rfl #[.string a0, .int .i64 x8_1] rfl (by (try simp only [List.map_toArray, List.map_cons, List.map_nil]); first | done | rfl | (simp only [List.length_drop, List.length_take]; rfl)) ?_; (with_reducible refine (bobstayref08_End.calls k1 a0 x8_1 t150 _ A57.out).mono ?_); rintro e w' ⟨rfl, ⟨nd, rfl⟩⟩; refine ⟨_, rfl, ?_⟩))
                                      go_roundg k1
                                      case measure => have := HK1.out; omega
                                      case rel => exact ⟨(x7_1 ++ (⟨#[36]⟩ : ByteArray)), (wrap64 (x8_1 + 1)), (by first | rfl | (simp; done) | (simp [*]; done)), (by first | rfl | (simp; done) | (simp [*]; done)), H', ⟨by have := HK1.out; omega⟩, ⟨by repeat (first | (with_reducible first | exact HB.out | apply below_alloc | apply pw_below_drewN | apply below_drew1) | exact HB.out)⟩⟩
                                    · rw [if_neg c79] at H
                                      exact absurd H (by simp)
                                · rw [if_neg c74] at H
                                  exact absurd H (by simp)
                              · rw [if_neg c73] at H
                                have c73b0 : ((a1.size : Int) == 1) = false := beq_eq_false_iff_ne.mpr c73
                                have c73b1 : ((a1.size : Int) != 1) = true := bne_iff_ne.mpr c73
                                by_cases c80 : x7_1.size + 1 ≤ 9223372036854775807
                                · rw [if_pos c80] at H
                                  have c80b0 := eq_true c80
                                  have c80b1 : decide (x7_1.size + 1 ≤ 9223372036854775807) = true := decide_eq_true c80
                                  try have c80b2 : (9223372036854775807 < x7_1.size + 1) = False := eq_false (Nat.not_lt.2 c80)
                                  have H' := Aside0.mk H
                                  clear H
                                  have p6 : 0 ≤ (x8_1 : Int) := of_decide_eq_true (by first | (with_reducible assumption) | assumption)
                                  have q6 : x8_1 < (a0.size : Int) := of_decide_eq_true (by first | (with_reducible assumption) | assumption)
                                  have hx6 := bt_at a0 x8_1
                                  replace p6 := eq_true p6
                                  replace q6 := eq_true q6
                                  go_wp2_with (first | ((with_reducible refine gate_callee (f := 38) rfl ?_); refine goesL_ (some 46) rfl rfl Tryd.func38 (by kernel_rfl) rfl #[.string a0, .int .i64 x8_1] rfl (by (try simp only [List.map_toArray, List.map_cons, List.map_nil]); first | done | rfl | (simp only [List.length_drop, List.length_take]; rfl)) ?_; (with_reducible refine (bobstayref08_End.calls k1 a0 x8_1 t150 _ A57.out).mono ?_); rintro e w' ⟨rfl, ⟨nd, rfl⟩⟩; refine ⟨_, rfl, ?_⟩))
                                  go_roundg k1
                                  case measure => have := HK1.out; omega
                                  case rel => exact ⟨(x7_1 ++ (⟨#[36]⟩ : ByteArray)), (wrap64 (x8_1 + 1)), (by first | rfl | (simp; done) | (simp [*]; done)), (by first | rfl | (simp; done) | (simp [*]; done)), H', ⟨by have := HK1.out; omega⟩, ⟨by repeat (first | (with_reducible first | exact HB.out | apply below_alloc | apply pw_below_drewN | apply below_drew1) | exact HB.out)⟩⟩
                                · rw [if_neg c80] at H
                                  exact absurd H (by simp)
                          · rw [if_neg c68] at H
                            exact absurd H (by simp)
                      · rw [if_neg c63] at H
                        exact absurd H (by simp)
                    · rw [if_neg c62] at H
                      exact absurd H (by simp)
                  · rw [if_neg c61] at H
                    exact absurd H (by simp)
                · rw [if_neg c60] at H
                  exact absurd H (by simp)
              · rw [if_neg c58] at H
                have c58b0 : decide (0 < t150) = false := decide_eq_false c58
                clear c58
                by_cases c81 : 2 + a1.size ≤ 9223372036854775807
                · rw [if_pos c81] at H
                  have c81b0 := eq_true c81
                  have c81b1 : decide (2 + a1.size ≤ 9223372036854775807) = true := decide_eq_true c81
                  try have c81b2 : (9223372036854775807 < 2 + a1.size) = False := eq_false (Nat.not_lt.2 c81)
                  by_cases c82 : ((⟨#[36, 123]⟩ : ByteArray) ++ a1).size + 1 ≤ 9223372036854775807
                  · rw [if_pos c82] at H
                    have c82b0 := eq_true c82
                    have c82b1 : decide (((⟨#[36, 123]⟩ : ByteArray) ++ a1).size + 1 ≤ 9223372036854775807) = true := decide_eq_true c82
                    try have c82b2 : (9223372036854775807 < ((⟨#[36, 123]⟩ : ByteArray) ++ a1).size + 1) = False := eq_false (Nat.not_lt.2 c82)
                    try have c82b9 : (9223372036854775807 < 2 + (a1).size + 1) = False := eq_false (by have hz := c82; simp only [ByteArray.size_append] at hz; have e0_ : (⟨#[36, 123]⟩ : ByteArray).size = 2 := rfl; omega)
                    by_cases c83 : ([36] : List UInt8) = (((⟨#[36, 123]⟩ : ByteArray) ++ a1) ++ (⟨#[125]⟩ : ByteArray)).toList
                    · rw [if_pos c83] at H
                      have c83b0 : (([36] : List UInt8) == (((⟨#[36, 123]⟩ : ByteArray) ++ a1) ++ (⟨#[125]⟩ : ByteArray)).toList) = true := beq_iff_eq.mpr c83
                      have c83b1 : (([36] : List UInt8) != (((⟨#[36, 123]⟩ : ByteArray) ++ a1) ++ (⟨#[125]⟩ : ByteArray)).toList) = false := bne_eq_false_iff_eq.mpr c83
                      clear c83
                      replace H := Option.bind_eq_some_iff.mp H
                      obtain ⟨t154, A840, H⟩ := H
                      replace H : (if x7_1.size + t154.size ≤ 9223372036854775807 then (bobstayref12_bind.l0 k1 a0 a1 a2 (x7_1 ++ t154) t150) else (none)) = some r := H
                      have A84 := Aside0.mk A840
                      clear A840
                      by_cases c85 : x7_1.size + t154.size ≤ 9223372036854775807
                      · rw [if_pos c85] at H
                        have c85b0 := eq_true c85
                        have c85b1 : decide (x7_1.size + t154.size ≤ 9223372036854775807) = true := decide_eq_true c85
                        try have c85b2 : (9223372036854775807 < x7_1.size + t154.size) = False := eq_false (Nat.not_lt.2 c85)
                        have H' := Aside0.mk H
                        clear H
                        have p6 : 0 ≤ (x8_1 : Int) := of_decide_eq_true (by first | (with_reducible assumption) | assumption)
                        have q6 : x8_1 < (a0.size : Int) := of_decide_eq_true (by first | (with_reducible assumption) | assumption)
                        have hx6 := bt_at a0 x8_1
                        replace p6 := eq_true p6
                        replace q6 := eq_true q6
                        go_wp2_with (first | ((with_reducible refine gate_callee (f := 38) rfl ?_); refine goesL_ (some 46) rfl rfl Tryd.func38 (by kernel_rfl) rfl #[.string a0, .int .i64 x8_1] rfl (by (try simp only [List.map_toArray, List.map_cons, List.map_nil]); first | done | rfl | (simp only [List.length_drop, List.length_take]; rfl)) ?_; (with_reducible refine (bobstayref08_End.calls k1 a0 x8_1 t150 _ A57.out).mono ?_); rintro e w' ⟨rfl, ⟨nd, rfl⟩⟩; refine ⟨_, rfl, ?_⟩) | ((with_reducible refine gate_callee (f := 39) rfl ?_); refine goesL_ (some 78) rfl rfl Tryd.func39 (by kernel_rfl) rfl #[.string a2] rfl (by (try simp only [List.map_toArray, List.map_cons, List.map_nil]); first | done | rfl | (simp only [List.length_drop, List.length_take]; rfl)) ?_; (with_reducible refine (bobstayref08_Quote.calls k1 a2 t154 _ A84.out).mono ?_); rintro e w86 ⟨rfl, hb⟩; refine ⟨_, rfl, ?_⟩; have n0_ := Aside0.mk (below_step (by repeat (first | (with_reducible first | exact HB.out | apply below_alloc | apply pw_below_drewN | apply below_drew1) | exact HB.out)) hb); clear HB; have HB := n0_; clear n0_; (try clear hb); (try clear hb2); (try clear hk); (try clear hi)))
                        go_roundg k1
                        case measure => have := HK1.out; omega
                        case rel => exact ⟨(x7_1 ++ t154), (t150), (by first | rfl | (simp; done) | (simp [*]; done)), (by first | rfl | (simp; done) | (simp [*]; done)), H', ⟨by have := HK1.out; omega⟩, ⟨by repeat (first | (with_reducible first | exact HB.out | apply below_alloc | apply pw_below_drewN | apply below_drew1) | exact HB.out)⟩⟩
                      · rw [if_neg c85] at H
                        exact absurd H (by simp)
                    · rw [if_neg c83] at H
                      have c83b0 : (([36] : List UInt8) == (((⟨#[36, 123]⟩ : ByteArray) ++ a1) ++ (⟨#[125]⟩ : ByteArray)).toList) = false := beq_eq_false_iff_ne.mpr c83
                      have c83b1 : (([36] : List UInt8) != (((⟨#[36, 123]⟩ : ByteArray) ++ a1) ++ (⟨#[125]⟩ : ByteArray)).toList) = true := bne_iff_ne.mpr c83
                      by_cases c87 : ((⟨#[36, 40]⟩ : ByteArray) ++ a1).size + 1 ≤ 9223372036854775807
                      · rw [if_pos c87] at H
                        have c87b0 := eq_true c87
                        have c87b1 : decide (((⟨#[36, 40]⟩ : ByteArray) ++ a1).size + 1 ≤ 9223372036854775807) = true := decide_eq_true c87
                        try have c87b2 : (9223372036854775807 < ((⟨#[36, 40]⟩ : ByteArray) ++ a1).size + 1) = False := eq_false (Nat.not_lt.2 c87)
                        try have c87b9 : (9223372036854775807 < 2 + (a1).size + 1) = False := eq_false (by have hz := c87; simp only [ByteArray.size_append] at hz; have e0_ : (⟨#[36, 40]⟩ : ByteArray).size = 2 := rfl; omega)
                        by_cases c88 : ([36] : List UInt8) = (((⟨#[36, 40]⟩ : ByteArray) ++ a1) ++ (⟨#[41]⟩ : ByteArray)).toList
                        · rw [if_pos c88] at H
                          have c88b0 : (([36] : List UInt8) == (((⟨#[36, 40]⟩ : ByteArray) ++ a1) ++ (⟨#[41]⟩ : ByteArray)).toList) = true := beq_iff_eq.mpr c88
                          have c88b1 : (([36] : List UInt8) != (((⟨#[36, 40]⟩ : ByteArray) ++ a1) ++ (⟨#[41]⟩ : ByteArray)).toList) = false := bne_eq_false_iff_eq.mpr c88
                          clear c88
                          replace H := Option.bind_eq_some_iff.mp H
                          obtain ⟨t155, A890, H⟩ := H
                          replace H : (if x7_1.size + t155.size ≤ 9223372036854775807 then (bobstayref12_bind.l0 k1 a0 a1 a2 (x7_1 ++ t155) t150) else (none)) = some r := H
                          have A89 := Aside0.mk A890
                          clear A890
                          by_cases c90 : x7_1.size + t155.size ≤ 9223372036854775807
                          · rw [if_pos c90] at H
                            have c90b0 := eq_true c90
                            have c90b1 : decide (x7_1.size + t155.size ≤ 9223372036854775807) = true := decide_eq_true c90
                            try have c90b2 : (9223372036854775807 < x7_1.size + t155.size) = False := eq_false (Nat.not_lt.2 c90)
                            have H' := Aside0.mk H
                            clear H
                            have p6 : 0 ≤ (x8_1 : Int) := of_decide_eq_true (by first | (with_reducible assumption) | assumption)
                            have q6 : x8_1 < (a0.size : Int) := of_decide_eq_true (by first | (with_reducible assumption) | assumption)
                            have hx6 := bt_at a0 x8_1
                            replace p6 := eq_true p6
                            replace q6 := eq_true q6
                            go_wp2_with (first | ((with_reducible refine gate_callee (f := 38) rfl ?_); refine goesL_ (some 46) rfl rfl Tryd.func38 (by kernel_rfl) rfl #[.string a0, .int .i64 x8_1] rfl (by (try simp only [List.map_toArray, List.map_cons, List.map_nil]); first | done | rfl | (simp only [List.length_drop, List.length_take]; rfl)) ?_; (with_reducible refine (bobstayref08_End.calls k1 a0 x8_1 t150 _ A57.out).mono ?_); rintro e w' ⟨rfl, ⟨nd, rfl⟩⟩; refine ⟨_, rfl, ?_⟩) | ((with_reducible refine gate_callee (f := 39) rfl ?_); refine goesL_ (some 78) rfl rfl Tryd.func39 (by kernel_rfl) rfl #[.string a2] rfl (by (try simp only [List.map_toArray, List.map_cons, List.map_nil]); first | done | rfl | (simp only [List.length_drop, List.length_take]; rfl)) ?_; (with_reducible refine (bobstayref08_Quote.calls k1 a2 t155 _ A89.out).mono ?_); rintro e w91 ⟨rfl, hb⟩; refine ⟨_, rfl, ?_⟩; have n0_ := Aside0.mk (below_step (by repeat (first | (with_reducible first | exact HB.out | apply below_alloc | apply pw_below_drewN | apply below_drew1) | exact HB.out)) hb); clear HB; have HB := n0_; clear n0_; (try clear hb); (try clear hb2); (try clear hk); (try clear hi)))
                            go_roundg k1
                            case measure => have := HK1.out; omega
                            case rel => exact ⟨(x7_1 ++ t155), (t150), (by first | rfl | (simp; done) | (simp [*]; done)), (by first | rfl | (simp; done) | (simp [*]; done)), H', ⟨by have := HK1.out; omega⟩, ⟨by repeat (first | (with_reducible first | exact HB.out | apply below_alloc | apply pw_below_drewN | apply below_drew1) | exact HB.out)⟩⟩
                          · rw [if_neg c90] at H
                            exact absurd H (by simp)
                        · rw [if_neg c88] at H
                          have c88b0 : (([36] : List UInt8) == (((⟨#[36, 40]⟩ : ByteArray) ++ a1) ++ (⟨#[41]⟩ : ByteArray)).toList) = false := beq_eq_false_iff_ne.mpr c88
                          have c88b1 : (([36] : List UInt8) != (((⟨#[36, 40]⟩ : ByteArray) ++ a1) ++ (⟨#[41]⟩ : ByteArray)).toList) = true := bne_iff_ne.mpr c88
                          by_cases c92 : (a1.size : Int) = 1
                          · rw [if_pos c92] at H
                            have c92b0 : ((a1.size : Int) == 1) = true := beq_iff_eq.mpr c92
                            have c92b1 : ((a1.size : Int) != 1) = false := bne_eq_false_iff_eq.mpr c92
                            clear c92
                            by_cases c93 : 1 + a1.size ≤ 9223372036854775807
                            · rw [if_pos c93] at H
                              have c93b0 := eq_true c93
                              have c93b1 : decide (1 + a1.size ≤ 9223372036854775807) = true := decide_eq_true c93
                              try have c93b2 : (9223372036854775807 < 1 + a1.size) = False := eq_false (Nat.not_lt.2 c93)
                              by_cases c94 : ([36] : List UInt8) = ((⟨#[36]⟩ : ByteArray) ++ a1).toList
                              · rw [if_pos c94] at H
                                have c94b0 : (([36] : List UInt8) == ((⟨#[36]⟩ : ByteArray) ++ a1).toList) = true := beq_iff_eq.mpr c94
                                have c94b1 : (([36] : List UInt8) != ((⟨#[36]⟩ : ByteArray) ++ a1).toList) = false := bne_eq_false_iff_eq.mpr c94
                                clear c94
                                replace H := Option.bind_eq_some_iff.mp H
                                obtain ⟨t156, A950, H⟩ := H
                                replace H : (if x7_1.size + t156.size ≤ 9223372036854775807 then (bobstayref12_bind.l0 k1 a0 a1 a2 (x7_1 ++ t156) t150) else (none)) = some r := H
                                have A95 := Aside0.mk A950
                                clear A950
                                by_cases c96 : x7_1.size + t156.size ≤ 9223372036854775807
                                · rw [if_pos c96] at H
                                  have c96b0 := eq_true c96
                                  have c96b1 : decide (x7_1.size + t156.size ≤ 9223372036854775807) = true := decide_eq_true c96
                                  try have c96b2 : (9223372036854775807 < x7_1.size + t156.size) = False := eq_false (Nat.not_lt.2 c96)
                                  have H' := Aside0.mk H
                                  clear H
                                  have p6 : 0 ≤ (x8_1 : Int) := of_decide_eq_true (by first | (with_reducible assumption) | assumption)
                                  have q6 : x8_1 < (a0.size : Int) := of_decide_eq_true (by first | (with_reducible assumption) | assumption)
                                  have hx6 := bt_at a0 x8_1
                                  replace p6 := eq_true p6
                                  replace q6 := eq_true q6
                                  go_wp2_with (first | ((with_reducible refine gate_callee (f := 38) rfl ?_); refine goesL_ (some 46) rfl rfl Tryd.func38 (by kernel_rfl) rfl #[.string a0, .int .i64 x8_1] rfl (by (try simp only [List.map_toArray, List.map_cons, List.map_nil]); first | done | rfl | (simp only [List.length_drop, List.length_take]; rfl)) ?_; (with_reducible refine (bobstayref08_End.calls k1 a0 x8_1 t150 _ A57.out).mono ?_); rintro e w' ⟨rfl, ⟨nd, rfl⟩⟩; refine ⟨_, rfl, ?_⟩) | ((with_reducible refine gate_callee (f := 39) rfl ?_); refine goesL_ (some 78) rfl rfl Tryd.func39 (by kernel_rfl) rfl #[.string a2] rfl (by (try simp only [List.map_toArray, List.map_cons, List.map_nil]); first | done | rfl | (simp only [List.length_drop, List.length_take]; rfl)) ?_; (with_reducible refine (bobstayref08_Quote.calls k1 a2 t156 _ A95.out).mono ?_); rintro e w97 ⟨rfl, hb⟩; refine ⟨_, rfl, ?_⟩; have n0_ := Aside0.mk (below_step (by repeat (first | (with_reducible first | exact HB.out | apply below_alloc | apply pw_below_drewN | apply below_drew1) | exact HB.out)) hb); clear HB; have HB := n0_; clear n0_; (try clear hb); (try clear hb2); (try clear hk); (try clear hi)))
                                  go_roundg k1
                                  case measure => have := HK1.out; omega
                                  case rel => exact ⟨(x7_1 ++ t156), (t150), (by first | rfl | (simp; done) | (simp [*]; done)), (by first | rfl | (simp; done) | (simp [*]; done)), H', ⟨by have := HK1.out; omega⟩, ⟨by repeat (first | (with_reducible first | exact HB.out | apply below_alloc | apply pw_below_drewN | apply below_drew1) | exact HB.out)⟩⟩
                                · rw [if_neg c96] at H
                                  exact absurd H (by simp)
                              · rw [if_neg c94] at H
                                have c94b0 : (([36] : List UInt8) == ((⟨#[36]⟩ : ByteArray) ++ a1).toList) = false := beq_eq_false_iff_ne.mpr c94
                                have c94b1 : (([36] : List UInt8) != ((⟨#[36]⟩ : ByteArray) ++ a1).toList) = true := bne_iff_ne.mpr c94
                                by_cases c98 : x7_1.size + 1 ≤ 9223372036854775807
                                · rw [if_pos c98] at H
                                  have c98b0 := eq_true c98
                                  have c98b1 : decide (x7_1.size + 1 ≤ 9223372036854775807) = true := decide_eq_true c98
                                  try have c98b2 : (9223372036854775807 < x7_1.size + 1) = False := eq_false (Nat.not_lt.2 c98)
                                  have H' := Aside0.mk H
                                  clear H
                                  have p6 : 0 ≤ (x8_1 : Int) := of_decide_eq_true (by first | (with_reducible assumption) | assumption)
                                  have q6 : x8_1 < (a0.size : Int) := of_decide_eq_true (by first | (with_reducible assumption) | assumption)
                                  have hx6 := bt_at a0 x8_1
                                  replace p6 := eq_true p6
                                  replace q6 := eq_true q6
                                  go_wp2_with (first | ((with_reducible refine gate_callee (f := 38) rfl ?_); refine goesL_ (some 46) rfl rfl Tryd.func38 (by kernel_rfl) rfl #[.string a0, .int .i64 x8_1] rfl (by (try simp only [List.map_toArray, List.map_cons, List.map_nil]); first | done | rfl | (simp only [List.length_drop, List.length_take]; rfl)) ?_; (with_reducible refine (bobstayref08_End.calls k1 a0 x8_1 t150 _ A57.out).mono ?_); rintro e w' ⟨rfl, ⟨nd, rfl⟩⟩; refine ⟨_, rfl, ?_⟩))
                                  go_roundg k1
                                  case measure => have := HK1.out; omega
                                  case rel => exact ⟨(x7_1 ++ (⟨#[36]⟩ : ByteArray)), (wrap64 (x8_1 + 1)), (by first | rfl | (simp; done) | (simp [*]; done)), (by first | rfl | (simp; done) | (simp [*]; done)), H', ⟨by have := HK1.out; omega⟩, ⟨by repeat (first | (with_reducible first | exact HB.out | apply below_alloc | apply pw_below_drewN | apply below_drew1) | exact HB.out)⟩⟩
                                · rw [if_neg c98] at H
                                  exact absurd H (by simp)
                            · rw [if_neg c93] at H
                              exact absurd H (by simp)
                          · rw [if_neg c92] at H
                            have c92b0 : ((a1.size : Int) == 1) = false := beq_eq_false_iff_ne.mpr c92
                            have c92b1 : ((a1.size : Int) != 1) = true := bne_iff_ne.mpr c92
                            by_cases c99 : x7_1.size + 1 ≤ 9223372036854775807
                            · rw [if_pos c99] at H
                              have c99b0 := eq_true c99
                              have c99b1 : decide (x7_1.size + 1 ≤ 9223372036854775807) = true := decide_eq_true c99
                              try have c99b2 : (9223372036854775807 < x7_1.size + 1) = False := eq_false (Nat.not_lt.2 c99)
                              have H' := Aside0.mk H
                              clear H
                              have p6 : 0 ≤ (x8_1 : Int) := of_decide_eq_true (by first | (with_reducible assumption) | assumption)
                              have q6 : x8_1 < (a0.size : Int) := of_decide_eq_true (by first | (with_reducible assumption) | assumption)
                              have hx6 := bt_at a0 x8_1
                              replace p6 := eq_true p6
                              replace q6 := eq_true q6
                              go_wp2_with (first | ((with_reducible refine gate_callee (f := 38) rfl ?_); refine goesL_ (some 46) rfl rfl Tryd.func38 (by kernel_rfl) rfl #[.string a0, .int .i64 x8_1] rfl (by (try simp only [List.map_toArray, List.map_cons, List.map_nil]); first | done | rfl | (simp only [List.length_drop, List.length_take]; rfl)) ?_; (with_reducible refine (bobstayref08_End.calls k1 a0 x8_1 t150 _ A57.out).mono ?_); rintro e w' ⟨rfl, ⟨nd, rfl⟩⟩; refine ⟨_, rfl, ?_⟩))
                              go_roundg k1
                              case measure => have := HK1.out; omega
                              case rel => exact ⟨(x7_1 ++ (⟨#[36]⟩ : ByteArray)), (wrap64 (x8_1 + 1)), (by first | rfl | (simp; done) | (simp [*]; done)), (by first | rfl | (simp; done) | (simp [*]; done)), H', ⟨by have := HK1.out; omega⟩, ⟨by repeat (first | (with_reducible first | exact HB.out | apply below_alloc | apply pw_below_drewN | apply below_drew1) | exact HB.out)⟩⟩
                            · rw [if_neg c99] at H
                              exact absurd H (by simp)
                      · rw [if_neg c87] at H
                        exact absurd H (by simp)
                  · rw [if_neg c82] at H
                    exact absurd H (by simp)
                · rw [if_neg c81] at H
                  exact absurd H (by simp)
          · rw [if_neg c7] at H
            have c7b0 : ((bt a0 x8_1) == 36) = false := beq_eq_false_iff_ne.mpr c7
            have c7b1 : ((bt a0 x8_1) != 36) = true := bne_iff_ne.mpr c7
            have c100b0 := eq_true (of_decide_eq_true (by first | (with_reducible assumption) | assumption) : 0 ≤ x8_1)
            by_cases c101 : x8_1 ≤ (wrap64 (x8_1 + 1))
            · rw [if_pos c101] at H
              have c101b0 := eq_true c101
              have c101b1 : decide (x8_1 ≤ (wrap64 (x8_1 + 1))) = true := decide_eq_true c101
              by_cases c102 : (wrap64 (x8_1 + 1)) ≤ (a0.size : Int)
              · rw [if_pos c102] at H
                have c102b0 := eq_true c102
                have c102b1 : decide ((wrap64 (x8_1 + 1)) ≤ (a0.size : Int)) = true := decide_eq_true c102
                by_cases c103 : x7_1.size + (a0.extract (x8_1 : Int).toNat ((wrap64 (x8_1 + 1)) : Int).toNat).size ≤ 9223372036854775807
                · rw [if_pos c103] at H
                  have c103b0 := eq_true c103
                  have c103b1 : decide (x7_1.size + (a0.extract (x8_1 : Int).toNat ((wrap64 (x8_1 + 1)) : Int).toNat).size ≤ 9223372036854775807) = true := decide_eq_true c103
                  try have c103b2 : (9223372036854775807 < x7_1.size + (a0.extract (x8_1 : Int).toNat ((wrap64 (x8_1 + 1)) : Int).toNat).size) = False := eq_false (Nat.not_lt.2 c103)
                  have H' := Aside0.mk H
                  clear H
                  have p6 : 0 ≤ (x8_1 : Int) := of_decide_eq_true (by first | (with_reducible assumption) | assumption)
                  have q6 : x8_1 < (a0.size : Int) := of_decide_eq_true (by first | (with_reducible assumption) | assumption)
                  have hx6 := bt_at a0 x8_1
                  replace p6 := eq_true p6
                  replace q6 := eq_true q6
                  go_wp2
                  go_roundg k1
                  case measure => have := HK1.out; omega
                  case rel => exact ⟨(x7_1 ++ (a0.extract (x8_1 : Int).toNat ((wrap64 (x8_1 + 1)) : Int).toNat)), (wrap64 (x8_1 + 1)), (by first | rfl | (simp; done) | (simp [*]; done)), (by first | rfl | (simp; done) | (simp [*]; done)), H', ⟨by have := HK1.out; omega⟩, ⟨by repeat (first | (with_reducible first | exact HB.out | apply below_alloc | apply pw_below_drewN | apply below_drew1) | exact HB.out)⟩⟩
                · rw [if_neg c103] at H
                  exact absurd H (by simp)
              · rw [if_neg c102] at H
                exact absurd H (by simp)
            · rw [if_neg c101] at H
              exact absurd H (by simp)
        · rw [if_neg c5] at H
          exact absurd H (by simp)
      · rw [if_neg c4] at H
        have c4b0 : decide (x8_1 < (a0.size : Int)) = false := decide_eq_false c4
        clear c4
        obtain rfl := Option.some.inj H
        go_wp2
        go_ret
        exact ⟨by first | rfl | (simp [errW_none, errW_some] <;> rfl) | (simp [*, errW_none, errW_some] <;> rfl), by repeat (first | (with_reducible first | exact HB.out | apply below_alloc | apply pw_below_drewN | apply below_drew1) | exact HB.out)⟩

end Go.Proofs.YtiedbnjoomcdbaaDoor.PC

namespace Go.Proofs.YtiedbnjoomcdbaaDoor.PC
open Go.RowKit Go.Proofs.YtiedbnjoomcdbaaDoorW.PrintWords Go.Proofs.YtiedbnjoomcdbaaDoorW.PrintLast Go.Proofs.YtiedbnjoomcdbaaDoorW.PrintMore
attribute [local go_sem] max2_int min2_int max_two min_two max_three min_three max_four min_four   -- for this text's walks alone
set_option linter.unusedVariables false
set_option linter.unusedSimpArgs false

/-! ### bobstayref12_Bind: function 14 -/
def bobstayref12_Bind.l0 : Nat → List (S33) → ByteArray → ByteArray → List (S33) → Int → Option ((List (S33)))
  | 0, _, _, _, _, _ => none
  | k + 1, x0, x1, x2, x7, x8 => if x8 < (x0.length : Int) then (if 0 ≤ x8 then ((bobstayref12_bind.f k ((rd_T33 x0 x8).f0) x1 x2).bind fun t159 => (if x7.length < 4398046511104 then (bobstayref12_Bind.l0 k x0 x1 x2 (x7 ++ [(⟨t159, (rd_T33 x0 x8).f1, (rd_T33 x0 x8).f2⟩ : S33)]) (wrap64 (x8 + 1))) else (none))) else (none)) else (some x7)
def bobstayref12_Bind.f (k : Nat) (l0 : List (S33)) (a1 : ByteArray) (a2 : ByteArray) : Option ((List (S33))) := bobstayref12_Bind.l0 k l0 a1 a2 ([] : List (S33)) 0
theorem bobstayref12_Bind.mono_l : ∀ k, (∀ y0 y1 y2 y3 y4, LeO (bobstayref12_Bind.l0 k y0 y1 y2 y3 y4) (bobstayref12_Bind.l0 (k + 1) y0 y1 y2 y3 y4))
  | 0 => fun _ _ _ _ _ r h => by simp [bobstayref12_Bind.l0] at h
  | k + 1 => by
    have ih0 := bobstayref12_Bind.mono_l k
    · intro y0 y1 y2 y3 y4
      unfold bobstayref12_Bind.l0
      repeat' first
      | (with_reducible exact ih0 _ _ _ _ _)
      | (with_reducible exact bobstayref12_bind.mono _ _ _ _)
      | (with_reducible exact LeO.refl _)
      | (with_reducible exact LeO.none _)
      | (with_reducible refine LeO.ite ?_ ?_)
      | (with_reducible refine LeO.bind ?_ (fun _ => ?_))
      | exact ih0 _ _ _ _ _
      | exact bobstayref12_bind.mono _ _ _ _
      | exact LeO.none _
      | refine LeO.ite ?_ ?_
      | refine LeO.bind ?_ (fun _ => ?_)
theorem bobstayref12_Bind.mono : ∀ a0 a1 a2 k, LeO (bobstayref12_Bind.f k a0 a1 a2) (bobstayref12_Bind.f (k + 1) a0 a1 a2) := by
  intro a0 a1 a2 k
  have ih0 := bobstayref12_Bind.mono_l k
  unfold bobstayref12_Bind.f
  repeat' first
      | (with_reducible exact ih0 _ _ _ _ _)
      | (with_reducible exact bobstayref12_bind.mono _ _ _ _)
      | (with_reducible exact LeO.refl _)
      | (with_reducible exact LeO.none _)
      | (with_reducible refine LeO.ite ?_ ?_)
      | (with_reducible refine LeO.bind ?_ (fun _ => ?_))
      | exact ih0 _ _ _ _ _
      | exact bobstayref12_bind.mono _ _ _ _
      | exact LeO.none _
      | refine LeO.ite ?_ ?_
      | refine LeO.bind ?_ (fun _ => ?_)
set_option maxHeartbeats 8000000 in
set_option maxRecDepth 100000 in
theorem bobstayref12_Bind.calls (k : Nat) (A0 : Option Addr) (c0 : Nat) (l0 : List (S33)) (a1 : ByteArray) (a2 : ByteArray) (r : List (S33)) (w : World) (hr0 : Kd.C k33 w A0 l0.length l0) (hc0 : l0.length ≤ c0) (h : bobstayref12_Bind.f k l0 a1 a2 = some r) :
    Calls Tryd.prog 14 #[.slice A0 l0.length c0, .string a1, .string a2] w fun e w' => ∃ v0_ : Value, e = .returned (v0_) ∧ Kd.R k33 33 w' w.heap.size (fun _ => True) v0_ r ∧ Below w.heap.size w w' := by
  have hu33 := Tryd.underlying33
  have HR0 := Aside0.mk hr0
  have HC0 := Aside0.mk hc0
  clear hr0 hc0
  have HB := Aside0.mk (Below.refl w.heap.size w)
  have H : (bobstayref12_Bind.l0 k l0 a1 a2 ([] : List (S33)) 0) = some r := h
  clear h
  have H' := Aside0.mk H
  clear H
  go_enter Tryd.func14, Tryd.ntmps14
  go_wp2
  go_loopg [7, 8] k (fun kq v7 v8 w' => ∃ (x7_1 : List (S33)) (x8_1 : Int), v8 = .int .i64 x8_1 ∧ Aside0 (bobstayref12_Bind.l0 kq l0 a1 a2 x7_1 x8_1 = some r) ∧ Aside0 (kq ≤ k) ∧ Aside0 (Kd.R k33 33 w' w.heap.size (fun _ => True) v7 x7_1) ∧ Aside0 (Below w.heap.size w w'))
  case atStart => exact ⟨(([] : List (S33))), (0), (by first | rfl | (simp; done) | (simp [*]; done)), H', ⟨Nat.le_refl _⟩, ⟨by first | exact Kd.R_nil _ _ _ _ _ | exact Kd.N_nil _ _ _ _ _ | exact Kd.V_nil _ _ _ _ _ | exact Kd.Q_nil _ _ _ _ _ | exact Kd.S_nil _ _ _ _ _⟩, ⟨by repeat (first | (with_reducible first | exact HB.out | apply below_alloc | apply pw_below_drewN | apply below_drew1) | exact HB.out)⟩⟩
  case round =>
    clear H'
    try clear c1
    try clear p2
    obtain ⟨x7_1, x8_1, rfl, HA, HK1, HO_7, HB⟩ := hrel
    cases gk with
    | zero => exact absurd HA.out (by simp [bobstayref12_Bind.l0])
    | succ k1 =>
      have H := HA.out
      clear HA
      simp only [bobstayref12_Bind.l0] at H
      by_cases c4 : x8_1 < (l0.length : Int)
      · rw [if_pos c4] at H
        have c4b0 : decide (x8_1 < (l0.length : Int)) = true := decide_eq_true c4
        clear c4
        by_cases c5 : 0 ≤ x8_1
        · rw [if_pos c5] at H
          have c5b0 : decide (0 ≤ x8_1) = true := decide_eq_true c5
          clear c5
          replace H := Option.bind_eq_some_iff.mp H
          obtain ⟨t159, A60, H⟩ := H
          replace H : (if x7_1.length < 4398046511104 then (bobstayref12_Bind.l0 k1 l0 a1 a2 (x7_1 ++ [(⟨t159, (rd_T33 l0 x8_1).f1, (rd_T33 l0 x8_1).f2⟩ : S33)]) (wrap64 (x8_1 + 1))) else (none)) = some r := H
          have A6 := Aside0.mk A60
          clear A60
          by_cases c7 : x7_1.length < 4398046511104
          · rw [if_pos c7] at H
            have LMc7 := Aside0.mk c7
            clear c7
            obtain ⟨y160, hy160⟩ : ∃ y_ : List (S33), y_ = (x7_1 ++ [(⟨t159, (rd_T33 l0 x8_1).f1, (rd_T33 l0 x8_1).f2⟩ : S33)]) := ⟨_, rfl⟩
            replace H : (bobstayref12_Bind.l0 k1 l0 a1 a2 y160 (wrap64 (x8_1 + 1))) = some r := by first | (rw [hy160]; with_reducible exact H) | (have H2_ := (Option.bind_some _ _).symm.trans H; rw [hy160]; with_reducible exact H2_) | (have H2_ := (Option.bind_some _ _).symm.trans H; with_reducible exact H2_) | with_reducible exact H | (rw [hy160]; exact H) | exact H
            have Ny160 := Aside0.mk hy160
            clear hy160
            have H' := Aside0.mk H
            clear H
            have p157 : 0 ≤ (x8_1 : Int) := of_decide_eq_true (by first | (with_reducible assumption) | assumption)
            have q157 : x8_1 < (l0.length : Int) := of_decide_eq_true (by first | (with_reducible assumption) | assumption)
            obtain ⟨ad157, e157, hx157_0, hx157_1, hx157_2⟩ := at_T33 HR0.out x8_1 p157 q157
            cases e157
            replace hx157_0 := (HB.out.cell (World.block_lt_of_cell? w _ hx157_0)).trans hx157_0
            replace hx157_1 := (HB.out.cell (World.block_lt_of_cell? w _ hx157_1)).trans hx157_1
            replace hx157_2 := (HB.out.cell (World.block_lt_of_cell? w _ hx157_2)).trans hx157_2
            replace p157 := eq_true p157
            replace q157 := eq_true q157
            go_wp2_with (first | ((with_reducible refine gate_dst (N := 9) rfl ?_); refine box_event ?hg (N := 9) ?hd (cs := #[.string (⟨#[]⟩ : ByteArray), .int .i64 0, .bool false]) (t := 33) ?hr ?_; (case hd => rfl); (case hg => rfl); (case hr => first | (go_simp; done) | (go_simp; rfl)); intro gb158 hg w8 hbox hb; have n0_ := Aside0.mk (Kd.R_below (Kd.R_elderB (by (with_reducible repeat (first | apply Kd.R_alloc | apply Kd.R_drewN | apply Kd.R_drew)); exact HO_7.out) gb158 (Nat.le_of_eq hg.symm)) hb); have n1_ := Aside0.mk (below_step (by repeat (first | (with_reducible first | exact HB.out | apply below_alloc | apply pw_below_drewN | apply below_drew1) | exact HB.out)) hb); have n2_ := Aside0.mk (hbox); have n3_ := Aside0.mk ((by rw [hg]; exact (below_size (by repeat (first | (with_reducible first | exact HB.out | apply below_alloc | apply pw_below_drewN | apply below_drew1) | exact HB.out))) : w.heap.size ≤ gb158)); have n4_ := Aside0.mk ((by rw [hg]; exact (below_size (by repeat (first | (with_reducible first | exact HB.out | apply below_alloc | apply pw_below_drewN | apply below_drew1) | exact HB.out))) : w.heap.size ≤ gb158)); clear HO_7; clear HB; have HO_7 := n0_; have HB := n1_; have BK158 := n2_; have GW158 := n3_; have GE158 := n4_; clear n0_ n1_ n2_ n3_ n4_; clear hb hbox hg; have hcz9_0 : w8.cell? ⟨gb158, 0, none⟩ = some (.string (⟨#[]⟩ : ByteArray)) := (blk_cell BK158.out 0).trans rfl; have hcz9_1 : w8.cell? ⟨gb158, 1, none⟩ = some (.int .i64 0) := (blk_cell BK158.out 1).trans rfl; have hcz9_2 : w8.cell? ⟨gb158, 2, none⟩ = some (.bool false) := (blk_cell BK158.out 2).trans rfl; have hfz9_0 := blk_frozen BK158.out 0; have hfz9_1 := blk_frozen BK158.out 1; have hfz9_2 := blk_frozen BK158.out 2) | ((with_reducible refine gate_callee (f := 26) rfl ?_); refine goesL_ (some 24) rfl rfl Tryd.func26 (by kernel_rfl) rfl #[.string ((rd_T33 l0 x8_1).f0), .string a1, .string a2] rfl (by (try simp only [List.map_toArray, List.map_cons, List.map_nil]); first | done | rfl | (simp only [List.length_drop, List.length_take]; rfl)) ?_; (with_reducible refine (bobstayref12_bind.calls k1 ((rd_T33 l0 x8_1).f0) a1 a2 t159 _ A6.out).mono ?_); rintro e w10 ⟨rfl, hb⟩; refine ⟨_, rfl, ?_⟩; have n0_ := Aside0.mk (Kd.R_below (by (with_reducible repeat (first | apply Kd.R_alloc | apply Kd.R_drewN | apply Kd.R_drew)); exact (Kd.R_mono (Kd.R_far (p := ⟨gb158, 2, none⟩) (Kd.R_far (p := ⟨gb158, 1, none⟩) (Kd.R_far (p := ⟨gb158, 0, none⟩) (Kd.R_mono HO_7.out (fun k_ hk => (⟨hk, hk.2⟩ : _ ∧ k_ ≠ gb158))) (fun _ hk => hk.2) (.string ((rd_T33 l0 x8_1).f0))) (fun _ hk => hk.2) (.int .i64 ((rd_T33 l0 x8_1).f1))) (fun _ hk => hk.2) (.bool ((rd_T33 l0 x8_1).f2))) (fun _ h_ => h_.1))) hb); have n1_ := Aside0.mk (blk_below (g := gb158) (o := .cells #[.string ((rd_T33 l0 x8_1).f0), .int .i64 ((rd_T33 l0 x8_1).f1), .bool ((rd_T33 l0 x8_1).f2)] 33 (0, 0)) (by (with_reducible repeat (first | refine blk_drewN ?_ _ | refine blk_drew ?_ | refine blk_alloc ?_ _)); refine blk_put (cs := #[.string ((rd_T33 l0 x8_1).f0), .int .i64 ((rd_T33 l0 x8_1).f1), .bool false]) ?_ 2 _ rfl; (with_reducible repeat (first | refine blk_drewN ?_ _ | refine blk_drew ?_ | refine blk_alloc ?_ _)); refine blk_put (cs := #[.string ((rd_T33 l0 x8_1).f0), .int .i64 0, .bool false]) ?_ 1 _ rfl; (with_reducible repeat (first | refine blk_drewN ?_ _ | refine blk_drew ?_ | refine blk_alloc ?_ _)); refine blk_put (cs := #[.string (⟨#[]⟩ : ByteArray), .int .i64 0, .bool false]) ?_ 0 _ rfl; (with_reducible repeat (first | refine blk_drewN ?_ _ | refine blk_drew ?_ | refine blk_alloc ?_ _)); exact BK158.out) hb); have n2_ := Aside0.mk (below_step (by repeat (first | (with_reducible first | exact HB.out | apply below_alloc | apply pw_below_drewN | apply below_drew1 | refine below_set ?_ GE158.out) | exact HB.out)) hb); clear HO_7; clear BK158; clear HB; have HO_7 := n0_; have BK158 := n1_; have HB := n2_; clear n0_ n1_ n2_; (try clear hb); (try clear hb2); (try clear hk); (try clear hi); have hcz11_0 : w10.cell? ⟨gb158, 0, none⟩ = some (.string ((rd_T33 l0 x8_1).f0)) := (blk_cell BK158.out 0).trans rfl; have hcz11_1 : w10.cell? ⟨gb158, 1, none⟩ = some (.int .i64 ((rd_T33 l0 x8_1).f1)) := (blk_cell BK158.out 1).trans rfl; have hcz11_2 : w10.cell? ⟨gb158, 2, none⟩ = some (.bool ((rd_T33 l0 x8_1).f2)) := (blk_cell BK158.out 2).trans rfl; have hfz11_0 := blk_frozen BK158.out 0; have hfz11_1 := blk_frozen BK158.out 1; have hfz11_2 := blk_frozen BK158.out 2) | ((with_reducible refine gate_builtin (b := .append) (xs := #[.tmp 26, .tmp 28]) rfl ?_); at_builtin; refine Kd.R_append k33 (w0 := w) w.heap.size rfl (.tmp 26) (.tmp 28) 22 33 (.agg #[(.string ⟨#[]⟩), (.int .i64 0), (.bool false)]) 32 rfl Tryd.underlying22 info33 rfl (by decide) (by omega) u7 x7_1 (⟨t159, (rd_T33 l0 x8_1).f1, (rd_T33 l0 x8_1).f2⟩ : S33) [.string t159, .int .i64 ((rd_T33 l0 x8_1).f1), .bool ((rd_T33 l0 x8_1).f2)] (fun k_ => k_ ≠ gb158) (fun _ => False) rfl (by first | (go_simp; done) | (go_simp; rfl)) ?aP (fun _ hk => hk.elim) ?aF ?aO ?aB ?aS ?aL ?_; (case aP => exact k33_mkM _ _ _ (⟨t159, (rd_T33 l0 x8_1).f1, (rd_T33 l0 x8_1).f2⟩ : S33)); (case aB => exact (by repeat (first | (with_reducible first | exact HB.out | apply below_alloc | apply pw_below_drewN | apply below_drew1 | refine below_set ?_ GE158.out) | exact HB.out))); (case aF => exact (fun k_ hk => Kd.freshB (g := gb158) (o := .cells #[.string t159, .int .i64 ((rd_T33 l0 x8_1).f1), .bool ((rd_T33 l0 x8_1).f2)] 33 (0, 0)) (by (with_reducible repeat (first | refine blk_drewN ?_ _ | refine blk_drew ?_ | refine blk_alloc ?_ _)); refine blk_put (cs := #[.string ((rd_T33 l0 x8_1).f0), .int .i64 ((rd_T33 l0 x8_1).f1), .bool ((rd_T33 l0 x8_1).f2)]) ?_ 0 _ rfl; (with_reducible repeat (first | refine blk_drewN ?_ _ | refine blk_drew ?_ | refine blk_alloc ?_ _)); exact BK158.out) k_ hk)); (case aO => exact (by (with_reducible repeat (first | apply Kd.R_alloc | apply Kd.R_drewN | apply Kd.R_drew)); exact Kd.R_mono (Kd.R_far (p := ⟨gb158, 0, none⟩) (Kd.R_mono HO_7.out (fun k_ hk => (⟨hk, hk.2⟩ : _ ∧ k_ ≠ gb158))) (fun _ hk => hk.2) (.string t159)) (fun _ hk => hk.1.2))); (case aS => exact (below_size (by repeat (first | (with_reducible first | exact HB.out | apply below_alloc | apply pw_below_drewN | apply below_drew1 | refine below_set ?_ GE158.out) | exact HB.out)))); (case aL => have := LMc7.out; omega); intro v161 w12 ho hb hg hat; rw [← Ny160.out] at ho; have n0_ := Aside0.mk (blk_grown (g := gb158) (o := .cells #[.string t159, .int .i64 ((rd_T33 l0 x8_1).f1), .bool ((rd_T33 l0 x8_1).f2)] 33 (0, 0)) (by (with_reducible repeat (first | refine blk_drewN ?_ _ | refine blk_drew ?_ | refine blk_alloc ?_ _)); refine blk_put (cs := #[.string ((rd_T33 l0 x8_1).f0), .int .i64 ((rd_T33 l0 x8_1).f1), .bool ((rd_T33 l0 x8_1).f2)]) ?_ 0 _ rfl; (with_reducible repeat (first | refine blk_drewN ?_ _ | refine blk_drew ?_ | refine blk_alloc ?_ _)); exact BK158.out) hg (Kd.R_away HO_7.out (fun _ hk => hk.2))); have n1_ := Aside0.mk (hb); have n2_ := Aside0.mk (ho); clear BK158; clear HB; clear HO_7; have BK158 := n0_; have HB := n1_; have HO162 := n2_; clear n0_ n1_ n2_; clear ho hb hg hat))
            go_roundg k1
            case measure => have := HK1.out; omega
            case rel => exact ⟨(y160), (wrap64 (x8_1 + 1)), (by first | rfl | (simp; done) | (simp [*]; done)), H', ⟨by have := HK1.out; omega⟩, ⟨by (with_reducible repeat (first | apply Kd.R_alloc | apply Kd.R_drewN | apply Kd.R_drew)); exact Kd.R_mono HO162.out (fun _ hk => trivial)⟩, ⟨by repeat (first | (with_reducible first | exact HB.out | apply below_alloc | apply pw_below_drewN | apply below_drew1 | refine below_set ?_ GE158.out) | exact HB.out)⟩⟩
          · rw [if_neg c7] at H
            exact absurd H (by simp)
        · rw [if_neg c5] at H
          exact absurd H (by simp)
      · rw [if_neg c4] at H
        have c4b0 : decide (x8_1 < (l0.length : Int)) = false := decide_eq_false c4
        clear c4
        obtain rfl := Option.some.inj H
        go_wp2
        go_ret
        exact ⟨_, by first | rfl | (simp [errW_none, errW_some] <;> rfl) | (simp [*, errW_none, errW_some] <;> rfl), by (with_reducible repeat (first | apply Kd.R_alloc | apply Kd.R_drewN | apply Kd.R_drew)); exact HO_7.out, by repeat (first | (with_reducible first | exact HB.out | apply below_alloc | apply pw_below_drewN | apply below_drew1) | exact HB.out)⟩

end Go.Proofs.YtiedbnjoomcdbaaDoor.PC

namespace Go.Proofs.YtiedbnjoomcdbaaDoor.PC
open Go.RowKit Go.Proofs.YtiedbnjoomcdbaaDoorW.PrintWords Go.Proofs.YtiedbnjoomcdbaaDoorW.PrintLast Go.Proofs.YtiedbnjoomcdbaaDoorW.PrintMore
attribute [local go_sem] max2_int min2_int max_two min_two max_three min_three max_four min_four   -- for this text's walks alone
set_option linter.unusedVariables false
set_option linter.unusedSimpArgs false

/-! ### bobstaylaw12_LoopBinds: function 3 -/
def bobstaylaw12_LoopBinds.f (k : Nat) (l0 : List (S33)) (a1 : ByteArray) (a2 : ByteArray) : Option (Bool) := (bobstaylaw12_far.f k l0).bind fun t163 => (if t163 = true then ((bobstaylaw12_alive.f).bind fun t164 => (some t164)) else (if (wrap64 ((a1.size : Int) + (a2.size : Int))) > 500 then ((bobstaylaw12_alive.f).bind fun t165 => (some t165)) else ((bobstaylaw12_theirs.f k l0).bind fun t166 => ((loop_Bind.f k t166 a1 a2).bind fun t169 => ((bobstaylaw12_ours.f k t169).bind fun t172 => ((bobstayref12_Bind.f k l0 a1 a2).bind fun t175 => ((bobstayref11_Same.f k t172 t175).bind fun t178 => (if t178 = true then ((bobstaylaw12_alive.f).bind fun t179 => (some t179)) else (some false)))))))))
theorem bobstaylaw12_LoopBinds.mono : ∀ a0 a1 a2 k, LeO (bobstaylaw12_LoopBinds.f k a0 a1 a2) (bobstaylaw12_LoopBinds.f (k + 1) a0 a1 a2) := by
  intro a0 a1 a2 k
  unfold bobstaylaw12_LoopBinds.f
  repeat' first
      | (with_reducible exact bobstaylaw12_far.mono _ _)
      | (with_reducible exact bobstaylaw12_ours.mono _ _)
      | (with_reducible exact bobstaylaw12_theirs.mono _ _)
      | (with_reducible exact bobstayref11_Same.mono _ _ _)
      | (with_reducible exact bobstayref12_Bind.mono _ _ _ _)
      | (with_reducible exact loop_Bind.mono _ _ _ _)
      | (with_reducible exact LeO.refl _)
      | (with_reducible exact LeO.none _)
      | (with_reducible refine LeO.ite ?_ ?_)
      | (with_reducible refine LeO.bind ?_ (fun _ => ?_))
      | exact bobstaylaw12_far.mono _ _
      | exact bobstaylaw12_ours.mono _ _
      | exact bobstaylaw12_theirs.mono _ _
      | exact bobstayref11_Same.mono _ _ _
      | exact bobstayref12_Bind.mono _ _ _ _
      | exact loop_Bind.mono _ _ _ _
      | exact LeO.none _
      | refine LeO.ite ?_ ?_
      | refine LeO.bind ?_ (fun _ => ?_)
set_option maxHeartbeats 8000000 in
set_option maxRecDepth 100000 in
theorem bobstaylaw12_LoopBinds.calls (k : Nat) (A0 : Option Addr) (c0 : Nat) (l0 : List (S33)) (a1 : ByteArray) (a2 : ByteArray) (r : Bool) (w : World) (hr0 : Kd.C k33 w A0 l0.length l0) (hc0 : l0.length ≤ c0) (h : bobstaylaw12_LoopBinds.f k l0 a1 a2 = some r) :
    Calls Tryd.prog 3 #[.slice A0 l0.length c0, .string a1, .string a2] w fun e w' => e = .returned (.bool r) ∧ Below w.heap.size w w' := by
  have HR0 := Aside0.mk hr0
  have HC0 := Aside0.mk hc0
  clear hr0 hc0
  have HB := Aside0.mk (Below.refl w.heap.size w)
  have H : ((bobstaylaw12_far.f k l0).bind fun t163 => (if t163 = true then ((bobstaylaw12_alive.f).bind fun t164 => (some t164)) else (if (wrap64 ((a1.size : Int) + (a2.size : Int))) > 500 then ((bobstaylaw12_alive.f).bind fun t165 => (some t165)) else ((bobstaylaw12_theirs.f k l0).bind fun t166 => ((loop_Bind.f k t166 a1 a2).bind fun t169 => ((bobstaylaw12_ours.f k t169).bind fun t172 => ((bobstayref12_Bind.f k l0 a1 a2).bind fun t175 => ((bobstayref11_Same.f k t172 t175).bind fun t178 => (if t178 = true then ((bobstaylaw12_alive.f).bind fun t179 => (some t179)) else (some false)))))))))) = some r := h
  clear h
  replace H := Option.bind_eq_some_iff.mp H
  obtain ⟨t163, A40, H⟩ := H
  replace H : (if t163 = true then ((bobstaylaw12_alive.f).bind fun t164 => (some t164)) else (if (wrap64 ((a1.size : Int) + (a2.size : Int))) > 500 then ((bobstaylaw12_alive.f).bind fun t165 => (some t165)) else ((bobstaylaw12_theirs.f k l0).bind fun t166 => ((loop_Bind.f k t166 a1 a2).bind fun t169 => ((bobstaylaw12_ours.f k t169).bind fun t172 => ((bobstayref12_Bind.f k l0 a1 a2).bind fun t175 => ((bobstayref11_Same.f k t172 t175).bind fun t178 => (if t178 = true then ((bobstaylaw12_alive.f).bind fun t179 => (some t179)) else (some false))))))))) = some r := H
  have A4 := Aside0.mk A40
  clear A40
  by_cases c5 : t163 = true
  · subst c5
    have H1 : ((bobstaylaw12_alive.f).bind fun t164 => (some t164)) = some r := by rw [if_pos rfl] at H; exact H
    clear H
    have H := H1
    clear H1
    replace H := Option.bind_eq_some_iff.mp H
    obtain ⟨t164, A60, H⟩ := H
    replace H : (some t164) = some r := H
    have A6 := Aside0.mk A60
    clear A60
    obtain rfl := Option.some.inj H
    go_enter Tryd.func3, Tryd.ntmps3
    go_wp2_with (first | ((with_reducible refine gate_callee (f := 8) rfl ?_); refine goesL_ (some 8) rfl rfl Tryd.func8 (by kernel_rfl) rfl #[.slice A0 l0.length c0] rfl (by (try simp only [List.map_toArray, List.map_cons, List.map_nil]); first | done | rfl | (simp only [List.length_drop, List.length_take]; rfl)) ?_; (with_reducible refine (bobstaylaw12_far.calls k _ _ l0 true _ ?side1 ?side2 A4.out).mono ?_); (case side1 => repeat (first | exact HR0.out | (with_reducible refine Kd.C_alloc ?_ _) | (with_reducible refine Kd.C_drewN ?_ _) | (with_reducible refine Kd.C_drew ?_))); (case side2 => exact HC0.out); rintro e w7 ⟨rfl, hb⟩; refine ⟨_, rfl, ?_⟩; have n0_ := Aside0.mk (below_step (by repeat (first | (with_reducible first | exact HB.out | apply below_alloc | apply pw_below_drewN | apply below_drew1) | exact HB.out)) hb); clear HB; have HB := n0_; clear n0_; (try clear hb); (try clear hb2); (try clear hk); (try clear hi)) | ((with_reducible refine gate_callee (f := 9) rfl ?_); refine goesL_ (some 17) rfl rfl Tryd.func9 (by kernel_rfl) rfl #[] rfl (by (try simp only [List.map_toArray, List.map_cons, List.map_nil]); first | done | rfl | (simp only [List.length_drop, List.length_take]; rfl)) ?_; (with_reducible refine (bobstaylaw12_alive.calls  t164 _ A6.out).mono ?_); rintro e w8 ⟨rfl, hb⟩; refine ⟨_, rfl, ?_⟩; have n0_ := Aside0.mk (below_step (by repeat (first | (with_reducible first | exact HB.out | apply below_alloc | apply pw_below_drewN | apply below_drew1) | exact HB.out)) hb); clear HB; have HB := n0_; clear n0_; (try clear hb); (try clear hb2); (try clear hk); (try clear hi)))
    go_ret
    exact ⟨by first | rfl | (simp [errW_none, errW_some] <;> rfl) | (simp [*, errW_none, errW_some] <;> rfl), by repeat (first | (with_reducible first | exact HB.out | apply below_alloc | apply pw_below_drewN | apply below_drew1) | exact HB.out)⟩
  · replace c5 := Bool.eq_false_iff.mpr c5
    subst c5
    have H1 : (if (wrap64 ((a1.size : Int) + (a2.size : Int))) > 500 then ((bobstaylaw12_alive.f).bind fun t165 => (some t165)) else ((bobstaylaw12_theirs.f k l0).bind fun t166 => ((loop_Bind.f k t166 a1 a2).bind fun t169 => ((bobstaylaw12_ours.f k t169).bind fun t172 => ((bobstayref12_Bind.f k l0 a1 a2).bind fun t175 => ((bobstayref11_Same.f k t172 t175).bind fun t178 => (if t178 = true then ((bobstaylaw12_alive.f).bind fun t179 => (some t179)) else (some false)))))))) = some r := by rw [if_neg (show ¬ (false = true) by decide)] at H; exact H
    clear H
    have H := H1
    clear H1
    by_cases c9 : (wrap64 ((a1.size : Int) + (a2.size : Int))) > 500
    · rw [if_pos c9] at H
      have c9b0 : decide (500 < (wrap64 ((a1.size : Int) + (a2.size : Int)))) = true := decide_eq_true c9
      clear c9
      replace H := Option.bind_eq_some_iff.mp H
      obtain ⟨t165, A100, H⟩ := H
      replace H : (some t165) = some r := H
      have A10 := Aside0.mk A100
      clear A100
      obtain rfl := Option.some.inj H
      go_enter Tryd.func3, Tryd.ntmps3
      go_wp2_with (first | ((with_reducible refine gate_callee (f := 8) rfl ?_); refine goesL_ (some 8) rfl rfl Tryd.func8 (by kernel_rfl) rfl #[.slice A0 l0.length c0] rfl (by (try simp only [List.map_toArray, List.map_cons, List.map_nil]); first | done | rfl | (simp only [List.length_drop, List.length_take]; rfl)) ?_; (with_reducible refine (bobstaylaw12_far.calls k _ _ l0 false _ ?side1 ?side2 A4.out).mono ?_); (case side1 => repeat (first | exact HR0.out | (with_reducible refine Kd.C_alloc ?_ _) | (with_reducible refine Kd.C_drewN ?_ _) | (with_reducible refine Kd.C_drew ?_))); (case side2 => exact HC0.out); rintro e w11 ⟨rfl, hb⟩; refine ⟨_, rfl, ?_⟩; have n0_ := Aside0.mk (below_step (by repeat (first | (with_reducible first | exact HB.out | apply below_alloc | apply pw_below_drewN | apply below_drew1) | exact HB.out)) hb); clear HB; have HB := n0_; clear n0_; (try clear hb); (try clear hb2); (try clear hk); (try clear hi)) | ((with_reducible refine gate_callee (f := 9) rfl ?_); refine goesL_ (some 17) rfl rfl Tryd.func9 (by kernel_rfl) rfl #[] rfl (by (try simp only [List.map_toArray, List.map_cons, List.map_nil]); first | done | rfl | (simp only [List.length_drop, List.length_take]; rfl)) ?_; (with_reducible refine (bobstaylaw12_alive.calls  t165 _ A10.out).mono ?_); rintro e w12 ⟨rfl, hb⟩; refine ⟨_, rfl, ?_⟩; have n0_ := Aside0.mk (below_step (by repeat (first | (with_reducible first | exact HB.out | apply below_alloc | apply pw_below_drewN | apply below_drew1) | exact HB.out)) hb); clear HB; have HB := n0_; clear n0_; (try clear hb); (try clear hb2); (try clear hk); (try clear hi)))
      go_ret
      exact ⟨by first | rfl | (simp [errW_none, errW_some] <;> rfl) | (simp [*, errW_none, errW_some] <;> rfl), by repeat (first | (with_reducible first | exact HB.out | apply below_alloc | apply pw_below_drewN | apply below_drew1) | exact HB.out)⟩
    · rw [if_neg c9] at H
      have c9b0 : decide (500 < (wrap64 ((a1.size : Int) + (a2.size : Int)))) = false := decide_eq_false c9
      clear c9
      replace H := Option.bind_eq_some_iff.mp H
      obtain ⟨t166, A130, H⟩ := H
      replace H : ((loop_Bind.f k t166 a1 a2).bind fun t169 => ((bobstaylaw12_ours.f k t169).bind fun t172 => ((bobstayref12_Bind.f k l0 a1 a2).bind fun t175 => ((bobstayref11_Same.f k t172 t175).bind fun t178 => (if t178 = true then ((bobstaylaw12_alive.f).bind fun t179 => (some t179)) else (some false)))))) = some r := H
      have A13 := Aside0.mk A130
      clear A130
      replace H := Option.bind_eq_some_iff.mp H
      obtain ⟨t169, A140, H⟩ := H
      replace H : ((bobstaylaw12_ours.f k t169).bind fun t172 => ((bobstayref12_Bind.f k l0 a1 a2).bind fun t175 => ((bobstayref11_Same.f k t172 t175).bind fun t178 => (if t178 = true then ((bobstaylaw12_alive.f).bind fun t179 => (some t179)) else (some false))))) = some r := H
      have A14 := Aside0.mk A140
      clear A140
      replace H := Option.bind_eq_some_iff.mp H
      obtain ⟨t172, A150, H⟩ := H
      replace H : ((bobstayref12_Bind.f k l0 a1 a2).bind fun t175 => ((bobstayref11_Same.f k t172 t175).bind fun t178 => (if t178 = true then ((bobstaylaw12_alive.f).bind fun t179 => (some t179)) else (some false)))) = some r := H
      have A15 := Aside0.mk A150
      clear A150
      replace H := Option.bind_eq_some_iff.mp H
      obtain ⟨t175, A160, H⟩ := H
      replace H : ((bobstayref11_Same.f k t172 t175).bind fun t178 => (if t178 = true then ((bobstaylaw12_alive.f).bind fun t179 => (some t179)) else (some false))) = some r := H
      have A16 := Aside0.mk A160
      clear A160
      replace H := Option.bind_eq_some_iff.mp H
      obtain ⟨t178, A170, H⟩ := H
      replace H : (if t178 = true then ((bobstaylaw12_alive.f).bind fun t179 => (some t179)) else (some false)) = some r := H
      have A17 := Aside0.mk A170
      clear A170
      by_cases c18 : t178 = true
      · subst c18
        have H1 : ((bobstaylaw12_alive.f).bind fun t179 => (some t179)) = some r := by rw [if_pos rfl] at H; exact H
        clear H
        have H := H1
        clear H1
        replace H := Option.bind_eq_some_iff.mp H
        obtain ⟨t179, A190, H⟩ := H
        replace H : (some t179) = some r := H
        have A19 := Aside0.mk A190
        clear A190
        obtain rfl := Option.some.inj H
        go_enter Tryd.func3, Tryd.ntmps3
        go_wp2_with (first | ((with_reducible refine gate_callee (f := 8) rfl ?_); refine goesL_ (some 8) rfl rfl Tryd.func8 (by kernel_rfl) rfl #[.slice A0 l0.length c0] rfl (by (try simp only [List.map_toArray, List.map_cons, List.map_nil]); first | done | rfl | (simp only [List.length_drop, List.length_take]; rfl)) ?_; (with_reducible refine (bobstaylaw12_far.calls k _ _ l0 false _ ?side1 ?side2 A4.out).mono ?_); (case side1 => repeat (first | exact HR0.out | (with_reducible refine Kd.C_alloc ?_ _) | (with_reducible refine Kd.C_drewN ?_ _) | (with_reducible refine Kd.C_drew ?_))); (case side2 => exact HC0.out); rintro e w20 ⟨rfl, hb⟩; refine ⟨_, rfl, ?_⟩; have n0_ := Aside0.mk (below_step (by repeat (first | (with_reducible first | exact HB.out | apply below_alloc | apply pw_below_drewN | apply below_drew1) | exact HB.out)) hb); clear HB; have HB := n0_; clear n0_; (try clear hb); (try clear hb2); (try clear hk); (try clear hi)) | ((with_reducible refine gate_callee (f := 13) rfl ?_); refine goesL_ (some 19) rfl rfl Tryd.func13 (by kernel_rfl) rfl #[.slice A0 l0.length c0] rfl (by (try simp only [List.map_toArray, List.map_cons, List.map_nil]); first | done | rfl | (simp only [List.length_drop, List.length_take]; rfl)) ?_; (with_reducible refine (bobstaylaw12_theirs.calls k _ _ l0 t166 _ ?side1 ?side2 A13.out).mono ?_); (case side1 => repeat (first | exact (Kd.C_below HR0.out HB.out) | (with_reducible refine Kd.C_alloc ?_ _) | (with_reducible refine Kd.C_drewN ?_ _) | (with_reducible refine Kd.C_drew ?_))); (case side2 => exact HC0.out); rintro e w21 ⟨v167, rfl, ho0, hb⟩; refine ⟨_, rfl, ?_⟩; have n0_ := Aside0.mk (Kd.R_lower ho0 (below_size (by repeat (first | (with_reducible first | exact HB.out | apply below_alloc | apply pw_below_drewN | apply below_drew1) | exact HB.out)))); have n1_ := Aside0.mk (below_step (by repeat (first | (with_reducible first | exact HB.out | apply below_alloc | apply pw_below_drewN | apply below_drew1) | exact HB.out)) hb); clear HB; have HO168 := n0_; have HB := n1_; clear n0_ n1_; (try clear hb); (try clear hb2); (try clear hk); (try clear hi); (try clear ho0); obtain ⟨Ao22, co22, eo22⟩ := Kd.R_slice HO168.out; subst eo22) | ((with_reducible refine gate_callee (f := 12) rfl ?_); refine goesL_ (some 22) rfl rfl Tryd.func12 (by kernel_rfl) rfl #[.slice Ao22 t166.length co22, .string a1, .string a2] rfl (by (try simp only [List.map_toArray, List.map_cons, List.map_nil]); first | done | rfl | (simp only [List.length_drop, List.length_take]; rfl)) ?_; (with_reducible refine (loop_Bind.calls k _ _ t166 a1 a2 t169 _ ?side1 ?side2 A14.out).mono ?_); (case side1 => repeat (first | exact (Kd.R_reads' HO168.out).2.2 | (with_reducible refine Kd.C_alloc ?_ _) | (with_reducible refine Kd.C_drewN ?_ _) | (with_reducible refine Kd.C_drew ?_))); (case side2 => exact (Kd.R_reads' HO168.out).2.1); rintro e w23 ⟨v170, rfl, ho0, hb⟩; refine ⟨_, rfl, ?_⟩; have n0_ := Aside0.mk (Kd.R_elder' (by (with_reducible repeat (first | apply Kd.R_alloc | apply Kd.R_drewN | apply Kd.R_drew)); exact HO168.out) (Kd.R_base ho0) hb); have n1_ := Aside0.mk (Kd.R_lower (Kd.R_new' ho0 (Kd.R_lt (by (with_reducible repeat (first | apply Kd.R_alloc | apply Kd.R_drewN | apply Kd.R_drew)); exact HO168.out))) (below_size (by repeat (first | (with_reducible first | exact HB.out | apply below_alloc | apply pw_below_drewN | apply below_drew1) | exact HB.out)))); have n2_ := Aside0.mk (below_step (by repeat (first | (with_reducible first | exact HB.out | apply below_alloc | apply pw_below_drewN | apply below_drew1) | exact HB.out)) hb); clear HO168; clear HB; have HO168 := n0_; have HO171 := n1_; have HB := n2_; clear n0_ n1_ n2_; (try clear hb); (try clear hb2); (try clear hk); (try clear hi); (try clear ho0); obtain ⟨Ao24, co24, eo24⟩ := Kd.R_slice HO171.out; subst eo24) | ((with_reducible refine gate_callee (f := 11) rfl ?_); refine goesL_ (some 23) rfl rfl Tryd.func11 (by kernel_rfl) rfl #[.slice Ao24 t169.length co24] rfl (by (try simp only [List.map_toArray, List.map_cons, List.map_nil]); first | done | rfl | (simp only [List.length_drop, List.length_take]; rfl)) ?_; (with_reducible refine (bobstaylaw12_ours.calls k _ _ t169 t172 _ ?side1 ?side2 A15.out).mono ?_); (case side1 => repeat (first | exact (Kd.R_reads' HO171.out).2.2 | (with_reducible refine Kd.C_alloc ?_ _) | (with_reducible refine Kd.C_drewN ?_ _) | (with_reducible refine Kd.C_drew ?_))); (case side2 => exact (Kd.R_reads' HO171.out).2.1); rintro e w25 ⟨v173, rfl, ho0, hb⟩; refine ⟨_, rfl, ?_⟩; have n0_ := Aside0.mk (Kd.R_below (by (with_reducible repeat (first | apply Kd.R_alloc | apply Kd.R_drewN | apply Kd.R_drew)); exact HO168.out) hb); have n1_ := Aside0.mk (Kd.R_below (by (with_reducible repeat (first | apply Kd.R_alloc | apply Kd.R_drewN | apply Kd.R_drew)); exact HO171.out) hb); have n2_ := Aside0.mk (Kd.R_lower ho0 (below_size (by repeat (first | (with_reducible first | exact HB.out | apply below_alloc | apply pw_below_drewN | apply below_drew1) | exact HB.out)))); have n3_ := Aside0.mk (below_step (by repeat (first | (with_reducible first | exact HB.out | apply below_alloc | apply pw_below_drewN | apply below_drew1) | exact HB.out)) hb); clear HO168; clear HO171; clear HB; have HO168 := n0_; have HO171 := n1_; have HO174 := n2_; have HB := n3_; clear n0_ n1_ n2_ n3_; (try clear hb); (try clear hb2); (try clear hk); (try clear hi); (try clear ho0)) | ((with_reducible refine gate_callee (f := 14) rfl ?_); refine goesL_ (some 27) rfl rfl Tryd.func14 (by kernel_rfl) rfl #[.slice A0 l0.length c0, .string a1, .string a2] rfl (by (try simp only [List.map_toArray, List.map_cons, List.map_nil]); first | done | rfl | (simp only [List.length_drop, List.length_take]; rfl)) ?_; (with_reducible refine (bobstayref12_Bind.calls k _ _ l0 a1 a2 t175 _ ?side1 ?side2 A16.out).mono ?_); (case side1 => repeat (first | exact (Kd.C_below HR0.out HB.out) | (with_reducible refine Kd.C_alloc ?_ _) | (with_reducible refine Kd.C_drewN ?_ _) | (with_reducible refine Kd.C_drew ?_))); (case side2 => exact HC0.out); rintro e w26 ⟨v176, rfl, ho0, hb⟩; refine ⟨_, rfl, ?_⟩; have n0_ := Aside0.mk (Kd.R_below (by (with_reducible repeat (first | apply Kd.R_alloc | apply Kd.R_drewN | apply Kd.R_drew)); exact HO168.out) hb); have n1_ := Aside0.mk (Kd.R_below (by (with_reducible repeat (first | apply Kd.R_alloc | apply Kd.R_drewN | apply Kd.R_drew)); exact HO171.out) hb); have n2_ := Aside0.mk (Kd.R_elder' (by (with_reducible repeat (first | apply Kd.R_alloc | apply Kd.R_drewN | apply Kd.R_drew)); exact HO174.out) (Kd.R_base ho0) hb); have n3_ := Aside0.mk (Kd.R_lower (Kd.R_new' ho0 (Kd.R_lt (by (with_reducible repeat (first | apply Kd.R_alloc | apply Kd.R_drewN | apply Kd.R_drew)); exact HO174.out))) (below_size (by repeat (first | (with_reducible first | exact HB.out | apply below_alloc | apply pw_below_drewN | apply below_drew1) | exact HB.out)))); have n4_ := Aside0.mk (below_step (by repeat (first | (with_reducible first | exact HB.out | apply below_alloc | apply pw_below_drewN | apply below_drew1) | exact HB.out)) hb); clear HO168; clear HO171; clear HO174; clear HB; have HO168 := n0_; have HO171 := n1_; have HO174 := n2_; have HO177 := n3_; have HB := n4_; clear n0_ n1_ n2_ n3_ n4_; (try clear hb); (try clear hb2); (try clear hk); (try clear hi); (try clear ho0); obtain ⟨Ao27, co27, eo27⟩ := Kd.R_slice HO174.out; subst eo27; obtain ⟨Ao28, co28, eo28⟩ := Kd.R_slice HO177.out; subst eo28) | ((with_reducible refine gate_callee (f := 10) rfl ?_); refine goesL_ (some 28) rfl rfl Tryd.func10 (by kernel_rfl) rfl #[.slice Ao27 t172.length co27, .slice Ao28 t175.length co28] rfl (by (try simp only [List.map_toArray, List.map_cons, List.map_nil]); first | done | rfl | (simp only [List.length_drop, List.length_take]; rfl)) ?_; (with_reducible refine (bobstayref11_Same.calls k _ _ t172 _ _ t175 true _ ?side1 ?side2 ?side3 ?side4 A17.out).mono ?_); (case side1 => repeat (first | exact (Kd.R_reads' HO174.out).2.2 | (with_reducible refine Kd.C_alloc ?_ _) | (with_reducible refine Kd.C_drewN ?_ _) | (with_reducible refine Kd.C_drew ?_))); (case side2 => exact (Kd.R_reads' HO174.out).2.1); (case side3 => repeat (first | exact (Kd.R_reads' HO177.out).2.2 | (with_reducible refine Kd.C_alloc ?_ _) | (with_reducible refine Kd.C_drewN ?_ _) | (with_reducible refine Kd.C_drew ?_))); (case side4 => exact (Kd.R_reads' HO177.out).2.1); rintro e w' ⟨rfl, ⟨nd, rfl⟩⟩; refine ⟨_, rfl, ?_⟩) | (go_at_call 9; (with_reducible refine (bobstaylaw12_alive.calls  t179 _ A19.out).mono ?_); rintro e w29 ⟨rfl, hb⟩; have n0_ := Aside0.mk (Kd.R_below (by (with_reducible repeat (first | apply Kd.R_alloc | apply Kd.R_drewN | apply Kd.R_drew)); exact HO168.out) hb); have n1_ := Aside0.mk (Kd.R_below (by (with_reducible repeat (first | apply Kd.R_alloc | apply Kd.R_drewN | apply Kd.R_drew)); exact HO171.out) hb); have n2_ := Aside0.mk (Kd.R_below (by (with_reducible repeat (first | apply Kd.R_alloc | apply Kd.R_drewN | apply Kd.R_drew)); exact HO174.out) hb); have n3_ := Aside0.mk (Kd.R_below (by (with_reducible repeat (first | apply Kd.R_alloc | apply Kd.R_drewN | apply Kd.R_drew)); exact HO177.out) hb); have n4_ := Aside0.mk (below_step (by repeat (first | (with_reducible first | exact HB.out | apply below_alloc | apply pw_below_drewN | apply below_drew1) | exact HB.out)) hb); clear HO168; clear HO171; clear HO174; clear HO177; clear HB; have HO168 := n0_; have HO171 := n1_; have HO174 := n2_; have HO177 := n3_; have HB := n4_; clear n0_ n1_ n2_ n3_ n4_; (try clear hb); (try clear hb2); (try clear hk); (try clear hi)))
        go_ret
        exact ⟨by first | rfl | (simp [errW_none, errW_some] <;> rfl) | (simp [*, errW_none, errW_some] <;> rfl), by repeat (first | (with_reducible first | exact HB.out | apply below_alloc | apply pw_below_drewN | apply below_drew1) | exact HB.out)⟩
      · replace c18 := Bool.eq_false_iff.mpr c18
        subst c18
        have H1 : (some false) = some r := by rw [if_neg (show ¬ (false = true) by decide)] at H; exact H
        clear H
        have H := H1
        clear H1
        obtain rfl := Option.some.inj H
        go_enter Tryd.func3, Tryd.ntmps3
        go_wp2_with (first | ((with_reducible refine gate_callee (f := 8) rfl ?_); refine goesL_ (some 8) rfl rfl Tryd.func8 (by kernel_rfl) rfl #[.slice A0 l0.length c0] rfl (by (try simp only [List.map_toArray, List.map_cons, List.map_nil]); first | done | rfl | (simp only [List.length_drop, List.length_take]; rfl)) ?_; (with_reducible refine (bobstaylaw12_far.calls k _ _ l0 false _ ?side1 ?side2 A4.out).mono ?_); (case side1 => repeat (first | exact HR0.out | (with_reducible refine Kd.C_alloc ?_ _) | (with_reducible refine Kd.C_drewN ?_ _) | (with_reducible refine Kd.C_drew ?_))); (case side2 => exact HC0.out); rintro e w30 ⟨rfl, hb⟩; refine ⟨_, rfl, ?_⟩; have n0_ := Aside0.mk (below_step (by repeat (first | (with_reducible first | exact HB.out | apply below_alloc | apply pw_below_drewN | apply below_drew1) | exact HB.out)) hb); clear HB; have HB := n0_; clear n0_; (try clear hb); (try clear hb2); (try clear hk); (try clear hi)) | ((with_reducible refine gate_callee (f := 13) rfl ?_); refine goesL_ (some 19) rfl rfl Tryd.func13 (by kernel_rfl) rfl #[.slice A0 l0.length c0] rfl (by (try simp only [List.map_toArray, List.map_cons, List.map_nil]); first | done | rfl | (simp only [List.length_drop, List.length_take]; rfl)) ?_; (with_reducible refine (bobstaylaw12_theirs.calls k _ _ l0 t166 _ ?side1 ?side2 A13.out).mono ?_); (case side1 => repeat (first | exact (Kd.C_below HR0.out HB.out) | (with_reducible refine Kd.C_alloc ?_ _) | (with_reducible refine Kd.C_drewN ?_ _) | (with_reducible refine Kd.C_drew ?_))); (case side2 => exact HC0.out); rintro e w31 ⟨v167, rfl, ho0, hb⟩; refine ⟨_, rfl, ?_⟩; have n0_ := Aside0.mk (Kd.R_lower ho0 (below_size (by repeat (first | (with_reducible first | exact HB.out | apply below_alloc | apply pw_below_drewN | apply below_drew1) | exact HB.out)))); have n1_ := Aside0.mk (below_step (by repeat (first | (with_reducible first | exact HB.out | apply below_alloc | apply pw_below_drewN | apply below_drew1) | exact HB.out)) hb); clear HB; have HO168 := n0_; have HB := n1_; clear n0_ n1_; (try clear hb); (try clear hb2); (try clear hk); (try clear hi); (try clear ho0); obtain ⟨Ao32, co32, eo32⟩ := Kd.R_slice HO168.out; subst eo32) | ((with_reducible refine gate_callee (f := 12) rfl ?_); refine goesL_ (some 22) rfl rfl Tryd.func12 (by kernel_rfl) rfl #[.slice Ao32 t166.length co32, .string a1, .string a2] rfl (by (try simp only [List.map_toArray, List.map_cons, List.map_nil]); first | done | rfl | (simp only [List.length_drop, List.length_take]; rfl)) ?_; (with_reducible refine (loop_Bind.calls k _ _ t166 a1 a2 t169 _ ?side1 ?side2 A14.out).mono ?_); (case side1 => repeat (first | exact (Kd.R_reads' HO168.out).2.2 | (with_reducible refine Kd.C_alloc ?_ _) | (with_reducible refine Kd.C_drewN ?_ _) | (with_reducible refine Kd.C_drew ?_))); (case side2 => exact (Kd.R_reads' HO168.out).2.1); rintro e w33 ⟨v170, rfl, ho0, hb⟩; refine ⟨_, rfl, ?_⟩; have n0_ := Aside0.mk (Kd.R_elder' (by (with_reducible repeat (first | apply Kd.R_alloc | apply Kd.R_drewN | apply Kd.R_drew)); exact HO168.out) (Kd.R_base ho0) hb); have n1_ := Aside0.mk (Kd.R_lower (Kd.R_new' ho0 (Kd.R_lt (by (with_reducible repeat (first | apply Kd.R_alloc | apply Kd.R_drewN | apply Kd.R_drew)); exact HO168.out))) (below_size (by repeat (first | (with_reducible first | exact HB.out | apply below_alloc | apply pw_below_drewN | apply below_drew1) | exact HB.out)))); have n2_ := Aside0.mk (below_step (by repeat (first | (with_reducible first | exact HB.out | apply below_alloc | apply pw_below_drewN | apply below_drew1) | exact HB.out)) hb); clear HO168; clear HB; have HO168 := n0_; have HO171 := n1_; have HB := n2_; clear n0_ n1_ n2_; (try clear hb); (try clear hb2); (try clear hk); (try clear hi); (try clear ho0); obtain ⟨Ao34, co34, eo34⟩ := Kd.R_slice HO171.out; subst eo34) | ((with_reducible refine gate_callee (f := 11) rfl ?_); refine goesL_ (some 23) rfl rfl Tryd.func11 (by kernel_rfl) rfl #[.slice Ao34 t169.length co34] rfl (by (try simp only [List.map_toArray, List.map_cons, List.map_nil]); first | done | rfl | (simp only [List.length_drop, List.length_take]; rfl)) ?_; (with_reducible refine (bobstaylaw12_ours.calls k _ _ t169 t172 _ ?side1 ?side2 A15.out).mono ?_); (case side1 => repeat (first | exact (Kd.R_reads' HO171.out).2.2 | (with_reducible refine Kd.C_alloc ?_ _) | (with_reducible refine Kd.C_drewN ?_ _) | (with_reducible refine Kd.C_drew ?_))); (case side2 => exact (Kd.R_reads' HO171.out).2.1); rintro e w35 ⟨v173, rfl, ho0, hb⟩; refine ⟨_, rfl, ?_⟩; have n0_ := Aside0.mk (Kd.R_below (by (with_reducible repeat (first | apply Kd.R_alloc | apply Kd.R_drewN | apply Kd.R_drew)); exact HO168.out) hb); have n1_ := Aside0.mk (Kd.R_below (by (with_reducible repeat (first | apply Kd.R_alloc | apply Kd.R_drewN | apply Kd.R_drew)); exact HO171.out) hb); have n2_ := Aside0.mk (Kd.R_lower ho0 (below_size (by repeat (first | (with_reducible first | exact HB.out | apply below_alloc | apply pw_below_drewN | apply below_drew1) | exact HB.out)))); have n3_ := Aside0.mk (below_step (by repeat (first | (with_reducible first | exact HB.out | apply below_alloc | apply pw_below_drewN | apply below_drew1) | exact HB.out)) hb); clear HO168; clear HO171; clear HB; have HO168 := n0_; have HO171 := n1_; have HO174 := n2_; have HB := n3_; clear n0_ n1_ n2_ n3_; (try clear hb); (try clear hb2); (try clear hk); (try clear hi); (try clear ho0)) | ((with_reducible refine gate_callee (f := 14) rfl ?_); refine goesL_ (some 27) rfl rfl Tryd.func14 (by kernel_rfl) rfl #[.slice A0 l0.length c0, .string a1, .string a2] rfl (by (try simp only [List.map_toArray, List.map_cons, List.map_nil]); first | done | rfl | (simp only [List.length_drop, List.length_take]; rfl)) ?_; (with_reducible refine (bobstayref12_Bind.calls k _ _ l0 a1 a2 t175 _ ?side1 ?side2 A16.out).mono ?_); (case side1 => repeat (first | exact (Kd.C_below HR0.out HB.out) | (with_reducible refine Kd.C_alloc ?_ _) | (with_reducible refine Kd.C_drewN ?_ _) | (with_reducible refine Kd.C_drew ?_))); (case side2 => exact HC0.out); rintro e w36 ⟨v176, rfl, ho0, hb⟩; refine ⟨_, rfl, ?_⟩; have n0_ := Aside0.mk (Kd.R_below (by (with_reducible repeat (first | apply Kd.R_alloc | apply Kd.R_drewN | apply Kd.R_drew)); exact HO168.out) hb); have n1_ := Aside0.mk (Kd.R_below (by (with_reducible repeat (first | apply Kd.R_alloc | apply Kd.R_drewN | apply Kd.R_drew)); exact HO171.out) hb); have n2_ := Aside0.mk (Kd.R_elder' (by (with_reducible repeat (first | apply Kd.R_alloc | apply Kd.R_drewN | apply Kd.R_drew)); exact HO174.out) (Kd.R_base ho0) hb); have n3_ := Aside0.mk (Kd.R_lower (Kd.R_new' ho0 (Kd.R_lt (by (with_reducible repeat (first | apply Kd.R_alloc | apply Kd.R_drewN | apply Kd.R_drew)); exact HO174.out))) (below_size (by repeat (first | (with_reducible first | exact HB.out | apply below_alloc | apply pw_below_drewN | apply below_drew1) | exact HB.out)))); have n4_ := Aside0.mk (below_step (by repeat (first | (with_reducible first | exact HB.out | apply below_alloc | apply pw_below_drewN | apply below_drew1) | exact HB.out)) hb); clear HO168; clear HO171; clear HO174; clear HB; have HO168 := n0_; have HO171 := n1_; have HO174 := n2_; have HO177 := n3_; have HB := n4_; clear n0_ n1_ n2_ n3_ n4_; (try clear hb); (try clear hb2); (try clear hk); (try clear hi); (try clear ho0); obtain ⟨Ao37, co37, eo37⟩ := Kd.R_slice HO174.out; subst eo37; obtain ⟨Ao38, co38, eo38⟩ := Kd.R_slice HO177.out; subst eo38) | ((with_reducible refine gate_callee (f := 10) rfl ?_); refine goesL_ (some 28) rfl rfl Tryd.func10 (by kernel_rfl) rfl #[.slice Ao37 t172.length co37, .slice Ao38 t175.length co38] rfl (by (try simp only [List.map_toArray, List.map_cons, List.map_nil]); first | done | rfl | (simp only [List.length_drop, List.length_take]; rfl)) ?_; (with_reducible refine (bobstayref11_Same.calls k _ _ t172 _ _ t175 false _ ?side1 ?side2 ?side3 ?side4 A17.out).mono ?_); (case side1 => repeat (first | exact (Kd.R_reads' HO174.out).2.2 | (with_reducible refine Kd.C_alloc ?_ _) | (with_reducible refine Kd.C_drewN ?_ _) | (with_reducible refine Kd.C_drew ?_))); (case side2 => exact (Kd.R_reads' HO174.out).2.1); (case side3 => repeat (first | exact (Kd.R_reads' HO177.out).2.2 | (with_reducible refine Kd.C_alloc ?_ _) | (with_reducible refine Kd.C_drewN ?_ _) | (with_reducible refine Kd.C_drew ?_))); (case side4 => exact (Kd.R_reads' HO177.out).2.1); rintro e w' ⟨rfl, ⟨nd, rfl⟩⟩; refine ⟨_, rfl, ?_⟩))
        go_ret
        exact ⟨by first | rfl | (simp [errW_none, errW_some] <;> rfl) | (simp [*, errW_none, errW_some] <;> rfl), by repeat (first | (with_reducible first | exact HB.out | apply below_alloc | apply pw_below_drewN | apply below_drew1) | exact HB.out)⟩

end Go.Proofs.YtiedbnjoomcdbaaDoor.PC

