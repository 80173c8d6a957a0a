-- PRINTED by print.py (a twelfth state) out of the translation. Not trusted: Lean checks it.
import Derived.Test.YtapfblaejmenlaaDoorPRx0
namespace Go.Proofs.YtapfblaejmenlaaDoor.PR
open Go.RowKit Go.Proofs.YtapfblaejmenlaaDoorW.PrintWords Go.Proofs.YtapfblaejmenlaaDoorW.PrintLast Go.Proofs.YtapfblaejmenlaaDoorW.PrintMore
attribute [local go_sem] max2_int min2_int max_two min_two max_three min_three max_four min_four   -- for this text's walks alone
set_option linter.unusedVariables false
set_option linter.unusedSimpArgs false

/-! ### rule_Class: function 26 -/
mutual
def rule_Class.j0 : Nat → ByteArray → ByteArray → Bool → Option (Int)
  | 0, _, _, _ => none
  | k + 1, x0, x3, x4 => if x4 = true then (some 1) else (if x3.toList = ([46, 79, 82, 68, 69, 82] : List UInt8) then (some 2) else (if x3.toList = ([46, 83, 85, 70, 70, 73, 88, 69, 83] : List UInt8) then (some 3) else (if x3.toList = ([46, 77, 65, 73, 78] : List UInt8) then (some 5) else (if x3.toList = ([46, 87, 65, 73, 84] : List UInt8) then (some 6) else (if x3.toList = ([46, 68, 69, 70, 65, 85, 76, 84] : List UInt8) then (rule_Class.j1 k x0 x3 (x3.toList == ([46, 68, 69, 70, 65, 85, 76, 84] : List UInt8))) else (if x3.toList = ([46, 66, 69, 71, 73, 78] : List UInt8) then (rule_Class.j1 k x0 x3 (x3.toList == ([46, 66, 69, 71, 73, 78] : List UInt8))) else (if x3.toList = ([46, 69, 78, 68] : List UInt8) then (rule_Class.j1 k x0 x3 (x3.toList == ([46, 69, 78, 68] : List UInt8))) else (rule_Class.j1 k x0 x3 (x3.toList == ([46, 73, 78, 84, 69, 82, 82, 85, 80, 84] : List UInt8))))))))))
def rule_Class.j1 : Nat → ByteArray → ByteArray → Bool → Option (Int)
  | 0, _, _, _ => none
  | k + 1, x0, x3, x20 => if x20 = true then (some 7) else (if x3.toList = ([46, 78, 79, 84, 80, 65, 82, 65, 76, 76, 69, 76] : List UInt8) then (some 8) else (if x0.size + 1 ≤ 9223372036854775807 then ((strings_HasPrefix.f (x0 ++ (⟨#[46]⟩ : ByteArray)) (⟨#[46, 80, 65, 84, 72, 46]⟩ : ByteArray)).bind fun t169 => (if t169 = true then (some 4) else (some 0))) else (none)))
end
def rule_Class.f (k : Nat) (a0 : ByteArray) : Option (Int) := if a0.toList = ([46, 80, 72, 79, 78, 89] : List UInt8) then (rule_Class.j0 k a0 a0 (a0.toList == ([46, 80, 72, 79, 78, 89] : List UInt8))) else (if a0.toList = ([46, 80, 82, 69, 67, 73, 79, 85, 83] : List UInt8) then (rule_Class.j0 k a0 a0 (a0.toList == ([46, 80, 82, 69, 67, 73, 79, 85, 83] : List UInt8))) else (if a0.toList = ([46, 73, 71, 78, 79, 82, 69] : List UInt8) then (rule_Class.j0 k a0 a0 (a0.toList == ([46, 73, 71, 78, 79, 82, 69] : List UInt8))) else (if a0.toList = ([46, 83, 73, 76, 69, 78, 84] : List UInt8) then (rule_Class.j0 k a0 a0 (a0.toList == ([46, 83, 73, 76, 69, 78, 84] : List UInt8))) else (if a0.toList = ([46, 78, 79, 84, 77, 65, 73, 78] : List UInt8) then (rule_Class.j0 k a0 a0 (a0.toList == ([46, 78, 79, 84, 77, 65, 73, 78] : List UInt8))) else (if a0.toList = ([46, 69, 88, 69, 67] : List UInt8) then (rule_Class.j0 k a0 a0 (a0.toList == ([46, 69, 88, 69, 67] : List UInt8))) else (rule_Class.j0 k a0 a0 (a0.toList == ([46, 77, 69, 84, 65] : List UInt8))))))))
theorem rule_Class.mono_l : ∀ k, (∀ y0 y1 y2, LeO (rule_Class.j0 k y0 y1 y2) (rule_Class.j0 (k + 1) y0 y1 y2)) ∧ (∀ y0 y1 y2, LeO (rule_Class.j1 k y0 y1 y2) (rule_Class.j1 (k + 1) y0 y1 y2))
  | 0 => ⟨fun _ _ _ r h => by simp [rule_Class.j0] at h, fun _ _ _ r h => by simp [rule_Class.j1] at h⟩
  | k + 1 => by
    obtain ⟨ih0, ih1⟩ := rule_Class.mono_l k
    refine ⟨?_, ?_⟩
    · intro y0 y1 y2
      unfold rule_Class.j0
      repeat' first
      | (with_reducible exact ih0 _ _ _)
      | (with_reducible exact ih1 _ _ _)
      | (with_reducible exact LeO.refl _)
      | (with_reducible exact LeO.none _)
      | (with_reducible refine LeO.ite ?_ ?_)
      | (with_reducible refine LeO.bind ?_ (fun _ => ?_))
      | exact ih0 _ _ _
      | exact ih1 _ _ _
      | exact LeO.none _
      | refine LeO.ite ?_ ?_
      | refine LeO.bind ?_ (fun _ => ?_)
    · intro y0 y1 y2
      unfold rule_Class.j1
      repeat' first
      | (with_reducible exact ih0 _ _ _)
      | (with_reducible exact ih1 _ _ _)
      | (with_reducible exact LeO.refl _)
      | (with_reducible exact LeO.none _)
      | (with_reducible refine LeO.ite ?_ ?_)
      | (with_reducible refine LeO.bind ?_ (fun _ => ?_))
      | exact ih0 _ _ _
      | exact ih1 _ _ _
      | exact LeO.none _
      | refine LeO.ite ?_ ?_
      | refine LeO.bind ?_ (fun _ => ?_)
theorem rule_Class.mono : ∀ a0 k, LeO (rule_Class.f k a0) (rule_Class.f (k + 1) a0) := by
  intro a0 k
  obtain ⟨ih0, ih1⟩ := rule_Class.mono_l k
  unfold rule_Class.f
  repeat' first
      | (with_reducible exact ih0 _ _ _)
      | (with_reducible exact ih1 _ _ _)
      | (with_reducible exact LeO.refl _)
      | (with_reducible exact LeO.none _)
      | (with_reducible refine LeO.ite ?_ ?_)
      | (with_reducible refine LeO.bind ?_ (fun _ => ?_))
      | exact ih0 _ _ _
      | exact ih1 _ _ _
      | exact LeO.none _
      | refine LeO.ite ?_ ?_
      | refine LeO.bind ?_ (fun _ => ?_)
set_option maxHeartbeats 8000000 in
set_option maxRecDepth 100000 in
theorem rule_Class.calls (k : Nat) (a0 : ByteArray) (r : Int) (w : World) (h : rule_Class.f k a0 = some r) :
    Calls Tryd.prog 26 #[.string a0] w fun e w' => e = .returned (.int .i64 r) ∧ Drawn0 w w' := by
  have H : (if a0.toList = ([46, 80, 72, 79, 78, 89] : List UInt8) then (rule_Class.j0 k a0 a0 (a0.toList == ([46, 80, 72, 79, 78, 89] : List UInt8))) else (if a0.toList = ([46, 80, 82, 69, 67, 73, 79, 85, 83] : List UInt8) then (rule_Class.j0 k a0 a0 (a0.toList == ([46, 80, 82, 69, 67, 73, 79, 85, 83] : List UInt8))) else (if a0.toList = ([46, 73, 71, 78, 79, 82, 69] : List UInt8) then (rule_Class.j0 k a0 a0 (a0.toList == ([46, 73, 71, 78, 79, 82, 69] : List UInt8))) else (if a0.toList = ([46, 83, 73, 76, 69, 78, 84] : List UInt8) then (rule_Class.j0 k a0 a0 (a0.toList == ([46, 83, 73, 76, 69, 78, 84] : List UInt8))) else (if a0.toList = ([46, 78, 79, 84, 77, 65, 73, 78] : List UInt8) then (rule_Class.j0 k a0 a0 (a0.toList == ([46, 78, 79, 84, 77, 65, 73, 78] : List UInt8))) else (if a0.toList = ([46, 69, 88, 69, 67] : List UInt8) then (rule_Class.j0 k a0 a0 (a0.toList == ([46, 69, 88, 69, 67] : List UInt8))) else (rule_Class.j0 k a0 a0 (a0.toList == ([46, 77, 69, 84, 65] : List UInt8))))))))) = some r := h
  clear h
  have HC2 := Aside0.mk H
  clear H
  go_enter Tryd.func26, Tryd.ntmps26
  go_upto_if 4 with (fail)
  go_cut [4] (fun v4 wc => ∃ (kq : Nat) (x4_1 : Bool), v4 = .bool x4_1 ∧ Aside0 (rule_Class.j0 kq a0 a0 x4_1 = some r) ∧ Aside0 (kq ≤ k) ∧ Drawn0 w wc)
  case first =>
    have H := HC2.out
    clear HC2
    by_cases c3 : a0.toList = ([46, 80, 72, 79, 78, 89] : List UInt8)
    · rw [if_pos c3] at H
      have c3b0 : (a0.toList == ([46, 80, 72, 79, 78, 89] : List UInt8)) = true := beq_iff_eq.mpr c3
      have c3b1 : (a0.toList != ([46, 80, 72, 79, 78, 89] : List UInt8)) = false := bne_eq_false_iff_eq.mpr c3
      clear c3
      (first | rw [c3b0] | (simp only [i64_w, i32_w]; rw [c3b0]) | skip)
      have H' := Aside0.mk H
      clear H
      go_wp2
      go_meet
      case rel => exact ⟨_, ((a0.toList == ([46, 80, 72, 79, 78, 89] : List UInt8))), (by first | rfl | (simp; done) | (simp [*]; done)), H', ⟨by first | omega | exact Nat.le_refl _⟩, by repeat (first | exact Drawn0.refl _ | apply Drawn0.step)⟩
    · rw [if_neg c3] at H
      have c3b0 : (a0.toList == ([46, 80, 72, 79, 78, 89] : List UInt8)) = false := beq_eq_false_iff_ne.mpr c3
      have c3b1 : (a0.toList != ([46, 80, 72, 79, 78, 89] : List UInt8)) = true := bne_iff_ne.mpr c3
      (first | rw [c3b0] | (simp only [i64_w, i32_w]; rw [c3b0]) | skip)
      by_cases c4 : a0.toList = ([46, 80, 82, 69, 67, 73, 79, 85, 83] : List UInt8)
      · rw [if_pos c4] at H
        have c4b0 : (a0.toList == ([46, 80, 82, 69, 67, 73, 79, 85, 83] : List UInt8)) = true := beq_iff_eq.mpr c4
        have c4b1 : (a0.toList != ([46, 80, 82, 69, 67, 73, 79, 85, 83] : List UInt8)) = false := bne_eq_false_iff_eq.mpr c4
        clear c4
        have H' := Aside0.mk H
        clear H
        go_wp2
        go_meet
        case rel => exact ⟨_, ((a0.toList == ([46, 80, 82, 69, 67, 73, 79, 85, 83] : List UInt8))), (by first | rfl | (simp; done) | (simp [*]; done)), H', ⟨by first | omega | exact Nat.le_refl _⟩, by repeat (first | exact Drawn0.refl _ | apply Drawn0.step)⟩
      · rw [if_neg c4] at H
        have c4b0 : (a0.toList == ([46, 80, 82, 69, 67, 73, 79, 85, 83] : List UInt8)) = false := beq_eq_false_iff_ne.mpr c4
        have c4b1 : (a0.toList != ([46, 80, 82, 69, 67, 73, 79, 85, 83] : List UInt8)) = true := bne_iff_ne.mpr c4
        by_cases c5 : a0.toList = ([46, 73, 71, 78, 79, 82, 69] : List UInt8)
        · rw [if_pos c5] at H
          have c5b0 : (a0.toList == ([46, 73, 71, 78, 79, 82, 69] : List UInt8)) = true := beq_iff_eq.mpr c5
          have c5b1 : (a0.toList != ([46, 73, 71, 78, 79, 82, 69] : List UInt8)) = false := bne_eq_false_iff_eq.mpr c5
          clear c5
          have H' := Aside0.mk H
          clear H
          go_wp2
          go_meet
          case rel => exact ⟨_, ((a0.toList == ([46, 73, 71, 78, 79, 82, 69] : List UInt8))), (by first | rfl | (simp; done) | (simp [*]; done)), H', ⟨by first | omega | exact Nat.le_refl _⟩, by repeat (first | exact Drawn0.refl _ | apply Drawn0.step)⟩
        · rw [if_neg c5] at H
          have c5b0 : (a0.toList == ([46, 73, 71, 78, 79, 82, 69] : List UInt8)) = false := beq_eq_false_iff_ne.mpr c5
          have c5b1 : (a0.toList != ([46, 73, 71, 78, 79, 82, 69] : List UInt8)) = true := bne_iff_ne.mpr c5
          by_cases c6 : a0.toList = ([46, 83, 73, 76, 69, 78, 84] : List UInt8)
          · rw [if_pos c6] at H
            have c6b0 : (a0.toList == ([46, 83, 73, 76, 69, 78, 84] : List UInt8)) = true := beq_iff_eq.mpr c6
            have c6b1 : (a0.toList != ([46, 83, 73, 76, 69, 78, 84] : List UInt8)) = false := bne_eq_false_iff_eq.mpr c6
            clear c6
            have H' := Aside0.mk H
            clear H
            go_wp2
            go_meet
            case rel => exact ⟨_, ((a0.toList == ([46, 83, 73, 76, 69, 78, 84] : List UInt8))), (by first | rfl | (simp; done) | (simp [*]; done)), H', ⟨by first | omega | exact Nat.le_refl _⟩, by repeat (first | exact Drawn0.refl _ | apply Drawn0.step)⟩
          · rw [if_neg c6] at H
            have c6b0 : (a0.toList == ([46, 83, 73, 76, 69, 78, 84] : List UInt8)) = false := beq_eq_false_iff_ne.mpr c6
            have c6b1 : (a0.toList != ([46, 83, 73, 76, 69, 78, 84] : List UInt8)) = true := bne_iff_ne.mpr c6
            by_cases c7 : a0.toList = ([46, 78, 79, 84, 77, 65, 73, 78] : List UInt8)
            · rw [if_pos c7] at H
              have c7b0 : (a0.toList == ([46, 78, 79, 84, 77, 65, 73, 78] : List UInt8)) = true := beq_iff_eq.mpr c7
              have c7b1 : (a0.toList != ([46, 78, 79, 84, 77, 65, 73, 78] : List UInt8)) = false := bne_eq_false_iff_eq.mpr c7
              clear c7
              have H' := Aside0.mk H
              clear H
              go_wp2
              go_meet
              case rel => exact ⟨_, ((a0.toList == ([46, 78, 79, 84, 77, 65, 73, 78] : List UInt8))), (by first | rfl | (simp; done) | (simp [*]; done)), H', ⟨by first | omega | exact Nat.le_refl _⟩, by repeat (first | exact Drawn0.refl _ | apply Drawn0.step)⟩
            · rw [if_neg c7] at H
              have c7b0 : (a0.toList == ([46, 78, 79, 84, 77, 65, 73, 78] : List UInt8)) = false := beq_eq_false_iff_ne.mpr c7
              have c7b1 : (a0.toList != ([46, 78, 79, 84, 77, 65, 73, 78] : List UInt8)) = true := bne_iff_ne.mpr c7
              by_cases c8 : a0.toList = ([46, 69, 88, 69, 67] : List UInt8)
              · rw [if_pos c8] at H
                have c8b0 : (a0.toList == ([46, 69, 88, 69, 67] : List UInt8)) = true := beq_iff_eq.mpr c8
                have c8b1 : (a0.toList != ([46, 69, 88, 69, 67] : List UInt8)) = false := bne_eq_false_iff_eq.mpr c8
                clear c8
                have H' := Aside0.mk H
                clear H
                go_wp2
                go_meet
                case rel => exact ⟨_, ((a0.toList == ([46, 69, 88, 69, 67] : List UInt8))), (by first | rfl | (simp; done) | (simp [*]; done)), H', ⟨by first | omega | exact Nat.le_refl _⟩, by repeat (first | exact Drawn0.refl _ | apply Drawn0.step)⟩
              · rw [if_neg c8] at H
                have c8b0 : (a0.toList == ([46, 69, 88, 69, 67] : List UInt8)) = false := beq_eq_false_iff_ne.mpr c8
                have c8b1 : (a0.toList != ([46, 69, 88, 69, 67] : List UInt8)) = true := bne_iff_ne.mpr c8
                have H' := Aside0.mk H
                clear H
                go_wp2
                go_meet
                case rel => exact ⟨_, ((a0.toList == ([46, 77, 69, 84, 65] : List UInt8))), (by first | rfl | (simp; done) | (simp [*]; done)), H', ⟨by first | omega | exact Nat.le_refl _⟩, by repeat (first | exact Drawn0.refl _ | apply Drawn0.step)⟩
  case rest =>
    clear HC2
    try clear c2
    try clear p2
    try clear c3
    try clear c3b0
    try clear c3b1
    try clear c4
    try clear c4b0
    try clear c4b1
    try clear c5
    try clear c5b0
    try clear c5b1
    try clear c6
    try clear c6b0
    try clear c6b1
    try clear c7
    try clear c7b0
    try clear c7b1
    try clear c8
    try clear c8b0
    try clear c8b1
    obtain ⟨kq, x4_1, rfl, HA, HJ1, ⟨mc1, rfl⟩⟩ := hcut
    cases kq with
    | zero => exact absurd HA.out (by simp [rule_Class.j0])
    | succ kj1 =>
      have H := HA.out
      clear HA
      simp only [rule_Class.j0] at H
      by_cases c9 : x4_1 = true
      · subst c9
        have H1 : (some 1) = some r := by rw [if_pos rfl] at H; exact H
        clear H
        have H := H1
        clear H1
        obtain rfl := Option.some.inj H
        go_wp2
        go_ret
        exact ⟨by first | rfl | (simp; done) | (simp [*]; done), by repeat (first | exact Drawn0.refl _ | apply Drawn0.step)⟩
      · replace c9 := Bool.eq_false_iff.mpr c9
        subst c9
        have H1 : (if a0.toList = ([46, 79, 82, 68, 69, 82] : List UInt8) then (some 2) else (if a0.toList = ([46, 83, 85, 70, 70, 73, 88, 69, 83] : List UInt8) then (some 3) else (if a0.toList = ([46, 77, 65, 73, 78] : List UInt8) then (some 5) else (if a0.toList = ([46, 87, 65, 73, 84] : List UInt8) then (some 6) else (if a0.toList = ([46, 68, 69, 70, 65, 85, 76, 84] : List UInt8) then (rule_Class.j1 kj1 a0 a0 (a0.toList == ([46, 68, 69, 70, 65, 85, 76, 84] : List UInt8))) else (if a0.toList = ([46, 66, 69, 71, 73, 78] : List UInt8) then (rule_Class.j1 kj1 a0 a0 (a0.toList == ([46, 66, 69, 71, 73, 78] : List UInt8))) else (if a0.toList = ([46, 69, 78, 68] : List UInt8) then (rule_Class.j1 kj1 a0 a0 (a0.toList == ([46, 69, 78, 68] : List UInt8))) else (rule_Class.j1 kj1 a0 a0 (a0.toList == ([46, 73, 78, 84, 69, 82, 82, 85, 80, 84] : List UInt8)))))))))) = some r := by rw [if_neg (show ¬ (false = true) by decide)] at H; exact H
        clear H
        have H := H1
        clear H1
        by_cases c10 : a0.toList = ([46, 79, 82, 68, 69, 82] : List UInt8)
        · rw [if_pos c10] at H
          have c10b0 : (a0.toList == ([46, 79, 82, 68, 69, 82] : List UInt8)) = true := beq_iff_eq.mpr c10
          have c10b1 : (a0.toList != ([46, 79, 82, 68, 69, 82] : List UInt8)) = false := bne_eq_false_iff_eq.mpr c10
          clear c10
          obtain rfl := Option.some.inj H
          go_wp2
          go_ret
          exact ⟨by first | rfl | (simp; done) | (simp [*]; done), by repeat (first | exact Drawn0.refl _ | apply Drawn0.step)⟩
        · rw [if_neg c10] at H
          have c10b0 : (a0.toList == ([46, 79, 82, 68, 69, 82] : List UInt8)) = false := beq_eq_false_iff_ne.mpr c10
          have c10b1 : (a0.toList != ([46, 79, 82, 68, 69, 82] : List UInt8)) = true := bne_iff_ne.mpr c10
          by_cases c11 : a0.toList = ([46, 83, 85, 70, 70, 73, 88, 69, 83] : List UInt8)
          · rw [if_pos c11] at H
            have c11b0 : (a0.toList == ([46, 83, 85, 70, 70, 73, 88, 69, 83] : List UInt8)) = true := beq_iff_eq.mpr c11
            have c11b1 : (a0.toList != ([46, 83, 85, 70, 70, 73, 88, 69, 83] : List UInt8)) = false := bne_eq_false_iff_eq.mpr c11
            clear c11
            obtain rfl := Option.some.inj H
            go_wp2
            go_ret
            exact ⟨by first | rfl | (simp; done) | (simp [*]; done), by repeat (first | exact Drawn0.refl _ | apply Drawn0.step)⟩
          · rw [if_neg c11] at H
            have c11b0 : (a0.toList == ([46, 83, 85, 70, 70, 73, 88, 69, 83] : List UInt8)) = false := beq_eq_false_iff_ne.mpr c11
            have c11b1 : (a0.toList != ([46, 83, 85, 70, 70, 73, 88, 69, 83] : List UInt8)) = true := bne_iff_ne.mpr c11
            by_cases c12 : a0.toList = ([46, 77, 65, 73, 78] : List UInt8)
            · rw [if_pos c12] at H
              have c12b0 : (a0.toList == ([46, 77, 65, 73, 78] : List UInt8)) = true := beq_iff_eq.mpr c12
              have c12b1 : (a0.toList != ([46, 77, 65, 73, 78] : List UInt8)) = false := bne_eq_false_iff_eq.mpr c12
              clear c12
              obtain rfl := Option.some.inj H
              go_wp2
              go_ret
              exact ⟨by first | rfl | (simp; done) | (simp [*]; done), by repeat (first | exact Drawn0.refl _ | apply Drawn0.step)⟩
            · rw [if_neg c12] at H
              have c12b0 : (a0.toList == ([46, 77, 65, 73, 78] : List UInt8)) = false := beq_eq_false_iff_ne.mpr c12
              have c12b1 : (a0.toList != ([46, 77, 65, 73, 78] : List UInt8)) = true := bne_iff_ne.mpr c12
              by_cases c13 : a0.toList = ([46, 87, 65, 73, 84] : List UInt8)
              · rw [if_pos c13] at H
                have c13b0 : (a0.toList == ([46, 87, 65, 73, 84] : List UInt8)) = true := beq_iff_eq.mpr c13
                have c13b1 : (a0.toList != ([46, 87, 65, 73, 84] : List UInt8)) = false := bne_eq_false_iff_eq.mpr c13
                clear c13
                obtain rfl := Option.some.inj H
                go_wp2
                go_ret
                exact ⟨by first | rfl | (simp; done) | (simp [*]; done), by repeat (first | exact Drawn0.refl _ | apply Drawn0.step)⟩
              · rw [if_neg c13] at H
                have c13b0 : (a0.toList == ([46, 87, 65, 73, 84] : List UInt8)) = false := beq_eq_false_iff_ne.mpr c13
                have c13b1 : (a0.toList != ([46, 87, 65, 73, 84] : List UInt8)) = true := bne_iff_ne.mpr c13
                have HC14 := Aside0.mk H
                clear H
                go_upto_if 20 with (fail)
                go_cut [20] (fun v20 wc => ∃ (kq : Nat) (x20_13 : Bool), v20 = .bool x20_13 ∧ Aside0 (rule_Class.j1 kq a0 a0 x20_13 = some r) ∧ Aside0 (kq ≤ kj1) ∧ Drawn0 w wc)
                case first =>
                  have H := HC14.out
                  clear HC14
                  by_cases c15 : a0.toList = ([46, 68, 69, 70, 65, 85, 76, 84] : List UInt8)
                  · rw [if_pos c15] at H
                    have c15b0 : (a0.toList == ([46, 68, 69, 70, 65, 85, 76, 84] : List UInt8)) = true := beq_iff_eq.mpr c15
                    have c15b1 : (a0.toList != ([46, 68, 69, 70, 65, 85, 76, 84] : List UInt8)) = false := bne_eq_false_iff_eq.mpr c15
                    clear c15
                    (first | rw [c15b0] | (simp only [i64_w, i32_w]; rw [c15b0]) | skip)
                    have H' := Aside0.mk H
                    clear H
                    go_wp2
                    go_meet
                    case rel => exact ⟨_, ((a0.toList == ([46, 68, 69, 70, 65, 85, 76, 84] : List UInt8))), (by first | rfl | (simp; done) | (simp [*]; done)), H', ⟨by have := HJ1.out; first | omega | exact Nat.le_refl _⟩, by repeat (first | exact Drawn0.refl _ | apply Drawn0.step)⟩
                  · rw [if_neg c15] at H
                    have c15b0 : (a0.toList == ([46, 68, 69, 70, 65, 85, 76, 84] : List UInt8)) = false := beq_eq_false_iff_ne.mpr c15
                    have c15b1 : (a0.toList != ([46, 68, 69, 70, 65, 85, 76, 84] : List UInt8)) = true := bne_iff_ne.mpr c15
                    (first | rw [c15b0] | (simp only [i64_w, i32_w]; rw [c15b0]) | skip)
                    by_cases c16 : a0.toList = ([46, 66, 69, 71, 73, 78] : List UInt8)
                    · rw [if_pos c16] at H
                      have c16b0 : (a0.toList == ([46, 66, 69, 71, 73, 78] : List UInt8)) = true := beq_iff_eq.mpr c16
                      have c16b1 : (a0.toList != ([46, 66, 69, 71, 73, 78] : List UInt8)) = false := bne_eq_false_iff_eq.mpr c16
                      clear c16
                      have H' := Aside0.mk H
                      clear H
                      go_wp2
                      go_meet
                      case rel => exact ⟨_, ((a0.toList == ([46, 66, 69, 71, 73, 78] : List UInt8))), (by first | rfl | (simp; done) | (simp [*]; done)), H', ⟨by have := HJ1.out; first | omega | exact Nat.le_refl _⟩, by repeat (first | exact Drawn0.refl _ | apply Drawn0.step)⟩
                    · rw [if_neg c16] at H
                      have c16b0 : (a0.toList == ([46, 66, 69, 71, 73, 78] : List UInt8)) = false := beq_eq_false_iff_ne.mpr c16
                      have c16b1 : (a0.toList != ([46, 66, 69, 71, 73, 78] : List UInt8)) = true := bne_iff_ne.mpr c16
                      by_cases c17 : a0.toList = ([46, 69, 78, 68] : List UInt8)
                      · rw [if_pos c17] at H
                        have c17b0 : (a0.toList == ([46, 69, 78, 68] : List UInt8)) = true := beq_iff_eq.mpr c17
                        have c17b1 : (a0.toList != ([46, 69, 78, 68] : List UInt8)) = false := bne_eq_false_iff_eq.mpr c17
                        clear c17
                        have H' := Aside0.mk H
                        clear H
                        go_wp2
                        go_meet
                        case rel => exact ⟨_, ((a0.toList == ([46, 69, 78, 68] : List UInt8))), (by first | rfl | (simp; done) | (simp [*]; done)), H', ⟨by have := HJ1.out; first | omega | exact Nat.le_refl _⟩, by repeat (first | exact Drawn0.refl _ | apply Drawn0.step)⟩
                      · rw [if_neg c17] at H
                        have c17b0 : (a0.toList == ([46, 69, 78, 68] : List UInt8)) = false := beq_eq_false_iff_ne.mpr c17
                        have c17b1 : (a0.toList != ([46, 69, 78, 68] : List UInt8)) = true := bne_iff_ne.mpr c17
                        have H' := Aside0.mk H
                        clear H
                        go_wp2
                        go_meet
                        case rel => exact ⟨_, ((a0.toList == ([46, 73, 78, 84, 69, 82, 82, 85, 80, 84] : List UInt8))), (by first | rfl | (simp; done) | (simp [*]; done)), H', ⟨by have := HJ1.out; first | omega | exact Nat.le_refl _⟩, by repeat (first | exact Drawn0.refl _ | apply Drawn0.step)⟩
                case rest =>
                  clear HC14
                  try clear c1
                  try clear c2
                  try clear p2
                  try clear c3
                  try clear c3b0
                  try clear c3b1
                  try clear c4
                  try clear c4b0
                  try clear c4b1
                  try clear c5
                  try clear c5b0
                  try clear c5b1
                  try clear c6
                  try clear c6b0
                  try clear c6b1
                  try clear c7
                  try clear c7b0
                  try clear c7b1
                  try clear c8
                  try clear c8b0
                  try clear c8b1
                  try clear c9
                  try clear c10
                  try clear c10b0
                  try clear c10b1
                  try clear c11
                  try clear c11b0
                  try clear c11b1
                  try clear c12
                  try clear c12b0
                  try clear c12b1
                  try clear c13
                  try clear c13b0
                  try clear c13b1
                  try clear c15
                  try clear c15b0
                  try clear c15b1
                  try clear c16
                  try clear c16b0
                  try clear c16b1
                  try clear c17
                  try clear c17b0
                  try clear c17b1
                  try clear p2
                  obtain ⟨kq, x20_13, rfl, HA, HJ13, ⟨mc13, rfl⟩⟩ := hcut
                  cases kq with
                  | zero => exact absurd HA.out (by simp [rule_Class.j1])
                  | succ kj13 =>
                    have H := HA.out
                    clear HA
                    simp only [rule_Class.j1] at H
                    by_cases c18 : x20_13 = true
                    · subst c18
                      have H1 : (some 7) = some r := by rw [if_pos rfl] at H; exact H
                      clear H
                      have H := H1
                      clear H1
                      obtain rfl := Option.some.inj H
                      go_wp2
                      go_ret
                      exact ⟨by first | rfl | (simp; done) | (simp [*]; done), by repeat (first | exact Drawn0.refl _ | apply Drawn0.step)⟩
                    · replace c18 := Bool.eq_false_iff.mpr c18
                      subst c18
                      have H1 : (if a0.toList = ([46, 78, 79, 84, 80, 65, 82, 65, 76, 76, 69, 76] : List UInt8) then (some 8) else (if a0.size + 1 ≤ 9223372036854775807 then ((strings_HasPrefix.f (a0 ++ (⟨#[46]⟩ : ByteArray)) (⟨#[46, 80, 65, 84, 72, 46]⟩ : ByteArray)).bind fun t169 => (if t169 = true then (some 4) else (some 0))) else (none))) = some r := by rw [if_neg (show ¬ (false = true) by decide)] at H; exact H
                      clear H
                      have H := H1
                      clear H1
                      by_cases c19 : a0.toList = ([46, 78, 79, 84, 80, 65, 82, 65, 76, 76, 69, 76] : List UInt8)
                      · rw [if_pos c19] at H
                        have c19b0 : (a0.toList == ([46, 78, 79, 84, 80, 65, 82, 65, 76, 76, 69, 76] : List UInt8)) = true := beq_iff_eq.mpr c19
                        have c19b1 : (a0.toList != ([46, 78, 79, 84, 80, 65, 82, 65, 76, 76, 69, 76] : List UInt8)) = false := bne_eq_false_iff_eq.mpr c19
                        clear c19
                        obtain rfl := Option.some.inj H
                        go_wp2
                        go_ret
                        exact ⟨by first | rfl | (simp; done) | (simp [*]; done), by repeat (first | exact Drawn0.refl _ | apply Drawn0.step)⟩
                      · rw [if_neg c19] at H
                        have c19b0 : (a0.toList == ([46, 78, 79, 84, 80, 65, 82, 65, 76, 76, 69, 76] : List UInt8)) = false := beq_eq_false_iff_ne.mpr c19
                        have c19b1 : (a0.toList != ([46, 78, 79, 84, 80, 65, 82, 65, 76, 76, 69, 76] : List UInt8)) = true := bne_iff_ne.mpr c19
                        by_cases c20 : a0.size + 1 ≤ 9223372036854775807
                        · rw [if_pos c20] at H
                          have c20b0 := eq_true c20
                          have c20b1 : decide (a0.size + 1 ≤ 9223372036854775807) = true := decide_eq_true c20
                          try have c20b2 : (9223372036854775807 < a0.size + 1) = False := eq_false (Nat.not_lt.2 c20)
                          replace H := Option.bind_eq_some_iff.mp H
                          obtain ⟨t169, A210, H⟩ := H
                          replace H : (if t169 = true then (some 4) else (some 0)) = some r := H
                          have A21 := Aside0.mk A210
                          clear A210
                          by_cases c22 : t169 = true
                          · subst c22
                            have H1 : (some 4) = some r := by rw [if_pos rfl] at H; exact H
                            clear H
                            have H := H1
                            clear H1
                            obtain rfl := Option.some.inj H
                            go_wp2_with (first | ((with_reducible refine gate_callee (f := 32) rfl ?_); refine goesL_ (some 29) rfl rfl Tryd.func32 (by kernel_rfl) rfl #[.string (a0 ++ (⟨#[46]⟩ : ByteArray)), .string (⟨#[46, 80, 65, 84, 72, 46]⟩ : ByteArray)] rfl (by (try simp only [List.map_toArray, List.map_cons, List.map_nil]); first | done | rfl | (simp only [List.length_drop, List.length_take]; rfl)) ?_; (with_reducible refine (strings_HasPrefix.calls (a0 ++ (⟨#[46]⟩ : ByteArray)) (⟨#[46, 80, 65, 84, 72, 46]⟩ : ByteArray) true _ A21.out).mono ?_); rintro e w' ⟨rfl, ⟨nd, rfl⟩⟩; refine ⟨_, rfl, ?_⟩))
                            go_ret
                            exact ⟨by first | rfl | (simp; done) | (simp [*]; done), by repeat (first | exact Drawn0.refl _ | apply Drawn0.step)⟩
                          · replace c22 := Bool.eq_false_iff.mpr c22
                            subst c22
                            have H1 : (some 0) = some r := by rw [if_neg (show ¬ (false = true) by decide)] at H; exact H
                            clear H
                            have H := H1
                            clear H1
                            obtain rfl := Option.some.inj H
                            go_wp2_with (first | ((with_reducible refine gate_callee (f := 32) rfl ?_); refine goesL_ (some 29) rfl rfl Tryd.func32 (by kernel_rfl) rfl #[.string (a0 ++ (⟨#[46]⟩ : ByteArray)), .string (⟨#[46, 80, 65, 84, 72, 46]⟩ : ByteArray)] rfl (by (try simp only [List.map_toArray, List.map_cons, List.map_nil]); first | done | rfl | (simp only [List.length_drop, List.length_take]; rfl)) ?_; (with_reducible refine (strings_HasPrefix.calls (a0 ++ (⟨#[46]⟩ : ByteArray)) (⟨#[46, 80, 65, 84, 72, 46]⟩ : ByteArray) false _ A21.out).mono ?_); rintro e w' ⟨rfl, ⟨nd, rfl⟩⟩; refine ⟨_, rfl, ?_⟩))
                            go_ret
                            exact ⟨by first | rfl | (simp; done) | (simp [*]; done), by repeat (first | exact Drawn0.refl _ | apply Drawn0.step)⟩
                        · rw [if_neg c20] at H
                          exact absurd H (by simp)

end Go.Proofs.YtapfblaejmenlaaDoor.PR
