-- PRINTED by print.py (a twelfth state) out of the translation. Not trusted: Lean checks it.
import Derived.Test.YtjblkmmpfgjlnaaDoorPQx0
namespace Go.Proofs.YtjblkmmpfgjlnaaDoor.PQ
open Go.RowKit Go.Proofs.YtjblkmmpfgjlnaaDoorW.PrintWords Go.Proofs.YtjblkmmpfgjlnaaDoorW.PrintLast Go.Proofs.YtjblkmmpfgjlnaaDoorW.PrintMore
attribute [local go_sem] max2_int min2_int max_two min_two max_three min_three max_four min_four   -- for this text's walks alone
set_option linter.unusedVariables false
set_option linter.unusedSimpArgs false

/-! ### bobstayref04_bare: function 30 -/
def bobstayref04_bare.l0 : Nat → Int → ByteArray → Int → Option (Bool)
  | 0, _, _, _ => none
  | k + 1, x0, x3, x4 => if x4 < (x3.size : Int) then (if 0 ≤ x4 then (if (bt x3 x4) = x0 then (some true) else (bobstayref04_bare.l0 k x0 x3 (wrap64 (x4 + 1)))) else (none)) else (some false)
def bobstayref04_bare.f (k : Nat) (a0 : Int) : Option (Bool) := if a0 ≥ 97 then (if a0 ≤ 122 then (some true) else (if a0 ≥ 65 then (if a0 ≤ 90 then (some true) else (if a0 ≥ 48 then (if a0 ≤ 57 then (some true) else (bobstayref04_bare.l0 k a0 (⟨#[95, 46, 47, 43, 45, 44, 58, 61, 64, 37]⟩ : ByteArray) 0)) else (bobstayref04_bare.l0 k a0 (⟨#[95, 46, 47, 43, 45, 44, 58, 61, 64, 37]⟩ : ByteArray) 0))) else (if a0 ≥ 48 then (if a0 ≤ 57 then (some true) else (bobstayref04_bare.l0 k a0 (⟨#[95, 46, 47, 43, 45, 44, 58, 61, 64, 37]⟩ : ByteArray) 0)) else (bobstayref04_bare.l0 k a0 (⟨#[95, 46, 47, 43, 45, 44, 58, 61, 64, 37]⟩ : ByteArray) 0)))) else (if a0 ≥ 65 then (if a0 ≤ 90 then (some true) else (if a0 ≥ 48 then (if a0 ≤ 57 then (some true) else (bobstayref04_bare.l0 k a0 (⟨#[95, 46, 47, 43, 45, 44, 58, 61, 64, 37]⟩ : ByteArray) 0)) else (bobstayref04_bare.l0 k a0 (⟨#[95, 46, 47, 43, 45, 44, 58, 61, 64, 37]⟩ : ByteArray) 0))) else (if a0 ≥ 48 then (if a0 ≤ 57 then (some true) else (bobstayref04_bare.l0 k a0 (⟨#[95, 46, 47, 43, 45, 44, 58, 61, 64, 37]⟩ : ByteArray) 0)) else (bobstayref04_bare.l0 k a0 (⟨#[95, 46, 47, 43, 45, 44, 58, 61, 64, 37]⟩ : ByteArray) 0)))
theorem bobstayref04_bare.mono_l : ∀ k, (∀ y0 y1 y2, LeO (bobstayref04_bare.l0 k y0 y1 y2) (bobstayref04_bare.l0 (k + 1) y0 y1 y2))
  | 0 => fun _ _ _ r h => by simp [bobstayref04_bare.l0] at h
  | k + 1 => by
    have ih0 := bobstayref04_bare.mono_l k
    · intro y0 y1 y2
      unfold bobstayref04_bare.l0
      repeat' first
      | (with_reducible exact ih0 _ _ _)
      | (with_reducible exact LeO.refl _)
      | (with_reducible exact LeO.none _)
      | (with_reducible refine LeO.ite ?_ ?_)
      | (with_reducible refine LeO.bind ?_ (fun _ => ?_))
      | exact ih0 _ _ _
      | exact LeO.none _
      | refine LeO.ite ?_ ?_
      | refine LeO.bind ?_ (fun _ => ?_)
theorem bobstayref04_bare.mono : ∀ a0 k, LeO (bobstayref04_bare.f k a0) (bobstayref04_bare.f (k + 1) a0) := by
  intro a0 k
  have ih0 := bobstayref04_bare.mono_l k
  unfold bobstayref04_bare.f
  repeat' first
      | (with_reducible exact ih0 _ _ _)
      | (with_reducible exact LeO.refl _)
      | (with_reducible exact LeO.none _)
      | (with_reducible refine LeO.ite ?_ ?_)
      | (with_reducible refine LeO.bind ?_ (fun _ => ?_))
      | exact ih0 _ _ _
      | exact LeO.none _
      | refine LeO.ite ?_ ?_
      | refine LeO.bind ?_ (fun _ => ?_)
set_option maxHeartbeats 8000000 in
set_option maxRecDepth 100000 in
theorem bobstayref04_bare.calls (k : Nat) (a0 : Int) (r : Bool) (w : World) (h : bobstayref04_bare.f k a0 = some r) :
    Calls Tryd.prog 30 #[.int .u8 a0] w fun e w' => e = .returned (.bool r) ∧ Drawn0 w w' := by
  have H : (if a0 ≥ 97 then (if a0 ≤ 122 then (some true) else (if a0 ≥ 65 then (if a0 ≤ 90 then (some true) else (if a0 ≥ 48 then (if a0 ≤ 57 then (some true) else (bobstayref04_bare.l0 k a0 (⟨#[95, 46, 47, 43, 45, 44, 58, 61, 64, 37]⟩ : ByteArray) 0)) else (bobstayref04_bare.l0 k a0 (⟨#[95, 46, 47, 43, 45, 44, 58, 61, 64, 37]⟩ : ByteArray) 0))) else (if a0 ≥ 48 then (if a0 ≤ 57 then (some true) else (bobstayref04_bare.l0 k a0 (⟨#[95, 46, 47, 43, 45, 44, 58, 61, 64, 37]⟩ : ByteArray) 0)) else (bobstayref04_bare.l0 k a0 (⟨#[95, 46, 47, 43, 45, 44, 58, 61, 64, 37]⟩ : ByteArray) 0)))) else (if a0 ≥ 65 then (if a0 ≤ 90 then (some true) else (if a0 ≥ 48 then (if a0 ≤ 57 then (some true) else (bobstayref04_bare.l0 k a0 (⟨#[95, 46, 47, 43, 45, 44, 58, 61, 64, 37]⟩ : ByteArray) 0)) else (bobstayref04_bare.l0 k a0 (⟨#[95, 46, 47, 43, 45, 44, 58, 61, 64, 37]⟩ : ByteArray) 0))) else (if a0 ≥ 48 then (if a0 ≤ 57 then (some true) else (bobstayref04_bare.l0 k a0 (⟨#[95, 46, 47, 43, 45, 44, 58, 61, 64, 37]⟩ : ByteArray) 0)) else (bobstayref04_bare.l0 k a0 (⟨#[95, 46, 47, 43, 45, 44, 58, 61, 64, 37]⟩ : ByteArray) 0)))) = some r := h
  clear h
  by_cases c2 : a0 ≥ 97
  · rw [if_pos c2] at H
    have c2b0 : decide (97 ≤ a0) = true := decide_eq_true c2
    clear c2
    by_cases c3 : a0 ≤ 122
    · rw [if_pos c3] at H
      have c3b0 : decide (a0 ≤ 122) = true := decide_eq_true c3
      clear c3
      obtain rfl := Option.some.inj H
      go_enter Tryd.func30, Tryd.ntmps30
      go_wp2
      go_ret
      exact ⟨by first | rfl | (simp; done) | (simp [*]; done), by repeat (first | exact Drawn0.refl _ | apply Drawn0.step)⟩
    · rw [if_neg c3] at H
      have c3b0 : decide (a0 ≤ 122) = false := decide_eq_false c3
      clear c3
      by_cases c4 : a0 ≥ 65
      · rw [if_pos c4] at H
        have c4b0 : decide (65 ≤ a0) = true := decide_eq_true c4
        clear c4
        by_cases c5 : a0 ≤ 90
        · rw [if_pos c5] at H
          have c5b0 : decide (a0 ≤ 90) = true := decide_eq_true c5
          clear c5
          obtain rfl := Option.some.inj H
          go_enter Tryd.func30, Tryd.ntmps30
          go_wp2
          go_ret
          exact ⟨by first | rfl | (simp; done) | (simp [*]; done), by repeat (first | exact Drawn0.refl _ | apply Drawn0.step)⟩
        · rw [if_neg c5] at H
          have c5b0 : decide (a0 ≤ 90) = false := decide_eq_false c5
          clear c5
          by_cases c6 : a0 ≥ 48
          · rw [if_pos c6] at H
            have c6b0 : decide (48 ≤ a0) = true := decide_eq_true c6
            clear c6
            by_cases c7 : a0 ≤ 57
            · rw [if_pos c7] at H
              have c7b0 : decide (a0 ≤ 57) = true := decide_eq_true c7
              clear c7
              obtain rfl := Option.some.inj H
              go_enter Tryd.func30, Tryd.ntmps30
              go_wp2
              go_ret
              exact ⟨by first | rfl | (simp; done) | (simp [*]; done), by repeat (first | exact Drawn0.refl _ | apply Drawn0.step)⟩
            · rw [if_neg c7] at H
              have c7b0 : decide (a0 ≤ 57) = false := decide_eq_false c7
              clear c7
              have H' := Aside0.mk H
              clear H
              go_enter Tryd.func30, Tryd.ntmps30
              go_wp2
              go_loopg [4] k (fun kq v4 w' => ∃ (x4_1 : Int), v4 = .int .i64 x4_1 ∧ Aside0 (bobstayref04_bare.l0 kq a0 (⟨#[95, 46, 47, 43, 45, 44, 58, 61, 64, 37]⟩ : ByteArray) x4_1 = some r) ∧ Aside0 (kq ≤ k) ∧ Drawn0 w w')
              case atStart => exact ⟨(0), (by first | rfl | (simp; done) | (simp [*]; done)), H', ⟨Nat.le_refl _⟩, by repeat (first | exact Drawn0.refl _ | apply Drawn0.step)⟩
              case round =>
                clear H'
                try clear c2
                try clear c2b0
                try clear p2
                try clear c3
                try clear c3b0
                try clear c4
                try clear c4b0
                try clear c5
                try clear c5b0
                try clear c6
                try clear c6b0
                try clear c7
                try clear c7b0
                obtain ⟨x4_1, rfl, HA, HK1, ⟨m1, rfl⟩⟩ := hrel
                cases gk with
                | zero => exact absurd HA.out (by simp [bobstayref04_bare.l0])
                | succ k1 =>
                  have H := HA.out
                  clear HA
                  simp only [bobstayref04_bare.l0] at H
                  by_cases c8 : x4_1 < ((⟨#[95, 46, 47, 43, 45, 44, 58, 61, 64, 37]⟩ : ByteArray).size : Int)
                  · rw [if_pos c8] at H
                    have c8b0 : decide (x4_1 < ((⟨#[95, 46, 47, 43, 45, 44, 58, 61, 64, 37]⟩ : ByteArray).size : Int)) = true := decide_eq_true c8
                    have c8b8 : decide (x4_1 < (10 : Int)) = true := c8b0
                    clear c8
                    by_cases c9 : 0 ≤ x4_1
                    · rw [if_pos c9] at H
                      have c9b0 : decide (0 ≤ x4_1) = true := decide_eq_true c9
                      clear c9
                      by_cases c11 : (bt (⟨#[95, 46, 47, 43, 45, 44, 58, 61, 64, 37]⟩ : ByteArray) x4_1) = a0
                      · rw [if_pos c11] at H
                        have c11b0 : ((bt (⟨#[95, 46, 47, 43, 45, 44, 58, 61, 64, 37]⟩ : ByteArray) x4_1) == a0) = true := beq_iff_eq.mpr c11
                        have c11b1 : ((bt (⟨#[95, 46, 47, 43, 45, 44, 58, 61, 64, 37]⟩ : ByteArray) x4_1) != a0) = false := bne_eq_false_iff_eq.mpr c11
                        clear c11
                        obtain rfl := Option.some.inj H
                        have p10 : 0 ≤ (x4_1 : Int) := of_decide_eq_true (by first | (with_reducible assumption) | assumption)
                        have q10 : x4_1 < (10 : Int) := of_decide_eq_true (by first | (with_reducible assumption) | assumption)
                        have hx10 := bt_at (⟨#[95, 46, 47, 43, 45, 44, 58, 61, 64, 37]⟩ : ByteArray) x4_1
                        replace p10 := eq_true p10
                        replace q10 := eq_true q10
                        go_wp2
                        go_ret
                        exact ⟨by first | rfl | (simp; done) | (simp [*]; done), by repeat (first | exact Drawn0.refl _ | apply Drawn0.step)⟩
                      · rw [if_neg c11] at H
                        have c11b0 : ((bt (⟨#[95, 46, 47, 43, 45, 44, 58, 61, 64, 37]⟩ : ByteArray) x4_1) == a0) = false := beq_eq_false_iff_ne.mpr c11
                        have c11b1 : ((bt (⟨#[95, 46, 47, 43, 45, 44, 58, 61, 64, 37]⟩ : ByteArray) x4_1) != a0) = true := bne_iff_ne.mpr c11
                        have H' := Aside0.mk H
                        clear H
                        have p10 : 0 ≤ (x4_1 : Int) := of_decide_eq_true (by first | (with_reducible assumption) | assumption)
                        have q10 : x4_1 < (10 : Int) := of_decide_eq_true (by first | (with_reducible assumption) | assumption)
                        have hx10 := bt_at (⟨#[95, 46, 47, 43, 45, 44, 58, 61, 64, 37]⟩ : ByteArray) x4_1
                        replace p10 := eq_true p10
                        replace q10 := eq_true q10
                        go_wp2
                        go_roundg k1
                        case measure => have := HK1.out; omega
                        case rel => exact ⟨(wrap64 (x4_1 + 1)), (by first | rfl | (simp; done) | (simp [*]; done)), H', ⟨by have := HK1.out; omega⟩, by repeat (first | exact Drawn0.refl _ | apply Drawn0.step)⟩
                    · rw [if_neg c9] at H
                      exact absurd H (by simp)
                  · rw [if_neg c8] at H
                    have c8b0 : decide (x4_1 < ((⟨#[95, 46, 47, 43, 45, 44, 58, 61, 64, 37]⟩ : ByteArray).size : Int)) = false := decide_eq_false c8
                    have c8b8 : decide (x4_1 < (10 : Int)) = false := c8b0
                    clear c8
                    obtain rfl := Option.some.inj H
                    go_wp2
                    go_ret
                    exact ⟨by first | rfl | (simp; done) | (simp [*]; done), by repeat (first | exact Drawn0.refl _ | apply Drawn0.step)⟩
          · rw [if_neg c6] at H
            have c6b0 : decide (48 ≤ a0) = false := decide_eq_false c6
            clear c6
            have H' := Aside0.mk H
            clear H
            go_enter Tryd.func30, Tryd.ntmps30
            go_wp2
            go_loopg [4] k (fun kq v4 w' => ∃ (x4_1 : Int), v4 = .int .i64 x4_1 ∧ Aside0 (bobstayref04_bare.l0 kq a0 (⟨#[95, 46, 47, 43, 45, 44, 58, 61, 64, 37]⟩ : ByteArray) x4_1 = some r) ∧ Aside0 (kq ≤ k) ∧ Drawn0 w w')
            case atStart => exact ⟨(0), (by first | rfl | (simp; done) | (simp [*]; done)), H', ⟨Nat.le_refl _⟩, by repeat (first | exact Drawn0.refl _ | apply Drawn0.step)⟩
            case round =>
              clear H'
              try clear c1
              try clear p1
              try clear q1
              try clear hx1
              try clear c2
              try clear c2b0
              try clear p2
              try clear c3
              try clear c3b0
              try clear c4
              try clear c4b0
              try clear c5
              try clear c5b0
              try clear c6
              try clear c6b0
              try clear p6
              try clear c7
              try clear c7b0
              try clear c8
              try clear c8b0
              try clear c9
              try clear c9b0
              try clear p10
              try clear q10
              try clear hx10
              try clear c11
              try clear c11b0
              try clear c11b1
              try clear p10
              try clear p2
              try clear q10
              obtain ⟨x4_1, rfl, HA, HK1, ⟨m1, rfl⟩⟩ := hrel
              cases gk with
              | zero => exact absurd HA.out (by simp [bobstayref04_bare.l0])
              | succ k1 =>
                have H := HA.out
                clear HA
                simp only [bobstayref04_bare.l0] at H
                by_cases c12 : x4_1 < ((⟨#[95, 46, 47, 43, 45, 44, 58, 61, 64, 37]⟩ : ByteArray).size : Int)
                · rw [if_pos c12] at H
                  have c12b0 : decide (x4_1 < ((⟨#[95, 46, 47, 43, 45, 44, 58, 61, 64, 37]⟩ : ByteArray).size : Int)) = true := decide_eq_true c12
                  have c12b8 : decide (x4_1 < (10 : Int)) = true := c12b0
                  clear c12
                  by_cases c13 : 0 ≤ x4_1
                  · rw [if_pos c13] at H
                    have c13b0 : decide (0 ≤ x4_1) = true := decide_eq_true c13
                    clear c13
                    by_cases c15 : (bt (⟨#[95, 46, 47, 43, 45, 44, 58, 61, 64, 37]⟩ : ByteArray) x4_1) = a0
                    · rw [if_pos c15] at H
                      have c15b0 : ((bt (⟨#[95, 46, 47, 43, 45, 44, 58, 61, 64, 37]⟩ : ByteArray) x4_1) == a0) = true := beq_iff_eq.mpr c15
                      have c15b1 : ((bt (⟨#[95, 46, 47, 43, 45, 44, 58, 61, 64, 37]⟩ : ByteArray) x4_1) != a0) = false := bne_eq_false_iff_eq.mpr c15
                      clear c15
                      obtain rfl := Option.some.inj H
                      have p14 : 0 ≤ (x4_1 : Int) := of_decide_eq_true (by first | (with_reducible assumption) | assumption)
                      have q14 : x4_1 < (10 : Int) := of_decide_eq_true (by first | (with_reducible assumption) | assumption)
                      have hx14 := bt_at (⟨#[95, 46, 47, 43, 45, 44, 58, 61, 64, 37]⟩ : ByteArray) x4_1
                      replace p14 := eq_true p14
                      replace q14 := eq_true q14
                      go_wp2
                      go_ret
                      exact ⟨by first | rfl | (simp; done) | (simp [*]; done), by repeat (first | exact Drawn0.refl _ | apply Drawn0.step)⟩
                    · rw [if_neg c15] at H
                      have c15b0 : ((bt (⟨#[95, 46, 47, 43, 45, 44, 58, 61, 64, 37]⟩ : ByteArray) x4_1) == a0) = false := beq_eq_false_iff_ne.mpr c15
                      have c15b1 : ((bt (⟨#[95, 46, 47, 43, 45, 44, 58, 61, 64, 37]⟩ : ByteArray) x4_1) != a0) = true := bne_iff_ne.mpr c15
                      have H' := Aside0.mk H
                      clear H
                      have p14 : 0 ≤ (x4_1 : Int) := of_decide_eq_true (by first | (with_reducible assumption) | assumption)
                      have q14 : x4_1 < (10 : Int) := of_decide_eq_true (by first | (with_reducible assumption) | assumption)
                      have hx14 := bt_at (⟨#[95, 46, 47, 43, 45, 44, 58, 61, 64, 37]⟩ : ByteArray) x4_1
                      replace p14 := eq_true p14
                      replace q14 := eq_true q14
                      go_wp2
                      go_roundg k1
                      case measure => have := HK1.out; omega
                      case rel => exact ⟨(wrap64 (x4_1 + 1)), (by first | rfl | (simp; done) | (simp [*]; done)), H', ⟨by have := HK1.out; omega⟩, by repeat (first | exact Drawn0.refl _ | apply Drawn0.step)⟩
                  · rw [if_neg c13] at H
                    exact absurd H (by simp)
                · rw [if_neg c12] at H
                  have c12b0 : decide (x4_1 < ((⟨#[95, 46, 47, 43, 45, 44, 58, 61, 64, 37]⟩ : ByteArray).size : Int)) = false := decide_eq_false c12
                  have c12b8 : decide (x4_1 < (10 : Int)) = false := c12b0
                  clear c12
                  obtain rfl := Option.some.inj H
                  go_wp2
                  go_ret
                  exact ⟨by first | rfl | (simp; done) | (simp [*]; done), by repeat (first | exact Drawn0.refl _ | apply Drawn0.step)⟩
      · rw [if_neg c4] at H
        have c4b0 : decide (65 ≤ a0) = false := decide_eq_false c4
        clear c4
        by_cases c16 : a0 ≥ 48
        · rw [if_pos c16] at H
          have c16b0 : decide (48 ≤ a0) = true := decide_eq_true c16
          clear c16
          by_cases c17 : a0 ≤ 57
          · rw [if_pos c17] at H
            have c17b0 : decide (a0 ≤ 57) = true := decide_eq_true c17
            clear c17
            obtain rfl := Option.some.inj H
            go_enter Tryd.func30, Tryd.ntmps30
            go_wp2
            go_ret
            exact ⟨by first | rfl | (simp; done) | (simp [*]; done), by repeat (first | exact Drawn0.refl _ | apply Drawn0.step)⟩
          · rw [if_neg c17] at H
            have c17b0 : decide (a0 ≤ 57) = false := decide_eq_false c17
            clear c17
            have H' := Aside0.mk H
            clear H
            go_enter Tryd.func30, Tryd.ntmps30
            go_wp2
            go_loopg [4] k (fun kq v4 w' => ∃ (x4_1 : Int), v4 = .int .i64 x4_1 ∧ Aside0 (bobstayref04_bare.l0 kq a0 (⟨#[95, 46, 47, 43, 45, 44, 58, 61, 64, 37]⟩ : ByteArray) x4_1 = some r) ∧ Aside0 (kq ≤ k) ∧ Drawn0 w w')
            case atStart => exact ⟨(0), (by first | rfl | (simp; done) | (simp [*]; done)), H', ⟨Nat.le_refl _⟩, by repeat (first | exact Drawn0.refl _ | apply Drawn0.step)⟩
            case round =>
              clear H'
              try clear c1
              try clear p1
              try clear q1
              try clear hx1
              try clear c2
              try clear c2b0
              try clear p2
              try clear c3
              try clear c3b0
              try clear c4
              try clear c4b0
              try clear c5
              try clear c5b0
              try clear c6
              try clear c6b0
              try clear p6
              try clear c7
              try clear c7b0
              try clear c8
              try clear c8b0
              try clear c9
              try clear c9b0
              try clear p10
              try clear q10
              try clear hx10
              try clear c11
              try clear c11b0
              try clear c11b1
              try clear c12
              try clear c12b0
              try clear c13
              try clear c13b0
              try clear p14
              try clear q14
              try clear hx14
              try clear c15
              try clear c15b0
              try clear c15b1
              try clear c16
              try clear c16b0
              try clear c17
              try clear c17b0
              try clear p1
              try clear p10
              try clear p14
              try clear p2
              try clear p6
              try clear q1
              try clear q10
              try clear q14
              obtain ⟨x4_1, rfl, HA, HK1, ⟨m1, rfl⟩⟩ := hrel
              cases gk with
              | zero => exact absurd HA.out (by simp [bobstayref04_bare.l0])
              | succ k1 =>
                have H := HA.out
                clear HA
                simp only [bobstayref04_bare.l0] at H
                by_cases c18 : x4_1 < ((⟨#[95, 46, 47, 43, 45, 44, 58, 61, 64, 37]⟩ : ByteArray).size : Int)
                · rw [if_pos c18] at H
                  have c18b0 : decide (x4_1 < ((⟨#[95, 46, 47, 43, 45, 44, 58, 61, 64, 37]⟩ : ByteArray).size : Int)) = true := decide_eq_true c18
                  have c18b8 : decide (x4_1 < (10 : Int)) = true := c18b0
                  clear c18
                  by_cases c19 : 0 ≤ x4_1
                  · rw [if_pos c19] at H
                    have c19b0 : decide (0 ≤ x4_1) = true := decide_eq_true c19
                    clear c19
                    by_cases c21 : (bt (⟨#[95, 46, 47, 43, 45, 44, 58, 61, 64, 37]⟩ : ByteArray) x4_1) = a0
                    · rw [if_pos c21] at H
                      have c21b0 : ((bt (⟨#[95, 46, 47, 43, 45, 44, 58, 61, 64, 37]⟩ : ByteArray) x4_1) == a0) = true := beq_iff_eq.mpr c21
                      have c21b1 : ((bt (⟨#[95, 46, 47, 43, 45, 44, 58, 61, 64, 37]⟩ : ByteArray) x4_1) != a0) = false := bne_eq_false_iff_eq.mpr c21
                      clear c21
                      obtain rfl := Option.some.inj H
                      have p20 : 0 ≤ (x4_1 : Int) := of_decide_eq_true (by first | (with_reducible assumption) | assumption)
                      have q20 : x4_1 < (10 : Int) := of_decide_eq_true (by first | (with_reducible assumption) | assumption)
                      have hx20 := bt_at (⟨#[95, 46, 47, 43, 45, 44, 58, 61, 64, 37]⟩ : ByteArray) x4_1
                      replace p20 := eq_true p20
                      replace q20 := eq_true q20
                      go_wp2
                      go_ret
                      exact ⟨by first | rfl | (simp; done) | (simp [*]; done), by repeat (first | exact Drawn0.refl _ | apply Drawn0.step)⟩
                    · rw [if_neg c21] at H
                      have c21b0 : ((bt (⟨#[95, 46, 47, 43, 45, 44, 58, 61, 64, 37]⟩ : ByteArray) x4_1) == a0) = false := beq_eq_false_iff_ne.mpr c21
                      have c21b1 : ((bt (⟨#[95, 46, 47, 43, 45, 44, 58, 61, 64, 37]⟩ : ByteArray) x4_1) != a0) = true := bne_iff_ne.mpr c21
                      have H' := Aside0.mk H
                      clear H
                      have p20 : 0 ≤ (x4_1 : Int) := of_decide_eq_true (by first | (with_reducible assumption) | assumption)
                      have q20 : x4_1 < (10 : Int) := of_decide_eq_true (by first | (with_reducible assumption) | assumption)
                      have hx20 := bt_at (⟨#[95, 46, 47, 43, 45, 44, 58, 61, 64, 37]⟩ : ByteArray) x4_1
                      replace p20 := eq_true p20
                      replace q20 := eq_true q20
                      go_wp2
                      go_roundg k1
                      case measure => have := HK1.out; omega
                      case rel => exact ⟨(wrap64 (x4_1 + 1)), (by first | rfl | (simp; done) | (simp [*]; done)), H', ⟨by have := HK1.out; omega⟩, by repeat (first | exact Drawn0.refl _ | apply Drawn0.step)⟩
                  · rw [if_neg c19] at H
                    exact absurd H (by simp)
                · rw [if_neg c18] at H
                  have c18b0 : decide (x4_1 < ((⟨#[95, 46, 47, 43, 45, 44, 58, 61, 64, 37]⟩ : ByteArray).size : Int)) = false := decide_eq_false c18
                  have c18b8 : decide (x4_1 < (10 : Int)) = false := c18b0
                  clear c18
                  obtain rfl := Option.some.inj H
                  go_wp2
                  go_ret
                  exact ⟨by first | rfl | (simp; done) | (simp [*]; done), by repeat (first | exact Drawn0.refl _ | apply Drawn0.step)⟩
        · rw [if_neg c16] at H
          have c16b0 : decide (48 ≤ a0) = false := decide_eq_false c16
          clear c16
          have H' := Aside0.mk H
          clear H
          go_enter Tryd.func30, Tryd.ntmps30
          go_wp2
          go_loopg [4] k (fun kq v4 w' => ∃ (x4_1 : Int), v4 = .int .i64 x4_1 ∧ Aside0 (bobstayref04_bare.l0 kq a0 (⟨#[95, 46, 47, 43, 45, 44, 58, 61, 64, 37]⟩ : ByteArray) x4_1 = some r) ∧ Aside0 (kq ≤ k) ∧ Drawn0 w w')
          case atStart => exact ⟨(0), (by first | rfl | (simp; done) | (simp [*]; done)), H', ⟨Nat.le_refl _⟩, by repeat (first | exact Drawn0.refl _ | apply Drawn0.step)⟩
          case round =>
            clear H'
            try clear c1
            try clear p1
            try clear q1
            try clear hx1
            try clear c2
            try clear c2b0
            try clear p2
            try clear q2
            try clear hx2
            try clear c3
            try clear c3b0
            try clear c4
            try clear c4b0
            try clear c5
            try clear c5b0
            try clear c6
            try clear c6b0
            try clear p6
            try clear c7
            try clear c7b0
            try clear c8
            try clear c8b0
            try clear c9
            try clear c9b0
            try clear p10
            try clear q10
            try clear hx10
            try clear c11
            try clear c11b0
            try clear c11b1
            try clear c12
            try clear c12b0
            try clear c13
            try clear c13b0
            try clear p14
            try clear q14
            try clear hx14
            try clear c15
            try clear c15b0
            try clear c15b1
            try clear c16
            try clear c16b0
            try clear c17
            try clear c17b0
            try clear c18
            try clear c18b0
            try clear c19
            try clear c19b0
            try clear p20
            try clear q20
            try clear hx20
            try clear c21
            try clear c21b0
            try clear c21b1
            try clear p1
            try clear p10
            try clear p14
            try clear p2
            try clear p20
            try clear p6
            try clear q1
            try clear q10
            try clear q14
            try clear q20
            obtain ⟨x4_1, rfl, HA, HK1, ⟨m1, rfl⟩⟩ := hrel
            cases gk with
            | zero => exact absurd HA.out (by simp [bobstayref04_bare.l0])
            | succ k1 =>
              have H := HA.out
              clear HA
              simp only [bobstayref04_bare.l0] at H
              by_cases c22 : x4_1 < ((⟨#[95, 46, 47, 43, 45, 44, 58, 61, 64, 37]⟩ : ByteArray).size : Int)
              · rw [if_pos c22] at H
                have c22b0 : decide (x4_1 < ((⟨#[95, 46, 47, 43, 45, 44, 58, 61, 64, 37]⟩ : ByteArray).size : Int)) = true := decide_eq_true c22
                have c22b8 : decide (x4_1 < (10 : Int)) = true := c22b0
                clear c22
                by_cases c23 : 0 ≤ x4_1
                · rw [if_pos c23] at H
                  have c23b0 : decide (0 ≤ x4_1) = true := decide_eq_true c23
                  clear c23
                  by_cases c25 : (bt (⟨#[95, 46, 47, 43, 45, 44, 58, 61, 64, 37]⟩ : ByteArray) x4_1) = a0
                  · rw [if_pos c25] at H
                    have c25b0 : ((bt (⟨#[95, 46, 47, 43, 45, 44, 58, 61, 64, 37]⟩ : ByteArray) x4_1) == a0) = true := beq_iff_eq.mpr c25
                    have c25b1 : ((bt (⟨#[95, 46, 47, 43, 45, 44, 58, 61, 64, 37]⟩ : ByteArray) x4_1) != a0) = false := bne_eq_false_iff_eq.mpr c25
                    clear c25
                    obtain rfl := Option.some.inj H
                    have p24 : 0 ≤ (x4_1 : Int) := of_decide_eq_true (by first | (with_reducible assumption) | assumption)
                    have q24 : x4_1 < (10 : Int) := of_decide_eq_true (by first | (with_reducible assumption) | assumption)
                    have hx24 := bt_at (⟨#[95, 46, 47, 43, 45, 44, 58, 61, 64, 37]⟩ : ByteArray) x4_1
                    replace p24 := eq_true p24
                    replace q24 := eq_true q24
                    go_wp2
                    go_ret
                    exact ⟨by first | rfl | (simp; done) | (simp [*]; done), by repeat (first | exact Drawn0.refl _ | apply Drawn0.step)⟩
                  · rw [if_neg c25] at H
                    have c25b0 : ((bt (⟨#[95, 46, 47, 43, 45, 44, 58, 61, 64, 37]⟩ : ByteArray) x4_1) == a0) = false := beq_eq_false_iff_ne.mpr c25
                    have c25b1 : ((bt (⟨#[95, 46, 47, 43, 45, 44, 58, 61, 64, 37]⟩ : ByteArray) x4_1) != a0) = true := bne_iff_ne.mpr c25
                    have H' := Aside0.mk H
                    clear H
                    have p24 : 0 ≤ (x4_1 : Int) := of_decide_eq_true (by first | (with_reducible assumption) | assumption)
                    have q24 : x4_1 < (10 : Int) := of_decide_eq_true (by first | (with_reducible assumption) | assumption)
                    have hx24 := bt_at (⟨#[95, 46, 47, 43, 45, 44, 58, 61, 64, 37]⟩ : ByteArray) x4_1
                    replace p24 := eq_true p24
                    replace q24 := eq_true q24
                    go_wp2
                    go_roundg k1
                    case measure => have := HK1.out; omega
                    case rel => exact ⟨(wrap64 (x4_1 + 1)), (by first | rfl | (simp; done) | (simp [*]; done)), H', ⟨by have := HK1.out; omega⟩, by repeat (first | exact Drawn0.refl _ | apply Drawn0.step)⟩
                · rw [if_neg c23] at H
                  exact absurd H (by simp)
              · rw [if_neg c22] at H
                have c22b0 : decide (x4_1 < ((⟨#[95, 46, 47, 43, 45, 44, 58, 61, 64, 37]⟩ : ByteArray).size : Int)) = false := decide_eq_false c22
                have c22b8 : decide (x4_1 < (10 : Int)) = false := c22b0
                clear c22
                obtain rfl := Option.some.inj H
                go_wp2
                go_ret
                exact ⟨by first | rfl | (simp; done) | (simp [*]; done), by repeat (first | exact Drawn0.refl _ | apply Drawn0.step)⟩
  · rw [if_neg c2] at H
    have c2b0 : decide (97 ≤ a0) = false := decide_eq_false c2
    clear c2
    by_cases c26 : a0 ≥ 65
    · rw [if_pos c26] at H
      have c26b0 : decide (65 ≤ a0) = true := decide_eq_true c26
      clear c26
      by_cases c27 : a0 ≤ 90
      · rw [if_pos c27] at H
        have c27b0 : decide (a0 ≤ 90) = true := decide_eq_true c27
        clear c27
        obtain rfl := Option.some.inj H
        go_enter Tryd.func30, Tryd.ntmps30
        go_wp2
        go_ret
        exact ⟨by first | rfl | (simp; done) | (simp [*]; done), by repeat (first | exact Drawn0.refl _ | apply Drawn0.step)⟩
      · rw [if_neg c27] at H
        have c27b0 : decide (a0 ≤ 90) = false := decide_eq_false c27
        clear c27
        by_cases c28 : a0 ≥ 48
        · rw [if_pos c28] at H
          have c28b0 : decide (48 ≤ a0) = true := decide_eq_true c28
          clear c28
          by_cases c29 : a0 ≤ 57
          · rw [if_pos c29] at H
            have c29b0 : decide (a0 ≤ 57) = true := decide_eq_true c29
            clear c29
            obtain rfl := Option.some.inj H
            go_enter Tryd.func30, Tryd.ntmps30
            go_wp2
            go_ret
            exact ⟨by first | rfl | (simp; done) | (simp [*]; done), by repeat (first | exact Drawn0.refl _ | apply Drawn0.step)⟩
          · rw [if_neg c29] at H
            have c29b0 : decide (a0 ≤ 57) = false := decide_eq_false c29
            clear c29
            have H' := Aside0.mk H
            clear H
            go_enter Tryd.func30, Tryd.ntmps30
            go_wp2
            go_loopg [4] k (fun kq v4 w' => ∃ (x4_1 : Int), v4 = .int .i64 x4_1 ∧ Aside0 (bobstayref04_bare.l0 kq a0 (⟨#[95, 46, 47, 43, 45, 44, 58, 61, 64, 37]⟩ : ByteArray) x4_1 = some r) ∧ Aside0 (kq ≤ k) ∧ Drawn0 w w')
            case atStart => exact ⟨(0), (by first | rfl | (simp; done) | (simp [*]; done)), H', ⟨Nat.le_refl _⟩, by repeat (first | exact Drawn0.refl _ | apply Drawn0.step)⟩
            case round =>
              clear H'
              try clear c1
              try clear p1
              try clear q1
              try clear hx1
              try clear c2
              try clear c2b0
              try clear p2
              try clear q2
              try clear hx2
              try clear c3
              try clear c3b0
              try clear c4
              try clear c4b0
              try clear c5
              try clear c5b0
              try clear c6
              try clear c6b0
              try clear p6
              try clear c7
              try clear c7b0
              try clear c8
              try clear c8b0
              try clear c9
              try clear c9b0
              try clear p10
              try clear q10
              try clear hx10
              try clear c11
              try clear c11b0
              try clear c11b1
              try clear c12
              try clear c12b0
              try clear c13
              try clear c13b0
              try clear p14
              try clear q14
              try clear hx14
              try clear c15
              try clear c15b0
              try clear c15b1
              try clear c16
              try clear c16b0
              try clear c17
              try clear c17b0
              try clear c18
              try clear c18b0
              try clear c19
              try clear c19b0
              try clear p20
              try clear q20
              try clear hx20
              try clear c21
              try clear c21b0
              try clear c21b1
              try clear c22
              try clear c22b0
              try clear c23
              try clear c23b0
              try clear p24
              try clear q24
              try clear hx24
              try clear c25
              try clear c25b0
              try clear c25b1
              try clear c26
              try clear c26b0
              try clear c27
              try clear c27b0
              try clear c28
              try clear c28b0
              try clear c29
              try clear c29b0
              try clear p1
              try clear p10
              try clear p14
              try clear p2
              try clear p20
              try clear p24
              try clear p6
              try clear q1
              try clear q10
              try clear q14
              try clear q2
              try clear q20
              try clear q24
              obtain ⟨x4_1, rfl, HA, HK1, ⟨m1, rfl⟩⟩ := hrel
              cases gk with
              | zero => exact absurd HA.out (by simp [bobstayref04_bare.l0])
              | succ k1 =>
                have H := HA.out
                clear HA
                simp only [bobstayref04_bare.l0] at H
                by_cases c30 : x4_1 < ((⟨#[95, 46, 47, 43, 45, 44, 58, 61, 64, 37]⟩ : ByteArray).size : Int)
                · rw [if_pos c30] at H
                  have c30b0 : decide (x4_1 < ((⟨#[95, 46, 47, 43, 45, 44, 58, 61, 64, 37]⟩ : ByteArray).size : Int)) = true := decide_eq_true c30
                  have c30b8 : decide (x4_1 < (10 : Int)) = true := c30b0
                  clear c30
                  by_cases c31 : 0 ≤ x4_1
                  · rw [if_pos c31] at H
                    have c31b0 : decide (0 ≤ x4_1) = true := decide_eq_true c31
                    clear c31
                    by_cases c33 : (bt (⟨#[95, 46, 47, 43, 45, 44, 58, 61, 64, 37]⟩ : ByteArray) x4_1) = a0
                    · rw [if_pos c33] at H
                      have c33b0 : ((bt (⟨#[95, 46, 47, 43, 45, 44, 58, 61, 64, 37]⟩ : ByteArray) x4_1) == a0) = true := beq_iff_eq.mpr c33
                      have c33b1 : ((bt (⟨#[95, 46, 47, 43, 45, 44, 58, 61, 64, 37]⟩ : ByteArray) x4_1) != a0) = false := bne_eq_false_iff_eq.mpr c33
                      clear c33
                      obtain rfl := Option.some.inj H
                      have p32 : 0 ≤ (x4_1 : Int) := of_decide_eq_true (by first | (with_reducible assumption) | assumption)
                      have q32 : x4_1 < (10 : Int) := of_decide_eq_true (by first | (with_reducible assumption) | assumption)
                      have hx32 := bt_at (⟨#[95, 46, 47, 43, 45, 44, 58, 61, 64, 37]⟩ : ByteArray) x4_1
                      replace p32 := eq_true p32
                      replace q32 := eq_true q32
                      go_wp2
                      go_ret
                      exact ⟨by first | rfl | (simp; done) | (simp [*]; done), by repeat (first | exact Drawn0.refl _ | apply Drawn0.step)⟩
                    · rw [if_neg c33] at H
                      have c33b0 : ((bt (⟨#[95, 46, 47, 43, 45, 44, 58, 61, 64, 37]⟩ : ByteArray) x4_1) == a0) = false := beq_eq_false_iff_ne.mpr c33
                      have c33b1 : ((bt (⟨#[95, 46, 47, 43, 45, 44, 58, 61, 64, 37]⟩ : ByteArray) x4_1) != a0) = true := bne_iff_ne.mpr c33
                      have H' := Aside0.mk H
                      clear H
                      have p32 : 0 ≤ (x4_1 : Int) := of_decide_eq_true (by first | (with_reducible assumption) | assumption)
                      have q32 : x4_1 < (10 : Int) := of_decide_eq_true (by first | (with_reducible assumption) | assumption)
                      have hx32 := bt_at (⟨#[95, 46, 47, 43, 45, 44, 58, 61, 64, 37]⟩ : ByteArray) x4_1
                      replace p32 := eq_true p32
                      replace q32 := eq_true q32
                      go_wp2
                      go_roundg k1
                      case measure => have := HK1.out; omega
                      case rel => exact ⟨(wrap64 (x4_1 + 1)), (by first | rfl | (simp; done) | (simp [*]; done)), H', ⟨by have := HK1.out; omega⟩, by repeat (first | exact Drawn0.refl _ | apply Drawn0.step)⟩
                  · rw [if_neg c31] at H
                    exact absurd H (by simp)
                · rw [if_neg c30] at H
                  have c30b0 : decide (x4_1 < ((⟨#[95, 46, 47, 43, 45, 44, 58, 61, 64, 37]⟩ : ByteArray).size : Int)) = false := decide_eq_false c30
                  have c30b8 : decide (x4_1 < (10 : Int)) = false := c30b0
                  clear c30
                  obtain rfl := Option.some.inj H
                  go_wp2
                  go_ret
                  exact ⟨by first | rfl | (simp; done) | (simp [*]; done), by repeat (first | exact Drawn0.refl _ | apply Drawn0.step)⟩
        · rw [if_neg c28] at H
          have c28b0 : decide (48 ≤ a0) = false := decide_eq_false c28
          clear c28
          have H' := Aside0.mk H
          clear H
          go_enter Tryd.func30, Tryd.ntmps30
          go_wp2
          go_loopg [4] k (fun kq v4 w' => ∃ (x4_1 : Int), v4 = .int .i64 x4_1 ∧ Aside0 (bobstayref04_bare.l0 kq a0 (⟨#[95, 46, 47, 43, 45, 44, 58, 61, 64, 37]⟩ : ByteArray) x4_1 = some r) ∧ Aside0 (kq ≤ k) ∧ Drawn0 w w')
          case atStart => exact ⟨(0), (by first | rfl | (simp; done) | (simp [*]; done)), H', ⟨Nat.le_refl _⟩, by repeat (first | exact Drawn0.refl _ | apply Drawn0.step)⟩
          case round =>
            clear H'
            try clear c1
            try clear p1
            try clear q1
            try clear hx1
            try clear c2
            try clear c2b0
            try clear p2
            try clear q2
            try clear hx2
            try clear c3
            try clear c3b0
            try clear p3
            try clear q3
            try clear hx3
            try clear c4
            try clear c4b0
            try clear c5
            try clear c5b0
            try clear c6
            try clear c6b0
            try clear p6
            try clear c7
            try clear c7b0
            try clear c8
            try clear c8b0
            try clear c9
            try clear c9b0
            try clear p10
            try clear q10
            try clear hx10
            try clear c11
            try clear c11b0
            try clear c11b1
            try clear c12
            try clear c12b0
            try clear c13
            try clear c13b0
            try clear p14
            try clear q14
            try clear hx14
            try clear c15
            try clear c15b0
            try clear c15b1
            try clear c16
            try clear c16b0
            try clear c17
            try clear c17b0
            try clear c18
            try clear c18b0
            try clear c19
            try clear c19b0
            try clear p20
            try clear q20
            try clear hx20
            try clear c21
            try clear c21b0
            try clear c21b1
            try clear c22
            try clear c22b0
            try clear c23
            try clear c23b0
            try clear p24
            try clear q24
            try clear hx24
            try clear c25
            try clear c25b0
            try clear c25b1
            try clear c26
            try clear c26b0
            try clear c27
            try clear c27b0
            try clear c28
            try clear c28b0
            try clear c29
            try clear c29b0
            try clear c30
            try clear c30b0
            try clear c31
            try clear c31b0
            try clear p32
            try clear q32
            try clear hx32
            try clear c33
            try clear c33b0
            try clear c33b1
            try clear p1
            try clear p10
            try clear p14
            try clear p2
            try clear p20
            try clear p24
            try clear p32
            try clear p6
            try clear q1
            try clear q10
            try clear q14
            try clear q2
            try clear q20
            try clear q24
            try clear q32
            obtain ⟨x4_1, rfl, HA, HK1, ⟨m1, rfl⟩⟩ := hrel
            cases gk with
            | zero => exact absurd HA.out (by simp [bobstayref04_bare.l0])
            | succ k1 =>
              have H := HA.out
              clear HA
              simp only [bobstayref04_bare.l0] at H
              by_cases c34 : x4_1 < ((⟨#[95, 46, 47, 43, 45, 44, 58, 61, 64, 37]⟩ : ByteArray).size : Int)
              · rw [if_pos c34] at H
                have c34b0 : decide (x4_1 < ((⟨#[95, 46, 47, 43, 45, 44, 58, 61, 64, 37]⟩ : ByteArray).size : Int)) = true := decide_eq_true c34
                have c34b8 : decide (x4_1 < (10 : Int)) = true := c34b0
                clear c34
                by_cases c35 : 0 ≤ x4_1
                · rw [if_pos c35] at H
                  have c35b0 : decide (0 ≤ x4_1) = true := decide_eq_true c35
                  clear c35
                  by_cases c37 : (bt (⟨#[95, 46, 47, 43, 45, 44, 58, 61, 64, 37]⟩ : ByteArray) x4_1) = a0
                  · rw [if_pos c37] at H
                    have c37b0 : ((bt (⟨#[95, 46, 47, 43, 45, 44, 58, 61, 64, 37]⟩ : ByteArray) x4_1) == a0) = true := beq_iff_eq.mpr c37
                    have c37b1 : ((bt (⟨#[95, 46, 47, 43, 45, 44, 58, 61, 64, 37]⟩ : ByteArray) x4_1) != a0) = false := bne_eq_false_iff_eq.mpr c37
                    clear c37
                    obtain rfl := Option.some.inj H
                    have p36 : 0 ≤ (x4_1 : Int) := of_decide_eq_true (by first | (with_reducible assumption) | assumption)
                    have q36 : x4_1 < (10 : Int) := of_decide_eq_true (by first | (with_reducible assumption) | assumption)
                    have hx36 := bt_at (⟨#[95, 46, 47, 43, 45, 44, 58, 61, 64, 37]⟩ : ByteArray) x4_1
                    replace p36 := eq_true p36
                    replace q36 := eq_true q36
                    go_wp2
                    go_ret
                    exact ⟨by first | rfl | (simp; done) | (simp [*]; done), by repeat (first | exact Drawn0.refl _ | apply Drawn0.step)⟩
                  · rw [if_neg c37] at H
                    have c37b0 : ((bt (⟨#[95, 46, 47, 43, 45, 44, 58, 61, 64, 37]⟩ : ByteArray) x4_1) == a0) = false := beq_eq_false_iff_ne.mpr c37
                    have c37b1 : ((bt (⟨#[95, 46, 47, 43, 45, 44, 58, 61, 64, 37]⟩ : ByteArray) x4_1) != a0) = true := bne_iff_ne.mpr c37
                    have H' := Aside0.mk H
                    clear H
                    have p36 : 0 ≤ (x4_1 : Int) := of_decide_eq_true (by first | (with_reducible assumption) | assumption)
                    have q36 : x4_1 < (10 : Int) := of_decide_eq_true (by first | (with_reducible assumption) | assumption)
                    have hx36 := bt_at (⟨#[95, 46, 47, 43, 45, 44, 58, 61, 64, 37]⟩ : ByteArray) x4_1
                    replace p36 := eq_true p36
                    replace q36 := eq_true q36
                    go_wp2
                    go_roundg k1
                    case measure => have := HK1.out; omega
                    case rel => exact ⟨(wrap64 (x4_1 + 1)), (by first | rfl | (simp; done) | (simp [*]; done)), H', ⟨by have := HK1.out; omega⟩, by repeat (first | exact Drawn0.refl _ | apply Drawn0.step)⟩
                · rw [if_neg c35] at H
                  exact absurd H (by simp)
              · rw [if_neg c34] at H
                have c34b0 : decide (x4_1 < ((⟨#[95, 46, 47, 43, 45, 44, 58, 61, 64, 37]⟩ : ByteArray).size : Int)) = false := decide_eq_false c34
                have c34b8 : decide (x4_1 < (10 : Int)) = false := c34b0
                clear c34
                obtain rfl := Option.some.inj H
                go_wp2
                go_ret
                exact ⟨by first | rfl | (simp; done) | (simp [*]; done), by repeat (first | exact Drawn0.refl _ | apply Drawn0.step)⟩
    · rw [if_neg c26] at H
      have c26b0 : decide (65 ≤ a0) = false := decide_eq_false c26
      clear c26
      by_cases c38 : a0 ≥ 48
      · rw [if_pos c38] at H
        have c38b0 : decide (48 ≤ a0) = true := decide_eq_true c38
        clear c38
        by_cases c39 : a0 ≤ 57
        · rw [if_pos c39] at H
          have c39b0 : decide (a0 ≤ 57) = true := decide_eq_true c39
          clear c39
          obtain rfl := Option.some.inj H
          go_enter Tryd.func30, Tryd.ntmps30
          go_wp2
          go_ret
          exact ⟨by first | rfl | (simp; done) | (simp [*]; done), by repeat (first | exact Drawn0.refl _ | apply Drawn0.step)⟩
        · rw [if_neg c39] at H
          have c39b0 : decide (a0 ≤ 57) = false := decide_eq_false c39
          clear c39
          have H' := Aside0.mk H
          clear H
          go_enter Tryd.func30, Tryd.ntmps30
          go_wp2
          go_loopg [4] k (fun kq v4 w' => ∃ (x4_1 : Int), v4 = .int .i64 x4_1 ∧ Aside0 (bobstayref04_bare.l0 kq a0 (⟨#[95, 46, 47, 43, 45, 44, 58, 61, 64, 37]⟩ : ByteArray) x4_1 = some r) ∧ Aside0 (kq ≤ k) ∧ Drawn0 w w')
          case atStart => exact ⟨(0), (by first | rfl | (simp; done) | (simp [*]; done)), H', ⟨Nat.le_refl _⟩, by repeat (first | exact Drawn0.refl _ | apply Drawn0.step)⟩
          case round =>
            clear H'
            try clear c1
            try clear p1
            try clear q1
            try clear hx1
            try clear c2
            try clear c2b0
            try clear p2
            try clear q2
            try clear hx2
            try clear c3
            try clear c3b0
            try clear p3
            try clear q3
            try clear hx3
            try clear c4
            try clear c4b0
            try clear c5
            try clear c5b0
            try clear c6
            try clear c6b0
            try clear p6
            try clear c7
            try clear c7b0
            try clear c8
            try clear c8b0
            try clear c9
            try clear c9b0
            try clear p10
            try clear q10
            try clear hx10
            try clear c11
            try clear c11b0
            try clear c11b1
            try clear c12
            try clear c12b0
            try clear c13
            try clear c13b0
            try clear p14
            try clear q14
            try clear hx14
            try clear c15
            try clear c15b0
            try clear c15b1
            try clear c16
            try clear c16b0
            try clear c17
            try clear c17b0
            try clear c18
            try clear c18b0
            try clear c19
            try clear c19b0
            try clear p20
            try clear q20
            try clear hx20
            try clear c21
            try clear c21b0
            try clear c21b1
            try clear c22
            try clear c22b0
            try clear c23
            try clear c23b0
            try clear p24
            try clear q24
            try clear hx24
            try clear c25
            try clear c25b0
            try clear c25b1
            try clear c26
            try clear c26b0
            try clear c27
            try clear c27b0
            try clear c28
            try clear c28b0
            try clear c29
            try clear c29b0
            try clear c30
            try clear c30b0
            try clear c31
            try clear c31b0
            try clear p32
            try clear q32
            try clear hx32
            try clear c33
            try clear c33b0
            try clear c33b1
            try clear c34
            try clear c34b0
            try clear c35
            try clear c35b0
            try clear p36
            try clear q36
            try clear hx36
            try clear c37
            try clear c37b0
            try clear c37b1
            try clear c38
            try clear c38b0
            try clear c39
            try clear c39b0
            try clear p1
            try clear p10
            try clear p14
            try clear p2
            try clear p20
            try clear p24
            try clear p3
            try clear p32
            try clear p36
            try clear p6
            try clear q1
            try clear q10
            try clear q14
            try clear q2
            try clear q20
            try clear q24
            try clear q3
            try clear q32
            try clear q36
            obtain ⟨x4_1, rfl, HA, HK1, ⟨m1, rfl⟩⟩ := hrel
            cases gk with
            | zero => exact absurd HA.out (by simp [bobstayref04_bare.l0])
            | succ k1 =>
              have H := HA.out
              clear HA
              simp only [bobstayref04_bare.l0] at H
              by_cases c40 : x4_1 < ((⟨#[95, 46, 47, 43, 45, 44, 58, 61, 64, 37]⟩ : ByteArray).size : Int)
              · rw [if_pos c40] at H
                have c40b0 : decide (x4_1 < ((⟨#[95, 46, 47, 43, 45, 44, 58, 61, 64, 37]⟩ : ByteArray).size : Int)) = true := decide_eq_true c40
                have c40b8 : decide (x4_1 < (10 : Int)) = true := c40b0
                clear c40
                by_cases c41 : 0 ≤ x4_1
                · rw [if_pos c41] at H
                  have c41b0 : decide (0 ≤ x4_1) = true := decide_eq_true c41
                  clear c41
                  by_cases c43 : (bt (⟨#[95, 46, 47, 43, 45, 44, 58, 61, 64, 37]⟩ : ByteArray) x4_1) = a0
                  · rw [if_pos c43] at H
                    have c43b0 : ((bt (⟨#[95, 46, 47, 43, 45, 44, 58, 61, 64, 37]⟩ : ByteArray) x4_1) == a0) = true := beq_iff_eq.mpr c43
                    have c43b1 : ((bt (⟨#[95, 46, 47, 43, 45, 44, 58, 61, 64, 37]⟩ : ByteArray) x4_1) != a0) = false := bne_eq_false_iff_eq.mpr c43
                    clear c43
                    obtain rfl := Option.some.inj H
                    have p42 : 0 ≤ (x4_1 : Int) := of_decide_eq_true (by first | (with_reducible assumption) | assumption)
                    have q42 : x4_1 < (10 : Int) := of_decide_eq_true (by first | (with_reducible assumption) | assumption)
                    have hx42 := bt_at (⟨#[95, 46, 47, 43, 45, 44, 58, 61, 64, 37]⟩ : ByteArray) x4_1
                    replace p42 := eq_true p42
                    replace q42 := eq_true q42
                    go_wp2
                    go_ret
                    exact ⟨by first | rfl | (simp; done) | (simp [*]; done), by repeat (first | exact Drawn0.refl _ | apply Drawn0.step)⟩
                  · rw [if_neg c43] at H
                    have c43b0 : ((bt (⟨#[95, 46, 47, 43, 45, 44, 58, 61, 64, 37]⟩ : ByteArray) x4_1) == a0) = false := beq_eq_false_iff_ne.mpr c43
                    have c43b1 : ((bt (⟨#[95, 46, 47, 43, 45, 44, 58, 61, 64, 37]⟩ : ByteArray) x4_1) != a0) = true := bne_iff_ne.mpr c43
                    have H' := Aside0.mk H
                    clear H
                    have p42 : 0 ≤ (x4_1 : Int) := of_decide_eq_true (by first | (with_reducible assumption) | assumption)
                    have q42 : x4_1 < (10 : Int) := of_decide_eq_true (by first | (with_reducible assumption) | assumption)
                    have hx42 := bt_at (⟨#[95, 46, 47, 43, 45, 44, 58, 61, 64, 37]⟩ : ByteArray) x4_1
                    replace p42 := eq_true p42
                    replace q42 := eq_true q42
                    go_wp2
                    go_roundg k1
                    case measure => have := HK1.out; omega
                    case rel => exact ⟨(wrap64 (x4_1 + 1)), (by first | rfl | (simp; done) | (simp [*]; done)), H', ⟨by have := HK1.out; omega⟩, by repeat (first | exact Drawn0.refl _ | apply Drawn0.step)⟩
                · rw [if_neg c41] at H
                  exact absurd H (by simp)
              · rw [if_neg c40] at H
                have c40b0 : decide (x4_1 < ((⟨#[95, 46, 47, 43, 45, 44, 58, 61, 64, 37]⟩ : ByteArray).size : Int)) = false := decide_eq_false c40
                have c40b8 : decide (x4_1 < (10 : Int)) = false := c40b0
                clear c40
                obtain rfl := Option.some.inj H
                go_wp2
                go_ret
                exact ⟨by first | rfl | (simp; done) | (simp [*]; done), by repeat (first | exact Drawn0.refl _ | apply Drawn0.step)⟩
      · rw [if_neg c38] at H
        have c38b0 : decide (48 ≤ a0) = false := decide_eq_false c38
        clear c38
        have H' := Aside0.mk H
        clear H
        go_enter Tryd.func30, Tryd.ntmps30
        go_wp2
        go_loopg [4] k (fun kq v4 w' => ∃ (x4_1 : Int), v4 = .int .i64 x4_1 ∧ Aside0 (bobstayref04_bare.l0 kq a0 (⟨#[95, 46, 47, 43, 45, 44, 58, 61, 64, 37]⟩ : ByteArray) x4_1 = some r) ∧ Aside0 (kq ≤ k) ∧ Drawn0 w w')
        case atStart => exact ⟨(0), (by first | rfl | (simp; done) | (simp [*]; done)), H', ⟨Nat.le_refl _⟩, by repeat (first | exact Drawn0.refl _ | apply Drawn0.step)⟩
        case round =>
          clear H'
          try clear c1
          try clear p1
          try clear q1
          try clear hx1
          try clear c2
          try clear c2b0
          try clear p2
          try clear q2
          try clear hx2
          try clear c3
          try clear c3b0
          try clear p3
          try clear q3
          try clear hx3
          try clear c4
          try clear c4b0
          try clear p4
          try clear q4
          try clear hx4
          try clear c5
          try clear c5b0
          try clear c6
          try clear c6b0
          try clear p6
          try clear c7
          try clear c7b0
          try clear c8
          try clear c8b0
          try clear c9
          try clear c9b0
          try clear p10
          try clear q10
          try clear hx10
          try clear c11
          try clear c11b0
          try clear c11b1
          try clear c12
          try clear c12b0
          try clear c13
          try clear c13b0
          try clear p14
          try clear q14
          try clear hx14
          try clear c15
          try clear c15b0
          try clear c15b1
          try clear c16
          try clear c16b0
          try clear c17
          try clear c17b0
          try clear c18
          try clear c18b0
          try clear c19
          try clear c19b0
          try clear p20
          try clear q20
          try clear hx20
          try clear c21
          try clear c21b0
          try clear c21b1
          try clear c22
          try clear c22b0
          try clear c23
          try clear c23b0
          try clear p24
          try clear q24
          try clear hx24
          try clear c25
          try clear c25b0
          try clear c25b1
          try clear c26
          try clear c26b0
          try clear c27
          try clear c27b0
          try clear c28
          try clear c28b0
          try clear c29
          try clear c29b0
          try clear c30
          try clear c30b0
          try clear c31
          try clear c31b0
          try clear p32
          try clear q32
          try clear hx32
          try clear c33
          try clear c33b0
          try clear c33b1
          try clear c34
          try clear c34b0
          try clear c35
          try clear c35b0
          try clear p36
          try clear q36
          try clear hx36
          try clear c37
          try clear c37b0
          try clear c37b1
          try clear c38
          try clear c38b0
          try clear c39
          try clear c39b0
          try clear c40
          try clear c40b0
          try clear c41
          try clear c41b0
          try clear p42
          try clear q42
          try clear hx42
          try clear c43
          try clear c43b0
          try clear c43b1
          try clear p1
          try clear p10
          try clear p14
          try clear p2
          try clear p20
          try clear p24
          try clear p3
          try clear p32
          try clear p36
          try clear p42
          try clear p6
          try clear q1
          try clear q10
          try clear q14
          try clear q2
          try clear q20
          try clear q24
          try clear q3
          try clear q32
          try clear q36
          try clear q42
          obtain ⟨x4_1, rfl, HA, HK1, ⟨m1, rfl⟩⟩ := hrel
          cases gk with
          | zero => exact absurd HA.out (by simp [bobstayref04_bare.l0])
          | succ k1 =>
            have H := HA.out
            clear HA
            simp only [bobstayref04_bare.l0] at H
            by_cases c44 : x4_1 < ((⟨#[95, 46, 47, 43, 45, 44, 58, 61, 64, 37]⟩ : ByteArray).size : Int)
            · rw [if_pos c44] at H
              have c44b0 : decide (x4_1 < ((⟨#[95, 46, 47, 43, 45, 44, 58, 61, 64, 37]⟩ : ByteArray).size : Int)) = true := decide_eq_true c44
              have c44b8 : decide (x4_1 < (10 : Int)) = true := c44b0
              clear c44
              by_cases c45 : 0 ≤ x4_1
              · rw [if_pos c45] at H
                have c45b0 : decide (0 ≤ x4_1) = true := decide_eq_true c45
                clear c45
                by_cases c47 : (bt (⟨#[95, 46, 47, 43, 45, 44, 58, 61, 64, 37]⟩ : ByteArray) x4_1) = a0
                · rw [if_pos c47] at H
                  have c47b0 : ((bt (⟨#[95, 46, 47, 43, 45, 44, 58, 61, 64, 37]⟩ : ByteArray) x4_1) == a0) = true := beq_iff_eq.mpr c47
                  have c47b1 : ((bt (⟨#[95, 46, 47, 43, 45, 44, 58, 61, 64, 37]⟩ : ByteArray) x4_1) != a0) = false := bne_eq_false_iff_eq.mpr c47
                  clear c47
                  obtain rfl := Option.some.inj H
                  have p46 : 0 ≤ (x4_1 : Int) := of_decide_eq_true (by first | (with_reducible assumption) | assumption)
                  have q46 : x4_1 < (10 : Int) := of_decide_eq_true (by first | (with_reducible assumption) | assumption)
                  have hx46 := bt_at (⟨#[95, 46, 47, 43, 45, 44, 58, 61, 64, 37]⟩ : ByteArray) x4_1
                  replace p46 := eq_true p46
                  replace q46 := eq_true q46
                  go_wp2
                  go_ret
                  exact ⟨by first | rfl | (simp; done) | (simp [*]; done), by repeat (first | exact Drawn0.refl _ | apply Drawn0.step)⟩
                · rw [if_neg c47] at H
                  have c47b0 : ((bt (⟨#[95, 46, 47, 43, 45, 44, 58, 61, 64, 37]⟩ : ByteArray) x4_1) == a0) = false := beq_eq_false_iff_ne.mpr c47
                  have c47b1 : ((bt (⟨#[95, 46, 47, 43, 45, 44, 58, 61, 64, 37]⟩ : ByteArray) x4_1) != a0) = true := bne_iff_ne.mpr c47
                  have H' := Aside0.mk H
                  clear H
                  have p46 : 0 ≤ (x4_1 : Int) := of_decide_eq_true (by first | (with_reducible assumption) | assumption)
                  have q46 : x4_1 < (10 : Int) := of_decide_eq_true (by first | (with_reducible assumption) | assumption)
                  have hx46 := bt_at (⟨#[95, 46, 47, 43, 45, 44, 58, 61, 64, 37]⟩ : ByteArray) x4_1
                  replace p46 := eq_true p46
                  replace q46 := eq_true q46
                  go_wp2
                  go_roundg k1
                  case measure => have := HK1.out; omega
                  case rel => exact ⟨(wrap64 (x4_1 + 1)), (by first | rfl | (simp; done) | (simp [*]; done)), H', ⟨by have := HK1.out; omega⟩, by repeat (first | exact Drawn0.refl _ | apply Drawn0.step)⟩
              · rw [if_neg c45] at H
                exact absurd H (by simp)
            · rw [if_neg c44] at H
              have c44b0 : decide (x4_1 < ((⟨#[95, 46, 47, 43, 45, 44, 58, 61, 64, 37]⟩ : ByteArray).size : Int)) = false := decide_eq_false c44
              have c44b8 : decide (x4_1 < (10 : Int)) = false := c44b0
              clear c44
              obtain rfl := Option.some.inj H
              go_wp2
              go_ret
              exact ⟨by first | rfl | (simp; done) | (simp [*]; done), by repeat (first | exact Drawn0.refl _ | apply Drawn0.step)⟩

end Go.Proofs.YtjblkmmpfgjlnaaDoor.PQ

namespace Go.Proofs.YtjblkmmpfgjlnaaDoor.PQ
open Go.RowKit Go.Proofs.YtjblkmmpfgjlnaaDoorW.PrintWords Go.Proofs.YtjblkmmpfgjlnaaDoorW.PrintLast Go.Proofs.YtjblkmmpfgjlnaaDoorW.PrintMore
attribute [local go_sem] max2_int min2_int max_two min_two max_three min_three max_four min_four   -- for this text's walks alone
set_option linter.unusedVariables false
set_option linter.unusedSimpArgs false

/-! ### bobstayref04_Quote: function 16 -/
def bobstayref04_Quote.l0 : Nat → ByteArray → Bool → List Int → Int → Option (ByteArray)
  | 0, _, _, _, _ => none
  | k + 1, x0, x3, x4, x5 => if x5 < (x0.size : Int) then (if x3 = true then (if 0 ≤ x5 then ((bobstayref04_bare.f k (bt x0 x5)).bind fun t139 => (if (bt x0 x5) = 39 then ((some (([39, 92, 39, 39] : List Int) : List Int)).bind fun y140 => (if x4.length + y140.length < 140737488355328 then (bobstayref04_Quote.l0 k x0 t139 (x4 ++ y140) (wrap64 (x5 + 1))) else (none))) else (if x4.length < 140737488355328 then (bobstayref04_Quote.l0 k x0 t139 (x4 ++ [bt x0 x5]) (wrap64 (x5 + 1))) else (none)))) else (none)) else (if 0 ≤ x5 then (if (bt x0 x5) = 39 then ((some (([39, 92, 39, 39] : List Int) : List Int)).bind fun y149 => (if x4.length + y149.length < 140737488355328 then (bobstayref04_Quote.l0 k x0 false (x4 ++ y149) (wrap64 (x5 + 1))) else (none))) else (if x4.length < 140737488355328 then (bobstayref04_Quote.l0 k x0 false (x4 ++ [bt x0 x5]) (wrap64 (x5 + 1))) else (none))) else (none))) else (if x3 = true then (some x0) else (if 1 + (strOfNums x4).size ≤ 9223372036854775807 then (if ((⟨#[39]⟩ : ByteArray) ++ (strOfNums x4)).size + 1 ≤ 9223372036854775807 then (some (((⟨#[39]⟩ : ByteArray) ++ (strOfNums x4)) ++ (⟨#[39]⟩ : ByteArray))) else (none)) else (none)))
def bobstayref04_Quote.f (k : Nat) (a0 : ByteArray) : Option (ByteArray) := bobstayref04_Quote.l0 k a0 (decide ((a0.size : Int) > 0)) ([] : List Int) 0
theorem bobstayref04_Quote.mono_l : ∀ k, (∀ y0 y1 y2 y3, LeO (bobstayref04_Quote.l0 k y0 y1 y2 y3) (bobstayref04_Quote.l0 (k + 1) y0 y1 y2 y3))
  | 0 => fun _ _ _ _ r h => by simp [bobstayref04_Quote.l0] at h
  | k + 1 => by
    have ih0 := bobstayref04_Quote.mono_l k
    · intro y0 y1 y2 y3
      unfold bobstayref04_Quote.l0
      repeat' first
      | (with_reducible exact ih0 _ _ _ _)
      | (with_reducible exact bobstayref04_bare.mono _ _)
      | (with_reducible exact LeO.refl _)
      | (with_reducible exact LeO.none _)
      | (with_reducible refine LeO.ite ?_ ?_)
      | (with_reducible refine LeO.bind ?_ (fun _ => ?_))
      | exact ih0 _ _ _ _
      | exact bobstayref04_bare.mono _ _
      | exact LeO.none _
      | refine LeO.ite ?_ ?_
      | refine LeO.bind ?_ (fun _ => ?_)
theorem bobstayref04_Quote.mono : ∀ a0 k, LeO (bobstayref04_Quote.f k a0) (bobstayref04_Quote.f (k + 1) a0) := by
  intro a0 k
  have ih0 := bobstayref04_Quote.mono_l k
  unfold bobstayref04_Quote.f
  repeat' first
      | (with_reducible exact ih0 _ _ _ _)
      | (with_reducible exact bobstayref04_bare.mono _ _)
      | (with_reducible exact LeO.refl _)
      | (with_reducible exact LeO.none _)
      | (with_reducible refine LeO.ite ?_ ?_)
      | (with_reducible refine LeO.bind ?_ (fun _ => ?_))
      | exact ih0 _ _ _ _
      | exact bobstayref04_bare.mono _ _
      | exact LeO.none _
      | refine LeO.ite ?_ ?_
      | refine LeO.bind ?_ (fun _ => ?_)
set_option maxHeartbeats 8000000 in
set_option maxRecDepth 100000 in
theorem bobstayref04_Quote.calls (k : Nat) (a0 : ByteArray) (r : ByteArray) (w : World) (h : bobstayref04_Quote.f k a0 = some r) :
    Calls Tryd.prog 16 #[.string a0] w fun e w' => e = .returned (.string r) ∧ Below w.heap.size w w' := by
  have HB := Aside0.mk (Below.refl w.heap.size w)
  have H : (bobstayref04_Quote.l0 k a0 (decide ((a0.size : Int) > 0)) ([] : List Int) 0) = some r := h
  clear h
  have H' := Aside0.mk H
  clear H
  go_enter Tryd.func16, Tryd.ntmps16
  go_wp2
  go_loopg [3, 4, 5] k (fun kq v3 v4 v5 w' => ∃ (x3_1 : Bool) (x4_1 : List Int) (x5_1 : Int), v3 = .bool x3_1 ∧ v5 = .int .i64 x5_1 ∧ Aside0 (bobstayref04_Quote.l0 kq a0 x3_1 x4_1 x5_1 = some r) ∧ Aside0 (kq ≤ k) ∧ Aside0 (Kd.R (Kd.int .u8) 5 w' w.heap.size (fun _ => True) v4 x4_1) ∧ Aside0 (Below w.heap.size w w'))
  case atStart => exact ⟨(decide ((a0.size : Int) > 0)), (([] : List Int)), (0), (by first | rfl | (simp; done) | (simp [*]; done)), (by first | rfl | (simp; done) | (simp [*]; done)), H', ⟨Nat.le_refl _⟩, ⟨by first | exact Kd.R_nil _ _ _ _ _ | exact Kd.N_nil _ _ _ _ _ | exact Kd.V_nil _ _ _ _ _ | exact Kd.Q_nil _ _ _ _ _ | exact Kd.S_nil _ _ _ _ _⟩, ⟨by repeat (first | (with_reducible first | exact HB.out | apply below_alloc | apply pw_below_drewN | apply below_drew1) | exact HB.out)⟩⟩
  case round =>
    clear H'
    try clear c1
    obtain ⟨x3_1, x4_1, x5_1, rfl, rfl, HA, HK1, HO_4, HB⟩ := hrel
    cases gk with
    | zero => exact absurd HA.out (by simp [bobstayref04_Quote.l0])
    | succ k1 =>
      have H := HA.out
      clear HA
      simp only [bobstayref04_Quote.l0] at H
      by_cases c2 : x5_1 < (a0.size : Int)
      · rw [if_pos c2] at H
        have c2b0 : decide (x5_1 < (a0.size : Int)) = true := decide_eq_true c2
        clear c2
        by_cases c3 : x3_1 = true
        · subst c3
          have H1 : (if 0 ≤ x5_1 then ((bobstayref04_bare.f k1 (bt a0 x5_1)).bind fun t139 => (if (bt a0 x5_1) = 39 then ((some (([39, 92, 39, 39] : List Int) : List Int)).bind fun y140 => (if x4_1.length + y140.length < 140737488355328 then (bobstayref04_Quote.l0 k1 a0 t139 (x4_1 ++ y140) (wrap64 (x5_1 + 1))) else (none))) else (if x4_1.length < 140737488355328 then (bobstayref04_Quote.l0 k1 a0 t139 (x4_1 ++ [bt a0 x5_1]) (wrap64 (x5_1 + 1))) else (none)))) else (none)) = some r := by rw [if_pos rfl] at H; exact H
          clear H
          have H := H1
          clear H1
          by_cases c4 : 0 ≤ x5_1
          · rw [if_pos c4] at H
            have c4b0 : decide (0 ≤ x5_1) = true := decide_eq_true c4
            clear c4
            replace H := Option.bind_eq_some_iff.mp H
            obtain ⟨t139, A60, H⟩ := H
            replace H : (if (bt a0 x5_1) = 39 then ((some (([39, 92, 39, 39] : List Int) : List Int)).bind fun y140 => (if x4_1.length + y140.length < 140737488355328 then (bobstayref04_Quote.l0 k1 a0 t139 (x4_1 ++ y140) (wrap64 (x5_1 + 1))) else (none))) else (if x4_1.length < 140737488355328 then (bobstayref04_Quote.l0 k1 a0 t139 (x4_1 ++ [bt a0 x5_1]) (wrap64 (x5_1 + 1))) else (none))) = some r := H
            have A6 := Aside0.mk A60
            clear A60
            by_cases c8 : (bt a0 x5_1) = 39
            · rw [if_pos c8] at H
              have c8b0 : ((bt a0 x5_1) == 39) = true := beq_iff_eq.mpr c8
              have c8b1 : ((bt a0 x5_1) != 39) = false := bne_eq_false_iff_eq.mpr c8
              clear c8
              obtain ⟨y140, hy140⟩ : ∃ y_ : List Int, y_ = (([39, 92, 39, 39] : List Int)) := ⟨_, rfl⟩
              replace H : (if x4_1.length + y140.length < 140737488355328 then (bobstayref04_Quote.l0 k1 a0 t139 (x4_1 ++ y140) (wrap64 (x5_1 + 1))) else (none)) = some r := by first | (rw [hy140]; with_reducible exact H) | (have H2_ := (Option.bind_some _ _).symm.trans H; rw [hy140]; with_reducible exact H2_) | (have H2_ := (Option.bind_some _ _).symm.trans H; with_reducible exact H2_) | with_reducible exact H | (rw [hy140]; exact H) | exact H
              have Ny140 := Aside0.mk hy140
              clear hy140
              by_cases c9 : x4_1.length + y140.length < 140737488355328
              · rw [if_pos c9] at H
                have LMc9 := Aside0.mk c9
                clear c9
                obtain ⟨y143, hy143⟩ : ∃ y_ : List Int, y_ = (x4_1 ++ y140) := ⟨_, rfl⟩
                replace H : (bobstayref04_Quote.l0 k1 a0 t139 y143 (wrap64 (x5_1 + 1))) = some r := by first | (rw [hy143]; with_reducible exact H) | (have H2_ := (Option.bind_some _ _).symm.trans H; rw [hy143]; with_reducible exact H2_) | (have H2_ := (Option.bind_some _ _).symm.trans H; with_reducible exact H2_) | with_reducible exact H | (rw [hy143]; exact H) | exact H
                have Ny143 := Aside0.mk hy143
                clear hy143
                have H' := Aside0.mk H
                clear H
                have p5 : 0 ≤ (x5_1 : Int) := of_decide_eq_true (by first | (with_reducible assumption) | assumption)
                have q5 : x5_1 < (a0.size : Int) := of_decide_eq_true (by first | (with_reducible assumption) | assumption)
                have hx5 := bt_at a0 x5_1
                replace p5 := eq_true p5
                replace q5 := eq_true q5
                go_wp2_with (first | (go_at_call 30; (with_reducible refine (bobstayref04_bare.calls k1 (bt a0 x5_1) t139 _ A6.out).mono ?_); rintro e w' ⟨rfl, ⟨nd, rfl⟩⟩; have p7 : 0 ≤ (x5_1 : Int) := of_decide_eq_true (by first | (with_reducible assumption) | assumption); have q7 : x5_1 < (a0.size : Int) := of_decide_eq_true (by first | (with_reducible assumption) | assumption); have hx7 := bt_at a0 x5_1; replace p7 := eq_true p7; replace q7 := eq_true q7) | ((with_reducible refine gate_dst (N := 27) rfl ?_); refine Kd.R_lit (Kd.int .u8) _ 5 ?hg (N := 27) ?hd (xs := ([39, 92, 39, 39] : List Int)) (inner := [.int .u8 39, .int .u8 92, .int .u8 39, .int .u8 39]) (ok := fun _ => True) (okp := fun _ => True) ?hr ?hp (fun _ hk => hk) trivial (Below.refl _ _) (Nat.le_refl _) (by simp) ?_; (case hd => rfl); (case hg => rfl); (case hr => first | (go_simp; done) | (go_simp; rfl)); (case hp => exact (Reps.one (show Kd.M (Kd.int .u8) _ _ _ 39 [.int .u8 39] from rfl) (Reps.one (show Kd.M (Kd.int .u8) _ _ _ 92 [.int .u8 92] from rfl) (Reps.one (show Kd.M (Kd.int .u8) _ _ _ 39 [.int .u8 39] from rfl) (Reps.one (show Kd.M (Kd.int .u8) _ _ _ 39 [.int .u8 39] from rfl) (Reps.none _ _)))))); intro v141 w10 ho11 hb hg_ hnew_; clear hg_ hnew_; (first | rw [← Ny140.out] at ho11 | (simp only [Int.reduceToNat] at ho11; rw [← Ny140.out] at ho11)); have n0_ := Aside0.mk (Kd.R_elder' (by (with_reducible repeat (first | apply Kd.R_alloc | apply Kd.R_drewN | apply Kd.R_drew)); exact HO_4.out) (Kd.R_base ho11) hb); have n1_ := Aside0.mk (Kd.R_lower (Kd.R_new' ho11 (Kd.R_lt (by (with_reducible repeat (first | apply Kd.R_alloc | apply Kd.R_drewN | apply Kd.R_drew)); exact HO_4.out))) (below_size (by repeat (first | (with_reducible first | exact HB.out | apply below_alloc | apply pw_below_drewN | apply below_drew1) | exact HB.out)))); have n2_ := Aside0.mk (below_step (by repeat (first | (with_reducible first | exact HB.out | apply below_alloc | apply pw_below_drewN | apply below_drew1) | exact HB.out)) hb); clear HO_4; clear HB; have HO_4 := n0_; have HO142 := n1_; have HB := n2_; clear n0_ n1_ n2_; clear hb ho11; obtain ⟨Ao13, co13, eo13⟩ := Kd.R_slice HO142.out; subst eo13) | ((with_reducible refine gate_builtin (b := .append) (xs := #[.tmp 26, .tmp 27]) rfl ?_); at_builtin; refine Kd.R_append_rows (Kd.int .u8) (w0 := w) w.heap.size rfl (.tmp 26) (.tmp 27) 49 5 (.int .u8 0) 1 rfl Tryd.underlying49 info5 rfl (by decide) (by omega) u4 x4_1 y140 _ _ _ (fun k_ => some k_ ≠ (.slice Ao13 y140.length co13 : Value).ownBlock) (fun _ => False) rfl rfl ?aO ?aR (fun _ _ h => h) (fun _ h => h.elim) ?aF ?aB ?aS ?aL ?_; (case aR => repeat (first | exact (Kd.R_reads' HO142.out).2.2 | (with_reducible refine Kd.C_alloc ?_ _) | (with_reducible refine Kd.C_drewN ?_ _) | (with_reducible refine Kd.C_drew ?_))); (case aB => exact (by repeat (first | (with_reducible first | exact HB.out | apply below_alloc | apply pw_below_drewN | apply below_drew1) | exact HB.out))); (case aF => exact (fun k_ hk => Kd.fresh' (Kd.R_lt (by (with_reducible repeat (first | apply Kd.R_alloc | apply Kd.R_drewN | apply Kd.R_drew)); exact HO142.out)) k_ hk)); (case aO => exact (by (with_reducible repeat (first | apply Kd.R_alloc | apply Kd.R_drewN | apply Kd.R_drew)); exact Kd.R_mono HO_4.out (fun _ hk => hk.2))); (case aS => exact (below_size (by repeat (first | (with_reducible first | exact HB.out | apply below_alloc | apply pw_below_drewN | apply below_drew1) | exact HB.out)))); (case aL => have := LMc9.out; omega); intro v144 w12 ho hb hg hat; rw [← Ny143.out] at ho; have n0_ := Aside0.mk (Kd.R_after (ok := (fun _ => True)) (by (with_reducible repeat (first | apply Kd.R_alloc | apply Kd.R_drewN | apply Kd.R_drew)); exact HO142.out) hg hat); have n1_ := Aside0.mk (hb); have n2_ := Aside0.mk (ho); clear HO142; clear HB; clear HO_4; have HO142 := n0_; have HB := n1_; have HO145 := n2_; clear n0_ n1_ n2_; clear ho hb hg hat))
                go_roundg k1
                case measure => have := HK1.out; omega
                case rel => exact ⟨(t139), (y143), (wrap64 (x5_1 + 1)), (by first | rfl | (simp; done) | (simp [*]; done)), (by first | rfl | (simp; done) | (simp [*]; done)), H', ⟨by have := HK1.out; omega⟩, ⟨by (with_reducible repeat (first | apply Kd.R_alloc | apply Kd.R_drewN | apply Kd.R_drew)); exact Kd.R_mono HO145.out (fun _ hk => trivial)⟩, ⟨by repeat (first | (with_reducible first | exact HB.out | apply below_alloc | apply pw_below_drewN | apply below_drew1) | exact HB.out)⟩⟩
              · rw [if_neg c9] at H
                exact absurd H (by simp)
            · rw [if_neg c8] at H
              have c8b0 : ((bt a0 x5_1) == 39) = false := beq_eq_false_iff_ne.mpr c8
              have c8b1 : ((bt a0 x5_1) != 39) = true := bne_iff_ne.mpr c8
              by_cases c15 : x4_1.length < 140737488355328
              · rw [if_pos c15] at H
                have LMc15 := Aside0.mk c15
                clear c15
                obtain ⟨y146, hy146⟩ : ∃ y_ : List Int, y_ = (x4_1 ++ [bt a0 x5_1]) := ⟨_, rfl⟩
                replace H : (bobstayref04_Quote.l0 k1 a0 t139 y146 (wrap64 (x5_1 + 1))) = some r := by first | (rw [hy146]; with_reducible exact H) | (have H2_ := (Option.bind_some _ _).symm.trans H; rw [hy146]; with_reducible exact H2_) | (have H2_ := (Option.bind_some _ _).symm.trans H; with_reducible exact H2_) | with_reducible exact H | (rw [hy146]; exact H) | exact H
                have Ny146 := Aside0.mk hy146
                clear hy146
                have H' := Aside0.mk H
                clear H
                have p5 : 0 ≤ (x5_1 : Int) := of_decide_eq_true (by first | (with_reducible assumption) | assumption)
                have q5 : x5_1 < (a0.size : Int) := of_decide_eq_true (by first | (with_reducible assumption) | assumption)
                have hx5 := bt_at a0 x5_1
                replace p5 := eq_true p5
                replace q5 := eq_true q5
                go_wp2_with (first | (go_at_call 30; (with_reducible refine (bobstayref04_bare.calls k1 (bt a0 x5_1) t139 _ A6.out).mono ?_); rintro e w' ⟨rfl, ⟨nd, rfl⟩⟩; have p7 : 0 ≤ (x5_1 : Int) := of_decide_eq_true (by first | (with_reducible assumption) | assumption); have q7 : x5_1 < (a0.size : Int) := of_decide_eq_true (by first | (with_reducible assumption) | assumption); have hx7 := bt_at a0 x5_1; replace p7 := eq_true p7; replace q7 := eq_true q7; have p14 : 0 ≤ (x5_1 : Int) := of_decide_eq_true (by first | (with_reducible assumption) | assumption); have q14 : x5_1 < (a0.size : Int) := of_decide_eq_true (by first | (with_reducible assumption) | assumption); have hx14 := bt_at a0 x5_1; replace p14 := eq_true p14; replace q14 := eq_true q14) | ((with_reducible refine gate_builtin (b := .append) (xs := #[.tmp 29, .tmp 33]) rfl ?_); at_builtin; refine Kd.R_append (Kd.int .u8) (w0 := w) w.heap.size rfl (.tmp 29) (.tmp 33) 49 5 (.int .u8 0) 1 rfl Tryd.underlying49 info5 rfl (by decide) (by omega) u4 x4_1 (bt a0 x5_1) [.int .u8 (bt a0 x5_1)] (fun _ => True) (fun _ => False) rfl rfl ?aP (fun _ hk => hk.elim) ?aF ?aO ?aB ?aS ?aL ?_; (case aP => exact rfl); (case aB => exact (by repeat (first | (with_reducible first | exact HB.out | apply below_alloc | apply pw_below_drewN | apply below_drew1) | exact HB.out))); (case aF => exact (fun _ _ => trivial)); (case aO => exact (by (with_reducible repeat (first | apply Kd.R_alloc | apply Kd.R_drewN | apply Kd.R_drew)); exact HO_4.out)); (case aS => exact (below_size (by repeat (first | (with_reducible first | exact HB.out | apply below_alloc | apply pw_below_drewN | apply below_drew1) | exact HB.out)))); (case aL => have := LMc15.out; omega); intro v147 w16 ho hb hg hat; rw [← Ny146.out] at ho; have n0_ := Aside0.mk (hb); have n1_ := Aside0.mk (ho); clear HB; clear HO_4; have HB := n0_; have HO148 := n1_; clear n0_ n1_; clear ho hb hg hat))
                go_roundg k1
                case measure => have := HK1.out; omega
                case rel => exact ⟨(t139), (y146), (wrap64 (x5_1 + 1)), (by first | rfl | (simp; done) | (simp [*]; done)), (by first | rfl | (simp; done) | (simp [*]; done)), H', ⟨by have := HK1.out; omega⟩, ⟨by (with_reducible repeat (first | apply Kd.R_alloc | apply Kd.R_drewN | apply Kd.R_drew)); exact HO148.out⟩, ⟨by repeat (first | (with_reducible first | exact HB.out | apply below_alloc | apply pw_below_drewN | apply below_drew1) | exact HB.out)⟩⟩
              · rw [if_neg c15] at H
                exact absurd H (by simp)
          · rw [if_neg c4] at H
            exact absurd H (by simp)
        · replace c3 := Bool.eq_false_iff.mpr c3
          subst c3
          have H1 : (if 0 ≤ x5_1 then (if (bt a0 x5_1) = 39 then ((some (([39, 92, 39, 39] : List Int) : List Int)).bind fun y149 => (if x4_1.length + y149.length < 140737488355328 then (bobstayref04_Quote.l0 k1 a0 false (x4_1 ++ y149) (wrap64 (x5_1 + 1))) else (none))) else (if x4_1.length < 140737488355328 then (bobstayref04_Quote.l0 k1 a0 false (x4_1 ++ [bt a0 x5_1]) (wrap64 (x5_1 + 1))) else (none))) else (none)) = some r := by rw [if_neg (show ¬ (false = true) by decide)] at H; exact H
          clear H
          have H := H1
          clear H1
          by_cases c17 : 0 ≤ x5_1
          · rw [if_pos c17] at H
            have c17b0 : decide (0 ≤ x5_1) = true := decide_eq_true c17
            clear c17
            by_cases c19 : (bt a0 x5_1) = 39
            · rw [if_pos c19] at H
              have c19b0 : ((bt a0 x5_1) == 39) = true := beq_iff_eq.mpr c19
              have c19b1 : ((bt a0 x5_1) != 39) = false := bne_eq_false_iff_eq.mpr c19
              clear c19
              obtain ⟨y149, hy149⟩ : ∃ y_ : List Int, y_ = (([39, 92, 39, 39] : List Int)) := ⟨_, rfl⟩
              replace H : (if x4_1.length + y149.length < 140737488355328 then (bobstayref04_Quote.l0 k1 a0 false (x4_1 ++ y149) (wrap64 (x5_1 + 1))) else (none)) = some r := by first | (rw [hy149]; with_reducible exact H) | (have H2_ := (Option.bind_some _ _).symm.trans H; rw [hy149]; with_reducible exact H2_) | (have H2_ := (Option.bind_some _ _).symm.trans H; with_reducible exact H2_) | with_reducible exact H | (rw [hy149]; exact H) | exact H
              have Ny149 := Aside0.mk hy149
              clear hy149
              by_cases c20 : x4_1.length + y149.length < 140737488355328
              · rw [if_pos c20] at H
                have LMc20 := Aside0.mk c20
                clear c20
                obtain ⟨y152, hy152⟩ : ∃ y_ : List Int, y_ = (x4_1 ++ y149) := ⟨_, rfl⟩
                replace H : (bobstayref04_Quote.l0 k1 a0 false y152 (wrap64 (x5_1 + 1))) = some r := by first | (rw [hy152]; with_reducible exact H) | (have H2_ := (Option.bind_some _ _).symm.trans H; rw [hy152]; with_reducible exact H2_) | (have H2_ := (Option.bind_some _ _).symm.trans H; with_reducible exact H2_) | with_reducible exact H | (rw [hy152]; exact H) | exact H
                have Ny152 := Aside0.mk hy152
                clear hy152
                have H' := Aside0.mk H
                clear H
                have p18 : 0 ≤ (x5_1 : Int) := of_decide_eq_true (by first | (with_reducible assumption) | assumption)
                have q18 : x5_1 < (a0.size : Int) := of_decide_eq_true (by first | (with_reducible assumption) | assumption)
                have hx18 := bt_at a0 x5_1
                replace p18 := eq_true p18
                replace q18 := eq_true q18
                go_wp2_with (first | ((with_reducible refine gate_dst (N := 27) rfl ?_); refine Kd.R_lit (Kd.int .u8) _ 5 ?hg (N := 27) ?hd (xs := ([39, 92, 39, 39] : List Int)) (inner := [.int .u8 39, .int .u8 92, .int .u8 39, .int .u8 39]) (ok := fun _ => True) (okp := fun _ => True) ?hr ?hp (fun _ hk => hk) trivial (Below.refl _ _) (Nat.le_refl _) (by simp) ?_; (case hd => rfl); (case hg => rfl); (case hr => first | (go_simp; done) | (go_simp; rfl)); (case hp => exact (Reps.one (show Kd.M (Kd.int .u8) _ _ _ 39 [.int .u8 39] from rfl) (Reps.one (show Kd.M (Kd.int .u8) _ _ _ 92 [.int .u8 92] from rfl) (Reps.one (show Kd.M (Kd.int .u8) _ _ _ 39 [.int .u8 39] from rfl) (Reps.one (show Kd.M (Kd.int .u8) _ _ _ 39 [.int .u8 39] from rfl) (Reps.none _ _)))))); intro v150 w21 ho22 hb hg_ hnew_; clear hg_ hnew_; (first | rw [← Ny149.out] at ho22 | (simp only [Int.reduceToNat] at ho22; rw [← Ny149.out] at ho22)); have n0_ := Aside0.mk (Kd.R_elder' (by (with_reducible repeat (first | apply Kd.R_alloc | apply Kd.R_drewN | apply Kd.R_drew)); exact HO_4.out) (Kd.R_base ho22) hb); have n1_ := Aside0.mk (Kd.R_lower (Kd.R_new' ho22 (Kd.R_lt (by (with_reducible repeat (first | apply Kd.R_alloc | apply Kd.R_drewN | apply Kd.R_drew)); exact HO_4.out))) (below_size (by repeat (first | (with_reducible first | exact HB.out | apply below_alloc | apply pw_below_drewN | apply below_drew1) | exact HB.out)))); have n2_ := Aside0.mk (below_step (by repeat (first | (with_reducible first | exact HB.out | apply below_alloc | apply pw_below_drewN | apply below_drew1) | exact HB.out)) hb); clear HO_4; clear HB; have HO_4 := n0_; have HO151 := n1_; have HB := n2_; clear n0_ n1_ n2_; clear hb ho22; obtain ⟨Ao24, co24, eo24⟩ := Kd.R_slice HO151.out; subst eo24) | ((with_reducible refine gate_builtin (b := .append) (xs := #[.tmp 26, .tmp 27]) rfl ?_); at_builtin; refine Kd.R_append_rows (Kd.int .u8) (w0 := w) w.heap.size rfl (.tmp 26) (.tmp 27) 49 5 (.int .u8 0) 1 rfl Tryd.underlying49 info5 rfl (by decide) (by omega) u4 x4_1 y149 _ _ _ (fun k_ => some k_ ≠ (.slice Ao24 y149.length co24 : Value).ownBlock) (fun _ => False) rfl rfl ?aO ?aR (fun _ _ h => h) (fun _ h => h.elim) ?aF ?aB ?aS ?aL ?_; (case aR => repeat (first | exact (Kd.R_reads' HO151.out).2.2 | (with_reducible refine Kd.C_alloc ?_ _) | (with_reducible refine Kd.C_drewN ?_ _) | (with_reducible refine Kd.C_drew ?_))); (case aB => exact (by repeat (first | (with_reducible first | exact HB.out | apply below_alloc | apply pw_below_drewN | apply below_drew1) | exact HB.out))); (case aF => exact (fun k_ hk => Kd.fresh' (Kd.R_lt (by (with_reducible repeat (first | apply Kd.R_alloc | apply Kd.R_drewN | apply Kd.R_drew)); exact HO151.out)) k_ hk)); (case aO => exact (by (with_reducible repeat (first | apply Kd.R_alloc | apply Kd.R_drewN | apply Kd.R_drew)); exact Kd.R_mono HO_4.out (fun _ hk => hk.2))); (case aS => exact (below_size (by repeat (first | (with_reducible first | exact HB.out | apply below_alloc | apply pw_below_drewN | apply below_drew1) | exact HB.out)))); (case aL => have := LMc20.out; omega); intro v153 w23 ho hb hg hat; rw [← Ny152.out] at ho; have n0_ := Aside0.mk (Kd.R_after (ok := (fun _ => True)) (by (with_reducible repeat (first | apply Kd.R_alloc | apply Kd.R_drewN | apply Kd.R_drew)); exact HO151.out) hg hat); have n1_ := Aside0.mk (hb); have n2_ := Aside0.mk (ho); clear HO151; clear HB; clear HO_4; have HO151 := n0_; have HB := n1_; have HO154 := n2_; clear n0_ n1_ n2_; clear ho hb hg hat))
                go_roundg k1
                case measure => have := HK1.out; omega
                case rel => exact ⟨(false), (y152), (wrap64 (x5_1 + 1)), (by first | rfl | (simp; done) | (simp [*]; done)), (by first | rfl | (simp; done) | (simp [*]; done)), H', ⟨by have := HK1.out; omega⟩, ⟨by (with_reducible repeat (first | apply Kd.R_alloc | apply Kd.R_drewN | apply Kd.R_drew)); exact Kd.R_mono HO154.out (fun _ hk => trivial)⟩, ⟨by repeat (first | (with_reducible first | exact HB.out | apply below_alloc | apply pw_below_drewN | apply below_drew1) | exact HB.out)⟩⟩
              · rw [if_neg c20] at H
                exact absurd H (by simp)
            · rw [if_neg c19] at H
              have c19b0 : ((bt a0 x5_1) == 39) = false := beq_eq_false_iff_ne.mpr c19
              have c19b1 : ((bt a0 x5_1) != 39) = true := bne_iff_ne.mpr c19
              by_cases c26 : x4_1.length < 140737488355328
              · rw [if_pos c26] at H
                have LMc26 := Aside0.mk c26
                clear c26
                obtain ⟨y155, hy155⟩ : ∃ y_ : List Int, y_ = (x4_1 ++ [bt a0 x5_1]) := ⟨_, rfl⟩
                replace H : (bobstayref04_Quote.l0 k1 a0 false y155 (wrap64 (x5_1 + 1))) = some r := by first | (rw [hy155]; with_reducible exact H) | (have H2_ := (Option.bind_some _ _).symm.trans H; rw [hy155]; with_reducible exact H2_) | (have H2_ := (Option.bind_some _ _).symm.trans H; with_reducible exact H2_) | with_reducible exact H | (rw [hy155]; exact H) | exact H
                have Ny155 := Aside0.mk hy155
                clear hy155
                have H' := Aside0.mk H
                clear H
                have p18 : 0 ≤ (x5_1 : Int) := of_decide_eq_true (by first | (with_reducible assumption) | assumption)
                have q18 : x5_1 < (a0.size : Int) := of_decide_eq_true (by first | (with_reducible assumption) | assumption)
                have hx18 := bt_at a0 x5_1
                replace p18 := eq_true p18
                replace q18 := eq_true q18
                have p25 : 0 ≤ (x5_1 : Int) := of_decide_eq_true (by first | (with_reducible assumption) | assumption)
                have q25 : x5_1 < (a0.size : Int) := of_decide_eq_true (by first | (with_reducible assumption) | assumption)
                have hx25 := bt_at a0 x5_1
                replace p25 := eq_true p25
                replace q25 := eq_true q25
                go_wp2_with (first | ((with_reducible refine gate_builtin (b := .append) (xs := #[.tmp 29, .tmp 33]) rfl ?_); at_builtin; refine Kd.R_append (Kd.int .u8) (w0 := w) w.heap.size rfl (.tmp 29) (.tmp 33) 49 5 (.int .u8 0) 1 rfl Tryd.underlying49 info5 rfl (by decide) (by omega) u4 x4_1 (bt a0 x5_1) [.int .u8 (bt a0 x5_1)] (fun _ => True) (fun _ => False) rfl rfl ?aP (fun _ hk => hk.elim) ?aF ?aO ?aB ?aS ?aL ?_; (case aP => exact rfl); (case aB => exact (by repeat (first | (with_reducible first | exact HB.out | apply below_alloc | apply pw_below_drewN | apply below_drew1) | exact HB.out))); (case aF => exact (fun _ _ => trivial)); (case aO => exact (by (with_reducible repeat (first | apply Kd.R_alloc | apply Kd.R_drewN | apply Kd.R_drew)); exact HO_4.out)); (case aS => exact (below_size (by repeat (first | (with_reducible first | exact HB.out | apply below_alloc | apply pw_below_drewN | apply below_drew1) | exact HB.out)))); (case aL => have := LMc26.out; omega); intro v156 w27 ho hb hg hat; rw [← Ny155.out] at ho; have n0_ := Aside0.mk (hb); have n1_ := Aside0.mk (ho); clear HB; clear HO_4; have HB := n0_; have HO157 := n1_; clear n0_ n1_; clear ho hb hg hat))
                go_roundg k1
                case measure => have := HK1.out; omega
                case rel => exact ⟨(false), (y155), (wrap64 (x5_1 + 1)), (by first | rfl | (simp; done) | (simp [*]; done)), (by first | rfl | (simp; done) | (simp [*]; done)), H', ⟨by have := HK1.out; omega⟩, ⟨by (with_reducible repeat (first | apply Kd.R_alloc | apply Kd.R_drewN | apply Kd.R_drew)); exact HO157.out⟩, ⟨by repeat (first | (with_reducible first | exact HB.out | apply below_alloc | apply pw_below_drewN | apply below_drew1) | exact HB.out)⟩⟩
              · rw [if_neg c26] at H
                exact absurd H (by simp)
          · rw [if_neg c17] at H
            exact absurd H (by simp)
      · rw [if_neg c2] at H
        have c2b0 : decide (x5_1 < (a0.size : Int)) = false := decide_eq_false c2
        clear c2
        by_cases c28 : x3_1 = true
        · subst c28
          have H1 : (some a0) = some r := by rw [if_pos rfl] at H; exact H
          clear H
          have H := H1
          clear H1
          obtain rfl := Option.some.inj H
          go_wp2
          go_ret
          exact ⟨by first | rfl | (simp [errW_none, errW_some] <;> rfl) | (simp [*, errW_none, errW_some] <;> rfl), by repeat (first | (with_reducible first | exact HB.out | apply below_alloc | apply pw_below_drewN | apply below_drew1) | exact HB.out)⟩
        · replace c28 := Bool.eq_false_iff.mpr c28
          subst c28
          have H1 : (if 1 + (strOfNums x4_1).size ≤ 9223372036854775807 then (if ((⟨#[39]⟩ : ByteArray) ++ (strOfNums x4_1)).size + 1 ≤ 9223372036854775807 then (some (((⟨#[39]⟩ : ByteArray) ++ (strOfNums x4_1)) ++ (⟨#[39]⟩ : ByteArray))) else (none)) else (none)) = some r := by rw [if_neg (show ¬ (false = true) by decide)] at H; exact H
          clear H
          have H := H1
          clear H1
          by_cases c29 : 1 + (strOfNums x4_1).size ≤ 9223372036854775807
          · rw [if_pos c29] at H
            have c29b0 := eq_true c29
            have c29b1 : decide (1 + (strOfNums x4_1).size ≤ 9223372036854775807) = true := decide_eq_true c29
            try have c29b2 : (9223372036854775807 < 1 + (strOfNums x4_1).size) = False := eq_false (Nat.not_lt.2 c29)
            by_cases c30 : ((⟨#[39]⟩ : ByteArray) ++ (strOfNums x4_1)).size + 1 ≤ 9223372036854775807
            · rw [if_pos c30] at H
              have c30b0 := eq_true c30
              have c30b1 : decide (((⟨#[39]⟩ : ByteArray) ++ (strOfNums x4_1)).size + 1 ≤ 9223372036854775807) = true := decide_eq_true c30
              try have c30b2 : (9223372036854775807 < ((⟨#[39]⟩ : ByteArray) ++ (strOfNums x4_1)).size + 1) = False := eq_false (Nat.not_lt.2 c30)
              try have c30b9 : (9223372036854775807 < 1 + (strOfNums x4_1).size + 1) = False := eq_false (by have hz := c30; simp only [ByteArray.size_append] at hz; have e0_ : (⟨#[39]⟩ : ByteArray).size = 1 := rfl; omega)
              obtain rfl := Option.some.inj H
              have hcv31 := own_string (P := Tryd.prog) Tryd.underlying49 Tryd.underlying5 Tryd.underlying9 (Kd.own_of_R HO_4.out)
              go_wp2
              go_ret
              exact ⟨by first | rfl | (simp [errW_none, errW_some] <;> rfl) | (simp [*, errW_none, errW_some] <;> rfl), by repeat (first | (with_reducible first | exact HB.out | apply below_alloc | apply pw_below_drewN | apply below_drew1) | exact HB.out)⟩
            · rw [if_neg c30] at H
              exact absurd H (by simp)
          · rw [if_neg c29] at H
            exact absurd H (by simp)

end Go.Proofs.YtjblkmmpfgjlnaaDoor.PQ

