-- PRINTED by print.py (a twelfth state) out of the translation. Not trusted: Lean checks it.
import Derived.Test.YtapfblaejmenlaaDoorProg
import Derived.Below
import Derived.Deep.Draws
import Derived.Deep.AppendLies
import Derived.Maps.AppendAt
import Derived.OwnWalk
import Derived.Laws.BytesArg
import Derived.Laws.MakeOwn
import Derived.Laws.OwnMore
import Derived.Deep.OwnRows
import Derived.Tactics
import Derived.Lib.ConvBytes
import Derived.Laws.Slices
import Derived.WalkKit
import Derived.KernelRfl
import Derived.RowKit3
import Derived.Deep.LoopGhost
import Derived.Deep.QuietTactic
import Derived.BigQuiet
import Derived.WideLaws
import Derived.Deep.DeepCutAuto
import Derived.Deep.CutBlock
import Derived.Deep.RegionHeld3
import Derived.Laws.Rows
import Derived.Lib.AppendStr
import Derived.ArgAppend
import Derived.Laws.IdiomCopy
import Derived.OrdersHeld
import Derived.Laws.BitsLemmas
import Derived.RowKit
import Derived.Test.YtapfblaejmenlaaDoorShelf
import Derived.Test.YtapfblaejmenlaaDoorWWords
import Derived.Test.YtapfblaejmenlaaDoorWLast
import Derived.Test.YtapfblaejmenlaaDoorWTab
import Derived.Test.YtapfblaejmenlaaDoorWFour
import Derived.Test.YtapfblaejmenlaaDoorWQPut
import Derived.Test.YtapfblaejmenlaaDoorWApart
import Derived.Test.YtapfblaejmenlaaDoorWArr
import Derived.Test.YtapfblaejmenlaaDoorWZeros
import Derived.Test.YtapfblaejmenlaaDoorWFoot
import Derived.Test.YtapfblaejmenlaaDoorWKept
import Derived.Test.YtapfblaejmenlaaDoorWShare
import Derived.Test.YtapfblaejmenlaaDoorWN
import Derived.Test.YtapfblaejmenlaaDoorWFootNe
import Derived.Test.YtapfblaejmenlaaDoorWAt
import Derived.Test.YtapfblaejmenlaaDoorWEqStruct
import Derived.Test.YtapfblaejmenlaaDoorWRepsOne
import Derived.Test.YtapfblaejmenlaaDoorWInv
import Derived.Test.YtapfblaejmenlaaDoorWInvWords
import Derived.Test.YtapfblaejmenlaaDoorWGuard
import Derived.Test.YtapfblaejmenlaaDoorWNEv
import Derived.Test.YtapfblaejmenlaaDoorWMore
namespace Go.Proofs.YtapfblaejmenlaaDoor.PK
open Go.RowKit Go.Proofs.YtapfblaejmenlaaDoorW.PrintWords Go.Proofs.YtapfblaejmenlaaDoorW.PrintLast Go.Proofs.YtapfblaejmenlaaDoorW.PrintMore
attribute [local go_sem] max2_int min2_int max_two min_two max_three min_three max_four min_four   -- for this text's walks alone
set_option linter.unusedVariables false
set_option linter.unusedSimpArgs false



def errW : Option Int → Value
  | none => .nilIface
  | some c => .iface 0 (.int .i64 c)
theorem errW_none : errW none = .nilIface := rfl
theorem errW_some (c : Int) : errW (some c) = .iface 0 (.int .i64 c) := rfl

-- the values' own types

end Go.Proofs.YtapfblaejmenlaaDoor.PK

namespace Go.Proofs.YtapfblaejmenlaaDoor.PK
open Go.RowKit Go.Proofs.YtapfblaejmenlaaDoorW.PrintWords Go.Proofs.YtapfblaejmenlaaDoorW.PrintLast Go.Proofs.YtapfblaejmenlaaDoorW.PrintMore
attribute [local go_sem] max2_int min2_int max_two min_two max_three min_three max_four min_four   -- for this text's walks alone
set_option linter.unusedVariables false
set_option linter.unusedSimpArgs false

/-! ### stringslite_HasPrefix: function 50 -/
def stringslite_HasPrefix.f (a0 : ByteArray) (a1 : ByteArray) : Option (Bool) := if (a0.size : Int) ≥ (a1.size : Int) then (if 0 ≤ (a1.size : Int) then (if (a1.size : Int) ≤ (a0.size : Int) then (some ((a0.extract 0 ((a1.size : Int) : Int).toNat).toList == a1.toList)) else (none)) else (none)) else (some false)
set_option maxHeartbeats 8000000 in
set_option maxRecDepth 100000 in
theorem stringslite_HasPrefix.calls (a0 : ByteArray) (a1 : ByteArray) (r : Bool) (w : World) (h : stringslite_HasPrefix.f a0 a1 = some r) :
    Calls Tryd.prog 50 #[.string a0, .string a1] w fun e w' => e = .returned (.bool r) ∧ Drawn0 w w' := by
  have H : (if (a0.size : Int) ≥ (a1.size : Int) then (if 0 ≤ (a1.size : Int) then (if (a1.size : Int) ≤ (a0.size : Int) then (some ((a0.extract 0 ((a1.size : Int) : Int).toNat).toList == a1.toList)) else (none)) else (none)) else (some false)) = some r := h
  clear h
  by_cases c3 : (a0.size : Int) ≥ (a1.size : Int)
  · rw [if_pos c3] at H
    have c3b0 : decide ((a1.size : Int) ≤ (a0.size : Int)) = true := decide_eq_true c3
    have c3b1 : decide (a1.size ≤ a0.size) = true := decide_eq_true (Int.ofNat_le.mp c3)
    clear c3
    by_cases c4 : 0 ≤ (a1.size : Int)
    · rw [if_pos c4] at H
      have c4b0 := eq_true c4
      have c4b1 : decide (0 ≤ (a1.size : Int)) = true := decide_eq_true c4
      clear c4
      by_cases c5 : (a1.size : Int) ≤ (a0.size : Int)
      · rw [if_pos c5] at H
        have c5b0 := eq_true c5
        have c5b1 : decide ((a1.size : Int) ≤ (a0.size : Int)) = true := decide_eq_true c5
        clear c5
        obtain rfl := Option.some.inj H
        go_enter Tryd.func50, Tryd.ntmps50
        go_wp2
        go_ret
        exact ⟨by first | rfl | (simp; done) | (simp [*]; done), by repeat (first | exact Drawn0.refl _ | apply Drawn0.step)⟩
      · rw [if_neg c5] at H
        exact absurd H (by simp)
    · rw [if_neg c4] at H
      exact absurd H (by simp)
  · rw [if_neg c3] at H
    have c3b0 : decide ((a1.size : Int) ≤ (a0.size : Int)) = false := decide_eq_false c3
    have c3b1 : decide (a1.size ≤ a0.size) = false := decide_eq_false (fun h => c3 (Int.ofNat_le.mpr h))
    clear c3
    obtain rfl := Option.some.inj H
    go_enter Tryd.func50, Tryd.ntmps50
    go_wp2
    go_ret
    exact ⟨by first | rfl | (simp; done) | (simp [*]; done), by repeat (first | exact Drawn0.refl _ | apply Drawn0.step)⟩

end Go.Proofs.YtapfblaejmenlaaDoor.PK

namespace Go.Proofs.YtapfblaejmenlaaDoor.PK
open Go.RowKit Go.Proofs.YtapfblaejmenlaaDoorW.PrintWords Go.Proofs.YtapfblaejmenlaaDoorW.PrintLast Go.Proofs.YtapfblaejmenlaaDoorW.PrintMore
attribute [local go_sem] max2_int min2_int max_two min_two max_three min_three max_four min_four   -- for this text's walks alone
set_option linter.unusedVariables false
set_option linter.unusedSimpArgs false

/-! ### strings_HasPrefix: function 32 -/
def strings_HasPrefix.f (a0 : ByteArray) (a1 : ByteArray) : Option (Bool) := (stringslite_HasPrefix.f a0 a1).bind fun t101 => (some t101)
set_option maxHeartbeats 8000000 in
set_option maxRecDepth 100000 in
theorem strings_HasPrefix.calls (a0 : ByteArray) (a1 : ByteArray) (r : Bool) (w : World) (h : strings_HasPrefix.f a0 a1 = some r) :
    Calls Tryd.prog 32 #[.string a0, .string a1] w fun e w' => e = .returned (.bool r) ∧ Drawn0 w w' := by
  have H : ((stringslite_HasPrefix.f a0 a1).bind fun t101 => (some t101)) = some r := h
  clear h
  replace H := Option.bind_eq_some_iff.mp H
  obtain ⟨t101, A30, H⟩ := H
  replace H : (some t101) = some r := H
  have A3 := Aside0.mk A30
  clear A30
  obtain rfl := Option.some.inj H
  go_enter Tryd.func32, Tryd.ntmps32
  go_wp2_with (first | ((with_reducible refine gate_callee (f := 50) rfl ?_); refine goesL_ (some 7) rfl rfl Tryd.func50 (by kernel_rfl) rfl #[.string a0, .string a1] rfl (by (try simp only [List.map_toArray, List.map_cons, List.map_nil]); first | done | rfl | (simp only [List.length_drop, List.length_take]; rfl)) ?_; (with_reducible refine (stringslite_HasPrefix.calls a0 a1 t101 _ A3.out).mono ?_); rintro e w' ⟨rfl, ⟨nd, rfl⟩⟩; refine ⟨_, rfl, ?_⟩))
  go_ret
  exact ⟨by first | rfl | (simp; done) | (simp [*]; done), by repeat (first | exact Drawn0.refl _ | apply Drawn0.step)⟩

end Go.Proofs.YtapfblaejmenlaaDoor.PK

namespace Go.Proofs.YtapfblaejmenlaaDoor.PK
open Go.RowKit Go.Proofs.YtapfblaejmenlaaDoorW.PrintWords Go.Proofs.YtapfblaejmenlaaDoorW.PrintLast Go.Proofs.YtapfblaejmenlaaDoorW.PrintMore
attribute [local go_sem] max2_int min2_int max_two min_two max_three min_three max_four min_four   -- for this text's walks alone
set_option linter.unusedVariables false
set_option linter.unusedSimpArgs false

/-! ### rule_Class: function 26 -/
def rule_Class.f (a0 : ByteArray) : Option (Int) := if a0.toList = ([46, 80, 72, 79, 78, 89] : List UInt8) then (some 1) else (if a0.toList = ([46, 80, 82, 69, 67, 73, 79, 85, 83] : List UInt8) then (some 1) else (if a0.toList = ([46, 73, 71, 78, 79, 82, 69] : List UInt8) then (some 1) else (if a0.toList = ([46, 83, 73, 76, 69, 78, 84] : List UInt8) then (some 1) else (if a0.toList = ([46, 78, 79, 84, 77, 65, 73, 78] : List UInt8) then (some 1) else (if a0.toList = ([46, 69, 88, 69, 67] : List UInt8) then (some 1) else (if a0.toList = ([46, 77, 69, 84, 65] : List UInt8) then (some 1) else (if a0.toList = ([46, 79, 82, 68, 69, 82] : List UInt8) then (some 2) else (if a0.toList = ([46, 83, 85, 70, 70, 73, 88, 69, 83] : List UInt8) then (some 3) else (if a0.toList = ([46, 77, 65, 73, 78] : List UInt8) then (some 5) else (if a0.toList = ([46, 87, 65, 73, 84] : List UInt8) then (some 6) else (if a0.toList = ([46, 68, 69, 70, 65, 85, 76, 84] : List UInt8) then (some 7) else (if a0.toList = ([46, 66, 69, 71, 73, 78] : List UInt8) then (some 7) else (if a0.toList = ([46, 69, 78, 68] : List UInt8) then (some 7) else (if a0.toList = ([46, 73, 78, 84, 69, 82, 82, 85, 80, 84] : List UInt8) then (some 7) else (if a0.toList = ([46, 78, 79, 84, 80, 65, 82, 65, 76, 76, 69, 76] : List UInt8) then (some 8) else (if a0.size + 1 ≤ 9223372036854775807 then ((strings_HasPrefix.f (a0 ++ (⟨#[46]⟩ : ByteArray)) (⟨#[46, 80, 65, 84, 72, 46]⟩ : ByteArray)).bind fun t102 => (if t102 = true then (some 4) else (some 0))) else (none)))))))))))))))))
set_option maxHeartbeats 8000000 in
set_option maxRecDepth 100000 in
theorem rule_Class.calls (a0 : ByteArray) (r : Int) (w : World) (h : rule_Class.f a0 = some r) :
    Calls Tryd.prog 26 #[.string a0] w fun e w' => e = .returned (.int .i64 r) ∧ Drawn0 w w' := by
  have H : (if a0.toList = ([46, 80, 72, 79, 78, 89] : List UInt8) then (some 1) else (if a0.toList = ([46, 80, 82, 69, 67, 73, 79, 85, 83] : List UInt8) then (some 1) else (if a0.toList = ([46, 73, 71, 78, 79, 82, 69] : List UInt8) then (some 1) else (if a0.toList = ([46, 83, 73, 76, 69, 78, 84] : List UInt8) then (some 1) else (if a0.toList = ([46, 78, 79, 84, 77, 65, 73, 78] : List UInt8) then (some 1) else (if a0.toList = ([46, 69, 88, 69, 67] : List UInt8) then (some 1) else (if a0.toList = ([46, 77, 69, 84, 65] : List UInt8) then (some 1) else (if a0.toList = ([46, 79, 82, 68, 69, 82] : List UInt8) then (some 2) else (if a0.toList = ([46, 83, 85, 70, 70, 73, 88, 69, 83] : List UInt8) then (some 3) else (if a0.toList = ([46, 77, 65, 73, 78] : List UInt8) then (some 5) else (if a0.toList = ([46, 87, 65, 73, 84] : List UInt8) then (some 6) else (if a0.toList = ([46, 68, 69, 70, 65, 85, 76, 84] : List UInt8) then (some 7) else (if a0.toList = ([46, 66, 69, 71, 73, 78] : List UInt8) then (some 7) else (if a0.toList = ([46, 69, 78, 68] : List UInt8) then (some 7) else (if a0.toList = ([46, 73, 78, 84, 69, 82, 82, 85, 80, 84] : List UInt8) then (some 7) else (if a0.toList = ([46, 78, 79, 84, 80, 65, 82, 65, 76, 76, 69, 76] : List UInt8) then (some 8) else (if a0.size + 1 ≤ 9223372036854775807 then ((strings_HasPrefix.f (a0 ++ (⟨#[46]⟩ : ByteArray)) (⟨#[46, 80, 65, 84, 72, 46]⟩ : ByteArray)).bind fun t102 => (if t102 = true then (some 4) else (some 0))) else (none)))))))))))))))))) = some r := h
  clear h
  by_cases c2 : a0.toList = ([46, 80, 72, 79, 78, 89] : List UInt8)
  · rw [if_pos c2] at H
    have c2b0 : (a0.toList == ([46, 80, 72, 79, 78, 89] : List UInt8)) = true := beq_iff_eq.mpr c2
    have c2b1 : (a0.toList != ([46, 80, 72, 79, 78, 89] : List UInt8)) = false := bne_eq_false_iff_eq.mpr c2
    clear c2
    obtain rfl := Option.some.inj H
    go_enter Tryd.func26, Tryd.ntmps26
    go_wp2
    go_ret
    exact ⟨by first | rfl | (simp; done) | (simp [*]; done), by repeat (first | exact Drawn0.refl _ | apply Drawn0.step)⟩
  · rw [if_neg c2] at H
    have c2b0 : (a0.toList == ([46, 80, 72, 79, 78, 89] : List UInt8)) = false := beq_eq_false_iff_ne.mpr c2
    have c2b1 : (a0.toList != ([46, 80, 72, 79, 78, 89] : List UInt8)) = true := bne_iff_ne.mpr c2
    by_cases c3 : a0.toList = ([46, 80, 82, 69, 67, 73, 79, 85, 83] : List UInt8)
    · rw [if_pos c3] at H
      have c3b0 : (a0.toList == ([46, 80, 82, 69, 67, 73, 79, 85, 83] : List UInt8)) = true := beq_iff_eq.mpr c3
      have c3b1 : (a0.toList != ([46, 80, 82, 69, 67, 73, 79, 85, 83] : List UInt8)) = false := bne_eq_false_iff_eq.mpr c3
      clear c3
      obtain rfl := Option.some.inj H
      go_enter Tryd.func26, Tryd.ntmps26
      go_wp2
      go_ret
      exact ⟨by first | rfl | (simp; done) | (simp [*]; done), by repeat (first | exact Drawn0.refl _ | apply Drawn0.step)⟩
    · rw [if_neg c3] at H
      have c3b0 : (a0.toList == ([46, 80, 82, 69, 67, 73, 79, 85, 83] : List UInt8)) = false := beq_eq_false_iff_ne.mpr c3
      have c3b1 : (a0.toList != ([46, 80, 82, 69, 67, 73, 79, 85, 83] : List UInt8)) = true := bne_iff_ne.mpr c3
      by_cases c4 : a0.toList = ([46, 73, 71, 78, 79, 82, 69] : List UInt8)
      · rw [if_pos c4] at H
        have c4b0 : (a0.toList == ([46, 73, 71, 78, 79, 82, 69] : List UInt8)) = true := beq_iff_eq.mpr c4
        have c4b1 : (a0.toList != ([46, 73, 71, 78, 79, 82, 69] : List UInt8)) = false := bne_eq_false_iff_eq.mpr c4
        clear c4
        obtain rfl := Option.some.inj H
        go_enter Tryd.func26, Tryd.ntmps26
        go_wp2
        go_ret
        exact ⟨by first | rfl | (simp; done) | (simp [*]; done), by repeat (first | exact Drawn0.refl _ | apply Drawn0.step)⟩
      · rw [if_neg c4] at H
        have c4b0 : (a0.toList == ([46, 73, 71, 78, 79, 82, 69] : List UInt8)) = false := beq_eq_false_iff_ne.mpr c4
        have c4b1 : (a0.toList != ([46, 73, 71, 78, 79, 82, 69] : List UInt8)) = true := bne_iff_ne.mpr c4
        by_cases c5 : a0.toList = ([46, 83, 73, 76, 69, 78, 84] : List UInt8)
        · rw [if_pos c5] at H
          have c5b0 : (a0.toList == ([46, 83, 73, 76, 69, 78, 84] : List UInt8)) = true := beq_iff_eq.mpr c5
          have c5b1 : (a0.toList != ([46, 83, 73, 76, 69, 78, 84] : List UInt8)) = false := bne_eq_false_iff_eq.mpr c5
          clear c5
          obtain rfl := Option.some.inj H
          go_enter Tryd.func26, Tryd.ntmps26
          go_wp2
          go_ret
          exact ⟨by first | rfl | (simp; done) | (simp [*]; done), by repeat (first | exact Drawn0.refl _ | apply Drawn0.step)⟩
        · rw [if_neg c5] at H
          have c5b0 : (a0.toList == ([46, 83, 73, 76, 69, 78, 84] : List UInt8)) = false := beq_eq_false_iff_ne.mpr c5
          have c5b1 : (a0.toList != ([46, 83, 73, 76, 69, 78, 84] : List UInt8)) = true := bne_iff_ne.mpr c5
          by_cases c6 : a0.toList = ([46, 78, 79, 84, 77, 65, 73, 78] : List UInt8)
          · rw [if_pos c6] at H
            have c6b0 : (a0.toList == ([46, 78, 79, 84, 77, 65, 73, 78] : List UInt8)) = true := beq_iff_eq.mpr c6
            have c6b1 : (a0.toList != ([46, 78, 79, 84, 77, 65, 73, 78] : List UInt8)) = false := bne_eq_false_iff_eq.mpr c6
            clear c6
            obtain rfl := Option.some.inj H
            go_enter Tryd.func26, Tryd.ntmps26
            go_wp2
            go_ret
            exact ⟨by first | rfl | (simp; done) | (simp [*]; done), by repeat (first | exact Drawn0.refl _ | apply Drawn0.step)⟩
          · rw [if_neg c6] at H
            have c6b0 : (a0.toList == ([46, 78, 79, 84, 77, 65, 73, 78] : List UInt8)) = false := beq_eq_false_iff_ne.mpr c6
            have c6b1 : (a0.toList != ([46, 78, 79, 84, 77, 65, 73, 78] : List UInt8)) = true := bne_iff_ne.mpr c6
            by_cases c7 : a0.toList = ([46, 69, 88, 69, 67] : List UInt8)
            · rw [if_pos c7] at H
              have c7b0 : (a0.toList == ([46, 69, 88, 69, 67] : List UInt8)) = true := beq_iff_eq.mpr c7
              have c7b1 : (a0.toList != ([46, 69, 88, 69, 67] : List UInt8)) = false := bne_eq_false_iff_eq.mpr c7
              clear c7
              obtain rfl := Option.some.inj H
              go_enter Tryd.func26, Tryd.ntmps26
              go_wp2
              go_ret
              exact ⟨by first | rfl | (simp; done) | (simp [*]; done), by repeat (first | exact Drawn0.refl _ | apply Drawn0.step)⟩
            · rw [if_neg c7] at H
              have c7b0 : (a0.toList == ([46, 69, 88, 69, 67] : List UInt8)) = false := beq_eq_false_iff_ne.mpr c7
              have c7b1 : (a0.toList != ([46, 69, 88, 69, 67] : List UInt8)) = true := bne_iff_ne.mpr c7
              by_cases c8 : a0.toList = ([46, 77, 69, 84, 65] : List UInt8)
              · rw [if_pos c8] at H
                have c8b0 : (a0.toList == ([46, 77, 69, 84, 65] : List UInt8)) = true := beq_iff_eq.mpr c8
                have c8b1 : (a0.toList != ([46, 77, 69, 84, 65] : List UInt8)) = false := bne_eq_false_iff_eq.mpr c8
                clear c8
                obtain rfl := Option.some.inj H
                go_enter Tryd.func26, Tryd.ntmps26
                go_wp2
                go_ret
                exact ⟨by first | rfl | (simp; done) | (simp [*]; done), by repeat (first | exact Drawn0.refl _ | apply Drawn0.step)⟩
              · rw [if_neg c8] at H
                have c8b0 : (a0.toList == ([46, 77, 69, 84, 65] : List UInt8)) = false := beq_eq_false_iff_ne.mpr c8
                have c8b1 : (a0.toList != ([46, 77, 69, 84, 65] : List UInt8)) = true := bne_iff_ne.mpr c8
                by_cases c9 : a0.toList = ([46, 79, 82, 68, 69, 82] : List UInt8)
                · rw [if_pos c9] at H
                  have c9b0 : (a0.toList == ([46, 79, 82, 68, 69, 82] : List UInt8)) = true := beq_iff_eq.mpr c9
                  have c9b1 : (a0.toList != ([46, 79, 82, 68, 69, 82] : List UInt8)) = false := bne_eq_false_iff_eq.mpr c9
                  clear c9
                  obtain rfl := Option.some.inj H
                  go_enter Tryd.func26, Tryd.ntmps26
                  go_wp2
                  go_ret
                  exact ⟨by first | rfl | (simp; done) | (simp [*]; done), by repeat (first | exact Drawn0.refl _ | apply Drawn0.step)⟩
                · rw [if_neg c9] at H
                  have c9b0 : (a0.toList == ([46, 79, 82, 68, 69, 82] : List UInt8)) = false := beq_eq_false_iff_ne.mpr c9
                  have c9b1 : (a0.toList != ([46, 79, 82, 68, 69, 82] : List UInt8)) = true := bne_iff_ne.mpr c9
                  by_cases c10 : a0.toList = ([46, 83, 85, 70, 70, 73, 88, 69, 83] : List UInt8)
                  · rw [if_pos c10] at H
                    have c10b0 : (a0.toList == ([46, 83, 85, 70, 70, 73, 88, 69, 83] : List UInt8)) = true := beq_iff_eq.mpr c10
                    have c10b1 : (a0.toList != ([46, 83, 85, 70, 70, 73, 88, 69, 83] : List UInt8)) = false := bne_eq_false_iff_eq.mpr c10
                    clear c10
                    obtain rfl := Option.some.inj H
                    go_enter Tryd.func26, Tryd.ntmps26
                    go_wp2
                    go_ret
                    exact ⟨by first | rfl | (simp; done) | (simp [*]; done), by repeat (first | exact Drawn0.refl _ | apply Drawn0.step)⟩
                  · rw [if_neg c10] at H
                    have c10b0 : (a0.toList == ([46, 83, 85, 70, 70, 73, 88, 69, 83] : List UInt8)) = false := beq_eq_false_iff_ne.mpr c10
                    have c10b1 : (a0.toList != ([46, 83, 85, 70, 70, 73, 88, 69, 83] : List UInt8)) = true := bne_iff_ne.mpr c10
                    by_cases c11 : a0.toList = ([46, 77, 65, 73, 78] : List UInt8)
                    · rw [if_pos c11] at H
                      have c11b0 : (a0.toList == ([46, 77, 65, 73, 78] : List UInt8)) = true := beq_iff_eq.mpr c11
                      have c11b1 : (a0.toList != ([46, 77, 65, 73, 78] : List UInt8)) = false := bne_eq_false_iff_eq.mpr c11
                      clear c11
                      obtain rfl := Option.some.inj H
                      go_enter Tryd.func26, Tryd.ntmps26
                      go_wp2
                      go_ret
                      exact ⟨by first | rfl | (simp; done) | (simp [*]; done), by repeat (first | exact Drawn0.refl _ | apply Drawn0.step)⟩
                    · rw [if_neg c11] at H
                      have c11b0 : (a0.toList == ([46, 77, 65, 73, 78] : List UInt8)) = false := beq_eq_false_iff_ne.mpr c11
                      have c11b1 : (a0.toList != ([46, 77, 65, 73, 78] : List UInt8)) = true := bne_iff_ne.mpr c11
                      by_cases c12 : a0.toList = ([46, 87, 65, 73, 84] : List UInt8)
                      · rw [if_pos c12] at H
                        have c12b0 : (a0.toList == ([46, 87, 65, 73, 84] : List UInt8)) = true := beq_iff_eq.mpr c12
                        have c12b1 : (a0.toList != ([46, 87, 65, 73, 84] : List UInt8)) = false := bne_eq_false_iff_eq.mpr c12
                        clear c12
                        obtain rfl := Option.some.inj H
                        go_enter Tryd.func26, Tryd.ntmps26
                        go_wp2
                        go_ret
                        exact ⟨by first | rfl | (simp; done) | (simp [*]; done), by repeat (first | exact Drawn0.refl _ | apply Drawn0.step)⟩
                      · rw [if_neg c12] at H
                        have c12b0 : (a0.toList == ([46, 87, 65, 73, 84] : List UInt8)) = false := beq_eq_false_iff_ne.mpr c12
                        have c12b1 : (a0.toList != ([46, 87, 65, 73, 84] : List UInt8)) = true := bne_iff_ne.mpr c12
                        by_cases c13 : a0.toList = ([46, 68, 69, 70, 65, 85, 76, 84] : List UInt8)
                        · rw [if_pos c13] at H
                          have c13b0 : (a0.toList == ([46, 68, 69, 70, 65, 85, 76, 84] : List UInt8)) = true := beq_iff_eq.mpr c13
                          have c13b1 : (a0.toList != ([46, 68, 69, 70, 65, 85, 76, 84] : List UInt8)) = false := bne_eq_false_iff_eq.mpr c13
                          clear c13
                          obtain rfl := Option.some.inj H
                          go_enter Tryd.func26, Tryd.ntmps26
                          go_wp2
                          go_ret
                          exact ⟨by first | rfl | (simp; done) | (simp [*]; done), by repeat (first | exact Drawn0.refl _ | apply Drawn0.step)⟩
                        · rw [if_neg c13] at H
                          have c13b0 : (a0.toList == ([46, 68, 69, 70, 65, 85, 76, 84] : List UInt8)) = false := beq_eq_false_iff_ne.mpr c13
                          have c13b1 : (a0.toList != ([46, 68, 69, 70, 65, 85, 76, 84] : List UInt8)) = true := bne_iff_ne.mpr c13
                          by_cases c14 : a0.toList = ([46, 66, 69, 71, 73, 78] : List UInt8)
                          · rw [if_pos c14] at H
                            have c14b0 : (a0.toList == ([46, 66, 69, 71, 73, 78] : List UInt8)) = true := beq_iff_eq.mpr c14
                            have c14b1 : (a0.toList != ([46, 66, 69, 71, 73, 78] : List UInt8)) = false := bne_eq_false_iff_eq.mpr c14
                            clear c14
                            obtain rfl := Option.some.inj H
                            go_enter Tryd.func26, Tryd.ntmps26
                            go_wp2
                            go_ret
                            exact ⟨by first | rfl | (simp; done) | (simp [*]; done), by repeat (first | exact Drawn0.refl _ | apply Drawn0.step)⟩
                          · rw [if_neg c14] at H
                            have c14b0 : (a0.toList == ([46, 66, 69, 71, 73, 78] : List UInt8)) = false := beq_eq_false_iff_ne.mpr c14
                            have c14b1 : (a0.toList != ([46, 66, 69, 71, 73, 78] : List UInt8)) = true := bne_iff_ne.mpr c14
                            by_cases c15 : a0.toList = ([46, 69, 78, 68] : List UInt8)
                            · rw [if_pos c15] at H
                              have c15b0 : (a0.toList == ([46, 69, 78, 68] : List UInt8)) = true := beq_iff_eq.mpr c15
                              have c15b1 : (a0.toList != ([46, 69, 78, 68] : List UInt8)) = false := bne_eq_false_iff_eq.mpr c15
                              clear c15
                              obtain rfl := Option.some.inj H
                              go_enter Tryd.func26, Tryd.ntmps26
                              go_wp2
                              go_ret
                              exact ⟨by first | rfl | (simp; done) | (simp [*]; done), by repeat (first | exact Drawn0.refl _ | apply Drawn0.step)⟩
                            · rw [if_neg c15] at H
                              have c15b0 : (a0.toList == ([46, 69, 78, 68] : List UInt8)) = false := beq_eq_false_iff_ne.mpr c15
                              have c15b1 : (a0.toList != ([46, 69, 78, 68] : List UInt8)) = true := bne_iff_ne.mpr c15
                              by_cases c16 : a0.toList = ([46, 73, 78, 84, 69, 82, 82, 85, 80, 84] : List UInt8)
                              · rw [if_pos c16] at H
                                have c16b0 : (a0.toList == ([46, 73, 78, 84, 69, 82, 82, 85, 80, 84] : List UInt8)) = true := beq_iff_eq.mpr c16
                                have c16b1 : (a0.toList != ([46, 73, 78, 84, 69, 82, 82, 85, 80, 84] : List UInt8)) = false := bne_eq_false_iff_eq.mpr c16
                                clear c16
                                obtain rfl := Option.some.inj H
                                go_enter Tryd.func26, Tryd.ntmps26
                                go_wp2
                                go_ret
                                exact ⟨by first | rfl | (simp; done) | (simp [*]; done), by repeat (first | exact Drawn0.refl _ | apply Drawn0.step)⟩
                              · rw [if_neg c16] at H
                                have c16b0 : (a0.toList == ([46, 73, 78, 84, 69, 82, 82, 85, 80, 84] : List UInt8)) = false := beq_eq_false_iff_ne.mpr c16
                                have c16b1 : (a0.toList != ([46, 73, 78, 84, 69, 82, 82, 85, 80, 84] : List UInt8)) = true := bne_iff_ne.mpr c16
                                by_cases c17 : a0.toList = ([46, 78, 79, 84, 80, 65, 82, 65, 76, 76, 69, 76] : List UInt8)
                                · rw [if_pos c17] at H
                                  have c17b0 : (a0.toList == ([46, 78, 79, 84, 80, 65, 82, 65, 76, 76, 69, 76] : List UInt8)) = true := beq_iff_eq.mpr c17
                                  have c17b1 : (a0.toList != ([46, 78, 79, 84, 80, 65, 82, 65, 76, 76, 69, 76] : List UInt8)) = false := bne_eq_false_iff_eq.mpr c17
                                  clear c17
                                  obtain rfl := Option.some.inj H
                                  go_enter Tryd.func26, Tryd.ntmps26
                                  go_wp2
                                  go_ret
                                  exact ⟨by first | rfl | (simp; done) | (simp [*]; done), by repeat (first | exact Drawn0.refl _ | apply Drawn0.step)⟩
                                · rw [if_neg c17] at H
                                  have c17b0 : (a0.toList == ([46, 78, 79, 84, 80, 65, 82, 65, 76, 76, 69, 76] : List UInt8)) = false := beq_eq_false_iff_ne.mpr c17
                                  have c17b1 : (a0.toList != ([46, 78, 79, 84, 80, 65, 82, 65, 76, 76, 69, 76] : List UInt8)) = true := bne_iff_ne.mpr c17
                                  by_cases c18 : a0.size + 1 ≤ 9223372036854775807
                                  · rw [if_pos c18] at H
                                    have c18b0 := eq_true c18
                                    have c18b1 : decide (a0.size + 1 ≤ 9223372036854775807) = true := decide_eq_true c18
                                    try have c18b2 : (9223372036854775807 < a0.size + 1) = False := eq_false (Nat.not_lt.2 c18)
                                    replace H := Option.bind_eq_some_iff.mp H
                                    obtain ⟨t102, A190, H⟩ := H
                                    replace H : (if t102 = true then (some 4) else (some 0)) = some r := H
                                    have A19 := Aside0.mk A190
                                    clear A190
                                    by_cases c20 : t102 = true
                                    · subst c20
                                      have H1 : (some 4) = some r := by rw [if_pos rfl] at H; exact H
                                      clear H
                                      have H := H1
                                      clear H1
                                      obtain rfl := Option.some.inj H
                                      go_enter Tryd.func26, Tryd.ntmps26
                                      go_wp2_with (first | ((with_reducible refine gate_callee (f := 32) rfl ?_); refine goesL_ (some 29) rfl rfl Tryd.func32 (by kernel_rfl) rfl #[.string (a0 ++ (⟨#[46]⟩ : ByteArray)), .string (⟨#[46, 80, 65, 84, 72, 46]⟩ : ByteArray)] rfl (by (try simp only [List.map_toArray, List.map_cons, List.map_nil]); first | done | rfl | (simp only [List.length_drop, List.length_take]; rfl)) ?_; (with_reducible refine (strings_HasPrefix.calls (a0 ++ (⟨#[46]⟩ : ByteArray)) (⟨#[46, 80, 65, 84, 72, 46]⟩ : ByteArray) true _ A19.out).mono ?_); rintro e w' ⟨rfl, ⟨nd, rfl⟩⟩; refine ⟨_, rfl, ?_⟩))
                                      go_ret
                                      exact ⟨by first | rfl | (simp; done) | (simp [*]; done), by repeat (first | exact Drawn0.refl _ | apply Drawn0.step)⟩
                                    · replace c20 := Bool.eq_false_iff.mpr c20
                                      subst c20
                                      have H1 : (some 0) = some r := by rw [if_neg (show ¬ (false = true) by decide)] at H; exact H
                                      clear H
                                      have H := H1
                                      clear H1
                                      obtain rfl := Option.some.inj H
                                      go_enter Tryd.func26, Tryd.ntmps26
                                      go_wp2_with (first | ((with_reducible refine gate_callee (f := 32) rfl ?_); refine goesL_ (some 29) rfl rfl Tryd.func32 (by kernel_rfl) rfl #[.string (a0 ++ (⟨#[46]⟩ : ByteArray)), .string (⟨#[46, 80, 65, 84, 72, 46]⟩ : ByteArray)] rfl (by (try simp only [List.map_toArray, List.map_cons, List.map_nil]); first | done | rfl | (simp only [List.length_drop, List.length_take]; rfl)) ?_; (with_reducible refine (strings_HasPrefix.calls (a0 ++ (⟨#[46]⟩ : ByteArray)) (⟨#[46, 80, 65, 84, 72, 46]⟩ : ByteArray) false _ A19.out).mono ?_); rintro e w' ⟨rfl, ⟨nd, rfl⟩⟩; refine ⟨_, rfl, ?_⟩))
                                      go_ret
                                      exact ⟨by first | rfl | (simp; done) | (simp [*]; done), by repeat (first | exact Drawn0.refl _ | apply Drawn0.step)⟩
                                  · rw [if_neg c18] at H
                                    exact absurd H (by simp)

end Go.Proofs.YtapfblaejmenlaaDoor.PK

