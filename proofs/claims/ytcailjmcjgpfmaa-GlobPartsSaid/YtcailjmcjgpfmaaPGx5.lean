-- PRINTED by print.py (a twelfth state) out of the translation. Not trusted: Lean checks it.
import Derived.Test.YtcailjmcjgpfmaaPGx0
import Derived.Test.YtcailjmcjgpfmaaPGx2
import Derived.Test.YtcailjmcjgpfmaaPGx3
import Derived.Test.YtcailjmcjgpfmaaPGx4
namespace Go.Proofs.Ytcailjmcjgpfmaa.PG
open Go.RowKit Go.Proofs.YtcailjmcjgpfmaaW.PrintWords Go.Proofs.YtcailjmcjgpfmaaW.PrintLast Go.Proofs.YtcailjmcjgpfmaaW.PrintMore
attribute [local go_sem] max2_int min2_int max_two min_two max_three min_three max_four min_four   -- for this text's walks alone
set_option linter.unusedVariables false
set_option linter.unusedSimpArgs false

/-! ### bobstaylaw01_alive: function 10 -/
def bobstaylaw01_alive.f  : Option (Bool) := (glob_Match.f (⟨#[91, 97, 45, 99, 93, 63, 46, 42]⟩ : ByteArray) (⟨#[98, 120, 46, 111]⟩ : ByteArray)).bind fun t101 => (if t101 = true then ((glob_Match.f (⟨#[91, 97, 45, 99, 93, 63, 46, 42]⟩ : ByteArray) (⟨#[100, 120, 46, 111]⟩ : ByteArray)).bind fun t102 => (if t102 = true then (some false) else ((glob_Quote.f (⟨#[42]⟩ : ByteArray)).bind fun t103 => (if t103.toList = ([92, 42] : List UInt8) then ((glob_Plain.f (⟨#[97]⟩ : ByteArray)).bind fun t104 => (some t104)) else (some false))))) else (some false))
set_option maxHeartbeats 8000000 in
set_option maxRecDepth 100000 in
theorem bobstaylaw01_alive.calls  (r : Bool) (w : World) (h : bobstaylaw01_alive.f  = some r) :
    Calls Try.prog 10 #[] w fun e w' => e = .returned (.bool r) ∧ Below w.heap.size w w' := by
  have HB := Aside0.mk (Below.refl w.heap.size w)
  have H : ((glob_Match.f (⟨#[91, 97, 45, 99, 93, 63, 46, 42]⟩ : ByteArray) (⟨#[98, 120, 46, 111]⟩ : ByteArray)).bind fun t101 => (if t101 = true then ((glob_Match.f (⟨#[91, 97, 45, 99, 93, 63, 46, 42]⟩ : ByteArray) (⟨#[100, 120, 46, 111]⟩ : ByteArray)).bind fun t102 => (if t102 = true then (some false) else ((glob_Quote.f (⟨#[42]⟩ : ByteArray)).bind fun t103 => (if t103.toList = ([92, 42] : List UInt8) then ((glob_Plain.f (⟨#[97]⟩ : ByteArray)).bind fun t104 => (some t104)) else (some false))))) else (some false))) = some r := h
  clear h
  replace H := Option.bind_eq_some_iff.mp H
  obtain ⟨t101, A10, H⟩ := H
  replace H : (if t101 = true then ((glob_Match.f (⟨#[91, 97, 45, 99, 93, 63, 46, 42]⟩ : ByteArray) (⟨#[100, 120, 46, 111]⟩ : ByteArray)).bind fun t102 => (if t102 = true then (some false) else ((glob_Quote.f (⟨#[42]⟩ : ByteArray)).bind fun t103 => (if t103.toList = ([92, 42] : List UInt8) then ((glob_Plain.f (⟨#[97]⟩ : ByteArray)).bind fun t104 => (some t104)) else (some false))))) else (some false)) = some r := H
  have A1 := Aside0.mk A10
  clear A10
  by_cases c2 : t101 = true
  · subst c2
    have H1 : ((glob_Match.f (⟨#[91, 97, 45, 99, 93, 63, 46, 42]⟩ : ByteArray) (⟨#[100, 120, 46, 111]⟩ : ByteArray)).bind fun t102 => (if t102 = true then (some false) else ((glob_Quote.f (⟨#[42]⟩ : ByteArray)).bind fun t103 => (if t103.toList = ([92, 42] : List UInt8) then ((glob_Plain.f (⟨#[97]⟩ : ByteArray)).bind fun t104 => (some t104)) else (some false))))) = some r := by rw [if_pos rfl] at H; exact H
    clear H
    have H := H1
    clear H1
    replace H := Option.bind_eq_some_iff.mp H
    obtain ⟨t102, A30, H⟩ := H
    replace H : (if t102 = true then (some false) else ((glob_Quote.f (⟨#[42]⟩ : ByteArray)).bind fun t103 => (if t103.toList = ([92, 42] : List UInt8) then ((glob_Plain.f (⟨#[97]⟩ : ByteArray)).bind fun t104 => (some t104)) else (some false)))) = some r := H
    have A3 := Aside0.mk A30
    clear A30
    by_cases c4 : t102 = true
    · subst c4
      have H1 : (some false) = some r := by rw [if_pos rfl] at H; exact H
      clear H
      have H := H1
      clear H1
      obtain rfl := Option.some.inj H
      go_enter Try.func10, Try.ntmps10
      go_wp2_with (first | ((with_reducible refine gate_callee (f := 11) rfl ?_); refine goesL_ (some 1) rfl rfl Try.func11 (by kernel_rfl) rfl #[.string (⟨#[91, 97, 45, 99, 93, 63, 46, 42]⟩ : ByteArray), .string (⟨#[98, 120, 46, 111]⟩ : ByteArray)] rfl (by (try simp only [List.map_toArray, List.map_cons, List.map_nil]); first | done | rfl | (simp only [List.length_drop, List.length_take]; rfl)) ?_; (with_reducible refine (glob_Match.calls (⟨#[91, 97, 45, 99, 93, 63, 46, 42]⟩ : ByteArray) (⟨#[98, 120, 46, 111]⟩ : ByteArray) true _ A1.out).mono ?_); rintro e w' ⟨rfl, ⟨nd, rfl⟩⟩; refine ⟨_, rfl, ?_⟩) | (go_at_call 11; (with_reducible refine (glob_Match.calls (⟨#[91, 97, 45, 99, 93, 63, 46, 42]⟩ : ByteArray) (⟨#[100, 120, 46, 111]⟩ : ByteArray) true _ A3.out).mono ?_); rintro e w' ⟨rfl, ⟨nd, rfl⟩⟩))
      go_ret
      exact ⟨by first | rfl | (simp [errW_none, errW_some] <;> rfl) | (simp [*, errW_none, errW_some] <;> rfl), by repeat (first | (with_reducible first | exact HB.out | apply below_alloc | apply pw_below_drewN | apply below_drew1) | exact HB.out)⟩
    · replace c4 := Bool.eq_false_iff.mpr c4
      subst c4
      have H1 : ((glob_Quote.f (⟨#[42]⟩ : ByteArray)).bind fun t103 => (if t103.toList = ([92, 42] : List UInt8) then ((glob_Plain.f (⟨#[97]⟩ : ByteArray)).bind fun t104 => (some t104)) else (some false))) = some r := by rw [if_neg (show ¬ (false = true) by decide)] at H; exact H
      clear H
      have H := H1
      clear H1
      replace H := Option.bind_eq_some_iff.mp H
      obtain ⟨t103, A50, H⟩ := H
      replace H : (if t103.toList = ([92, 42] : List UInt8) then ((glob_Plain.f (⟨#[97]⟩ : ByteArray)).bind fun t104 => (some t104)) else (some false)) = some r := H
      have A5 := Aside0.mk A50
      clear A50
      by_cases c6 : t103.toList = ([92, 42] : List UInt8)
      · rw [if_pos c6] at H
        have c6b0 : (t103.toList == ([92, 42] : List UInt8)) = true := beq_iff_eq.mpr c6
        have c6b1 : (t103.toList != ([92, 42] : List UInt8)) = false := bne_eq_false_iff_eq.mpr c6
        clear c6
        replace H := Option.bind_eq_some_iff.mp H
        obtain ⟨t104, A70, H⟩ := H
        replace H : (some t104) = some r := H
        have A7 := Aside0.mk A70
        clear A70
        obtain rfl := Option.some.inj H
        go_enter Try.func10, Try.ntmps10
        go_wp2_with (first | ((with_reducible refine gate_callee (f := 11) rfl ?_); refine goesL_ (some 1) rfl rfl Try.func11 (by kernel_rfl) rfl #[.string (⟨#[91, 97, 45, 99, 93, 63, 46, 42]⟩ : ByteArray), .string (⟨#[98, 120, 46, 111]⟩ : ByteArray)] rfl (by (try simp only [List.map_toArray, List.map_cons, List.map_nil]); first | done | rfl | (simp only [List.length_drop, List.length_take]; rfl)) ?_; (with_reducible refine (glob_Match.calls (⟨#[91, 97, 45, 99, 93, 63, 46, 42]⟩ : ByteArray) (⟨#[98, 120, 46, 111]⟩ : ByteArray) true _ A1.out).mono ?_); rintro e w' ⟨rfl, ⟨nd, rfl⟩⟩; refine ⟨_, rfl, ?_⟩) | (go_at_call 11; (with_reducible refine (glob_Match.calls (⟨#[91, 97, 45, 99, 93, 63, 46, 42]⟩ : ByteArray) (⟨#[100, 120, 46, 111]⟩ : ByteArray) false _ A3.out).mono ?_); rintro e w' ⟨rfl, ⟨nd, rfl⟩⟩) | (go_at_call 15; (with_reducible refine (glob_Quote.calls (⟨#[42]⟩ : ByteArray) t103 _ A5.out).mono ?_); rintro e w8 ⟨rfl, hb⟩; have n0_ := Aside0.mk (below_step (by repeat (first | (with_reducible first | exact HB.out | apply below_alloc | apply pw_below_drewN | apply below_drew1) | exact HB.out)) hb); clear HB; have HB := n0_; clear n0_; (try clear hb); (try clear hb2); (try clear hk); (try clear hi)) | (go_at_call 13; (with_reducible refine (glob_Plain.calls (⟨#[97]⟩ : ByteArray) t104 _ A7.out).mono ?_); rintro e w9 ⟨rfl, hb⟩; have n0_ := Aside0.mk (below_step (by repeat (first | (with_reducible first | exact HB.out | apply below_alloc | apply pw_below_drewN | apply below_drew1) | exact HB.out)) hb); clear HB; have HB := n0_; clear n0_; (try clear hb); (try clear hb2); (try clear hk); (try clear hi)))
        go_ret
        exact ⟨by first | rfl | (simp [errW_none, errW_some] <;> rfl) | (simp [*, errW_none, errW_some] <;> rfl), by repeat (first | (with_reducible first | exact HB.out | apply below_alloc | apply pw_below_drewN | apply below_drew1) | exact HB.out)⟩
      · rw [if_neg c6] at H
        have c6b0 : (t103.toList == ([92, 42] : List UInt8)) = false := beq_eq_false_iff_ne.mpr c6
        have c6b1 : (t103.toList != ([92, 42] : List UInt8)) = true := bne_iff_ne.mpr c6
        obtain rfl := Option.some.inj H
        go_enter Try.func10, Try.ntmps10
        go_wp2_with (first | ((with_reducible refine gate_callee (f := 11) rfl ?_); refine goesL_ (some 1) rfl rfl Try.func11 (by kernel_rfl) rfl #[.string (⟨#[91, 97, 45, 99, 93, 63, 46, 42]⟩ : ByteArray), .string (⟨#[98, 120, 46, 111]⟩ : ByteArray)] rfl (by (try simp only [List.map_toArray, List.map_cons, List.map_nil]); first | done | rfl | (simp only [List.length_drop, List.length_take]; rfl)) ?_; (with_reducible refine (glob_Match.calls (⟨#[91, 97, 45, 99, 93, 63, 46, 42]⟩ : ByteArray) (⟨#[98, 120, 46, 111]⟩ : ByteArray) true _ A1.out).mono ?_); rintro e w' ⟨rfl, ⟨nd, rfl⟩⟩; refine ⟨_, rfl, ?_⟩) | (go_at_call 11; (with_reducible refine (glob_Match.calls (⟨#[91, 97, 45, 99, 93, 63, 46, 42]⟩ : ByteArray) (⟨#[100, 120, 46, 111]⟩ : ByteArray) false _ A3.out).mono ?_); rintro e w' ⟨rfl, ⟨nd, rfl⟩⟩) | (go_at_call 15; (with_reducible refine (glob_Quote.calls (⟨#[42]⟩ : ByteArray) t103 _ A5.out).mono ?_); rintro e w10 ⟨rfl, hb⟩; have n0_ := Aside0.mk (below_step (by repeat (first | (with_reducible first | exact HB.out | apply below_alloc | apply pw_below_drewN | apply below_drew1) | exact HB.out)) hb); clear HB; have HB := n0_; clear n0_; (try clear hb); (try clear hb2); (try clear hk); (try clear hi)))
        go_ret
        exact ⟨by first | rfl | (simp [errW_none, errW_some] <;> rfl) | (simp [*, errW_none, errW_some] <;> rfl), by repeat (first | (with_reducible first | exact HB.out | apply below_alloc | apply pw_below_drewN | apply below_drew1) | exact HB.out)⟩
  · replace c2 := Bool.eq_false_iff.mpr c2
    subst c2
    have H1 : (some false) = some r := by rw [if_neg (show ¬ (false = true) by decide)] at H; exact H
    clear H
    have H := H1
    clear H1
    obtain rfl := Option.some.inj H
    go_enter Try.func10, Try.ntmps10
    go_wp2_with (first | ((with_reducible refine gate_callee (f := 11) rfl ?_); refine goesL_ (some 1) rfl rfl Try.func11 (by kernel_rfl) rfl #[.string (⟨#[91, 97, 45, 99, 93, 63, 46, 42]⟩ : ByteArray), .string (⟨#[98, 120, 46, 111]⟩ : ByteArray)] rfl (by (try simp only [List.map_toArray, List.map_cons, List.map_nil]); first | done | rfl | (simp only [List.length_drop, List.length_take]; rfl)) ?_; (with_reducible refine (glob_Match.calls (⟨#[91, 97, 45, 99, 93, 63, 46, 42]⟩ : ByteArray) (⟨#[98, 120, 46, 111]⟩ : ByteArray) false _ A1.out).mono ?_); rintro e w' ⟨rfl, ⟨nd, rfl⟩⟩; refine ⟨_, rfl, ?_⟩))
    go_ret
    exact ⟨by first | rfl | (simp [errW_none, errW_some] <;> rfl) | (simp [*, errW_none, errW_some] <;> rfl), by repeat (first | (with_reducible first | exact HB.out | apply below_alloc | apply pw_below_drewN | apply below_drew1) | exact HB.out)⟩

end Go.Proofs.Ytcailjmcjgpfmaa.PG
