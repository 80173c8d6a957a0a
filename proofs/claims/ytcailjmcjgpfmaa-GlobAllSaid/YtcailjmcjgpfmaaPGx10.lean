-- PRINTED by print.py (a twelfth state) out of the translation. Not trusted: Lean checks it.
import Derived.Test.YtcailjmcjgpfmaaPGx0
import Derived.Test.YtcailjmcjgpfmaaPGx1
import Derived.Test.YtcailjmcjgpfmaaPGx2
import Derived.Test.YtcailjmcjgpfmaaPGx4
import Derived.Test.YtcailjmcjgpfmaaPGx5
namespace Go.Proofs.Ytcailjmcjgpfmaa.PG
open Go.RowKit Go.Proofs.YtcailjmcjgpfmaaW.PrintWords Go.Proofs.YtcailjmcjgpfmaaW.PrintLast Go.Proofs.YtcailjmcjgpfmaaW.PrintMore
attribute [local go_sem] max2_int min2_int max_two min_two max_three min_three max_four min_four   -- for this text's walks alone
set_option linter.unusedVariables false
set_option linter.unusedSimpArgs false

/-! ### bobstaylaw01_GlobAll: function 5 -/
def bobstaylaw01_GlobAll.j0 : Nat → ByteArray → ByteArray → ByteArray → Bool → Option (Bool)
  | 0, _, _, _, _ => none
  | k + 1, x0, x1, x2, x15 => if x15 = true then ((bobstaylaw01_alive.f).bind fun t120 => (some t120)) else ((glob_Quote.f x0).bind fun t121 => ((glob_Quote.f x2).bind fun t122 => ((glob_Match.f (⟨#[42]⟩ : ByteArray) x1).bind fun t123 => (if t123 = true then (if t121.size + 1 ≤ 9223372036854775807 then (if x0.size + x1.size ≤ 9223372036854775807 then ((glob_Match.f (t121 ++ (⟨#[42]⟩ : ByteArray)) (x0 ++ x1)).bind fun t124 => (if t124 = true then (if 1 + t122.size ≤ 9223372036854775807 then (if x1.size + x2.size ≤ 9223372036854775807 then ((glob_Match.f ((⟨#[42]⟩ : ByteArray) ++ t122) (x1 ++ x2)).bind fun t125 => (if t125 = true then (if (t121 ++ (⟨#[42]⟩ : ByteArray)).size + t122.size ≤ 9223372036854775807 then (if (x0 ++ x1).size + x2.size ≤ 9223372036854775807 then ((glob_Match.f ((t121 ++ (⟨#[42]⟩ : ByteArray)) ++ t122) ((x0 ++ x1) ++ x2)).bind fun t126 => (if t126 = true then ((bobstaylaw01_alive.f).bind fun t127 => (some t127)) else (some false))) else (none)) else (none)) else (some false))) else (none)) else (none)) else (some false))) else (none)) else (none)) else (some false)))))
def bobstaylaw01_GlobAll.f (k : Nat) (a0 : ByteArray) (a1 : ByteArray) (a2 : ByteArray) : Option (Bool) := (bobstaylaw01_far.f a0 a1).bind fun t118 => (if t118 = true then (bobstaylaw01_GlobAll.j0 k a0 a1 a2 true) else ((bobstaylaw01_far.f a2 (⟨#[]⟩ : ByteArray)).bind fun t119 => (bobstaylaw01_GlobAll.j0 k a0 a1 a2 t119)))
theorem bobstaylaw01_GlobAll.mono_l : ∀ k, (∀ y0 y1 y2 y3, LeO (bobstaylaw01_GlobAll.j0 k y0 y1 y2 y3) (bobstaylaw01_GlobAll.j0 (k + 1) y0 y1 y2 y3))
  | 0 => fun _ _ _ _ r h => by simp [bobstaylaw01_GlobAll.j0] at h
  | k + 1 => by
    have ih0 := bobstaylaw01_GlobAll.mono_l k
    · intro y0 y1 y2 y3
      unfold bobstaylaw01_GlobAll.j0
      repeat' first
      | (with_reducible exact ih0 _ _ _ _)
      | (with_reducible exact LeO.refl _)
      | (with_reducible exact LeO.none _)
      | (with_reducible refine LeO.ite ?_ ?_)
      | (with_reducible refine LeO.bind ?_ (fun _ => ?_))
      | exact ih0 _ _ _ _
      | exact LeO.none _
      | refine LeO.ite ?_ ?_
      | refine LeO.bind ?_ (fun _ => ?_)
theorem bobstaylaw01_GlobAll.mono : ∀ a0 a1 a2 k, LeO (bobstaylaw01_GlobAll.f k a0 a1 a2) (bobstaylaw01_GlobAll.f (k + 1) a0 a1 a2) := by
  intro a0 a1 a2 k
  have ih0 := bobstaylaw01_GlobAll.mono_l k
  unfold bobstaylaw01_GlobAll.f
  repeat' first
      | (with_reducible exact ih0 _ _ _ _)
      | (with_reducible exact LeO.refl _)
      | (with_reducible exact LeO.none _)
      | (with_reducible refine LeO.ite ?_ ?_)
      | (with_reducible refine LeO.bind ?_ (fun _ => ?_))
      | exact ih0 _ _ _ _
      | exact LeO.none _
      | refine LeO.ite ?_ ?_
      | refine LeO.bind ?_ (fun _ => ?_)
set_option maxHeartbeats 8000000 in
set_option maxRecDepth 100000 in
theorem bobstaylaw01_GlobAll.calls (k : Nat) (a0 : ByteArray) (a1 : ByteArray) (a2 : ByteArray) (r : Bool) (w : World) (h : bobstaylaw01_GlobAll.f k a0 a1 a2 = some r) :
    Calls Try.prog 5 #[.string a0, .string a1, .string a2] w fun e w' => e = .returned (.bool r) ∧ Below w.heap.size w w' := by
  have HB := Aside0.mk (Below.refl w.heap.size w)
  have H : ((bobstaylaw01_far.f a0 a1).bind fun t118 => (if t118 = true then (bobstaylaw01_GlobAll.j0 k a0 a1 a2 true) else ((bobstaylaw01_far.f a2 (⟨#[]⟩ : ByteArray)).bind fun t119 => (bobstaylaw01_GlobAll.j0 k a0 a1 a2 t119)))) = some r := h
  clear h
  have HC4 := Aside0.mk H
  clear H
  go_enter Try.func5, Try.ntmps5
  go_upto_region 1 with (fail)
  go_cut [15] (fun v15 wc => ∃ (kq : Nat) (x15_3 : Bool), v15 = .bool x15_3 ∧ Aside0 (bobstaylaw01_GlobAll.j0 kq a0 a1 a2 x15_3 = some r) ∧ Aside0 (kq ≤ k) ∧ Aside0 (Below w.heap.size w wc))
  case first =>
    have H := HC4.out
    clear HC4
    replace H := Option.bind_eq_some_iff.mp H
    obtain ⟨t118, A50, H⟩ := H
    replace H : (if t118 = true then (bobstaylaw01_GlobAll.j0 k a0 a1 a2 true) else ((bobstaylaw01_far.f a2 (⟨#[]⟩ : ByteArray)).bind fun t119 => (bobstaylaw01_GlobAll.j0 k a0 a1 a2 t119))) = some r := H
    have A5 := Aside0.mk A50
    clear A50
    by_cases c6 : t118 = true
    · subst c6
      have H1 : (bobstaylaw01_GlobAll.j0 k a0 a1 a2 true) = some r := by rw [if_pos rfl] at H; exact H
      clear H
      have H := H1
      clear H1
      have H' := Aside0.mk H
      clear H
      go_wp2_with (first | ((with_reducible refine gate_callee (f := 9) rfl ?_); refine goesL_ (some 11) rfl rfl Try.func9 (by kernel_rfl) rfl #[.string a0, .string a1] rfl (by (try simp only [List.map_toArray, List.map_cons, List.map_nil]); first | done | rfl | (simp only [List.length_drop, List.length_take]; rfl)) ?_; (with_reducible refine (bobstaylaw01_far.calls a0 a1 true _ A5.out).mono ?_); rintro e w' ⟨rfl, ⟨nd, rfl⟩⟩; refine ⟨_, rfl, ?_⟩))
      go_meet
      case rel => exact ⟨_, (true), (by first | rfl | (simp; done) | (simp [*]; done)), H', ⟨by first | omega | exact Nat.le_refl _⟩, ⟨by repeat (first | (with_reducible first | exact HB.out | apply below_alloc | apply pw_below_drewN | apply below_drew1) | exact HB.out)⟩⟩
    · replace c6 := Bool.eq_false_iff.mpr c6
      subst c6
      have H1 : ((bobstaylaw01_far.f a2 (⟨#[]⟩ : ByteArray)).bind fun t119 => (bobstaylaw01_GlobAll.j0 k a0 a1 a2 t119)) = some r := by rw [if_neg (show ¬ (false = true) by decide)] at H; exact H
      clear H
      have H := H1
      clear H1
      replace H := Option.bind_eq_some_iff.mp H
      obtain ⟨t119, A70, H⟩ := H
      replace H : (bobstaylaw01_GlobAll.j0 k a0 a1 a2 t119) = some r := H
      have A7 := Aside0.mk A70
      clear A70
      have H' := Aside0.mk H
      clear H
      go_wp2_with (first | ((with_reducible refine gate_callee (f := 9) rfl ?_); refine goesL_ (some 11) rfl rfl Try.func9 (by kernel_rfl) rfl #[.string a0, .string a1] rfl (by (try simp only [List.map_toArray, List.map_cons, List.map_nil]); first | done | rfl | (simp only [List.length_drop, List.length_take]; rfl)) ?_; (with_reducible refine (bobstaylaw01_far.calls a0 a1 false _ A5.out).mono ?_); rintro e w' ⟨rfl, ⟨nd, rfl⟩⟩; refine ⟨_, rfl, ?_⟩) | (go_at_call 9; (with_reducible refine (bobstaylaw01_far.calls a2 (⟨#[]⟩ : ByteArray) t119 _ A7.out).mono ?_); rintro e w' ⟨rfl, ⟨nd, rfl⟩⟩))
      go_meet
      case rel => exact ⟨_, (t119), (by first | rfl | (simp; done) | (simp [*]; done)), H', ⟨by first | omega | exact Nat.le_refl _⟩, ⟨by repeat (first | (with_reducible first | exact HB.out | apply below_alloc | apply pw_below_drewN | apply below_drew1) | exact HB.out)⟩⟩
  case rest =>
    clear HC4
    try clear p2
    try clear c5
    try clear c6
    obtain ⟨kq, x15_3, rfl, HA, HJ3, HB⟩ := hcut
    cases kq with
    | zero => exact absurd HA.out (by simp [bobstaylaw01_GlobAll.j0])
    | succ kj3 =>
      have H := HA.out
      clear HA
      simp only [bobstaylaw01_GlobAll.j0] at H
      by_cases c8 : x15_3 = true
      · subst c8
        have H1 : ((bobstaylaw01_alive.f).bind fun t120 => (some t120)) = some r := by rw [if_pos rfl] at H; exact H
        clear H
        have H := H1
        clear H1
        replace H := Option.bind_eq_some_iff.mp H
        obtain ⟨t120, A90, H⟩ := H
        replace H : (some t120) = some r := H
        have A9 := Aside0.mk A90
        clear A90
        obtain rfl := Option.some.inj H
        go_wp2_with (first | ((with_reducible refine gate_callee (f := 10) rfl ?_); refine goesL_ (some 16) rfl rfl Try.func10 (by kernel_rfl) rfl #[] rfl (by (try simp only [List.map_toArray, List.map_cons, List.map_nil]); first | done | rfl | (simp only [List.length_drop, List.length_take]; rfl)) ?_; (with_reducible refine (bobstaylaw01_alive.calls  t120 _ A9.out).mono ?_); rintro e w10 ⟨rfl, hb⟩; refine ⟨_, rfl, ?_⟩; have n0_ := Aside0.mk (below_step (by repeat (first | (with_reducible first | exact HB.out | apply below_alloc | apply pw_below_drewN | apply below_drew1) | exact HB.out)) hb); clear HB; have HB := n0_; clear n0_; (try clear hb); (try clear hb2); (try clear hk); (try clear hi)))
        go_ret
        exact ⟨by first | rfl | (simp [errW_none, errW_some] <;> rfl) | (simp [*, errW_none, errW_some] <;> rfl), by repeat (first | (with_reducible first | exact HB.out | apply below_alloc | apply pw_below_drewN | apply below_drew1) | exact HB.out)⟩
      · replace c8 := Bool.eq_false_iff.mpr c8
        subst c8
        have H1 : ((glob_Quote.f a0).bind fun t121 => ((glob_Quote.f a2).bind fun t122 => ((glob_Match.f (⟨#[42]⟩ : ByteArray) a1).bind fun t123 => (if t123 = true then (if t121.size + 1 ≤ 9223372036854775807 then (if a0.size + a1.size ≤ 9223372036854775807 then ((glob_Match.f (t121 ++ (⟨#[42]⟩ : ByteArray)) (a0 ++ a1)).bind fun t124 => (if t124 = true then (if 1 + t122.size ≤ 9223372036854775807 then (if a1.size + a2.size ≤ 9223372036854775807 then ((glob_Match.f ((⟨#[42]⟩ : ByteArray) ++ t122) (a1 ++ a2)).bind fun t125 => (if t125 = true then (if (t121 ++ (⟨#[42]⟩ : ByteArray)).size + t122.size ≤ 9223372036854775807 then (if (a0 ++ a1).size + a2.size ≤ 9223372036854775807 then ((glob_Match.f ((t121 ++ (⟨#[42]⟩ : ByteArray)) ++ t122) ((a0 ++ a1) ++ a2)).bind fun t126 => (if t126 = true then ((bobstaylaw01_alive.f).bind fun t127 => (some t127)) else (some false))) else (none)) else (none)) else (some false))) else (none)) else (none)) else (some false))) else (none)) else (none)) else (some false))))) = some r := by rw [if_neg (show ¬ (false = true) by decide)] at H; exact H
        clear H
        have H := H1
        clear H1
        replace H := Option.bind_eq_some_iff.mp H
        obtain ⟨t121, A110, H⟩ := H
        replace H : ((glob_Quote.f a2).bind fun t122 => ((glob_Match.f (⟨#[42]⟩ : ByteArray) a1).bind fun t123 => (if t123 = true then (if t121.size + 1 ≤ 9223372036854775807 then (if a0.size + a1.size ≤ 9223372036854775807 then ((glob_Match.f (t121 ++ (⟨#[42]⟩ : ByteArray)) (a0 ++ a1)).bind fun t124 => (if t124 = true then (if 1 + t122.size ≤ 9223372036854775807 then (if a1.size + a2.size ≤ 9223372036854775807 then ((glob_Match.f ((⟨#[42]⟩ : ByteArray) ++ t122) (a1 ++ a2)).bind fun t125 => (if t125 = true then (if (t121 ++ (⟨#[42]⟩ : ByteArray)).size + t122.size ≤ 9223372036854775807 then (if (a0 ++ a1).size + a2.size ≤ 9223372036854775807 then ((glob_Match.f ((t121 ++ (⟨#[42]⟩ : ByteArray)) ++ t122) ((a0 ++ a1) ++ a2)).bind fun t126 => (if t126 = true then ((bobstaylaw01_alive.f).bind fun t127 => (some t127)) else (some false))) else (none)) else (none)) else (some false))) else (none)) else (none)) else (some false))) else (none)) else (none)) else (some false)))) = some r := H
        have A11 := Aside0.mk A110
        clear A110
        replace H := Option.bind_eq_some_iff.mp H
        obtain ⟨t122, A120, H⟩ := H
        replace H : ((glob_Match.f (⟨#[42]⟩ : ByteArray) a1).bind fun t123 => (if t123 = true then (if t121.size + 1 ≤ 9223372036854775807 then (if a0.size + a1.size ≤ 9223372036854775807 then ((glob_Match.f (t121 ++ (⟨#[42]⟩ : ByteArray)) (a0 ++ a1)).bind fun t124 => (if t124 = true then (if 1 + t122.size ≤ 9223372036854775807 then (if a1.size + a2.size ≤ 9223372036854775807 then ((glob_Match.f ((⟨#[42]⟩ : ByteArray) ++ t122) (a1 ++ a2)).bind fun t125 => (if t125 = true then (if (t121 ++ (⟨#[42]⟩ : ByteArray)).size + t122.size ≤ 9223372036854775807 then (if (a0 ++ a1).size + a2.size ≤ 9223372036854775807 then ((glob_Match.f ((t121 ++ (⟨#[42]⟩ : ByteArray)) ++ t122) ((a0 ++ a1) ++ a2)).bind fun t126 => (if t126 = true then ((bobstaylaw01_alive.f).bind fun t127 => (some t127)) else (some false))) else (none)) else (none)) else (some false))) else (none)) else (none)) else (some false))) else (none)) else (none)) else (some false))) = some r := H
        have A12 := Aside0.mk A120
        clear A120
        replace H := Option.bind_eq_some_iff.mp H
        obtain ⟨t123, A130, H⟩ := H
        replace H : (if t123 = true then (if t121.size + 1 ≤ 9223372036854775807 then (if a0.size + a1.size ≤ 9223372036854775807 then ((glob_Match.f (t121 ++ (⟨#[42]⟩ : ByteArray)) (a0 ++ a1)).bind fun t124 => (if t124 = true then (if 1 + t122.size ≤ 9223372036854775807 then (if a1.size + a2.size ≤ 9223372036854775807 then ((glob_Match.f ((⟨#[42]⟩ : ByteArray) ++ t122) (a1 ++ a2)).bind fun t125 => (if t125 = true then (if (t121 ++ (⟨#[42]⟩ : ByteArray)).size + t122.size ≤ 9223372036854775807 then (if (a0 ++ a1).size + a2.size ≤ 9223372036854775807 then ((glob_Match.f ((t121 ++ (⟨#[42]⟩ : ByteArray)) ++ t122) ((a0 ++ a1) ++ a2)).bind fun t126 => (if t126 = true then ((bobstaylaw01_alive.f).bind fun t127 => (some t127)) else (some false))) else (none)) else (none)) else (some false))) else (none)) else (none)) else (some false))) else (none)) else (none)) else (some false)) = some r := H
        have A13 := Aside0.mk A130
        clear A130
        by_cases c14 : t123 = true
        · subst c14
          have H1 : (if t121.size + 1 ≤ 9223372036854775807 then (if a0.size + a1.size ≤ 9223372036854775807 then ((glob_Match.f (t121 ++ (⟨#[42]⟩ : ByteArray)) (a0 ++ a1)).bind fun t124 => (if t124 = true then (if 1 + t122.size ≤ 9223372036854775807 then (if a1.size + a2.size ≤ 9223372036854775807 then ((glob_Match.f ((⟨#[42]⟩ : ByteArray) ++ t122) (a1 ++ a2)).bind fun t125 => (if t125 = true then (if (t121 ++ (⟨#[42]⟩ : ByteArray)).size + t122.size ≤ 9223372036854775807 then (if (a0 ++ a1).size + a2.size ≤ 9223372036854775807 then ((glob_Match.f ((t121 ++ (⟨#[42]⟩ : ByteArray)) ++ t122) ((a0 ++ a1) ++ a2)).bind fun t126 => (if t126 = true then ((bobstaylaw01_alive.f).bind fun t127 => (some t127)) else (some false))) else (none)) else (none)) else (some false))) else (none)) else (none)) else (some false))) else (none)) else (none)) = some r := by rw [if_pos rfl] at H; exact H
          clear H
          have H := H1
          clear H1
          by_cases c15 : t121.size + 1 ≤ 9223372036854775807
          · rw [if_pos c15] at H
            have c15b0 := eq_true c15
            have c15b1 : decide (t121.size + 1 ≤ 9223372036854775807) = true := decide_eq_true c15
            try have c15b2 : (9223372036854775807 < t121.size + 1) = False := eq_false (Nat.not_lt.2 c15)
            by_cases c16 : a0.size + a1.size ≤ 9223372036854775807
            · rw [if_pos c16] at H
              have c16b0 := eq_true c16
              have c16b1 : decide (a0.size + a1.size ≤ 9223372036854775807) = true := decide_eq_true c16
              try have c16b2 : (9223372036854775807 < a0.size + a1.size) = False := eq_false (Nat.not_lt.2 c16)
              replace H := Option.bind_eq_some_iff.mp H
              obtain ⟨t124, A170, H⟩ := H
              replace H : (if t124 = true then (if 1 + t122.size ≤ 9223372036854775807 then (if a1.size + a2.size ≤ 9223372036854775807 then ((glob_Match.f ((⟨#[42]⟩ : ByteArray) ++ t122) (a1 ++ a2)).bind fun t125 => (if t125 = true then (if (t121 ++ (⟨#[42]⟩ : ByteArray)).size + t122.size ≤ 9223372036854775807 then (if (a0 ++ a1).size + a2.size ≤ 9223372036854775807 then ((glob_Match.f ((t121 ++ (⟨#[42]⟩ : ByteArray)) ++ t122) ((a0 ++ a1) ++ a2)).bind fun t126 => (if t126 = true then ((bobstaylaw01_alive.f).bind fun t127 => (some t127)) else (some false))) else (none)) else (none)) else (some false))) else (none)) else (none)) else (some false)) = some r := H
              have A17 := Aside0.mk A170
              clear A170
              by_cases c18 : t124 = true
              · subst c18
                have H1 : (if 1 + t122.size ≤ 9223372036854775807 then (if a1.size + a2.size ≤ 9223372036854775807 then ((glob_Match.f ((⟨#[42]⟩ : ByteArray) ++ t122) (a1 ++ a2)).bind fun t125 => (if t125 = true then (if (t121 ++ (⟨#[42]⟩ : ByteArray)).size + t122.size ≤ 9223372036854775807 then (if (a0 ++ a1).size + a2.size ≤ 9223372036854775807 then ((glob_Match.f ((t121 ++ (⟨#[42]⟩ : ByteArray)) ++ t122) ((a0 ++ a1) ++ a2)).bind fun t126 => (if t126 = true then ((bobstaylaw01_alive.f).bind fun t127 => (some t127)) else (some false))) else (none)) else (none)) else (some false))) else (none)) else (none)) = some r := by rw [if_pos rfl] at H; exact H
                clear H
                have H := H1
                clear H1
                by_cases c19 : 1 + t122.size ≤ 9223372036854775807
                · rw [if_pos c19] at H
                  have c19b0 := eq_true c19
                  have c19b1 : decide (1 + t122.size ≤ 9223372036854775807) = true := decide_eq_true c19
                  try have c19b2 : (9223372036854775807 < 1 + t122.size) = False := eq_false (Nat.not_lt.2 c19)
                  by_cases c20 : a1.size + a2.size ≤ 9223372036854775807
                  · rw [if_pos c20] at H
                    have c20b0 := eq_true c20
                    have c20b1 : decide (a1.size + a2.size ≤ 9223372036854775807) = true := decide_eq_true c20
                    try have c20b2 : (9223372036854775807 < a1.size + a2.size) = False := eq_false (Nat.not_lt.2 c20)
                    replace H := Option.bind_eq_some_iff.mp H
                    obtain ⟨t125, A210, H⟩ := H
                    replace H : (if t125 = true then (if (t121 ++ (⟨#[42]⟩ : ByteArray)).size + t122.size ≤ 9223372036854775807 then (if (a0 ++ a1).size + a2.size ≤ 9223372036854775807 then ((glob_Match.f ((t121 ++ (⟨#[42]⟩ : ByteArray)) ++ t122) ((a0 ++ a1) ++ a2)).bind fun t126 => (if t126 = true then ((bobstaylaw01_alive.f).bind fun t127 => (some t127)) else (some false))) else (none)) else (none)) else (some false)) = some r := H
                    have A21 := Aside0.mk A210
                    clear A210
                    by_cases c22 : t125 = true
                    · subst c22
                      have H1 : (if (t121 ++ (⟨#[42]⟩ : ByteArray)).size + t122.size ≤ 9223372036854775807 then (if (a0 ++ a1).size + a2.size ≤ 9223372036854775807 then ((glob_Match.f ((t121 ++ (⟨#[42]⟩ : ByteArray)) ++ t122) ((a0 ++ a1) ++ a2)).bind fun t126 => (if t126 = true then ((bobstaylaw01_alive.f).bind fun t127 => (some t127)) else (some false))) else (none)) else (none)) = some r := by rw [if_pos rfl] at H; exact H
                      clear H
                      have H := H1
                      clear H1
                      by_cases c23 : (t121 ++ (⟨#[42]⟩ : ByteArray)).size + t122.size ≤ 9223372036854775807
                      · rw [if_pos c23] at H
                        have c23b0 := eq_true c23
                        have c23b1 : decide ((t121 ++ (⟨#[42]⟩ : ByteArray)).size + t122.size ≤ 9223372036854775807) = true := decide_eq_true c23
                        try have c23b2 : (9223372036854775807 < (t121 ++ (⟨#[42]⟩ : ByteArray)).size + t122.size) = False := eq_false (Nat.not_lt.2 c23)
                        by_cases c24 : (a0 ++ a1).size + a2.size ≤ 9223372036854775807
                        · rw [if_pos c24] at H
                          have c24b0 := eq_true c24
                          have c24b1 : decide ((a0 ++ a1).size + a2.size ≤ 9223372036854775807) = true := decide_eq_true c24
                          try have c24b2 : (9223372036854775807 < (a0 ++ a1).size + a2.size) = False := eq_false (Nat.not_lt.2 c24)
                          replace H := Option.bind_eq_some_iff.mp H
                          obtain ⟨t126, A250, H⟩ := H
                          replace H : (if t126 = true then ((bobstaylaw01_alive.f).bind fun t127 => (some t127)) else (some false)) = some r := H
                          have A25 := Aside0.mk A250
                          clear A250
                          by_cases c26 : t126 = true
                          · subst c26
                            have H1 : ((bobstaylaw01_alive.f).bind fun t127 => (some t127)) = some r := by rw [if_pos rfl] at H; exact H
                            clear H
                            have H := H1
                            clear H1
                            replace H := Option.bind_eq_some_iff.mp H
                            obtain ⟨t127, A270, H⟩ := H
                            replace H : (some t127) = some r := H
                            have A27 := Aside0.mk A270
                            clear A270
                            obtain rfl := Option.some.inj H
                            go_wp2_with (first | ((with_reducible refine gate_callee (f := 15) rfl ?_); refine goesL_ (some 18) rfl rfl Try.func15 (by kernel_rfl) rfl #[.string a0] rfl (by (try simp only [List.map_toArray, List.map_cons, List.map_nil]); first | done | rfl | (simp only [List.length_drop, List.length_take]; rfl)) ?_; (with_reducible refine (glob_Quote.calls a0 t121 _ A11.out).mono ?_); rintro e w28 ⟨rfl, hb⟩; refine ⟨_, rfl, ?_⟩; have n0_ := Aside0.mk (below_step (by repeat (first | (with_reducible first | exact HB.out | apply below_alloc | apply pw_below_drewN | apply below_drew1) | exact HB.out)) hb); clear HB; have HB := n0_; clear n0_; (try clear hb); (try clear hb2); (try clear hk); (try clear hi)) | ((with_reducible refine gate_callee (f := 15) rfl ?_); refine goesL_ (some 20) rfl rfl Try.func15 (by kernel_rfl) rfl #[.string a2] rfl (by (try simp only [List.map_toArray, List.map_cons, List.map_nil]); first | done | rfl | (simp only [List.length_drop, List.length_take]; rfl)) ?_; (with_reducible refine (glob_Quote.calls a2 t122 _ A12.out).mono ?_); rintro e w29 ⟨rfl, hb⟩; refine ⟨_, rfl, ?_⟩; have n0_ := Aside0.mk (below_step (by repeat (first | (with_reducible first | exact HB.out | apply below_alloc | apply pw_below_drewN | apply below_drew1) | exact HB.out)) hb); clear HB; have HB := n0_; clear n0_; (try clear hb); (try clear hb2); (try clear hk); (try clear hi)) | ((with_reducible refine gate_callee (f := 11) rfl ?_); refine goesL_ (some 22) rfl rfl Try.func11 (by kernel_rfl) rfl #[.string (⟨#[42]⟩ : ByteArray), .string a1] rfl (by (try simp only [List.map_toArray, List.map_cons, List.map_nil]); first | done | rfl | (simp only [List.length_drop, List.length_take]; rfl)) ?_; (with_reducible refine (glob_Match.calls (⟨#[42]⟩ : ByteArray) a1 true _ A13.out).mono ?_); rintro e w' ⟨rfl, ⟨nd, rfl⟩⟩; refine ⟨_, rfl, ?_⟩) | (go_at_call 11; (with_reducible refine (glob_Match.calls (t121 ++ (⟨#[42]⟩ : ByteArray)) (a0 ++ a1) true _ A17.out).mono ?_); rintro e w' ⟨rfl, ⟨nd, rfl⟩⟩) | (go_at_call 11; (with_reducible refine (glob_Match.calls ((⟨#[42]⟩ : ByteArray) ++ t122) (a1 ++ a2) true _ A21.out).mono ?_); rintro e w' ⟨rfl, ⟨nd, rfl⟩⟩) | (go_at_call 11; (with_reducible refine (glob_Match.calls ((t121 ++ (⟨#[42]⟩ : ByteArray)) ++ t122) ((a0 ++ a1) ++ a2) true _ A25.out).mono ?_); rintro e w' ⟨rfl, ⟨nd, rfl⟩⟩) | (go_at_call 10; (with_reducible refine (bobstaylaw01_alive.calls  t127 _ A27.out).mono ?_); rintro e w30 ⟨rfl, hb⟩; have n0_ := Aside0.mk (below_step (by repeat (first | (with_reducible first | exact HB.out | apply below_alloc | apply pw_below_drewN | apply below_drew1) | exact HB.out)) hb); clear HB; have HB := n0_; clear n0_; (try clear hb); (try clear hb2); (try clear hk); (try clear hi)))
                            go_ret
                            exact ⟨by first | rfl | (simp [errW_none, errW_some] <;> rfl) | (simp [*, errW_none, errW_some] <;> rfl), by repeat (first | (with_reducible first | exact HB.out | apply below_alloc | apply pw_below_drewN | apply below_drew1) | exact HB.out)⟩
                          · replace c26 := Bool.eq_false_iff.mpr c26
                            subst c26
                            have H1 : (some false) = some r := by rw [if_neg (show ¬ (false = true) by decide)] at H; exact H
                            clear H
                            have H := H1
                            clear H1
                            obtain rfl := Option.some.inj H
                            go_wp2_with (first | ((with_reducible refine gate_callee (f := 15) rfl ?_); refine goesL_ (some 18) rfl rfl Try.func15 (by kernel_rfl) rfl #[.string a0] rfl (by (try simp only [List.map_toArray, List.map_cons, List.map_nil]); first | done | rfl | (simp only [List.length_drop, List.length_take]; rfl)) ?_; (with_reducible refine (glob_Quote.calls a0 t121 _ A11.out).mono ?_); rintro e w31 ⟨rfl, hb⟩; refine ⟨_, rfl, ?_⟩; have n0_ := Aside0.mk (below_step (by repeat (first | (with_reducible first | exact HB.out | apply below_alloc | apply pw_below_drewN | apply below_drew1) | exact HB.out)) hb); clear HB; have HB := n0_; clear n0_; (try clear hb); (try clear hb2); (try clear hk); (try clear hi)) | ((with_reducible refine gate_callee (f := 15) rfl ?_); refine goesL_ (some 20) rfl rfl Try.func15 (by kernel_rfl) rfl #[.string a2] rfl (by (try simp only [List.map_toArray, List.map_cons, List.map_nil]); first | done | rfl | (simp only [List.length_drop, List.length_take]; rfl)) ?_; (with_reducible refine (glob_Quote.calls a2 t122 _ A12.out).mono ?_); rintro e w32 ⟨rfl, hb⟩; refine ⟨_, rfl, ?_⟩; have n0_ := Aside0.mk (below_step (by repeat (first | (with_reducible first | exact HB.out | apply below_alloc | apply pw_below_drewN | apply below_drew1) | exact HB.out)) hb); clear HB; have HB := n0_; clear n0_; (try clear hb); (try clear hb2); (try clear hk); (try clear hi)) | ((with_reducible refine gate_callee (f := 11) rfl ?_); refine goesL_ (some 22) rfl rfl Try.func11 (by kernel_rfl) rfl #[.string (⟨#[42]⟩ : ByteArray), .string a1] rfl (by (try simp only [List.map_toArray, List.map_cons, List.map_nil]); first | done | rfl | (simp only [List.length_drop, List.length_take]; rfl)) ?_; (with_reducible refine (glob_Match.calls (⟨#[42]⟩ : ByteArray) a1 true _ A13.out).mono ?_); rintro e w' ⟨rfl, ⟨nd, rfl⟩⟩; refine ⟨_, rfl, ?_⟩) | (go_at_call 11; (with_reducible refine (glob_Match.calls (t121 ++ (⟨#[42]⟩ : ByteArray)) (a0 ++ a1) true _ A17.out).mono ?_); rintro e w' ⟨rfl, ⟨nd, rfl⟩⟩) | (go_at_call 11; (with_reducible refine (glob_Match.calls ((⟨#[42]⟩ : ByteArray) ++ t122) (a1 ++ a2) true _ A21.out).mono ?_); rintro e w' ⟨rfl, ⟨nd, rfl⟩⟩) | (go_at_call 11; (with_reducible refine (glob_Match.calls ((t121 ++ (⟨#[42]⟩ : ByteArray)) ++ t122) ((a0 ++ a1) ++ a2) false _ A25.out).mono ?_); rintro e w' ⟨rfl, ⟨nd, rfl⟩⟩))
                            go_ret
                            exact ⟨by first | rfl | (simp [errW_none, errW_some] <;> rfl) | (simp [*, errW_none, errW_some] <;> rfl), by repeat (first | (with_reducible first | exact HB.out | apply below_alloc | apply pw_below_drewN | apply below_drew1) | exact HB.out)⟩
                        · rw [if_neg c24] at H
                          exact absurd H (by simp)
                      · rw [if_neg c23] at H
                        exact absurd H (by simp)
                    · replace c22 := Bool.eq_false_iff.mpr c22
                      subst c22
                      have H1 : (some false) = some r := by rw [if_neg (show ¬ (false = true) by decide)] at H; exact H
                      clear H
                      have H := H1
                      clear H1
                      obtain rfl := Option.some.inj H
                      go_wp2_with (first | ((with_reducible refine gate_callee (f := 15) rfl ?_); refine goesL_ (some 18) rfl rfl Try.func15 (by kernel_rfl) rfl #[.string a0] rfl (by (try simp only [List.map_toArray, List.map_cons, List.map_nil]); first | done | rfl | (simp only [List.length_drop, List.length_take]; rfl)) ?_; (with_reducible refine (glob_Quote.calls a0 t121 _ A11.out).mono ?_); rintro e w33 ⟨rfl, hb⟩; refine ⟨_, rfl, ?_⟩; have n0_ := Aside0.mk (below_step (by repeat (first | (with_reducible first | exact HB.out | apply below_alloc | apply pw_below_drewN | apply below_drew1) | exact HB.out)) hb); clear HB; have HB := n0_; clear n0_; (try clear hb); (try clear hb2); (try clear hk); (try clear hi)) | ((with_reducible refine gate_callee (f := 15) rfl ?_); refine goesL_ (some 20) rfl rfl Try.func15 (by kernel_rfl) rfl #[.string a2] rfl (by (try simp only [List.map_toArray, List.map_cons, List.map_nil]); first | done | rfl | (simp only [List.length_drop, List.length_take]; rfl)) ?_; (with_reducible refine (glob_Quote.calls a2 t122 _ A12.out).mono ?_); rintro e w34 ⟨rfl, hb⟩; refine ⟨_, rfl, ?_⟩; have n0_ := Aside0.mk (below_step (by repeat (first | (with_reducible first | exact HB.out | apply below_alloc | apply pw_below_drewN | apply below_drew1) | exact HB.out)) hb); clear HB; have HB := n0_; clear n0_; (try clear hb); (try clear hb2); (try clear hk); (try clear hi)) | ((with_reducible refine gate_callee (f := 11) rfl ?_); refine goesL_ (some 22) rfl rfl Try.func11 (by kernel_rfl) rfl #[.string (⟨#[42]⟩ : ByteArray), .string a1] rfl (by (try simp only [List.map_toArray, List.map_cons, List.map_nil]); first | done | rfl | (simp only [List.length_drop, List.length_take]; rfl)) ?_; (with_reducible refine (glob_Match.calls (⟨#[42]⟩ : ByteArray) a1 true _ A13.out).mono ?_); rintro e w' ⟨rfl, ⟨nd, rfl⟩⟩; refine ⟨_, rfl, ?_⟩) | (go_at_call 11; (with_reducible refine (glob_Match.calls (t121 ++ (⟨#[42]⟩ : ByteArray)) (a0 ++ a1) true _ A17.out).mono ?_); rintro e w' ⟨rfl, ⟨nd, rfl⟩⟩) | (go_at_call 11; (with_reducible refine (glob_Match.calls ((⟨#[42]⟩ : ByteArray) ++ t122) (a1 ++ a2) false _ A21.out).mono ?_); rintro e w' ⟨rfl, ⟨nd, rfl⟩⟩))
                      go_ret
                      exact ⟨by first | rfl | (simp [errW_none, errW_some] <;> rfl) | (simp [*, errW_none, errW_some] <;> rfl), by repeat (first | (with_reducible first | exact HB.out | apply below_alloc | apply pw_below_drewN | apply below_drew1) | exact HB.out)⟩
                  · rw [if_neg c20] at H
                    exact absurd H (by simp)
                · rw [if_neg c19] at H
                  exact absurd H (by simp)
              · replace c18 := Bool.eq_false_iff.mpr c18
                subst c18
                have H1 : (some false) = some r := by rw [if_neg (show ¬ (false = true) by decide)] at H; exact H
                clear H
                have H := H1
                clear H1
                obtain rfl := Option.some.inj H
                go_wp2_with (first | ((with_reducible refine gate_callee (f := 15) rfl ?_); refine goesL_ (some 18) rfl rfl Try.func15 (by kernel_rfl) rfl #[.string a0] rfl (by (try simp only [List.map_toArray, List.map_cons, List.map_nil]); first | done | rfl | (simp only [List.length_drop, List.length_take]; rfl)) ?_; (with_reducible refine (glob_Quote.calls a0 t121 _ A11.out).mono ?_); rintro e w35 ⟨rfl, hb⟩; refine ⟨_, rfl, ?_⟩; have n0_ := Aside0.mk (below_step (by repeat (first | (with_reducible first | exact HB.out | apply below_alloc | apply pw_below_drewN | apply below_drew1) | exact HB.out)) hb); clear HB; have HB := n0_; clear n0_; (try clear hb); (try clear hb2); (try clear hk); (try clear hi)) | ((with_reducible refine gate_callee (f := 15) rfl ?_); refine goesL_ (some 20) rfl rfl Try.func15 (by kernel_rfl) rfl #[.string a2] rfl (by (try simp only [List.map_toArray, List.map_cons, List.map_nil]); first | done | rfl | (simp only [List.length_drop, List.length_take]; rfl)) ?_; (with_reducible refine (glob_Quote.calls a2 t122 _ A12.out).mono ?_); rintro e w36 ⟨rfl, hb⟩; refine ⟨_, rfl, ?_⟩; have n0_ := Aside0.mk (below_step (by repeat (first | (with_reducible first | exact HB.out | apply below_alloc | apply pw_below_drewN | apply below_drew1) | exact HB.out)) hb); clear HB; have HB := n0_; clear n0_; (try clear hb); (try clear hb2); (try clear hk); (try clear hi)) | ((with_reducible refine gate_callee (f := 11) rfl ?_); refine goesL_ (some 22) rfl rfl Try.func11 (by kernel_rfl) rfl #[.string (⟨#[42]⟩ : ByteArray), .string a1] rfl (by (try simp only [List.map_toArray, List.map_cons, List.map_nil]); first | done | rfl | (simp only [List.length_drop, List.length_take]; rfl)) ?_; (with_reducible refine (glob_Match.calls (⟨#[42]⟩ : ByteArray) a1 true _ A13.out).mono ?_); rintro e w' ⟨rfl, ⟨nd, rfl⟩⟩; refine ⟨_, rfl, ?_⟩) | (go_at_call 11; (with_reducible refine (glob_Match.calls (t121 ++ (⟨#[42]⟩ : ByteArray)) (a0 ++ a1) false _ A17.out).mono ?_); rintro e w' ⟨rfl, ⟨nd, rfl⟩⟩))
                go_ret
                exact ⟨by first | rfl | (simp [errW_none, errW_some] <;> rfl) | (simp [*, errW_none, errW_some] <;> rfl), by repeat (first | (with_reducible first | exact HB.out | apply below_alloc | apply pw_below_drewN | apply below_drew1) | exact HB.out)⟩
            · rw [if_neg c16] at H
              exact absurd H (by simp)
          · rw [if_neg c15] at H
            exact absurd H (by simp)
        · replace c14 := Bool.eq_false_iff.mpr c14
          subst c14
          have H1 : (some false) = some r := by rw [if_neg (show ¬ (false = true) by decide)] at H; exact H
          clear H
          have H := H1
          clear H1
          obtain rfl := Option.some.inj H
          go_wp2_with (first | ((with_reducible refine gate_callee (f := 15) rfl ?_); refine goesL_ (some 18) rfl rfl Try.func15 (by kernel_rfl) rfl #[.string a0] rfl (by (try simp only [List.map_toArray, List.map_cons, List.map_nil]); first | done | rfl | (simp only [List.length_drop, List.length_take]; rfl)) ?_; (with_reducible refine (glob_Quote.calls a0 t121 _ A11.out).mono ?_); rintro e w37 ⟨rfl, hb⟩; refine ⟨_, rfl, ?_⟩; have n0_ := Aside0.mk (below_step (by repeat (first | (with_reducible first | exact HB.out | apply below_alloc | apply pw_below_drewN | apply below_drew1) | exact HB.out)) hb); clear HB; have HB := n0_; clear n0_; (try clear hb); (try clear hb2); (try clear hk); (try clear hi)) | ((with_reducible refine gate_callee (f := 15) rfl ?_); refine goesL_ (some 20) rfl rfl Try.func15 (by kernel_rfl) rfl #[.string a2] rfl (by (try simp only [List.map_toArray, List.map_cons, List.map_nil]); first | done | rfl | (simp only [List.length_drop, List.length_take]; rfl)) ?_; (with_reducible refine (glob_Quote.calls a2 t122 _ A12.out).mono ?_); rintro e w38 ⟨rfl, hb⟩; refine ⟨_, rfl, ?_⟩; have n0_ := Aside0.mk (below_step (by repeat (first | (with_reducible first | exact HB.out | apply below_alloc | apply pw_below_drewN | apply below_drew1) | exact HB.out)) hb); clear HB; have HB := n0_; clear n0_; (try clear hb); (try clear hb2); (try clear hk); (try clear hi)) | ((with_reducible refine gate_callee (f := 11) rfl ?_); refine goesL_ (some 22) rfl rfl Try.func11 (by kernel_rfl) rfl #[.string (⟨#[42]⟩ : ByteArray), .string a1] rfl (by (try simp only [List.map_toArray, List.map_cons, List.map_nil]); first | done | rfl | (simp only [List.length_drop, List.length_take]; rfl)) ?_; (with_reducible refine (glob_Match.calls (⟨#[42]⟩ : ByteArray) a1 false _ A13.out).mono ?_); rintro e w' ⟨rfl, ⟨nd, rfl⟩⟩; refine ⟨_, rfl, ?_⟩))
          go_ret
          exact ⟨by first | rfl | (simp [errW_none, errW_some] <;> rfl) | (simp [*, errW_none, errW_some] <;> rfl), by repeat (first | (with_reducible first | exact HB.out | apply below_alloc | apply pw_below_drewN | apply below_drew1) | exact HB.out)⟩

/-- THE ONE PURE STATEMENT of bobstaylaw01_GlobAll: yours. -/
def bobstaylaw01_GlobAll.Pure : Prop := ∀ (a0 : ByteArray) (a1 : ByteArray) (a2 : ByteArray), a0.size ≤ 140737488351232 → a1.size ≤ 140737488351232 → a2.size ≤ 140737488351232 → ∃ k, bobstaylaw01_GlobAll.f k a0 a1 a2 = some true
theorem bobstaylaw01_GlobAll.walk (P : bobstaylaw01_GlobAll.Pure) (a0 : ByteArray) (a1 : ByteArray) (a2 : ByteArray) (w : World) (w0 : a0.size ≤ 140737488351232) (w1 : a1.size ≤ 140737488351232) (w2 : a2.size ≤ 140737488351232) :
    Calls Try.prog 5 #[.string a0, .string a1, .string a2] w fun e w' => e = .returned (.bool true) ∧ Below w.heap.size w w' := by
  obtain ⟨k, h⟩ := P a0 a1 a2 w0 w1 w2
  refine (bobstaylaw01_GlobAll.calls k a0 a1 a2 true w h).mono ?_
  rintro e w' ⟨rfl, hd⟩
  exact ⟨rfl, hd⟩

end Go.Proofs.Ytcailjmcjgpfmaa.PG
