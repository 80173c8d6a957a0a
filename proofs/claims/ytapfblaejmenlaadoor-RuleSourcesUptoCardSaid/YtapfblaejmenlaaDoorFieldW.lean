/- The walk of word.Fields. -/
import Derived.Test.YtapfblaejmenlaaDoorFieldP
import Derived.Test.YtapfblaejmenlaaDoorWMore
set_option linter.unusedVariables false
namespace Go.Proofs.YtapfblaejmenlaaDoor
open Go.RowKit Ba Go.Proofs.YtapfblaejmenlaaDoorW.PrintWords Go.Proofs.YtapfblaejmenlaaDoorW.PrintLast

theorem clo (x : Nat) (W : World) : Calls Tryd.prog 35 #[.int .i32 x] W fun e w' => e = .returned (.bool (WP.isB x)) ∧ ∃ q, w' = W.drewN q := by
  by_cases h : x = 32
  · subst h
    go_enter Tryd.func35, Tryd.ntmps35
    go_wp2
    go_ret
    exact ⟨rfl, 0, rfl⟩
  · have b1 : ((x : Int) == 32) = false := beq_eq_false_iff_ne.mpr (by omega)
    have e : WP.isB x = ((x : Int) == 9) := by
      unfold WP.isB
      have : (x == 32) = false := beq_eq_false_iff_ne.mpr h
      rw [this, Bool.false_or]
      by_cases h9 : x = 9
      · subst h9; rfl
      · rw [beq_eq_false_iff_ne.mpr h9, beq_eq_false_iff_ne.mpr (by omega)]
    rw [e]
    go_enter Tryd.func35, Tryd.ntmps35
    go_wp2
    go_ret
    exact ⟨rfl, 0, rfl⟩

theorem fields (s : ByteArray) (w : World) (hs : s.size ≤ 4294967296) :
    Calls Tryd.prog 18 #[.string s] w fun e w' => ∃ v, e = .returned v ∧ Kd.R Kd.string 9 w' w.heap.size (fun _ => True) v ((WP.fieldsL s.data.toList).map S) ∧ Below w.heap.size w w' := by
  have c := Tryd.strings_FieldsFunc_runes 35 #[] (enters_of Tryd.func35 (by kernel_rfl) rfl) WP.isB s w hs (fun W x hx hb => clo x W)
  rw [WP.goFields_blank] at c
  go_enter Tryd.func18, Tryd.ntmps18
  go_wp2_with (go_at_call 34; refine c.mono ?_; rintro e w' ⟨A, rfl, hA, hown, hb⟩)
  go_ret
  rw [List.length_map] at hown
  refine ⟨.slice (some ⟨A, 0, none⟩) (WP.fieldsL s.data.toList).length (WP.fieldsL s.data.toList).length, rfl, Kd.R_of_own ?_ (fun _ _ => trivial), hb⟩
  rw [List.length_map]
  exact hown
end Go.Proofs.YtapfblaejmenlaaDoor
