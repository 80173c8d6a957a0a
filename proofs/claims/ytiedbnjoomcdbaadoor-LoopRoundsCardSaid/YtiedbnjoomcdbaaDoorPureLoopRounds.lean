/- How often a loop is gone through: the printed law answers true. -/
import Derived.Test.YtiedbnjoomcdbaaDoorPCx5
set_option linter.unusedVariables false
set_option linter.unusedSimpArgs false
namespace Go.Proofs.YtiedbnjoomcdbaaDoor.PureC
open Go.RowKit Go.Proofs.YtiedbnjoomcdbaaDoor.PC Go.Proofs.YtiedbnjoomcdbaaDoorW.PrintWords Go.Proofs.YtiedbnjoomcdbaaDoorW.PrintLast Go.Proofs.YtiedbnjoomcdbaaDoor.Ba

theorem w64 {x : Int} (h0 : -9223372036854775808 ≤ x) (h1 : x < 9223372036854775808) : wrap64 x = x := by
  unfold wrap64
  first | (simp only [IntKind.wrap]; omega) | omega
theorem LoopRounds (a b : Int) (ha : a < 9223372036854775808) (hb : b < 9223372036854775808) : bobstaylaw12_LoopRounds.f a b = some true := by
  unfold bobstaylaw12_LoopRounds.f loop_Rounds.f bobstayref12_Rounds.f bobstaylaw12_alive.f
  by_cases h1 : a < 1
  · rw [if_pos h1]
    simp
  · rw [if_neg h1]
    by_cases h2 : b < 0
    · rw [if_pos h2]
      simp
    · rw [if_neg h2, if_neg (by omega)]
      by_cases h3 : Int.tmod b a = 0
      · rw [if_pos h3]
        obtain ⟨q, hq⟩ : ∃ q, Int.tdiv b a = q := ⟨_, rfl⟩
        have hm : q * a = b := by
          have := Int.tmod_add_mul_tdiv b a
          rw [h3, hq, Int.zero_add, Int.mul_comm] at this
          exact this
        have hq0 : 0 ≤ q := by rw [← hq]; exact Int.tdiv_nonneg (by omega) (by omega)
        have hqb : q ≤ b := by
          have := Int.mul_le_mul_of_nonneg_left (show (1 : Int) ≤ a by omega) hq0
          rw [Int.mul_one, hm] at this
          exact this
        rw [hq, w64 (by omega) (by omega)]
        simp only [Option.bind_some]
        rw [if_pos trivial, if_pos trivial, if_pos trivial, hm, w64 (by omega) (by omega), if_pos rfl]
      · rw [if_neg h3]
        simp
theorem wf_lt {a : Int} (h : (Lit.int .i64 a).wf = true) : a < 9223372036854775808 := by
  simp [Lit.wf] at h
  first | omega | (simp [IntKind.fits] at h; omega) | (trace_state; sorry)
theorem LoopRoundsWalk (W : World) (a : Int) (wa : (Lit.int .i64 a).wf = true) (b : Int) (wb : (Lit.int .i64 b).wf = true) :
    Calls Tryd.prog 6 #[.int .i64 a, .int .i64 b] W fun e w' => e = .returned (.bool true) ∧ Below W.heap.size W w' :=
  bobstaylaw12_LoopRounds.calls a b true W (LoopRounds a b (wf_lt wa) (wf_lt wb))
end Go.Proofs.YtiedbnjoomcdbaaDoor.PureC
