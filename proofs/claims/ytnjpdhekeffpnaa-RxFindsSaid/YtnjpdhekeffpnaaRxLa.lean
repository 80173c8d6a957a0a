/- What the laws on expressions share: long texts, Compile's two answers, boxes. -/
import Derived.Test.YtnjpdhekeffpnaaRxX
import Derived.Test.YtnjpdhekeffpnaaRxEj
set_option linter.unusedVariables false
set_option linter.unusedSimpArgs false
namespace Go.Proofs.Ytnjpdhekeffpnaa.Rx
open Go.RowKit Go.Proofs.YtnjpdhekeffpnaaW.PrintWords Go.Proofs.YtnjpdhekeffpnaaW.PrintLast Go.Proofs.YtnjpdhekeffpnaaW.PrintMore

def fX : Option (Nat × Int) → Int | none => 0 | some q => (q.1 : Int)
def fY : Option (Nat × Int) → Int | none => 0 | some q => q.2
theorem findV_eq (R : Option (Nat × Int)) : findV R = .tuple #[.int .i64 (fX R), .int .i64 (fY R), .bool R.isSome] := by cases R <;> rfl
theorem tl_eq (a b : ByteArray) : (a.toList == b.toList) = decide (a = b) := by
  rw [Bool.eq_iff_iff, beq_iff_eq, decide_eq_true_iff, Lib.toList_data, Lib.toList_data]
  exact ⟨fun h => by rw [← Lib.mk_data a, h, Lib.mk_data], fun h => by rw [h]⟩
theorem farW (w : World) (a b : ByteArray) : Calls Try.prog 14 #[.string a, .string b] w fun e w' => e = .returned (.bool (decide (300 < a.size ∨ 60 < b.size))) ∧ w' = w := by
  go_enter Try.func14, Try.ntmps14
  by_cases h1 : 300 < a.size
  · have d1 : decide ((300 : Int) < (a.size : Int)) = true := decide_eq_true (by omega)
    rw [decide_eq_true (.inl h1)]
    clear h1
    go_wp2_with (fail)
    go_ret
    exact ⟨rfl, rfl⟩
  · have d1 : decide ((300 : Int) < (a.size : Int)) = false := decide_eq_false (by omega)
    by_cases h2 : 60 < b.size
    · have d2 : decide ((60 : Int) < (b.size : Int)) = true := decide_eq_true (by omega)
      rw [decide_eq_true (.inr h2)]
      clear h1 h2
      go_wp2_with (fail)
      go_ret
      exact ⟨rfl, rfl⟩
    · have d2 : decide ((60 : Int) < (b.size : Int)) = false := decide_eq_false (by omega)
      rw [decide_eq_false (by rintro (h | h); exact h1 h; exact h2 h)]
      clear h1 h2
      go_wp2_with (fail)
      go_ret
      exact ⟨rfl, rfl⟩
theorem compile_no (w : World) (s : ByteArray) (F : Nat × Nat) (hs : s.size ≤ 140737488355327) (hf : faultB s = some F) :
    Calls Try.prog 11 #[.string s] w fun e w' => e = .returned (.tuple #[.pointer none, .agg #[.int .i64 ((F.1 : Int) + 1), .int .i64 (F.2 : Int)]]) ∧ Below w.heap.size w w' := by
  refine (compileW w s hs).mono ?_
  rintro e w' ⟨h, hb⟩
  rw [hf] at h
  exact ⟨h, hb⟩
theorem pos_ne (n : Nat) : ((n : Int) + 1 == 0) = false := by
  apply beq_false_of_ne; omega
theorem boxed {w wp : World} {p : Nat} (hp : wp.heap[p]? = some (.cells #[.int .i64 0, .int .i64 0] 26 (0, 0))) (lp : Below w.heap.size w wp) (hw : w.heap.size ≤ p) (x y : Int) :
    Below w.heap.size w ((wp.setCell ⟨p, 0, none⟩ (.int .i64 x)).setCell ⟨p, 1, none⟩ (.int .i64 y)) ∧ ((wp.setCell ⟨p, 0, none⟩ (.int .i64 x)).setCell ⟨p, 1, none⟩ (.int .i64 y)).heap[p]? = some (.cells #[.int .i64 x, .int .i64 y] 26 (0, 0)) :=
  ⟨(lp.setCell (p := ⟨p, 0, none⟩) hw (.int .i64 x)).setCell (p := ⟨p, 1, none⟩) hw (.int .i64 y), blk_set (blk_set hp 0 (.int .i64 x)) 1 (.int .i64 y)⟩
/-- what Compile answers, as a pointer and two numbers -/
def CV (s : ByteArray) (B : Nat) (w : World) (v : Value) (x y : Int) : Prop := match faultB s with
  | none => ∃ r, v = .pointer (some ⟨r, 0, none⟩) ∧ x = 0 ∧ y = 0 ∧ B ≤ r ∧ w.heap[r]? = some (.cells (RgC s) TR (0, 0))
  | some F => v = .pointer none ∧ x = (F.1 : Int) + 1 ∧ y = (F.2 : Int)
theorem compile_any (w : World) (s : ByteArray) (hs : s.size ≤ 140737488355327) :
    Calls Try.prog 11 #[.string s] w fun e w' => ∃ v x y, e = .returned (.tuple #[v, .agg #[.int .i64 x, .int .i64 y]]) ∧ CV s w.heap.size w' v x y ∧ Below w.heap.size w w' := by
  refine (compileW w s hs).mono ?_
  rintro e w' ⟨h, hb⟩
  unfold CV
  cases hf : faultB s with
  | none => rw [hf] at h; obtain ⟨r, h1, h2, h3⟩ := h; exact ⟨_, 0, 0, h3, ⟨r, rfl, rfl, rfl, h1, h2⟩, hb⟩
  | some F => rw [hf] at h; exact ⟨_, _, _, h, ⟨rfl, rfl, rfl⟩, hb⟩
theorem CV.non {s : ByteArray} {B : Nat} {w : World} {v : Value} {x y : Int} (h : CV s B w v x y) (hf : faultB s = none) : ∃ r, v = .pointer (some ⟨r, 0, none⟩) ∧ x = 0 ∧ y = 0 ∧ B ≤ r ∧ w.heap[r]? = some (.cells (RgC s) TR (0, 0)) := by
  unfold CV at h; rw [hf] at h; exact h
theorem CV.som {s : ByteArray} {B : Nat} {w : World} {v : Value} {x y : Int} {F : Nat × Nat} (h : CV s B w v x y) (hf : faultB s = some F) : v = .pointer none ∧ x = (F.1 : Int) + 1 ∧ y = (F.2 : Int) := by
  unfold CV at h; rw [hf] at h; exact h
theorem CV.below {s : ByteArray} {B : Nat} {w w' : World} {v : Value} {x y : Int} (h : CV s B w v x y) (hb : Below w.heap.size w w') : CV s B w' v x y := by
  unfold CV at h ⊢
  split
  · rename_i hf
    rw [hf] at h
    obtain ⟨r, h1, h2, h3, h4, h5⟩ := h
    exact ⟨r, h1, h2, h3, h4, blk_below h5 hb⟩
  · rename_i F hf
    rw [hf] at h
    exact h
theorem CV.ne {s : ByteArray} {B : Nat} {w : World} {v : Value} {x y : Int} {F : Nat × Nat} (h : CV s B w v x y) (hf : faultB s = some F) : (x == 0) = false := by
  rw [(h.som hf).2.1]; exact pos_ne _
end Go.Proofs.Ytnjpdhekeffpnaa.Rx
