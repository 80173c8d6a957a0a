/- Blanks and words, plain Lean. -/
import Derived.Test.YtapfblaejmenlaaDoorWordK
set_option linter.unusedVariables false
set_option linter.unusedSimpArgs false
namespace Go.Proofs.YtapfblaejmenlaaDoor.WP
open Go Ba
def bl (c : UInt8) : Bool := c == 32 || c == 9
theorem kst_bl (c : UInt8) (h : bl c = true) : kst 0 false c = (98, 0, false) := by
  have h' : c = 32 ∨ c = 9 := by simpa [bl] using h
  rcases h' with rfl | rfl <;> rfl
theorem kst_nb (c : UInt8) (h : ¬ (c = 32 ∨ c = 9)) : (kst 0 false c).1 ≠ 98 := by
  by_cases a : c = 92
  · subst a; decide
  · by_cases b : c = 39
    · subst b; decide
    · by_cases d : c = 34
      · subst d; decide
      · simp [kst, a, b, d, h]
theorem trim_kinds : ∀ l : List UInt8, grp (prs 0 false l) none = grp (prs 0 false (l.dropWhile bl)) none ∧ fin 0 false l = fin 0 false (l.dropWhile bl)
  | [] => ⟨rfl, rfl⟩
  | c :: l => by
    by_cases h : bl c = true
    · have ih := trim_kinds l
      rw [List.dropWhile_cons_of_pos h, ← ih.1, ← ih.2]
      simp only [prs, fin, kst_bl c h]
      exact ⟨by simp only [grp]; rw [if_pos trivial], trivial⟩
    · rw [List.dropWhile_cons_of_neg h]; exact ⟨rfl, rfl⟩
theorem grp_run : ∀ (a b : List (UInt8 × UInt8)) (w : List UInt8), (∀ x ∈ a, x.2 ≠ 98) → grp (a ++ b) (some w) = grp b (some (w ++ a.map (·.1)))
  | [], b, w, _ => by simp
  | x :: a, b, w, h => by
    have hx := h x (List.mem_cons_self ..)
    rw [List.cons_append]
    simp only [grp]
    rw [if_neg hx, grp_run a b _ fun y hy => h y (List.mem_cons_of_mem _ hy)]
    simp
theorem grp_start (l : List (UInt8 × UInt8)) (x : UInt8 × UInt8) (h : x.2 ≠ 98) : grp (x :: l) none = grp (x :: l) (some []) := by
  simp only [grp]
  rw [if_neg h, if_neg h]; rfl
end Go.Proofs.YtapfblaejmenlaaDoor.WP
