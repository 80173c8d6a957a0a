/- What the second form's bound gives: of a part, and of a text. -/
import Derived.Test.YtiedbnjoomcdbaaDoorRows
namespace Go.Proofs.YtiedbnjoomcdbaaDoor.bulks

theorem part_le {H : Type} {d : DataW H} : ∀ {l : List (DataW H)}, d ∈ l → Rows.uptoBulk d ≤ Rows.uptoBulkAll l
  | [], h => by cases h
  | x :: r, h => by
    rcases List.mem_cons.mp h with e | e
    · subst e; simp only [Rows.uptoBulkAll]; omega
    · have := part_le e; simp only [Rows.uptoBulkAll]; omega
theorem string_eq {H : Type} (bytes : List UInt8) : Rows.uptoBulk (DataW.lit (H := H) (.string bytes)) = bytes.length + 1 := by
  simp [Rows.uptoBulk]
theorem bound {H : Type} {l : List (DataW H)} (hk : Rows.uptoSmall H l = true) : Rows.uptoBulkAll l ≤ 1048576 := of_decide_eq_true hk
end Go.Proofs.YtiedbnjoomcdbaaDoor.bulks
