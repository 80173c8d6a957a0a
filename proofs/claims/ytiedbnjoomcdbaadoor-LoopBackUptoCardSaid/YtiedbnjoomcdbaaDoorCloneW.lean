/- slices.Clone at []line.Line, walked: a row of cells comes back as a row of the call's own. -/
import Derived.Test.YtiedbnjoomcdbaaDoorPOx0
import Derived.Lib.SliceRun
set_option linter.unusedVariables false
set_option linter.unusedSimpArgs false
namespace Go.Proofs.YtiedbnjoomcdbaaDoor
open Go.RowKit Go.Proofs.YtiedbnjoomcdbaaDoorW.PrintWords Go.Proofs.YtiedbnjoomcdbaaDoorW.PrintLast Go.Proofs.YtiedbnjoomcdbaaDoorW.PrintMore

theorem cloneInfo : (Tryd.prog.info? 34).map (fun i => (i.zero, i.size, i.bytes)) = some (some (.agg #[.string ⟨#[]⟩, .int .i64 0, .bool false]), 3, 32) := by kernel_rfl

set_option maxHeartbeats 2000000 in
set_option maxRecDepth 100000 in
theorem cloneW {α : Type} (d : Kd α) (hd : d.sz = 3) (hKM : ∀ w base ok x cs, d.K w x cs → d.M w base ok x cs) (A : Option Addr) (n c : Nat) (xs : List α) (w : World) (hc : Kd.C d w A n xs) (hn : n ≤ 1000000000) :
    Calls Tryd.prog 24 #[.slice A n c] w fun e w' => ∃ v, e = .returned v ∧ d.R 34 w' w.heap.size (fun _ => True) v xs ∧ Below w.heap.size w w' := by
  have qT : ∀ (w : World) (a : Option Addr) (n c n' c' : Nat), (binOp .eql 27 (.slice a n c) (.slice none n' c')).run Tryd.prog w = .ok (.bool a.isNone) w := fun w a n c n' c' => Lib.run_eql_slice_nil w _ _ a n c n' c' Tryd.underlying27
  cases A with
  | none =>
    have h0 : n = 0 := by
      rcases Nat.eq_zero_or_pos n with h | h
      · exact h
      · obtain ⟨_, e, _⟩ := hc.2.2 h; cases e
    have hx : xs = [] := List.length_eq_zero_iff.1 (hc.1.trans h0)
    subst hx
    go_enter Tryd.func24, Tryd.ntmps24
    go_wp2
    go_ret
    exact ⟨_, rfl, Kd.R_nil _ _ _ _ _, Below.refl _ _⟩
  | some ad =>
    have HC := Aside0.mk hc
    clear hc
    go_enter Tryd.func24, Tryd.ntmps24
    go_wp2_with ((with_reducible refine gate_builtin (b := .append) (xs := #[.tmp 5, .tmp 6]) rfl ?_); at_builtin; refine Kd.R_append_rows d (w0 := w) (Rr := d.K w) w.heap.size rfl (.tmp 5) (.tmp 6) 27 34 (.agg #[.string ⟨#[]⟩, .int .i64 0, .bool false]) 32 rfl Tryd.underlying27 (by rw [hd]; exact cloneInfo) (by rw [hd]; rfl) (by rw [hd]; decide) (by decide) (.slice (some ⟨w.heap.size, 0, none⟩) 0 0) [] xs (some ad) n c (fun _ => True) (fun _ => False) rfl rfl ?aO ?aR ?aK ?aF ?aN ?aB ?aS ?aL ?_)
    case aO => exact ⟨fun _ _ => trivial, [], World.ownsRow_made w #[] 0 (Nat.le_refl _) (Nat.zero_le _) (by simp), Reps.none _ _⟩
    case aR => exact ReadsRow.imp_ HC.out (below_alloc (Below.refl _ _) _) (fun _ _ hp => hp)
    case aK => exact fun x cs h => hKM _ _ _ x cs (d.K_below (below_alloc (Below.refl _ _) _) h)
    case aF => exact fun _ h => h.elim
    case aN => exact fun _ _ => trivial
    case aB => exact below_alloc (Below.refl _ _) _
    case aS => exact below_size (below_alloc (Below.refl _ _) _)
    case aL => simp; omega
    intro v1 w1 ho hb hg hat
    go_wp2
    go_ret
    exact ⟨_, rfl, by simpa using ho, hb⟩
end Go.Proofs.YtiedbnjoomcdbaaDoor
