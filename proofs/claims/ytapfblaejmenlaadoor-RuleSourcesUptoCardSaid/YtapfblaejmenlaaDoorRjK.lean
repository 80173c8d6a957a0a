/- A rule in memory: five cells, its three rows apart; slices.Clone at []string. -/
import Derived.Test.YtapfblaejmenlaaDoorRjP
import Derived.Test.YtapfblaejmenlaaDoorWMore
import Derived.Test.YtapfblaejmenlaaDoorMapI
import Derived.Lib.SliceRun
set_option linter.unusedVariables false
set_option linter.unusedSimpArgs false
namespace Go.Proofs.YtapfblaejmenlaaDoor.Rj
open Go.RowKit Go.Proofs.YtapfblaejmenlaaDoorW.PrintWords Go.Proofs.YtapfblaejmenlaaDoorW.PrintLast Go.Proofs.YtapfblaejmenlaaDoorW.PrintMore

abbrev TS : Nat := 9
abbrev TR : Nat := 24
theorem infoS : (Tryd.prog.info? 9).map (fun i => (i.zero, i.size, i.bytes)) = some (some (.string ⟨#[]⟩), 1, 16) := by kernel_rfl
theorem infoR : (Tryd.prog.info? 24).map (fun i => (i.zero, i.size, i.bytes)) = some (some (.agg #[.slice none 0 0, .int .i64 0, .slice none 0 0, .slice none 0 0, .int .i64 0]), 5, 88) := by kernel_rfl

/-- a rule's cells -/
def kR : Kd Rl where
  sz := 5
  E := [TS]
  K := fun w x cs => ∃ A0 c0 A2 c2 A3 c3, cs = [.slice A0 x.t.length c0, .int .i64 x.k, .slice A2 x.s.length c2, .slice A3 x.c.length c3, .int .i64 x.a] ∧ (x.t.length ≤ c0 ∧ x.s.length ≤ c2 ∧ x.c.length ≤ c3) ∧ Kd.string.C w A0 x.t.length x.t ∧ Kd.string.C w A2 x.s.length x.s ∧ Kd.string.C w A3 x.c.length x.c
  M := fun w base ok x cs => ∃ v0 v2 v3, cs = [v0, .int .i64 x.k, v2, v3, .int .i64 x.a] ∧ Kd.string.R TS w base (fun k => ok k ∧ some k ≠ v2.ownBlock ∧ some k ≠ v3.ownBlock) v0 x.t ∧ Kd.string.R TS w base (fun k => ok k ∧ some k ≠ v0.ownBlock ∧ some k ≠ v3.ownBlock) v2 x.s ∧ Kd.string.R TS w base (fun k => ok k ∧ some k ≠ v0.ownBlock ∧ some k ≠ v2.ownBlock) v3 x.c
  K_len := by rintro w x cs ⟨A0, c0, A2, c2, A3, c3, rfl, _⟩; rfl
  K_one := by
    rintro w x cs ⟨A0, c0, A2, c2, A3, c3, rfl, _⟩ u hu
    simp only [List.mem_cons, List.not_mem_nil, or_false] at hu
    rcases hu with rfl | rfl | rfl | rfl | rfl <;> rfl
  K_below := by
    rintro w w1 x cs hb ⟨A0, c0, A2, c2, A3, c3, rfl, hl, h0, h2, h3⟩
    exact ⟨A0, c0, A2, c2, A3, c3, rfl, hl, Kd.C_below h0 hb, Kd.C_below h2 hb, Kd.C_below h3 hb⟩
  K_of_M := by
    rintro w base ok x cs ⟨v0, v2, v3, rfl, h0, h2, h3⟩
    obtain ⟨A0, c0, rfl, hl0, g0⟩ := Kd.R_reads h0
    obtain ⟨A2, c2, rfl, hl2, g2⟩ := Kd.R_reads h2
    obtain ⟨A3, c3, rfl, hl3, g3⟩ := Kd.R_reads h3
    exact ⟨A0, c0, A2, c2, A3, c3, rfl, ⟨hl0, hl2, hl3⟩, g0, g2, g3⟩
  M_mono := by
    rintro w base ok ok' x cs hok ⟨v0, v2, v3, rfl, h0, h2, h3⟩
    exact ⟨v0, v2, v3, rfl, Kd.R_mono h0 (fun k hk => ⟨hok k hk.1, hk.2⟩), Kd.R_mono h2 (fun k hk => ⟨hok k hk.1, hk.2⟩), Kd.R_mono h3 (fun k hk => ⟨hok k hk.1, hk.2⟩)⟩
  M_bound := by
    rintro w base ok x cs ⟨v0, v2, v3, rfl, h0, h2, h3⟩
    refine ⟨v0, v2, v3, rfl, Kd.R_mono (Kd.R_bound h0) ?_, Kd.R_mono (Kd.R_bound h2) ?_, Kd.R_mono (Kd.R_bound h3) ?_⟩ <;>
      · rintro k ⟨⟨a, b⟩, c, d, q, hq, e⟩
        exact ⟨⟨a, c, d, q, hq, e⟩, b⟩
  M_move := by
    rintro w w1 base ok x cs hm ⟨v0, v2, v3, rfl, h0, h2, h3⟩
    exact ⟨v0, v2, v3, rfl, Kd.R_move h0 (fun k hk => hm k hk.1), Kd.R_move h2 (fun k hk => hm k hk.1), Kd.R_move h3 (fun k hk => hm k hk.1)⟩
  M_lower := by
    rintro w base base' ok x cs hb ⟨v0, v2, v3, rfl, h0, h2, h3⟩
    exact ⟨v0, v2, v3, rfl, Kd.R_lower h0 hb, Kd.R_lower h2 hb, Kd.R_lower h3 hb⟩

set_option maxHeartbeats 2000000 in
set_option maxRecDepth 100000 in
theorem cloneS (A : Option Addr) (n c : Nat) (xs : List ByteArray) (w : World) (hc : Kd.C Kd.string w A n xs) (hn : n ≤ 1000000000000) :
    Calls Tryd.prog 27 #[.slice A n c] w fun e w' => ∃ v, e = .returned v ∧ Kd.string.R 9 w' w.heap.size (fun _ => True) v xs ∧ Below w.heap.size w w' := by
  have qT : ∀ (w : World) (a : Option Addr) (n c n' c' : Nat), (binOp .eql 22 (.slice a n c) (.slice none n' c')).run Tryd.prog w = .ok (.bool a.isNone) w := fun w a n c n' c' => Lib.run_eql_slice_nil w _ _ a n c n' c' Tryd.underlying22
  cases A with
  | none =>
    have h0 : n = 0 := by
      rcases Nat.eq_zero_or_pos n with h | h
      · exact h
      · obtain ⟨_, e, _⟩ := hc.2.2 h; cases e
    have hx : xs = [] := List.length_eq_zero_iff.1 (hc.1.trans h0)
    subst hx
    go_enter Tryd.func27, Tryd.ntmps27
    go_wp2
    go_ret
    exact ⟨_, rfl, Kd.R_nil _ _ _ _ _, Below.refl _ _⟩
  | some ad =>
    have HC := Aside0.mk hc
    clear hc
    go_enter Tryd.func27, Tryd.ntmps27
    go_wp2_with ((with_reducible refine gate_builtin (b := .append) (xs := #[.tmp 5, .tmp 6]) rfl ?_); at_builtin; refine Kd.R_append_rows Kd.string (w0 := w) (Rr := Kd.string.K w) w.heap.size rfl (.tmp 5) (.tmp 6) 22 9 (.string ⟨#[]⟩) 16 rfl Tryd.underlying22 infoS rfl (by decide) (by decide) (.slice (some ⟨w.heap.size, 0, none⟩) 0 0) [] xs (some ad) n c (fun _ => True) (fun _ => False) rfl rfl ?aO ?aR ?aK ?aF ?aN ?aB ?aS ?aL ?_)
    case aO => exact ⟨fun _ _ => trivial, [], World.ownsRow_made w #[] 0 (Nat.le_refl _) (Nat.zero_le _) (by simp), Reps.none _ _⟩
    case aR => exact ReadsRow.imp_ HC.out (below_alloc (Below.refl _ _) _) (fun _ _ hp => hp)
    case aK => exact fun x cs h => h
    case aF => exact fun _ h => h.elim
    case aN => exact fun _ _ => trivial
    case aB => exact below_alloc (Below.refl _ _) _
    case aS => exact below_size (below_alloc (Below.refl _ _) _)
    case aL => simp; omega
    intro v1 w1 ho hb hg hat
    go_wp2
    go_ret
    exact ⟨_, rfl, by simpa using ho, hb⟩
end Go.Proofs.YtapfblaejmenlaaDoor.Rj
