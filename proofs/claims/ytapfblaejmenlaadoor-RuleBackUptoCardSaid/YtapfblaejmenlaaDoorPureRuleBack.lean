/- A rule that was parsed and formatted is parsed as it was. -/
import Derived.Test.YtapfblaejmenlaaDoorPRx26
import Derived.Test.YtapfblaejmenlaaDoorPureRuleA
set_option linter.unusedVariables false
set_option linter.unusedSimpArgs false
namespace Go.Proofs.YtapfblaejmenlaaDoor.PureR
open Go.RowKit Go.Proofs.YtapfblaejmenlaaDoor.PR Go.Proofs.YtapfblaejmenlaaDoorW.PrintWords Go.Proofs.YtapfblaejmenlaaDoorW.PrintLast Go.Proofs.YtapfblaejmenlaaDoor.Ba

theorem tot_grp : ∀ (l : List (UInt8 × UInt8)), WP.tot ((WP.grp l none).map S) ≤ 2 * l.length ∧ ∀ w : List UInt8, WP.tot ((WP.grp l (some w)).map S) ≤ 2 * l.length + w.length + 1
  | [] => by
    refine ⟨by simp [WP.grp, WP.tot], fun w => ?_⟩
    simp only [WP.grp, List.map_cons, List.map_nil, WP.tot_cons, S_size]
    simp [WP.tot]
  | x :: l => by
    obtain ⟨i1, i2⟩ := tot_grp l
    refine ⟨?_, fun w => ?_⟩
    · simp only [WP.grp]
      split
      · simp only [List.length_cons]; omega
      · have := i2 [x.1]
        simp only [List.length_cons, List.length_nil] at this ⊢; omega
    · simp only [WP.grp]
      split
      · rw [List.map_cons, WP.tot_cons, S_size]
        simp only [List.length_cons]; omega
      · have := i2 (w ++ [x.1])
        simp only [List.length_append, List.length_cons, List.length_nil] at this ⊢; omega
theorem tot_fields (l : List UInt8) : WP.tot ((WP.fieldsL l).map S) ≤ 2 * l.length := by
  have := (tot_grp (WP.bk l)).1
  have e : (WP.bk l).length = l.length := by simp [WP.bk]
  rw [e] at this; exact this
theorem map_data (l : List (List UInt8)) : (l.map S).map (fun s => s.data.toList) = l := by
  rw [List.map_map]
  have : ((fun s : ByteArray => s.data.toList) ∘ S) = id := by funext x; exact data_S x
  rw [this, List.map_id]
theorem trim_len (l : List UInt8) : (RP.trim l).length ≤ l.length := by
  have h1 := (List.dropWhile_suffix (p := WP.bl) (l := RP.rtrim WP.bl l)).length_le
  exact Nat.le_trans h1 (rtrim_len WP.bl l)
/-- what is known of a parsed rule -/
theorem parsed (s : List UInt8) (r : RP.Ru) (h : RP.parseL s = .inr r) : (r.k = 1 ∨ r.k = 2 ∨ r.k = 3) ∧ WP.tot (r.ts.map S) ≤ 2 * s.length ∧ WP.tot (r.ss.map S) ≤ 2 * s.length ∧ WP.tot (r.cs.map S) ≤ s.length + 1 := by
  unfold RP.parseL at h
  cases e : RP.opA [] s with
  | none => rw [e] at h; cases h
  | some p =>
    obtain ⟨h0, k, t⟩ := p
    rw [e] at h
    simp only [] at h
    have hk := (RP.opA_some s [] h0 k t (by simp) e).2
    have hl := op_len s [] h0 k t e
    rw [List.length_nil] at hl
    have hsl := semi_len t
    split at h
    · cases h
    · split at h
      · cases h
      · injection h with h
        subst h
        refine ⟨hk, ?_, ?_, ?_⟩
        · have := tot_fields h0
          show WP.tot ((WP.fieldsL h0).map S) ≤ _
          omega
        · have := tot_fields (RP.semi [] t).1
          show WP.tot ((WP.fieldsL (RP.semi [] t).1).map S) ≤ _
          omega
        · have := trim_len (RP.semi [] t).2
          show WP.tot ((if RP.trim (RP.semi [] t).2 = [] then [] else [RP.trim (RP.semi [] t).2]).map S) ≤ _
          split
          · simp [WP.tot]
          · rw [List.map_cons, WP.tot_cons, S_size]
            simp only [List.map_nil]
            have : WP.tot [] = 0 := rfl
            omega
theorem fmt_eq (r : RP.Ru) (hk : r.k = 1 ∨ r.k = 2 ∨ r.k = 3) : fmtL (r.ts.map S) (r.k : Int) (r.ss.map S) (r.cs.map S) = RP.formatL r := by
  unfold fmtL RP.formatL
  rw [map_data, map_data, List.length_map]
  have e1 : opI (r.k : Int) = RP.opT r.k := by
    rcases hk with h | h | h <;> rw [h] <;> rfl
  have e2 : (if r.ss.length = 0 then ([] : List UInt8) else 32 :: RP.joinSp r.ss) = if r.ss = [] then [] else 32 :: RP.joinSp r.ss := by
    by_cases h : r.ss = []
    · rw [if_pos h, if_pos (by rw [h]; rfl)]
    · rw [if_neg h, if_neg (fun e => h (List.length_eq_zero_iff.mp e))]
  rw [e1, e2]
  cases r.cs with
  | nil => rfl
  | cons c cs => simp only [List.map_cons, data_S]
theorem tails_len' (ws : List (List UInt8)) : (RP.joinSp ws).length ≤ WP.tot (ws.map S) := by
  have := joinSp_len (ws.map S)
  rw [map_data] at this
  exact this
theorem fmt_len (r : RP.Ru) : (RP.formatL r).length ≤ WP.tot (r.ts.map S) + WP.tot (r.ss.map S) + WP.tot (r.cs.map S) + 5 := by
  obtain ⟨ts, k, ss, cs⟩ := r
  unfold RP.formatL
  dsimp only
  have h1 := tails_len' ts
  have h2 := tails_len' ss
  have h3 : (RP.opT k).length ≤ 2 := by unfold RP.opT; split <;> (try split) <;> decide
  have h4 : (if ss = [] then ([] : List UInt8) else 32 :: RP.joinSp ss).length ≤ WP.tot (ss.map S) + 1 := by
    split
    · simp
    · rw [List.length_cons]; omega
  simp only [List.length_append]
  generalize (if ss = [] then ([] : List UInt8) else 32 :: RP.joinSp ss) = X at *
  cases cs with
  | nil => simp only [List.length_nil, List.map_nil]; omega
  | cons c cs => simp only [List.map_cons, WP.tot_cons, S_size, List.length_cons]; omega
theorem RuleBack (s : ByteArray) (at_ : Int) (hs : s.size ≤ 1048576) : ∃ k, bobstaylaw13_RuleBack.f k s at_ = some true := by
  refine ⟨40 + 6000, ?_⟩
  have p1 := parse_f (39 + 6000) s at_ (by omega)
  rw [show 39 + 6000 + 1 = 40 + 6000 by omega] at p1
  have small := pres_small s at_
  unfold bobstaylaw13_RuleBack.f
  rw [p1, Option.bind_some]
  unfold PRes at small ⊢
  cases e : RP.parseL s.data.toList with
  | inl x =>
    have hx : (x : Int) ≠ 0 := by
      unfold RP.parseL at e
      cases e2 : RP.opA [] s.data.toList with
      | none => rw [e2] at e; injection e with e; subst e; decide
      | some p =>
        obtain ⟨h0, k, t⟩ := p
        rw [e2] at e
        simp only [] at e
        split at e
        · injection e with e; subst e; decide
        · split at e
          · injection e with e; subst e; decide
          · cases e
    have hb : ((x : Int) == 0) = false := beq_eq_false_iff_ne.mpr hx
    simp only [hb]
    rw [if_pos (by rfl), alive]; rfl
  | inr r =>
    rw [e] at small
    obtain ⟨hk, t1, t2, t3⟩ := parsed _ _ e
    rw [← size_len] at t1 t2 t3
    simp only [] at small ⊢
    rw [if_neg (by decide)]
    have hF : rule_Format.f (r.ts.map S) (r.k : Int) (r.ss.map S) (r.cs.map S) at_ = some (S (RP.formatL r)) := by
      unfold rule_Format.f
      rw [if_pos ⟨by omega, by omega, by omega⟩, fmt_eq r hk]
    have hb := RP.back _ _ e
    have hl := fmt_len r
    have p2 := parse_f (39 + 6000) (S (RP.formatL r)) at_ (by rw [S_size]; omega)
    rw [show 39 + 6000 + 1 = 40 + 6000 by omega] at p2
    unfold PRes at p2
    rw [data_S, hb] at p2
    simp only [] at p2
    split
    · rw [alive]; rfl
    · rw [hF, Option.bind_some, p2, Option.bind_some]
      simp only []
      rw [if_pos (by decide), rsame_refl _ _ _ _ _ small.1 small.2.1 small.2.2 _ (by omega), Option.bind_some, if_pos rfl, alive]; rfl
theorem RuleBackWalk (W : World) (s : ByteArray) (_ : s.size ≤ 140737488351232) (at_ : Int) (_ : (Lit.int .i64 at_).wf = true) (hs : s.size + 1 ≤ 1048576) :
    Calls Tryd.prog 6 #[.string s, .int .i64 at_] W fun e w' => e = .returned (.bool true) ∧ Below W.heap.size W w' := by
  obtain ⟨k, hk⟩ := RuleBack s at_ (by omega)
  exact bobstaylaw13_RuleBack.calls k s at_ true W hk
end Go.Proofs.YtapfblaejmenlaaDoor.PureR
