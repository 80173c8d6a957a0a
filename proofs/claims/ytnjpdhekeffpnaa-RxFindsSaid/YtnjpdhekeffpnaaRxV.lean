/- Steps lead to steps: in plain words. -/
import Derived.Test.YtnjpdhekeffpnaaRxN
set_option linter.unusedVariables false
set_option linter.unusedSimpArgs false
namespace Go.Proofs.Ytnjpdhekeffpnaa.Rx
open Go.RowKit Go.Proofs.YtnjpdhekeffpnaaW.PrintWords Go.Proofs.YtnjpdhekeffpnaaW.PrintLast Go.Proofs.YtnjpdhekeffpnaaW.PrintMore

theorem wf_add {st : List Stp} (h : WfS st) (x : Stp) (h1 : x.nx ≤ st.length) (h2 : x.ot ≤ st.length) : WfS (st ++ [x]) := by
  intro y hy
  rw [List.length_append, List.length_singleton]
  rcases List.mem_append.1 hy with hy | hy
  · have := h y hy; omega
  · rw [List.mem_singleton.1 hy]; omega
theorem wf_set1 {st : List Stp} (h : WfS st) (o next : Nat) (hn : next < st.length) : WfS (set1 st o next) := by
  intro y hy
  rw [set1_len]
  unfold set1 at hy
  obtain ⟨i, hi, rfl⟩ := List.mem_iff_getElem.1 hy
  rw [List.getElem_modify]
  have hi' : i < st.length := by rw [List.length_modify] at hi; exact hi
  have := h st[i] (List.getElem_mem hi')
  split
  · split
    · exact ⟨this.1, hn⟩
    · exact ⟨hn, this.2⟩
  · exact this
theorem wf_patch {st : List Stp} (h : WfS st) (outs : List Nat) (next : Nat) (hn : next < st.length) : WfS (patchL outs next st) := by
  unfold patchL
  induction outs generalizing st with
  | nil => exact h
  | cons o outs ih =>
    rw [List.foldl_cons]
    exact ih (wf_set1 h o next hn) (by rw [set1_len]; exact hn)
theorem wf_single (k m : Nat) (S : BS) (h : WfS S.st) : WfS (single ⟨k, m, 0, 0⟩ S).2.st := wf_add h _ (Nat.zero_le _) (Nat.zero_le _)
theorem wf_thing {grp : Nat → BS → Part × BS} (s : ByteArray) (hg : ∀ S0 : BS, 0 < S0.st.length → WfS S0.st → WfS (grp S0.at_ (skip S0 1)).2.st) (S : BS) (h0 : 0 < S.st.length) (h : WfS S.st) : WfS (thingB grp s S).2.st := by
  unfold thingB byteOf
  dsimp only
  split
  · exact wf_single _ _ _ (by rw [wrongB_st]; exact h)
  · split
    · exact wf_single _ _ _ h
    · split
      · exact wf_single _ _ _ h
      · split
        · exact wf_single _ _ _ h
        · split
          · exact wf_single _ _ _ (by rw [(bracketB_at s (skip S 1)).2]; exact h)
          · split
            · exact hg S h0 h
            · split
              · refine wf_single _ _ _ ?_
                rw [skip_st]
                split
                · rw [wrongB_st]; exact h
                · exact h
              · exact wf_single _ _ _ h
theorem wf_rep (s : ByteArray) (p : Part) (S : BS) (h : WfS S.st) (hp : p.1 < S.st.length) : WfS (repB s p S).2.st := by
  have ha : WfS (addB ⟨1, 0, p.1, 0⟩ (skip S 1)).st := wf_add h _ (Nat.le_of_lt hp) (Nat.zero_le _)
  have hl : S.st.length < (addB ⟨1, 0, p.1, 0⟩ (skip S 1)).st.length := by rw [addB_len, skip_st]; omega
  unfold repB
  split
  · exact h
  · split
    · exact ha
    · split
      · exact wf_patch ha _ _ hl
      · split
        · exact wf_patch ha _ _ hl
        · exact h
theorem wf_wayL {th : BS → Part × BS} (s : ByteArray) (hth : ∀ S, 0 < S.st.length → Gr 0 S (th S)) (hw : ∀ S, 0 < S.st.length → WfS S.st → WfS (th S).2.st) : ∀ (n : Nat) (p : Part) (S : BS), 0 < S.st.length → WfS S.st → WfS (wayL th s n p S).2.st
  | 0, p, S, h0, h => h
  | n + 1, p, S, h0, h => by
    rw [wayL]
    split
    · exact h
    · split
      · exact h
      · have g := hth S h0
        have g2 := rep_gr s g
        refine wf_wayL s hth hw n _ _ (by rw [patchB_len]; exact Nat.lt_of_lt_of_le h0 g2.le) (wf_patch (wf_rep s _ _ (hw S h0 h) g.first) _ _ g2.first)
theorem wf_wayB {th : BS → Part × BS} (s : ByteArray) (hth : ∀ S, 0 < S.st.length → Gr 0 S (th S)) (hw : ∀ S, 0 < S.st.length → WfS S.st → WfS (th S).2.st) (S : BS) (h : WfS S.st) : WfS (wayB th s S).2.st :=
  wf_wayL s hth hw _ _ _ (by rw [addB_len]; omega) (wf_add h _ (Nat.zero_le _) (Nat.zero_le _))
theorem wf_waysL {th : BS → Part × BS} (s : ByteArray) (hth : ∀ S, 0 < S.st.length → Gr 0 S (th S)) (hw : ∀ S, 0 < S.st.length → WfS S.st → WfS (th S).2.st) : ∀ (n : Nat) (p : Part) (S : BS), p.1 < S.st.length → WfS S.st → WfS (waysL th s n p S).2.st
  | 0, p, S, h0, h => h
  | n + 1, p, S, h0, h => by
    rw [waysL]
    split
    · have g := wayB_gr s hth (skip S 1)
      have g1 := g.le
      rw [skip_st] at g1
      refine wf_waysL s hth hw n _ _ (by rw [addB_len]; exact Nat.lt_succ_self _) (wf_add (wf_wayB s hth hw (skip S 1) h) _ ?_ (Nat.le_of_lt g.first))
      show p.1 ≤ _; omega
    · exact h
theorem wf_waysF {th : BS → Part × BS} (s : ByteArray) (hth : ∀ S, 0 < S.st.length → Gr 0 S (th S)) (hw : ∀ S, 0 < S.st.length → WfS S.st → WfS (th S).2.st) (S : BS) (h : WfS S.st) : WfS (waysF th s S).2.st :=
  wf_waysL s hth hw _ _ _ (wayB_gr s hth S).first (wf_wayB s hth hw S h)
theorem wf_thB (s : ByteArray) : ∀ (d : Nat) (S : BS), 0 < S.st.length → WfS S.st → WfS (thB s d S).2.st
  | 0, S, h0, h => wf_thing (grp := fun at_ S => ((0, []), wrongB 4 at_ S)) s (fun S0 _ h => by show WfS (wrongB 4 S0.at_ (skip S0 1)).st; rw [wrongB_st]; exact h) S h0 h
  | d + 1, S, h0, h => wf_thing (grp := grpF (waysB s d) s) s (fun S0 _ h => by
      unfold grpF
      show WfS (skip _ 1).st
      rw [skip_st]
      have := wf_waysF s (thB_gr s d) (wf_thB s d) (skip S0 1) h
      rw [← waysB_eq] at this
      split
      · exact this
      · rw [wrongB_st]; exact this) S h0 h
theorem wf_read (s : ByteArray) : WfS (readB s).2.st := by
  have := wf_waysF s (thB_gr s 16) (wf_thB s 16) ⟨0, none, []⟩ (fun x hx => by cases hx)
  rw [← waysB_eq] at this
  exact this
theorem wf_steps (s : ByteArray) : WfS (stepsB s) ∧ firstB s < (stepsB s).length ∧ (stepsB s).length ≤ 2 * (s.size + 18) + 2 := by
  have hg := waysB_gr s 16 ⟨0, none, []⟩
  have hu := waysB_up s 16 ⟨0, none, []⟩ (by show 0 ≤ _; omega)
  have h := wf_read s
  have e : readB s = waysB s 16 ⟨0, none, []⟩ := rfl
  rw [← e] at hg hu
  have h1 := hg.up
  have h2 := hg.first
  have e0 : (⟨0, none, []⟩ : BS).st.length = 0 := rfl
  have e1 : (⟨0, none, []⟩ : BS).at_ = 0 := rfl
  rw [e0, e1] at h1
  have hl : (stepsB s).length = (readB s).2.st.length + 1 := by unfold stepsB; rw [patchB_len, addB_len]
  refine ⟨?_, ?_, ?_⟩
  · unfold stepsB
    exact wf_patch (wf_add h _ (Nat.zero_le _) (Nat.zero_le _)) _ _ (by show _ < (addB ⟨4, 0, 0, 0⟩ (readB s).2).st.length; rw [addB_len]; omega)
  · rw [hl]; unfold firstB; omega
  · rw [hl]; omega
end Go.Proofs.Ytnjpdhekeffpnaa.Rx
