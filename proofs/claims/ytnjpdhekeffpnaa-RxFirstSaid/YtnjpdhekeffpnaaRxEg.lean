/- An expression's steps do what its tree says: plain. -/
import Derived.Test.YtnjpdhekeffpnaaRxEf
set_option linter.unusedVariables false
set_option linter.unusedSimpArgs false
namespace Go.Proofs.Ytnjpdhekeffpnaa.Rx
open Go.RowKit Go.Proofs.YtnjpdhekeffpnaaW.PrintWords Go.Proofs.YtnjpdhekeffpnaaW.PrintLast Go.Proofs.YtnjpdhekeffpnaaW.PrintMore

theorem brL_F (s : ByteArray) (b0 : Nat) : ∀ (n m : Nat) (S : BS), (brL s b0 n m S).2.2.F = none → S.F = none
  | 0, m, S, h => absurd h (wrong_F _ _ _)
  | n + 1, m, S, h => by
    rw [brL] at h
    cases hp : peekB s S with
    | none => rw [hp] at h; exact absurd h (wrong_F _ _ _)
    | some c =>
      unfold peekB at hp
      split at hp
      · rename_i h1; exact h1.1
      · cases hp
theorem bracket_F (s : ByteArray) (S : BS) (h : (bracketB s S).2.F = none) : S.F = none := by
  unfold bracketB at h
  split at h
  · exact brL_F s (S.at_ + 1) (s.size + 1) 0 (skip S 1) h
  · exact brL_F s S.at_ (s.size + 1) 0 S h
theorem Sp.r {S S1 S2 : BS} {p : Part} {e : Re} (h : Sp S (p, S1) e) (hs : S1.st = S2.st) : Sp S (p, S2) e := by
  obtain ⟨h1, h2, h3, h4⟩ := h
  dsimp only at h1 h2 h3 h4
  rw [hs] at h1 h2 h3 h4
  exact ⟨h1, h2, h3, h4⟩
theorem grp_ok {wys : BS → Part × BS} {we : BS → Re × BS} (hw : Ok wys we) (s : ByteArray) (a : Nat) : Ok (grpF wys s a) (grpFE we s a) := by
  intro S
  obtain ⟨z1, h1⟩ := hw S
  unfold grpF grpFE
  dsimp only
  rw [← z1, peek_z, wrong_z]
  by_cases hc : peekB s (wys S).2 = some 41
  · rw [if_pos hc, if_pos hc, skip_z]
    exact ⟨rfl, fun hF => ⟨(h1 hF).1, Sp.r (S1 := (wys S).2) (h1 hF).2 rfl⟩⟩
  · rw [if_neg hc, if_neg hc, skip_z]
    exact ⟨rfl, fun hF => absurd hF (wrong_F _ _ _)⟩
theorem byte_ok (S S1 : BS) (m : Nat) (hs : S.st = S1.st) : Sp S (single ⟨0, m, 0, 0⟩ S1) (.byte m) :=
  (sp_single S1 ⟨0, m, 0, 0⟩ (.byte m) (fun st' n y h => .byte h)).st hs.symm
theorem thing_ok {grp : Nat → BS → Part × BS} {ge : Nat → BS → Re × BS} (hg : ∀ a, Ok (grp a) (ge a)) (s : ByteArray) : Ok (thingB grp s) (thingE ge s) := by
  intro S
  unfold thingB thingE
  dsimp only
  rw [peek_z, skip_z, peek_z, wrong_z, wrong_z, show (zB S).at_ = S.at_ from rfl, bracket_z]
  obtain ⟨c, hc⟩ : ∃ c, (peekB s S).getD 0 = c := ⟨_, rfl⟩
  rw [hc]
  split
  · exact ⟨rfl, fun hF => absurd hF (wrong_F _ _ _)⟩
  · split
    · exact ⟨rfl, fun hF => ⟨hF, byte_ok S _ _ rfl⟩⟩
    · split
      · exact ⟨rfl, fun hF => ⟨hF, (sp_single (skip S 1) ⟨2, 0, 0, 0⟩ .beg (fun st' n y h => .beg h)).st rfl⟩⟩
      · split
        · exact ⟨rfl, fun hF => ⟨hF, (sp_single (skip S 1) ⟨3, 0, 0, 0⟩ .fin (fun st' n y h => .fin h)).st rfl⟩⟩
        · split
          · exact ⟨rfl, fun hF => ⟨bracket_F s (skip S 1) hF, byte_ok S _ _ (bracketB_at s (skip S 1)).2.symm⟩⟩
          · split
            · obtain ⟨z1, h1⟩ := hg S.at_ (skip S 1)
              exact ⟨z1, fun hF => ⟨(h1 hF).1, (h1 hF).2.st rfl⟩⟩
            · split
              · by_cases hn : (peekB s (skip S 1)).isNone = true
                · rw [if_pos hn, if_pos hn]
                  exact ⟨rfl, fun hF => absurd hF (wrong_F _ _ _)⟩
                · rw [if_neg hn, if_neg hn]
                  exact ⟨rfl, fun hF => ⟨hF, byte_ok S _ _ rfl⟩⟩
              · exact ⟨rfl, fun hF => ⟨hF, byte_ok S _ _ rfl⟩⟩
theorem th_ok (s : ByteArray) : ∀ d, Ok (thB s d) (thE s d)
  | 0 => thing_ok (fun a S => ⟨(wrong_z 4 a S).symm, fun hF => absurd hF (wrong_F _ _ _)⟩) s
  | d + 1 => by
    show Ok (thingB (grpF (waysB s d) s) s) (thingE (grpFE (waysFE (thE s d) s) s) s)
    refine thing_ok (fun a => grp_ok ?_ s a) s
    rw [waysB_eq]
    exact ways_ok (th_ok s d) s
theorem read_ok (s : ByteArray) : zB (readB s).2 = (readE s).2 ∧ ((readB s).2.F = none → Sp ⟨0, none, []⟩ (readB s) (readE s).1) := by
  have h := ways_ok (th_ok s 16) s ⟨0, none, []⟩
  rw [← waysB_eq] at h
  exact ⟨h.1, fun hF => (h.2 hF).2⟩
theorem fault_none (s : ByteArray) (h : faultB s = none) : s.size ≤ 200 ∧ (readB s).2.F = none ∧ s.size ≤ (readB s).2.at_ := by
  unfold faultB at h
  split at h
  · cases h
  · rename_i h1
    split at h
    · exact absurd h (wrong_F _ _ _)
    · exact ⟨by omega, h, by omega⟩
/-- an expression's steps are its tree's -/
theorem read_bt (s : ByteArray) (h : faultB s = none) : ∃ x, Bt (stepsB s) (readE s).1 (firstB s) x ∧ (stp (stepsB s) x).k = 4 := by
  have hs := (read_ok s).2 (fault_none s h).2.1
  have hst : ∀ n, n < (readB s).2.st.length + 1 → stp (stepsB s) n = pt (readB s).1.2 (readB s).2.st.length n (stp ((readB s).2.st ++ [⟨4, 0, 0, 0⟩]) n) := fun n hn => stp_patch _ _ _ _ (by simp [addB]; omega)
  refine ⟨(readB s).2.st.length, hs.bt _ _ (fun n _ hn => ?_), ?_⟩
  · rw [hst n (by omega), stp_add_lt _ _ _ hn]
  · rw [hst _ (by omega), stp_add_eq]
    rfl
/-- longP of an expression's steps -/
theorem long_M (p s : ByteArray) (h : faultB p = none) (i : Nat) (hi : i ≤ s.size) :
    (longP s (stepsB p) (firstB p) i = -1 ∧ ∀ j, ¬ M s (readE p).1 i j) ∨ (∃ j, i ≤ j ∧ longP s (stepsB p) (firstB p) i = (j : Int) ∧ M s (readE p).1 i j ∧ ∀ j', M s (readE p).1 i j' → j' ≤ j) := by
  obtain ⟨x, h1, h2⟩ := read_bt p h
  have hw := wf_steps p
  exact longP_M s _ _ _ x i hw.1 hw.2.1 hi h1 h2
end Go.Proofs.Ytnjpdhekeffpnaa.Rx
