/- The reader's steps are its tree's: plain. -/
import Derived.Test.YtnjpdhekeffpnaaRxEd
set_option linter.unusedVariables false
set_option linter.unusedSimpArgs false
namespace Go.Proofs.Ytnjpdhekeffpnaa.Rx
open Go.RowKit Go.Proofs.YtnjpdhekeffpnaaW.PrintWords Go.Proofs.YtnjpdhekeffpnaaW.PrintLast Go.Proofs.YtnjpdhekeffpnaaW.PrintMore

theorem wrong_F (e a : Nat) (S : BS) : (wrongB e a S).F ≠ none := by obtain ⟨at_, F, st⟩ := S; cases F <;> simp [wrongB]
theorem pt_app_none (o1 o2 : List Nat) (x n : Nat) (y : Stp) (h : ∀ o ∈ o2, o / 2 ≠ n) : pt (o1 ++ o2) x n y = pt o1 x n y := by
  have h1 : ¬ 2 * n ∈ o2 := fun h1 => h _ h1 (by omega)
  have h2 : ¬ 2 * n + 1 ∈ o2 := fun h1 => h _ h1 (by omega)
  unfold pt
  simp [List.mem_append, h1, h2]
theorem pt_app_none' (o1 o2 : List Nat) (x n : Nat) (y : Stp) (h : ∀ o ∈ o1, o / 2 ≠ n) : pt (o1 ++ o2) x n y = pt o2 x n y := by
  have h1 : ¬ 2 * n ∈ o1 := fun h1 => h _ h1 (by omega)
  have h2 : ¬ 2 * n + 1 ∈ o1 := fun h1 => h _ h1 (by omega)
  unfold pt
  simp [List.mem_append, h1, h2]
theorem Sp.st {S S' : BS} {r : Part × BS} {e : Re} (h : Sp S r e) (hs : S.st = S'.st) : Sp S' r e := by
  obtain ⟨h1, h2, h3, h4⟩ := h
  rw [hs] at h1 h2 h3 h4
  exact ⟨h1, h2, h3, h4⟩
theorem pt_ot (n x f : Nat) (m : Nat) : pt [2 * n + 1] x n ⟨1, m, f, 0⟩ = ⟨1, m, f, x⟩ := by
  unfold pt
  rw [if_neg (by simp), if_pos (by simp)]
theorem sp_rep (s : ByteArray) (S0 S : BS) (p : Part) (e : Re) (h : Sp S0 (p, S) e) : Sp S0 (repB s p S) (repE s e (zB S)).1 ∧ zB (repB s p S).2 = (repE s e (zB S)).2 ∧ (repB s p S).2.F = S.F := by
  have hle : S0.st.length ≤ S.st.length := h.le
  have hout : ∀ o ∈ p.2, o / 2 ≠ S.st.length := fun o ho => by have := (h.outs o ho).2; dsimp only at this; omega
  unfold repB repE
  rw [peek_z]
  cases peekB s S with
  | none => exact ⟨h, rfl, rfl⟩
  | some c =>
    dsimp only
    by_cases h63 : c = 63
    · rw [if_pos h63, if_pos h63]
      refine ⟨⟨by simp [addB, skip]; omega, fun n hn => (stp_add_lt _ _ _ (by show n < S.st.length; omega)).trans (h.pre n hn), fun o ho => ?_, fun st' x hst => ?_⟩, rfl, rfl⟩
      · rcases List.mem_append.1 ho with ho | ho
        · have h9 := h.outs o ho; dsimp only at h9; simp [addB, skip]; omega
        · have : o = 2 * S.st.length + 1 := by simpa using ho
          subst this
          simp [addB, skip]; omega
      · have h1 : stp st' S.st.length = ⟨1, 0, p.1, x⟩ := by
          refine (hst S.st.length hle (by simp [addB, skip])).trans ?_
          show pt (p.2 ++ [2 * S.st.length + 1]) x S.st.length (stp (S.st ++ [⟨1, 0, p.1, 0⟩]) S.st.length) = _
          rw [stp_add_eq, pt_app_none' _ _ _ _ _ hout, pt_ot]
        refine .opt h1 (h.bt st' x (fun n h2 h3 => ?_))
        refine (hst n h2 (by simp [addB, skip]; exact Nat.lt_succ_of_lt h3)).trans ?_
        show pt (p.2 ++ [2 * S.st.length + 1]) x n (stp (S.st ++ [⟨1, 0, p.1, 0⟩]) n) = pt p.2 x n (stp S.st n)
        have h3' : n < S.st.length := h3
        rw [stp_add_lt _ _ _ h3, pt_app_none _ _ _ _ _ (fun o ho => by (have h9 : o = 2 * S.st.length + 1 := (by simpa using ho)); omega)]
    · rw [if_neg h63, if_neg h63]
      have both : ∀ q : Nat, (∀ st' x, stp st' S.st.length = ⟨1, 0, p.1, x⟩ → Bt st' e p.1 S.st.length → ∀ e', (e' = Re.plus e ∧ q = p.1 ∨ e' = Re.star e ∧ q = S.st.length) → Bt st' e' q x) := by
        rintro q st' x h1 h2 e' (⟨rfl, rfl⟩ | ⟨rfl, rfl⟩)
        · exact .plus h1 h2
        · exact .star h1 h2
      have main : ∀ (q : Nat) (e' : Re), (e' = Re.plus e ∧ q = p.1 ∨ e' = Re.star e ∧ q = S.st.length) → Sp S0 ((q, [2 * S.st.length + 1]), patchB p.2 S.st.length (addB ⟨1, 0, p.1, 0⟩ (skip S 1))) e' := by
        intro q e' hq
        have hlen : (patchB p.2 S.st.length (addB ⟨1, 0, p.1, 0⟩ (skip S 1))).st.length = S.st.length + 1 := by rw [patchB_len]; simp [addB, skip]
        have hstp : ∀ n, n < S.st.length + 1 → stp (patchB p.2 S.st.length (addB ⟨1, 0, p.1, 0⟩ (skip S 1))).st n = pt p.2 S.st.length n (stp (S.st ++ [⟨1, 0, p.1, 0⟩]) n) := fun n hn => stp_patch _ _ _ _ (by simp [addB, skip]; omega)
        refine ⟨by rw [hlen]; omega, fun n hn => ?_, fun o ho => ?_, fun st' x hst => ?_⟩
        · rw [hstp n (by omega), stp_add_lt _ _ _ (by omega), pt_none _ _ _ _ (fun o ho => by have := (h.outs o ho).1; omega)]
          exact h.pre n hn
        · have : o = 2 * S.st.length + 1 := by simpa using ho
          subst this
          rw [hlen]; omega
        · rw [hlen] at hst
          have h1 : stp st' S.st.length = ⟨1, 0, p.1, x⟩ := by
            refine (hst S.st.length hle (by omega)).trans ?_
            show pt [2 * S.st.length + 1] x S.st.length _ = _
            rw [hstp _ (by omega), stp_add_eq, pt_none _ _ _ _ hout, pt_ot]
          refine both q st' x h1 (h.bt st' _ (fun n h2 h3 => ?_)) e' hq
          have h3' : n < S.st.length := h3
          refine (hst n h2 (by omega)).trans ?_
          show pt [2 * S.st.length + 1] x n _ = pt p.2 S.st.length n (stp S.st n)
          rw [hstp n (by omega), stp_add_lt _ _ _ h3', pt_none [2 * S.st.length + 1] x n _ (fun o ho => by (have h9 : o = 2 * S.st.length + 1 := (by simpa using ho)); omega)]
      by_cases h43 : c = 43
      · rw [if_pos h43, if_pos h43]
        exact ⟨main _ _ (.inl ⟨rfl, rfl⟩), rfl, rfl⟩
      · rw [if_neg h43, if_neg h43]
        by_cases h42 : c = 42
        · rw [if_pos h42, if_pos h42]
          exact ⟨main _ _ (.inr ⟨rfl, rfl⟩), rfl, rfl⟩
        · rw [if_neg h42, if_neg h42]
          exact ⟨h, rfl, rfl⟩
end Go.Proofs.Ytnjpdhekeffpnaa.Rx
