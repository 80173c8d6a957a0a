/- The reader's steps are its tree's, put together: plain. -/
import Derived.Test.YtnjpdhekeffpnaaRxEe
set_option linter.unusedVariables false
set_option linter.unusedSimpArgs false
namespace Go.Proofs.Ytnjpdhekeffpnaa.Rx
open Go.RowKit Go.Proofs.YtnjpdhekeffpnaaW.PrintWords Go.Proofs.YtnjpdhekeffpnaaW.PrintLast Go.Proofs.YtnjpdhekeffpnaaW.PrintMore

theorem sp_cat (S0 S1 S2 : BS) (p q : Part) (a b : Re) (hp : Sp S0 (p, S1) a) (hq : Sp S1 (q, S2) b) : Sp S0 ((p.1, q.2), patchB p.2 q.1 S2) (.cat a b) := by
  have l1 : S0.st.length ≤ S1.st.length := hp.le
  have l2 : S1.st.length ≤ S2.st.length := hq.le
  have o1 : ∀ o ∈ p.2, S0.st.length ≤ o / 2 ∧ o / 2 < S1.st.length := hp.outs
  have o2 : ∀ o ∈ q.2, S1.st.length ≤ o / 2 ∧ o / 2 < S2.st.length := hq.outs
  have hstp : ∀ n, n < S2.st.length → stp (patchB p.2 q.1 S2).st n = pt p.2 q.1 n (stp S2.st n) := fun n hn => stp_patch _ _ _ _ hn
  refine ⟨by rw [patchB_len]; omega, fun n hn => ?_, fun o ho => ?_, fun st' x hst => ?_⟩
  · rw [hstp n (by omega), pt_none _ _ _ _ (fun o ho => by have := o1 o ho; omega)]
    exact (hq.pre n (by omega)).trans (hp.pre n hn)
  · rw [patchB_len]
    have := o2 o ho
    exact ⟨by omega, this.2⟩
  · rw [patchB_len] at hst
    refine .cat (hp.bt st' q.1 (fun n h2 h3 => ?_)) (hq.bt st' x (fun n h2 h3 => ?_))
    · have h3' : n < S1.st.length := h3
      refine (hst n h2 (by omega)).trans ?_
      show pt q.2 x n _ = pt p.2 q.1 n (stp S1.st n)
      rw [hstp n (by omega), pt_none q.2 x n _ (fun o ho => by have := o2 o ho; omega), hq.pre n h3']
    · have h3' : n < S2.st.length := h3
      refine (hst n (by omega) h3').trans ?_
      show pt q.2 x n _ = pt q.2 x n (stp S2.st n)
      rw [hstp n h3', pt_none p.2 q.1 n _ (fun o ho => by have := o1 o ho; omega)]
theorem sp_eps (S : BS) : Sp S ((S.st.length, [2 * S.st.length, 2 * S.st.length + 1]), addB ⟨1, 0, 0, 0⟩ S) .eps := by
  refine ⟨by simp [addB], fun n hn => stp_add_lt _ _ _ hn, fun o ho => ?_, fun st' x hst => ?_⟩
  · have : o = 2 * S.st.length ∨ o = 2 * S.st.length + 1 := by simpa using ho
    simp [addB]; omega
  · refine .eps (m := 0) ((hst S.st.length (Nat.le_refl _) (by simp [addB])).trans ?_)
    show pt _ x S.st.length (stp (S.st ++ [⟨1, 0, 0, 0⟩]) S.st.length) = _
    rw [stp_add_eq]
    unfold pt
    rw [if_pos (by simp), if_pos (by simp)]
theorem sp_alt (S0 S1 S2 : BS) (p q : Part) (a b : Re) (hp : Sp S0 (p, S1) a) (hq : Sp S1 (q, S2) b) : Sp S0 ((S2.st.length, p.2 ++ q.2), addB ⟨1, 0, p.1, q.1⟩ S2) (.alt a b) := by
  have l1 : S0.st.length ≤ S1.st.length := hp.le
  have l2 : S1.st.length ≤ S2.st.length := hq.le
  have o1 : ∀ o ∈ p.2, S0.st.length ≤ o / 2 ∧ o / 2 < S1.st.length := hp.outs
  have o2 : ∀ o ∈ q.2, S1.st.length ≤ o / 2 ∧ o / 2 < S2.st.length := hq.outs
  have hlen : (addB ⟨1, 0, p.1, q.1⟩ S2).st.length = S2.st.length + 1 := by simp [addB]
  have hstp : ∀ n, n < S2.st.length → stp (addB ⟨1, 0, p.1, q.1⟩ S2).st n = stp S2.st n := fun n hn => stp_add_lt _ _ _ hn
  refine ⟨by rw [hlen]; omega, fun n hn => ?_, fun o ho => ?_, fun st' x hst => ?_⟩
  · rw [hstp n (by omega)]
    exact (hq.pre n (by omega)).trans (hp.pre n hn)
  · rw [hlen]
    rcases List.mem_append.1 ho with h | h
    · have := o1 o h; omega
    · have := o2 o h; omega
  · rw [hlen] at hst
    have h1 : stp st' S2.st.length = ⟨1, 0, p.1, q.1⟩ := by
      refine (hst S2.st.length (by omega) (by omega)).trans ?_
      show pt (p.2 ++ q.2) x S2.st.length (stp (S2.st ++ [⟨1, 0, p.1, q.1⟩]) S2.st.length) = _
      rw [stp_add_eq, pt_none _ _ _ _ (fun o ho => by
        rcases List.mem_append.1 ho with h | h
        · have := o1 o h; omega
        · have := o2 o h; omega)]
    refine .alt h1 (hp.bt st' x (fun n h2 h3 => ?_)) (hq.bt st' x (fun n h2 h3 => ?_))
    · have h3' : n < S1.st.length := h3
      refine (hst n h2 (by omega)).trans ?_
      show pt (p.2 ++ q.2) x n _ = pt p.2 x n (stp S1.st n)
      rw [hstp n (by omega), pt_app_none _ _ _ _ _ (fun o ho => by have := o2 o ho; omega), hq.pre n h3']
    · have h3' : n < S2.st.length := h3
      refine (hst n (by omega) (by omega)).trans ?_
      show pt (p.2 ++ q.2) x n _ = pt q.2 x n (stp S2.st n)
      rw [hstp n h3', pt_app_none' _ _ _ _ _ (fun o ho => by have := o1 o ho; omega)]
/-- a reader and its trees -/
def Ok (th : BS → Part × BS) (te : BS → Re × BS) : Prop := ∀ S, zB (th S).2 = (te (zB S)).2 ∧ ((th S).2.F = none → S.F = none ∧ Sp S (th S) (te (zB S)).1)
theorem wayL_ok {th : BS → Part × BS} {te : BS → Re × BS} (ht : Ok th te) (s : ByteArray) (S0 : BS) : ∀ (n : Nat) (p : Part) (S : BS) (e : Re), (S.F = none → Sp S0 (p, S) e) →
    zB (wayL th s n p S).2 = (wayLE te s n e (zB S)).2 ∧ ((wayL th s n p S).2.F = none → S.F = none ∧ Sp S0 (wayL th s n p S) (wayLE te s n e (zB S)).1)
  | 0, p, S, e, h => ⟨rfl, fun hF => ⟨hF, h hF⟩⟩
  | n + 1, p, S, e, h => by
    rw [wayL, wayLE, peek_z]
    cases peekB s S with
    | none => exact ⟨rfl, fun hF => ⟨hF, h hF⟩⟩
    | some c =>
      dsimp only
      by_cases hc : c = 124 ∨ c = 41
      · rw [if_pos hc, if_pos hc]
        exact ⟨rfl, fun hF => ⟨hF, h hF⟩⟩
      · rw [if_neg hc, if_neg hc]
        obtain ⟨z1, h1⟩ := ht S
        rw [← z1]
        have z2 : zB (repB s (th S).1 (th S).2).2 = (repE s (te (zB S)).1 (zB (th S).2)).2 ∧ (repB s (th S).1 (th S).2).2.F = (th S).2.F := by
          unfold repB repE
          rw [peek_z]
          cases peekB s (th S).2 with
          | none => exact ⟨rfl, rfl⟩
          | some c => dsimp only; split; (· exact ⟨rfl, rfl⟩); (· split; (· exact ⟨rfl, rfl⟩); (· split <;> exact ⟨rfl, rfl⟩))
        rw [← z2.1]
        have ih := wayL_ok ht s S0 n (p.1, (repB s (th S).1 (th S).2).1.2) (patchB p.2 (repB s (th S).1 (th S).2).1.1 (repB s (th S).1 (th S).2).2) (.cat e (repE s (te (zB S)).1 (zB (th S).2)).1) (fun hF => by
          have hF1 : (th S).2.F = none := z2.2.symm.trans hF
          obtain ⟨h2, h3⟩ := h1 hF1
          exact sp_cat S0 S _ p _ e _ (h h2) (sp_rep s S (th S).2 (th S).1 _ h3).1)
        refine ⟨ih.1, fun hF => ?_⟩
        obtain ⟨h2, h3⟩ := ih.2 hF
        have hF1 : (th S).2.F = none := z2.2.symm.trans h2
        exact ⟨(h1 hF1).1, h3⟩
theorem way_ok {th : BS → Part × BS} {te : BS → Re × BS} (ht : Ok th te) (s : ByteArray) : Ok (wayB th s) (wayE te s) := by
  intro S
  have h := wayL_ok ht s S (s.size + 1) (S.st.length, [2 * S.st.length, 2 * S.st.length + 1]) (addB ⟨1, 0, 0, 0⟩ S) .eps (fun _ => sp_eps S)
  exact h
theorem waysL_ok {th : BS → Part × BS} {te : BS → Re × BS} (ht : Ok th te) (s : ByteArray) (S0 : BS) : ∀ (n : Nat) (p : Part) (S : BS) (e : Re), (S.F = none → Sp S0 (p, S) e) →
    zB (waysL th s n p S).2 = (waysLE te s n e (zB S)).2 ∧ ((waysL th s n p S).2.F = none → S.F = none ∧ Sp S0 (waysL th s n p S) (waysLE te s n e (zB S)).1)
  | 0, p, S, e, h => ⟨rfl, fun hF => ⟨hF, h hF⟩⟩
  | n + 1, p, S, e, h => by
    rw [waysL, waysLE, peek_z]
    by_cases hc : peekB s S = some 124
    · rw [if_pos hc, if_pos hc]
      obtain ⟨z1, h1⟩ := way_ok ht s (skip S 1)
      rw [skip_z, ← z1]
      have ih := waysL_ok ht s S0 n ((wayB th s (skip S 1)).2.st.length, p.2 ++ (wayB th s (skip S 1)).1.2) (addB ⟨1, 0, p.1, (wayB th s (skip S 1)).1.1⟩ (wayB th s (skip S 1)).2) (.alt e (wayE te s (zB (skip S 1))).1) (fun hF => by
        obtain ⟨h2, h3⟩ := h1 hF
        exact sp_alt S0 S _ p _ e _ (h h2) (h3.st rfl))
      refine ⟨ih.1, fun hF => ?_⟩
      obtain ⟨h2, h3⟩ := ih.2 hF
      exact ⟨(h1 h2).1, h3⟩
    · rw [if_neg hc, if_neg hc]
      exact ⟨rfl, fun hF => ⟨hF, h hF⟩⟩
theorem ways_ok {th : BS → Part × BS} {te : BS → Re × BS} (ht : Ok th te) (s : ByteArray) : Ok (waysF th s) (waysFE te s) := by
  intro S
  obtain ⟨z1, h1⟩ := way_ok ht s S
  have h := waysL_ok ht s S (s.size + 1) (wayB th s S).1 (wayB th s S).2 (wayE te s (zB S)).1 (fun hF => (h1 hF).2)
  rw [z1] at h
  exact ⟨h.1, fun hF => ⟨(h1 (h.2 hF).1).1, (h.2 hF).2⟩⟩
end Go.Proofs.Ytnjpdhekeffpnaa.Rx
