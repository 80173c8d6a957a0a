/- Marks: what walkP marks is what is come to: plain. -/
import Derived.Test.YtnjpdhekeffpnaaRxE
set_option linter.unusedVariables false
set_option linter.unusedSimpArgs false
namespace Go.Proofs.Ytnjpdhekeffpnaa.Rx
open Go.RowKit Go.Proofs.YtnjpdhekeffpnaaW.PrintWords Go.Proofs.YtnjpdhekeffpnaaW.PrintLast Go.Proofs.YtnjpdhekeffpnaaW.PrintMore

def On (m : List Bool) (n : Nat) : Prop := m.getD n false = true
/-- one step that takes no byte -/
def Nb (st : List Stp) (b e : Bool) (n x : Nat) : Prop :=
  ((stp st n).k = 1 ∧ (x = (stp st n).nx ∨ x = (stp st n).ot)) ∨ ((stp st n).k = 2 ∧ b = true ∧ x = (stp st n).nx) ∨ ((stp st n).k = 3 ∧ e = true ∧ x = (stp st n).nx)
inductive Ep (st : List Stp) (b e : Bool) : Nat → Nat → Prop where
  | refl (n : Nat) : Ep st b e n n
  | step {n x y : Nat} : Nb st b e n x → Ep st b e x y → Ep st b e n y
theorem on_set (m : List Bool) (n x : Nat) (hn : n < m.length) : On (m.set n true) x ↔ x = n ∨ On m x := by
  unfold On
  rw [List.getD_eq_getElem?_getD, List.getD_eq_getElem?_getD, List.getElem?_set]
  by_cases h : n = x
  · subst h; simp [hn]
  · rw [if_neg h]
    constructor
    · intro h2; exact .inr h2
    · rintro (h2 | h2)
      · exact absurd h2.symm h
      · exact h2
theorem getD_true (m : List Bool) (n : Nat) (hn : n < m.length) : (m.getD n true = true) ↔ On m n := by
  unfold On
  simp [List.getD_eq_getElem?_getD, List.getElem?_eq_getElem hn]
theorem stp_wf {st : List Stp} (h : WfS st) {n : Nat} (hn : n < st.length) : (stp st n).nx < st.length ∧ (stp st n).ot < st.length := by
  have := h (st[n]) (List.getElem_mem _)
  simpa [stp, List.getD_eq_getElem?_getD, List.getElem?_eq_getElem hn] using this
structure Wk (st : List Stp) (b e : Bool) (m : List Bool) (n : Nat) (m' : List Bool) : Prop where
  up : ∀ x, On m x → On m' x
  at_ : On m' n
  cl : ∀ x, On m' x → ¬ On m x → ∀ y, Nb st b e x y → On m' y
  only : ∀ x, On m' x → On m x ∨ Ep st b e n x
theorem free_lt (m : List Bool) (n k : Nat) (hk : free m < k + 1) (hf : m.getD n true = false) : free (m.set n true) < k := by
  have := free_set m n hf
  omega
theorem walkP_spec (st : List Stp) (b e : Bool) (hw : WfS st) : ∀ (k : Nat) (m : List Bool) (n : Nat), free m < k → m.length = st.length → n < st.length → Wk st b e m n (walkP st b e k m n)
  | 0, m, n, h, _, _ => absurd h (Nat.not_lt_zero _)
  | k + 1, m, n, h, hl, hn => by
    have hnl : n < m.length := by omega
    have hwf := stp_wf hw hn
    rw [walkP]
    split
    · rename_i h1
      have h2 := (getD_true m n hnl).1 h1
      exact ⟨fun _ h => h, h2, fun x h3 h4 => absurd h3 h4, fun x h => .inl h⟩
    · rename_i h1
      have hno : ¬ On m n := fun h2 => h1 ((getD_true m n hnl).2 h2)
      have hfr := free_lt m n k h (by simpa using h1)
      have hls : (m.set n true).length = st.length := by rw [List.length_set]; exact hl
      have hself : On (m.set n true) n := (on_set m n n hnl).2 (.inl rfl)
      have hup : ∀ x, On m x → On (m.set n true) x := fun x hx => (on_set m n x hnl).2 (.inr hx)
      split
      · rename_i hk
        have w1 := walkP_spec st b e hw k (m.set n true) (stp st n).nx hfr hls hwf.1
        have hf2 : free (walkP st b e k (m.set n true) (stp st n).nx) < k := Nat.lt_of_le_of_lt (free_le _ _ _ _ _ _) hfr
        have w2 := walkP_spec st b e hw k _ (stp st n).ot hf2 (by rw [walkP_len]; exact hls) hwf.2
        refine ⟨fun x hx => w2.up x (w1.up x (hup x hx)), w2.up n (w1.up n hself), ?_, ?_⟩
        · intro x hx hxm y hy
          by_cases h3 : On (walkP st b e k (m.set n true) (stp st n).nx) x
          · by_cases h4 : On (m.set n true) x
            · rcases (on_set m n x hnl).1 h4 with rfl | h5
              · rcases hy with ⟨_, rfl | rfl⟩ | ⟨h6, _⟩ | ⟨h6, _⟩
                · exact w2.up _ w1.at_
                · exact w2.at_
                · rw [hk] at h6; cases h6
                · rw [hk] at h6; cases h6
              · exact absurd h5 hxm
            · exact w2.up y (w1.cl x h3 h4 y hy)
          · exact w2.cl x hx h3 y hy
        · intro x hx
          rcases w2.only x hx with h3 | h3
          · rcases w1.only x h3 with h4 | h4
            · rcases (on_set m n x hnl).1 h4 with rfl | h5
              · exact .inr (.refl _)
              · exact .inl h5
            · exact .inr (.step (.inl ⟨hk, .inl rfl⟩) h4)
          · exact .inr (.step (.inl ⟨hk, .inr rfl⟩) h3)
      · rename_i hk1
        have alone : (∀ y, ¬ Nb st b e n y) → Wk st b e m n (m.set n true) := fun hnn =>
          ⟨hup, hself, fun x hx hxm y hy => by
            rcases (on_set m n x hnl).1 hx with rfl | h5
            · exact absurd hy (hnn y)
            · exact absurd h5 hxm, fun x hx => by
            rcases (on_set m n x hnl).1 hx with rfl | h5
            · exact .inr (.refl _)
            · exact .inl h5⟩
        have single : Nb st b e n (stp st n).nx → (∀ y, Nb st b e n y → y = (stp st n).nx) → Wk st b e m n (walkP st b e k (m.set n true) (stp st n).nx) := fun hnb hon => by
          have w1 := walkP_spec st b e hw k (m.set n true) (stp st n).nx hfr hls hwf.1
          refine ⟨fun x hx => w1.up x (hup x hx), w1.up n hself, ?_, ?_⟩
          · intro x hx hxm y hy
            by_cases h4 : On (m.set n true) x
            · rcases (on_set m n x hnl).1 h4 with rfl | h5
              · rw [hon y hy]; exact w1.at_
              · exact absurd h5 hxm
            · exact w1.cl x hx h4 y hy
          · intro x hx
            rcases w1.only x hx with h4 | h4
            · rcases (on_set m n x hnl).1 h4 with rfl | h5
              · exact .inr (.refl _)
              · exact .inl h5
            · exact .inr (.step hnb h4)
        split
        · rename_i hk2
          split
          · rename_i hb
            exact single (.inr (.inl ⟨hk2, hb, rfl⟩)) (fun y hy => by
              rcases hy with ⟨h6, _⟩ | ⟨_, _, h7⟩ | ⟨h6, _⟩
              · rw [hk2] at h6; cases h6
              · exact h7
              · rw [hk2] at h6; cases h6)
          · rename_i hb
            exact alone (fun y hy => by
              rcases hy with ⟨h6, _⟩ | ⟨_, h7, _⟩ | ⟨h6, _⟩
              · rw [hk2] at h6; cases h6
              · exact hb h7
              · rw [hk2] at h6; cases h6)
        · rename_i hk2
          split
          · rename_i hk3
            split
            · rename_i hb
              exact single (.inr (.inr ⟨hk3, hb, rfl⟩)) (fun y hy => by
                rcases hy with ⟨h6, _⟩ | ⟨h6, _⟩ | ⟨_, _, h7⟩
                · rw [hk3] at h6; cases h6
                · rw [hk3] at h6; cases h6
                · exact h7)
            · rename_i hb
              exact alone (fun y hy => by
                rcases hy with ⟨h6, _⟩ | ⟨h6, _⟩ | ⟨_, h7, _⟩
                · rw [hk3] at h6; cases h6
                · rw [hk3] at h6; cases h6
                · exact hb h7)
          · rename_i hk3
            exact alone (fun y hy => by
              rcases hy with ⟨h6, _⟩ | ⟨h6, _⟩ | ⟨h6, _⟩
              · exact hk1 h6
              · exact hk2 h6
              · exact hk3 h6)
/-- marks that are closed: what is come to with no byte is marked too -/
def Cl (st : List Stp) (b e : Bool) (m : List Bool) : Prop := ∀ x, On m x → ∀ y, Nb st b e x y → On m y
theorem Wk.closed {st : List Stp} {b e : Bool} {m m' : List Bool} {n : Nat} (h : Wk st b e m n m') (hc : Cl st b e m) : Cl st b e m' := by
  intro x hx y hy
  by_cases h1 : On m x
  · exact h.up y (hc x h1 y hy)
  · exact h.cl x hx h1 y hy
theorem Cl.ep {st : List Stp} {b e : Bool} {m : List Bool} (hc : Cl st b e m) {n x : Nat} (h : Ep st b e n x) (hn : On m n) : On m x := by
  induction h with
  | refl => exact hn
  | step h1 _ ih => exact ih (hc _ hn _ h1)
theorem Wk.iff {st : List Stp} {b e : Bool} {m m' : List Bool} {n : Nat} (h : Wk st b e m n m') (hc : Cl st b e m) (x : Nat) : On m' x ↔ On m x ∨ Ep st b e n x :=
  ⟨h.only x, fun h1 => h1.elim (h.up x) (fun h2 => (h.closed hc).ep h2 h.at_)⟩
theorem on_rep (n x : Nat) : ¬ On (List.replicate n false) x := by
  unfold On
  simp [List.getD_eq_getElem?_getD, List.getElem?_replicate]
  split <;> simp
theorem cl_rep (st : List Stp) (b e : Bool) (n : Nat) : Cl st b e (List.replicate n false) := fun x hx => absurd hx (on_rep n x)
end Go.Proofs.Ytnjpdhekeffpnaa.Rx
