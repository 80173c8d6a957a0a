/- Expressions as trees, what they match, and steps that do it: plain. -/
import Derived.Test.YtnjpdhekeffpnaaRxN
set_option linter.unusedVariables false
set_option linter.unusedSimpArgs false
namespace Go.Proofs.Ytnjpdhekeffpnaa.Rx
open Go.RowKit Go.Proofs.YtnjpdhekeffpnaaW.PrintWords Go.Proofs.YtnjpdhekeffpnaaW.PrintLast Go.Proofs.YtnjpdhekeffpnaaW.PrintMore

inductive Re where
  | eps | byte (m : Nat) | beg | fin
  | cat (a b : Re) | alt (a b : Re) | star (a : Re) | plus (a : Re) | opt (a : Re)
inductive Star (R : Nat → Nat → Prop) : Nat → Nat → Prop where
  | nil (i : Nat) : Star R i i
  | cons {i k j : Nat} : R i k → Star R k j → Star R i j
theorem Star.one {R : Nat → Nat → Prop} {i j : Nat} (h : R i j) : Star R i j := .cons h (.nil j)
theorem Star.trans {R : Nat → Nat → Prop} {i k j : Nat} (h : Star R i k) (g : Star R k j) : Star R i j := by
  induction h with
  | nil => exact g
  | cons h1 _ ih => exact .cons h1 (ih g)
/-- which stretches of a text an expression is -/
def M (s : ByteArray) : Re → Nat → Nat → Prop
  | .eps, i, j => i = j
  | .byte m, i, j => i < s.size ∧ m.testBit (bt s i).toNat = true ∧ j = i + 1
  | .beg, i, j => i = 0 ∧ j = i
  | .fin, i, j => i = s.size ∧ j = i
  | .cat a b, i, j => ∃ k, M s a i k ∧ M s b k j
  | .alt a b, i, j => M s a i j ∨ M s b i j
  | .star a, i, j => Star (M s a) i j
  | .plus a, i, j => ∃ k, M s a i k ∧ Star (M s a) k j
  | .opt a, i, j => i = j ∨ M s a i j
theorem Star.le {R : Nat → Nat → Prop} (hR : ∀ i j, R i j → i ≤ j) {i j : Nat} (h : Star R i j) : i ≤ j := by
  induction h with
  | nil => exact Nat.le_refl _
  | cons h1 _ ih => exact Nat.le_trans (hR _ _ h1) ih
theorem M_le (s : ByteArray) : ∀ (e : Re) (i j : Nat), M s e i j → i ≤ j
  | .eps, i, j, h => Nat.le_of_eq h
  | .byte m, i, j, h => by have := h.2.2; omega
  | .beg, i, j, h => by have := h.2; omega
  | .fin, i, j, h => by have := h.2; omega
  | .cat a b, i, j, h => by obtain ⟨k, h1, h2⟩ := h; exact Nat.le_trans (M_le s a i k h1) (M_le s b k j h2)
  | .alt a b, i, j, h => by rcases h with h | h; (· exact M_le s a i j h); (· exact M_le s b i j h)
  | .star a, i, j, h => Star.le (M_le s a) h
  | .plus a, i, j, h => by obtain ⟨k, h1, h2⟩ := h; exact Nat.le_trans (M_le s a i k h1) (Star.le (M_le s a) h2)
  | .opt a, i, j, h => by rcases h with h | h; (· exact Nat.le_of_eq h); (· exact M_le s a i j h)
/-- one move: from step n at place i -/
inductive Go1 (s : ByteArray) (st : List Stp) : Nat → Nat → Nat → Nat → Prop where
  | byte {n i : Nat} : (stp st n).k = 0 → i < s.size → (stp st n).m.testBit (bt s i).toNat = true → Go1 s st n i (stp st n).nx (i + 1)
  | nx {n i : Nat} : (stp st n).k = 1 → Go1 s st n i (stp st n).nx i
  | ot {n i : Nat} : (stp st n).k = 1 → Go1 s st n i (stp st n).ot i
  | beg {n i : Nat} : (stp st n).k = 2 → i = 0 → Go1 s st n i (stp st n).nx i
  | fin {n i : Nat} : (stp st n).k = 3 → i = s.size → Go1 s st n i (stp st n).nx i
/-- l moves lead from step n at i to an end at j -/
inductive Acc (s : ByteArray) (st : List Stp) : Nat → Nat → Nat → Nat → Prop where
  | done {n j : Nat} : (stp st n).k = 4 → Acc s st 0 n j j
  | move {l n i n' i' j : Nat} : Go1 s st n i n' i' → Acc s st l n' i' j → Acc s st (l + 1) n i j
/-- an expression's steps, from f on, go on at nxt -/
inductive Bt (st : List Stp) : Re → Nat → Nat → Prop where
  | byte {n m o x : Nat} : stp st n = ⟨0, m, x, o⟩ → Bt st (.byte m) n x
  | beg {n m o x : Nat} : stp st n = ⟨2, m, x, o⟩ → Bt st .beg n x
  | fin {n m o x : Nat} : stp st n = ⟨3, m, x, o⟩ → Bt st .fin n x
  | eps {n m x : Nat} : stp st n = ⟨1, m, x, x⟩ → Bt st .eps n x
  | cat {a b : Re} {f g x : Nat} : Bt st a f g → Bt st b g x → Bt st (.cat a b) f x
  | alt {a b : Re} {n m f g x : Nat} : stp st n = ⟨1, m, f, g⟩ → Bt st a f x → Bt st b g x → Bt st (.alt a b) n x
  | opt {a : Re} {n m f x : Nat} : stp st n = ⟨1, m, f, x⟩ → Bt st a f x → Bt st (.opt a) n x
  | star {a : Re} {n m f x : Nat} : stp st n = ⟨1, m, f, x⟩ → Bt st a f n → Bt st (.star a) n x
  | plus {a : Re} {n m f x : Nat} : stp st n = ⟨1, m, f, x⟩ → Bt st a f n → Bt st (.plus a) f x
/-- an end of some length -/
def Ac (s : ByteArray) (st : List Stp) (n i j : Nat) : Prop := ∃ l, Acc s st l n i j
theorem Ac.nx {s : ByteArray} {st : List Stp} {n m f x i j : Nat} (h : stp st n = ⟨1, m, f, x⟩) (a : Ac s st f i j) : Ac s st n i j := by
  obtain ⟨l, a⟩ := a
  have g : Go1 s st n i (stp st n).nx i := .nx (by rw [h])
  rw [h] at g
  exact ⟨l + 1, .move g a⟩
theorem Ac.ot {s : ByteArray} {st : List Stp} {n m f x i j : Nat} (h : stp st n = ⟨1, m, f, x⟩) (a : Ac s st x i j) : Ac s st n i j := by
  obtain ⟨l, a⟩ := a
  have g : Go1 s st n i (stp st n).ot i := .ot (by rw [h])
  rw [h] at g
  exact ⟨l + 1, .move g a⟩
/-- what an expression matches, its steps do -/
theorem bt_does (s : ByteArray) (st : List Stp) {e : Re} {f x : Nat} (h : Bt st e f x) : ∀ {i k j : Nat}, M s e i k → Ac s st x k j → Ac s st f i j := by
  induction h with
  | @byte n m o x hn =>
    rintro i k j ⟨h1, h2, rfl⟩ ⟨l, a⟩
    have g : Go1 s st n i (stp st n).nx (i + 1) := .byte (by rw [hn]) h1 (by rw [hn]; exact h2)
    rw [hn] at g
    exact ⟨l + 1, .move g a⟩
  | @beg n m o x hn =>
    rintro i k j ⟨rfl, rfl⟩ ⟨l, a⟩
    have g : Go1 s st n 0 (stp st n).nx 0 := .beg (by rw [hn]) rfl
    rw [hn] at g
    exact ⟨l + 1, .move g a⟩
  | @fin n m o x hn =>
    rintro i k j ⟨h1, h2⟩ ⟨l, a⟩
    rw [h2] at a
    have g : Go1 s st n i (stp st n).nx i := .fin (by rw [hn]) h1
    rw [hn] at g
    exact ⟨l + 1, .move g a⟩
  | eps hn => rintro i k j rfl a; exact a.nx hn
  | cat _ _ ih1 ih2 => rintro i k j ⟨q, h1, h2⟩ a; exact ih1 h1 (ih2 h2 a)
  | alt hn _ _ ih1 ih2 =>
    rintro i k j (h | h) a
    · exact (ih1 h a).nx hn
    · exact (ih2 h a).ot hn
  | opt hn _ ih =>
    rintro i k j (rfl | h) a
    · exact a.ot hn
    · exact (ih h a).nx hn
  | star hn _ ih =>
    intro i k j h a
    have h' : Star (M s _) i k := h
    clear h
    induction h' with
    | nil => exact a.ot hn
    | cons h1 _ ih2 => exact (ih h1 (ih2 a)).nx hn
  | plus hn _ ih =>
    rintro i k j ⟨q, h1, h2⟩ a
    refine ih h1 ?_
    clear h1
    induction h2 with
    | nil => exact a.ot hn
    | cons h1 _ ih2 => exact (ih h1 (ih2 a)).nx hn
theorem Acc.one {s : ByteArray} {st : List Stp} {l n m f x i j : Nat} (h : stp st n = ⟨1, m, f, x⟩) (a : Acc s st l n i j) : ∃ l', l' < l ∧ (Acc s st l' f i j ∨ Acc s st l' x i j) := by
  cases a with
  | done hk => rw [h] at hk; cases hk
  | move g a =>
    refine ⟨_, Nat.lt_succ_self _, ?_⟩
    cases g with
    | byte hk => rw [h] at hk; cases hk
    | nx hk => rw [h] at a; exact .inl a
    | ot hk => rw [h] at a; exact .inr a
    | beg hk => rw [h] at hk; cases hk
    | fin hk => rw [h] at hk; cases hk
/-- what the steps do, the expression matches -/
theorem bt_only (s : ByteArray) (st : List Stp) {e : Re} {f x : Nat} (h : Bt st e f x) : ∀ {l i j : Nat}, Acc s st l f i j → ∃ k l', l' < l ∧ M s e i k ∧ Acc s st l' x k j := by
  induction h with
  | byte hn =>
    intro l i j a
    cases a with
    | done hk => rw [hn] at hk; cases hk
    | move g a =>
      cases g with
      | byte hk h1 h2 => rw [hn] at a h2; exact ⟨_, _, Nat.lt_succ_self _, ⟨h1, h2, rfl⟩, a⟩
      | nx hk => rw [hn] at hk; cases hk
      | ot hk => rw [hn] at hk; cases hk
      | beg hk => rw [hn] at hk; cases hk
      | fin hk => rw [hn] at hk; cases hk
  | beg hn =>
    intro l i j a
    cases a with
    | done hk => rw [hn] at hk; cases hk
    | move g a =>
      cases g with
      | byte hk h1 h2 => rw [hn] at hk; cases hk
      | nx hk => rw [hn] at hk; cases hk
      | ot hk => rw [hn] at hk; cases hk
      | beg hk h0 => rw [hn] at a; exact ⟨_, _, Nat.lt_succ_self _, ⟨h0, rfl⟩, a⟩
      | fin hk => rw [hn] at hk; cases hk
  | fin hn =>
    intro l i j a
    cases a with
    | done hk => rw [hn] at hk; cases hk
    | move g a =>
      cases g with
      | byte hk h1 h2 => rw [hn] at hk; cases hk
      | nx hk => rw [hn] at hk; cases hk
      | ot hk => rw [hn] at hk; cases hk
      | beg hk h0 => rw [hn] at hk; cases hk
      | fin hk h0 => rw [hn] at a; exact ⟨_, _, Nat.lt_succ_self _, ⟨h0, rfl⟩, a⟩
  | eps hn =>
    intro l i j a
    obtain ⟨l', h1, h2⟩ := a.one hn
    exact ⟨i, l', h1, rfl, h2.elim id id⟩
  | cat _ _ ih1 ih2 =>
    intro l i j a
    obtain ⟨k, l1, h1, h2, h3⟩ := ih1 a
    obtain ⟨k2, l2, h4, h5, h6⟩ := ih2 h3
    exact ⟨k2, l2, by omega, ⟨k, h2, h5⟩, h6⟩
  | alt hn _ _ ih1 ih2 =>
    intro l i j a
    obtain ⟨l', h1, h2 | h2⟩ := a.one hn
    · obtain ⟨k, l1, h3, h4, h5⟩ := ih1 h2
      exact ⟨k, l1, by omega, .inl h4, h5⟩
    · obtain ⟨k, l1, h3, h4, h5⟩ := ih2 h2
      exact ⟨k, l1, by omega, .inr h4, h5⟩
  | opt hn _ ih =>
    intro l i j a
    obtain ⟨l', h1, h2 | h2⟩ := a.one hn
    · obtain ⟨k, l1, h3, h4, h5⟩ := ih h2
      exact ⟨k, l1, by omega, .inr h4, h5⟩
    · exact ⟨i, l', h1, .inl rfl, h2⟩
  | @star a n m f x hn _ ih =>
    intro l
    induction l using Nat.strongRecOn with
    | _ l hl =>
      intro i j ac
      obtain ⟨l', h1, h2 | h2⟩ := ac.one hn
      · obtain ⟨k, l1, h3, h4, h5⟩ := ih h2
        obtain ⟨k2, l2, h6, h7, h8⟩ := hl l1 (by omega) h5
        exact ⟨k2, l2, by omega, Star.cons h4 h7, h8⟩
      · exact ⟨i, l', h1, Star.nil i, h2⟩
  | @plus a n m f x hn _ ih =>
    have hst : ∀ (l : Nat) {i j : Nat}, Acc s st l n i j → ∃ k l', l' < l ∧ Star (M s a) i k ∧ Acc s st l' x k j := by
      intro l
      induction l using Nat.strongRecOn with
      | _ l hl =>
        intro i j ac
        obtain ⟨l', h1, h2 | h2⟩ := ac.one hn
        · obtain ⟨k, l1, h3, h4, h5⟩ := ih h2
          obtain ⟨k2, l2, h6, h7, h8⟩ := hl l1 (by omega) h5
          exact ⟨k2, l2, by omega, Star.cons h4 h7, h8⟩
        · exact ⟨i, l', h1, Star.nil i, h2⟩
    intro l i j ac
    obtain ⟨k, l1, h3, h4, h5⟩ := ih ac
    obtain ⟨k2, l2, h6, h7, h8⟩ := hst l1 h5
    exact ⟨k2, l2, by omega, ⟨k, h4, h7⟩, h8⟩
/-- an expression whose steps go on at an end -/
theorem bt_iff (s : ByteArray) (st : List Stp) {e : Re} {f x : Nat} (h : Bt st e f x) (hx : (stp st x).k = 4) (i j : Nat) : Ac s st f i j ↔ M s e i j := by
  constructor
  · rintro ⟨l, a⟩
    obtain ⟨k, l', _, h1, h2⟩ := bt_only s st h a
    cases h2 with
    | done _ => exact h1
    | move g _ => cases g <;> (rename_i hk; first | (rw [hx] at hk; cases hk) | skip) <;> (simp_all)
  · intro hm
    exact bt_does s st h hm ⟨0, .done hx⟩
end Go.Proofs.Ytnjpdhekeffpnaa.Rx

/- Marks: what walkP marks is what is come to: plain. -/
set_option linter.unusedVariables false
set_option linter.unusedSimpArgs false
namespace Go.Proofs.Ytnjpdhekeffpnaa.Rx
open Go.RowKit Go.Proofs.YtnjpdhekeffpnaaW.PrintWords Go.Proofs.YtnjpdhekeffpnaaW.PrintLast Go.Proofs.YtnjpdhekeffpnaaW.PrintMore

def On (m : List Bool) (n : Nat) : Prop := m.getD n false = true
/-- one step that takes no byte -/
def Nb (st : List Stp) (b e : Bool) (n x : Nat) : Prop :=
  ((stp st n).k = 1 ∧ (x = (stp st n).nx ∨ x = (stp st n).ot)) ∨ ((stp st n).k = 2 ∧ b = true ∧ x = (stp st n).nx) ∨ ((stp st n).k = 3 ∧ e = true ∧ x = (stp st n).nx)
inductive Ep (st : List Stp) (b e : Bool) : Nat → Nat → Prop where
  | refl (n : Nat) : Ep st b e n n
  | step {n x y : Nat} : Nb st b e n x → Ep st b e x y → Ep st b e n y
theorem on_set (m : List Bool) (n x : Nat) (hn : n < m.length) : On (m.set n true) x ↔ x = n ∨ On m x := by
  unfold On
  rw [List.getD_eq_getElem?_getD, List.getD_eq_getElem?_getD, List.getElem?_set]
  by_cases h : n = x
  · subst h; simp [hn]
  · rw [if_neg h]
    constructor
    · intro h2; exact .inr h2
    · rintro (h2 | h2)
      · exact absurd h2.symm h
      · exact h2
theorem getD_true (m : List Bool) (n : Nat) (hn : n < m.length) : (m.getD n true = true) ↔ On m n := by
  unfold On
  simp [List.getD_eq_getElem?_getD, List.getElem?_eq_getElem hn]
theorem stp_wf {st : List Stp} (h : WfS st) {n : Nat} (hn : n < st.length) : (stp st n).nx < st.length ∧ (stp st n).ot < st.length := by
  have := h (st[n]) (List.getElem_mem _)
  simpa [stp, List.getD_eq_getElem?_getD, List.getElem?_eq_getElem hn] using this
structure Wk (st : List Stp) (b e : Bool) (m : List Bool) (n : Nat) (m' : List Bool) : Prop where
  up : ∀ x, On m x → On m' x
  at_ : On m' n
  cl : ∀ x, On m' x → ¬ On m x → ∀ y, Nb st b e x y → On m' y
  only : ∀ x, On m' x → On m x ∨ Ep st b e n x
theorem free_lt (m : List Bool) (n k : Nat) (hk : free m < k + 1) (hf : m.getD n true = false) : free (m.set n true) < k := by
  have := free_set m n hf
  omega
theorem walkP_spec (st : List Stp) (b e : Bool) (hw : WfS st) : ∀ (k : Nat) (m : List Bool) (n : Nat), free m < k → m.length = st.length → n < st.length → Wk st b e m n (walkP st b e k m n)
  | 0, m, n, h, _, _ => absurd h (Nat.not_lt_zero _)
  | k + 1, m, n, h, hl, hn => by
    have hnl : n < m.length := by omega
    have hwf := stp_wf hw hn
    rw [walkP]
    split
    · rename_i h1
      have h2 := (getD_true m n hnl).1 h1
      exact ⟨fun _ h => h, h2, fun x h3 h4 => absurd h3 h4, fun x h => .inl h⟩
    · rename_i h1
      have hno : ¬ On m n := fun h2 => h1 ((getD_true m n hnl).2 h2)
      have hfr := free_lt m n k h (by simpa using h1)
      have hls : (m.set n true).length = st.length := by rw [List.length_set]; exact hl
      have hself : On (m.set n true) n := (on_set m n n hnl).2 (.inl rfl)
      have hup : ∀ x, On m x → On (m.set n true) x := fun x hx => (on_set m n x hnl).2 (.inr hx)
      split
      · rename_i hk
        have w1 := walkP_spec st b e hw k (m.set n true) (stp st n).nx hfr hls hwf.1
        have hf2 : free (walkP st b e k (m.set n true) (stp st n).nx) < k := Nat.lt_of_le_of_lt (free_le _ _ _ _ _ _) hfr
        have w2 := walkP_spec st b e hw k _ (stp st n).ot hf2 (by rw [walkP_len]; exact hls) hwf.2
        refine ⟨fun x hx => w2.up x (w1.up x (hup x hx)), w2.up n (w1.up n hself), ?_, ?_⟩
        · intro x hx hxm y hy
          by_cases h3 : On (walkP st b e k (m.set n true) (stp st n).nx) x
          · by_cases h4 : On (m.set n true) x
            · rcases (on_set m n x hnl).1 h4 with rfl | h5
              · rcases hy with ⟨_, rfl | rfl⟩ | ⟨h6, _⟩ | ⟨h6, _⟩
                · exact w2.up _ w1.at_
                · exact w2.at_
                · rw [hk] at h6; cases h6
                · rw [hk] at h6; cases h6
              · exact absurd h5 hxm
            · exact w2.up y (w1.cl x h3 h4 y hy)
          · exact w2.cl x hx h3 y hy
        · intro x hx
          rcases w2.only x hx with h3 | h3
          · rcases w1.only x h3 with h4 | h4
            · rcases (on_set m n x hnl).1 h4 with rfl | h5
              · exact .inr (.refl _)
              · exact .inl h5
            · exact .inr (.step (.inl ⟨hk, .inl rfl⟩) h4)
          · exact .inr (.step (.inl ⟨hk, .inr rfl⟩) h3)
      · rename_i hk1
        have alone : (∀ y, ¬ Nb st b e n y) → Wk st b e m n (m.set n true) := fun hnn =>
          ⟨hup, hself, fun x hx hxm y hy => by
            rcases (on_set m n x hnl).1 hx with rfl | h5
            · exact absurd hy (hnn y)
            · exact absurd h5 hxm, fun x hx => by
            rcases (on_set m n x hnl).1 hx with rfl | h5
            · exact .inr (.refl _)
            · exact .inl h5⟩
        have single : Nb st b e n (stp st n).nx → (∀ y, Nb st b e n y → y = (stp st n).nx) → Wk st b e m n (walkP st b e k (m.set n true) (stp st n).nx) := fun hnb hon => by
          have w1 := walkP_spec st b e hw k (m.set n true) (stp st n).nx hfr hls hwf.1
          refine ⟨fun x hx => w1.up x (hup x hx), w1.up n hself, ?_, ?_⟩
          · intro x hx hxm y hy
            by_cases h4 : On (m.set n true) x
            · rcases (on_set m n x hnl).1 h4 with rfl | h5
              · rw [hon y hy]; exact w1.at_
              · exact absurd h5 hxm
            · exact w1.cl x hx h4 y hy
          · intro x hx
            rcases w1.only x hx with h4 | h4
            · rcases (on_set m n x hnl).1 h4 with rfl | h5
              · exact .inr (.refl _)
              · exact .inl h5
            · exact .inr (.step hnb h4)
        split
        · rename_i hk2
          split
          · rename_i hb
            exact single (.inr (.inl ⟨hk2, hb, rfl⟩)) (fun y hy => by
              rcases hy with ⟨h6, _⟩ | ⟨_, _, h7⟩ | ⟨h6, _⟩
              · rw [hk2] at h6; cases h6
              · exact h7
              · rw [hk2] at h6; cases h6)
          · rename_i hb
            exact alone (fun y hy => by
              rcases hy with ⟨h6, _⟩ | ⟨_, h7, _⟩ | ⟨h6, _⟩
              · rw [hk2] at h6; cases h6
              · exact hb h7
              · rw [hk2] at h6; cases h6)
        · rename_i hk2
          split
          · rename_i hk3
            split
            · rename_i hb
              exact single (.inr (.inr ⟨hk3, hb, rfl⟩)) (fun y hy => by
                rcases hy with ⟨h6, _⟩ | ⟨h6, _⟩ | ⟨_, _, h7⟩
                · rw [hk3] at h6; cases h6
                · rw [hk3] at h6; cases h6
                · exact h7)
            · rename_i hb
              exact alone (fun y hy => by
                rcases hy with ⟨h6, _⟩ | ⟨h6, _⟩ | ⟨_, h7, _⟩
                · rw [hk3] at h6; cases h6
                · rw [hk3] at h6; cases h6
                · exact hb h7)
          · rename_i hk3
            exact alone (fun y hy => by
              rcases hy with ⟨h6, _⟩ | ⟨h6, _⟩ | ⟨h6, _⟩
              · exact hk1 h6
              · exact hk2 h6
              · exact hk3 h6)
/-- marks that are closed: what is come to with no byte is marked too -/
def Cl (st : List Stp) (b e : Bool) (m : List Bool) : Prop := ∀ x, On m x → ∀ y, Nb st b e x y → On m y
theorem Wk.closed {st : List Stp} {b e : Bool} {m m' : List Bool} {n : Nat} (h : Wk st b e m n m') (hc : Cl st b e m) : Cl st b e m' := by
  intro x hx y hy
  by_cases h1 : On m x
  · exact h.up y (hc x h1 y hy)
  · exact h.cl x hx h1 y hy
theorem Cl.ep {st : List Stp} {b e : Bool} {m : List Bool} (hc : Cl st b e m) {n x : Nat} (h : Ep st b e n x) (hn : On m n) : On m x := by
  induction h with
  | refl => exact hn
  | step h1 _ ih => exact ih (hc _ hn _ h1)
theorem Wk.iff {st : List Stp} {b e : Bool} {m m' : List Bool} {n : Nat} (h : Wk st b e m n m') (hc : Cl st b e m) (x : Nat) : On m' x ↔ On m x ∨ Ep st b e n x :=
  ⟨h.only x, fun h1 => h1.elim (h.up x) (fun h2 => (h.closed hc).ep h2 h.at_)⟩
theorem on_rep (n x : Nat) : ¬ On (List.replicate n false) x := by
  unfold On
  simp [List.getD_eq_getElem?_getD, List.getElem?_replicate]
  split <;> simp
theorem cl_rep (st : List Stp) (b e : Bool) (n : Nat) : Cl st b e (List.replicate n false) := fun x hx => absurd hx (on_rep n x)
end Go.Proofs.Ytnjpdhekeffpnaa.Rx
