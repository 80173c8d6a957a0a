/- The longest match is the longest: plain. -/
import Derived.Test.YtnjpdhekeffpnaaRxP
import Derived.Test.YtnjpdhekeffpnaaRxI
set_option linter.unusedVariables false
set_option linter.unusedSimpArgs false
namespace Go.Proofs.Ytnjpdhekeffpnaa.Rx
open Go.RowKit Go.Proofs.YtnjpdhekeffpnaaW.PrintWords Go.Proofs.YtnjpdhekeffpnaaW.PrintLast Go.Proofs.YtnjpdhekeffpnaaW.PrintMore

/-- what is come to from step f at i -/
inductive Wy (s : ByteArray) (st : List Stp) (f i : Nat) : Nat → Nat → Prop where
  | refl : Wy s st f i f i
  | snoc {x j y j' : Nat} : Wy s st f i x j → Go1 s st x j y j' → Wy s st f i y j'
/-- a byte is taken -/
def BM (s : ByteArray) (st : List Stp) (a q : Nat) : Prop := (stp st q).k = 0 ∧ a < s.size ∧ (stp st q).m.testBit (bt s a).toNat = true
theorem go1_nb {s : ByteArray} {st : List Stp} {n j x : Nat} (h : Nb st (decide (j = 0)) (decide (j = s.size)) n x) : Go1 s st n j x j := by
  rcases h with ⟨h, rfl | rfl⟩ | ⟨h, h2, rfl⟩ | ⟨h, h2, rfl⟩
  · exact .nx h
  · exact .ot h
  · exact .beg h (of_decide_eq_true h2)
  · exact .fin h (of_decide_eq_true h2)
theorem go1_cases {s : ByteArray} {st : List Stp} {n j x j' : Nat} (h : Go1 s st n j x j') : (j' = j ∧ Nb st (decide (j = 0)) (decide (j = s.size)) n x) ∨ (j' = j + 1 ∧ BM s st j n ∧ x = (stp st n).nx) := by
  cases h with
  | byte h1 h2 h3 => exact .inr ⟨rfl, ⟨h1, h2, h3⟩, rfl⟩
  | nx h1 => exact .inl ⟨rfl, .inl ⟨h1, .inl rfl⟩⟩
  | ot h1 => exact .inl ⟨rfl, .inl ⟨h1, .inr rfl⟩⟩
  | beg h1 h2 => exact .inl ⟨rfl, .inr (.inl ⟨h1, decide_eq_true h2, rfl⟩)⟩
  | fin h1 h2 => exact .inl ⟨rfl, .inr (.inr ⟨h1, decide_eq_true h2, rfl⟩)⟩
theorem Wy.ep {s : ByteArray} {st : List Stp} {f i n j x : Nat} (h : Ep st (decide (j = 0)) (decide (j = s.size)) n x) : Wy s st f i n j → Wy s st f i x j := by
  induction h with
  | refl => exact id
  | step h1 _ ih => exact fun hw => ih (hw.snoc (go1_nb h1))
theorem Ep.snoc {st : List Stp} {b e : Bool} {n x y : Nat} (h : Ep st b e n x) (g : Nb st b e x y) : Ep st b e n y := by
  induction h with
  | refl => exact .step g (.refl _)
  | step h1 _ ih => exact .step h1 (ih g)
theorem Wy.cases' {s : ByteArray} {st : List Stp} {f i x j : Nat} (h : Wy s st f i x j) :
    (j = i ∧ Ep st (decide (j = 0)) (decide (j = s.size)) f x) ∨ ∃ a q, j = a + 1 ∧ i ≤ a ∧ Wy s st f i q a ∧ BM s st a q ∧ Ep st false (decide (j = s.size)) (stp st q).nx x := by
  have hle : ∀ {x j}, Wy s st f i x j → i ≤ j := by
    intro x j h
    induction h with
    | refl => exact Nat.le_refl _
    | snoc _ g ih => rcases go1_cases g with ⟨rfl, _⟩ | ⟨rfl, _⟩ <;> omega
  induction h with
  | refl => exact .inl ⟨rfl, .refl _⟩
  | @snoc x j y j' hw g ih =>
    rcases go1_cases g with ⟨rfl, hn⟩ | ⟨rfl, hb, rfl⟩
    · rcases ih with ⟨h1, h2⟩ | ⟨a, q, rfl, h0, h1, h2, h3⟩
      · exact .inl ⟨h1, h2.snoc hn⟩
      · refine .inr ⟨a, q, rfl, h0, h1, h2, h3.snoc ?_⟩
        rwa [decide_eq_false (show ¬ a + 1 = 0 by omega)] at hn
    · exact .inr ⟨j, x, rfl, hle hw, hw, hb, .refl _⟩
theorem Wy.pass {s : ByteArray} {st : List Stp} {f i x j a : Nat} (h : Wy s st f i x j) : i ≤ a → a < j → ∃ q, Wy s st f i q a ∧ BM s st a q := by
  induction h with
  | refl => intro h1 h2; omega
  | @snoc x j y j' hw g ih =>
    intro h1 h2
    rcases go1_cases g with ⟨rfl, hn⟩ | ⟨rfl, hb, rfl⟩
    · exact ih h1 h2
    · rcases Nat.lt_or_ge a j with h3 | h3
      · exact ih h1 h3
      · obtain rfl : a = j := by omega
        exact ⟨x, hw, hb⟩
theorem ac_iff (s : ByteArray) (st : List Stp) (f i j : Nat) : Ac s st f i j ↔ ∃ x, Wy s st f i x j ∧ (stp st x).k = 4 := by
  constructor
  · rintro ⟨l, a⟩
    have : ∀ {l n q j}, Acc s st l n q j → Wy s st f i n q → ∃ x, Wy s st f i x j ∧ (stp st x).k = 4 := by
      intro l n q j a
      induction a with
      | done h => exact fun hw => ⟨_, hw, h⟩
      | move g _ ih => exact fun hw => ih (hw.snoc g)
    exact this a .refl
  · rintro ⟨x, hw, hk⟩
    have : ∀ {x j}, Wy s st f i x j → ∀ j', Ac s st x j j' → Ac s st f i j' := by
      intro x j hw
      induction hw with
      | refl => exact fun _ h => h
      | snoc _ g ih => rintro j' ⟨l, a⟩; exact ih j' ⟨l + 1, .move g a⟩
    exact this hw j ⟨0, .done hk⟩
structure StepS (s : ByteArray) (st : List Stp) (a : Nat) (m : List Bool) (n : Nat) (nx : List Bool) (sm : Bool) (la : Int) (r : List Bool × Bool × Int) : Prop where
  len : r.1.length = st.length
  cl : Cl st false (decide (a + 1 = s.size)) r.1
  on : ∀ x, On r.1 x ↔ On nx x ∨ ∃ q, n ≤ q ∧ On m q ∧ BM s st a q ∧ Ep st false (decide (a + 1 = s.size)) (stp st q).nx x
  sm : r.2.1 = true ↔ sm = true ∨ ∃ q, n ≤ q ∧ On m q ∧ BM s st a q
  la : (r.2.2 = la ∧ ¬ (∃ q, n ≤ q ∧ On m q ∧ (stp st q).k = 4)) ∨ (r.2.2 = (a : Int) ∧ ∃ q, n ≤ q ∧ On m q ∧ (stp st q).k = 4)
theorem on_lt {m : List Bool} {n : Nat} (h : On m n) : n < m.length := by
  rcases Nat.lt_or_ge n m.length with h1 | h1
  · exact h1
  · unfold On at h
    rw [List.getD_eq_getElem?_getD, List.getElem?_eq_none h1] at h
    cases h
theorem stepL_spec (s : ByteArray) (st : List Stp) (a : Nat) (m : List Bool) (hw : WfS st) (hm : m.length = st.length) : ∀ (k n : Nat) (nx : List Bool) (sm : Bool) (la : Int),
    m.length < k + n → nx.length = st.length → Cl st false (decide (a + 1 = s.size)) nx → StepS s st a m n nx sm la (stepL s st a m k n nx sm la)
  | 0, n, nx, sm, la, hk, hl, hc => by
    have hno : ∀ q, n ≤ q → ¬ On m q := fun q hq h => by have := on_lt h; omega
    exact ⟨hl, hc, fun x => ⟨.inl, fun h => h.elim id (fun ⟨q, h1, h2, _⟩ => absurd h2 (hno q h1))⟩, ⟨.inl, fun h => h.elim id (fun ⟨q, h1, h2, _⟩ => absurd h2 (hno q h1))⟩, .inl ⟨rfl, fun ⟨q, h1, h2, _⟩ => hno q h1 h2⟩⟩
  | k + 1, n, nx, sm, la, hk, hl, hc => by
    have split_q : ∀ {P : Nat → Prop}, (∃ q, n ≤ q ∧ P q) ↔ (P n ∨ ∃ q, n + 1 ≤ q ∧ P q) := by
      intro P
      constructor
      · rintro ⟨q, h1, h2⟩
        rcases Nat.eq_or_lt_of_le h1 with rfl | h3
        · exact .inl h2
        · exact .inr ⟨q, h3, h2⟩
      · rintro (h | ⟨q, h1, h2⟩)
        · exact ⟨n, Nat.le_refl _, h⟩
        · exact ⟨q, by omega, h2⟩
    rw [stepL]
    split
    · rename_i hn
      have skipN : ∀ {r}, (¬ (On m n ∧ BM s st a n)) → (¬ (On m n ∧ (stp st n).k = 4)) → StepS s st a m (n + 1) nx sm la r → StepS s st a m n nx sm la r := fun hb h4 h => by
        refine ⟨h.len, h.cl, fun x => (h.on x).trans ?_, h.sm.trans ?_, h.la.imp ?_ ?_⟩
        · rw [split_q (P := fun q => On m q ∧ BM s st a q ∧ Ep st false (decide (a + 1 = s.size)) (stp st q).nx x)]
          exact ⟨fun h => h.elim .inl (fun h => .inr (.inr h)), fun h => h.elim .inl (fun h => h.elim (fun ⟨h1, h2, _⟩ => absurd ⟨h1, h2⟩ hb) .inr)⟩
        · rw [split_q (P := fun q => On m q ∧ BM s st a q)]
          exact ⟨fun h => h.elim .inl (fun h => .inr (.inr h)), fun h => h.elim .inl (fun h => h.elim (fun h1 => absurd h1 hb) .inr)⟩
        · rintro ⟨h1, h2⟩
          refine ⟨h1, ?_⟩
          rw [split_q (P := fun q => On m q ∧ (stp st q).k = 4)]
          exact fun h => h.elim h4 h2
        · rintro ⟨h1, h2⟩
          refine ⟨h1, ?_⟩
          rw [split_q (P := fun q => On m q ∧ (stp st q).k = 4)]
          exact .inr h2
      have ih := fun nx sm la hl hc => stepL_spec s st a m hw hm k (n + 1) nx sm la (by omega) hl hc
      split
      · rename_i h0
        have hoff : ¬ On m n := by unfold On; rw [h0]; simp
        exact skipN (fun h => hoff h.1) (fun h => hoff h.1) (ih nx sm la hl hc)
      · rename_i h0
        have hon : On m n := by unfold On; simpa using h0
        split
        · rename_i h4
          have h := ih nx sm (a : Int) hl hc
          refine ⟨h.len, h.cl, fun x => (h.on x).trans ?_, h.sm.trans ?_, .inr ⟨h.la.elim (fun h => h.1) (fun h => h.1), n, Nat.le_refl _, hon, h4⟩⟩
          · rw [split_q (P := fun q => On m q ∧ BM s st a q ∧ Ep st false (decide (a + 1 = s.size)) (stp st q).nx x)]
            exact ⟨fun h => h.elim .inl (fun h => .inr (.inr h)), fun h => h.elim .inl (fun h => h.elim (fun ⟨_, h2, _⟩ => absurd (h4.symm.trans h2.1) (by decide)) .inr)⟩
          · rw [split_q (P := fun q => On m q ∧ BM s st a q)]
            exact ⟨fun h => h.elim .inl (fun h => .inr (.inr h)), fun h => h.elim .inl (fun h => h.elim (fun ⟨_, h2⟩ => absurd (h4.symm.trans h2.1) (by decide)) .inr)⟩
        · rename_i h4
          split
          · rename_i hb
            have hnst : n < st.length := by omega
            have wk := walkP_spec st false (decide (a + 1 = s.size)) hw (st.length + 1) nx (stp st n).nx (by have := free_len nx; omega) hl (stp_wf hw hnst).1
            have h := ih _ true la (by rw [walkP_len]; exact hl) (wk.closed hc)
            refine ⟨h.len, h.cl, fun x => (h.on x).trans ?_, h.sm.trans ?_, h.la.imp ?_ ?_⟩
            · rw [split_q (P := fun q => On m q ∧ BM s st a q ∧ Ep st false (decide (a + 1 = s.size)) (stp st q).nx x), wk.iff hc x]
              constructor
              · rintro ((h1 | h1) | h1)
                · exact .inl h1
                · exact .inr (.inl ⟨hon, hb, h1⟩)
                · exact .inr (.inr h1)
              · rintro (h1 | ⟨_, _, h1⟩ | h1)
                · exact .inl (.inl h1)
                · exact .inl (.inr h1)
                · exact .inr h1
            · rw [split_q (P := fun q => On m q ∧ BM s st a q)]
              exact ⟨fun _ => .inr (.inl ⟨hon, hb⟩), fun _ => .inl rfl⟩
            · rintro ⟨h1, h2⟩
              refine ⟨h1, ?_⟩
              rw [split_q (P := fun q => On m q ∧ (stp st q).k = 4)]
              exact fun h => h.elim (fun h => h4 h.2) h2
            · rintro ⟨h1, h2⟩
              refine ⟨h1, ?_⟩
              rw [split_q (P := fun q => On m q ∧ (stp st q).k = 4)]
              exact .inr h2
          · rename_i hb
            exact skipN (fun h => hb h.2) (fun h => h4 h.2) (ih nx sm la hl hc)
    · rename_i hn
      have hno : ∀ q, n ≤ q → ¬ On m q := fun q hq h => by have := on_lt h; omega
      exact ⟨hl, hc, fun x => ⟨.inl, fun h => h.elim id (fun ⟨q, h1, h2, _⟩ => absurd h2 (hno q h1))⟩, ⟨.inl, fun h => h.elim id (fun ⟨q, h1, h2, _⟩ => absurd h2 (hno q h1))⟩, .inl ⟨rfl, fun ⟨q, h1, h2, _⟩ => hno q h1 h2⟩⟩
end Go.Proofs.Ytnjpdhekeffpnaa.Rx
set_option linter.unusedVariables false
set_option linter.unusedSimpArgs false
namespace Go.Proofs.Ytnjpdhekeffpnaa.Rx
open Go.RowKit Go.Proofs.YtnjpdhekeffpnaaW.PrintWords Go.Proofs.YtnjpdhekeffpnaaW.PrintLast Go.Proofs.YtnjpdhekeffpnaaW.PrintMore

theorem Wy.le {s : ByteArray} {st : List Stp} {f i x j : Nat} (h : Wy s st f i x j) : i ≤ j := by
  induction h with
  | refl => exact Nat.le_refl _
  | snoc _ g ih => rcases go1_cases g with ⟨rfl, _⟩ | ⟨rfl, _⟩ <;> omega
theorem longL_spec (s : ByteArray) (st : List Stp) (f i : Nat) (hw : WfS st) : ∀ (k a : Nat) (m : List Bool) (la : Int), s.size < a + k → a ≤ s.size → i ≤ a → m.length = st.length → (∀ x, On m x ↔ Wy s st f i x a) →
    (longL s st k a m la = la ∧ ∀ j, a ≤ j → ¬ Ac s st f i j) ∨ (∃ j, a ≤ j ∧ longL s st k a m la = (j : Int) ∧ Ac s st f i j ∧ ∀ j', Ac s st f i j' → j' ≤ j)
  | 0, a, m, la, h, h1, _, _, _ => absurd h (by omega)
  | k + 1, a, m, la, h, h1, hi, hm, hon => by
    have hs := stepL_spec s st a m hw hm (m.length + 1) 0 (List.replicate st.length false) false la (by omega) List.length_replicate (cl_rep _ _ _ _)
    rw [longL]
    obtain ⟨r0, hr0⟩ : ∃ r0, stepL s st a m (m.length + 1) 0 (List.replicate st.length false) false la = r0 := ⟨_, rfl⟩
    simp only [hr0] at hs ⊢
    have hA : Ac s st f i a ↔ ∃ q, 0 ≤ q ∧ On m q ∧ (stp st q).k = 4 := by
      rw [ac_iff]
      exact ⟨fun ⟨x, h2, h3⟩ => ⟨x, Nat.zero_le _, (hon x).2 h2, h3⟩, fun ⟨x, _, h2, h3⟩ => ⟨x, (hon x).1 h2, h3⟩⟩
    have fin : (∀ j, a + 1 ≤ j → ¬ Ac s st f i j) → (r0.2.2 = la ∧ ∀ j, a ≤ j → ¬ Ac s st f i j) ∨ (∃ j, a ≤ j ∧ r0.2.2 = (j : Int) ∧ Ac s st f i j ∧ ∀ j', Ac s st f i j' → j' ≤ j) := by
      intro hn
      rcases hs.la with ⟨h2, h3⟩ | ⟨h2, h3⟩
      · refine .inl ⟨h2, fun j hj ha => ?_⟩
        rcases Nat.eq_or_lt_of_le hj with rfl | h4
        · exact h3 (hA.1 ha)
        · exact hn j h4 ha
      · refine .inr ⟨a, Nat.le_refl _, h2, hA.2 h3, fun j' hj => ?_⟩
        rcases Nat.lt_or_ge a j' with h4 | h4
        · exact absurd hj (hn j' h4)
        · exact h4
    split
    · rename_i hb
      obtain ⟨q, _, hq, hbm⟩ : ∃ q, 0 ≤ q ∧ On m q ∧ BM s st a q := by
        rcases hs.sm.1 hb with h2 | h2
        · cases h2
        · exact h2
      have hlt : a < s.size := hbm.2.1
      have hon2 : ∀ x, On r0.1 x ↔ Wy s st f i x (a + 1) := by
        intro x
        rw [hs.on x]
        constructor
        · rintro (h2 | ⟨q, _, h2, h3, h4⟩)
          · exact absurd h2 (on_rep _ _)
          · have hw2 : Wy s st f i (stp st q).nx (a + 1) := ((hon q).1 h2).snoc (.byte h3.1 h3.2.1 h3.2.2)
            refine Wy.ep ?_ hw2
            rw [decide_eq_false (show ¬ a + 1 = 0 by omega)]
            exact h4
        · intro h2
          rcases h2.cases' with ⟨h3, _⟩ | ⟨a2, q, h3, _, h4, h5, h6⟩
          · omega
          · obtain rfl : a = a2 := by omega
            exact .inr ⟨q, Nat.zero_le _, (hon q).2 h4, h5, h6⟩
      rcases longL_spec s st f i hw k (a + 1) r0.1 r0.2.2 (by omega) hlt (by omega) hs.len hon2 with ⟨h2, h3⟩ | ⟨j, h2, h3, h4, h5⟩
      · rw [h2]
        exact fin h3
      · exact .inr ⟨j, by omega, h3, h4, h5⟩
    · rename_i hb
      refine fin (fun j hj ha => ?_)
      obtain ⟨x, hx, _⟩ := (ac_iff s st f i j).1 ha
      obtain ⟨q, h2, h3⟩ := hx.pass hi hj
      exact hb (hs.sm.2 (.inr ⟨q, Nat.zero_le _, (hon q).2 h2, h3⟩))
/-- the longest match is the longest -/
theorem longP_spec (s : ByteArray) (st : List Stp) (f i : Nat) (hw : WfS st) (hf : f < st.length) (hi : i ≤ s.size) :
    (longP s st f i = -1 ∧ ∀ j, ¬ Ac s st f i j) ∨ (∃ j, i ≤ j ∧ longP s st f i = (j : Int) ∧ Ac s st f i j ∧ ∀ j', Ac s st f i j' → j' ≤ j) := by
  have wk := walkP_spec st (decide (i = 0)) (decide (i = s.size)) hw (st.length + 1) (List.replicate st.length false) f (by rw [free_rep]; omega) List.length_replicate hf
  have hon : ∀ x, On (walkP st (decide (i = 0)) (decide (i = s.size)) (st.length + 1) (List.replicate st.length false) f) x ↔ Wy s st f i x i := by
    intro x
    rw [wk.iff (cl_rep _ _ _ _) x]
    constructor
    · rintro (h | h)
      · exact absurd h (on_rep _ _)
      · exact Wy.ep h .refl
    · intro h
      rcases h.cases' with ⟨_, h2⟩ | ⟨a, q, h3, h4, _⟩
      · exact .inr h2
      · omega
  rcases longL_spec s st f i hw (s.size + 2) i _ (-1) (by omega) hi (Nat.le_refl _) (by rw [walkP_len, List.length_replicate]) hon with ⟨h1, h2⟩ | h
  · refine .inl ⟨h1, fun j hj => h2 j ?_ hj⟩
    obtain ⟨x, hx, _⟩ := (ac_iff s st f i j).1 hj
    exact hx.le
  · exact .inr h
/-- where steps are an expression's: the longest match is the expression's -/
theorem longP_M (s : ByteArray) (st : List Stp) (e : Re) (f x i : Nat) (hw : WfS st) (hf : f < st.length) (hi : i ≤ s.size) (hb : Bt st e f x) (hx : (stp st x).k = 4) :
    (longP s st f i = -1 ∧ ∀ j, ¬ M s e i j) ∨ (∃ j, i ≤ j ∧ longP s st f i = (j : Int) ∧ M s e i j ∧ ∀ j', M s e i j' → j' ≤ j) := by
  have h := longP_spec s st f i hw hf hi
  simp only [bt_iff s st hb hx] at h
  exact h
end Go.Proofs.Ytnjpdhekeffpnaa.Rx

/- The reader read as trees; steps as they are patched: plain. -/
set_option linter.unusedVariables false
set_option linter.unusedSimpArgs false
namespace Go.Proofs.Ytnjpdhekeffpnaa.Rx
open Go.RowKit Go.Proofs.YtnjpdhekeffpnaaW.PrintWords Go.Proofs.YtnjpdhekeffpnaaW.PrintLast Go.Proofs.YtnjpdhekeffpnaaW.PrintMore

/-- a reader's state without its steps -/
def zB (S : BS) : BS := ⟨S.at_, S.F, []⟩
theorem peek_z (s : ByteArray) (S : BS) : peekB s (zB S) = peekB s S := rfl
theorem wrong_z (e a : Nat) (S : BS) : wrongB e a (zB S) = zB (wrongB e a S) := by obtain ⟨at_, F, st⟩ := S; cases F <;> rfl
theorem skip_z (S : BS) (n : Nat) : skip (zB S) n = zB (skip S n) := rfl
theorem brL_z (s : ByteArray) (b0 : Nat) : ∀ (n m : Nat) (S : BS), brL s b0 n m (zB S) = ((brL s b0 n m S).1, (brL s b0 n m S).2.1, zB (brL s b0 n m S).2.2)
  | 0, m, S => by rw [brL, brL, wrong_z]
  | n + 1, m, S => by
    rw [brL, brL, peek_z, wrong_z]
    cases peekB s S with
    | none => rfl
    | some c =>
      dsimp only
      rw [show (zB S).at_ = S.at_ from rfl, skip_z, skip_z, wrong_z, brL_z, brL_z]
      split
      · rfl
      · split
        · rfl
        · split <;> rfl
theorem bracket_z (s : ByteArray) (S : BS) : bracketB s (zB S) = ((bracketB s S).1, zB (bracketB s S).2) := by
  unfold bracketB
  rw [peek_z, skip_z, brL_z, brL_z, show (zB S).at_ = S.at_ from rfl]
  split <;> rfl
theorem zz (S : BS) : zB (zB S) = zB S := rfl
/-- a thing's tree -/
def thingE (grp : Nat → BS → Re × BS) (s : ByteArray) (S : BS) : Re × BS :=
  let c := (peekB s S).getD 0
  let S1 := skip S 1
  if c = 42 ∨ c = 43 ∨ c = 63 then (.byte (addR 0 c.toNat 1), wrongB 2 S.at_ S1)
  else if c = 46 then (.byte (addR 0 0 256), S1)
  else if c = 94 then (.beg, S1)
  else if c = 36 then (.fin, S1)
  else if c = 91 then (.byte (bracketB s S1).1, (bracketB s S1).2)
  else if c = 40 then grp S.at_ S1
  else if c = 92 then (.byte (addR 0 ((peekB s S1).getD 0).toNat 1), skip (if (peekB s S1).isNone then wrongB 3 s.size S1 else S1) 1)
  else (.byte (addR 0 c.toNat 1), S1)
def repE (s : ByteArray) (e : Re) (S : BS) : Re × BS :=
  match peekB s S with
  | none => (e, S)
  | some c => if c = 63 then (.opt e, skip S 1) else if c = 43 then (.plus e, skip S 1) else if c = 42 then (.star e, skip S 1) else (e, S)
def wayLE (th : BS → Re × BS) (s : ByteArray) : Nat → Re → BS → Re × BS
  | 0, e, S => (e, S)
  | n + 1, e, S => match peekB s S with
    | none => (e, S)
    | some c =>
      if c = 124 ∨ c = 41 then (e, S)
      else wayLE th s n (.cat e (repE s (th S).1 (th S).2).1) (repE s (th S).1 (th S).2).2
def wayE (th : BS → Re × BS) (s : ByteArray) (S : BS) : Re × BS := wayLE th s (s.size + 1) .eps S
def waysLE (th : BS → Re × BS) (s : ByteArray) : Nat → Re → BS → Re × BS
  | 0, e, S => (e, S)
  | n + 1, e, S =>
    if peekB s S = some 124 then waysLE th s n (.alt e (wayE th s (skip S 1)).1) (wayE th s (skip S 1)).2
    else (e, S)
def waysFE (th : BS → Re × BS) (s : ByteArray) (S : BS) : Re × BS := waysLE th s (s.size + 1) (wayE th s S).1 (wayE th s S).2
def grpFE (wys : BS → Re × BS) (s : ByteArray) (_at : Nat) (S : BS) : Re × BS :=
  ((wys S).1, skip (if peekB s (wys S).2 = some 41 then (wys S).2 else wrongB 3 s.size (wys S).2) 1)
def thE (s : ByteArray) : Nat → BS → Re × BS
  | 0 => thingE (fun at_ S => (.eps, wrongB 4 at_ S)) s
  | d + 1 => thingE (grpFE (waysFE (thE s d) s) s) s
def waysE (s : ByteArray) (d : Nat) : BS → Re × BS := waysFE (thE s d) s
/-- an expression's tree -/
def readE (s : ByteArray) : Re × BS := waysE s 16 ⟨0, none, []⟩
/-- a step whose outs lead to x -/
def pt (outs : List Nat) (x n : Nat) (y : Stp) : Stp := ⟨y.k, y.m, if 2 * n ∈ outs then x else y.nx, if 2 * n + 1 ∈ outs then x else y.ot⟩
theorem stp_set1 (st : List Stp) (o x n : Nat) (hn : n < st.length) : stp (set1 st o x) n = pt [o] x n (stp st n) := by
  unfold stp set1 pt
  rw [List.getD_eq_getElem?_getD, List.getD_eq_getElem?_getD, List.getElem?_modify, List.getElem?_eq_getElem hn]
  by_cases h : o / 2 = n
  · by_cases h2 : o % 2 = 1
    · rw [if_neg (show ¬ 2 * n ∈ [o] by simp; omega), if_pos (show 2 * n + 1 ∈ [o] by simp; omega)]
      simp [h, h2]
    · rw [if_pos (show 2 * n ∈ [o] by simp; omega), if_neg (show ¬ 2 * n + 1 ∈ [o] by simp; omega)]
      simp [h, h2]
  · rw [if_neg (show ¬ 2 * n ∈ [o] by simp; omega), if_neg (show ¬ 2 * n + 1 ∈ [o] by simp; omega)]
    simp [h]
theorem stp_patch : ∀ (outs : List Nat) (x : Nat) (st : List Stp) (n : Nat), n < st.length → stp (patchL outs x st) n = pt outs x n (stp st n)
  | [], x, st, n, hn => by simp [patchL, pt]
  | o :: outs, x, st, n, hn => by
    rw [show patchL (o :: outs) x st = patchL outs x (set1 st o x) from rfl, stp_patch outs x (set1 st o x) n (by rw [set1_len]; exact hn), stp_set1 st o x n hn]
    unfold pt
    simp only [List.mem_cons, List.not_mem_nil, or_false]
    congr 1
    · by_cases h1 : 2 * n ∈ outs <;> by_cases h2 : 2 * n = o <;> simp [h1, h2]
    · by_cases h1 : 2 * n + 1 ∈ outs <;> by_cases h2 : 2 * n + 1 = o <;> simp [h1, h2]
theorem pt_none (outs : List Nat) (x n : Nat) (y : Stp) (h : ∀ o ∈ outs, o / 2 ≠ n) : pt outs x n y = y := by
  unfold pt
  rw [if_neg (fun h1 => h _ h1 (by omega)), if_neg (fun h1 => h _ h1 (by omega))]
theorem stp_add_lt (st : List Stp) (x : Stp) (n : Nat) (hn : n < st.length) : stp (st ++ [x]) n = stp st n := by
  simp [stp, List.getD_eq_getElem?_getD, List.getElem?_append_left hn]
theorem stp_add_eq (st : List Stp) (x : Stp) : stp (st ++ [x]) st.length = x := by
  simp [stp, List.getD_eq_getElem?_getD]
/-- steps read are a tree's, however what stands behind them and ahead of them is -/
structure Sp (S : BS) (r : Part × BS) (e : Re) : Prop where
  le : S.st.length ≤ r.2.st.length
  pre : ∀ n, n < S.st.length → stp r.2.st n = stp S.st n
  outs : ∀ o ∈ r.1.2, S.st.length ≤ o / 2 ∧ o / 2 < r.2.st.length
  bt : ∀ (st' : List Stp) (x : Nat), (∀ n, S.st.length ≤ n → n < r.2.st.length → stp st' n = pt r.1.2 x n (stp r.2.st n)) → Bt st' e r.1.1 x
theorem sp_single (S : BS) (x : Stp) (e : Re) (h : ∀ st' n y, stp st' n = ⟨x.k, x.m, y, x.ot⟩ → Bt st' e n y) : Sp S (single x S) e := by
  refine ⟨by simp [single, addB], fun n hn => stp_add_lt _ _ _ hn, fun o ho => ?_, fun st' y hst => ?_⟩
  · have : o = 2 * S.st.length := by simpa [single] using ho
    subst this
    simp [single, addB]
  · have h1 := hst S.st.length (Nat.le_refl _) (by simp [single, addB])
    refine h st' _ y (h1.trans ?_)
    show pt [2 * S.st.length] y S.st.length (stp (S.st ++ [x]) S.st.length) = _
    rw [stp_add_eq]
    unfold pt
    rw [if_pos (by simp), if_neg (by simp)]
end Go.Proofs.Ytnjpdhekeffpnaa.Rx

/- The reader's steps are its tree's: plain. -/
set_option linter.unusedVariables false
set_option linter.unusedSimpArgs false
namespace Go.Proofs.Ytnjpdhekeffpnaa.Rx
open Go.RowKit Go.Proofs.YtnjpdhekeffpnaaW.PrintWords Go.Proofs.YtnjpdhekeffpnaaW.PrintLast Go.Proofs.YtnjpdhekeffpnaaW.PrintMore

theorem wrong_F (e a : Nat) (S : BS) : (wrongB e a S).F ≠ none := by obtain ⟨at_, F, st⟩ := S; cases F <;> simp [wrongB]
theorem pt_app_none (o1 o2 : List Nat) (x n : Nat) (y : Stp) (h : ∀ o ∈ o2, o / 2 ≠ n) : pt (o1 ++ o2) x n y = pt o1 x n y := by
  have h1 : ¬ 2 * n ∈ o2 := fun h1 => h _ h1 (by omega)
  have h2 : ¬ 2 * n + 1 ∈ o2 := fun h1 => h _ h1 (by omega)
  unfold pt
  simp [List.mem_append, h1, h2]
theorem pt_app_none' (o1 o2 : List Nat) (x n : Nat) (y : Stp) (h : ∀ o ∈ o1, o / 2 ≠ n) : pt (o1 ++ o2) x n y = pt o2 x n y := by
  have h1 : ¬ 2 * n ∈ o1 := fun h1 => h _ h1 (by omega)
  have h2 : ¬ 2 * n + 1 ∈ o1 := fun h1 => h _ h1 (by omega)
  unfold pt
  simp [List.mem_append, h1, h2]
theorem Sp.st {S S' : BS} {r : Part × BS} {e : Re} (h : Sp S r e) (hs : S.st = S'.st) : Sp S' r e := by
  obtain ⟨h1, h2, h3, h4⟩ := h
  rw [hs] at h1 h2 h3 h4
  exact ⟨h1, h2, h3, h4⟩
theorem pt_ot (n x f : Nat) (m : Nat) : pt [2 * n + 1] x n ⟨1, m, f, 0⟩ = ⟨1, m, f, x⟩ := by
  unfold pt
  rw [if_neg (by simp), if_pos (by simp)]
theorem sp_rep (s : ByteArray) (S0 S : BS) (p : Part) (e : Re) (h : Sp S0 (p, S) e) : Sp S0 (repB s p S) (repE s e (zB S)).1 ∧ zB (repB s p S).2 = (repE s e (zB S)).2 ∧ (repB s p S).2.F = S.F := by
  have hle : S0.st.length ≤ S.st.length := h.le
  have hout : ∀ o ∈ p.2, o / 2 ≠ S.st.length := fun o ho => by have := (h.outs o ho).2; dsimp only at this; omega
  unfold repB repE
  rw [peek_z]
  cases peekB s S with
  | none => exact ⟨h, rfl, rfl⟩
  | some c =>
    dsimp only
    by_cases h63 : c = 63
    · rw [if_pos h63, if_pos h63]
      refine ⟨⟨by simp [addB, skip]; omega, fun n hn => (stp_add_lt _ _ _ (by show n < S.st.length; omega)).trans (h.pre n hn), fun o ho => ?_, fun st' x hst => ?_⟩, rfl, rfl⟩
      · rcases List.mem_append.1 ho with ho | ho
        · have h9 := h.outs o ho; dsimp only at h9; simp [addB, skip]; omega
        · have : o = 2 * S.st.length + 1 := by simpa using ho
          subst this
          simp [addB, skip]; omega
      · have h1 : stp st' S.st.length = ⟨1, 0, p.1, x⟩ := by
          refine (hst S.st.length hle (by simp [addB, skip])).trans ?_
          show pt (p.2 ++ [2 * S.st.length + 1]) x S.st.length (stp (S.st ++ [⟨1, 0, p.1, 0⟩]) S.st.length) = _
          rw [stp_add_eq, pt_app_none' _ _ _ _ _ hout, pt_ot]
        refine .opt h1 (h.bt st' x (fun n h2 h3 => ?_))
        refine (hst n h2 (by simp [addB, skip]; exact Nat.lt_succ_of_lt h3)).trans ?_
        show pt (p.2 ++ [2 * S.st.length + 1]) x n (stp (S.st ++ [⟨1, 0, p.1, 0⟩]) n) = pt p.2 x n (stp S.st n)
        have h3' : n < S.st.length := h3
        rw [stp_add_lt _ _ _ h3, pt_app_none _ _ _ _ _ (fun o ho => by (have h9 : o = 2 * S.st.length + 1 := (by simpa using ho)); omega)]
    · rw [if_neg h63, if_neg h63]
      have both : ∀ q : Nat, (∀ st' x, stp st' S.st.length = ⟨1, 0, p.1, x⟩ → Bt st' e p.1 S.st.length → ∀ e', (e' = Re.plus e ∧ q = p.1 ∨ e' = Re.star e ∧ q = S.st.length) → Bt st' e' q x) := by
        rintro q st' x h1 h2 e' (⟨rfl, rfl⟩ | ⟨rfl, rfl⟩)
        · exact .plus h1 h2
        · exact .star h1 h2
      have main : ∀ (q : Nat) (e' : Re), (e' = Re.plus e ∧ q = p.1 ∨ e' = Re.star e ∧ q = S.st.length) → Sp S0 ((q, [2 * S.st.length + 1]), patchB p.2 S.st.length (addB ⟨1, 0, p.1, 0⟩ (skip S 1))) e' := by
        intro q e' hq
        have hlen : (patchB p.2 S.st.length (addB ⟨1, 0, p.1, 0⟩ (skip S 1))).st.length = S.st.length + 1 := by rw [patchB_len]; simp [addB, skip]
        have hstp : ∀ n, n < S.st.length + 1 → stp (patchB p.2 S.st.length (addB ⟨1, 0, p.1, 0⟩ (skip S 1))).st n = pt p.2 S.st.length n (stp (S.st ++ [⟨1, 0, p.1, 0⟩]) n) := fun n hn => stp_patch _ _ _ _ (by simp [addB, skip]; omega)
        refine ⟨by rw [hlen]; omega, fun n hn => ?_, fun o ho => ?_, fun st' x hst => ?_⟩
        · rw [hstp n (by omega), stp_add_lt _ _ _ (by omega), pt_none _ _ _ _ (fun o ho => by have := (h.outs o ho).1; omega)]
          exact h.pre n hn
        · have : o = 2 * S.st.length + 1 := by simpa using ho
          subst this
          rw [hlen]; omega
        · rw [hlen] at hst
          have h1 : stp st' S.st.length = ⟨1, 0, p.1, x⟩ := by
            refine (hst S.st.length hle (by omega)).trans ?_
            show pt [2 * S.st.length + 1] x S.st.length _ = _
            rw [hstp _ (by omega), stp_add_eq, pt_none _ _ _ _ hout, pt_ot]
          refine both q st' x h1 (h.bt st' _ (fun n h2 h3 => ?_)) e' hq
          have h3' : n < S.st.length := h3
          refine (hst n h2 (by omega)).trans ?_
          show pt [2 * S.st.length + 1] x n _ = pt p.2 S.st.length n (stp S.st n)
          rw [hstp n (by omega), stp_add_lt _ _ _ h3', pt_none [2 * S.st.length + 1] x n _ (fun o ho => by (have h9 : o = 2 * S.st.length + 1 := (by simpa using ho)); omega)]
      by_cases h43 : c = 43
      · rw [if_pos h43, if_pos h43]
        exact ⟨main _ _ (.inl ⟨rfl, rfl⟩), rfl, rfl⟩
      · rw [if_neg h43, if_neg h43]
        by_cases h42 : c = 42
        · rw [if_pos h42, if_pos h42]
          exact ⟨main _ _ (.inr ⟨rfl, rfl⟩), rfl, rfl⟩
        · rw [if_neg h42, if_neg h42]
          exact ⟨h, rfl, rfl⟩
end Go.Proofs.Ytnjpdhekeffpnaa.Rx

/- The reader's steps are its tree's, put together: plain. -/
set_option linter.unusedVariables false
set_option linter.unusedSimpArgs false
namespace Go.Proofs.Ytnjpdhekeffpnaa.Rx
open Go.RowKit Go.Proofs.YtnjpdhekeffpnaaW.PrintWords Go.Proofs.YtnjpdhekeffpnaaW.PrintLast Go.Proofs.YtnjpdhekeffpnaaW.PrintMore

theorem sp_cat (S0 S1 S2 : BS) (p q : Part) (a b : Re) (hp : Sp S0 (p, S1) a) (hq : Sp S1 (q, S2) b) : Sp S0 ((p.1, q.2), patchB p.2 q.1 S2) (.cat a b) := by
  have l1 : S0.st.length ≤ S1.st.length := hp.le
  have l2 : S1.st.length ≤ S2.st.length := hq.le
  have o1 : ∀ o ∈ p.2, S0.st.length ≤ o / 2 ∧ o / 2 < S1.st.length := hp.outs
  have o2 : ∀ o ∈ q.2, S1.st.length ≤ o / 2 ∧ o / 2 < S2.st.length := hq.outs
  have hstp : ∀ n, n < S2.st.length → stp (patchB p.2 q.1 S2).st n = pt p.2 q.1 n (stp S2.st n) := fun n hn => stp_patch _ _ _ _ hn
  refine ⟨by rw [patchB_len]; omega, fun n hn => ?_, fun o ho => ?_, fun st' x hst => ?_⟩
  · rw [hstp n (by omega), pt_none _ _ _ _ (fun o ho => by have := o1 o ho; omega)]
    exact (hq.pre n (by omega)).trans (hp.pre n hn)
  · rw [patchB_len]
    have := o2 o ho
    exact ⟨by omega, this.2⟩
  · rw [patchB_len] at hst
    refine .cat (hp.bt st' q.1 (fun n h2 h3 => ?_)) (hq.bt st' x (fun n h2 h3 => ?_))
    · have h3' : n < S1.st.length := h3
      refine (hst n h2 (by omega)).trans ?_
      show pt q.2 x n _ = pt p.2 q.1 n (stp S1.st n)
      rw [hstp n (by omega), pt_none q.2 x n _ (fun o ho => by have := o2 o ho; omega), hq.pre n h3']
    · have h3' : n < S2.st.length := h3
      refine (hst n (by omega) h3').trans ?_
      show pt q.2 x n _ = pt q.2 x n (stp S2.st n)
      rw [hstp n h3', pt_none p.2 q.1 n _ (fun o ho => by have := o1 o ho; omega)]
theorem sp_eps (S : BS) : Sp S ((S.st.length, [2 * S.st.length, 2 * S.st.length + 1]), addB ⟨1, 0, 0, 0⟩ S) .eps := by
  refine ⟨by simp [addB], fun n hn => stp_add_lt _ _ _ hn, fun o ho => ?_, fun st' x hst => ?_⟩
  · have : o = 2 * S.st.length ∨ o = 2 * S.st.length + 1 := by simpa using ho
    simp [addB]; omega
  · refine .eps (m := 0) ((hst S.st.length (Nat.le_refl _) (by simp [addB])).trans ?_)
    show pt _ x S.st.length (stp (S.st ++ [⟨1, 0, 0, 0⟩]) S.st.length) = _
    rw [stp_add_eq]
    unfold pt
    rw [if_pos (by simp), if_pos (by simp)]
theorem sp_alt (S0 S1 S2 : BS) (p q : Part) (a b : Re) (hp : Sp S0 (p, S1) a) (hq : Sp S1 (q, S2) b) : Sp S0 ((S2.st.length, p.2 ++ q.2), addB ⟨1, 0, p.1, q.1⟩ S2) (.alt a b) := by
  have l1 : S0.st.length ≤ S1.st.length := hp.le
  have l2 : S1.st.length ≤ S2.st.length := hq.le
  have o1 : ∀ o ∈ p.2, S0.st.length ≤ o / 2 ∧ o / 2 < S1.st.length := hp.outs
  have o2 : ∀ o ∈ q.2, S1.st.length ≤ o / 2 ∧ o / 2 < S2.st.length := hq.outs
  have hlen : (addB ⟨1, 0, p.1, q.1⟩ S2).st.length = S2.st.length + 1 := by simp [addB]
  have hstp : ∀ n, n < S2.st.length → stp (addB ⟨1, 0, p.1, q.1⟩ S2).st n = stp S2.st n := fun n hn => stp_add_lt _ _ _ hn
  refine ⟨by rw [hlen]; omega, fun n hn => ?_, fun o ho => ?_, fun st' x hst => ?_⟩
  · rw [hstp n (by omega)]
    exact (hq.pre n (by omega)).trans (hp.pre n hn)
  · rw [hlen]
    rcases List.mem_append.1 ho with h | h
    · have := o1 o h; omega
    · have := o2 o h; omega
  · rw [hlen] at hst
    have h1 : stp st' S2.st.length = ⟨1, 0, p.1, q.1⟩ := by
      refine (hst S2.st.length (by omega) (by omega)).trans ?_
      show pt (p.2 ++ q.2) x S2.st.length (stp (S2.st ++ [⟨1, 0, p.1, q.1⟩]) S2.st.length) = _
      rw [stp_add_eq, pt_none _ _ _ _ (fun o ho => by
        rcases List.mem_append.1 ho with h | h
        · have := o1 o h; omega
        · have := o2 o h; omega)]
    refine .alt h1 (hp.bt st' x (fun n h2 h3 => ?_)) (hq.bt st' x (fun n h2 h3 => ?_))
    · have h3' : n < S1.st.length := h3
      refine (hst n h2 (by omega)).trans ?_
      show pt (p.2 ++ q.2) x n _ = pt p.2 x n (stp S1.st n)
      rw [hstp n (by omega), pt_app_none _ _ _ _ _ (fun o ho => by have := o2 o ho; omega), hq.pre n h3']
    · have h3' : n < S2.st.length := h3
      refine (hst n (by omega) (by omega)).trans ?_
      show pt (p.2 ++ q.2) x n _ = pt q.2 x n (stp S2.st n)
      rw [hstp n h3', pt_app_none' _ _ _ _ _ (fun o ho => by have := o1 o ho; omega)]
/-- a reader and its trees -/
def Ok (th : BS → Part × BS) (te : BS → Re × BS) : Prop := ∀ S, zB (th S).2 = (te (zB S)).2 ∧ ((th S).2.F = none → S.F = none ∧ Sp S (th S) (te (zB S)).1)
theorem wayL_ok {th : BS → Part × BS} {te : BS → Re × BS} (ht : Ok th te) (s : ByteArray) (S0 : BS) : ∀ (n : Nat) (p : Part) (S : BS) (e : Re), (S.F = none → Sp S0 (p, S) e) →
    zB (wayL th s n p S).2 = (wayLE te s n e (zB S)).2 ∧ ((wayL th s n p S).2.F = none → S.F = none ∧ Sp S0 (wayL th s n p S) (wayLE te s n e (zB S)).1)
  | 0, p, S, e, h => ⟨rfl, fun hF => ⟨hF, h hF⟩⟩
  | n + 1, p, S, e, h => by
    rw [wayL, wayLE, peek_z]
    cases peekB s S with
    | none => exact ⟨rfl, fun hF => ⟨hF, h hF⟩⟩
    | some c =>
      dsimp only
      by_cases hc : c = 124 ∨ c = 41
      · rw [if_pos hc, if_pos hc]
        exact ⟨rfl, fun hF => ⟨hF, h hF⟩⟩
      · rw [if_neg hc, if_neg hc]
        obtain ⟨z1, h1⟩ := ht S
        rw [← z1]
        have z2 : zB (repB s (th S).1 (th S).2).2 = (repE s (te (zB S)).1 (zB (th S).2)).2 ∧ (repB s (th S).1 (th S).2).2.F = (th S).2.F := by
          unfold repB repE
          rw [peek_z]
          cases peekB s (th S).2 with
          | none => exact ⟨rfl, rfl⟩
          | some c => dsimp only; split; (· exact ⟨rfl, rfl⟩); (· split; (· exact ⟨rfl, rfl⟩); (· split <;> exact ⟨rfl, rfl⟩))
        rw [← z2.1]
        have ih := wayL_ok ht s S0 n (p.1, (repB s (th S).1 (th S).2).1.2) (patchB p.2 (repB s (th S).1 (th S).2).1.1 (repB s (th S).1 (th S).2).2) (.cat e (repE s (te (zB S)).1 (zB (th S).2)).1) (fun hF => by
          have hF1 : (th S).2.F = none := z2.2.symm.trans hF
          obtain ⟨h2, h3⟩ := h1 hF1
          exact sp_cat S0 S _ p _ e _ (h h2) (sp_rep s S (th S).2 (th S).1 _ h3).1)
        refine ⟨ih.1, fun hF => ?_⟩
        obtain ⟨h2, h3⟩ := ih.2 hF
        have hF1 : (th S).2.F = none := z2.2.symm.trans h2
        exact ⟨(h1 hF1).1, h3⟩
theorem way_ok {th : BS → Part × BS} {te : BS → Re × BS} (ht : Ok th te) (s : ByteArray) : Ok (wayB th s) (wayE te s) := by
  intro S
  have h := wayL_ok ht s S (s.size + 1) (S.st.length, [2 * S.st.length, 2 * S.st.length + 1]) (addB ⟨1, 0, 0, 0⟩ S) .eps (fun _ => sp_eps S)
  exact h
theorem waysL_ok {th : BS → Part × BS} {te : BS → Re × BS} (ht : Ok th te) (s : ByteArray) (S0 : BS) : ∀ (n : Nat) (p : Part) (S : BS) (e : Re), (S.F = none → Sp S0 (p, S) e) →
    zB (waysL th s n p S).2 = (waysLE te s n e (zB S)).2 ∧ ((waysL th s n p S).2.F = none → S.F = none ∧ Sp S0 (waysL th s n p S) (waysLE te s n e (zB S)).1)
  | 0, p, S, e, h => ⟨rfl, fun hF => ⟨hF, h hF⟩⟩
  | n + 1, p, S, e, h => by
    rw [waysL, waysLE, peek_z]
    by_cases hc : peekB s S = some 124
    · rw [if_pos hc, if_pos hc]
      obtain ⟨z1, h1⟩ := way_ok ht s (skip S 1)
      rw [skip_z, ← z1]
      have ih := waysL_ok ht s S0 n ((wayB th s (skip S 1)).2.st.length, p.2 ++ (wayB th s (skip S 1)).1.2) (addB ⟨1, 0, p.1, (wayB th s (skip S 1)).1.1⟩ (wayB th s (skip S 1)).2) (.alt e (wayE te s (zB (skip S 1))).1) (fun hF => by
        obtain ⟨h2, h3⟩ := h1 hF
        exact sp_alt S0 S _ p _ e _ (h h2) (h3.st rfl))
      refine ⟨ih.1, fun hF => ?_⟩
      obtain ⟨h2, h3⟩ := ih.2 hF
      exact ⟨(h1 h2).1, h3⟩
    · rw [if_neg hc, if_neg hc]
      exact ⟨rfl, fun hF => ⟨hF, h hF⟩⟩
theorem ways_ok {th : BS → Part × BS} {te : BS → Re × BS} (ht : Ok th te) (s : ByteArray) : Ok (waysF th s) (waysFE te s) := by
  intro S
  obtain ⟨z1, h1⟩ := way_ok ht s S
  have h := waysL_ok ht s S (s.size + 1) (wayB th s S).1 (wayB th s S).2 (wayE te s (zB S)).1 (fun hF => (h1 hF).2)
  rw [z1] at h
  exact ⟨h.1, fun hF => ⟨(h1 (h.2 hF).1).1, (h.2 hF).2⟩⟩
end Go.Proofs.Ytnjpdhekeffpnaa.Rx

/- An expression's steps do what its tree says: plain. -/
set_option linter.unusedVariables false
set_option linter.unusedSimpArgs false
namespace Go.Proofs.Ytnjpdhekeffpnaa.Rx
open Go.RowKit Go.Proofs.YtnjpdhekeffpnaaW.PrintWords Go.Proofs.YtnjpdhekeffpnaaW.PrintLast Go.Proofs.YtnjpdhekeffpnaaW.PrintMore

theorem brL_F (s : ByteArray) (b0 : Nat) : ∀ (n m : Nat) (S : BS), (brL s b0 n m S).2.2.F = none → S.F = none
  | 0, m, S, h => absurd h (wrong_F _ _ _)
  | n + 1, m, S, h => by
    rw [brL] at h
    cases hp : peekB s S with
    | none => rw [hp] at h; exact absurd h (wrong_F _ _ _)
    | some c =>
      unfold peekB at hp
      split at hp
      · rename_i h1; exact h1.1
      · cases hp
theorem bracket_F (s : ByteArray) (S : BS) (h : (bracketB s S).2.F = none) : S.F = none := by
  unfold bracketB at h
  split at h
  · exact brL_F s (S.at_ + 1) (s.size + 1) 0 (skip S 1) h
  · exact brL_F s S.at_ (s.size + 1) 0 S h
theorem Sp.r {S S1 S2 : BS} {p : Part} {e : Re} (h : Sp S (p, S1) e) (hs : S1.st = S2.st) : Sp S (p, S2) e := by
  obtain ⟨h1, h2, h3, h4⟩ := h
  dsimp only at h1 h2 h3 h4
  rw [hs] at h1 h2 h3 h4
  exact ⟨h1, h2, h3, h4⟩
theorem grp_ok {wys : BS → Part × BS} {we : BS → Re × BS} (hw : Ok wys we) (s : ByteArray) (a : Nat) : Ok (grpF wys s a) (grpFE we s a) := by
  intro S
  obtain ⟨z1, h1⟩ := hw S
  unfold grpF grpFE
  dsimp only
  rw [← z1, peek_z, wrong_z]
  by_cases hc : peekB s (wys S).2 = some 41
  · rw [if_pos hc, if_pos hc, skip_z]
    exact ⟨rfl, fun hF => ⟨(h1 hF).1, Sp.r (S1 := (wys S).2) (h1 hF).2 rfl⟩⟩
  · rw [if_neg hc, if_neg hc, skip_z]
    exact ⟨rfl, fun hF => absurd hF (wrong_F _ _ _)⟩
theorem byte_ok (S S1 : BS) (m : Nat) (hs : S.st = S1.st) : Sp S (single ⟨0, m, 0, 0⟩ S1) (.byte m) :=
  (sp_single S1 ⟨0, m, 0, 0⟩ (.byte m) (fun st' n y h => .byte h)).st hs.symm
theorem thing_ok {grp : Nat → BS → Part × BS} {ge : Nat → BS → Re × BS} (hg : ∀ a, Ok (grp a) (ge a)) (s : ByteArray) : Ok (thingB grp s) (thingE ge s) := by
  intro S
  unfold thingB thingE
  dsimp only
  rw [peek_z, skip_z, peek_z, wrong_z, wrong_z, show (zB S).at_ = S.at_ from rfl, bracket_z]
  obtain ⟨c, hc⟩ : ∃ c, (peekB s S).getD 0 = c := ⟨_, rfl⟩
  rw [hc]
  split
  · exact ⟨rfl, fun hF => absurd hF (wrong_F _ _ _)⟩
  · split
    · exact ⟨rfl, fun hF => ⟨hF, byte_ok S _ _ rfl⟩⟩
    · split
      · exact ⟨rfl, fun hF => ⟨hF, (sp_single (skip S 1) ⟨2, 0, 0, 0⟩ .beg (fun st' n y h => .beg h)).st rfl⟩⟩
      · split
        · exact ⟨rfl, fun hF => ⟨hF, (sp_single (skip S 1) ⟨3, 0, 0, 0⟩ .fin (fun st' n y h => .fin h)).st rfl⟩⟩
        · split
          · exact ⟨rfl, fun hF => ⟨bracket_F s (skip S 1) hF, byte_ok S _ _ (bracketB_at s (skip S 1)).2.symm⟩⟩
          · split
            · obtain ⟨z1, h1⟩ := hg S.at_ (skip S 1)
              exact ⟨z1, fun hF => ⟨(h1 hF).1, (h1 hF).2.st rfl⟩⟩
            · split
              · by_cases hn : (peekB s (skip S 1)).isNone = true
                · rw [if_pos hn, if_pos hn]
                  exact ⟨rfl, fun hF => absurd hF (wrong_F _ _ _)⟩
                · rw [if_neg hn, if_neg hn]
                  exact ⟨rfl, fun hF => ⟨hF, byte_ok S _ _ rfl⟩⟩
              · exact ⟨rfl, fun hF => ⟨hF, byte_ok S _ _ rfl⟩⟩
theorem th_ok (s : ByteArray) : ∀ d, Ok (thB s d) (thE s d)
  | 0 => thing_ok (fun a S => ⟨(wrong_z 4 a S).symm, fun hF => absurd hF (wrong_F _ _ _)⟩) s
  | d + 1 => by
    show Ok (thingB (grpF (waysB s d) s) s) (thingE (grpFE (waysFE (thE s d) s) s) s)
    refine thing_ok (fun a => grp_ok ?_ s a) s
    rw [waysB_eq]
    exact ways_ok (th_ok s d) s
theorem read_ok (s : ByteArray) : zB (readB s).2 = (readE s).2 ∧ ((readB s).2.F = none → Sp ⟨0, none, []⟩ (readB s) (readE s).1) := by
  have h := ways_ok (th_ok s 16) s ⟨0, none, []⟩
  rw [← waysB_eq] at h
  exact ⟨h.1, fun hF => (h.2 hF).2⟩
theorem fault_none (s : ByteArray) (h : faultB s = none) : s.size ≤ 200 ∧ (readB s).2.F = none ∧ s.size ≤ (readB s).2.at_ := by
  unfold faultB at h
  split at h
  · cases h
  · rename_i h1
    split at h
    · exact absurd h (wrong_F _ _ _)
    · exact ⟨by omega, h, by omega⟩
/-- an expression's steps are its tree's -/
theorem read_bt (s : ByteArray) (h : faultB s = none) : ∃ x, Bt (stepsB s) (readE s).1 (firstB s) x ∧ (stp (stepsB s) x).k = 4 := by
  have hs := (read_ok s).2 (fault_none s h).2.1
  have hst : ∀ n, n < (readB s).2.st.length + 1 → stp (stepsB s) n = pt (readB s).1.2 (readB s).2.st.length n (stp ((readB s).2.st ++ [⟨4, 0, 0, 0⟩]) n) := fun n hn => stp_patch _ _ _ _ (by simp [addB]; omega)
  refine ⟨(readB s).2.st.length, hs.bt _ _ (fun n _ hn => ?_), ?_⟩
  · rw [hst n (by omega), stp_add_lt _ _ _ hn]
  · rw [hst _ (by omega), stp_add_eq]
    rfl
/-- longP of an expression's steps -/
theorem long_M (p s : ByteArray) (h : faultB p = none) (i : Nat) (hi : i ≤ s.size) :
    (longP s (stepsB p) (firstB p) i = -1 ∧ ∀ j, ¬ M s (readE p).1 i j) ∨ (∃ j, i ≤ j ∧ longP s (stepsB p) (firstB p) i = (j : Int) ∧ M s (readE p).1 i j ∧ ∀ j', M s (readE p).1 i j' → j' ≤ j) := by
  obtain ⟨x, h1, h2⟩ := read_bt p h
  have hw := wf_steps p
  exact longP_M s _ _ _ x i hw.1 hw.2.1 hi h1 h2
end Go.Proofs.Ytnjpdhekeffpnaa.Rx

/- Is and Find, told by the tree: plain. -/
set_option linter.unusedVariables false
set_option linter.unusedSimpArgs false
namespace Go.Proofs.Ytnjpdhekeffpnaa.Rx
open Go.RowKit Go.Proofs.YtnjpdhekeffpnaaW.PrintWords Go.Proofs.YtnjpdhekeffpnaaW.PrintLast Go.Proofs.YtnjpdhekeffpnaaW.PrintMore

theorem Star.hi {R : Nat → Nat → Prop} {N : Nat} (hR : ∀ i j, R i j → i ≤ N → j ≤ N) {i j : Nat} (h : Star R i j) : i ≤ N → j ≤ N := by
  induction h with
  | nil => exact id
  | cons h1 _ ih => exact fun h => ih (hR _ _ h1 h)
theorem M_hi (s : ByteArray) : ∀ (e : Re) (i j : Nat), M s e i j → i ≤ s.size → j ≤ s.size
  | .eps, i, j, h, hi => by have h : i = j := h; omega
  | .byte m, i, j, h, hi => by have h1 := h.1; have h2 := h.2.2; omega
  | .beg, i, j, h, hi => by have := h.2; omega
  | .fin, i, j, h, hi => by have := h.2; omega
  | .cat a b, i, j, h, hi => by obtain ⟨k, h1, h2⟩ := h; exact M_hi s b k j h2 (M_hi s a i k h1 hi)
  | .alt a b, i, j, h, hi => by rcases h with h | h; (· exact M_hi s a i j h hi); (· exact M_hi s b i j h hi)
  | .star a, i, j, h, hi => Star.hi (M_hi s a) h hi
  | .plus a, i, j, h, hi => by obtain ⟨k, h1, h2⟩ := h; exact Star.hi (M_hi s a) h2 (M_hi s a i k h1 hi)
  | .opt a, i, j, h, hi => by rcases h with h | h; (· omega); (· exact M_hi s a i j h hi)
theorem isP_M (p s : ByteArray) (h : faultB p = none) : isP s (stepsB p) (firstB p) = true ↔ M s (readE p).1 0 s.size := by
  unfold isP
  rcases long_M p s h 0 (Nat.zero_le _) with ⟨h1, h2⟩ | ⟨j, h1, h2, h3, h4⟩
  · rw [h1]
    constructor
    · intro h3; have := beq_iff_eq.1 h3; omega
    · intro h3; exact absurd h3 (h2 _)
  · rw [h2]
    constructor
    · intro h5
      have h6 : j = s.size := by have := beq_iff_eq.1 h5; omega
      rw [← h6]; exact h3
    · intro h5
      have h6 := h4 _ h5
      have h7 := M_hi s _ _ _ h3 (Nat.zero_le _)
      exact beq_iff_eq.2 (by omega)
/-- what Find tells -/
def FindS (s : ByteArray) (e : Re) (n : Nat) : Option (Nat × Int) → Prop
  | none => ∀ (i j : Nat), n ≤ i → i ≤ s.size → ¬ M s e i j
  | some (i, z) => n ≤ i ∧ i ≤ s.size ∧ (∃ j : Nat, z = (j : Int) ∧ M s e i j ∧ ∀ j' : Nat, M s e i j' → j' ≤ j) ∧ ∀ (i' j : Nat), n ≤ i' → i' < i → ¬ M s e i' j
theorem findL_M (p s : ByteArray) (h : faultB p = none) : ∀ (k n : Nat), s.size < n + k → FindS s (readE p).1 n (findL s (stepsB p) (firstB p) k n)
  | 0, n, hk => fun i j h1 h2 => absurd h2 (by omega)
  | k + 1, n, hk => by
    rw [findL]
    split
    · intro i j h1 h2
      omega
    · rename_i hn
      rcases long_M p s h n (by omega) with ⟨h1, h2⟩ | ⟨j, h1, h2, h3, h4⟩
      · rw [h1, if_neg (by omega)]
        have ih := findL_M p s h k (n + 1) (by omega)
        cases hf : findL s (stepsB p) (firstB p) k (n + 1) with
        | none =>
          rw [hf] at ih
          intro i j h3 h4
          rcases Nat.eq_or_lt_of_le h3 with rfl | h5
          · exact h2 j
          · exact ih i j h5 h4
        | some q =>
          obtain ⟨i, z⟩ := q
          rw [hf] at ih
          obtain ⟨g1, g2, g3, g4⟩ := ih
          refine ⟨by omega, g2, g3, fun i' j h3 h4 => ?_⟩
          rcases Nat.eq_or_lt_of_le h3 with rfl | h5
          · exact h2 j
          · exact g4 i' j h5 h4
      · rw [h2, if_pos (by omega)]
        exact ⟨Nat.le_refl _, by omega, ⟨j, rfl, h3, h4⟩, fun i' j h5 h6 => by omega⟩
theorem findP_M (p s : ByteArray) (h : faultB p = none) (n : Nat) : FindS s (readE p).1 n (findP s (stepsB p) (firstB p) (n : Int)) := by
  rw [findP, if_neg (by omega), Int.toNat_natCast]
  exact findL_M p s h _ n (by omega)
end Go.Proofs.Ytnjpdhekeffpnaa.Rx

/- A row of single bytes as a tree: plain. -/
set_option linter.unusedVariables false
set_option linter.unusedSimpArgs false
namespace Go.Proofs.Ytnjpdhekeffpnaa.Rx
open Go.RowKit Go.Proofs.YtnjpdhekeffpnaaW.PrintWords Go.Proofs.YtnjpdhekeffpnaaW.PrintLast Go.Proofs.YtnjpdhekeffpnaaW.PrintMore

def catB (e : Re) (l : List UInt8) : Re := l.foldl (fun e c => .cat e (.byte (addR 0 c.toNat 1))) e
theorem one_bit (c x : Nat) : (addR 0 c 1).testBit x = true ↔ x = c := by
  show (0 ||| 2 ^ c).testBit x = true ↔ _
  rw [Nat.zero_or, Nat.testBit_two_pow]
  simp [eq_comm]
/-- the bytes l stand in s from i on -/
def Stands (s : ByteArray) : List UInt8 → Nat → Prop
  | [], _ => True
  | c :: l, i => i < s.size ∧ (bt s (i : Int)).toNat = c.toNat ∧ Stands s l (i + 1)
theorem catB_M (s : ByteArray) : ∀ (l : List UInt8) (e : Re) (i j : Nat), M s (catB e l) i j ↔ ∃ k, M s e i k ∧ Stands s l k ∧ j = k + l.length
  | [], e, i, j => ⟨fun h => ⟨j, h, trivial, rfl⟩, fun ⟨k, h1, _, h3⟩ => by have h3 : j = k := h3; rw [h3]; exact h1⟩
  | c :: l, e, i, j => by
    rw [show catB e (c :: l) = catB (.cat e (.byte (addR 0 c.toNat 1))) l from rfl, catB_M s l]
    constructor
    · rintro ⟨k, ⟨q, h1, h2, h3, rfl⟩, h4, h5⟩
      exact ⟨q, h1, ⟨h2, (one_bit _ _).1 h3, h4⟩, by rw [List.length_cons]; omega⟩
    · rintro ⟨k, h1, ⟨h2, h3, h4⟩, h5⟩
      rw [List.length_cons] at h5
      exact ⟨k + 1, ⟨k, h1, h2, (one_bit _ _).2 h3, rfl⟩, h4, by omega⟩
end Go.Proofs.Ytnjpdhekeffpnaa.Rx
set_option linter.unusedVariables false
set_option linter.unusedSimpArgs false
namespace Go.Proofs.Ytnjpdhekeffpnaa.Rx
open Go.RowKit Go.Proofs.YtnjpdhekeffpnaaW.PrintWords Go.Proofs.YtnjpdhekeffpnaaW.PrintLast Go.Proofs.YtnjpdhekeffpnaaW.PrintMore

theorem notSp_all : ∀ c : Fin 256, isSp (UInt8.ofNat c.val) = false → c.val ≠ 42 ∧ c.val ≠ 43 ∧ c.val ≠ 63 ∧ c.val ≠ 46 ∧ c.val ≠ 94 ∧ c.val ≠ 36 ∧ c.val ≠ 91 ∧ c.val ≠ 40 ∧ c.val ≠ 92 ∧ c.val ≠ 124 ∧ c.val ≠ 41 := by decide +kernel
theorem notSp (c : UInt8) (h : isSp c = false) : c.toNat ≠ 42 ∧ c.toNat ≠ 43 ∧ c.toNat ≠ 63 ∧ c.toNat ≠ 46 ∧ c.toNat ≠ 94 ∧ c.toNat ≠ 36 ∧ c.toNat ≠ 91 ∧ c.toNat ≠ 40 ∧ c.toNat ≠ 92 ∧ c.toNat ≠ 124 ∧ c.toNat ≠ 41 := by
  have := notSp_all ⟨c.toNat, c.toNat_lt⟩
  simp only [UInt8.ofNat_toNat] at this
  exact this h
theorem bt_lt (s : ByteArray) (i : Nat) (h : i < s.size) : bt s (i : Int) = ((s[i]'h).toNat : Int) := by
  unfold bt
  rw [dif_pos (by rw [Int.toNat_natCast]; exact h)]
  rfl
theorem bt_drop {p : ByteArray} {k : Nat} {c : UInt8} {r : List UInt8} (h : p.data.toList.drop k = c :: r) : k < p.size ∧ bt p (k : Int) = (c.toNat : Int) ∧ p.data.toList.drop (k + 1) = r := by
  have hk : k < p.size := by
    have h1 := congrArg List.length h
    rw [List.length_drop, Array.length_toList, List.length_cons] at h1
    show k < p.data.size
    omega
  rw [drop_at p k hk] at h
  injection h with h1 h2
  refine ⟨hk, ?_, h2⟩
  rw [bt_lt p k hk, h1]
theorem peek_drop {p : ByteArray} {S : BS} {c : UInt8} {r : List UInt8} (hF : S.F = none) (h : p.data.toList.drop S.at_ = c :: r) : peekB p S = some (c.toNat : Int) := by
  obtain ⟨h1, h2, _⟩ := bt_drop h
  unfold peekB
  rw [if_pos ⟨hF, h1⟩, h2]
theorem peek_end {p : ByteArray} {S : BS} (h : p.data.toList.drop S.at_ = []) : peekB p S = none := by
  apply peek_none
  have h1 := congrArg List.length h
  rw [List.length_drop, Array.length_toList, List.length_nil] at h1
  show p.data.size ≤ _
  omega
theorem th_lit {ge : Nat → BS → Re × BS} {p : ByteArray} {S : BS} {c : UInt8} {r : List UInt8} (hF : S.F = none) (h : p.data.toList.drop S.at_ = c :: r) (hc : isSp c = false) : thingE ge p S = (.byte (addR 0 c.toNat 1), skip S 1) := by
  obtain ⟨c1, c2, c3, c4, c5, c6, c7, c8, c9, c10, c11⟩ := notSp c hc
  unfold thingE
  rw [peek_drop hF h]
  dsimp only [Option.getD]
  rw [if_neg (by omega), if_neg (by omega), if_neg (by omega), if_neg (by omega), if_neg (by omega), if_neg (by omega), if_neg (by omega), Int.toNat_natCast]
theorem th_esc {ge : Nat → BS → Re × BS} {p : ByteArray} {S : BS} {c : UInt8} {r : List UInt8} (hF : S.F = none) (h : p.data.toList.drop S.at_ = 92 :: c :: r) : thingE ge p S = (.byte (addR 0 c.toNat 1), skip (skip S 1) 1) := by
  have h2 : p.data.toList.drop (skip S 1).at_ = c :: r := (bt_drop h).2.2
  have hp := peek_drop (S := skip S 1) hF h2
  unfold thingE
  rw [peek_drop hF h]
  dsimp only [Option.getD]
  rw [if_neg (by decide), if_neg (by decide), if_neg (by decide), if_neg (by decide), if_neg (by decide), if_neg (by decide), if_pos (by decide), hp]
  dsimp only
  rw [Int.toNat_natCast]
  rfl
theorem quoteL_cons (c : UInt8) (l : List UInt8) : quoteL (c :: l) = (if isSp c then [92, c] else [c]) ++ quoteL l := by simp [quoteL]
theorem rep_quote {p : ByteArray} {S : BS} (e : Re) (l : List UInt8) (hF : S.F = none) (h : p.data.toList.drop S.at_ = quoteL l) : repE p e S = (e, S) := by
  unfold repE
  cases l with
  | nil => rw [peek_end h]
  | cons c l =>
    rw [quoteL_cons] at h
    by_cases hc : isSp c = true
    · rw [if_pos hc] at h
      rw [peek_drop (c := 92) hF h]
      rfl
    · rw [if_neg hc] at h
      rw [peek_drop (c := c) hF h]
      obtain ⟨c1, c2, c3, c4, c5, c6, c7, c8, c9, c10, c11⟩ := notSp c (by simpa using hc)
      dsimp only
      rw [if_neg (by omega), if_neg (by omega), if_neg (by omega)]
theorem way_quote {ge : Nat → BS → Re × BS} (p : ByteArray) : ∀ (l : List UInt8) (n : Nat) (e : Re) (S : BS), S.F = none → p.data.toList.drop S.at_ = quoteL l → l.length < n →
    wayLE (thingE ge p) p n e S = (catB e l, skip S (quoteL l).length)
  | [], n + 1, e, S, hF, h, hn => by
    rw [wayLE, peek_end h]
    rfl
  | c :: l, n + 1, e, S, hF, h, hn => by
    rw [List.length_cons] at hn
    rw [quoteL_cons] at h ⊢
    rw [wayLE]
    by_cases hc : isSp c = true
    · rw [if_pos hc] at h ⊢
      have hd : p.data.toList.drop (S.at_ + 1 + 1) = quoteL l := (bt_drop (bt_drop h).2.2).2.2
      rw [peek_drop (c := 92) hF h, th_esc hF h]
      dsimp only
      rw [if_neg (by decide), rep_quote (S := skip (skip S 1) 1) _ l hF hd]
      dsimp only
      rw [way_quote p l n _ (skip (skip S 1) 1) hF hd (by omega)]
      congr 1
      show (⟨_, _, _⟩ : BS) = ⟨_, _, _⟩
      congr 1
      simp [skip]; omega
    · rw [if_neg hc] at h ⊢
      have hd : p.data.toList.drop (S.at_ + 1) = quoteL l := (bt_drop h).2.2
      obtain ⟨c1, c2, c3, c4, c5, c6, c7, c8, c9, c10, c11⟩ := notSp c (by simpa using hc)
      rw [peek_drop (c := c) hF h, th_lit hF h (by simpa using hc)]
      dsimp only
      rw [if_neg (by omega), rep_quote (S := skip S 1) _ l hF hd]
      dsimp only
      rw [way_quote p l n _ (skip S 1) hF hd (by omega)]
      congr 1
      show (⟨_, _, _⟩ : BS) = ⟨_, _, _⟩
      congr 1
      simp [skip]; omega
theorem quoteL_len (l : List UInt8) : l.length ≤ (quoteL l).length ∧ (quoteL l).length ≤ 2 * l.length := by
  induction l with
  | nil => simp [quoteL]
  | cons c l ih =>
    rw [quoteL_cons, List.length_append, List.length_cons]
    split <;> simp <;> omega
/-- the text quoted -/
abbrev qB (s : ByteArray) : ByteArray := ⟨(quoteL s.data.toList).toArray⟩
theorem read_quote (s : ByteArray) : readE (qB s) = (catB .eps s.data.toList, ⟨(qB s).size, none, []⟩) := by
  have hl := quoteL_len s.data.toList
  have hz : (qB s).size = (quoteL s.data.toList).length := by show (quoteL s.data.toList).toArray.size = _; simp
  have hw := way_quote (ge := grpFE (waysFE (thE (qB s) 15) (qB s)) (qB s)) (qB s) s.data.toList ((qB s).size + 1) .eps ⟨0, none, []⟩ rfl (by simp) (by omega)
  have hsk : skip ⟨0, none, []⟩ (quoteL s.data.toList).length = (⟨(qB s).size, none, []⟩ : BS) := by simp [skip, hz]
  rw [hsk] at hw
  show waysFE (thingE (grpFE (waysFE (thE (qB s) 15) (qB s)) (qB s)) (qB s)) (qB s) ⟨0, none, []⟩ = _
  obtain ⟨ge, hge⟩ : ∃ ge, grpFE (waysFE (thE (qB s) 15) (qB s)) (qB s) = ge := ⟨_, rfl⟩
  rw [hge] at hw ⊢
  rw [waysFE, wayE, hw]
  dsimp only
  rw [waysLE, peek_none (Nat.le_refl _)]
  rfl
/-- a text's fault, told by its tree -/
theorem fault_E (s : ByteArray) : faultB s = if 200 < s.size then some (4, 0) else (if (readE s).2.at_ < s.size then wrongB 2 (readE s).2.at_ (readE s).2 else (readE s).2).F := by
  have h := (read_ok s).1
  have h1 : (readE s).2.at_ = (readB s).2.at_ := by rw [← h]; rfl
  have h2 : (readE s).2.F = (readB s).2.F := by rw [← h]; rfl
  unfold faultB
  split
  · rfl
  · rw [h1]
    split
    · rw [wrongB, wrongB, h2]
      split
      · rfl
      · exact h2.symm
    · exact h2.symm
theorem fault_quote (s : ByteArray) (hs : s.size ≤ 60) : faultB (qB s) = none := by
  have hl := quoteL_len s.data.toList
  have hz : (qB s).size = (quoteL s.data.toList).length := by show (quoteL s.data.toList).toArray.size = _; simp
  rw [Array.length_toList] at hl
  have hl2 : (quoteL s.data.toList).length ≤ 2 * s.size := hl.2
  rw [fault_E, if_neg (by omega), read_quote]
  dsimp only
  rw [if_neg (by omega)]
theorem quote_M (s t : ByteArray) (i j : Nat) : M t (readE (qB s)).1 i j ↔ Stands t s.data.toList i ∧ j = i + s.size := by
  rw [read_quote, catB_M]
  rw [Array.length_toList]
  constructor
  · rintro ⟨k, h1, h2, h3⟩
    have h1 : i = k := h1
    subst h1
    exact ⟨h2, h3⟩
  · rintro ⟨h1, h2⟩
    exact ⟨i, rfl, h1, h2⟩
theorem stands_iff (t : ByteArray) : ∀ (l : List UInt8) (i : Nat), i ≤ t.size → (Stands t l i ↔ (t.data.toList.drop i).take l.length = l)
  | [], i, hi => by simp [Stands]
  | c :: l, i, hi => by
    rw [Stands]
    by_cases h : i < t.size
    · rw [drop_at t i h, List.length_cons, List.take_succ_cons, List.cons.injEq, ← stands_iff t l (i + 1) (by omega), bt_lt t i h]
      constructor
      · rintro ⟨_, h2, h3⟩; exact ⟨UInt8.toNat_inj.1 (by simpa using h2), h3⟩
      · rintro ⟨h2, h3⟩; exact ⟨h, by rw [h2]; simp, h3⟩
    · rw [drop_end t i (by omega)]
      simp [h]
theorem stands_ext (s t : ByteArray) (i : Nat) (h : i + s.size ≤ t.size) : Stands t s.data.toList i ↔ t.extract i (i + s.size) = s := by
  rw [stands_iff t _ i (by omega), Array.length_toList]
  constructor
  · intro h1
    apply ByteArray.ext
    apply Array.toList_inj.1
    rw [← h1]
    simp [ByteArray.data_extract]
  · intro h1
    conv => rhs; rw [← h1]
    simp [ByteArray.data_extract]
theorem stands_hi (t : ByteArray) : ∀ (l : List UInt8) (i : Nat), i ≤ t.size → Stands t l i → i + l.length ≤ t.size
  | [], i, hi, _ => by simpa using hi
  | c :: l, i, hi, h => by
    have := stands_hi t l (i + 1) (by have := h.1; omega) h.2.2
    rw [List.length_cons]; omega
/-- what the loop of the law on quoted texts keeps -/
def QInv (a b : ByteArray) (t z : Int) : Prop :=
  (t = -1 ∨ (0 ≤ t ∧ z < t ∧ t ≤ (b.size : Int) - a.size ∧ Stands b a.data.toList t.toNat)) ∧ ∀ j : Nat, z < j → (t = -1 ∨ (j : Int) < t) → (j : Int) ≤ (b.size : Int) - a.size → ¬ Stands b a.data.toList j
theorem QInv.start (a b : ByteArray) : QInv a b (-1) ((b.size : Int) - a.size) := ⟨.inl rfl, fun j h1 _ h3 => by omega⟩
theorem QInv.yes {a b : ByteArray} {t z : Int} (h : QInv a b t z) (h0 : 0 ≤ z) (h1 : z ≤ (b.size : Int) - a.size) (hs : b.extract z.toNat (z + a.size).toNat = a) : QInv a b z (z - 1) := by
  have e : (z + a.size).toNat = z.toNat + a.size := by omega
  rw [e] at hs
  exact ⟨.inr ⟨h0, by omega, h1, (stands_ext a b z.toNat (by omega)).2 hs⟩, fun j h2 h3 _ => by omega⟩
theorem QInv.no {a b : ByteArray} {t z : Int} (h : QInv a b t z) (h0 : 0 ≤ z) (h1 : z ≤ (b.size : Int) - a.size) (hs : ¬ b.extract z.toNat (z + a.size).toNat = a) : QInv a b t (z - 1) := by
  have e : (z + a.size).toNat = z.toNat + a.size := by omega
  rw [e] at hs
  refine ⟨?_, fun j h2 h3 h4 => ?_⟩
  · rcases h.1 with h2 | ⟨h2, h3, h4, h5⟩
    · exact .inl h2
    · exact .inr ⟨h2, by omega, h4, h5⟩
  · by_cases hj : (j : Int) = z
    · have hj2 : j = z.toNat := by omega
      rw [hj2]
      exact fun h6 => hs ((stands_ext a b z.toNat (by omega)).1 h6)
    · exact h.2 j (by omega) h3 h4
theorem quote_find (a b : ByteArray) (ha : a.size ≤ 60) (t z : Int) (h : QInv a b t z) (hz : z < 0) :
    (t = -1 ∧ findP b (stepsB (qB a)) (firstB (qB a)) 0 = none) ∨ ∃ i : Nat, t = (i : Int) ∧ findP b (stepsB (qB a)) (firstB (qB a)) 0 = some (i, (i : Int) + (a.size : Int)) := by
  have hF := findP_M (qB a) b (fault_quote a ha) 0
  obtain ⟨R, hR⟩ : ∃ R, findP b (stepsB (qB a)) (firstB (qB a)) 0 = R := ⟨_, rfl⟩
  rw [show ((0 : Nat) : Int) = 0 from rfl] at hF
  rw [hR] at hF ⊢
  cases R with
  | none =>
    rcases h.1 with h1 | ⟨h1, h2, h3, h4⟩
    · exact .inl ⟨h1, rfl⟩
    · exact absurd ((quote_M a b t.toNat (t.toNat + a.size)).2 ⟨h4, rfl⟩) (hF t.toNat _ (by omega) (by omega))
  | some q =>
    obtain ⟨i, y⟩ := q
    obtain ⟨_, h2, ⟨j, rfl, h3, _⟩, h5⟩ := hF
    obtain ⟨h6, rfl⟩ := (quote_M a b i j).1 h3
    have h7 := stands_hi b _ i h2 h6
    rw [Array.length_toList] at h7
    have h7' : i + a.size ≤ b.size := h7
    rcases h.1 with h1 | ⟨h1, h8, h9, h10⟩
    · exact absurd h6 (h.2 i (by omega) (.inl h1) (by omega))
    · refine .inr ⟨i, ?_, by simp⟩
      rcases Nat.lt_trichotomy i t.toNat with g | g | g
      · exact absurd h6 (h.2 i (by omega) (.inr (by omega)) (by omega))
      · omega
      · exact absurd ((quote_M a b t.toNat (t.toNat + a.size)).2 ⟨h10, rfl⟩) (h5 t.toNat _ (by omega) g)
theorem quote_isA (a : ByteArray) (ha : a.size ≤ 60) : isP a (stepsB (qB a)) (firstB (qB a)) = true := by
  rw [isP_M _ _ (fault_quote a ha), quote_M]
  exact ⟨(stands_ext a a 0 (by omega)).2 (by simp), by omega⟩
theorem quote_isB (a b : ByteArray) (ha : a.size ≤ 60) : isP b (stepsB (qB a)) (firstB (qB a)) = decide (a = b) := by
  rw [Bool.eq_iff_iff, isP_M _ _ (fault_quote a ha), quote_M, decide_eq_true_iff]
  constructor
  · rintro ⟨h1, h2⟩
    have h3 := (stands_ext a b 0 (by omega)).1 h1
    rw [show 0 + a.size = b.size by omega] at h3
    rw [← h3]; simp
  · rintro rfl
    exact ⟨(stands_ext a a 0 (by omega)).2 (by simp), by omega⟩
end Go.Proofs.Ytnjpdhekeffpnaa.Rx
set_option linter.unusedVariables false
set_option linter.unusedSimpArgs false
namespace Go.Proofs.Ytnjpdhekeffpnaa.Rx
open Go.RowKit Go.Proofs.YtnjpdhekeffpnaaW.PrintWords Go.Proofs.YtnjpdhekeffpnaaW.PrintLast Go.Proofs.YtnjpdhekeffpnaaW.PrintMore

/-! ### a fault stays -/
theorem peek_F {p : ByteArray} {S : BS} {x : Nat × Nat} (h : S.F = some x) : peekB p S = none := by
  unfold peekB
  rw [if_neg]
  rintro ⟨h1, _⟩
  rw [h] at h1
  cases h1
theorem th_F {ge : Nat → BS → Re × BS} {p : ByteArray} {S : BS} {x : Nat × Nat} (h : S.F = some x) : (thingE ge p S).2.F = some x := by
  unfold thingE
  rw [peek_F h]
  exact h
theorem rep_F {p : ByteArray} {e : Re} {S : BS} {x : Nat × Nat} (h : S.F = some x) : repE p e S = (e, S) := by
  unfold repE
  rw [peek_F h]
theorem way_F {th : BS → Re × BS} {p : ByteArray} {n : Nat} {e : Re} {S : BS} {x : Nat × Nat} (h : S.F = some x) : wayLE th p n e S = (e, S) := by
  cases n with
  | zero => rfl
  | succ n => rw [wayLE, peek_F h]
theorem ways_F {th : BS → Re × BS} {p : ByteArray} {n : Nat} {e : Re} {S : BS} {x : Nat × Nat} (h : S.F = some x) : waysLE th p n e S = (e, S) := by
  cases n with
  | zero => rfl
  | succ n => rw [waysLE, peek_F h, if_neg (by simp)]
theorem wrong_some {e a : Nat} {S : BS} {x : Nat × Nat} (h : S.F = some x) : wrongB e a S = S := by unfold wrongB; rw [h]
theorem wrong_ne (e a : Nat) (S : BS) : (wrongB e a S).F ≠ none := wrong_F _ _ _
/-! ### in brackets -/
/-- the text t goes on as p does, and then with a closing bracket -/
def Sim (p t : ByteArray) (suf : List UInt8) (S S' : BS) : Prop := S.F = none ∧ S'.F = none ∧ t.data.toList.drop S'.at_ = p.data.toList.drop S.at_ ++ 41 :: suf
def Many (S : BS) : Prop := ∃ a, S.F = some (4, a)
theorem Sim.end {p t : ByteArray} {suf : List UInt8} {S S' : BS} (h : Sim p t suf S S') (he : p.data.toList.drop S.at_ = []) : peekB p S = none ∧ peekB t S' = some 41 ∧ t.data.toList.drop (S'.at_ + 1) = suf := by
  obtain ⟨h1, h2, h3⟩ := h
  rw [he, List.nil_append] at h3
  exact ⟨peek_end he, peek_drop h2 h3, (bt_drop h3).2.2⟩
theorem Sim.cons {p t : ByteArray} {suf : List UInt8} {S S' : BS} (h : Sim p t suf S S') {c : UInt8} {l : List UInt8} (he : p.data.toList.drop S.at_ = c :: l) : peekB p S = some (c.toNat : Int) ∧ peekB t S' = some (c.toNat : Int) ∧ Sim p t suf (skip S 1) (skip S' 1) ∧ p.data.toList.drop (skip S 1).at_ = l := by
  obtain ⟨h1, h2, h3⟩ := h
  have h4 := h3
  rw [he, List.cons_append] at h4
  refine ⟨peek_drop h1 he, peek_drop h2 h4, ⟨h1, h2, ?_⟩, (bt_drop he).2.2⟩
  show t.data.toList.drop (S'.at_ + 1) = p.data.toList.drop (S.at_ + 1) ++ 41 :: suf
  rw [(bt_drop he).2.2, (bt_drop h4).2.2]
theorem size_drop {p : ByteArray} {k : Nat} {l : List UInt8} (h : p.data.toList.drop k = l) : p.size - k = l.length := by
  rw [← h, List.length_drop, Array.length_toList]; rfl
theorem bt_drop2 {p : ByteArray} {k : Nat} {c d : UInt8} {l : List UInt8} (h : p.data.toList.drop k = c :: d :: l) : bt p ((k : Int) + 1) = (d.toNat : Int) := by
  have := (bt_drop (bt_drop h).2.2).2.1
  rwa [show ((k + 1 : Nat) : Int) = (k : Int) + 1 by omega] at this
theorem bt_drop3 {p : ByteArray} {k : Nat} {c d e : UInt8} {l : List UInt8} (h : p.data.toList.drop k = c :: d :: e :: l) : bt p ((k : Int) + 2) = (e.toNat : Int) := by
  have := (bt_drop (bt_drop (bt_drop h).2.2).2.2).2.1
  rwa [show ((k + 1 + 1 : Nat) : Int) = (k : Int) + 2 by omega] at this
theorem brL_c {s : ByteArray} {b0 n m : Nat} {S : BS} {c : Int} (h : peekB s S = some c) : brL s b0 (n + 1) m S =
      (if c = 93 ∧ b0 < S.at_ then (true, m, skip S 1)
      else if s.size - S.at_ < 3 ∨ bt s ((S.at_ : Int) + 1) ≠ 45 ∨ bt s ((S.at_ : Int) + 2) = 93 then brL s b0 n (addR m c.toNat 1) (skip S 1)
      else if bt s ((S.at_ : Int) + 2) < c then (false, 0, wrongB 2 (S.at_ + 1) S)
      else brL s b0 n (addR m c.toNat ((bt s ((S.at_ : Int) + 2)).toNat + 1 - c.toNat)) (skip S 3)) := by rw [brL, h]
theorem way_c {th : BS → Re × BS} {s : ByteArray} {n : Nat} {e : Re} {S : BS} {c : Int} (h : peekB s S = some c) : wayLE th s (n + 1) e S =
      (if c = 124 ∨ c = 41 then (e, S) else wayLE th s n (.cat e (repE s (th S).1 (th S).2).1) (repE s (th S).1 (th S).2).2) := by rw [wayLE, h]
theorem way_n {th : BS → Re × BS} {s : ByteArray} {n : Nat} {e : Re} {S : BS} (h : peekB s S = none) : wayLE th s (n + 1) e S = (e, S) := by rw [wayLE, h]
theorem ways_c {th : BS → Re × BS} {s : ByteArray} {n : Nat} {e : Re} {S : BS} : waysLE th s (n + 1) e S =
      (if peekB s S = some 124 then waysLE th s n (.alt e (wayE th s (skip S 1)).1) (wayE th s (skip S 1)).2 else (e, S)) := by rw [waysLE]
/-- a set's end is missed -/
theorem brL_short {p : ByteArray} {b0 : Nat} {n m : Nat} {S : BS} (hF : S.F = none) (h : p.data.toList.drop S.at_ = [] ∨ p.data.toList.drop S.at_ = [45]) : (brL p b0 n m S).2.2.F ≠ none := by
  cases n with
  | zero => exact wrong_ne _ _ _
  | succ n =>
    rw [brL]
    rcases h with h | h
    · rw [peek_end h]; exact wrong_ne _ _ _
    · rw [peek_drop hF h]
      dsimp only
      rw [if_neg (fun g => absurd g.1 (by decide)), if_pos (by left; rw [size_drop h]; decide)]
      have h2 : p.data.toList.drop (skip S 1).at_ = [] := (bt_drop h).2.2
      cases n with
      | zero => exact wrong_ne _ _ _
      | succ n => rw [brL, peek_end h2]; exact wrong_ne _ _ _
theorem brL_sim {p t : ByteArray} {suf : List UInt8} {b0 b0' : Nat} : ∀ (n n' m : Nat) (S S' : BS), Sim p t suf S S' → b0 + S'.at_ = b0' + S.at_ → (p.data.toList.drop S.at_).length < n → (p.data.toList.drop S.at_).length < n' → (brL p b0 n m S).2.2.F = none →
    (brL t b0' n' m S').1 = (brL p b0 n m S).1 ∧ (brL t b0' n' m S').2.1 = (brL p b0 n m S).2.1 ∧ Sim p t suf (brL p b0 n m S).2.2 (brL t b0' n' m S').2.2
  | n + 1, n' + 1, m, S, S', h, hb, hn, hn', hF => by
    cases hl : p.data.toList.drop S.at_ with
    | nil => exact absurd hF (brL_short h.1 (.inl hl))
    | cons c l =>
      obtain ⟨h1, h2, h3, h4⟩ := h.cons hl
      rw [hl, List.length_cons] at hn hn'
      have h5 := h.2.2
      rw [hl] at h5
      have z1 := size_drop hl
      have z2 := size_drop h5
      have e1 : (skip S 1).at_ = S.at_ + 1 := rfl
      have e2 : (skip S' 1).at_ = S'.at_ + 1 := rfl
      rw [brL_c h1] at hF ⊢
      rw [brL_c h2]
      by_cases c1 : (c.toNat : Int) = 93 ∧ b0 < S.at_
      · rw [if_pos c1, if_pos ⟨c1.1, by omega⟩]
        exact ⟨rfl, rfl, h3⟩
      · rw [if_neg c1] at hF ⊢
        rw [if_neg (show ¬ ((c.toNat : Int) = 93 ∧ b0' < S'.at_) from fun g => c1 ⟨g.1, by omega⟩)]
        have one : (brL p b0 n (addR m ((c.toNat : Int)).toNat 1) (skip S 1)).2.2.F = none → (brL t b0' n' (addR m ((c.toNat : Int)).toNat 1) (skip S' 1)).1 = (brL p b0 n (addR m ((c.toNat : Int)).toNat 1) (skip S 1)).1 ∧ (brL t b0' n' (addR m ((c.toNat : Int)).toNat 1) (skip S' 1)).2.1 = (brL p b0 n (addR m ((c.toNat : Int)).toNat 1) (skip S 1)).2.1 ∧ Sim p t suf (brL p b0 n (addR m ((c.toNat : Int)).toNat 1) (skip S 1)).2.2 (brL t b0' n' (addR m ((c.toNat : Int)).toNat 1) (skip S' 1)).2.2 :=
          fun hF => brL_sim n n' _ _ _ h3 (by omega) (by rw [h4]; omega) (by rw [h4]; omega) hF
        match l, hl with
        | [], hl =>
          rw [if_pos (show p.size - S.at_ < 3 ∨ _ from .inl (by rw [z1]; simp))] at hF
          exact absurd hF (brL_short h3.1 (.inl h4))
        | [d], hl =>
          rw [if_pos (show p.size - S.at_ < 3 ∨ _ from .inl (by rw [z1]; simp))] at hF ⊢
          by_cases hd : d = 45
          · rw [hd] at h4
            exact absurd hF (brL_short h3.1 (.inr h4))
          · have g1 := bt_drop2 h5
            rw [if_pos (show t.size - S'.at_ < 3 ∨ _ from .inr (.inl (by
              rw [g1]; intro g; exact hd (UInt8.toNat_inj.1 (by show d.toNat = 45; omega)))))]
            exact one hF
        | d :: e :: r, hl =>
          have g1 := bt_drop2 h5
          have g2 := bt_drop3 h5
          have g3 := bt_drop2 hl
          have g4 := bt_drop3 hl
          rw [g3, g4] at hF ⊢
          rw [g1, g2]
          by_cases cd : p.size - S.at_ < 3 ∨ (d.toNat : Int) ≠ 45 ∨ (e.toNat : Int) = 93
          · rw [if_pos cd] at hF ⊢
            rw [if_pos (show t.size - S'.at_ < 3 ∨ (d.toNat : Int) ≠ 45 ∨ (e.toNat : Int) = 93 from .inr (cd.resolve_left (by rw [z1]; simp)))]
            exact one hF
          · rw [if_neg cd] at hF ⊢
            rw [if_neg (show ¬ (t.size - S'.at_ < 3 ∨ (d.toNat : Int) ≠ 45 ∨ (e.toNat : Int) = 93) from fun g => g.elim (by rw [z2]; simp) (fun g => cd (.inr g)))]
            split at hF
            · exact absurd hF (wrong_ne _ _ _)
            · rename_i ce
              rw [if_neg ce, if_neg ce]
              have h6 : p.data.toList.drop (skip S 3).at_ = r := (bt_drop (bt_drop (bt_drop hl).2.2).2.2).2.2
              have h7 : t.data.toList.drop (skip S' 3).at_ = r ++ 41 :: suf := (bt_drop (bt_drop (bt_drop h5).2.2).2.2).2.2
              rw [List.length_cons, List.length_cons] at hn hn'
              exact brL_sim n n' _ _ _ ⟨h.1, h.2.1, by rw [h7, h6]⟩ (by show b0 + (S'.at_ + 3) = b0' + (S.at_ + 3); omega) (by rw [h6]; omega) (by rw [h6]; omega) hF
theorem bracket_sim {p t : ByteArray} {suf : List UInt8} {S S' : BS} (h : Sim p t suf S S') (hF : (bracketB p S).2.F = none) :
    (bracketB t S').1 = (bracketB p S).1 ∧ Sim p t suf (bracketB p S).2 (bracketB t S').2 := by
  have hlp : (p.data.toList.drop S.at_).length < p.size + 1 := by rw [List.length_drop, Array.length_toList]; show p.data.size - _ < p.data.size + 1; omega
  have hlt : (p.data.toList.drop S.at_).length < t.size + 1 := by
    have := congrArg List.length h.2.2
    rw [List.length_append, List.length_cons, List.length_drop (l := t.data.toList), Array.length_toList] at this
    show _ < t.data.size + 1
    omega
  unfold bracketB at hF ⊢
  cases hl : p.data.toList.drop S.at_ with
  | nil =>
    rw [(h.end hl).1, if_neg (by simp)] at hF
    exact absurd hF (brL_short h.1 (.inl hl))
  | cons c l =>
    obtain ⟨h1, h2, h3, h4⟩ := h.cons hl
    rw [h1] at hF ⊢
    rw [h2]
    rw [hl, List.length_cons] at hlp hlt
    by_cases hc : some (c.toNat : Int) = some 94
    · rw [if_pos hc] at hF ⊢
      rw [if_pos hc]
      have := brL_sim (b0 := S.at_ + 1) (b0' := S'.at_ + 1) (p.size + 1) (t.size + 1) 0 _ _ h3 (by show S.at_ + 1 + (S'.at_ + 1) = S'.at_ + 1 + (S.at_ + 1); omega) (by rw [h4]; omega) (by rw [h4]; omega) hF
      obtain ⟨g1, g2, g3⟩ := this
      dsimp only
      rw [g1, g2]
      exact ⟨rfl, g3⟩
    · rw [if_neg hc] at hF ⊢
      rw [if_neg hc]
      have := brL_sim (b0 := S.at_) (b0' := S'.at_) (p.size + 1) (t.size + 1) 0 _ _ h (by omega) (by rw [hl, List.length_cons]; omega) (by rw [hl, List.length_cons]; omega) hF
      obtain ⟨g1, g2, g3⟩ := this
      exact ⟨g2, g3⟩
/-- a reader that does alike in both texts, or opens too many brackets -/
def Cx (p t : ByteArray) (suf : List UInt8) (f f' : BS → Re × BS) : Prop :=
  ∀ S S', Sim p t suf S S' → (f S).2.F = none → Many (f' S').2 ∨ ((f' S').1 = (f S).1 ∧ Sim p t suf (f S).2 (f' S').2)
def CxT (p t : ByteArray) (suf : List UInt8) (f f' : BS → Re × BS) : Prop :=
  ∀ S S', Sim p t suf S S' → p.data.toList.drop S.at_ ≠ [] → (f S).2.F = none → Many (f' S').2 ∨ ((f' S').1 = (f S).1 ∧ Sim p t suf (f S).2 (f' S').2)
theorem thing_sim {p t : ByteArray} {suf : List UInt8} {ge ge' : Nat → BS → Re × BS} (hg : ∀ a a', Cx p t suf (ge a) (ge' a')) : CxT p t suf (thingE ge p) (thingE ge' t) := by
  intro S S' h hne hF
  cases hl : p.data.toList.drop S.at_ with
  | nil => exact absurd hl hne
  | cons c l =>
    obtain ⟨h1, h2, h3, h4⟩ := h.cons hl
    unfold thingE at hF ⊢
    rw [h1] at hF ⊢
    rw [h2]
    dsimp only [Option.getD] at hF ⊢
    split at hF
    · exact absurd hF (wrong_ne _ _ _)
    · rename_i c1
      rw [if_neg c1, if_neg c1]
      split at hF
      · rename_i c2
        rw [if_pos c2, if_pos c2]
        exact .inr ⟨rfl, h3⟩
      · rename_i c2
        rw [if_neg c2, if_neg c2]
        split at hF
        · rename_i c3
          rw [if_pos c3, if_pos c3]
          exact .inr ⟨rfl, h3⟩
        · rename_i c3
          rw [if_neg c3, if_neg c3]
          split at hF
          · rename_i c4
            rw [if_pos c4, if_pos c4]
            exact .inr ⟨rfl, h3⟩
          · rename_i c4
            rw [if_neg c4, if_neg c4]
            split at hF
            · rename_i c5
              rw [if_pos c5, if_pos c5]
              obtain ⟨g1, g2⟩ := bracket_sim h3 hF
              exact .inr ⟨by rw [g1], g2⟩
            · rename_i c5
              rw [if_neg c5, if_neg c5]
              split at hF
              · rename_i c6
                rw [if_pos c6, if_pos c6]
                exact hg _ _ _ _ h3 hF
              · rename_i c6
                rw [if_neg c6, if_neg c6]
                split at hF
                · rename_i c7
                  rw [if_pos c7, if_pos c7]
                  cases hl2 : p.data.toList.drop (skip S 1).at_ with
                  | nil =>
                    rw [(h3.end hl2).1] at hF
                    exact absurd hF (wrong_ne 3 p.size (skip S 1))
                  | cons d r =>
                    obtain ⟨k1, k2, k3, k4⟩ := h3.cons hl2
                    rw [k1, k2]
                    exact .inr ⟨rfl, k3⟩
                · rename_i c7
                  rw [if_neg c7, if_neg c7]
                  exact .inr ⟨rfl, h3⟩
theorem rep_sim {p t : ByteArray} {suf : List UInt8} {S S' : BS} (e : Re) (h : Sim p t suf S S') : (repE t e S').1 = (repE p e S).1 ∧ Sim p t suf (repE p e S).2 (repE t e S').2 := by
  unfold repE
  cases hl : p.data.toList.drop S.at_ with
  | nil =>
    obtain ⟨h1, h2, _⟩ := h.end hl
    rw [h1, h2]
    exact ⟨rfl, h⟩
  | cons c l =>
    obtain ⟨h1, h2, h3, h4⟩ := h.cons hl
    rw [h1, h2]
    dsimp only
    split
    · exact ⟨rfl, h3⟩
    · split
      · exact ⟨rfl, h3⟩
      · split
        · exact ⟨rfl, h3⟩
        · exact ⟨rfl, h⟩
theorem len_drop_lt {p : ByteArray} {k : Nat} {c : UInt8} {l : List UInt8} {k' : Nat} (h : p.data.toList.drop k = c :: l) (hk : k < k') : (p.data.toList.drop k').length < (p.data.toList.drop k).length := by
  have h1 := congrArg List.length h
  rw [List.length_drop, List.length_cons] at h1
  rw [List.length_drop, List.length_drop]
  omega
theorem rep_at (p : ByteArray) (e : Re) (S : BS) : S.at_ ≤ (repE p e S).2.at_ := by
  unfold repE
  split
  · exact Nat.le_refl _
  · split
    · exact Nat.le_succ _
    · split
      · exact Nat.le_succ _
      · split
        · exact Nat.le_succ _
        · exact Nat.le_refl _
theorem way_sim {p t : ByteArray} {suf : List UInt8} {th th' : BS → Re × BS} (ht : CxT p t suf th th') (hpos : ∀ S, S.at_ + 1 ≤ (th S).2.at_) (hs : ∀ S x, S.F = some x → (th' S).2.F = some x) : ∀ (n n' : Nat) (e : Re) (S S' : BS), Sim p t suf S S' → (p.data.toList.drop S.at_).length < n → (p.data.toList.drop S.at_).length < n' → (wayLE th p n e S).2.F = none →
    Many (wayLE th' t n' e S').2 ∨ ((wayLE th' t n' e S').1 = (wayLE th p n e S).1 ∧ Sim p t suf (wayLE th p n e S).2 (wayLE th' t n' e S').2)
  | n + 1, n' + 1, e, S, S', h, hn, hn', hF => by
    cases hl : p.data.toList.drop S.at_ with
    | nil =>
      obtain ⟨h1, h2, _⟩ := h.end hl
      rw [way_n h1, way_c h2]
      exact .inr ⟨rfl, h⟩
    | cons c l =>
      obtain ⟨h1, h2, h3, h4⟩ := h.cons hl
      rw [way_c h1] at hF ⊢
      rw [way_c h2]
      split at hF
      · rename_i c1
        rw [if_pos c1, if_pos c1]
        exact .inr ⟨rfl, h⟩
      · rename_i c1
        rw [if_neg c1, if_neg c1]
        have hF1 : (th S).2.F = none := by
          cases hx : (th S).2.F with
          | none => rfl
          | some x =>
            rw [rep_F hx, way_F hx, hx] at hF
            cases hF
        rcases ht S S' h (by rw [hl]; simp) hF1 with ⟨a, ha⟩ | ⟨g1, g2⟩
        · left
          rw [rep_F ha, way_F ha]
          exact ⟨a, ha⟩
        · obtain ⟨g3, g4⟩ := rep_sim (th S).1 g2
          rw [g1]
          rw [g3]
          have hd := len_drop_lt hl (show S.at_ < (repE p (th S).1 (th S).2).2.at_ by have := hpos S; have := rep_at p (th S).1 (th S).2; omega)
          exact way_sim ht hpos hs n n' _ _ _ g4 (by omega) (by omega) hF
theorem way_at {th : BS → Re × BS} (p : ByteArray) (hpos : ∀ S, S.at_ + 1 ≤ (th S).2.at_) : ∀ (n : Nat) (e : Re) (S : BS), S.at_ ≤ (wayLE th p n e S).2.at_
  | 0, e, S => Nat.le_refl _
  | n + 1, e, S => by
    rw [wayLE]
    split
    · exact Nat.le_refl _
    · split
      · exact Nat.le_refl _
      · have h1 := way_at p hpos n (.cat e (repE p (th S).1 (th S).2).1) (repE p (th S).1 (th S).2).2
        have h2 := hpos S
        have h3 := rep_at p (th S).1 (th S).2
        omega
theorem fuel_p (p : ByteArray) (k : Nat) : (p.data.toList.drop k).length < p.size + 1 := by
  rw [List.length_drop, Array.length_toList]; show p.data.size - _ < p.data.size + 1; omega
theorem Sim.fuel {p t : ByteArray} {suf : List UInt8} {S S' : BS} (h : Sim p t suf S S') : (p.data.toList.drop S.at_).length < t.size + 1 := by
  have := congrArg List.length h.2.2
  rw [List.length_append, List.length_cons, List.length_drop (l := t.data.toList), Array.length_toList] at this
  show _ < t.data.size + 1
  omega
theorem wayE_sim {p t : ByteArray} {suf : List UInt8} {th th' : BS → Re × BS} (ht : CxT p t suf th th') (hpos : ∀ S, S.at_ + 1 ≤ (th S).2.at_) (hs : ∀ S x, S.F = some x → (th' S).2.F = some x) : Cx p t suf (wayE th p) (wayE th' t) :=
  fun S S' h hF => way_sim ht hpos hs _ _ _ S S' h (fuel_p _ _) h.fuel hF
theorem ways_sim {p t : ByteArray} {suf : List UInt8} {th th' : BS → Re × BS} (ht : CxT p t suf th th') (hpos : ∀ S, S.at_ + 1 ≤ (th S).2.at_) (hs : ∀ S x, S.F = some x → (th' S).2.F = some x) : ∀ (n n' : Nat) (e : Re) (S S' : BS), Sim p t suf S S' → (p.data.toList.drop S.at_).length < n → (p.data.toList.drop S.at_).length < n' → (waysLE th p n e S).2.F = none →
    Many (waysLE th' t n' e S').2 ∨ ((waysLE th' t n' e S').1 = (waysLE th p n e S).1 ∧ Sim p t suf (waysLE th p n e S).2 (waysLE th' t n' e S').2)
  | n + 1, n' + 1, e, S, S', h, hn, hn', hF => by
    rw [ways_c] at hF
    rw [ways_c (th := th), ways_c (th := th')]
    cases hl : p.data.toList.drop S.at_ with
    | nil =>
      obtain ⟨h1, h2, _⟩ := h.end hl
      rw [h1, h2, if_neg (by simp), if_neg (by simp)]
      exact .inr ⟨rfl, h⟩
    | cons c l =>
      obtain ⟨h1, h2, h3, h4⟩ := h.cons hl
      rw [h1] at hF
      rw [h1, h2]
      split at hF
      · rename_i c1
        rw [if_pos c1, if_pos c1]
        have hF1 : (wayE th p (skip S 1)).2.F = none := by
          cases hx : (wayE th p (skip S 1)).2.F with
          | none => rfl
          | some x =>
            rw [ways_F hx, hx] at hF
            cases hF
        rcases wayE_sim ht hpos hs _ _ h3 hF1 with ⟨a, ha⟩ | ⟨g1, g2⟩
        · left
          rw [ways_F ha]
          exact ⟨a, ha⟩
        · rw [g1]
          have hd := len_drop_lt hl (show S.at_ < (wayE th p (skip S 1)).2.at_ from way_at p hpos _ _ (skip S 1))
          exact ways_sim ht hpos hs n n' _ _ _ g2 (by omega) (by omega) hF
      · rename_i c1
        rw [if_neg c1, if_neg c1]
        exact .inr ⟨rfl, h⟩
theorem waysF_sim {p t : ByteArray} {suf : List UInt8} {th th' : BS → Re × BS} (ht : CxT p t suf th th') (hpos : ∀ S, S.at_ + 1 ≤ (th S).2.at_) (hs : ∀ S x, S.F = some x → (th' S).2.F = some x) : Cx p t suf (waysFE th p) (waysFE th' t) := by
  intro S S' h hF
  unfold waysFE at hF ⊢
  have hF1 : (wayE th p S).2.F = none := by
    cases hx : (wayE th p S).2.F with
    | none => rfl
    | some x =>
      rw [ways_F hx, hx] at hF
      cases hF
  rcases wayE_sim ht hpos hs _ _ h hF1 with ⟨a, ha⟩ | ⟨g1, g2⟩
  · left
    rw [ways_F ha]
    exact ⟨a, ha⟩
  · rw [g1]
    exact ways_sim ht hpos hs _ _ _ _ _ g2 (fuel_p _ _) g2.fuel hF
theorem grp_sim {p t : ByteArray} {suf : List UInt8} {wys wys' : BS → Re × BS} (hw : Cx p t suf wys wys') (a a' : Nat) : Cx p t suf (grpFE wys p a) (grpFE wys' t a') := by
  intro S S' h hF
  unfold grpFE at hF ⊢
  dsimp only at hF ⊢
  by_cases hc : peekB p (wys S).2 = some 41
  · rw [if_pos hc] at hF ⊢
    have hF1 : (wys S).2.F = none := hF
    rcases hw S S' h hF1 with ⟨b, hb⟩ | ⟨g1, g2⟩
    · left
      rw [if_neg (by rw [peek_F hb]; simp), wrong_some hb]
      exact ⟨b, hb⟩
    · right
      cases hl : p.data.toList.drop (wys S).2.at_ with
      | nil => rw [peek_end hl] at hc; cases hc
      | cons c l =>
        obtain ⟨h1, h2, h3, h4⟩ := g2.cons hl
        rw [h1] at hc
        rw [h2, if_pos hc]
        exact ⟨g1, h3⟩
  · rw [if_neg hc] at hF
    exact absurd hF (wrong_ne _ _ _)
theorem brL_posE (s : ByteArray) (S : BS) : S.at_ ≤ (bracketB s S).2.at_ := (bracketB_at s S).1
theorem thing_posE {ge : Nat → BS → Re × BS} (p : ByteArray) (hg : ∀ a S, S.at_ ≤ (ge a S).2.at_) (S : BS) : S.at_ + 1 ≤ (thingE ge p S).2.at_ := by
  unfold thingE
  dsimp only
  split
  · rw [wrongB_at]; exact Nat.le_refl _
  · split
    · exact Nat.le_refl _
    · split
      · exact Nat.le_refl _
      · split
        · exact Nat.le_refl _
        · split
          · exact brL_posE p (skip S 1)
          · split
            · exact hg _ (skip S 1)
            · split
              · show S.at_ + 1 ≤ BS.at_ (ite _ _ _) + 1
                split
                · rw [wrongB_at, skip_at]; omega
                · rw [skip_at]; omega
              · exact Nat.le_refl _
theorem ways_at {th : BS → Re × BS} (p : ByteArray) (hpos : ∀ S, S.at_ + 1 ≤ (th S).2.at_) : ∀ (n : Nat) (e : Re) (S : BS), S.at_ ≤ (waysLE th p n e S).2.at_
  | 0, e, S => Nat.le_refl _
  | n + 1, e, S => by
    rw [waysLE]
    split
    · have h1 := ways_at p hpos n (.alt e (wayE th p (skip S 1)).1) (wayE th p (skip S 1)).2
      have h2 : (skip S 1).at_ ≤ (wayE th p (skip S 1)).2.at_ := way_at p hpos _ _ _
      rw [skip_at] at h2
      omega
    · exact Nat.le_refl _
theorem waysF_at {th : BS → Re × BS} (p : ByteArray) (hpos : ∀ S, S.at_ + 1 ≤ (th S).2.at_) (S : BS) : S.at_ ≤ (waysFE th p S).2.at_ :=
  Nat.le_trans (way_at p hpos _ _ S) (ways_at p hpos _ _ _)
theorem grp_at {wys : BS → Re × BS} (p : ByteArray) (hw : ∀ S, S.at_ ≤ (wys S).2.at_) (a : Nat) (S : BS) : S.at_ ≤ (grpFE wys p a S).2.at_ := by
  unfold grpFE
  show S.at_ ≤ BS.at_ (ite _ _ _) + 1
  have := hw S
  split
  · omega
  · rw [wrongB_at]; omega
theorem thE_pos (p : ByteArray) : ∀ (d : Nat) (S : BS), S.at_ + 1 ≤ (thE p d S).2.at_
  | 0, S => thing_posE (ge := fun at_ S => (.eps, wrongB 4 at_ S)) p (fun a S => by rw [wrongB_at]; exact Nat.le_refl _) S
  | d + 1, S => thing_posE (ge := grpFE (waysFE (thE p d) p) p) p (fun a S => grp_at p (waysF_at p (thE_pos p d)) a S) S
theorem thE_F (p : ByteArray) (d : Nat) (S : BS) (x : Nat × Nat) (h : S.F = some x) : (thE p d S).2.F = some x := by
  cases d with
  | zero => exact th_F (ge := fun at_ S => (.eps, wrongB 4 at_ S)) h
  | succ d => exact th_F (ge := grpFE (waysFE (thE p d) p) p) h
/-- things, d brackets more may be opened, and fewer -/
theorem thE_sim (p t : ByteArray) (suf : List UInt8) : ∀ (d' d : Nat), d' ≤ d → CxT p t suf (thE p d) (thE t d')
  | 0, 0, _ => thing_sim (ge := fun at_ S => (.eps, wrongB 4 at_ S)) (ge' := fun at_ S => (.eps, wrongB 4 at_ S)) (fun a a' S S' h hF => absurd hF (wrong_ne _ _ _))
  | 0, d + 1, _ => thing_sim (ge := grpFE (waysFE (thE p d) p) p) (ge' := fun at_ S => (.eps, wrongB 4 at_ S)) (fun a a' S S' h hF => .inl ⟨a', by show (wrongB 4 a' S').F = _; rw [wrongB, h.2.1]⟩)
  | d' + 1, d + 1, hd => thing_sim (ge := grpFE (waysFE (thE p d) p) p) (ge' := grpFE (waysFE (thE t d') t) t) (fun a a' => grp_sim (waysF_sim (thE_sim p t suf d' d (by omega)) (thE_pos p d) (thE_F t d')) a a')
/-- an expression in brackets, read -/
theorem group_read {p t : ByteArray} {suf : List UInt8} {S' : BS} (hp : faultB p = none) (hF : S'.F = none) (ht : t.data.toList.drop S'.at_ = 40 :: (p.data.toList ++ 41 :: suf)) :
    Many (thE t 16 S').2 ∨ ((thE t 16 S').1 = (readE p).1 ∧ (thE t 16 S').2.F = none ∧ t.data.toList.drop (thE t 16 S').2.at_ = suf) := by
  have hr := read_ok p
  have hn := fault_none p hp
  have h1 : (readE p).2.F = none := by rw [← hr.1]; exact hn.2.1
  have h2 : p.size ≤ (readE p).2.at_ := by rw [← hr.1]; exact hn.2.2
  show Many (thingE (grpFE (waysFE (thE t 15) t) t) t S').2 ∨ _ ∧ _
  have e0 : thE t 16 S' = grpFE (waysFE (thE t 15) t) t S'.at_ (skip S' 1) := by
    show thingE (grpFE (waysFE (thE t 15) t) t) t S' = _
    unfold thingE
    rw [peek_drop hF ht]
    dsimp only [Option.getD]
    rw [if_neg (by decide), if_neg (by decide), if_neg (by decide), if_neg (by decide), if_neg (by decide), if_pos (by decide)]
  have e1 : thingE (grpFE (waysFE (thE t 15) t) t) t S' = grpFE (waysFE (thE t 15) t) t S'.at_ (skip S' 1) := e0
  rw [e0, e1]
  have hs : Sim p t suf ⟨0, none, []⟩ (skip S' 1) := ⟨rfl, hF, by show t.data.toList.drop (S'.at_ + 1) = _; rw [(bt_drop ht).2.2]; rfl⟩
  have hw := waysF_sim (thE_sim p t suf 15 16 (by omega)) (thE_pos p 16) (thE_F t 15) _ _ hs h1
  unfold grpFE
  dsimp only
  rcases hw with ⟨b, hb⟩ | ⟨g1, g2⟩
  · left
    rw [if_neg (by rw [peek_F hb]; simp), wrong_some hb]
    exact ⟨b, hb⟩
  · right
    have he := g2.end (drop_end p _ h2)
    rw [if_pos he.2.1]
    exact ⟨g1, g2.2.1, he.2.2⟩
theorem way_stop {th : BS → Re × BS} {t : ByteArray} {n : Nat} {e : Re} {S : BS} (hF : S.F = none) (h : t.data.toList.drop S.at_ = [] ∨ ∃ r, t.data.toList.drop S.at_ = 124 :: r) : wayLE th t n e S = (e, S) := by
  cases n with
  | zero => rfl
  | succ n =>
    rw [wayLE]
    rcases h with h | ⟨r, h⟩
    · rw [peek_end h]
    · rw [peek_drop hF h]
      rfl
theorem way_one {th : BS → Re × BS} {t : ByteArray} {n : Nat} {e : Re} {S : BS} {r : List UInt8} (hF : S.F = none) (h : t.data.toList.drop S.at_ = 40 :: r) : wayLE th t (n + 1) e S = wayLE th t n (.cat e (repE t (th S).1 (th S).2).1) (repE t (th S).1 (th S).2).2 := by
  rw [wayLE, peek_drop hF h]
  rfl
theorem rep_none {t : ByteArray} {e : Re} {S : BS} (hF : S.F = none) (h : t.data.toList.drop S.at_ = [] ∨ ∃ c r, t.data.toList.drop S.at_ = c :: r ∧ (c = 124 ∨ c = 40)) : repE t e S = (e, S) := by
  unfold repE
  rcases h with h | ⟨c, r, h, rfl | rfl⟩
  · rw [peek_end h]
  · rw [peek_drop hF h]; rfl
  · rw [peek_drop hF h]; rfl
theorem many_fault {t : ByteArray} (h : Many (readE t).2) (hz : t.size ≤ 200) : ∃ a, faultB t = some (4, a) := by
  obtain ⟨a, h⟩ := h
  rw [fault_E, if_neg (by omega)]
  refine ⟨a, ?_⟩
  split
  · rw [wrong_some h, h]
  · exact h
theorem end_fault {t : ByteArray} (h1 : (readE t).2.F = none) (h2 : t.data.toList.drop (readE t).2.at_ = []) (hz : t.size ≤ 200) : faultB t = none := by
  rw [fault_E, if_neg (by omega)]
  have := congrArg List.length h2
  rw [List.length_drop, Array.length_toList, List.length_nil] at this
  have h3 : t.size ≤ (readE t).2.at_ := by show t.data.size ≤ _; omega
  rw [if_neg (by omega)]
  exact h1
/-- "(p)|(q)" -/
theorem read_alt {p q t : ByteArray} (hp : faultB p = none) (hq : faultB q = none) (hz : t.size ≤ 200) (ht : t.data.toList = 40 :: (p.data.toList ++ 41 :: 124 :: 40 :: (q.data.toList ++ [41]))) :
    (∃ a, faultB t = some (4, a)) ∨ (faultB t = none ∧ ∀ s i j, M s (readE t).1 i j ↔ M s (readE p).1 i j ∨ M s (readE q).1 i j) := by
  have ht0 : t.data.toList.drop (⟨0, none, []⟩ : BS).at_ = 40 :: (p.data.toList ++ 41 :: 124 :: 40 :: (q.data.toList ++ [41])) := ht
  have hpos : 0 < t.size := (bt_drop ht0).1
  obtain ⟨N, hN⟩ : ∃ N, t.size = N + 1 := ⟨t.size - 1, by omega⟩
  have hw0 : wayE (thE t 16) t ⟨0, none, []⟩ = wayLE (thE t 16) t (N + 1) (.cat .eps (repE t (thE t 16 ⟨0, none, []⟩).1 (thE t 16 ⟨0, none, []⟩).2).1) (repE t (thE t 16 ⟨0, none, []⟩).1 (thE t 16 ⟨0, none, []⟩).2).2 := by
    rw [wayE, hN]
    exact way_one rfl ht0
  have hr : readE t = waysLE (thE t 16) t (t.size + 1) (wayE (thE t 16) t ⟨0, none, []⟩).1 (wayE (thE t 16) t ⟨0, none, []⟩).2 := rfl
  rw [hw0] at hr
  rcases group_read (S' := ⟨0, none, []⟩) hp rfl ht0 with ⟨a, ha⟩ | ⟨g1, g2, g3⟩
  · left
    rw [rep_F ha, way_F ha, ways_F ha] at hr
    exact many_fault (by rw [hr]; exact ⟨a, ha⟩) hz
  · rw [rep_none g2 (.inr ⟨_, _, g3, .inl rfl⟩), way_stop g2 (.inr ⟨_, g3⟩), waysLE, peek_drop g2 g3, if_pos (by decide)] at hr
    obtain ⟨S1, hS1⟩ : ∃ S1, skip (thE t 16 ⟨0, none, []⟩).2 1 = S1 := ⟨_, rfl⟩
    have hF1 : S1.F = none := by rw [← hS1]; exact g2
    have hd1 : t.data.toList.drop S1.at_ = 40 :: (q.data.toList ++ 41 :: []) := by rw [← hS1]; exact (bt_drop g3).2.2
    rw [hS1] at hr
    have hw1 : wayE (thE t 16) t S1 = wayLE (thE t 16) t (N + 1) (.cat .eps (repE t (thE t 16 S1).1 (thE t 16 S1).2).1) (repE t (thE t 16 S1).1 (thE t 16 S1).2).2 := by
      rw [wayE, hN]
      exact way_one hF1 hd1
    rw [hw1] at hr
    rcases group_read hq hF1 hd1 with ⟨a, ha⟩ | ⟨k1, k2, k3⟩
    · left
      rw [rep_F ha, way_F ha, ways_F ha] at hr
      exact many_fault (by rw [hr]; exact ⟨a, ha⟩) hz
    · right
      rw [rep_none k2 (.inl k3), way_stop k2 (.inl k3)] at hr
      rw [hN, waysLE, peek_end k3, if_neg (by simp)] at hr
      dsimp only at hr
      refine ⟨end_fault (by rw [hr]; exact k2) (by rw [hr]; exact k3) hz, fun s i j => ?_⟩
      rw [hr, g1, k1]
      constructor
      · rintro (⟨x, h1, h2⟩ | ⟨x, h1, h2⟩)
        · have h1 : i = x := h1
          rw [h1]; exact .inl h2
        · have h1 : i = x := h1
          rw [h1]; exact .inr h2
      · rintro (h | h)
        · exact .inl ⟨i, rfl, h⟩
        · exact .inr ⟨i, rfl, h⟩
/-- "(p)+" -/
theorem read_plus {p t : ByteArray} (hp : faultB p = none) (hz : t.size ≤ 200) (ht : t.data.toList = 40 :: (p.data.toList ++ [41, 43])) :
    (∃ a, faultB t = some (4, a)) ∨ (faultB t = none ∧ ∀ s i j, M s (readE t).1 i j ↔ ∃ k, M s (readE p).1 i k ∧ Star (M s (readE p).1) k j) := by
  have ht0 : t.data.toList.drop (⟨0, none, []⟩ : BS).at_ = 40 :: (p.data.toList ++ 41 :: [43]) := ht
  have hpos : 0 < t.size := (bt_drop ht0).1
  obtain ⟨N, hN⟩ : ∃ N, t.size = N + 1 := ⟨t.size - 1, by omega⟩
  have hw0 : wayE (thE t 16) t ⟨0, none, []⟩ = wayLE (thE t 16) t (N + 1) (.cat .eps (repE t (thE t 16 ⟨0, none, []⟩).1 (thE t 16 ⟨0, none, []⟩).2).1) (repE t (thE t 16 ⟨0, none, []⟩).1 (thE t 16 ⟨0, none, []⟩).2).2 := by
    rw [wayE, hN]
    exact way_one rfl ht0
  have hr : readE t = waysLE (thE t 16) t (t.size + 1) (wayE (thE t 16) t ⟨0, none, []⟩).1 (wayE (thE t 16) t ⟨0, none, []⟩).2 := rfl
  rw [hw0] at hr
  rcases group_read (S' := ⟨0, none, []⟩) hp rfl ht0 with ⟨a, ha⟩ | ⟨g1, g2, g3⟩
  · left
    rw [rep_F ha, way_F ha, ways_F ha] at hr
    exact many_fault (by rw [hr]; exact ⟨a, ha⟩) hz
  · right
    have hrep : repE t (thE t 16 ⟨0, none, []⟩).1 (thE t 16 ⟨0, none, []⟩).2 = (.plus (thE t 16 ⟨0, none, []⟩).1, skip (thE t 16 ⟨0, none, []⟩).2 1) := by
      unfold repE
      rw [peek_drop g2 g3]
      rfl
    have g4 : t.data.toList.drop (skip (thE t 16 ⟨0, none, []⟩).2 1).at_ = [] := (bt_drop g3).2.2
    rw [hrep, way_stop (S := skip (thE t 16 ⟨0, none, []⟩).2 1) g2 (.inl g4), waysLE, peek_end g4, if_neg (by simp)] at hr
    refine ⟨end_fault (by rw [hr]; exact g2) (by rw [hr]; exact g4) hz, fun s i j => ?_⟩
    rw [hr, g1]
    constructor
    · rintro ⟨x, h1, h2⟩
      have h1 : i = x := h1
      rw [h1]; exact h2
    · intro h
      exact ⟨i, rfl, h⟩
/-- "(p)(p)*" -/
theorem read_star {p t : ByteArray} (hp : faultB p = none) (hz : t.size ≤ 200) (ht : t.data.toList = 40 :: (p.data.toList ++ 41 :: 40 :: (p.data.toList ++ [41, 42]))) :
    (∃ a, faultB t = some (4, a)) ∨ (faultB t = none ∧ ∀ s i j, M s (readE t).1 i j ↔ ∃ k, M s (readE p).1 i k ∧ Star (M s (readE p).1) k j) := by
  have ht0 : t.data.toList.drop (⟨0, none, []⟩ : BS).at_ = 40 :: (p.data.toList ++ 41 :: 40 :: (p.data.toList ++ [41, 42])) := ht
  have hpos : 0 < t.size := (bt_drop ht0).1
  have hpos2 : 1 < t.size := by
    have := congrArg List.length ht
    rw [Array.length_toList] at this
    simp only [List.length_cons, List.length_append] at this
    show 1 < t.data.size
    omega
  obtain ⟨N, hN⟩ : ∃ N, t.size = N + 1 + 1 := ⟨t.size - 2, by omega⟩
  have hw0 : wayE (thE t 16) t ⟨0, none, []⟩ = wayLE (thE t 16) t (N + 1 + 1) (.cat .eps (repE t (thE t 16 ⟨0, none, []⟩).1 (thE t 16 ⟨0, none, []⟩).2).1) (repE t (thE t 16 ⟨0, none, []⟩).1 (thE t 16 ⟨0, none, []⟩).2).2 := by
    rw [wayE, hN]
    exact way_one rfl ht0
  have hr : readE t = waysLE (thE t 16) t (t.size + 1) (wayE (thE t 16) t ⟨0, none, []⟩).1 (wayE (thE t 16) t ⟨0, none, []⟩).2 := rfl
  rw [hw0] at hr
  rcases group_read (S' := ⟨0, none, []⟩) hp rfl ht0 with ⟨a, ha⟩ | ⟨g1, g2, g3⟩
  · left
    rw [rep_F ha, way_F ha, ways_F ha] at hr
    exact many_fault (by rw [hr]; exact ⟨a, ha⟩) hz
  · obtain ⟨S1, hS1⟩ : ∃ S1, (thE t 16 ⟨0, none, []⟩).2 = S1 := ⟨_, rfl⟩
    rw [hS1] at g2 g3
    rw [hS1, rep_none g2 (.inr ⟨_, _, g3, .inr rfl⟩), way_one g2 g3] at hr
    rcases group_read (suf := [42]) hp g2 (by rw [g3]) with ⟨a, ha⟩ | ⟨k1, k2, k3⟩
    · left
      rw [rep_F ha, way_F ha, ways_F ha] at hr
      exact many_fault (by rw [hr]; exact ⟨a, ha⟩) hz
    · right
      have hrep : repE t (thE t 16 S1).1 (thE t 16 S1).2 = (.star (thE t 16 S1).1, skip (thE t 16 S1).2 1) := by
        unfold repE
        rw [peek_drop k2 k3]
        rfl
      have k4 : t.data.toList.drop (skip (thE t 16 S1).2 1).at_ = [] := (bt_drop k3).2.2
      rw [hrep, way_stop (S := skip (thE t 16 S1).2 1) k2 (.inl k4), waysLE, peek_end k4, if_neg (by simp)] at hr
      refine ⟨end_fault (by rw [hr]; exact k2) (by rw [hr]; exact k4) hz, fun s i j => ?_⟩
      rw [hr, g1, k1]
      constructor
      · rintro ⟨y, ⟨x, h1, h2⟩, h3⟩
        have h1 : i = x := h1
        rw [h1]; exact ⟨y, h2, h3⟩
      · rintro ⟨y, h2, h3⟩
        exact ⟨y, ⟨i, rfl, h2⟩, h3⟩
end Go.Proofs.Ytnjpdhekeffpnaa.Rx
