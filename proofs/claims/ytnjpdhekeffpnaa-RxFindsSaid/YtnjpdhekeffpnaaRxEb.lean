/- The longest match is the longest: plain. -/
import Derived.Test.YtnjpdhekeffpnaaRxEa
import Derived.Test.YtnjpdhekeffpnaaRxI
set_option linter.unusedVariables false
set_option linter.unusedSimpArgs false
namespace Go.Proofs.Ytnjpdhekeffpnaa.Rx
open Go.RowKit Go.Proofs.YtnjpdhekeffpnaaW.PrintWords Go.Proofs.YtnjpdhekeffpnaaW.PrintLast Go.Proofs.YtnjpdhekeffpnaaW.PrintMore

/-- what is come to from step f at i -/
inductive Wy (s : ByteArray) (st : List Stp) (f i : Nat) : Nat → Nat → Prop where
  | refl : Wy s st f i f i
  | snoc {x j y j' : Nat} : Wy s st f i x j → Go1 s st x j y j' → Wy s st f i y j'
/-- a byte is taken -/
def BM (s : ByteArray) (st : List Stp) (a q : Nat) : Prop := (stp st q).k = 0 ∧ a < s.size ∧ (stp st q).m.testBit (bt s a).toNat = true
theorem go1_nb {s : ByteArray} {st : List Stp} {n j x : Nat} (h : Nb st (decide (j = 0)) (decide (j = s.size)) n x) : Go1 s st n j x j := by
  rcases h with ⟨h, rfl | rfl⟩ | ⟨h, h2, rfl⟩ | ⟨h, h2, rfl⟩
  · exact .nx h
  · exact .ot h
  · exact .beg h (of_decide_eq_true h2)
  · exact .fin h (of_decide_eq_true h2)
theorem go1_cases {s : ByteArray} {st : List Stp} {n j x j' : Nat} (h : Go1 s st n j x j') : (j' = j ∧ Nb st (decide (j = 0)) (decide (j = s.size)) n x) ∨ (j' = j + 1 ∧ BM s st j n ∧ x = (stp st n).nx) := by
  cases h with
  | byte h1 h2 h3 => exact .inr ⟨rfl, ⟨h1, h2, h3⟩, rfl⟩
  | nx h1 => exact .inl ⟨rfl, .inl ⟨h1, .inl rfl⟩⟩
  | ot h1 => exact .inl ⟨rfl, .inl ⟨h1, .inr rfl⟩⟩
  | beg h1 h2 => exact .inl ⟨rfl, .inr (.inl ⟨h1, decide_eq_true h2, rfl⟩)⟩
  | fin h1 h2 => exact .inl ⟨rfl, .inr (.inr ⟨h1, decide_eq_true h2, rfl⟩)⟩
theorem Wy.ep {s : ByteArray} {st : List Stp} {f i n j x : Nat} (h : Ep st (decide (j = 0)) (decide (j = s.size)) n x) : Wy s st f i n j → Wy s st f i x j := by
  induction h with
  | refl => exact id
  | step h1 _ ih => exact fun hw => ih (hw.snoc (go1_nb h1))
theorem Ep.snoc {st : List Stp} {b e : Bool} {n x y : Nat} (h : Ep st b e n x) (g : Nb st b e x y) : Ep st b e n y := by
  induction h with
  | refl => exact .step g (.refl _)
  | step h1 _ ih => exact .step h1 (ih g)
theorem Wy.cases' {s : ByteArray} {st : List Stp} {f i x j : Nat} (h : Wy s st f i x j) :
    (j = i ∧ Ep st (decide (j = 0)) (decide (j = s.size)) f x) ∨ ∃ a q, j = a + 1 ∧ i ≤ a ∧ Wy s st f i q a ∧ BM s st a q ∧ Ep st false (decide (j = s.size)) (stp st q).nx x := by
  have hle : ∀ {x j}, Wy s st f i x j → i ≤ j := by
    intro x j h
    induction h with
    | refl => exact Nat.le_refl _
    | snoc _ g ih => rcases go1_cases g with ⟨rfl, _⟩ | ⟨rfl, _⟩ <;> omega
  induction h with
  | refl => exact .inl ⟨rfl, .refl _⟩
  | @snoc x j y j' hw g ih =>
    rcases go1_cases g with ⟨rfl, hn⟩ | ⟨rfl, hb, rfl⟩
    · rcases ih with ⟨h1, h2⟩ | ⟨a, q, rfl, h0, h1, h2, h3⟩
      · exact .inl ⟨h1, h2.snoc hn⟩
      · refine .inr ⟨a, q, rfl, h0, h1, h2, h3.snoc ?_⟩
        rwa [decide_eq_false (show ¬ a + 1 = 0 by omega)] at hn
    · exact .inr ⟨j, x, rfl, hle hw, hw, hb, .refl _⟩
theorem Wy.pass {s : ByteArray} {st : List Stp} {f i x j a : Nat} (h : Wy s st f i x j) : i ≤ a → a < j → ∃ q, Wy s st f i q a ∧ BM s st a q := by
  induction h with
  | refl => intro h1 h2; omega
  | @snoc x j y j' hw g ih =>
    intro h1 h2
    rcases go1_cases g with ⟨rfl, hn⟩ | ⟨rfl, hb, rfl⟩
    · exact ih h1 h2
    · rcases Nat.lt_or_ge a j with h3 | h3
      · exact ih h1 h3
      · obtain rfl : a = j := by omega
        exact ⟨x, hw, hb⟩
theorem ac_iff (s : ByteArray) (st : List Stp) (f i j : Nat) : Ac s st f i j ↔ ∃ x, Wy s st f i x j ∧ (stp st x).k = 4 := by
  constructor
  · rintro ⟨l, a⟩
    have : ∀ {l n q j}, Acc s st l n q j → Wy s st f i n q → ∃ x, Wy s st f i x j ∧ (stp st x).k = 4 := by
      intro l n q j a
      induction a with
      | done h => exact fun hw => ⟨_, hw, h⟩
      | move g _ ih => exact fun hw => ih (hw.snoc g)
    exact this a .refl
  · rintro ⟨x, hw, hk⟩
    have : ∀ {x j}, Wy s st f i x j → ∀ j', Ac s st x j j' → Ac s st f i j' := by
      intro x j hw
      induction hw with
      | refl => exact fun _ h => h
      | snoc _ g ih => rintro j' ⟨l, a⟩; exact ih j' ⟨l + 1, .move g a⟩
    exact this hw j ⟨0, .done hk⟩
structure StepS (s : ByteArray) (st : List Stp) (a : Nat) (m : List Bool) (n : Nat) (nx : List Bool) (sm : Bool) (la : Int) (r : List Bool × Bool × Int) : Prop where
  len : r.1.length = st.length
  cl : Cl st false (decide (a + 1 = s.size)) r.1
  on : ∀ x, On r.1 x ↔ On nx x ∨ ∃ q, n ≤ q ∧ On m q ∧ BM s st a q ∧ Ep st false (decide (a + 1 = s.size)) (stp st q).nx x
  sm : r.2.1 = true ↔ sm = true ∨ ∃ q, n ≤ q ∧ On m q ∧ BM s st a q
  la : (r.2.2 = la ∧ ¬ (∃ q, n ≤ q ∧ On m q ∧ (stp st q).k = 4)) ∨ (r.2.2 = (a : Int) ∧ ∃ q, n ≤ q ∧ On m q ∧ (stp st q).k = 4)
theorem on_lt {m : List Bool} {n : Nat} (h : On m n) : n < m.length := by
  rcases Nat.lt_or_ge n m.length with h1 | h1
  · exact h1
  · unfold On at h
    rw [List.getD_eq_getElem?_getD, List.getElem?_eq_none h1] at h
    cases h
theorem stepL_spec (s : ByteArray) (st : List Stp) (a : Nat) (m : List Bool) (hw : WfS st) (hm : m.length = st.length) : ∀ (k n : Nat) (nx : List Bool) (sm : Bool) (la : Int),
    m.length < k + n → nx.length = st.length → Cl st false (decide (a + 1 = s.size)) nx → StepS s st a m n nx sm la (stepL s st a m k n nx sm la)
  | 0, n, nx, sm, la, hk, hl, hc => by
    have hno : ∀ q, n ≤ q → ¬ On m q := fun q hq h => by have := on_lt h; omega
    exact ⟨hl, hc, fun x => ⟨.inl, fun h => h.elim id (fun ⟨q, h1, h2, _⟩ => absurd h2 (hno q h1))⟩, ⟨.inl, fun h => h.elim id (fun ⟨q, h1, h2, _⟩ => absurd h2 (hno q h1))⟩, .inl ⟨rfl, fun ⟨q, h1, h2, _⟩ => hno q h1 h2⟩⟩
  | k + 1, n, nx, sm, la, hk, hl, hc => by
    have split_q : ∀ {P : Nat → Prop}, (∃ q, n ≤ q ∧ P q) ↔ (P n ∨ ∃ q, n + 1 ≤ q ∧ P q) := by
      intro P
      constructor
      · rintro ⟨q, h1, h2⟩
        rcases Nat.eq_or_lt_of_le h1 with rfl | h3
        · exact .inl h2
        · exact .inr ⟨q, h3, h2⟩
      · rintro (h | ⟨q, h1, h2⟩)
        · exact ⟨n, Nat.le_refl _, h⟩
        · exact ⟨q, by omega, h2⟩
    rw [stepL]
    split
    · rename_i hn
      have skipN : ∀ {r}, (¬ (On m n ∧ BM s st a n)) → (¬ (On m n ∧ (stp st n).k = 4)) → StepS s st a m (n + 1) nx sm la r → StepS s st a m n nx sm la r := fun hb h4 h => by
        refine ⟨h.len, h.cl, fun x => (h.on x).trans ?_, h.sm.trans ?_, h.la.imp ?_ ?_⟩
        · rw [split_q (P := fun q => On m q ∧ BM s st a q ∧ Ep st false (decide (a + 1 = s.size)) (stp st q).nx x)]
          exact ⟨fun h => h.elim .inl (fun h => .inr (.inr h)), fun h => h.elim .inl (fun h => h.elim (fun ⟨h1, h2, _⟩ => absurd ⟨h1, h2⟩ hb) .inr)⟩
        · rw [split_q (P := fun q => On m q ∧ BM s st a q)]
          exact ⟨fun h => h.elim .inl (fun h => .inr (.inr h)), fun h => h.elim .inl (fun h => h.elim (fun h1 => absurd h1 hb) .inr)⟩
        · rintro ⟨h1, h2⟩
          refine ⟨h1, ?_⟩
          rw [split_q (P := fun q => On m q ∧ (stp st q).k = 4)]
          exact fun h => h.elim h4 h2
        · rintro ⟨h1, h2⟩
          refine ⟨h1, ?_⟩
          rw [split_q (P := fun q => On m q ∧ (stp st q).k = 4)]
          exact .inr h2
      have ih := fun nx sm la hl hc => stepL_spec s st a m hw hm k (n + 1) nx sm la (by omega) hl hc
      split
      · rename_i h0
        have hoff : ¬ On m n := by unfold On; rw [h0]; simp
        exact skipN (fun h => hoff h.1) (fun h => hoff h.1) (ih nx sm la hl hc)
      · rename_i h0
        have hon : On m n := by unfold On; simpa using h0
        split
        · rename_i h4
          have h := ih nx sm (a : Int) hl hc
          refine ⟨h.len, h.cl, fun x => (h.on x).trans ?_, h.sm.trans ?_, .inr ⟨h.la.elim (fun h => h.1) (fun h => h.1), n, Nat.le_refl _, hon, h4⟩⟩
          · rw [split_q (P := fun q => On m q ∧ BM s st a q ∧ Ep st false (decide (a + 1 = s.size)) (stp st q).nx x)]
            exact ⟨fun h => h.elim .inl (fun h => .inr (.inr h)), fun h => h.elim .inl (fun h => h.elim (fun ⟨_, h2, _⟩ => absurd (h4.symm.trans h2.1) (by decide)) .inr)⟩
          · rw [split_q (P := fun q => On m q ∧ BM s st a q)]
            exact ⟨fun h => h.elim .inl (fun h => .inr (.inr h)), fun h => h.elim .inl (fun h => h.elim (fun ⟨_, h2⟩ => absurd (h4.symm.trans h2.1) (by decide)) .inr)⟩
        · rename_i h4
          split
          · rename_i hb
            have hnst : n < st.length := by omega
            have wk := walkP_spec st false (decide (a + 1 = s.size)) hw (st.length + 1) nx (stp st n).nx (by have := free_len nx; omega) hl (stp_wf hw hnst).1
            have h := ih _ true la (by rw [walkP_len]; exact hl) (wk.closed hc)
            refine ⟨h.len, h.cl, fun x => (h.on x).trans ?_, h.sm.trans ?_, h.la.imp ?_ ?_⟩
            · rw [split_q (P := fun q => On m q ∧ BM s st a q ∧ Ep st false (decide (a + 1 = s.size)) (stp st q).nx x), wk.iff hc x]
              constructor
              · rintro ((h1 | h1) | h1)
                · exact .inl h1
                · exact .inr (.inl ⟨hon, hb, h1⟩)
                · exact .inr (.inr h1)
              · rintro (h1 | ⟨_, _, h1⟩ | h1)
                · exact .inl (.inl h1)
                · exact .inl (.inr h1)
                · exact .inr h1
            · rw [split_q (P := fun q => On m q ∧ BM s st a q)]
              exact ⟨fun _ => .inr (.inl ⟨hon, hb⟩), fun _ => .inl rfl⟩
            · rintro ⟨h1, h2⟩
              refine ⟨h1, ?_⟩
              rw [split_q (P := fun q => On m q ∧ (stp st q).k = 4)]
              exact fun h => h.elim (fun h => h4 h.2) h2
            · rintro ⟨h1, h2⟩
              refine ⟨h1, ?_⟩
              rw [split_q (P := fun q => On m q ∧ (stp st q).k = 4)]
              exact .inr h2
          · rename_i hb
            exact skipN (fun h => hb h.2) (fun h => h4 h.2) (ih nx sm la hl hc)
    · rename_i hn
      have hno : ∀ q, n ≤ q → ¬ On m q := fun q hq h => by have := on_lt h; omega
      exact ⟨hl, hc, fun x => ⟨.inl, fun h => h.elim id (fun ⟨q, h1, h2, _⟩ => absurd h2 (hno q h1))⟩, ⟨.inl, fun h => h.elim id (fun ⟨q, h1, h2, _⟩ => absurd h2 (hno q h1))⟩, .inl ⟨rfl, fun ⟨q, h1, h2, _⟩ => hno q h1 h2⟩⟩
end Go.Proofs.Ytnjpdhekeffpnaa.Rx
