/- LoopBack, plain: a flat line's directive is the branch's word and text again. -/
import Derived.Test.YtiedbnjoomcdbaaDoorTrP
set_option linter.unusedVariables false
set_option linter.unusedSimpArgs false
namespace Go.Proofs.YtiedbnjoomcdbaaDoor.Tr
open Go.RowKit Go.Proofs.YtiedbnjoomcdbaaDoor.Ba

/-- small letters only, at least one -/
def WdOk (w : ByteArray) : Prop := w.data.toList ≠ [] ∧ ∀ c ∈ w.data.toList, ns c = false
/-- begins with no blank -/
def TxOk (t : ByteArray) : Prop := t.data.toList.dropWhile bl = t.data.toList
def flT (w t : ByteArray) : ByteArray := if t = emp then S (46 :: w.data.toList) else S (46 :: (w.data.toList ++ 32 :: t.data.toList))
theorem bl_ns {c : UInt8} (h : ns c = false) : bl c = false := by
  obtain ⟨h1, h2⟩ := (ns_iff c).1 h
  unfold bl
  rw [show (c == 32) = false from by rw [beq_eq_false_iff_ne]; rintro rfl; revert h1; decide, show (c == 9) = false from by rw [beq_eq_false_iff_ne]; rintro rfl; revert h1; decide]
  rfl
theorem dw_ns {p q : List UInt8} (h0 : p ≠ []) (h : ∀ c ∈ p, ns c = false) : (p ++ q).dropWhile bl = p ++ q := by
  cases p with
  | nil => exact absurd rfl h0
  | cons c p => rw [List.cons_append, List.dropWhile_cons_of_neg (by rw [bl_ns (h c List.mem_cons_self)]; decide)]
theorem S_data (w : ByteArray) : S w.data.toList = w := ba_ext (by rw [data_S])
theorem dirP_fl {w t : ByteArray} (hw : WdOk w) (ht : TxOk t) (a : Int) : dirP ⟨flT w t, a, false⟩ = (w, t) := by
  obtain ⟨h0, h1⟩ := hw
  have key : dirL (flT w t).data.toList false = (w.data.toList, t.data.toList) := by
    unfold flT
    by_cases he : t = emp
    · rw [if_pos he, data_S, he]
      have := dw_ns (q := []) h0 h1
      rw [List.append_nil] at this
      simp only [dirL, Bool.false_eq_true, if_false, if_true, this]
      rw [dirR_all h1, if_neg h0]
      rfl
    · rw [if_neg he, data_S]
      have := dw_ns (q := 32 :: t.data.toList) h0 h1
      simp only [dirL, Bool.false_eq_true, if_false, if_true, this]
      rw [dirR_at h1 (by decide), if_neg h0, if_pos (by decide), List.dropWhile_cons_of_pos (by decide), ht]
  unfold dirP
  simp only [key, S_data]
theorem dirR_ok (u : List UInt8) : (dirR u = ([], [])) ∨ ((dirR u).1 ≠ [] ∧ (∀ c ∈ (dirR u).1, ns c = false) ∧ (dirR u).2.dropWhile bl = (dirR u).2) := by
  have dd : ∀ l : List UInt8, (l.dropWhile bl).dropWhile bl = l.dropWhile bl := fun l => by
    induction l with
    | nil => rfl
    | cons c l ih =>
      cases hc : bl c with
      | true => rw [List.dropWhile_cons_of_pos hc]; exact ih
      | false => rw [List.dropWhile_cons_of_neg (by rw [hc]; decide), List.dropWhile_cons_of_neg (by rw [hc]; decide)]
  rcases split_ns u with h | ⟨p, b, q, rfl, h, hb⟩
  · rw [dirR_all h]
    by_cases h0 : u = []
    · left; rw [if_pos h0]
    · right; rw [if_neg h0]; exact ⟨h0, h, rfl⟩
  · rw [dirR_at h hb]
    by_cases h0 : p = []
    · left; rw [if_pos h0]
    · rw [if_neg h0]
      by_cases hs : stopB b = true
      · right; rw [if_pos hs]; exact ⟨h0, h, dd _⟩
      · left; rw [if_neg hs]
theorem dirP_ok (x : GL) : dirP x = (emp, emp) ∨ (WdOk (dirP x).1 ∧ TxOk (dirP x).2) := by
  have key : dirL x.f0.data.toList x.f2 = ([], []) ∨ ∃ u, dirL x.f0.data.toList x.f2 = dirR u := by
    unfold dirL
    by_cases hc : x.f2 = true
    · left; rw [if_pos hc]
    · rw [if_neg hc]
      cases x.f0.data.toList with
      | nil => left; rfl
      | cons a r =>
        by_cases ha : a = 46
        · right; exact ⟨r.dropWhile bl, by simp only; rw [if_pos ha]⟩
        · left; simp only; rw [if_neg ha]
  unfold dirP
  rcases key with h | ⟨u, h⟩
  · left; rw [h]; rfl
  · rw [h]
    rcases dirR_ok u with h | ⟨h1, h2, h3⟩
    · left; rw [h]; rfl
    · right
      unfold WdOk TxOk
      simp only [data_S]
      exact ⟨⟨h1, h2⟩, h3⟩
end Go.Proofs.YtiedbnjoomcdbaaDoor.Tr
set_option linter.unusedVariables false
set_option linter.unusedSimpArgs false
namespace Go.Proofs.YtiedbnjoomcdbaaDoor.Tr
open Go.RowKit Go.Proofs.YtiedbnjoomcdbaaDoor.Ba

mutual
/-- these lines are these blocks, within d levels -/
inductive G : Nat → List GL → List Nd → Prop where
  | nil (d : Nat) : G d [] []
  | plain (d : Nat) (l : GL) (xs : List GL) (ns : List Nd) : isEnd (dirP l).1 = false → isIf (dirP l).1 = false → (dirP l).1 ≠ wFor → G d xs ns → G d (l :: xs) (plainN l :: ns)
  | cond (d : Nat) (l : GL) (xs : List GL) (brs : List Br) (ys : List GL) (ns : List Nd) : isIf (dirP l).1 = true → GB d (dirP l).1 (dirP l).2 l.f1 xs brs → G (d + 1) ys ns → G (d + 1) (l :: (xs ++ ys)) (.mk 2 l brs [] emp [] :: ns)
  | loop (d : Nat) (l : GL) (xs : List GL) (kids : List Nd) (e : GL) (ys : List GL) (ns : List Nd) : (dirP l).1 = wFor → (forP (dirP l).2).2.2 = true → G d xs kids → (dirP e).1 = wEndfor → (dirP e).2 = emp → G (d + 1) ys ns →
      G (d + 1) (l :: (xs ++ e :: ys)) (.mk 3 l [] (forP (dirP l).2).1 (forP (dirP l).2).2.1 kids :: ns)
/-- what follows a branch's first line -/
inductive GB : Nat → ByteArray → ByteArray → Int → List GL → List Br → Prop where
  | last (d : Nat) (w t : ByteArray) (a : Int) (xs : List GL) (kids : List Nd) (e : GL) : G d xs kids → (dirP e).1 = wEndif → (dirP e).2 = emp → GB d w t a (xs ++ [e]) [.mk w t a kids]
  | next (d : Nat) (w t : ByteArray) (a : Int) (xs : List GL) (kids : List Nd) (e : GL) (ys : List GL) (brs : List Br) : G d xs kids → w ≠ wElse → (dirP e).1 = wElif ∨ ((dirP e).1 = wElse ∧ (dirP e).2 = emp) →
      GB d (dirP e).1 (dirP e).2 e.f1 ys brs → GB d w t a (xs ++ e :: ys) (.mk w t a kids :: brs)
end
theorem at_pre (pre : List GL) (l : GL) (r : List GL) : (pre ++ l :: r).getD pre.length z0 = l := by
  rw [List.getD_eq_getElem?_getD, List.getElem?_append_right (Nat.le_refl _), Nat.sub_self]; rfl
theorem ok0 (i : Nat) : Ok ⟨i, 0, 0⟩ := ⟨rfl, rfl⟩
theorem clo_at (pre : List GL) (e : GL) (rest : List GL) (l0 : GL) (h : (dirP e).2 = emp ∨ (dirP e).1 = wElif) :
    cloP (pre ++ e :: rest) l0 ⟨pre.length, 0, 0⟩ = ⟨e, (dirP e).1, (dirP e).2, true, ⟨pre.length + 1, 0, 0⟩⟩ := by
  have h1 : cloE (pre ++ e :: rest) l0 ⟨pre.length, 0, 0⟩ = ⟨pre.length, 0, 0⟩ := by
    unfold cloE
    rw [if_neg (by simp)]
  unfold cloP
  rw [h1, if_pos (ok0 _)]
  simp only [at_pre]
  rw [if_neg]
  rintro ⟨h2, h3⟩
  rcases h with h | h
  · exact h2 h
  · exact h3 h
noncomputable def blkD (ls : List GL) : Nat → Nat → St → List Nd → List Nd × St
  | 0 => blkL ls true (fun _ _ s => (plainN z0, s)) (fun _ _ s => (plainN z0, s))
  | d + 1 => blkL ls false (cndP ls (blkP ls d)) (lopP ls (blkP ls d))
theorem blkP_D (ls : List GL) (d : Nat) (s : St) : blkP ls d s = blkD ls d (ls.length + 1) s [] := by
  cases d <;> rfl
def Stp (rest : List GL) : Prop := ∀ e r, rest = e :: r → isEnd (dirP e).1 = true
theorem if_end {w : ByteArray} (h : isIf w = true) : isEnd w = false := by
  unfold isIf at h
  simp only [Bool.or_eq_true, decide_eq_true_eq] at h
  rcases h with (((h | h) | h) | h) | h <;> subst h <;> decide
theorem blkD_stop (ls pre rest : List GL) (h : ls = pre ++ rest) (hs : Stp rest) (d n : Nat) (hn : 0 < n) (out : List Nd) : blkD ls d n ⟨pre.length, 0, 0⟩ out = (out, ⟨pre.length, 0, 0⟩) := by
  obtain ⟨m, rfl⟩ : ∃ m, n = m + 1 := ⟨n - 1, by omega⟩
  have key : ∀ top cnd lop, blkL ls top cnd lop (m + 1) ⟨pre.length, 0, 0⟩ out = (out, ⟨pre.length, 0, 0⟩) := fun top cnd lop => by
    rw [blkL]
    cases rest with
    | nil => rw [if_neg (by rw [h]; simp)]
    | cons e r =>
      rw [h, if_pos ⟨ok0 _, by simp⟩, at_pre, if_pos (hs e r rfl)]
  cases d with
  | zero => exact key _ _ _
  | succ d => exact key _ _ _
theorem blkD_plain (ls pre : List GL) (l : GL) (r : List GL) (h : ls = pre ++ l :: r) (h1 : isEnd (dirP l).1 = false) (h2 : isIf (dirP l).1 = false) (h3 : (dirP l).1 ≠ wFor) (d n : Nat) (out : List Nd) :
    blkD ls d (n + 1) ⟨pre.length, 0, 0⟩ out = blkD ls d n ⟨pre.length + 1, 0, 0⟩ (out ++ [plainN l]) := by
  have key : ∀ top cnd lop, blkL ls top cnd lop (n + 1) ⟨pre.length, 0, 0⟩ out = blkL ls top cnd lop n ⟨pre.length + 1, 0, 0⟩ (out ++ [plainN l]) := fun top cnd lop => by
    have hn : ¬ (isIf (dirP l).1 = true ∨ (dirP l).1 = wFor) := by
      rintro (h4 | h4)
      · rw [h2] at h4; cases h4
      · exact h3 h4
    rw [blkL, h, if_pos ⟨ok0 _, by simp⟩, at_pre, if_neg (by rw [h1]; decide), if_neg hn]
  cases d with
  | zero => exact key _ _ _
  | succ d => exact key _ _ _
theorem blkD_open (ls pre : List GL) (l : GL) (r : List GL) (h : ls = pre ++ l :: r) (ho : isIf (dirP l).1 = true ∨ (dirP l).1 = wFor) (d n : Nat) (out : List Nd) (x : Nd) (s : St)
    (hx : (if isIf (dirP l).1 = true then cndP ls (blkP ls d) l (dirP l) ⟨pre.length + 1, 0, 0⟩ else lopP ls (blkP ls d) l (dirP l) ⟨pre.length + 1, 0, 0⟩) = (x, s)) :
    blkD ls (d + 1) (n + 1) ⟨pre.length, 0, 0⟩ out = blkD ls (d + 1) n s (out ++ [x]) := by
  have he : isEnd (dirP l).1 = false := by
    rcases ho with h | h
    · exact if_end h
    · rw [h]; decide
  show blkL ls false (cndP ls (blkP ls d)) (lopP ls (blkP ls d)) (n + 1) _ _ = blkL ls false (cndP ls (blkP ls d)) (lopP ls (blkP ls d)) n _ _
  have hg : ls.getD pre.length z0 = l := by rw [h, at_pre]
  rw [blkL, if_pos ⟨ok0 _, by rw [h]; simp⟩]
  simp only [hg]
  rw [if_neg (by rw [he]; decide), if_pos ho, if_neg (by decide)]
  by_cases hi : isIf (dirP l).1 = true
  · rw [if_pos hi] at hx ⊢
    rw [hx]
  · rw [if_neg hi] at hx ⊢
    rw [hx]
theorem for_if : isIf wFor = false := by decide
theorem len_eq {pre : List GL} (l : GL) : (pre ++ [l]).length = pre.length + 1 := by simp
mutual
theorem G.reads : ∀ {d : Nat} {xs : List GL} {ns : List Nd}, G d xs ns → ∀ (ls pre rest : List GL), ls = pre ++ (xs ++ rest) → Stp rest → ∀ (n : Nat) (out : List Nd), xs.length < n →
    blkD ls d n ⟨pre.length, 0, 0⟩ out = (out ++ ns, ⟨pre.length + xs.length, 0, 0⟩)
  | _, _, _, .nil d, ls, pre, rest, h, hs, n, out, hn => by rw [List.append_nil]; exact blkD_stop ls pre rest h hs d n (by simpa using hn) out
  | _, _, _, .plain d l xs ns h1 h2 h3 hk, ls, pre, rest, h, hs, n, out, hn => by
    obtain ⟨m, rfl⟩ : ∃ m, n = m + 1 := ⟨n - 1, by simp at hn; omega⟩
    rw [blkD_plain ls pre l (xs ++ rest) (by simpa using h) h1 h2 h3]
    have := hk.reads ls (pre ++ [l]) rest (by simpa using h) hs m (out ++ [plainN l]) (by simpa using hn)
    rw [len_eq] at this
    rw [this]
    simp [Nat.add_assoc, Nat.add_comm 1]
  | _, _, _, .cond d l xs brs ys ns hi hb hk, ls, pre, rest, h, hs, n, out, hn => by
    obtain ⟨m, rfl⟩ : ∃ m, n = m + 1 := ⟨n - 1, by simp at hn; omega⟩
    have hb := hb.reads ls (pre ++ [l]) (ys ++ rest) (by simpa using h) l (ls.length + 2) [] (by rw [h]; simp; omega)
    rw [len_eq] at hb
    rw [blkD_open ls pre l (xs ++ ys ++ rest) (by simpa using h) (.inl hi) d m out (.mk 2 l brs [] emp []) ⟨pre.length + 1 + xs.length, 0, 0⟩ (by rw [if_pos hi]; unfold cndP; rw [hb]; rfl)]
    have := hk.reads ls (pre ++ l :: xs) rest (by simpa using h) hs m (out ++ [.mk 2 l brs [] emp []]) (by simp at hn; omega)
    rw [show (pre ++ l :: xs).length = pre.length + 1 + xs.length by simp; omega] at this
    rw [this]
    simp [Nat.add_assoc, Nat.add_comm 1]
  | _, _, _, .loop d l xs kids e ys ns hw hf hk he1 he2 hk2, ls, pre, rest, h, hs, n, out, hn => by
    obtain ⟨m, rfl⟩ : ∃ m, n = m + 1 := ⟨n - 1, by simp at hn; omega⟩
    have hb := hk.reads ls (pre ++ [l]) (e :: (ys ++ rest)) (by simpa using h) (fun e' r' hr => by cases hr; rw [he1]; decide) (ls.length + 1) [] (by rw [h]; simp; omega)
    rw [len_eq, ← blkP_D, List.nil_append] at hb
    have hc := clo_at (pre ++ l :: xs) e (ys ++ rest) l (.inl he2)
    rw [show (pre ++ l :: xs).length = pre.length + 1 + xs.length by simp; omega, show pre ++ l :: xs ++ e :: (ys ++ rest) = ls by rw [h]; simp] at hc
    have hl : lopP ls (blkP ls d) l (dirP l) ⟨pre.length + 1, 0, 0⟩ = (.mk 3 l [] (forP (dirP l).2).1 (forP (dirP l).2).2.1 kids, ⟨pre.length + 1 + xs.length + 1, 0, 0⟩) := by
      unfold lopP
      rw [if_pos hf, hb]
      simp only [hc]
      rw [if_neg (fun q => q.2 he1)]
    rw [blkD_open ls pre l (xs ++ e :: ys ++ rest) (by simpa using h) (.inr hw) d m out (.mk 3 l [] (forP (dirP l).2).1 (forP (dirP l).2).2.1 kids) ⟨pre.length + 1 + xs.length + 1, 0, 0⟩ (by rw [if_neg (by rw [hw, for_if]; decide)]; exact hl)]
    have := hk2.reads ls (pre ++ l :: (xs ++ [e])) rest (by simpa using h) hs m (out ++ [.mk 3 l [] (forP (dirP l).2).1 (forP (dirP l).2).2.1 kids]) (by simp at hn; omega)
    rw [show (pre ++ l :: (xs ++ [e])).length = pre.length + 1 + xs.length + 1 by simp; omega] at this
    rw [this]
    simp [Nat.add_assoc, Nat.add_comm 1]
    omega
theorem GB.reads : ∀ {d : Nat} {w t : ByteArray} {a : Int} {xs : List GL} {brs : List Br}, GB d w t a xs brs → ∀ (ls pre rest : List GL), ls = pre ++ (xs ++ rest) → ∀ (l0 : GL) (n : Nat) (out : List Br), xs.length < n →
    cndL ls (blkP ls d) l0 n w t a out ⟨pre.length, 0, 0⟩ = (out ++ brs, ⟨pre.length + xs.length, 0, 0⟩)
  | _, _, _, _, _, _, .last d w t a xs kids e hk he1 he2, ls, pre, rest, h, l0, n, out, hn => by
    obtain ⟨m, rfl⟩ : ∃ m, n = m + 1 := ⟨n - 1, by omega⟩
    have hb := hk.reads ls pre (e :: rest) (by simpa using h) (fun e' r' hr => by cases hr; rw [he1]; decide) (ls.length + 1) [] (by rw [h]; simp; omega)
    rw [← blkP_D, List.nil_append] at hb
    have hc := clo_at (pre ++ xs) e rest l0 (.inl he2)
    rw [show (pre ++ xs).length = pre.length + xs.length by simp, show pre ++ xs ++ e :: rest = ls by rw [h]; simp] at hc
    rw [cndL, hb]
    simp only [hc]
    rw [if_pos (.inr he1)]
    simp [Nat.add_assoc]
  | _, _, _, _, _, _, .next d w t a xs kids e ys brs hk hw he hb2, ls, pre, rest, h, l0, n, out, hn => by
    obtain ⟨m, rfl⟩ : ∃ m, n = m + 1 := ⟨n - 1, by omega⟩
    have hE : isEnd (dirP e).1 = true := by
      rcases he with he | ⟨he, _⟩ <;> rw [he] <;> decide
    have hb := hk.reads ls pre (e :: (ys ++ rest)) (by simpa using h) (fun e' r' hr => by cases hr; exact hE) (ls.length + 1) [] (by rw [h]; simp; omega)
    rw [← blkP_D, List.nil_append] at hb
    have hc := clo_at (pre ++ xs) e (ys ++ rest) l0 (by rcases he with he | ⟨_, he⟩; exact .inr he; exact .inl he)
    rw [show (pre ++ xs).length = pre.length + xs.length by simp, show pre ++ xs ++ e :: (ys ++ rest) = ls by rw [h]; simp] at hc
    have h1 : (dirP e).1 ≠ wEndif := by rcases he with he | ⟨he, _⟩ <;> rw [he] <;> decide
    have h2 : (dirP e).1 ≠ wEndfor := by rcases he with he | ⟨he, _⟩ <;> rw [he] <;> decide
    have := hb2.reads ls (pre ++ (xs ++ [e])) rest (by simpa using h) l0 m (out ++ [.mk w t a kids]) (by simp at hn; omega)
    rw [show (pre ++ (xs ++ [e])).length = pre.length + xs.length + 1 by simp; omega] at this
    rw [cndL, hb]
    simp only [hc]
    rw [if_neg (by rintro (q | q); exact absurd q (by decide); exact h1 q), if_neg (by rintro (q | q); exact h2 q; exact hw q), this]
    simp [Nat.add_assoc, Nat.add_comm 1]
end
end Go.Proofs.YtiedbnjoomcdbaaDoor.Tr
set_option linter.unusedVariables false
set_option linter.unusedSimpArgs false
namespace Go.Proofs.YtiedbnjoomcdbaaDoor.Tr
open Go.RowKit Go.Proofs.YtiedbnjoomcdbaaDoor.Ba

def tEndif : ByteArray := ⟨#[46, 101, 110, 100, 105, 102]⟩
def tEndfor : ByteArray := ⟨#[46, 101, 110, 100, 102, 111, 114]⟩
def All2 {α β : Type} (R : α → β → Prop) : List α → List β → Prop
  | [], [] => True
  | a :: l, b :: m => R a b ∧ All2 R l m
  | _, _ => False
def flB (fl : List Nd → List GL) (b : Br) : List GL := ⟨flT (brF b).1 (brF b).2.1, (brF b).2.2.1, false⟩ :: fl (brF b).2.2.2
def lnF (x : Nd) : GL := ⟨(ndF x).2.1, (ndF x).2.2.1, (ndF x).2.2.2.1⟩
def flN (fl : List Nd → List GL) (x : Nd) : List GL :=
  if (ndF x).1 = 1 then [lnF x] else if (ndF x).1 = 2 then (ndF x).2.2.2.2.1.flatMap (flB fl) ++ [⟨tEndif, (lnF x).f1, false⟩]
  else lnF x :: (fl (ndF x).2.2.2.2.2.2.2 ++ [⟨tEndfor, (lnF x).f1, false⟩])
/-- the flat lines of blocks -/
def flD : Nat → List Nd → List GL
  | 0 => fun _ => []
  | d + 1 => fun l => l.flatMap (flN (flD d))
def EqB (eq : List Nd → List Nd → Prop) (b c : Br) : Prop := (brF b).1 = (brF c).1 ∧ (brF b).2.1 = (brF c).2.1 ∧ eq (brF b).2.2.2 (brF c).2.2.2
structure EqN (eq : List Nd → List Nd → Prop) (x y : Nd) : Prop where
  k : (ndF x).1 = (ndF y).1
  l : (ndF x).1 ≠ 2 → (ndF x).2.1 = (ndF y).2.1 ∧ (ndF x).2.2.2.1 = (ndF y).2.2.2.1
  b : All2 (EqB eq) (ndF x).2.2.2.2.1 (ndF y).2.2.2.2.1
  n : (ndF x).2.2.2.2.2.1 = (ndF y).2.2.2.2.2.1
  li : (ndF x).2.2.2.2.2.2.1 = (ndF y).2.2.2.2.2.2.1
  ks : eq (ndF x).2.2.2.2.2.2.2 (ndF y).2.2.2.2.2.2.2
/-- the same blocks, but for numbers and the lines of conditions -/
def EqD : Nat → List Nd → List Nd → Prop
  | 0 => fun l m => l = [] ∧ m = []
  | d + 1 => All2 (EqN (EqD d))
theorem eq_nil : ∀ d, EqD d [] []
  | 0 => ⟨rfl, rfl⟩
  | d + 1 => trivial
theorem wd_of {s : List UInt8} (h0 : s ≠ []) (h : s.all (fun c => !ns c) = true) : WdOk (S s) := by
  unfold WdOk
  rw [data_S]
  exact ⟨h0, fun c hc => by have := List.all_eq_true.1 h c hc; simpa using this⟩
theorem dir_endif (a : Int) : dirP ⟨tEndif, a, false⟩ = (wEndif, emp) :=
  dirP_fl (w := wEndif) (t := emp) (wd_of (s := [101, 110, 100, 105, 102]) (by decide) (by decide)) rfl a
theorem dir_endfor (a : Int) : dirP ⟨tEndfor, a, false⟩ = (wEndfor, emp) :=
  dirP_fl (w := wEndfor) (t := emp) (wd_of (s := [101, 110, 100, 102, 111, 114]) (by decide) (by decide)) rfl a
theorem dirP_again {e : GL} (h : (dirP e).1 ≠ emp) (a : Int) : dirP ⟨flT (dirP e).1 (dirP e).2, a, false⟩ = dirP e := by
  rcases dirP_ok e with h2 | ⟨h1, h2⟩
  · exact absurd (by rw [h2]) h
  · rw [dirP_fl h1 h2]
theorem if_emp {w : ByteArray} (h : isIf w = true) : w ≠ emp := by
  rintro rfl; revert h; decide
mutual
theorem G.flat : ∀ {d : Nat} {xs : List GL} {ns : List Nd}, G d xs ns → ∃ ns', G d (flD (d + 1) ns) ns' ∧ EqD (d + 1) ns ns'
  | _, _, _, .nil d => ⟨[], .nil d, trivial⟩
  | _, _, _, .plain d l xs ns h1 h2 h3 hk => by
    obtain ⟨ns', g, q⟩ := hk.flat
    exact ⟨plainN l :: ns', G.plain d l _ _ h1 h2 h3 g, ⟨⟨rfl, fun _ => ⟨rfl, rfl⟩, trivial, rfl, rfl, eq_nil d⟩, q⟩⟩
  | _, _, _, .cond d l xs brs ys ns hi hb hk => by
    obtain ⟨ns', g, q⟩ := hk.flat
    obtain ⟨X, brs', e, gb, qb⟩ := hb.flat l.f1
    have hd := dirP_again (if_emp hi) l.f1
    have e2 : flD (d + 1 + 1) (Nd.mk 2 l brs [] emp [] :: ns) = ⟨flT (dirP l).1 (dirP l).2, l.f1, false⟩ :: (X ++ flD (d + 1 + 1) ns) := by
      show (brs.flatMap (flB (flD (d + 1))) ++ [⟨tEndif, l.f1, false⟩]) ++ flD (d + 1 + 1) ns = _
      rw [e]; rfl
    rw [e2]
    refine ⟨_, G.cond d ⟨flT (dirP l).1 (dirP l).2, l.f1, false⟩ X brs' _ ns' (by rw [hd]; exact hi) (by rw [hd]; exact gb) g, ⟨rfl, fun h => absurd rfl h, qb, rfl, rfl, eq_nil _⟩, q⟩
  | _, _, _, .loop d l xs kids e ys ns hw hf hk he1 he2 hk2 => by
    obtain ⟨ns', g, q⟩ := hk2.flat
    obtain ⟨ks', g1, q1⟩ := hk.flat
    have e2 : flD (d + 1 + 1) (Nd.mk 3 l [] (forP (dirP l).2).1 (forP (dirP l).2).2.1 kids :: ns) = l :: (flD (d + 1) kids ++ ⟨tEndfor, l.f1, false⟩ :: flD (d + 1 + 1) ns) := by
      show (l :: (flD (d + 1) kids ++ [⟨tEndfor, l.f1, false⟩])) ++ flD (d + 1 + 1) ns = _
      simp
    rw [e2]
    refine ⟨_, G.loop d l _ ks' ⟨tEndfor, l.f1, false⟩ _ ns' hw hf g1 (by rw [dir_endfor]) (by rw [dir_endfor]) g, ⟨rfl, fun _ => ⟨rfl, rfl⟩, trivial, rfl, rfl, q1⟩, q⟩
theorem GB.flat : ∀ {d : Nat} {w t : ByteArray} {a : Int} {xs : List GL} {brs : List Br}, GB d w t a xs brs → ∀ z : Int, ∃ X brs', brs.flatMap (flB (flD (d + 1))) ++ [⟨tEndif, z, false⟩] = ⟨flT w t, a, false⟩ :: X ∧ GB d w t a X brs' ∧ All2 (EqB (EqD (d + 1))) brs brs'
  | _, _, _, _, _, _, .last d w t a xs kids e hk he1 he2, z => by
    obtain ⟨ks', g1, q1⟩ := hk.flat
    refine ⟨flD (d + 1) kids ++ [⟨tEndif, z, false⟩], [.mk w t a ks'], ?_, GB.last d w t a _ ks' ⟨tEndif, z, false⟩ g1 (by rw [dir_endif]) (by rw [dir_endif]), ⟨rfl, rfl, q1⟩, trivial⟩
    simp [flB, brF]
  | _, _, _, _, _, _, .next d w t a xs kids e ys brs hk hw he hb2, z => by
    obtain ⟨ks', g1, q1⟩ := hk.flat
    obtain ⟨X, brs', h, gb, qb⟩ := hb2.flat z
    have hd := dirP_again (e := e) (by rcases he with he | ⟨he, _⟩ <;> rw [he] <;> decide) e.f1
    refine ⟨flD (d + 1) kids ++ ⟨flT (dirP e).1 (dirP e).2, e.f1, false⟩ :: X, .mk w t a ks' :: brs', ?_, GB.next d w t a _ ks' ⟨flT (dirP e).1 (dirP e).2, e.f1, false⟩ X brs' g1 hw (by rw [hd]; exact he) (by rw [hd]; exact gb), ⟨rfl, rfl, q1⟩, qb⟩
    rw [← h]
    simp [flB, brF]
end
end Go.Proofs.YtiedbnjoomcdbaaDoor.Tr
set_option linter.unusedVariables false
set_option linter.unusedSimpArgs false
namespace Go.Proofs.YtiedbnjoomcdbaaDoor.Tr
open Go.RowKit Go.Proofs.YtiedbnjoomcdbaaDoor.Ba

def sg0 (ls : List GL) (i j : Nat) : List GL := (ls.take j).drop i
theorem sg0_self (ls : List GL) (i : Nat) : sg0 ls i i = [] := by
  unfold sg0
  rw [List.drop_eq_nil_of_le (by simp; omega)]
theorem sg0_app (ls : List GL) {i j k : Nat} (hij : i ≤ j) (hjk : j ≤ k) (h : k ≤ ls.length) : sg0 ls i k = sg0 ls i j ++ sg0 ls j k := by
  unfold sg0
  have e : ls.take k = ls.take j ++ (ls.take k).drop j := by
    have := (List.take_append_drop j (ls.take k)).symm
    rw [List.take_take, Nat.min_eq_left hjk] at this
    exact this
  conv => lhs; rw [e]
  rw [List.drop_append_of_le_length (by rw [List.length_take, Nat.min_eq_left (by omega)]; exact hij)]
theorem sg0_one (ls : List GL) {j : Nat} (h : j < ls.length) : sg0 ls j (j + 1) = [ls.getD j z0] := by
  unfold sg0
  rw [List.take_add_one, List.drop_append_of_le_length (by rw [List.length_take]; omega), List.drop_eq_nil_of_le (by rw [List.length_take]; omega), List.getD_eq_getElem?_getD, List.getElem?_eq_getElem h]
  rfl
theorem sg0_cons (ls : List GL) {i k : Nat} (h : i < k) (hk : k ≤ ls.length) : sg0 ls i k = ls.getD i z0 :: sg0 ls (i + 1) k := by
  rw [sg0_app ls (Nat.le_succ i) h hk, sg0_one ls (by omega)]; rfl
theorem wr_no {e a : Int} {s : St} (he : e ≠ 0) : ¬ Ok (wr e a s) := by
  unfold wr
  split
  · intro h; exact he h.1
  · rename_i h; exact h
theorem blkL_ok2 {ls : List GL} (top : Bool) (cnd lop : GL → ByteArray × ByteArray → St → Nd × St) : ∀ n s out, Ok (blkL ls top cnd lop n s out).2 → Ok s
  | 0, s, out, h => by rw [blkL] at h; exact h
  | n + 1, s, out, h => by
    by_cases hk : Ok s
    · exact hk
    · rw [blkL, if_neg (fun h2 => hk h2.1)] at h
      exact absurd h hk
structure SG (ls : List GL) (d : Nat) (bl : St → List Nd × St) : Prop where
  g : ∀ s, s.i ≤ ls.length → Ok (bl s).2 → G d (sg0 ls s.i (bl s).2.i) (bl s).1
  stop : ∀ s, s.i ≤ ls.length → Ok (bl s).2 → (bl s).2.i < ls.length → isEnd (dirP (ls.getD (bl s).2.i z0)).1 = true
  fwd : Fwd ls bl
  ok : ∀ s, Ok (bl s).2 → Ok s
structure SE (ls : List GL) (d : Nat) (P : ByteArray → Prop) (rd : GL → ByteArray × ByteArray → St → Nd × St) : Prop where
  g : ∀ l s, P (dirP l).1 → s.i ≤ ls.length → Ok (rd l (dirP l) s).2 → ∀ ys ns, G (d + 1) ys ns → G (d + 1) (l :: (sg0 ls s.i (rd l (dirP l) s).2.i ++ ys)) ((rd l (dirP l) s).1 :: ns)
  fwd : ∀ l dd s, s.i ≤ ls.length → s.i ≤ (rd l dd s).2.i ∧ (rd l dd s).2.i ≤ ls.length
theorem clo_ok {ls : List GL} {l0 : GL} {s : St} (h : s.i ≤ ls.length) (hk : Ok (cloP ls l0 s).s) : s.i < ls.length ∧ Ok s ∧ ((dirP (ls.getD s.i z0)).2 = emp ∨ (dirP (ls.getD s.i z0)).1 = wElif) ∧
    cloP ls l0 s = ⟨ls.getD s.i z0, (dirP (ls.getD s.i z0)).1, (dirP (ls.getD s.i z0)).2, true, ⟨s.i + 1, 0, 0⟩⟩ := by
  unfold cloP at hk ⊢
  by_cases he : Ok (cloE ls l0 s)
  · obtain ⟨h1, h2⟩ := cloE_ok ls he h
    rw [if_pos he] at hk ⊢
    simp only at hk
    by_cases q : (dirP (ls.getD s.i z0)).2 ≠ emp ∧ (dirP (ls.getD s.i z0)).1 ≠ wElif
    · rw [if_pos q] at hk
      exact absurd hk.1 (by simp only; decide)
    · refine ⟨h1, h2, ?_, by rw [if_neg q]⟩
      by_cases q1 : (dirP (ls.getD s.i z0)).2 = emp
      · exact .inl q1
      · exact .inr (Classical.byContradiction fun q2 => q ⟨q1, q2⟩)
  · rw [if_neg he] at hk
    exact absurd hk he
theorem blkL_G {ls : List GL} (d : Nat) (top : Bool) (cnd lop : GL → ByteArray × ByteArray → St → Nd × St) (d' : Nat) (hd : top = false → d' = d + 1) (hc : top = false → SE ls d (fun w => isIf w = true) cnd) (hl : top = false → SE ls d (fun w => w = wFor) lop) :
    ∀ n s out, s.i ≤ ls.length → ls.length < s.i + n → (s.i ≤ (blkL ls top cnd lop n s out).2.i ∧ (blkL ls top cnd lop n s out).2.i ≤ ls.length) ∧
      (Ok (blkL ls top cnd lop n s out).2 → (∃ ns, (blkL ls top cnd lop n s out).1 = out ++ ns ∧ G d' (sg0 ls s.i (blkL ls top cnd lop n s out).2.i) ns) ∧
        ((blkL ls top cnd lop n s out).2.i < ls.length → isEnd (dirP (ls.getD (blkL ls top cnd lop n s out).2.i z0)).1 = true))
  | 0, s, out, h, hn => by omega
  | n + 1, s, out, h, hn => by
    rw [blkL]
    by_cases hk : Ok s ∧ s.i < ls.length
    · rw [if_pos hk]
      by_cases hE : isEnd (dirP (ls.getD s.i z0)).1 = true
      · rw [if_pos hE]
        exact ⟨⟨Nat.le_refl _, h⟩, fun _ => ⟨⟨[], (List.append_nil _).symm, by simp only; rw [sg0_self]; exact .nil _⟩, fun _ => hE⟩⟩
      · rw [if_neg hE]
        by_cases hO : isIf (dirP (ls.getD s.i z0)).1 = true ∨ (dirP (ls.getD s.i z0)).1 = wFor
        · rw [if_pos hO]
          cases top with
          | true =>
            rw [if_pos rfl]
            exact ⟨by simp only [wr_i]; exact ⟨Nat.le_refl _, h⟩, fun hok => absurd hok (wr_no (by decide))⟩
          | false =>
            rw [if_neg (by decide)]
            have key : ∀ P rd, SE ls d P rd → P (dirP (ls.getD s.i z0)).1 → ∀ r, rd (ls.getD s.i z0) (dirP (ls.getD s.i z0)) ⟨s.i + 1, s.e, s.a⟩ = r → ((s.i ≤ (blkL ls false cnd lop n r.2 (out ++ [r.1])).2.i ∧ (blkL ls false cnd lop n r.2 (out ++ [r.1])).2.i ≤ ls.length) ∧
                (Ok (blkL ls false cnd lop n r.2 (out ++ [r.1])).2 → (∃ ns, (blkL ls false cnd lop n r.2 (out ++ [r.1])).1 = out ++ ns ∧ G d' (sg0 ls s.i (blkL ls false cnd lop n r.2 (out ++ [r.1])).2.i) ns) ∧
                  ((blkL ls false cnd lop n r.2 (out ++ [r.1])).2.i < ls.length → isEnd (dirP (ls.getD (blkL ls false cnd lop n r.2 (out ++ [r.1])).2.i z0)).1 = true))) := by
              intro P rd he hP r hr
              have h1 : (⟨s.i + 1, s.e, s.a⟩ : St).i ≤ ls.length := hk.2
              have hf := he.fwd (ls.getD s.i z0) (dirP (ls.getD s.i z0)) _ h1
              have hg := he.g (ls.getD s.i z0) _ hP h1
              rw [hr] at hf hg
              simp only at hf hg
              obtain ⟨g3, g4⟩ := blkL_G d false cnd lop d' hd hc hl n r.2 (out ++ [r.1]) hf.2 (by omega)
              refine ⟨⟨by omega, g3.2⟩, fun hok => ⟨?_, (g4 hok).2⟩⟩
              obtain ⟨ns, e, gg⟩ := (g4 hok).1
              refine ⟨r.1 :: ns, by rw [e]; simp, ?_⟩
              obtain rfl := hd rfl
              rw [sg0_cons ls (by omega) g3.2, sg0_app ls hf.1 g3.1 g3.2]
              exact hg (blkL_ok2 false cnd lop _ _ _ hok) _ _ gg
            by_cases hI : isIf (dirP (ls.getD s.i z0)).1 = true
            · rw [if_pos hI]
              exact key _ cnd (hc rfl) hI _ rfl
            · rw [if_neg hI]
              exact key _ lop (hl rfl) (hO.resolve_left hI) _ rfl
        · rw [if_neg hO]
          obtain ⟨g3, g4⟩ := blkL_G d top cnd lop d' hd hc hl n ⟨s.i + 1, s.e, s.a⟩ (out ++ [plainN (ls.getD s.i z0)]) hk.2 (by simp only; omega)
          simp only at g3
          refine ⟨⟨by omega, g3.2⟩, fun hok => ⟨?_, (g4 hok).2⟩⟩
          obtain ⟨ns, e, gg⟩ := (g4 hok).1
          refine ⟨plainN (ls.getD s.i z0) :: ns, by rw [e]; simp, ?_⟩
          rw [sg0_cons ls (by omega) g3.2]
          exact .plain _ _ _ _ (by simpa using hE) (by simpa using fun h => hO (.inl h)) (fun h => hO (.inr h)) gg
    · rw [if_neg hk]
      exact ⟨⟨Nat.le_refl _, h⟩, fun hok => ⟨⟨[], (List.append_nil _).symm, by simp only; rw [sg0_self]; exact .nil _⟩, fun hlt => absurd ⟨hok, hlt⟩ hk⟩⟩
theorem end_cases {w : ByteArray} (h : isEnd w = true) : w = wElif ∨ w = wElse ∨ w = wEndif ∨ w = wEndfor := by
  unfold isEnd at h
  simp only [Bool.or_eq_true, decide_eq_true_eq] at h
  rcases h with ((h | h) | h) | h
  · exact .inl h
  · exact .inr (.inl h)
  · exact .inr (.inr (.inl h))
  · exact .inr (.inr (.inr h))
theorem cndL_G {ls : List GL} (d : Nat) {bl : St → List Nd × St} (hb : SG ls d bl) (l0 : GL) :
    ∀ n w t a out s, s.i ≤ ls.length → ls.length < s.i + n → Ok (cndL ls bl l0 n w t a out s).2 → Ok s ∧ s.i ≤ (cndL ls bl l0 n w t a out s).2.i ∧ (cndL ls bl l0 n w t a out s).2.i ≤ ls.length ∧ ∃ brs, (cndL ls bl l0 n w t a out s).1 = out ++ brs ∧ GB d w t a (sg0 ls s.i (cndL ls bl l0 n w t a out s).2.i) brs
  | 0, w, t, a, out, s, h, hn, hok => by omega
  | n + 1, w, t, a, out, s, h, hn, hok => by
    have k3 := hb.g s h
    have k4 := hb.stop s h
    have k5 := hb.fwd s h
    have k6 := hb.ok s
    rw [cndL] at hok ⊢
    obtain ⟨X, hX⟩ : ∃ X, bl s = X := ⟨_, rfl⟩
    rw [hX] at k3 k4 k5 k6 hok ⊢
    obtain ⟨kids, s1⟩ := X
    simp only at k3 k4 k5 k6 hok ⊢
    by_cases q1 : (cloP ls l0 s1).ok = false ∨ (cloP ls l0 s1).w = wEndif
    · rw [if_pos q1] at hok ⊢
      obtain ⟨c1, c2, c3, c4⟩ := clo_ok k5.2 hok
      rw [c4] at q1 ⊢
      simp only at q1 ⊢
      have hw := q1.resolve_left (by decide)
      refine ⟨k6 c2, by omega, c1, [.mk w t a kids], rfl, ?_⟩
      rw [sg0_app ls k5.1 (Nat.le_succ s1.i) c1, sg0_one ls c1]
      exact .last d w t a _ kids _ (k3 c2) hw (c3.resolve_right (by rw [hw]; decide))
    · rw [if_neg q1] at hok ⊢
      by_cases q2 : (cloP ls l0 s1).w = wEndfor ∨ w = wElse
      · rw [if_pos q2] at hok
        exact absurd hok (wr_no (by decide))
      · rw [if_neg q2] at hok ⊢
        have ho1 : (cloP ls l0 s1).ok = true := by
          cases h2 : (cloP ls l0 s1).ok with
          | true => rfl
          | false => exact absurd (.inl h2) q1
        have hi1 := (clo_i ls (l0 := l0) k5.2)
        obtain ⟨g1, g2, g3, brs, g4, g5⟩ := cndL_G d hb l0 n (cloP ls l0 s1).w (cloP ls l0 s1).t (cloP ls l0 s1).l.f1 (out ++ [Br.mk w t a kids]) (cloP ls l0 s1).s hi1.2.1 (by rw [hi1.2.2 ho1]; omega) hok
        obtain ⟨c1, c2, c3, c4⟩ := clo_ok k5.2 g1
        rw [c4] at g2 g3 g4 g5 q1 q2 ⊢
        simp only at g2 g3 g4 g5 q1 q2 ⊢
        refine ⟨k6 c2, by omega, g3, .mk w t a kids :: brs, by rw [g4]; simp, ?_⟩
        rw [sg0_app ls k5.1 (show s1.i ≤ _ by omega) g3, sg0_cons ls (show s1.i < _ by omega) g3]
        refine .next d w t a _ kids _ _ brs (k3 c2) (fun h => q2 (.inr h)) ?_ g5
        rcases end_cases (k4 c2 c1) with e | e | e | e
        · exact .inl e
        · exact .inr ⟨e, c3.resolve_right (by rw [e]; decide)⟩
        · exact absurd (.inr e) q1
        · exact absurd (.inl e) q2
theorem cnd_SE {ls : List GL} (d : Nat) {bl : St → List Nd × St} (hb : SG ls d bl) : SE ls d (fun w => isIf w = true) (cndP ls bl) := by
  refine ⟨fun l s hP h hok ys ns hg => ?_, fun l dd s h => cndP_i ls hb.fwd l dd s h⟩
  obtain ⟨_, _, _, brs, e, gb⟩ := cndL_G d hb l (ls.length + 2) (dirP l).1 (dirP l).2 l.f1 [] s h (by omega) hok
  have e2 : (cndP ls bl l (dirP l) s).1 = .mk 2 l brs [] emp [] := by
    unfold cndP
    rw [e]; rfl
  rw [e2]
  exact .cond d l _ brs ys ns hP gb hg
theorem lop_SE {ls : List GL} (d : Nat) {bl : St → List Nd × St} (hb : SG ls d bl) : SE ls d (fun w => w = wFor) (lopP ls bl) := by
  refine ⟨fun l s hP h hok ys ns hg => ?_, fun l dd s h => lopP_i ls hb.fwd l dd s h⟩
  have k3 := hb.g s h
  have k4 := hb.stop s h
  have k5 := hb.fwd s h
  unfold lopP at hok ⊢
  by_cases hf : (forP (dirP l).2).2.2 = true
  · rw [if_pos hf] at hok ⊢
    obtain ⟨X, hX⟩ : ∃ X, bl s = X := ⟨_, rfl⟩
    rw [hX] at k3 k4 k5 hok ⊢
    obtain ⟨kids, s1⟩ := X
    simp only at k3 k4 k5 hok ⊢
    by_cases q : (cloP ls l s1).ok = true ∧ (cloP ls l s1).w ≠ wEndfor
    · rw [if_pos q] at hok
      exact absurd hok (wr_no (by decide))
    · rw [if_neg q] at hok ⊢
      obtain ⟨c1, c2, c3, c4⟩ := clo_ok k5.2 hok
      rw [c4] at q ⊢
      simp only at q ⊢
      have hw : (dirP (ls.getD s1.i z0)).1 = wEndfor := Classical.byContradiction fun h => q ⟨trivial, h⟩
      rw [sg0_app ls k5.1 (Nat.le_succ s1.i) c1, sg0_one ls c1, List.append_assoc]
      exact .loop d l _ kids _ ys ns hP hf (k3 c2) hw (c3.resolve_right (by rw [hw]; decide)) hg
  · rw [if_neg hf] at hok
    exact absurd hok (wr_no (by decide))
theorem SG_of {ls : List GL} (d : Nat) (top : Bool) (cnd lop : GL → ByteArray × ByteArray → St → Nd × St) (d' : Nat) (hd : top = false → d' = d + 1) (hc : top = false → SE ls d (fun w => isIf w = true) cnd) (hl : top = false → SE ls d (fun w => w = wFor) lop) : SG ls d' (fun s => blkL ls top cnd lop (ls.length + 1) s []) := by
  have key := fun (s : St) (h : s.i ≤ ls.length) => blkL_G (ls := ls) d top cnd lop d' hd hc hl (ls.length + 1) s [] h (by omega)
  refine ⟨fun s h hok => ?_, fun s h hok hlt => ((key s h).2 hok).2 hlt, fun s h => (key s h).1, fun s hok => blkL_ok2 top cnd lop _ s _ hok⟩
  obtain ⟨ns, e, g⟩ := ((key s h).2 hok).1
  rw [e]
  exact g
theorem blkP_SG (ls : List GL) : ∀ d, SG ls d (blkP ls d)
  | 0 => by
    rw [blkP]
    exact SG_of 0 true _ _ 0 (fun h => by cases h) (fun h => by cases h) (fun h => by cases h)
  | d + 1 => by
    rw [blkP]
    exact SG_of d false _ _ (d + 1) (fun _ => rfl) (fun _ => cnd_SE d (blkP_SG ls d)) (fun _ => lop_SE d (blkP_SG ls d))
/-- the flat lines of what was read are read again -/
theorem back_law (ls : List GL) (hok : Ok (endS ls)) : ∃ ns', blkP (flD 33 (blkP ls 32 ⟨0, 0, 0⟩).1) 32 ⟨0, 0, 0⟩ = (ns', ⟨(flD 33 (blkP ls 32 ⟨0, 0, 0⟩).1).length, 0, 0⟩) ∧ Ok (endS (flD 33 (blkP ls 32 ⟨0, 0, 0⟩).1)) ∧ EqD 33 (blkP ls 32 ⟨0, 0, 0⟩).1 ns' := by
  have hb := blkP_SG ls 32
  have hf := hb.fwd ⟨0, 0, 0⟩ (Nat.zero_le _)
  unfold endS at hok
  by_cases hlt : (blkP ls 32 ⟨0, 0, 0⟩).2.i < ls.length
  · rw [if_pos hlt] at hok
    exact absurd hok (wr_no (by decide))
  · rw [if_neg hlt] at hok
    obtain ⟨ns', g, q⟩ := (hb.g _ (Nat.zero_le _) hok).flat
    have r := g.reads (flD 33 (blkP ls 32 ⟨0, 0, 0⟩).1) [] [] (by simp) (fun e r h => by cases h) ((flD 33 (blkP ls 32 ⟨0, 0, 0⟩).1).length + 1) [] (Nat.lt_succ_self _)
    rw [← blkP_D] at r
    simp only [List.length_nil, List.nil_append, Nat.zero_add] at r
    refine ⟨ns', r, ?_, q⟩
    unfold endS
    rw [r, if_neg (by simp)]
    exact ok0 _
end Go.Proofs.YtiedbnjoomcdbaaDoor.Tr
