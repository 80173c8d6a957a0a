/- Plain functions for lines: what the program computes, on lists of bytes, and what of them is so. -/
import Derived.Lib.Bytealg
set_option linter.unusedVariables false
set_option linter.unusedSimpArgs false
namespace Go.Proofs.YthkndchbgiimnaaDoor.LP
abbrev B := List UInt8

def bl (c : UInt8) : Bool := c == 32 || c == 9
def rtrim (p : UInt8 → Bool) (l : B) : B := (l.reverse.dropWhile p).reverse
/-- an odd number of strokes at the end -/
def goes (l : B) : Bool := (l.length - (rtrim (fun c => c == 92) l).length) % 2 == 1
/-- a line without its note; h: what stands behind the last sign of a note -/
def plainA (h : B) : B → B
  | [] => h
  | c :: s => if c = 35 then (if goes h = true then h.dropLast ++ 35 :: plainA [] s else h) else plainA (h ++ [c]) s
def plainL (s : B) : B := rtrim bl (plainA [] s)
/-- a text's lines -/
def splitA (h : B) : B → List B
  | [] => [h]
  | c :: s => if c = 10 then h :: splitA [] s else splitA (h ++ [c]) s
def splitL (s : B) : List B := splitA [] s

structure Ln where
  t : B
  at_ : Nat
  c : Bool
  deriving DecidableEq

def untab : B → B
  | [] => []
  | c :: s => if c = 9 then s else c :: s
def isTab : B → Bool
  | [] => false
  | c :: _ => c == 9
def join1 (cmd : Bool) (t n : B) : B := if cmd = true then t ++ 10 :: untab n else t.dropLast ++ 32 :: n.dropWhile bl
/-- lines that go on, put together: the text and the rest of the lines -/
def gather (cmd : Bool) (t : B) : List B → Option (B × List B)
  | [] => if goes t = true then none else some (t, [])
  | n :: r => if goes t = true then gather cmd (join1 cmd t n) r else some (t, n :: r)
theorem gather_le (cmd : Bool) : ∀ (r : List B) (t u : B) (r' : List B), gather cmd t r = some (u, r') → r'.length ≤ r.length
  | [], t, u, r', h => by
    unfold gather at h
    split at h
    · cases h
    · injection h with h; injection h with _ h; subst h; exact Nat.le_refl _
  | n :: r, t, u, r', h => by
    unfold gather at h
    split at h
    · exact Nat.le_succ_of_le (gather_le cmd r _ u r' h)
    · injection h with h; injection h with _ h; subst h; exact Nat.le_refl _
def text (cmd : Bool) (t : B) : B := if cmd = true then t else plainL t
/-- the lines of raw lines; none: the last one goes on -/
def readF : Nat → Nat → List B → Option (List Ln)
  | 0, _, _ => some []
  | _ + 1, _, [] => some []
  | f + 1, k, l :: r =>
    match gather (isTab l) (untab l) r with
    | none => none
    | some (t, r') =>
      match readF f (k + 1 + (r.length - r'.length)) r' with
      | none => none
      | some o => if (text (isTab l) t).all bl = true then some o else some (⟨text (isTab l) t, k + 1, isTab l⟩ :: o)
theorem readF_fuel : ∀ (f g k : Nat) (l : List B), l.length ≤ f → l.length ≤ g → readF f k l = readF g k l
  | 0, 0, _, _, _, _ => rfl
  | 0, g + 1, k, [], _, _ => rfl
  | f + 1, 0, k, [], _, _ => rfl
  | f + 1, g + 1, k, [], _, _ => rfl
  | f + 1, g + 1, k, l :: r, h1, h2 => by
    unfold readF
    cases e : gather (isTab l) (untab l) r with
    | none => rfl
    | some p =>
      obtain ⟨t, r'⟩ := p
      have := gather_le _ _ _ _ _ e
      simp only [List.length_cons] at h1 h2
      simp only []
      rw [readF_fuel f g _ r' (by omega) (by omega)]
/-- without the last line's end -/
def unend (s : B) : B := if s.getLast? = some 10 then s.dropLast else s
def readS (s : B) : Option (List Ln) :=
  if 65536 < s.length then none
  else if s = [] then some []
  else match readF (splitL (unend s)).length 0 (splitL (unend s)) with
    | none => none
    | some o => if o.length ≤ 4096 then some o else none

/-! ### trimming -/
theorem rtrim_snoc (p : UInt8 → Bool) (l : B) (c : UInt8) : rtrim p (l ++ [c]) = if p c = true then rtrim p l else l ++ [c] := by
  unfold rtrim
  rw [List.reverse_append, List.reverse_singleton, List.singleton_append]
  by_cases h : p c = true
  · rw [if_pos h, List.dropWhile_cons_of_pos h]
  · rw [if_neg h, List.dropWhile_cons_of_neg h]; simp
theorem rtrim_last (p : UInt8 → Bool) : ∀ (n : Nat) (l : B), l.length = n → ∀ c, (rtrim p l).getLast? = some c → p c = false
  | 0, l, h, c, hc => by
    have : l = [] := List.length_eq_zero_iff.mp h
    subst this
    simp [rtrim] at hc
  | n + 1, l, h, c, hc => by
    obtain ⟨l', d, rfl⟩ : ∃ l' d, l = l' ++ [d] := ⟨l.dropLast, l.getLast (by intro e; simp [e] at h), (List.dropLast_concat_getLast _).symm⟩
    rw [rtrim_snoc] at hc
    by_cases hp : p d = true
    · rw [if_pos hp] at hc
      exact rtrim_last p n l' (by simp at h; exact h) c hc
    · rw [if_neg hp, List.getLast?_append] at hc
      simp at hc
      subst hc
      simpa using hp
theorem rtrim_id (p : UInt8 → Bool) (l : B) (h : ∀ c, l.getLast? = some c → p c = false) : rtrim p l = l := by
  rcases List.eq_nil_or_concat l with rfl | ⟨l', d, rfl⟩
  · rfl
  · rw [List.concat_eq_append] at h ⊢
    rw [rtrim_snoc, if_neg]
    have := h d (by simp)
    simp [this]
theorem rtrim_nil_iff (p : UInt8 → Bool) : ∀ (n : Nat) (l : B), l.length = n → (rtrim p l = [] ↔ l.all p = true)
  | 0, l, h => by
    have : l = [] := List.length_eq_zero_iff.mp h
    subst this; simp [rtrim]
  | n + 1, l, h => by
    obtain ⟨l', d, rfl⟩ : ∃ l' d, l = l' ++ [d] := ⟨l.dropLast, l.getLast (by intro e; simp [e] at h), (List.dropLast_concat_getLast _).symm⟩
    rw [rtrim_snoc]
    have ih := rtrim_nil_iff p n l' (by simp at h; exact h)
    by_cases hp : p d = true
    · rw [if_pos hp, ih]; simp [hp]
    · rw [if_neg hp]; simp [hp]
theorem dropWhile_nil (p : UInt8 → Bool) : ∀ l : B, l.dropWhile p = [] → ∀ c ∈ l, p c = true
  | [], _, _, hc => by cases hc
  | d :: l, h, c, hc => by
    by_cases hp : p d = true
    · rw [List.dropWhile_cons_of_pos hp] at h
      rcases List.mem_cons.mp hc with rfl | hc
      · exact hp
      · exact dropWhile_nil p l h c hc
    · rw [List.dropWhile_cons_of_neg hp] at h; cases h
/-- blank at both ends, or nothing: nothing is left -/
theorem trim_nil (p : UInt8 → Bool) (l : B) : (rtrim p l).dropWhile p = [] ↔ l.all p = true := by
  constructor
  · intro h
    have h1 : (rtrim p l).all p = true := by
      rw [List.all_eq_true]
      exact dropWhile_nil p _ h
    by_cases h2 : rtrim p l = []
    · exact (rtrim_nil_iff p _ l rfl).mp h2
    · exfalso
      obtain ⟨c, hc⟩ : ∃ c, (rtrim p l).getLast? = some c := ⟨_, List.getLast?_eq_some_getLast h2⟩
      have h3 := rtrim_last p _ l rfl c hc
      have h4 := List.all_eq_true.mp h1 c (List.mem_of_getLast? hc)
      rw [h3] at h4; cases h4
  · intro h
    rw [(rtrim_nil_iff p _ l rfl).mpr h]; rfl
theorem goes_last (l : B) (h : goes l = true) : l.getLast? = some 92 := by
  rcases List.eq_nil_or_concat l with rfl | ⟨l', d, rfl⟩
  · simp [goes, rtrim] at h
  · rw [List.concat_eq_append] at h ⊢
    unfold goes at h
    rw [rtrim_snoc] at h
    by_cases hd : d = 92
    · subst hd; simp
    · rw [if_neg (by simpa using hd)] at h
      simp at h
theorem goes_no (l : B) (h : l.getLast? ≠ some 92) : goes l = false := by
  cases e : goes l
  · rfl
  · exact absurd (goes_last l e) h
theorem goes_one (l : B) (h : l.getLast? ≠ some 92) : goes (l ++ [92]) = true := by
  unfold goes
  rw [rtrim_snoc, if_pos (by rfl), rtrim_id _ l]
  · simp
  · intro c hc
    have : c ≠ 92 := by rintro rfl; exact h hc
    simpa using this

/-! ### numbers rise -/
theorem rise : ∀ (f k : Nat) (l : List B) (o : List Ln), readF f k l = some o →
    (∀ x ∈ o, k < x.at_ ∧ x.t.all bl = false ∧ (x.c = false → ∀ c, x.t.getLast? = some c → bl c = false)) ∧ o.Pairwise (fun a b => a.at_ < b.at_)
  | 0, k, l, o, h => by
    simp only [readF, Option.some.injEq] at h
    subst h
    exact ⟨by simp, List.Pairwise.nil⟩
  | f + 1, k, [], o, h => by
    simp only [readF, Option.some.injEq] at h
    subst h
    exact ⟨by simp, List.Pairwise.nil⟩
  | f + 1, k, l :: r, o, h => by
    unfold readF at h
    cases e : gather (isTab l) (untab l) r with
    | none => rw [e] at h; cases h
    | some p =>
      obtain ⟨t, r'⟩ := p
      rw [e] at h
      simp only [] at h
      cases e2 : readF f (k + 1 + (r.length - r'.length)) r' with
      | none => rw [e2] at h; cases h
      | some o' =>
        rw [e2] at h
        simp only [] at h
        obtain ⟨h1, h2⟩ := rise f _ r' o' e2
        by_cases hb : (text (isTab l) t).all bl = true
        · rw [if_pos hb] at h
          injection h with h; subst h
          exact ⟨fun x hx => ⟨by have := (h1 x hx).1; omega, (h1 x hx).2⟩, h2⟩
        · rw [if_neg hb] at h
          injection h with h; subst h
          refine ⟨?_, List.Pairwise.cons ?_ h2⟩
          · intro x hx
            rcases List.mem_cons.mp hx with rfl | hx
            · refine ⟨Nat.lt_succ_self _, by simpa using hb, ?_⟩
              intro hc c
              have hc' : isTab l = false := hc
              show (text (isTab l) t).getLast? = some c → _
              rw [text, hc']
              simp only [Bool.false_eq_true, if_false, plainL]
              exact rtrim_last bl _ _ rfl c
            · exact ⟨by have := (h1 x hx).1; omega, (h1 x hx).2⟩
          · intro x hx
            have := (h1 x hx).1
            show k + 1 < x.at_
            omega
theorem readF_len : ∀ (f k : Nat) (l : List B) (o : List Ln), readF f k l = some o → o.length ≤ l.length
  | 0, k, l, o, h => by
    simp only [readF, Option.some.injEq] at h
    subst h; simp
  | f + 1, k, [], o, h => by
    simp only [readF, Option.some.injEq] at h
    subst h; simp
  | f + 1, k, l :: r, o, h => by
    unfold readF at h
    cases e : gather (isTab l) (untab l) r with
    | none => rw [e] at h; cases h
    | some p =>
      obtain ⟨t, r'⟩ := p
      rw [e] at h
      simp only [] at h
      have hg := gather_le _ _ _ _ _ e
      cases e2 : readF f (k + 1 + (r.length - r'.length)) r' with
      | none => rw [e2] at h; cases h
      | some o' =>
        rw [e2] at h
        simp only [] at h
        have := readF_len f _ r' o' e2
        by_cases hb : (text (isTab l) t).all bl = true
        · rw [if_pos hb] at h
          injection h with h; subst h
          simp only [List.length_cons]; omega
        · rw [if_neg hb] at h
          injection h with h; subst h
          simp only [List.length_cons]; omega

/-! ### two texts -/
def shift (n : Nat) (x : Ln) : Ln := ⟨x.t, x.at_ + n, x.c⟩
theorem gather_app (cmd : Bool) (s : List B) : ∀ (r : List B) (t u : B) (r' : List B), gather cmd t r = some (u, r') → gather cmd t (r ++ s) = some (u, r' ++ s)
  | [], t, u, r', h => by
    unfold gather at h
    split at h
    · cases h
    · rename_i hg
      injection h with h; injection h with h1 h2; subst h1; subst h2
      cases s with
      | nil => simp [gather, hg]
      | cons n s => simp [gather, hg]
  | n :: r, t, u, r', h => by
    unfold gather at h
    rw [List.cons_append]
    unfold gather
    split at h
    · rename_i hg
      rw [if_pos hg]
      exact gather_app cmd s r _ u r' h
    · rename_i hg
      rw [if_neg hg]
      injection h with h; injection h with h1 h2; subst h1; subst h2
      rfl
theorem readF_shift : ∀ (f k n : Nat) (l : List B), readF f (k + n) l = (readF f k l).map (·.map (shift n))
  | 0, k, n, l => rfl
  | f + 1, k, n, [] => rfl
  | f + 1, k, n, l :: r => by
    unfold readF
    cases e : gather (isTab l) (untab l) r with
    | none => rfl
    | some p =>
      obtain ⟨t, r'⟩ := p
      simp only []
      have ih := readF_shift f (k + 1 + (r.length - r'.length)) n r'
      rw [show k + n + 1 + (r.length - r'.length) = k + 1 + (r.length - r'.length) + n by omega, ih]
      cases e2 : readF f (k + 1 + (r.length - r'.length)) r' with
      | none => rfl
      | some o' =>
        simp only [Option.map_some]
        split
        · rfl
        · simp only [Option.map_some, List.map_cons, shift]
          rw [show k + n + 1 = k + 1 + n by omega]
theorem readF_app (s : List B) (b : List Ln) : ∀ (f k : Nat) (l : List B) (o : List Ln), l.length + s.length ≤ f → readF f k l = some o → readF f (k + l.length) s = some b → readF f k (l ++ s) = some (o ++ b)
  | 0, k, l, o, hf, h, hs => by
    have h1 : l = [] := List.length_eq_zero_iff.mp (by omega)
    have h2 : s = [] := List.length_eq_zero_iff.mp (by omega)
    subst h1; subst h2
    simp only [readF, Option.some.injEq] at h hs
    subst h; subst hs; rfl
  | f + 1, k, [], o, hf, h, hs => by
    simp only [readF, Option.some.injEq] at h
    subst h
    simpa using hs
  | f + 1, k, l :: r, o, hf, h, hs => by
    unfold readF at h
    rw [List.cons_append]
    unfold readF
    cases e : gather (isTab l) (untab l) r with
    | none => rw [e] at h; cases h
    | some p =>
      obtain ⟨t, r'⟩ := p
      rw [e] at h
      rw [gather_app _ s _ _ _ _ e]
      simp only [] at h ⊢
      have hg := gather_le _ _ _ _ _ e
      simp only [List.length_cons] at hf hs
      cases e2 : readF f (k + 1 + (r.length - r'.length)) r' with
      | none => rw [e2] at h; cases h
      | some o' =>
        rw [e2] at h
        simp only [] at h
        have hs' : readF f (k + 1 + (r.length - r'.length) + r'.length) s = some b := by
          rw [show k + 1 + (r.length - r'.length) + r'.length = k + (r.length + 1) by omega, readF_fuel f (f + 1) _ _ (by omega) (by omega)]
          exact hs
        have ih := readF_app s b f (k + 1 + (r.length - r'.length)) r' o' (by omega) e2 hs'
        rw [show (r ++ s).length - (r' ++ s).length = r.length - r'.length by simp only [List.length_append]; omega, ih]
        simp only []
        split at h
        · rename_i hb
          rw [if_pos hb]
          injection h with h; subst h; rfl
        · rename_i hb
          rw [if_neg hb]
          injection h with h; subst h; rfl
theorem splitA_app (t : B) : ∀ (s h : B), splitA h (s ++ 10 :: t) = splitA h s ++ splitA [] t
  | [], h => by simp [splitA]
  | c :: s, h => by
    rw [List.cons_append, splitA, splitA]
    by_cases hc : c = 10
    · rw [if_pos hc, if_pos hc, splitA_app t s []]; rfl
    · rw [if_neg hc, if_neg hc, splitA_app t s _]
theorem splitA_len : ∀ (s h : B), (splitA h s).length = s.count 10 + 1
  | [], h => rfl
  | c :: s, h => by
    unfold splitA
    by_cases hc : c = 10
    · rw [if_pos hc, List.length_cons, splitA_len s [], hc, List.count_cons_self]
    · rw [if_neg hc, splitA_len s _, List.count_cons_of_ne (by exact fun e => hc e)]
theorem unend_end (s : B) : unend (s ++ [10]) = s := by simp [unend]
theorem unend_app (s t : B) (h : t ≠ []) : unend (s ++ t) = s ++ unend t := by
  have : (s ++ t).getLast? = t.getLast? := by
    rw [List.getLast?_append]
    cases e : t.getLast? with
    | none => exact absurd (List.getLast?_eq_none_iff.mp e) h
    | some c => rfl
  unfold unend
  rw [this]
  split
  · rw [List.dropLast_append_of_ne_nil h]
  · rfl
theorem both (s t : B) (a b : List Ln) (hs : (s ++ [10] ++ t).length ≤ 65536) (ha : readS (s ++ [10]) = some a) (hb : readS t = some b) (hl : a.length + b.length ≤ 4096) :
    readS (s ++ [10] ++ t) = some (a ++ b.map (shift ((s ++ [10]).count 10))) := by
  have hne : s ++ [10] ≠ [] := by simp
  have hn : (s ++ [10]).count 10 = (splitL s).length := by rw [splitL, splitA_len, List.count_append]; rfl
  by_cases ht : t = []
  · subst ht
    have : readS ([] : B) = some [] := by unfold readS; simp
    rw [this] at hb
    injection hb with hb; subst hb
    simpa using ha
  · unfold readS at ha hb ⊢
    simp only [List.length_append] at hs
    rw [if_neg (by simp only [List.length_append]; omega), if_neg hne, unend_end] at ha
    rw [if_neg (by omega), if_neg ht] at hb
    rw [if_neg (by simp only [List.length_append]; omega), if_neg (by simp), unend_app _ _ ht]
    have hsp : splitL (s ++ [10] ++ unend t) = splitL s ++ splitL (unend t) := by
      rw [List.append_assoc, List.singleton_append]; exact splitA_app _ _ _
    rw [hsp]
    generalize splitL s = u at *
    generalize splitL (unend t) = v at *
    cases e1 : readF u.length 0 u with
    | none => rw [e1] at ha; cases ha
    | some o1 =>
      rw [e1] at ha
      cases e2 : readF v.length 0 v with
      | none => rw [e2] at hb; cases hb
      | some o2 =>
        rw [e2] at hb
        simp only [] at ha hb
        split at ha
        · injection ha with ha; subst ha
          split at hb
          · injection hb with hb; subst hb
            have e1' : readF (u ++ v).length 0 u = some o1 := by rw [readF_fuel _ u.length _ _ (by simp) (by omega)]; exact e1
            have e2' : readF (u ++ v).length (0 + u.length) v = some (o2.map (shift u.length)) := by
              rw [readF_shift, readF_fuel _ v.length _ _ (by simp) (by omega), e2]; rfl
            have := readF_app v _ (u ++ v).length 0 u o1 (by simp) e1' e2'
            rw [this]
            simp only [List.length_append, List.length_map]
            rw [if_pos hl, hn]
          · cases hb
        · cases ha

/-! ### lines that were written are read again -/
def replL (l : B) : B := l.flatMap fun x => if x = 35 then [92, 35] else [x]
def lineOf (x : Ln) : B := if x.c = true then 9 :: x.t else replL x.t
def writeL (o : List Ln) : B := o.flatMap fun x => lineOf x ++ [10]
def number : Nat → List Ln → List Ln
  | _, [] => []
  | k, x :: o => ⟨x.t, k + 1, x.c⟩ :: number (k + 1) o
def noSt (l : B) : Prop := ∀ p q : B, l ≠ p ++ 92 :: 35 :: q
structure okL (x : Ln) : Prop where
  blank : x.t.all bl = false
  last : x.t.getLast? ≠ some 92
  nl : ∀ c ∈ x.t, c ≠ 10
  st : x.c = false → noSt x.t
  tab : x.c = false → x.t.head? ≠ some 9
  right : x.c = false → ∀ c, x.t.getLast? = some c → bl c = false
theorem noSt_tail (p l : B) (h : noSt (p ++ l)) : noSt l := fun a b e => h (p ++ a) b (by rw [e, List.append_assoc])
theorem plain_repl : ∀ (t h : B), noSt (h ++ t) → plainA h (replL t) = h ++ t
  | [], h, _ => by simp [replL, plainA]
  | c :: t, h, hs => by
    by_cases hc : c = 35
    · subst hc
      have hl : h.getLast? ≠ some 92 := by
        intro e
        obtain ⟨l', rfl⟩ : ∃ l', h = l' ++ [92] := by
          rcases List.eq_nil_or_concat h with rfl | ⟨l', d, rfl⟩
          · simp at e
          · rw [List.concat_eq_append] at e ⊢
            simp at e
            exact ⟨l', by rw [e]⟩
        exact hs l' t (by simp)
      have e : replL (35 :: t) = 92 :: 35 :: replL t := by simp [replL]
      have g := goes_one h hl
      rw [e, plainA, if_neg (by decide), plainA, if_pos rfl, if_pos g, plain_repl t [] (noSt_tail (h ++ [35]) t (by simpa using hs))]
      simp
    · have e : replL (c :: t) = c :: replL t := by simp [replL, hc]
      rw [e, plainA, if_neg hc, plain_repl t (h ++ [c]) (by simpa using hs)]
      simp
theorem repl_last (t : B) : (replL t).getLast? = t.getLast? := by
  rcases List.eq_nil_or_concat t with rfl | ⟨l', d, rfl⟩
  · rfl
  · rw [List.concat_eq_append]
    unfold replL
    rw [List.flatMap_append, List.flatMap_singleton, List.getLast?_append, List.getLast?_append]
    by_cases hd : d = 35
    · subst hd; simp
    · simp [hd]
theorem repl_head (t : B) (h : t.head? ≠ some 9) : isTab (replL t) = false := by
  cases t with
  | nil => rfl
  | cons c t =>
    by_cases hc : c = 35
    · subst hc; rfl
    · have e : replL (c :: t) = c :: replL t := by simp [replL, hc]
      rw [e]
      show (c == 9) = false
      simp only [List.head?_cons, ne_eq, Option.some.injEq] at h
      simpa using h
theorem untab_no (l : B) (h : isTab l = false) : untab l = l := by
  cases l with
  | nil => rfl
  | cons c l =>
    have : ¬ c = 9 := by simpa [isTab] using h
    show (if c = 9 then l else c :: l) = c :: l
    rw [if_neg this]
theorem repl_nl (t : B) (h : ∀ c ∈ t, c ≠ 10) : ∀ c ∈ replL t, c ≠ 10 := by
  intro c hc
  unfold replL at hc
  rw [List.mem_flatMap] at hc
  obtain ⟨d, hd, hc⟩ := hc
  split at hc
  · simp at hc
    rcases hc with rfl | rfl <;> decide
  · simp at hc
    subst hc; exact h _ hd
theorem line_nl (x : Ln) (h : okL x) : ∀ c ∈ lineOf x, c ≠ 10 := by
  unfold lineOf
  split
  · intro c hc
    rcases List.mem_cons.mp hc with rfl | hc
    · decide
    · exact h.nl c hc
  · exact repl_nl _ h.nl
theorem line_tab (x : Ln) (h : okL x) : isTab (lineOf x) = x.c := by
  unfold lineOf
  cases hc : x.c
  · simpa using repl_head _ (h.tab hc)
  · rfl
theorem line_text (x : Ln) (h : okL x) (r : List B) : gather x.c (untab (lineOf x)) r = some (untab (lineOf x), r) ∧ text x.c (untab (lineOf x)) = x.t := by
  have key : goes (untab (lineOf x)) = false ∧ text x.c (untab (lineOf x)) = x.t := by
    cases hc : x.c
    · have e : untab (lineOf x) = replL x.t := by
        rw [untab_no _ (by rw [line_tab x h, hc])]
        unfold lineOf; rw [hc]; rfl
      rw [e]
      refine ⟨goes_no _ (by rw [repl_last]; exact h.last), ?_⟩
      show plainL (replL x.t) = x.t
      unfold plainL
      rw [plain_repl x.t [] (h.st hc), List.nil_append]
      exact rtrim_id bl _ (h.right hc)
    · have e : untab (lineOf x) = x.t := by
        unfold lineOf; rw [hc]; rfl
      rw [e]
      exact ⟨goes_no _ h.last, rfl⟩
  refine ⟨?_, key.2⟩
  cases r with
  | nil => unfold gather; rw [key.1]; rfl
  | cons n r => unfold gather; rw [key.1]; rfl
theorem readF_single : ∀ (o : List Ln) (f k : Nat), (∀ x ∈ o, okL x) → o.length ≤ f → readF f k (o.map lineOf) = some (number k o)
  | [], 0, k, _, _ => rfl
  | [], f + 1, k, _, _ => rfl
  | x :: o, 0, k, _, h => by simp at h
  | x :: o, f + 1, k, h, hf => by
    have hx := h x (List.mem_cons_self ..)
    rw [List.map_cons, readF, line_tab x hx, (line_text x hx _).1]
    simp only []
    rw [Nat.sub_self, Nat.add_zero, readF_single o f (k + 1) (fun y hy => h y (List.mem_cons_of_mem _ hy)) (by simpa using hf), (line_text x hx []).2]
    simp only []
    rw [if_neg (by rw [hx.blank]; decide)]
    rfl
theorem splitA_none : ∀ (s h : B), (∀ c ∈ s, c ≠ 10) → splitA h s = [h ++ s]
  | [], h, _ => by simp [splitA]
  | c :: s, h, hn => by
    rw [splitA, if_neg (hn c (List.mem_cons_self ..)), splitA_none s _ (fun d hd => hn d (List.mem_cons_of_mem _ hd))]
    simp
theorem split_lines : ∀ (l : B) (r : List B), (∀ s ∈ l :: r, ∀ c ∈ s, c ≠ 10) → splitL (unend ((l :: r).flatMap fun s => s ++ [10])) = l :: r
  | l, [], h => by
    rw [List.flatMap_cons, List.flatMap_nil, List.append_nil, unend_end, splitL, splitA_none _ _ (h l (List.mem_cons_self ..)), List.nil_append]
  | l, m :: r, h => by
    have hne : (m :: r).flatMap (fun s => s ++ [10]) ≠ [] := by simp [List.flatMap_cons]
    rw [List.flatMap_cons, unend_app _ _ hne, splitL, List.append_assoc, List.singleton_append, splitA_app, splitA_none _ _ (h l (List.mem_cons_self ..)), List.nil_append, List.singleton_append]
    congr 1
    exact split_lines m r (fun s hs => h s (List.mem_cons_of_mem _ hs))
theorem write_lines (o : List Ln) : writeL o = (o.map lineOf).flatMap fun s => s ++ [10] := by
  unfold writeL; rw [List.flatMap_map]
theorem again (o : List Ln) (h : ∀ x ∈ o, okL x) (hl : o.length ≤ 4096) (hw : (writeL o).length ≤ 65536) : readS (writeL o) = some (number 0 o) := by
  unfold readS
  rw [if_neg (by omega)]
  cases o with
  | nil => rfl
  | cons x o =>
    have hne : writeL (x :: o) ≠ [] := by simp [writeL, List.flatMap_cons]
    have hs : splitL (unend (writeL (x :: o))) = (x :: o).map lineOf := by
      rw [write_lines]
      exact split_lines (lineOf x) (o.map lineOf) (by
        intro s hs
        have : s ∈ (x :: o).map lineOf := hs
        obtain ⟨y, hy, rfl⟩ := List.mem_map.mp this
        exact line_nl y (h y hy))
    have hn : ∀ (o : List Ln) (k : Nat), (number k o).length = o.length := by
      intro o
      induction o with
      | nil => intro k; rfl
      | cons y o ih => intro k; simp [number, ih]
    rw [if_neg hne, hs, readF_single _ _ _ h (by simp)]
    simp only []
    rw [if_pos (by rw [hn]; exact hl)]
end Go.Proofs.YthkndchbgiimnaaDoor.LP
