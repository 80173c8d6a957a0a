/- Plain functions for rules: what the program computes, on lists of bytes; what was written is read as it was. -/
import Derived.Test.YtapfblaejmenlaaDoorFieldP
set_option linter.unusedVariables false
set_option linter.unusedSimpArgs false
namespace Go.Proofs.YtapfblaejmenlaaDoor.RP
open Go.Proofs.YtapfblaejmenlaaDoor.WP
abbrev B := List UInt8

def rtrim (p : UInt8 → Bool) (l : B) : B := (l.reverse.dropWhile p).reverse
/-- a line cut at its operator -/
def opA (h : B) : B → Option (B × Nat × B)
  | [] => none
  | c :: s =>
    if c = 33 then some (h, 2, s)
    else if c = 58 then (if s.head? = some 58 then some (h, 3, s.tail) else some (h, 1, s))
    else opA (h ++ [c]) s
/-- a text ahead of a byte 59, and behind it -/
def semi (h : B) : B → B × B
  | [] => (h, [])
  | c :: s => if c = 59 then (h, s) else semi (h ++ [c]) s
def trim (l : B) : B := (rtrim bl l).dropWhile bl
structure Ru where
  ts : List B
  k : Nat
  ss : List B
  cs : List B
def tooLong (l : List B) : Bool := l.any fun w => decide (255 < w.length)
/-- a line's rule, or its error's number -/
def parseL (s : B) : Nat ⊕ Ru :=
  match opA [] s with
  | none => .inl 14
  | some (h, k, t) =>
    if fieldsL h = [] ∨ tooLong (fieldsL h) = true ∨ tooLong (fieldsL (semi [] t).1) = true then .inl 14
    else if 4096 < (fieldsL h).length ∨ 4096 < (fieldsL (semi [] t).1).length then .inl 5
    else .inr ⟨fieldsL h, k, fieldsL (semi [] t).1, if trim (semi [] t).2 = [] then [] else [trim (semi [] t).2]⟩
def tails (ws : List B) : B := ws.flatMap fun w => 32 :: w
def joinSp : List B → B
  | [] => []
  | w :: ws => w ++ tails ws
def opT (k : Nat) : B := if k = 2 then [32, 33] else if k = 3 then [58, 58] else [58]
def formatL (r : Ru) : B :=
  joinSp r.ts ++ opT r.k ++ (if r.ss = [] then [] else 32 :: joinSp r.ss) ++ (match r.cs with | [] => [] | c :: _ => 59 :: 32 :: c)

/-! ### fields -/
def Fld (w : B) : Prop := w ≠ [] ∧ ∀ c ∈ w, bl c = false
theorem grp_bl (c : UInt8) (h : bl c = true) (l : B) (w : B) : grp (bk (c :: l)) (some w) = w :: grp (bk l) none := by simp [bk, grp, h]
theorem grp_bl0 (c : UInt8) (h : bl c = true) (l : B) : grp (bk (c :: l)) none = grp (bk l) none := by simp [bk, grp, h]
theorem grp_no (c : UInt8) (h : bl c = false) (l : B) (w : B) : grp (bk (c :: l)) (some w) = grp (bk l) (some (w ++ [c])) := by simp [bk, grp, h]
theorem grp_no0 (c : UInt8) (h : bl c = false) (l : B) : grp (bk (c :: l)) none = grp (bk l) (some [c]) := by simp [bk, grp, h]
/-- what the words of a text are made of -/
theorem flds : ∀ (l : B), (∀ w ∈ grp (bk l) none, Fld w ∧ ∀ c ∈ w, c ∈ l) ∧ ∀ w0 : B, Fld w0 → ∀ w ∈ grp (bk l) (some w0), Fld w ∧ ∀ c ∈ w, c ∈ w0 ∨ c ∈ l
  | [] => ⟨by simp [bk, grp], fun w0 h w hw => by
      have : w = w0 := by simpa [bk, grp] using hw
      subst this
      exact ⟨h, fun c hc => .inl hc⟩⟩
  | d :: l => by
    obtain ⟨i1, i2⟩ := flds l
    cases hd : bl d
    · refine ⟨?_, ?_⟩
      · intro w hw
        rw [grp_no0 d hd] at hw
        obtain ⟨h1, h2⟩ := i2 [d] ⟨by simp, by simpa using hd⟩ w hw
        refine ⟨h1, fun c hc => ?_⟩
        rcases h2 c hc with h | h
        · rw [List.mem_singleton] at h; subst h; exact List.mem_cons_self ..
        · exact List.mem_cons_of_mem _ h
      · intro w0 h0 w hw
        rw [grp_no d hd] at hw
        obtain ⟨h1, h2⟩ := i2 (w0 ++ [d]) ⟨by simp, by
          intro c hc
          rcases List.mem_append.mp hc with hc | hc
          · exact h0.2 c hc
          · rw [List.mem_singleton] at hc; subst hc; exact hd⟩ w hw
        refine ⟨h1, fun c hc => ?_⟩
        rcases h2 c hc with h | h
        · rcases List.mem_append.mp h with h | h
          · exact .inl h
          · rw [List.mem_singleton] at h; subst h; exact .inr (List.mem_cons_self ..)
        · exact .inr (List.mem_cons_of_mem _ h)
    · refine ⟨?_, ?_⟩
      · intro w hw
        rw [grp_bl0 d hd] at hw
        exact ⟨(i1 w hw).1, fun c hc => List.mem_cons_of_mem _ ((i1 w hw).2 c hc)⟩
      · intro w0 h0 w hw
        rw [grp_bl d hd] at hw
        rcases List.mem_cons.mp hw with rfl | hw
        · exact ⟨h0, fun c hc => .inl hc⟩
        · exact ⟨(i1 w hw).1, fun c hc => .inr (List.mem_cons_of_mem _ ((i1 w hw).2 c hc))⟩
theorem grp_run : ∀ (w : B) (l w0 : B), (∀ c ∈ w, bl c = false) → grp (bk (w ++ l)) (some w0) = grp (bk l) (some (w0 ++ w))
  | [], l, w0, _ => by simp
  | c :: w, l, w0, h => by
    rw [List.cons_append, grp_no c (h c (List.mem_cons_self ..)), grp_run w l _ fun d hd => h d (List.mem_cons_of_mem _ hd)]
    simp
theorem grp_word (w l : B) (h : Fld w) : grp (bk (w ++ l)) none = grp (bk l) (some w) := by
  cases w with
  | nil => exact absurd rfl h.1
  | cons c w =>
    rw [List.cons_append, grp_no0 c (h.2 c (List.mem_cons_self ..)), grp_run w l _ fun d hd => h.2 d (List.mem_cons_of_mem _ hd)]
    rfl
theorem grp_tails : ∀ (ws : List B) (w0 : B) (e : B), (∀ w ∈ ws, Fld w) → (e = [] ∨ e = [32]) → grp (bk (tails ws ++ e)) (some w0) = w0 :: ws
  | [], w0, e, _, he => by
    rcases he with rfl | rfl
    · rfl
    · show grp (bk [32]) (some w0) = _
      rw [grp_bl 32 (by decide)]; rfl
  | w :: ws, w0, e, h, he => by
    have e1 : tails (w :: ws) ++ e = 32 :: (w ++ (tails ws ++ e)) := by simp [tails]
    rw [e1, grp_bl 32 (by decide), grp_word w _ (h w (List.mem_cons_self ..)), grp_tails ws w e (fun x hx => h x (List.mem_cons_of_mem _ hx)) he]
theorem fields_join (ws : List B) (e : B) (h : ∀ w ∈ ws, Fld w) (he : e = [] ∨ e = [32]) : fieldsL (joinSp ws ++ e) = ws := by
  cases ws with
  | nil => rcases he with rfl | rfl <;> rfl
  | cons w ws =>
    unfold fieldsL joinSp
    rw [List.append_assoc, grp_word w _ (h w (List.mem_cons_self ..)), grp_tails ws w e (fun x hx => h x (List.mem_cons_of_mem _ hx)) he]
theorem fields_join' (ws : List B) (h : ∀ w ∈ ws, Fld w) : fieldsL (32 :: joinSp ws) = ws := by
  have := fields_join ws [] h (.inl rfl)
  rw [List.append_nil] at this
  unfold fieldsL at this ⊢
  rw [grp_bl0 32 (by decide)]
  exact this
theorem joinSp_mem (ws : List B) (c : UInt8) (h : c ∈ joinSp ws) : c = 32 ∨ ∃ w ∈ ws, c ∈ w := by
  cases ws with
  | nil => cases h
  | cons w ws =>
    rcases List.mem_append.mp h with h | h
    · exact .inr ⟨w, List.mem_cons_self .., h⟩
    · unfold tails at h
      rw [List.mem_flatMap] at h
      obtain ⟨v, hv, h⟩ := h
      rcases List.mem_cons.mp h with h | h
      · exact .inl h
      · exact .inr ⟨v, List.mem_cons_of_mem _ hv, h⟩

/-! ### cuts -/
theorem opA_run : ∀ (p h s : B), (∀ c ∈ p, c ≠ 33 ∧ c ≠ 58) → opA h (p ++ s) = opA (h ++ p) s
  | [], h, s, _ => by simp
  | c :: p, h, s, hp => by
    obtain ⟨h1, h2⟩ := hp c (List.mem_cons_self ..)
    rw [List.cons_append, opA, if_neg h1, if_neg h2, opA_run p _ s fun d hd => hp d (List.mem_cons_of_mem _ hd)]
    simp
theorem opA_some : ∀ (s h0 h : B) (k : Nat) (t : B), (∀ c ∈ h0, c ≠ 33 ∧ c ≠ 58) → opA h0 s = some (h, k, t) → (∀ c ∈ h, c ≠ 33 ∧ c ≠ 58) ∧ (k = 1 ∨ k = 2 ∨ k = 3)
  | [], h0, h, k, t, hn, e => by cases e
  | c :: s, h0, h, k, t, hn, e => by
    rw [opA] at e
    split at e
    · injection e with e; injection e with e1 e; injection e with e2 e3
      subst e1; subst e2
      exact ⟨hn, .inr (.inl rfl)⟩
    · split at e
      · split at e
        · injection e with e; injection e with e1 e; injection e with e2 e3
          subst e1; subst e2
          exact ⟨hn, .inr (.inr rfl)⟩
        · injection e with e; injection e with e1 e; injection e with e2 e3
          subst e1; subst e2
          exact ⟨hn, .inl rfl⟩
      · rename_i n1 n2
        refine opA_some s (h0 ++ [c]) h k t ?_ e
        intro d hd
        rcases List.mem_append.mp hd with hd | hd
        · exact hn d hd
        · rw [List.mem_singleton] at hd; subst hd; exact ⟨n1, n2⟩
theorem semi_run : ∀ (p h s : B), (∀ c ∈ p, c ≠ 59) → semi h (p ++ s) = semi (h ++ p) s
  | [], h, s, _ => by simp
  | c :: p, h, s, hp => by
    rw [List.cons_append, semi, if_neg (hp c (List.mem_cons_self ..)), semi_run p _ s fun d hd => hp d (List.mem_cons_of_mem _ hd)]
    simp
theorem semi_fst : ∀ (s h : B), (∀ c ∈ h, c ≠ 59) → ∀ c ∈ (semi h s).1, c ≠ 59
  | [], h, hn => hn
  | c :: s, h, hn => by
    rw [semi]
    split
    · exact hn
    · rename_i n
      refine semi_fst s _ ?_
      intro d hd
      rcases List.mem_append.mp hd with hd | hd
      · exact hn d hd
      · rw [List.mem_singleton] at hd; subst hd; exact n

/-! ### trimming -/
theorem rtrim_snoc (p : UInt8 → Bool) (l : B) (c : UInt8) : rtrim p (l ++ [c]) = if p c = true then rtrim p l else l ++ [c] := by
  unfold rtrim
  rw [List.reverse_append, List.reverse_singleton, List.singleton_append]
  by_cases h : p c = true
  · rw [if_pos h, List.dropWhile_cons_of_pos h]
  · rw [if_neg h, List.dropWhile_cons_of_neg h]; simp
theorem rtrim_last (p : UInt8 → Bool) : ∀ (n : Nat) (l : B), l.length = n → ∀ c, (rtrim p l).getLast? = some c → p c = false
  | 0, l, h, c, hc => by
    have : l = [] := List.length_eq_zero_iff.mp h
    subst this
    simp [rtrim] at hc
  | n + 1, l, h, c, hc => by
    obtain ⟨l', d, rfl⟩ : ∃ l' d, l = l' ++ [d] := ⟨l.dropLast, l.getLast (by intro e; simp [e] at h), (List.dropLast_concat_getLast _).symm⟩
    rw [rtrim_snoc] at hc
    by_cases hp : p d = true
    · rw [if_pos hp] at hc
      exact rtrim_last p n l' (by simp at h; exact h) c hc
    · rw [if_neg hp, List.getLast?_append] at hc
      simp at hc
      subst hc
      simpa using hp
theorem rtrim_id (p : UInt8 → Bool) (l : B) (h : ∀ c, l.getLast? = some c → p c = false) : rtrim p l = l := by
  rcases List.eq_nil_or_concat l with rfl | ⟨l', d, rfl⟩
  · rfl
  · rw [List.concat_eq_append] at h ⊢
    rw [rtrim_snoc, if_neg]
    have := h d (by simp)
    simp [this]
theorem drop_head (p : UInt8 → Bool) : ∀ (l : B) c, (l.dropWhile p).head? = some c → p c = false
  | [], c, h => by cases h
  | d :: l, c, h => by
    by_cases hp : p d = true
    · rw [List.dropWhile_cons_of_pos hp] at h; exact drop_head p l c h
    · rw [List.dropWhile_cons_of_neg hp] at h
      simp at h; subst h; simpa using hp
theorem drop_last (p : UInt8 → Bool) : ∀ (l : B) c, (l.dropWhile p).getLast? = some c → l.getLast? = some c
  | [], c, h => by cases h
  | d :: l, c, h => by
    by_cases hp : p d = true
    · rw [List.dropWhile_cons_of_pos hp] at h
      have := drop_last p l c h
      rw [List.getLast?_cons, this]; rfl
    · rw [List.dropWhile_cons_of_neg hp] at h; exact h
theorem trim_again (x : B) : trim (32 :: trim x) = trim x := by
  by_cases h0 : trim x = []
  · rw [h0]; decide
  · have hl : ∀ c, (32 :: trim x).getLast? = some c → bl c = false := by
      intro c hc
      obtain ⟨d, hd⟩ : ∃ d, (trim x).getLast? = some d := ⟨_, List.getLast?_eq_some_getLast h0⟩
      rw [List.getLast?_cons, hd] at hc
      simp at hc; subst hc
      exact rtrim_last bl _ x rfl d (drop_last bl _ _ hd)
    have e : trim (32 :: trim x) = (rtrim bl (32 :: trim x)).dropWhile bl := rfl
    rw [e, rtrim_id bl _ hl, List.dropWhile_cons_of_pos (by decide)]
    cases hx : trim x with
    | nil => rfl
    | cons d y =>
      have := drop_head bl (rtrim bl x) d (by
        have : (rtrim bl x).dropWhile bl = d :: y := hx
        rw [this]; rfl)
      rw [List.dropWhile_cons_of_neg (by rw [this]; decide)]

/-- what was parsed and written is parsed as it was -/
theorem back (s : B) (r : Ru) (h : parseL s = .inr r) : parseL (formatL r) = .inr r := by
  unfold parseL at h
  cases e : opA [] s with
  | none => rw [e] at h; cases h
  | some p =>
    obtain ⟨h0, k, t⟩ := p
    rw [e] at h
    simp only [] at h
    obtain ⟨n1, hk⟩ := opA_some s [] h0 k t (by simp) e
    have n2 := semi_fst t [] (by simp)
    split at h
    · cases h
    · rename_i g1
      split at h
      · cases h
      · rename_i g2
        injection h with h
        obtain ⟨a, ha⟩ : ∃ a, (semi [] t).1 = a := ⟨_, rfl⟩
        obtain ⟨c, hc⟩ : ∃ c, trim (semi [] t).2 = c := ⟨_, rfl⟩
        have hcc : trim (32 :: c) = c := by rw [← hc]; exact trim_again _
        rw [ha, hc] at h
        rw [ha] at g1 g2 n2
        clear ha hc e
        have f1 : ∀ w ∈ fieldsL h0, Fld w ∧ ∀ d ∈ w, d ≠ 33 ∧ d ≠ 58 := fun w hw => ⟨((flds h0).1 w hw).1, fun d hd => n1 d (((flds h0).1 w hw).2 d hd)⟩
        have f2 : ∀ w ∈ fieldsL a, Fld w ∧ ∀ d ∈ w, d ≠ 59 := fun w hw => ⟨((flds a).1 w hw).1, fun d hd => n2 d (((flds a).1 w hw).2 d hd)⟩
        generalize fieldsL h0 = ts at *
        generalize fieldsL a = ss at *
        subst h
        have j1 : ∀ d ∈ joinSp ts, d ≠ 33 ∧ d ≠ 58 := by
          intro d hd
          rcases joinSp_mem ts d hd with rfl | ⟨w, hw, hd⟩
          · decide
          · exact (f1 w hw).2 d hd
        have j2 : ∀ d ∈ (if ss = [] then [] else 32 :: joinSp ss), d ≠ 59 := by
          intro d hd
          split at hd
          · cases hd
          · rcases List.mem_cons.mp hd with rfl | hd
            · decide
            · rcases joinSp_mem ss d hd with rfl | ⟨w, hw, hd⟩
              · decide
              · exact (f2 w hw).2 d hd
        have s1 : fieldsL (if ss = [] then [] else 32 :: joinSp ss) = ss := by
          split
          · rename_i e; rw [e]; rfl
          · exact fields_join' ss fun w hw => (f2 w hw).1
        obtain ⟨R, hR⟩ : ∃ R : B, (if ss = [] then [] else 32 :: joinSp ss) ++ (match (if c = [] then [] else [c] : List B) with | [] => [] | c :: _ => 59 :: 32 :: c) = R := ⟨_, rfl⟩
        have hsemi : (semi [] R).1 = (if ss = [] then [] else 32 :: joinSp ss) ∧ trim (semi [] R).2 = c := by
          rw [← hR, semi_run _ _ _ j2, List.nil_append]
          by_cases h0 : c = []
          · subst h0
            rw [if_pos rfl]
            exact ⟨rfl, show trim [] = [] from by decide⟩
          · rw [if_neg h0]; exact ⟨rfl, hcc⟩
        have hhead : R.head? ≠ some 58 := by
          rw [← hR]
          by_cases h1 : ss = []
          · rw [if_pos h1, List.nil_append]
            by_cases h2 : c = []
            · rw [if_pos h2]; simp
            · rw [if_neg h2]; simp
          · rw [if_neg h1]; simp
        have hf : formatL ⟨ts, k, ss, if c = [] then [] else [c]⟩ = joinSp ts ++ (opT k ++ R) := by
          rw [← hR]; unfold formatL; simp only [List.append_assoc]
        have hop : ∃ u, opA [] (joinSp ts ++ (opT k ++ R)) = some (u, k, R) ∧ fieldsL u = ts := by
          rw [opA_run _ _ _ j1, List.nil_append]
          have fj := fields_join ts [] (fun w hw => (f1 w hw).1) (.inl rfl)
          rw [List.append_nil] at fj
          rcases hk with rfl | rfl | rfl
          · refine ⟨joinSp ts, ?_, fj⟩
            show opA (joinSp ts) (58 :: R) = _
            rw [opA, if_neg (by decide), if_pos rfl, if_neg hhead]
          · refine ⟨joinSp ts ++ [32], ?_, fields_join ts [32] (fun w hw => (f1 w hw).1) (.inr rfl)⟩
            show opA (joinSp ts) (32 :: 33 :: R) = _
            rw [opA, if_neg (by decide), if_neg (by decide), opA, if_pos rfl]
          · refine ⟨joinSp ts, ?_, fj⟩
            show opA (joinSp ts) (58 :: 58 :: R) = _
            rw [opA, if_neg (by decide), if_pos rfl, if_pos (by rfl)]; rfl
        obtain ⟨u, hu, hu2⟩ := hop
        rw [hf]
        unfold parseL
        rw [hu]
        simp only []
        rw [hsemi.1, hsemi.2, hu2, s1, if_neg g1, if_neg g2]
end Go.Proofs.YtapfblaejmenlaaDoor.RP
