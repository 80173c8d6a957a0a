/- Whole words: quoted texts, words joined, words of words: plain Lean. -/
import Derived.Test.YtjblkmmpfgjlnaaDoorWordT
import Derived.Test.YtjblkmmpfgjlnaaDoorWordQ
set_option linter.unusedVariables false
set_option linter.unusedSimpArgs false
namespace Go.Proofs.YtjblkmmpfgjlnaaDoor.WP
open Go Ba

/-- a text that is one word -/
def One (w : List UInt8) : Prop := w ≠ [] ∧ fin 0 false w = (0, false) ∧ ∀ x ∈ prs 0 false w, x.2 ≠ 98

theorem kst_q1 (c : UInt8) (h : c ≠ 39) : kst 39 false c = (112, 39, false) := by simp [kst, h]
theorem in_repl : ∀ l : List UInt8, fin 39 false (repl 39 [39, 92, 39, 39] l) = (39, false) ∧ (∀ x ∈ prs 39 false (repl 39 [39, 92, 39, 39] l), x.2 ≠ 98) ∧ sel (prs 39 false (repl 39 [39, 92, 39, 39] l)) = l
  | [] => by simp [repl, fin, prs, sel]
  | c :: l => by
    obtain ⟨h1, h2, h3⟩ := in_repl l
    have e : repl 39 [39, 92, 39, 39] (c :: l) = (if c = 39 then [39, 92, 39, 39] else [c]) ++ repl 39 [39, 92, 39, 39] l := by simp [repl]
    rw [e, fin_append, prs_append, sel_append]
    by_cases hc : c = 39
    · subst hc
      have f1 : fin 39 false [39, 92, 39, 39] = (39, false) := by decide
      have p1 : prs 39 false [39, 92, 39, 39] = [(39, 113), (92, 115), (39, 112), (39, 113)] := by decide
      rw [if_pos rfl, f1, p1]
      refine ⟨h1, ?_, by rw [h3]; rfl⟩
      intro x hx
      rcases List.mem_append.mp hx with hx | hx
      · simp only [List.mem_cons, List.mem_nil_iff, or_false] at hx
        rcases hx with rfl | rfl | rfl | rfl <;> decide
      · exact h2 x hx
    · have f1 : fin 39 false [c] = (39, false) := by simp only [fin, kst_q1 c hc]
      have p1 : prs 39 false [c] = [(c, 112)] := by simp only [prs, kst_q1 c hc]
      rw [if_neg hc, f1, p1]
      refine ⟨h1, ?_, by rw [h3]; rfl⟩
      intro x hx
      rcases List.mem_append.mp hx with hx | hx
      · rw [List.mem_singleton] at hx; rw [hx]; exact (by decide : (112 : UInt8) ≠ 98)
      · exact h2 x hx

theorem bare_no : ∀ c : Fin 256, bareB (UInt8.ofNat c.val) = true → kst 0 false (UInt8.ofNat c.val) = (112, 0, false) := by decide +kernel
theorem kst_bare (c : UInt8) (h : bareB c = true) : kst 0 false c = (112, 0, false) := by
  have := bare_no ⟨c.toNat, c.toNat_lt⟩
  simp only [UInt8.ofNat_toNat] at this
  exact this h
theorem in_bare : ∀ l : List UInt8, l.all bareB = true → fin 0 false l = (0, false) ∧ (∀ x ∈ prs 0 false l, x.2 ≠ 98) ∧ sel (prs 0 false l) = l
  | [], _ => by simp [fin, prs, sel]
  | c :: l, h => by
    rw [List.all_cons, Bool.and_eq_true] at h
    obtain ⟨h1, h2, h3⟩ := in_bare l h.2
    simp only [fin, prs, kst_bare c h.1]
    refine ⟨h1, ?_, ?_⟩
    · intro x hx
      rcases List.mem_cons.mp hx with rfl | hx
      · exact (by decide : (112 : UInt8) ≠ 98)
      · exact h2 x hx
    · have : sel ((c, 112) :: prs 0 false l) = c :: sel (prs 0 false l) := by simp [sel]
      rw [this, h3]
theorem quote_one (l : List UInt8) : One (quoteL l) ∧ sel (prs 0 false (quoteL l)) = l := by
  unfold quoteL
  by_cases h : l.all bareB = true ∧ l ≠ []
  · rw [if_pos h]
    obtain ⟨h1, h2, h3⟩ := in_bare l h.1
    exact ⟨⟨h.2, h1, h2⟩, h3⟩
  · rw [if_neg h]
    obtain ⟨h1, h2, h3⟩ := in_repl l
    have k1 : kst 0 false 39 = (113, 39, false) := by decide
    have f2 : fin 39 false [39] = (0, false) := by decide
    have p2 : prs 39 false [39] = [(39, 113)] := by decide
    refine ⟨⟨by simp, ?_, ?_⟩, ?_⟩
    · rw [List.cons_append]; simp only [fin, k1]; rw [fin_append, h1, f2]
    · rw [List.cons_append]; simp only [prs, k1]; rw [prs_append, h1, p2]
      intro x hx
      rcases List.mem_cons.mp hx with rfl | hx
      · decide
      · rcases List.mem_append.mp hx with hx | hx
        · exact h2 x hx
        · rw [List.mem_singleton] at hx; rw [hx]; decide
    · rw [List.cons_append]; simp only [prs, k1]; rw [prs_append, h1, p2]
      have e : ∀ z, sel ((39, 113) :: z) = sel z := by intro z; simp [sel]
      rw [e, sel_append, h3]; simp [sel]

theorem One.open {w : List UInt8} (h : One w) : isOpen (fin 0 false w) = false := by rw [h.2.1]; rfl
theorem grp_one {w : List UInt8} (h : One w) (b : List (UInt8 × UInt8)) : grp (prs 0 false w ++ b) none = grp b (some w) := by
  obtain ⟨h1, h2, h3⟩ := h
  cases w with
  | nil => exact absurd rfl h1
  | cons c l =>
    have hf : (prs 0 false (c :: l)) = (c, (kst 0 false c).1) :: prs (kst 0 false c).2.1 (kst 0 false c).2.2 l := rfl
    have hx : (c, (kst 0 false c).1).2 ≠ 98 := h3 _ (by rw [hf]; exact List.mem_cons_self ..)
    have e : grp (prs 0 false (c :: l) ++ b) none = grp (prs 0 false (c :: l) ++ b) (some []) := by
      rw [hf, List.cons_append]; exact grp_start _ _ hx
    rw [e, grp_run _ _ _ h3, prs_fst]; rfl
theorem grp_alone {w : List UInt8} (h : One w) : grp (prs 0 false w) none = [w] := by
  have := grp_one h []
  rw [List.append_nil] at this
  rw [this]; rfl
theorem grp_bl (c : UInt8) (hb : bl c = true) (l : List UInt8) (w : List UInt8) : grp (prs 0 false (c :: l)) (some w) = w :: grp (prs 0 false l) none := by
  simp only [prs, kst_bl c hb, grp]
  rw [if_pos trivial]
theorem grp_bl0 (c : UInt8) (hb : bl c = true) (l : List UInt8) : grp (prs 0 false (c :: l)) none = grp (prs 0 false l) none := by
  simp only [prs, kst_bl c hb, grp]
  rw [if_pos trivial]
theorem fin_bl (c : UInt8) (hb : bl c = true) (l : List UInt8) : fin 0 false (c :: l) = fin 0 false l := by
  simp only [fin, kst_bl c hb]
theorem prs_one {w : List UInt8} (h : One w) (b : List UInt8) : prs 0 false (w ++ b) = prs 0 false w ++ prs 0 false b := by rw [prs_append, h.2.1]
theorem fin_one {w : List UInt8} (h : One w) (b : List UInt8) : fin 0 false (w ++ b) = fin 0 false b := by rw [fin_append, h.2.1]

/-- two words between blanks -/
theorem two (q p : List UInt8) (hq : One q) (hp : One p) : grp (prs 0 false (32 :: 32 :: (q ++ 9 :: (p ++ [32])))) none = [q, p] ∧ fin 0 false (32 :: 32 :: (q ++ 9 :: (p ++ [32]))) = (0, false) := by
  constructor
  · rw [grp_bl0 32 (by decide), grp_bl0 32 (by decide), prs_one hq, grp_one hq, grp_bl 9 (by decide), prs_one hp, grp_one hp, grp_bl 32 (by decide)]; rfl
  · rw [fin_bl 32 (by decide), fin_bl 32 (by decide), fin_one hq, fin_bl 9 (by decide), fin_one hp, fin_bl 32 (by decide)]; rfl

theorem kst_98 (q : UInt8) (tk : Bool) (c : UInt8) (h : (kst q tk c).1 = 98) : q = 0 ∧ tk = false ∧ kst q tk c = (98, 0, false) := by
  unfold kst at h ⊢
  split at h
  · exact absurd h (by decide : ¬ (112 : UInt8) = 98)
  · rename_i htk
    split at h
    · exact absurd h (by decide : ¬ (115 : UInt8) = 98)
    · split at h
      · exact absurd h (by decide : ¬ (113 : UInt8) = 98)
      · split at h
        · exact absurd h (by decide : ¬ (113 : UInt8) = 98)
        · split at h
          · rename_i h1 h2 h3 h4
            refine ⟨h4.1, by simpa using htk, ?_⟩
            rw [if_neg htk, if_neg h1, if_neg h2, if_neg h3, if_pos h4, h4.1]
          · exact absurd h (by decide : ¬ (112 : UInt8) = 98)

/-- what is between blanks is one word each -/
theorem grp_ones : ∀ (l : List UInt8), (isOpen (fin 0 false l) = false → ∀ w ∈ grp (prs 0 false l) none, One w) ∧
    (∀ (w0 : List UInt8) (q : UInt8) (tk : Bool), w0 ≠ [] → fin 0 false w0 = (q, tk) → (∀ x ∈ prs 0 false w0, x.2 ≠ 98) → isOpen (fin q tk l) = false → ∀ w ∈ grp (prs q tk l) (some w0), One w)
  | [] => by
    refine ⟨fun _ w hw => by simp [prs, grp] at hw, fun w0 q tk h0 hf hk ho w hw => ?_⟩
    simp only [prs, grp, List.mem_singleton] at hw
    subst hw
    refine ⟨h0, ?_, hk⟩
    rw [hf]
    simp only [fin, isOpen, Bool.or_eq_false_iff] at ho
    have : q = 0 := by simpa using ho.1
    rw [this, ho.2]
  | c :: l => by
    obtain ⟨i1, i2⟩ := grp_ones l
    constructor
    · intro ho w hw
      simp only [prs, fin, grp] at ho hw
      by_cases hk : (kst 0 false c).1 = 98
      · obtain ⟨_, _, e⟩ := kst_98 _ _ _ hk
        rw [if_pos hk] at hw
        rw [e] at ho hw
        exact i1 ho w hw
      · rw [if_neg hk] at hw
        refine i2 [c] _ _ (by simp) rfl ?_ ho w hw
        intro x hx
        simp only [prs, List.mem_singleton] at hx
        rw [hx]; exact hk
    · intro w0 q tk h0 hf hkk ho w hw
      simp only [prs, fin, grp] at ho hw
      by_cases hk : (kst q tk c).1 = 98
      · obtain ⟨rfl, rfl, e⟩ := kst_98 _ _ _ hk
        rw [if_pos hk] at hw
        rw [e] at ho hw
        rcases List.mem_cons.mp hw with rfl | hw
        · exact ⟨h0, hf, hkk⟩
        · exact i1 ho w hw
      · rw [if_neg hk] at hw
        refine i2 (w0 ++ [c]) _ _ (by simp) ?_ ?_ ho w hw
        · rw [fin_append, hf]; rfl
        · intro x hx
          rw [prs_append, hf] at hx
          rcases List.mem_append.mp hx with hx | hx
          · exact hkk x hx
          · simp only [prs, List.mem_singleton] at hx
            rw [hx]; exact hk

/-- words with a blank ahead of each -/
def tails (ws : List (List UInt8)) : List UInt8 := ws.flatMap fun w => 32 :: w
theorem tails_cons (w : List UInt8) (ws : List (List UInt8)) : tails (w :: ws) = 32 :: (w ++ tails ws) := by simp [tails]
theorem tails_grp : ∀ (ws : List (List UInt8)) (w0 : List UInt8), (∀ w ∈ ws, One w) → grp (prs 0 false (tails ws)) (some w0) = w0 :: ws ∧ fin 0 false (tails ws) = (0, false)
  | [], w0, _ => ⟨rfl, rfl⟩
  | w :: ws, w0, h => by
    have hw := h w (List.mem_cons_self ..)
    obtain ⟨i1, i2⟩ := tails_grp ws w fun x hx => h x (List.mem_cons_of_mem _ hx)
    rw [tails_cons, grp_bl 32 (by decide), prs_one hw, grp_one hw, i1, fin_bl 32 (by decide), fin_one hw, i2]
    exact ⟨rfl, rfl⟩
theorem join_tails : ∀ (ws : List (List UInt8)) (acc : List UInt8), acc ≠ [] → (∀ w ∈ ws, w ≠ []) → joinL (ws.map S) acc = acc ++ tails ws
  | [], acc, _, _ => by simp [joinL, tails]
  | w :: ws, acc, h0, h => by
    have hw := h w (List.mem_cons_self ..)
    have ih := join_tails ws (acc ++ 32 :: w) (by simp) fun x hx => h x (List.mem_cons_of_mem _ hx)
    have e : joinL ((w :: ws).map S) acc = joinL (ws.map S) (acc ++ 32 :: w) := by
      simp only [List.map_cons, joinL, data_S, hw, h0, if_false]
    rw [e, ih, tails_cons]; simp
theorem join_words (ws : List (List UInt8)) (h : ∀ w ∈ ws, One w) : grp (prs 0 false (joinL (ws.map S) [])) none = ws ∧ fin 0 false (joinL (ws.map S) []) = (0, false) := by
  cases ws with
  | nil => exact ⟨rfl, rfl⟩
  | cons w ws =>
    have hw := h w (List.mem_cons_self ..)
    have hr : ∀ x ∈ ws, One x := fun x hx => h x (List.mem_cons_of_mem _ hx)
    have e : joinL ((w :: ws).map S) [] = w ++ tails ws := by
      have e1 : joinL ((w :: ws).map S) [] = joinL (ws.map S) w := by
        simp only [List.map_cons, joinL, data_S, hw.1, if_false, if_true]
      rw [e1, join_tails ws w hw.1 fun x hx => (hr x hx).1]
    obtain ⟨i1, i2⟩ := tails_grp ws w hr
    rw [e, prs_one hw, grp_one hw, i1, fin_one hw, i2]
    exact ⟨rfl, rfl⟩
theorem tot_grp : ∀ (l : List (UInt8 × UInt8)), tot ((grp l none).map S) ≤ 2 * l.length ∧ ∀ w : List UInt8, tot ((grp l (some w)).map S) ≤ 2 * l.length + w.length + 1
  | [] => by
    refine ⟨by simp [grp, tot], fun w => ?_⟩
    simp [grp, tot]
  | x :: l => by
    obtain ⟨i1, i2⟩ := tot_grp l
    constructor
    · simp only [grp]
      split
      · simp only [List.length_cons]; omega
      · have := i2 [x.1]
        simp only [List.length_cons, List.length_nil] at this ⊢; omega
    · intro w
      simp only [grp]
      split
      · rw [List.map_cons, tot_cons, size_S]; simp only [List.length_cons]; omega
      · have := i2 (w ++ [x.1])
        simp only [List.length_cons, List.length_append, List.length_nil] at this ⊢; omega
theorem joinL_len : ∀ (l : List ByteArray) (acc : List UInt8), (joinL l acc).length ≤ acc.length + tot l
  | [], acc => by simp [joinL]
  | t :: l, acc => by
    have e := size_len t
    simp only [joinL]
    rw [tot_cons]
    split
    · have := joinL_len l acc; omega
    · split
      · have := joinL_len l t.data.toList; rw [← e] at this; omega
      · have := joinL_len l (acc ++ 32 :: t.data.toList)
        rw [List.length_append, List.length_cons, ← e] at this; omega
theorem quoteL_len (l : List UInt8) : (quoteL l).length ≤ 4 * l.length + 2 := by
  unfold quoteL
  split
  · omega
  · have h : ∀ l : List UInt8, (repl 39 [39, 92, 39, 39] l).length ≤ 4 * l.length := by
      intro l
      induction l with
      | nil => simp [repl]
      | cons a l ih =>
        have e : repl 39 [39, 92, 39, 39] (a :: l) = (if a = 39 then [39, 92, 39, 39] else [a]) ++ repl 39 [39, 92, 39, 39] l := by simp [repl]
        rw [e, List.length_append, List.length_cons]
        split <;> simp <;> omega
    have := h l
    simp; omega
end Go.Proofs.YtjblkmmpfgjlnaaDoor.WP
