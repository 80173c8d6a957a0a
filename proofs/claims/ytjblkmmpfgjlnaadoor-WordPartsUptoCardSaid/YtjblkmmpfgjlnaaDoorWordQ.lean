/- What word.Quote and the document's Quote answer. -/
import Derived.Test.YtjblkmmpfgjlnaaDoorWordA
import Derived.Test.YtjblkmmpfgjlnaaDoorPQx12
set_option linter.unusedVariables false
set_option linter.unusedSimpArgs false
namespace Go.Proofs.YtjblkmmpfgjlnaaDoor.WP
def bareB (c : UInt8) : Bool := (decide (97 ≤ c.toNat) && decide (c.toNat ≤ 122)) || (decide (65 ≤ c.toNat) && decide (c.toNat ≤ 90)) || (decide (48 ≤ c.toNat) && decide (c.toNat ≤ 57)) || [95, 46, 47, 43, 45, 44, 58, 61, 64, 37].contains c
def quoteL (l : List UInt8) : List UInt8 := if l.all bareB = true ∧ l ≠ [] then l else 39 :: repl 39 [39, 92, 39, 39] l ++ [39]
end Go.Proofs.YtjblkmmpfgjlnaaDoor.WP
namespace Go.Proofs.YtjblkmmpfgjlnaaDoor.Pure
open Go.RowKit Go.Proofs.YtjblkmmpfgjlnaaDoor.PQ Go.Proofs.YtjblkmmpfgjlnaaDoorW.PrintWords Go.Proofs.YtjblkmmpfgjlnaaDoorW.PrintLast Go.Proofs.YtjblkmmpfgjlnaaDoor.Ba

theorem bare_all : ∀ c : Fin 256, bobstayref04_bare.f 12 ((c.val : Nat) : Int) = some (WP.bareB (UInt8.ofNat c.val)) := by decide +kernel
theorem bare_of (c : UInt8) : ∀ n, bobstayref04_bare.f (12 + n) (c.toNat : Int) = some (WP.bareB c)
  | 0 => by
    have h := bare_all ⟨c.toNat, c.toNat_lt⟩
    simpa using h
  | n + 1 => bobstayref04_bare.mono _ _ _ (bare_of c n)
theorem idx_all : ∀ c : Fin 256, WP.bareB (UInt8.ofNat c.val) = false ↔ ¬ (97 ≤ c.val ∧ c.val ≤ 122) ∧ ¬ (65 ≤ c.val ∧ c.val ≤ 90) ∧ (c.val < 48 ∨ 57 < c.val) ∧ Lib.indexByte [95, 46, 47, 43, 45, 44, 58, 61, 64, 37] (UInt8.ofNat c.val) < 0 := by decide +kernel
theorem idx_of (c : UInt8) : WP.bareB c = false ↔ ¬ (97 ≤ c.toNat ∧ c.toNat ≤ 122) ∧ ¬ (65 ≤ c.toNat ∧ c.toNat ≤ 90) ∧ (c.toNat < 48 ∨ 57 < c.toNat) ∧ Lib.indexByte [95, 46, 47, 43, 45, 44, 58, 61, 64, 37] c < 0 := by
  have h := idx_all ⟨c.toNat, c.toNat_lt⟩
  simpa using h
theorem ibf (c : UInt8) : strings_IndexByte.f ⟨#[95, 46, 47, 43, 45, 44, 58, 61, 64, 37]⟩ (c.toNat : Int) = some (Lib.indexByte [95, 46, 47, 43, 45, 44, 58, 61, 64, 37] c) := by
  unfold strings_IndexByte.f
  have e : ((c.toNat : Nat) : Int).toNat.toUInt8 = c := by simp
  rw [e]

theorem quote_bad (s : ByteArray) (hs : s.size ≤ 1048576) (hb : ¬ (s.data.toList.all WP.bareB = true ∧ s.data.toList ≠ [])) :
    ((strings_ReplaceAll.f s ⟨#[39]⟩ ⟨#[39, 92, 39, 39]⟩).bind fun t => (if 1 + t.size ≤ 9223372036854775807 then (if ((⟨#[39]⟩ : ByteArray) ++ t).size + 1 ≤ 9223372036854775807 then (some (((⟨#[39]⟩ : ByteArray) ++ t) ++ (⟨#[39]⟩ : ByteArray))) else (none)) else (none))) = some (S (WP.quoteL s.data.toList)) := by
  have h4 : (⟨#[39, 92, 39, 39]⟩ : ByteArray).size = 4 := rfl
  have h1 : (⟨#[39]⟩ : ByteArray).size = 1 := rfl
  have hl : ∀ l : List UInt8, (repl 39 [39, 92, 39, 39] l).length ≤ 4 * l.length := by
    intro l
    induction l with
    | nil => simp [repl]
    | cons a l ih =>
      have e : repl 39 [39, 92, 39, 39] (a :: l) = (if a = 39 then [39, 92, 39, 39] else [a]) ++ repl 39 [39, 92, 39, 39] l := by simp [repl]
      rw [e, List.length_append, List.length_cons]
      split <;> simp <;> omega
  have hls := hl s.data.toList
  rw [← size_len] at hls
  unfold strings_ReplaceAll.f
  rw [dif_pos ⟨by omega, rfl, by decide, by decide⟩, Option.bind_some]
  have e0 : ((⟨#[39]⟩ : ByteArray)[0]'(by decide)) = 39 := rfl
  have e2 : (⟨#[39, 92, 39, 39]⟩ : ByteArray).data.toList = [39, 92, 39, 39] := rfl
  rw [e0, e2, if_pos (by rw [size_S]; omega), if_pos (by rw [ByteArray.size_append, h1, size_S]; omega)]
  congr 1
  apply ba_ext
  unfold WP.quoteL
  rw [if_neg hb, data_S]
  simp

theorem quote_l0 (s : ByteArray) (hs : s.size ≤ 1048576) :
    ∀ (n i : Nat), i ≤ s.size → s.size - i < n → (s.data.toList.take i).all WP.bareB = true → word_Quote.l0 n s (s.size : Int) (i : Int) = some (S (WP.quoteL s.data.toList))
  | 0, _, _, h, _ => by omega
  | n + 1, i, hi, hn, ha => by
    rw [word_Quote.l0]
    by_cases hlt : i < s.size
    · obtain ⟨c, hc⟩ : ∃ c, s[i]'hlt = c := ⟨_, rfl⟩
      have ht := take_snoc s i hlt
      rw [hc] at ht
      rw [if_pos (by omega), if_pos (by omega), if_pos (by omega), bt_get s i hlt, hc, ibf, w64 (by omega) (by omega)]
      simp only [Option.bind_some]
      cases hb : WP.bareB c with
      | true =>
        have hnb : ¬ (¬ (97 ≤ c.toNat ∧ c.toNat ≤ 122) ∧ ¬ (65 ≤ c.toNat ∧ c.toNat ≤ 90) ∧ (c.toNat < 48 ∨ 57 < c.toNat) ∧ Lib.indexByte [95, 46, 47, 43, 45, 44, 58, 61, 64, 37] c < 0) := by
          rw [← idx_of, hb]; decide
        have ih := quote_l0 s hs n (i + 1) (by omega) (by omega) (by rw [ht, List.all_append, ha]; simp [hb])
        rw [show ((i + 1 : Nat) : Int) = (i : Int) + 1 by omega] at ih
        rw [ih]
        generalize Lib.indexByte [95, 46, 47, 43, 45, 44, 58, 61, 64, 37] c = z at hnb ⊢
        generalize (some (S (WP.quoteL s.data.toList))) = R
        generalize ((strings_ReplaceAll.f s ⟨#[39]⟩ ⟨#[39, 92, 39, 39]⟩).bind fun t => (if 1 + t.size ≤ 9223372036854775807 then (if ((⟨#[39]⟩ : ByteArray) ++ t).size + 1 ≤ 9223372036854775807 then (some (((⟨#[39]⟩ : ByteArray) ++ t) ++ (⟨#[39]⟩ : ByteArray))) else (none)) else (none))) = Q
        repeat' split
        all_goals first | rfl | (exfalso; omega)
      | false =>
        have hnb := (idx_of c).mp hb
        have hbad : ¬ (s.data.toList.all WP.bareB = true ∧ s.data.toList ≠ []) := by
          rintro ⟨h1, -⟩
          rw [← List.take_append_drop i s.data.toList, List.all_append, drop_cons s i hlt, hc, List.all_cons, hb] at h1
          simp at h1
        rw [quote_bad s hs hbad]
        generalize Lib.indexByte [95, 46, 47, 43, 45, 44, 58, 61, 64, 37] c = z at hnb ⊢
        generalize (some (S (WP.quoteL s.data.toList))) = R
        generalize word_Quote.l0 n s (s.size : Int) ((i : Int) + 1) = Q
        repeat' split
        all_goals first | rfl | (exfalso; omega)
    · have hi' : i = s.size := by omega
      rw [hi', List.take_of_length_le (by rw [← size_len]; exact Nat.le_refl _)] at ha
      rw [if_neg (by omega), Lib.toList_data]
      by_cases h0 : s.data.toList = []
      · rw [if_pos h0, h0]; rfl
      · rw [if_neg h0]
        unfold WP.quoteL
        rw [if_pos ⟨ha, h0⟩, S_data]
theorem quote_f (s : ByteArray) (hs : s.size ≤ 1048576) (n : Nat) (hn : s.size < n) : word_Quote.f n s = some (S (WP.quoteL s.data.toList)) := by
  unfold word_Quote.f
  exact quote_l0 s hs n 0 (by omega) (by omega) (by simp)

theorem pn_app (a b : List UInt8) : pnums (a ++ b) = pnums a ++ pnums b := by simp [pnums]
theorem pn_len (a : List UInt8) : (pnums a).length = a.length := by simp [pnums]
theorem rep_snoc (l : List UInt8) (c : UInt8) : repl 39 [39, 92, 39, 39] (l ++ [c]) = repl 39 [39, 92, 39, 39] l ++ (if c = 39 then [39, 92, 39, 39] else [c]) := by simp [repl]
theorem rep_len (l : List UInt8) : (repl 39 [39, 92, 39, 39] l).length ≤ 4 * l.length := by
  induction l with
  | nil => simp [repl]
  | cons a l ih =>
    have e : repl 39 [39, 92, 39, 39] (a :: l) = (if a = 39 then [39, 92, 39, 39] else [a]) ++ repl 39 [39, 92, 39, 39] l := by simp [repl]
    rw [e, List.length_append, List.length_cons]
    split <;> simp <;> omega

theorem rquote_l0 (s : ByteArray) (hs : s.size ≤ 1048576) :
    ∀ (n i : Nat), i ≤ s.size → s.size - i + 14 < n → bobstayref04_Quote.l0 n s (decide (0 < s.size) && (s.data.toList.take i).all WP.bareB) (pnums (repl 39 [39, 92, 39, 39] (s.data.toList.take i))) (i : Int) = some (S (WP.quoteL s.data.toList))
  | 0, _, _, h => by omega
  | n + 1, i, hi, hn => by
    rw [bobstayref04_Quote.l0]
    have hlen := rep_len (s.data.toList.take i)
    have hl2 : (s.data.toList.take i).length ≤ i := List.length_take_le _ _
    by_cases hlt : i < s.size
    · obtain ⟨c, hc⟩ : ∃ c, s[i]'hlt = c := ⟨_, rfl⟩
      have ht := take_snoc s i hlt
      rw [hc] at ht
      have ih := rquote_l0 s hs n (i + 1) (by omega) (by omega)
      rw [ht, rep_snoc, List.all_append, show ((i + 1 : Nat) : Int) = (i : Int) + 1 by omega, pn_app] at ih
      rw [if_pos (by omega), bt_get s i hlt, hc, w64 (by omega) (by omega)]
      have hb : bobstayref04_bare.f n (c.toNat : Int) = some (WP.bareB c) := by
        obtain ⟨m, rfl⟩ : ∃ m, n = 12 + m := ⟨n - 12, by omega⟩
        exact bare_of c m
      rw [hb]
      simp only [Option.bind_some, List.all_cons, List.all_nil, Bool.and_true] at ih ⊢
      have hpl : (pnums (repl 39 [39, 92, 39, 39] (s.data.toList.take i))).length ≤ 4194304 := by rw [pn_len]; omega
      by_cases h39 : c = 39
      · have h39' : (c.toNat : Int) = 39 := (u8_iff c 39 (by decide)).mpr h39
        rw [if_pos h39] at ih
        rw [if_pos h39', if_pos (show (0 : Int) ≤ (i : Int) by omega), if_pos (show (pnums (repl 39 [39, 92, 39, 39] (s.data.toList.take i))).length + ([39, 92, 39, 39] : List Int).length < 140737488355328 by simp; omega)]
        have e4 : pnums [39, 92, 39, 39] = ([39, 92, 39, 39] : List Int) := rfl
        rw [e4] at ih
        cases hd : (decide (0 < s.size) && (s.data.toList.take i).all WP.bareB) with
        | true => rw [if_pos rfl, ← ih, ← Bool.and_assoc, hd, Bool.true_and]
        | false => rw [if_neg (by decide), if_pos (show (0 : Int) ≤ (i : Int) by omega), if_pos h39', if_pos (show (pnums (repl 39 [39, 92, 39, 39] (s.data.toList.take i))).length + ([39, 92, 39, 39] : List Int).length < 140737488355328 by simp; omega), ← ih, ← Bool.and_assoc, hd, Bool.false_and]
      · have h39' : ¬ (c.toNat : Int) = 39 := fun h => h39 ((u8_iff c 39 (by decide)).mp h)
        rw [if_neg h39] at ih
        rw [if_neg h39', if_pos (show (0 : Int) ≤ (i : Int) by omega), if_pos (show (pnums (repl 39 [39, 92, 39, 39] (s.data.toList.take i))).length < 140737488355328 by omega)]
        have e4 : pnums [c] = ([(c.toNat : Int)] : List Int) := rfl
        rw [e4] at ih
        cases hd : (decide (0 < s.size) && (s.data.toList.take i).all WP.bareB) with
        | true => rw [if_pos rfl, ← ih, ← Bool.and_assoc, hd, Bool.true_and]
        | false => rw [if_neg (by decide), if_pos (show (0 : Int) ≤ (i : Int) by omega), if_neg h39', if_pos (show (pnums (repl 39 [39, 92, 39, 39] (s.data.toList.take i))).length < 140737488355328 by omega), ← ih, ← Bool.and_assoc, hd, Bool.false_and]
    · have hi' : i = s.size := by omega
      have htk : s.data.toList.take i = s.data.toList := List.take_of_length_le (by rw [← size_len]; omega)
      have h1 : (⟨#[39]⟩ : ByteArray).size = 1 := rfl
      rw [htk] at hlen
      rw [← size_len] at hlen
      rw [if_neg (by omega), htk, strOf_pnums]
      unfold WP.quoteL
      by_cases hb : s.data.toList.all WP.bareB = true ∧ s.data.toList ≠ []
      · have hsz : 0 < s.size := by
          rw [size_len]; exact List.length_pos_iff.mpr hb.2
        rw [if_pos hb, if_pos (by rw [hb.1]; simp [hsz]), S_data]
      · rw [if_neg hb, if_neg, if_pos (by rw [size_S]; omega), if_pos (by rw [ByteArray.size_append, h1, size_S]; omega)]
        · congr 1
        · intro h
          rw [Bool.and_eq_true, decide_eq_true_iff] at h
          exact hb ⟨h.2, fun e => by rw [size_len, e] at h; simp at h⟩
theorem rquote_f (s : ByteArray) (hs : s.size ≤ 1048576) (n : Nat) (hn : s.size + 20 < n) : bobstayref04_Quote.f n s = some (S (WP.quoteL s.data.toList)) := by
  unfold bobstayref04_Quote.f
  have := rquote_l0 s hs n 0 (by omega) (by omega)
  simp only [List.take_zero, List.all_nil, Bool.and_true] at this
  have e : (decide ((s.size : Int) > 0)) = decide (0 < s.size) := by
    by_cases h : 0 < s.size
    · rw [decide_eq_true h, decide_eq_true (by omega)]
    · rw [decide_eq_false h, decide_eq_false (by omega)]
  rw [e]; exact this
end Go.Proofs.YtjblkmmpfgjlnaaDoor.Pure
