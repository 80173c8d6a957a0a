/- What the printed splits answer. -/
import Derived.Test.YtjblkmmpfgjlnaaDoorWordS
import Derived.Test.YtjblkmmpfgjlnaaDoorWordK2
set_option linter.unusedVariables false
set_option linter.unusedSimpArgs false
namespace Go.Proofs.YtjblkmmpfgjlnaaDoor.Pure
open Go.RowKit Go.Proofs.YtjblkmmpfgjlnaaDoor.PQ Go.Proofs.YtjblkmmpfgjlnaaDoorW.PrintWords Go.Proofs.YtjblkmmpfgjlnaaDoorW.PrintLast Go.Proofs.YtjblkmmpfgjlnaaDoor.Ba

def FN (l : List ByteArray) : List ByteArray × Int := if (l.length : Int) > 4096 then ([], 5) else (l, 0)
def frm : Option Nat → Int
  | none => -1
  | some j => j
theorem ext_S (s : ByteArray) (j i : Nat) : s.extract j i = S ((s.data.toList.drop j).take (i - j)) := by
  apply ba_ext; rw [data_extract, data_S]

theorem rsplit_l0 (s : ByteArray) (hs : s.size ≤ 20000000) :
    ∀ (n i : Nat) (cur : Option Nat) (out : List ByteArray), i ≤ s.size → s.size + 1 - i < n → out.length ≤ i → (∀ j, cur = some j → j ≤ i) →
      bobstayref04_Split.l0 n s (S ((PR s).map (·.2))) out (frm cur) (i : Int) = some (FN (out ++ (WP.grp ((PR s).drop i) (cur.map fun j => (s.data.toList.drop j).take (i - j))).map S))
  | 0, _, _, _, _, h, _, _ => by omega
  | n + 1, i, cur, out, hi, hn, ho, hc => by
    rw [bobstayref04_Split.l0]
    have hol : out.length < 8796093022208 := by omega
    by_cases hlt : i < s.size
    · have hz : (S ((PR s).map (·.2))).size = s.size := by rw [size_S, List.length_map, pr_len]
      have hp := pr_at s i hlt
      rw [if_pos (by omega), if_pos (by omega), if_pos (by omega), if_pos (by omega), ks_get s i hlt, w64 (by omega) (by omega), hp]
      simp only [ue98]
      generalize ((PR s)[i]'(by rw [pr_len]; exact hlt)).2 = k
      have IH : ∀ (cur' : Option Nat) (out' : List ByteArray), out'.length ≤ i + 1 → (∀ j, cur' = some j → j ≤ i + 1) → bobstayref04_Split.l0 n s (S ((PR s).map (·.2))) out' (frm cur') ((i : Int) + 1) = some (FN (out' ++ (WP.grp ((PR s).drop (i + 1)) (cur'.map fun j => (s.data.toList.drop j).take (i + 1 - j))).map S)) := by
        intro cur' out' h1 h2
        have := rsplit_l0 s hs n (i + 1) cur' out' (by omega) (by omega) h1 h2
        rw [show ((i + 1 : Nat) : Int) = (i : Int) + 1 by omega] at this
        exact this
      by_cases hk : k = 98
      · rw [if_pos hk, if_neg (by simpa using hk)]
        cases cur with
        | none =>
          rw [if_neg (by simp [frm]), IH none out (by omega) (by simp)]
          simp only [Option.map_none, WP.grp]
          rw [if_pos hk]
        | some j =>
          have hj := hc j rfl
          have e : frm (some j) = (j : Int) := rfl
          rw [e, if_pos (by omega), if_pos (by omega), if_pos (by omega), if_pos hol]
          have := IH none (out ++ [s.extract j i]) (by simp; omega) (by simp)
          rw [show frm none = -1 from rfl] at this
          rw [show ((j : Int)).toNat = j by omega, show ((i : Int)).toNat = i by omega, this]
          simp only [Option.map_none, Option.map_some, WP.grp]
          rw [if_pos hk, ext_S]; simp
      · rw [if_neg hk]
        cases cur with
        | none =>
          have := IH (some i) out (by omega) (by intro j hj; cases hj; omega)
          rw [show frm (some i) = (i : Int) from rfl] at this
          rw [if_pos (by simp [frm]), if_pos hk, this]
          simp only [Option.map_none, Option.map_some, WP.grp]
          rw [if_neg hk, drop_cons s i hlt, show i + 1 - i = 1 by omega]; rfl
        | some j =>
          have hj := hc j rfl
          have e : frm (some j) = (j : Int) := rfl
          rw [e, if_neg (by omega), if_pos hk, ← e, IH (some j) out (by omega) (by intro j' hj'; cases hj'; omega)]
          simp only [Option.map_some, WP.grp]
          rw [if_neg hk]
          congr 5
          rw [show i + 1 - j = (i - j) + 1 by omega, List.take_succ_eq_append_getElem (by rw [List.length_drop, ← size_len]; omega), List.getElem_drop]
          congr 2
          have : j + (i - j) = i := by omega
          simp only [this]; rfl
    · obtain rfl : i = s.size := by omega
      have hz : (PR s).drop s.size = [] := List.drop_of_length_le (by rw [pr_len]; exact Nat.le_refl _)
      rw [if_pos (by omega), if_neg (by omega), hz]
      obtain ⟨m, rfl⟩ : ∃ m, n = m + 1 := ⟨n - 1, by omega⟩
      have END : ∀ (out' : List ByteArray) (x : Int), bobstayref04_Split.l0 (m + 1) s (S ((PR s).map (·.2))) out' x (wrap64 ((s.size : Int) + 1)) = some (FN out') := by
        intro out' x
        rw [bobstayref04_Split.l0, w64 (by omega) (by omega), if_neg (by omega)]
        unfold FN
        split <;> rfl
      cases cur with
      | none =>
        rw [if_neg (by simp [frm]), END]
        simp [WP.grp]
      | some j =>
        have hj := hc j rfl
        have e : frm (some j) = (j : Int) := rfl
        rw [e, if_pos (by omega), if_pos (by omega), if_pos (by omega), if_pos hol, END]
        rw [show ((j : Int)).toNat = j by omega, show ((s.size : Int)).toNat = s.size by omega, ext_S]
        simp [WP.grp]
theorem rsplit_f (s : ByteArray) (hs : s.size ≤ 20000000) (n : Nat) (hn : s.size + 1 < n) : bobstayref04_Split.f n s = some (if OP s = true then ([], 4) else FN ((WP.grp (PR s) none).map S)) := by
  unfold bobstayref04_Split.f
  rw [kinds_f s hs n (by omega), Option.bind_some]
  by_cases h : OP s = true
  · rw [if_pos h, if_pos h]
  · rw [if_neg h, if_neg h]
    have := rsplit_l0 s hs n 0 none [] (by omega) (by omega) (by simp) (by simp)
    simpa [frm] using this

def WD (l : List UInt8) (w : Option (List UInt8)) (out : List ByteArray) : List ByteArray × Int :=
  if WP.isOpen (WP.fin 0 false l) = true then ([], 4) else FN (out ++ (WP.grp (WP.prs 0 false l) w).map S)

theorem blank_w (c : UInt8) : word_isBlank.f (c.toNat : Int) = some (WP.bl c) := by
  unfold word_isBlank.f
  simp only [ue32]
  by_cases h : c = 32
  · simp [h, WP.bl]
  · rw [if_neg h]
    congr 1
    by_cases h9 : c = 9
    · subst h9; rfl
    · have : ¬ (c.toNat : Int) = 9 := by rw [ue9]; exact h9
      simp [h, h9, WP.bl, beq_eq_false_iff_ne.mpr this]

mutual
theorem wsplit_l0 : ∀ (n : Nat) (x : ByteArray) (out : List ByteArray), x.size ≤ 20000000 → 3 * x.size + 1 < n → out.length + x.size ≤ 20000000 → word_Split.l0 n x out = some (WD x.data.toList none out)
  | 0, _, _, _, h, _ => by omega
  | n + 1, x, out, hx, hn, ho => by
    rw [word_Split.l0]
    have hT : strings_TrimLeft.f x ⟨#[32, 9]⟩ = some (S (x.data.toList.dropWhile WP.bl)) := by
      unfold strings_TrimLeft.f
      rw [if_pos rfl]; rfl
    obtain ⟨t, ht⟩ : ∃ t, S (x.data.toList.dropWhile WP.bl) = t := ⟨_, rfl⟩
    have htd : t.data.toList = x.data.toList.dropWhile WP.bl := by rw [← ht, data_S]
    have hts : t.size ≤ x.size := by
      rw [size_len, htd, size_len]
      exact (List.dropWhile_sublist _).length_le
    obtain ⟨k1, k2⟩ := WP.trim_kinds x.data.toList
    have hW : WD x.data.toList none out = WD t.data.toList none out := by
      unfold WD; rw [k1, k2, htd]
    rw [hT, Option.bind_some, ht, hW, Lib.toList_data]
    by_cases h0 : t.data.toList = []
    · rw [if_pos h0, h0]
      have : WD [] none out = FN out := by simp [WD, WP.fin, WP.isOpen, WP.prs, WP.grp]
      rw [this]
      unfold FN
      split <;> rfl
    · rw [if_neg h0]
      have hpos : 0 < t.size := by rw [size_len]; exact List.length_pos_iff.mpr h0
      have hfirst : ∀ c l, t.data.toList = c :: l → WP.bl c = false := by
        intro c l e
        rw [htd] at e
        have := List.head_dropWhile_not WP.bl (l := x.data.toList) (by rw [e]; simp)
        simpa [e] using this
      have := wsplit_l1 n t out 0 (by omega) (Nat.zero_le _) (by simp; omega) (by omega) (fun _ => hfirst) hpos
      rw [show (0 : Int) = ((0 : Nat) : Int) from rfl, this, List.take_zero, List.drop_zero]
      unfold WD
      obtain ⟨c, l, e⟩ : ∃ c l, t.data.toList = c :: l := by
        cases h : t.data.toList with
        | nil => exact absurd h h0
        | cons c l => exact ⟨c, l, rfl⟩
      have hb := hfirst c l e
      rw [e]
      simp only [WP.prs]
      rw [WP.grp_start]
      have hb' : ¬ (c = 32 ∨ c = 9) := by simpa [WP.bl] using hb
      exact WP.kst_nb c hb'
theorem wsplit_l1 : ∀ (n : Nat) (t : ByteArray) (out : List ByteArray) (j : Nat), t.size ≤ 20000000 → j ≤ t.size → 3 * (t.size - j) + (if j = 0 then 0 else 2) < n → out.length + t.size ≤ 20000000 →
    (j = 0 → ∀ c l, t.data.toList = c :: l → WP.bl c = false) → 0 < t.size → word_Split.l1 n t out (j : Int) = some (WD (t.data.toList.drop j) (some (t.data.toList.take j)) out)
  | 0, _, _, _, _, _, h, _, _, _ => by omega
  | n + 1, t, out, j, ht, hj, hn, ho, hf, hpos => by
    rw [word_Split.l1]
    have hol : out.length < 8796093022208 := by omega
    have hd : ∀ k, (t.extract k t.size).data.toList = t.data.toList.drop k := by
      intro k; rw [data_extract, List.take_of_length_le (by rw [List.length_drop, ← size_len]; exact Nat.le_refl _)]
    have he : t.extract 0 j = S (t.data.toList.take j) := by rw [ext_S]; simp
    by_cases hlt : j < t.size
    · obtain ⟨c, hc⟩ : ∃ c, t[j]'hlt = c := ⟨_, rfl⟩
      have hdc := drop_cons t j hlt
      rw [hc] at hdc
      rw [if_pos (by omega), if_pos (by omega), bt_get t j hlt, hc, blank_w, Option.bind_some]
      by_cases hb : WP.bl c = true
      · have hj0 : j ≠ 0 := by
          rintro rfl
          rw [List.drop_zero] at hdc
          rw [hf rfl c _ hdc] at hb; exact absurd hb (by decide)
        rw [if_neg hj0] at hn
        rw [if_pos hb, if_pos (by omega), if_pos hol, show ((j : Int)).toNat = j by omega]
        rw [wsplit_l0 n _ _ (by rw [tail_size]; omega) (by rw [tail_size]; omega) (by rw [tail_size, List.length_append, List.length_singleton]; omega), hd, he]
        congr 1
        unfold WD
        rw [hdc]
        simp only [WP.prs, WP.kst_bl c hb, WP.grp]
        rw [if_pos trivial, if_pos trivial]; simp
      · rw [if_neg hb, if_pos (by omega), show ((j : Int)).toNat = j by omega]
        have hsz := tail_size t j
        have hsk := WP.span_kinds c (t.data.toList.drop (j + 1))
        rw [← hdc] at hsk
        unfold word_span.f
        rw [if_pos ⟨by omega, by omega⟩, hd, Option.bind_some]
        cases hs : WP.spanL (t.data.toList.drop j) with
        | none =>
          rw [hs] at hsk
          simp only
          rw [if_neg (by decide)]
          unfold WD
          rw [if_pos hsk]
        | some km =>
          obtain ⟨k, m⟩ := km
          rw [hs] at hsk
          obtain ⟨b1, b2, b3⟩ := WP.span_bd _ _ _ hs
          obtain ⟨a1, a2, a3⟩ := hsk
          have hb' : ¬ (c = 32 ∨ c = 9) := by simpa [WP.bl] using hb
          rw [List.length_drop, ← size_len] at b2
          simp only
          rw [if_pos trivial]
          have i1 : wrap64 ((j : Int) + (k : Int)) = ((j + k : Nat) : Int) := by unfold wrap64; omega
          rw [i1, wsplit_l1 n t out (j + k) ht (by omega) (by rw [if_neg (by omega)]; split at hn <;> omega) ho (by omega) hpos]
          congr 1
          have e0 : t.data.toList.drop j = (t.data.toList.drop j).take k ++ t.data.toList.drop (j + k) := by
            conv => lhs; rw [← List.take_append_drop k (t.data.toList.drop j), List.drop_drop]
          have e1 : WP.fin 0 false (t.data.toList.drop j) = WP.fin 0 false (t.data.toList.drop (j + k)) := by
            conv => lhs; rw [e0]
            rw [WP.fin_append, a1]
          have e2 : WP.prs 0 false (t.data.toList.drop j) = WP.prs 0 false ((t.data.toList.drop j).take k) ++ WP.prs 0 false (t.data.toList.drop (j + k)) := by
            conv => lhs; rw [e0]
            rw [WP.prs_append, a1]
          unfold WD
          rw [e1, e2, WP.grp_run _ _ _ (a2 hb'), WP.prs_fst, List.take_add]
    · obtain rfl : j = t.size := by omega
      have hz : t.data.toList.drop t.size = [] := List.drop_of_length_le (by rw [← size_len]; exact Nat.le_refl _)
      have hj0 : ¬ t.size = 0 := by omega
      rw [if_neg hj0] at hn
      rw [if_neg (by omega), if_pos (by omega), if_pos (by omega), if_pos hol, show ((t.size : Int)).toNat = t.size by omega]
      rw [wsplit_l0 n _ _ (by rw [tail_size]; omega) (by rw [tail_size]; omega) (by rw [tail_size, List.length_append, List.length_singleton]; omega), hd, hz, he]
      congr 1
      simp [WD, WP.fin, WP.isOpen, WP.prs, WP.grp]
end
theorem wsplit_f (s : ByteArray) (hs : s.size ≤ 20000000) (n : Nat) (hn : 3 * s.size + 1 < n) : word_Split.f n s = some (if OP s = true then ([], 4) else FN ((WP.grp (PR s) none).map S)) := by
  unfold word_Split.f
  rw [wsplit_l0 n s [] hs hn (by simpa using hs)]
  rfl
theorem fn_len (l : List ByteArray) : (FN l).1.length ≤ 4096 := by
  unfold FN; split
  · simp
  · show l.length ≤ 4096; omega
theorem same_refl (l : List ByteArray) (hl : l.length ≤ 4096) : ∀ (n i : Nat), i ≤ l.length → l.length - i < n → bobstayref01_Same.l0 n l l (i : Int) = some true
  | 0, _, _, h => by omega
  | n + 1, i, hi, hn => by
    unfold bobstayref01_Same.l0
    by_cases hlt : i < l.length
    · rw [if_pos (by omega), if_pos (by omega), if_pos (by omega), if_pos rfl, w64 (by omega) (by omega), show ((i : Int) + 1) = ((i + 1 : Nat) : Int) by omega]
      exact same_refl l hl n (i + 1) (by omega) (by omega)
    · rw [if_neg (by omega)]
theorem same_f (l : List ByteArray) (hl : l.length ≤ 4096) (n : Nat) (hn : 4096 < n) : bobstayref01_Same.f n l l = some true := by
  unfold bobstayref01_Same.f
  rw [if_pos rfl]
  exact same_refl l hl n 0 (by omega) (by omega)
end Go.Proofs.YtjblkmmpfgjlnaaDoor.Pure
