/- What the printed splits and meanings answer. -/
import Derived.Test.YtjblkmmpfgjlnaaDoorWordA
import Derived.Test.YtjblkmmpfgjlnaaDoorWordK
import Derived.Test.YtjblkmmpfgjlnaaDoorPQx4
import Derived.Test.YtjblkmmpfgjlnaaDoorPQx18
import Derived.Test.YtjblkmmpfgjlnaaDoorPQx16
set_option linter.unusedVariables false
set_option linter.unusedSimpArgs false
namespace Go.Proofs.YtjblkmmpfgjlnaaDoor.Pure
open Go.RowKit Go.Proofs.YtjblkmmpfgjlnaaDoor.PQ Go.Proofs.YtjblkmmpfgjlnaaDoorW.PrintWords Go.Proofs.YtjblkmmpfgjlnaaDoorW.PrintLast Go.Proofs.YtjblkmmpfgjlnaaDoor.Ba

theorem ue (c : UInt8) (k : UInt8) : (((c.toNat : Nat) : Int) = ((k.toNat : Nat) : Int)) = (c = k) := by
  apply propext
  constructor
  · intro h; exact UInt8.toNat_inj.mp (by omega)
  · rintro rfl; rfl
theorem ue92 (c : UInt8) : (((c.toNat : Nat) : Int) = 92) = (c = 92) := ue c 92
theorem ue39 (c : UInt8) : (((c.toNat : Nat) : Int) = 39) = (c = 39) := ue c 39
theorem ue34 (c : UInt8) : (((c.toNat : Nat) : Int) = 34) = (c = 34) := ue c 34
theorem ue32 (c : UInt8) : (((c.toNat : Nat) : Int) = 32) = (c = 32) := ue c 32
theorem ue9 (c : UInt8) : (((c.toNat : Nat) : Int) = 9) = (c = 9) := ue c 9
theorem ue0 (c : UInt8) : (((c.toNat : Nat) : Int) = 0) = (c = 0) := ue c 0
theorem ue98 (c : UInt8) : (((c.toNat : Nat) : Int) = 98) = (c = 98) := ue c 98
theorem ue112 (c : UInt8) : (((c.toNat : Nat) : Int) = 112) = (c = 112) := ue c 112
theorem blank_f (c : UInt8) : bobstayref04_Blank.f (c.toNat : Int) = some (decide (c = 32 ∨ c = 9)) := by
  unfold bobstayref04_Blank.f
  simp only [ue32]
  by_cases h : c = 32
  · simp [h]
  · rw [if_neg h]
    congr 1
    by_cases h9 : c = 9
    · subst h9; rfl
    · have : ¬ (c.toNat : Int) = 9 := by rw [ue9]; exact h9
      simp [h, h9, beq_eq_false_iff_ne.mpr this]
theorem pnums_snoc (acc : List UInt8) (k : UInt8) : pnums acc ++ [((k.toNat : Nat) : Int)] = pnums (acc ++ [k]) := by simp [pnums]

theorem kinds_l0 (s : ByteArray) (hs : s.size ≤ 20000000) :
    ∀ (n i : Nat) (q : UInt8) (tk : Bool) (acc : List UInt8), i ≤ s.size → s.size - i < n → acc.length ≤ i →
      bobstayref04_kinds.l0 n s (pnums acc) (q.toNat : Int) tk (i : Int) = some (S (acc ++ (WP.prs q tk (s.data.toList.drop i)).map (·.2)), WP.isOpen (WP.fin q tk (s.data.toList.drop i)))
  | 0, _, _, _, _, _, h, _ => by omega
  | n + 1, i, q, tk, acc, hi, hn, hacc => by
    rw [bobstayref04_kinds.l0]
    by_cases hlt : i < s.size
    · obtain ⟨c, hc⟩ : ∃ c, s[i]'hlt = c := ⟨_, rfl⟩
      have hd := drop_cons s i hlt
      rw [hc] at hd
      have IH : ∀ (q' : UInt8) (tk' : Bool) (kk : UInt8), bobstayref04_kinds.l0 n s (pnums acc ++ [((kk.toNat : Nat) : Int)]) (q'.toNat : Int) tk' ((i : Int) + 1) = some (S (acc ++ kk :: (WP.prs q' tk' (s.data.toList.drop (i + 1))).map (·.2)), WP.isOpen (WP.fin q' tk' (s.data.toList.drop (i + 1)))) := by
        intro q' tk' kk
        have := kinds_l0 s hs n (i + 1) q' tk' (acc ++ [kk]) (by omega) (by omega) (by simp; omega)
        rw [show ((i + 1 : Nat) : Int) = (i : Int) + 1 by omega] at this
        rw [pnums_snoc, this]; simp
      have i112 := fun q' tk' => IH q' tk' 112
      have i113 := fun q' tk' => IH q' tk' 113
      have i115 := fun q' tk' => IH q' tk' 115
      have i98 := fun q' tk' => IH q' tk' 98
      have j112 := fun tk' => IH 0 tk' 113
      simp only [show (((112 : UInt8).toNat : Nat) : Int) = 112 from rfl] at i112
      simp only [show (((113 : UInt8).toNat : Nat) : Int) = 113 from rfl] at i113
      simp only [show (((115 : UInt8).toNat : Nat) : Int) = 115 from rfl] at i115
      simp only [show (((98 : UInt8).toNat : Nat) : Int) = 98 from rfl] at i98
      simp only [show (((113 : UInt8).toNat : Nat) : Int) = 113 from rfl, show (((0 : UInt8).toNat : Nat) : Int) = 0 from rfl] at j112
      have hl : (pnums acc).length < 140737488355328 := by rw [pn_len']; omega
      rw [if_pos (by omega), if_pos (by omega), bt_get s i hlt, hc, w64 (by omega) (by omega), hd]
      simp only [if_pos hl, ue92, ue39, ue34, ue0, ue, blank_f, Option.bind_some, decide_eq_true_eq]
      simp only [WP.prs, WP.fin, List.map_cons]
      cases tk with
      | true => rw [if_pos rfl, i112]; rfl
      | false =>
        rw [if_neg (by decide)]
        by_cases h92 : c = 92
        · by_cases hq : q = 39
          · subst h92; subst hq; simp [WP.kst]; exact i112 39 false
          · subst h92; simp [hq, WP.kst]; exact i115 q true
        · by_cases hq : q = 0
          · subst hq
            by_cases h39 : c = 39
            · subst h39; simp [WP.kst]; exact i113 39 false
            · by_cases h34 : c = 34
              · subst h34; simp [WP.kst]; exact i113 34 false
              · by_cases hb : c = 32 ∨ c = 9
                · simp [h92, h39, h34, hb, WP.kst]; exact i98 0 false
                · simp [h92, h39, h34, hb, WP.kst]; exact i112 0 false
          · by_cases hcq : c = q
            · subst hcq; simp [h92, hq, WP.kst]; exact j112 false
            · simp [h92, hq, hcq, WP.kst]; exact i112 q false
    · have hz : s.data.toList.drop i = [] := List.drop_of_length_le (by rw [← size_len]; omega)
      rw [if_neg (by omega), hz, strOf_pnums]
      simp only [ue0, WP.prs, WP.fin, List.map_nil, List.append_nil, WP.isOpen]
      by_cases hq : q = 0
      · subst hq; simp
      · rw [if_neg hq]; simp [hq]
where
  pn_len' (a : List UInt8) : (pnums a).length = a.length := by simp [pnums]

/-- the kinds of a text -/
def PR (s : ByteArray) : List (UInt8 × UInt8) := WP.prs 0 false s.data.toList
def OP (s : ByteArray) : Bool := WP.isOpen (WP.fin 0 false s.data.toList)
theorem pr_len (s : ByteArray) : (PR s).length = s.size := by unfold PR; rw [WP.prs_len, ← size_len]
theorem kinds_f (s : ByteArray) (hs : s.size ≤ 20000000) (n : Nat) (hn : s.size < n) : bobstayref04_kinds.f n s = some (S ((PR s).map (·.2)), OP s) := by
  unfold bobstayref04_kinds.f
  exact kinds_l0 s hs n 0 0 false [] (by omega) (by omega) (by simp)
theorem pr_at (s : ByteArray) (i : Nat) (h : i < s.size) : (PR s).drop i = (s[i], ((PR s)[i]'(by rw [pr_len]; exact h)).2) :: (PR s).drop (i + 1) := by
  rw [List.drop_eq_getElem_cons (by rw [pr_len]; exact h)]
  congr 1
  have h1 : ((PR s).map (·.1))[i]? = some s[i] := by
    unfold PR; rw [WP.prs_fst]; exact data_get? s i h
  rw [List.getElem?_map, List.getElem?_eq_getElem (by rw [pr_len]; exact h)] at h1
  simp only [Option.map_some, Option.some.injEq] at h1
  exact Prod.ext h1 rfl
theorem ks_get (s : ByteArray) (i : Nat) (h : i < s.size) : bt (S ((PR s).map (·.2))) (i : Int) = ((((PR s)[i]'(by rw [pr_len]; exact h)).2.toNat : Nat) : Int) := by
  have hz : i < (S ((PR s).map (·.2))).size := by rw [size_S, List.length_map, pr_len]; exact h
  rw [bt_get _ i hz]
  congr 2
  have h1 := data_get? (S ((PR s).map (·.2))) i hz
  rw [data_S, List.getElem?_map, List.getElem?_eq_getElem (by rw [pr_len]; exact h)] at h1
  simp only [Option.map_some, Option.some.injEq] at h1
  exact h1.symm

theorem rmean_l0 (s : ByteArray) (hs : s.size ≤ 20000000) :
    ∀ (n i : Nat) (acc : List UInt8), i ≤ s.size → s.size - i < n → acc.length ≤ i →
      bobstayref04_Mean.l0 n s (S ((PR s).map (·.2))) (pnums acc) (i : Int) = some (S (acc ++ WP.sel ((PR s).drop i)), 0)
  | 0, _, _, _, h, _ => by omega
  | n + 1, i, acc, hi, hn, hacc => by
    rw [bobstayref04_Mean.l0]
    by_cases hlt : i < s.size
    · have hz : (S ((PR s).map (·.2))).size = s.size := by rw [size_S, List.length_map, pr_len]
      have hl : (pnums acc).length < 140737488355328 := by simp [pnums]; omega
      have hp := pr_at s i hlt
      rw [if_pos (by omega), if_pos (by omega), if_pos (by omega), ks_get s i hlt, bt_get s i hlt, w64 (by omega) (by omega), hp]
      simp only [ue112, ue98]
      generalize ((PR s)[i]'(by rw [pr_len]; exact hlt)).2 = k
      have h1 := rmean_l0 s hs n (i + 1) (acc ++ [s[i]]) (by omega) (by omega) (by simp; omega)
      have h2 := rmean_l0 s hs n (i + 1) acc (by omega) (by omega) (by omega)
      rw [show ((i + 1 : Nat) : Int) = (i : Int) + 1 by omega] at h1 h2
      rw [← pnums_snoc] at h1
      by_cases a : k = 112
      · subst a; rw [if_pos rfl, if_pos hl, h1]; simp [WP.sel]
      · rw [if_neg a]
        by_cases b : k = 98
        · subst b; rw [if_pos rfl, if_pos hl, h1]; simp [WP.sel]
        · rw [if_neg b, h2]; simp [WP.sel, a, b]
    · have hz : (PR s).drop i = [] := List.drop_of_length_le (by rw [pr_len]; omega)
      rw [if_neg (by omega), hz, strOf_pnums]; simp [WP.sel]
theorem rmean_f (s : ByteArray) (hs : s.size ≤ 20000000) (n : Nat) (hn : s.size < n) : bobstayref04_Mean.f n s = some (if OP s = true then (⟨#[]⟩, 4) else (S (WP.sel (PR s)), 0)) := by
  unfold bobstayref04_Mean.f
  rw [kinds_f s hs n hn, Option.bind_some]
  by_cases h : OP s = true
  · rw [if_pos h, if_pos h]
  · rw [if_neg h, if_neg h]
    have := rmean_l0 s hs n 0 [] (by omega) (by omega) (by simp)
    simpa [pnums] using this
theorem mean_f (s : ByteArray) (hs : s.size ≤ 20000000) : word_Mean.f s = some (if OP s = true then (⟨#[]⟩, 4) else (S (WP.sel (PR s)), 0)) := by
  unfold word_Mean.f
  rw [if_pos (by omega), WP.mean_kinds _ _ (Nat.lt_succ_self _)]
  by_cases h : OP s = true
  · rw [if_pos h, if_pos (show WP.isOpen (WP.fin 0 false s.data.toList) = true from h)]
  · rw [if_neg h, if_neg (show ¬ WP.isOpen (WP.fin 0 false s.data.toList) = true from h)]; rfl
end Go.Proofs.YtjblkmmpfgjlnaaDoor.Pure
