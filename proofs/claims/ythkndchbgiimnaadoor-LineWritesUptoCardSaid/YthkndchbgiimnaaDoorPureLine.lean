/- What the program reads of a text's lines. -/
import Derived.Test.YthkndchbgiimnaaDoorPLx21
import Derived.Test.YthkndchbgiimnaaDoorLineP
set_option linter.unusedVariables false
set_option linter.unusedSimpArgs false
namespace Go.Proofs.YthkndchbgiimnaaDoor.PureL
open Go.RowKit Go.Proofs.YthkndchbgiimnaaDoor.PL Go.Proofs.YthkndchbgiimnaaDoorW.PrintWords Go.Proofs.YthkndchbgiimnaaDoorW.PrintLast Go.Proofs.YthkndchbgiimnaaDoor.Ba

theorem bt_get (s : ByteArray) (i : Nat) (h : i < s.size) : bt s i = ((s[i]).toNat : Int) := by
  rw [← bt_at s i h]; rfl
theorem w64 {x : Int} (h : 0 ≤ x) (h' : x ≤ 1000000000000) : wrap64 (x + 1) = x + 1 := by unfold wrap64; omega
theorem w64' {x : Int} (h : 0 ≤ x) (h' : x ≤ 1000000000000) : wrap64 x = x := by unfold wrap64; omega
theorem ue (c : UInt8) (k : UInt8) : (((c.toNat : Nat) : Int) = ((k.toNat : Nat) : Int)) = (c = k) := by
  apply propext
  constructor
  · intro h; exact UInt8.toNat_inj.mp (by omega)
  · rintro rfl; rfl
theorem S_nil (l : List UInt8) : ((S l).toList = ([] : List UInt8)) = (l = []) := by rw [Lib.toList_data, data_S]
theorem S_cat (a b : List UInt8) : S a ++ S b = S (a ++ b) := by
  apply ba_ext; rw [data_S]; simp [data_S]
theorem S_one (c : UInt8) : (⟨#[c]⟩ : ByteArray) = S [c] := rfl
theorem rdOf_at (l : List ByteArray) (i : Nat) (h : i < l.length) : rdOf ByteArray.empty l (i : Int) = l[i] := by
  unfold rdOf; simp [List.getD_eq_getElem?_getD, h]
theorem rdOf_S (l : List (List UInt8)) (i : Nat) (h : i < l.length) : rdOf ByteArray.empty (l.map S) (i : Int) = S l[i] := by
  rw [rdOf_at _ _ (by rw [List.length_map]; exact h), List.getElem_map]

/-! ### the library's functions -/
theorem pfx_f (l : List UInt8) : stringslite_HasPrefix.f (S l) (⟨#[9]⟩ : ByteArray) = some (LP.isTab l) := by
  unfold stringslite_HasPrefix.f
  have hz : ((⟨#[9]⟩ : ByteArray).size : Int) = 1 := rfl
  have hl : (⟨#[9]⟩ : ByteArray).toList = [9] := by rw [Lib.toList_data]
  rw [hz, S_size, hl]
  cases l with
  | nil => rfl
  | cons c l =>
    rw [List.length_cons, if_pos (by omega), if_pos (by omega), if_pos (by omega), Lib.toList_data, data_extract, data_S]
    show some (([c] : List UInt8) == [9]) = some (c == 9)
    congr 1
    simp
theorem tail_S (c : UInt8) (l : List UInt8) : (S (c :: l)).extract 1 (S (c :: l)).size = S l := S_drop1 (S (c :: l)) [] l c (by rw [data_S]; rfl)
theorem cut_f (l : List UInt8) (hl : l.length ≤ 100000000) : strings_CutPrefix.f (S l) (⟨#[9]⟩ : ByteArray) = some (S (LP.untab l), LP.isTab l) := by
  unfold strings_CutPrefix.f stringslite_CutPrefix.f
  have hz : ((⟨#[9]⟩ : ByteArray).size : Int) = 1 := rfl
  rw [pfx_f, Option.bind_some, hz]
  cases h : LP.isTab l with
  | false => rw [if_neg Bool.false_ne_true, LP.untab_no l h]; rfl
  | true =>
    cases l with
    | nil => cases h
    | cons c l =>
      have hc : c = 9 := by simpa [LP.isTab] using h
      subst hc
      rw [if_pos rfl, if_pos (by decide), S_size, List.length_cons, if_pos (by omega)]
      show some ((S (9 :: l)).extract 1 (l.length + 1), true) = _
      have := tail_S 9 l
      rw [S_size, List.length_cons] at this
      rw [this]; rfl
theorem trimp_f (l : List UInt8) (hl : l.length ≤ 100000000) : strings_TrimPrefix.f (S l) (⟨#[9]⟩ : ByteArray) = some (S (LP.untab l)) := by
  unfold strings_TrimPrefix.f stringslite_TrimPrefix.f
  have hz : ((⟨#[9]⟩ : ByteArray).size : Int) = 1 := rfl
  rw [pfx_f, Option.bind_some, hz]
  cases h : LP.isTab l with
  | false => rw [if_neg Bool.false_ne_true, LP.untab_no l h]; rfl
  | true =>
    cases l with
    | nil => cases h
    | cons c l =>
      have hc : c = 9 := by simpa [LP.isTab] using h
      subst hc
      rw [if_pos rfl, if_pos (by decide), S_size, List.length_cons, if_pos (by omega)]
      show some ((S (9 :: l)).extract 1 (l.length + 1)) = _
      have := tail_S 9 l
      rw [S_size, List.length_cons] at this
      rw [this]; rfl
theorem triml_f (l : List UInt8) : strings_TrimLeft.f (S l) (⟨#[32, 9]⟩ : ByteArray) = some (S (l.dropWhile LP.bl)) := by
  unfold strings_TrimLeft.f
  rw [if_pos rfl, data_S]; rfl
theorem set1 (c : UInt8) : (⟨#[c]⟩ : ByteArray).data.toList.contains = fun x => x == c := by
  show ([c] : List UInt8).contains = _
  funext x
  rw [List.contains_cons, List.contains_nil, Bool.or_false]
theorem set2 : (⟨#[32, 9]⟩ : ByteArray).data.toList.contains = LP.bl := by
  show ([32, 9] : List UInt8).contains = _
  funext x
  rw [List.contains_cons, List.contains_cons, List.contains_nil, Bool.or_false]; rfl
theorem rtrim_len (p : UInt8 → Bool) (l : List UInt8) : (LP.rtrim p l).length ≤ l.length := by
  unfold LP.rtrim
  rw [List.length_reverse]
  have := (List.dropWhile_suffix (p := p) (l := l.reverse)).length_le
  rw [List.length_reverse] at this
  exact this
theorem goes_f (l : List UInt8) (hl : l.length ≤ 100000000) : line_goesOn.f (S l) = some (LP.goes l) := by
  unfold line_goesOn.f strings_TrimRight.f
  rw [if_pos ⟨by decide, by decide, by rw [S_size]; omega, by decide⟩, Option.bind_some, data_S, set1, S_size, S_size]
  have h := rtrim_len (fun x => x == 92) l
  have e : (trimR (fun x => x == 92) l).length = (LP.rtrim (fun x => x == 92) l).length := rfl
  rw [e]
  unfold LP.goes
  rw [w64' (by omega) (by omega)]
  congr 1
  rw [Int.tmod_eq_emod_of_nonneg (by omega), Bool.eq_iff_iff, beq_iff_eq, beq_iff_eq]
  omega
theorem trim_f (l : List UInt8) (hl : l.length ≤ 100000000) : strings_Trim.f (S l) (⟨#[32, 9]⟩ : ByteArray) = some (S ((LP.rtrim LP.bl l).dropWhile LP.bl)) := by
  unfold strings_Trim.f
  rw [if_pos ⟨by decide, by decide, by rw [S_size]; omega, by decide⟩, data_S, set2]; rfl
theorem plain_f (l : List UInt8) (hl : l.length ≤ 100000000) : line_plain.f (S l) = some (S (LP.plainL l)) := by
  unfold line_plain.f
  rw [if_pos (by rw [S_size]; omega), data_S]
theorem split_f (l : List UInt8) (hl : l.length ≤ 100000000) : strings_Split.f (S l) (⟨#[10]⟩ : ByteArray) = some ((LP.splitL l).map S) := by
  unfold strings_Split.f
  rw [if_pos ⟨rfl, by rw [S_size]; omega⟩, data_S]
theorem unend_f (l : List UInt8) (hl : l.length ≤ 100000000) : strings_TrimSuffix.f (S l) (⟨#[10]⟩ : ByteArray) = some (S (LP.unend l)) := by
  unfold strings_TrimSuffix.f stringslite_TrimSuffix.f stringslite_HasSuffix.f
  have hz : ((⟨#[10]⟩ : ByteArray).size : Int) = 1 := rfl
  have hzl : (⟨#[10]⟩ : ByteArray).toList = [10] := by rw [Lib.toList_data]
  rw [hz, S_size, hzl]
  rcases List.eq_nil_or_concat l with rfl | ⟨l', d, rfl⟩
  · rfl
  · rw [List.concat_eq_append] at hl ⊢
    rw [List.length_append, List.length_singleton] at hl ⊢
    have hw : wrap64 (((l'.length + 1 : Nat) : Int) - 1) = (l'.length : Int) := by rw [w64' (by omega) (by omega)]; omega
    have e1 : (S (l' ++ [d])).extract l'.length (l'.length + 1) = S [d] := by
      have := S_drop (S (l' ++ [d])) l' [d] (by rw [data_S])
      rw [S_size, List.length_append, List.length_singleton] at this
      exact this
    have e2 := S_take (S (l' ++ [d])) l' [d] (by rw [data_S])
    rw [hw, if_pos (by omega), if_pos (by omega), if_pos (by omega), Int.toNat_natCast, e1, Option.bind_some, Lib.toList_data, data_S, e2]
    unfold LP.unend
    have hlast : (l' ++ [d]).getLast? = some d := by simp
    rw [hlast]
    by_cases hd : d = 10
    · subst hd
      rw [if_pos (by decide), if_pos (by omega), if_pos (by omega), if_pos rfl, List.dropLast_concat]; rfl
    · rw [if_neg (by simpa using hd), if_neg (by simpa using hd)]; rfl

/-! ### the lines -/
def toS (x : LP.Ln) : S30 := ⟨S x.t, (x.at_ : Int), x.c⟩
/-- as the program reads them: the lines, or a fault -/
def readE (L : Nat) : Nat → List S30 → List (List UInt8) → List S30 × Int × Int
  | 0, out, _ => (out, 0, 0)
  | _ + 1, out, [] => (out, 0, 0)
  | f + 1, out, l :: r =>
    match LP.gather (LP.isTab l) (LP.untab l) r with
    | none => ([], 4, (L : Int))
    | some (t, r') =>
      if (LP.text (LP.isTab l) t).all LP.bl = true then readE L f out r'
      else if out.length = 4096 then ([], 5, ((L - r.length : Nat) : Int))
      else readE L f (out ++ [⟨S (LP.text (LP.isTab l) t), ((L - r.length : Nat) : Int), LP.isTab l⟩]) r'
theorem readE_fuel (L : Nat) : ∀ (f g : Nat) (out : List S30) (l : List (List UInt8)), l.length ≤ f → l.length ≤ g → readE L f out l = readE L g out l
  | 0, 0, _, _, _, _ => rfl
  | 0, g + 1, _, [], _, _ => rfl
  | f + 1, 0, _, [], _, _ => rfl
  | f + 1, g + 1, _, [], _, _ => rfl
  | f + 1, g + 1, out, l :: r, h1, h2 => by
    unfold readE
    cases e : LP.gather (LP.isTab l) (LP.untab l) r with
    | none => rfl
    | some p =>
      obtain ⟨t, r'⟩ := p
      have := LP.gather_le _ _ _ _ _ e
      simp only [List.length_cons] at h1 h2
      simp only []
      rw [readE_fuel L f g out r' (by omega) (by omega), readE_fuel L f g _ r' (by omega) (by omega)]
theorem gather_drop (cmd : Bool) : ∀ (r : List (List UInt8)) (t u : List UInt8) (r' : List (List UInt8)), LP.gather cmd t r = some (u, r') → r' = r.drop (r.length - r'.length)
  | [], t, u, r', h => by
    unfold LP.gather at h
    split at h
    · cases h
    · injection h with h; injection h with _ h; subst h; rfl
  | n :: r, t, u, r', h => by
    have hle := LP.gather_le _ _ _ _ _ h
    unfold LP.gather at h
    split at h
    · have h1 := gather_drop cmd r _ u r' h
      have h2 := LP.gather_le _ _ _ _ _ h
      rw [List.length_cons, show r.length + 1 - r'.length = (r.length - r'.length) + 1 by omega, List.drop_succ_cons]
      exact h1
    · injection h with h; injection h with _ h; subst h
      simp
def tot : List (List UInt8) → Nat
  | [] => 0
  | s :: l => s.length + 1 + tot l
theorem tot_cons (s : List UInt8) (l : List (List UInt8)) : tot (s :: l) = s.length + 1 + tot l := rfl
theorem untab_len (l : List UInt8) : (LP.untab l).length ≤ l.length := by
  cases l with
  | nil => exact Nat.le_refl _
  | cons c l =>
    show (if c = 9 then l else c :: l).length ≤ _
    split
    · rw [List.length_cons]; omega
    · exact Nat.le_refl _
theorem join_len (cmd : Bool) (t n : List UInt8) : (LP.join1 cmd t n).length ≤ t.length + n.length + 1 := by
  unfold LP.join1
  split
  · rw [List.length_append, List.length_cons]
    have := untab_len n
    omega
  · rw [List.length_append, List.length_cons, List.length_dropLast]
    have := (List.dropWhile_suffix (p := LP.bl) (l := n)).length_le
    omega
theorem gather_len (cmd : Bool) : ∀ (r : List (List UInt8)) (t u : List UInt8) (r' : List (List UInt8)), LP.gather cmd t r = some (u, r') → u.length + tot r' ≤ t.length + tot r
  | [], t, u, r', h => by
    unfold LP.gather at h
    split at h
    · cases h
    · injection h with h; injection h with h1 h2; subst h1; subst h2; exact Nat.le_refl _
  | n :: r, t, u, r', h => by
    unfold LP.gather at h
    split at h
    · have h1 := gather_len cmd r _ u r' h
      have h2 := join_len cmd t n
      rw [tot_cons]; omega
    · injection h with h; injection h with h1 h2; subst h1; subst h2; exact Nat.le_refl _
theorem plainA_len : ∀ (s h : List UInt8), (LP.plainA h s).length ≤ h.length + s.length
  | [], h => Nat.le_refl _
  | c :: s, h => by
    rw [LP.plainA]
    split
    · split
      · have := plainA_len s []
        rw [List.length_append, List.length_cons, List.length_dropLast, List.length_cons]
        rw [List.length_nil] at this
        rename_i hg
        have hl := LP.goes_last h hg
        have : 1 ≤ h.length := by
          cases h with
          | nil => cases hl
          | cons _ _ => rw [List.length_cons]; omega
        omega
      · omega
    · have := plainA_len s (h ++ [c])
      rw [List.length_append, List.length_singleton] at this
      rw [List.length_cons]; omega
theorem text_len (cmd : Bool) (t : List UInt8) : (LP.text cmd t).length ≤ t.length := by
  unfold LP.text
  split
  · exact Nat.le_refl _
  · unfold LP.plainL
    have h1 := rtrim_len LP.bl (LP.plainA [] t)
    have h2 := plainA_len t []
    rw [List.length_nil] at h2
    omega
theorem read_j2 (ls : List (List UInt8)) (out : List S30) (i : Nat) (x : List UInt8) (at_ : Int) (cmd : Bool) (hx : x.length ≤ 10000000) (hi : i < 10000000) (ho : out.length ≤ 4096) (n : Nat) :
    line_Read.j2 (n + 1) (ls.map S) out (i : Int) (S x) at_ cmd = if x.all LP.bl = true then line_Read.l0 n (ls.map S) out ((i + 1 : Nat) : Int) else if out.length = 4096 then some ([], 5, at_) else line_Read.l0 n (ls.map S) (out ++ [⟨S x, at_, cmd⟩]) ((i + 1 : Nat) : Int) := by
  rw [line_Read.j2, trim_f x (by omega), Option.bind_some, w64 (by omega) (by omega)]
  have e : (S ((LP.rtrim LP.bl x).dropWhile LP.bl)).toList = [] ↔ x.all LP.bl = true := by rw [S_nil]; exact LP.trim_nil LP.bl x
  have ei : ((i : Int) + 1) = ((i + 1 : Nat) : Int) := by omega
  rw [ei]
  by_cases h : x.all LP.bl = true
  · rw [if_pos (e.mpr h), if_pos h]
  · rw [if_neg (fun h' => h (e.mp h')), if_neg h]
    by_cases h4 : out.length = 4096
    · rw [if_pos (by omega), if_pos h4]
    · rw [if_neg (by omega), if_neg h4, if_pos (by omega)]
theorem ar1 {a b c d j : Nat} (h : a + (b + 1 + c) ≤ d) (hj : j ≤ a + b + 1) : j + c ≤ d := by omega
theorem ar2 {a k : Nat} (h : 3 * (a + 1) + 3 ≤ k + 1) : 3 * a + 3 ≤ k := by omega
theorem ar3 {a b : Nat} (h : a < b) : ¬ (a : Int) = (b : Int) := by omega
theorem ar4 {a b c u : Nat} (h : a + (b + 1 + c) ≤ 1000000) (hu : u ≤ b) : 1 + u ≤ 9223372036854775807 ∧ a + (1 + u) ≤ 9223372036854775807 ∧ b ≤ 100000000 := by omega
theorem ar5 {a b c u : Nat} (h : a + 1 + (b + 1 + c) ≤ 1000000) (hu : u ≤ b) : a + 1 ≤ 9223372036854775807 ∧ a + 1 + u ≤ 9223372036854775807 := by omega
section
variable (ls : List (List UInt8)) (out : List S30) (at_ : Int) (cmd : Bool) (R : List S30 → List (List UInt8) → List S30 × Int × Int)
/-- what stands behind lines that were put together -/
def endR (t : List UInt8) (r : List (List UInt8)) : List S30 × Int × Int :=
  if (LP.text cmd t).all LP.bl = true then R out r else if out.length = 4096 then ([], 5, at_) else R (out ++ [⟨S (LP.text cmd t), at_, cmd⟩]) r
theorem read_end (hL : ls.length ≤ 1000000) (ho : out.length ≤ 4096) (m : Nat)
    (IH : ∀ (out' : List S30) (j n : Nat), out'.length ≤ 4096 → m < j → j ≤ ls.length → 3 * (ls.length - j) + 1 ≤ n → line_Read.l0 n (ls.map S) out' (j : Int) = some (R out' (ls.drop j)))
    (i : Nat) (t : List UInt8) (k : Nat) (hmi : m ≤ i) (hi : i < ls.length) (ht : t.length ≤ 1000000) (hk : 3 * (ls.length - (i + 1)) + 2 ≤ k) :
    (if cmd = true then line_Read.j2 k (ls.map S) out (i : Int) (S t) at_ cmd else (line_plain.f (S t)).bind fun t145 => line_Read.j2 k (ls.map S) out (i : Int) t145 at_ cmd) = some (endR out at_ cmd R t (ls.drop (i + 1))) := by
  obtain ⟨k, rfl⟩ : ∃ k', k = k' + 1 := ⟨k - 1, by omega⟩
  have e : (if cmd = true then line_Read.j2 (k + 1) (ls.map S) out (i : Int) (S t) at_ cmd else (line_plain.f (S t)).bind fun t145 => line_Read.j2 (k + 1) (ls.map S) out (i : Int) t145 at_ cmd) = line_Read.j2 (k + 1) (ls.map S) out (i : Int) (S (LP.text cmd t)) at_ cmd := by
    unfold LP.text
    cases cmd with
    | true => rfl
    | false => rw [if_neg Bool.false_ne_true, plain_f t (by omega), Option.bind_some, if_neg Bool.false_ne_true]
  have htl := text_len cmd t
  rw [e, read_j2 ls out i _ at_ cmd (by omega) (by omega) ho k]
  unfold endR
  by_cases hb : (LP.text cmd t).all LP.bl = true
  · rw [if_pos hb, if_pos hb, IH out (i + 1) k ho (by omega) (by omega) (by omega)]
  · rw [if_neg hb, if_neg hb]
    by_cases h4 : out.length = 4096
    · rw [if_pos h4, if_pos h4]
    · rw [if_neg h4, if_neg h4, IH _ (i + 1) k (by rw [List.length_append, List.length_singleton]; omega) (by omega) (by omega) (by omega)]
theorem gather_stop (t : List UInt8) (r : List (List UInt8)) (hg : LP.goes t = false) : LP.gather cmd t r = some (t, r) := by
  cases r with
  | nil => unfold LP.gather; rw [hg]; rfl
  | cons n r => unfold LP.gather; rw [hg]; rfl
theorem read_l1 (hL : ls.length ≤ 1000000) (ho : out.length ≤ 4096) (m : Nat)
    (IH : ∀ (out' : List S30) (j n : Nat), out'.length ≤ 4096 → m < j → j ≤ ls.length → 3 * (ls.length - j) + 1 ≤ n → line_Read.l0 n (ls.map S) out' (j : Int) = some (R out' (ls.drop j))) :
    ∀ (r : List (List UInt8)) (i : Nat) (t : List UInt8) (n : Nat), m ≤ i → i < ls.length → ls.drop (i + 1) = r → t.length + tot r ≤ 1000000 → 3 * r.length + 3 ≤ n →
      line_Read.l1 n (ls.map S) out (i : Int) (S t) at_ cmd = some (match LP.gather cmd t r with
        | none => ([], 4, (ls.length : Int))
        | some (u, r') => endR out at_ cmd R u r')
  | [], i, t, n, hmi, hi, hr, ht, hn => by
    have hrl : ls.length - (i + 1) = 0 := by rw [← List.length_drop, hr]; rfl
    obtain ⟨k, rfl⟩ : ∃ k, n = k + 1 := ⟨n - 1, by omega⟩
    have hw : wrap64 ((i : Int) + 1) = ((i + 1 : Nat) : Int) := by rw [w64 (by omega) (by omega)]; omega
    rw [line_Read.l1, goes_f t (by omega), Option.bind_some, hw, List.length_map]
    cases hg : LP.goes t with
    | false =>
      rw [if_neg Bool.false_ne_true, gather_stop cmd t [] hg, ← hr]
      exact read_end ls out at_ cmd R hL ho m IH i t k hmi hi (by omega) (by rw [hrl]; simp at hn; omega)
    | true =>
      rw [if_pos rfl, if_pos (by omega)]
      unfold LP.gather
      rw [hg]; rfl
  | nx :: r, i, t, n, hmi, hi, hr, ht, hn => by
    have hrl : ls.length - (i + 1) = r.length + 1 := by rw [← List.length_drop, hr]; rfl
    obtain ⟨k, rfl⟩ : ∃ k, n = k + 1 := ⟨n - 1, by omega⟩
    rw [List.length_cons] at hn
    rw [tot_cons] at ht
    have hw : wrap64 ((i : Int) + 1) = ((i + 1 : Nat) : Int) := by rw [w64 (by omega) (by omega)]; omega
    rw [line_Read.l1, goes_f t (by omega), Option.bind_some, hw, List.length_map]
    cases hg : LP.goes t with
    | false =>
      rw [if_neg Bool.false_ne_true, gather_stop cmd t _ hg, ← hr]
      exact read_end ls out at_ cmd R hL ho m IH i t k hmi hi (by omega) (by omega)
    | true =>
      have HG := Lib.hid hg
      clear hg
      have hlt : i + 1 < ls.length := Nat.lt_of_sub_pos (by rw [hrl]; exact Nat.succ_pos _)
      have hd := List.drop_eq_getElem_cons hlt
      rw [hr] at hd
      injection hd with h1 h2
      have hjl := join_len cmd t nx
      have hrd : rdOf ByteArray.empty (ls.map S) ((i + 1 : Nat) : Int) = S nx := by rw [rdOf_S ls (i + 1) hlt, h1]
      have hga : LP.gather cmd t (nx :: r) = LP.gather cmd (LP.join1 cmd t nx) r := by
        rw [LP.gather, if_pos HG.out]
      have NEXT := read_l1 hL ho m IH r (i + 1) (LP.join1 cmd t nx) k (Nat.le_succ_of_le hmi) hlt h2.symm (ar1 ht hjl) (ar2 hn)
      rw [if_pos rfl, hga, if_neg (ar3 hlt), hrd, ← NEXT]
      have n0 : (0 : Int) ≤ ((i + 1 : Nat) : Int) := Int.natCast_nonneg _
      have n1 : ((i + 1 : Nat) : Int) < (ls.length : Int) := Int.ofNat_lt.mpr hlt
      clear NEXT IH hrl hw hga hrd h1 h2 hr
      cases cmd with
      | true =>
        obtain ⟨a1, a2, a3⟩ := ar4 ht (untab_len nx)
        have hcat : S t ++ (S [10] ++ S (LP.untab nx)) = S (LP.join1 true t nx) := by
          rw [S_cat, S_cat]; rfl
        have z1 : (S t).size + ((⟨#[10]⟩ : ByteArray) ++ S (LP.untab nx)).size = t.length + (1 + (LP.untab nx).length) := by rw [S_one, S_cat, S_size, S_size, List.length_append, List.length_singleton]
        rw [if_pos rfl, if_pos n0, if_pos n1, trimp_f nx a3, Option.bind_some, if_pos (by rw [S_size]; exact a1), if_pos (by rw [z1]; exact a2), S_one, hcat]
      | false =>
        have hne : t ≠ [] := by rintro rfl; exact absurd HG.out (by decide)
        clear HG
        obtain ⟨t', d, rfl⟩ : ∃ t' d, t = t' ++ [d] := ⟨t.dropLast, t.getLast hne, (List.dropLast_concat_getLast _).symm⟩
        rw [List.length_append, List.length_singleton] at ht hjl
        have hts : t'.length + 1 ≤ 1000000 := by omega
        have hw2 : wrap64 (((S (t' ++ [d])).size : Int) - 1) = (t'.length : Int) := by rw [S_size, List.length_append, List.length_singleton, w64' (by omega) (by omega)]; omega
        have hex : (S (t' ++ [d])).extract 0 t'.length = S t' := S_take _ t' [d] (by rw [data_S])
        have hdl := (List.dropWhile_suffix (p := LP.bl) (l := nx)).length_le
        obtain ⟨a1, a2⟩ := ar5 ht hdl
        have hcat : (S t' ++ S [32]) ++ S (nx.dropWhile LP.bl) = S (LP.join1 false (t' ++ [d]) nx) := by
          rw [S_cat, S_cat]
          unfold LP.join1
          rw [if_neg Bool.false_ne_true, List.dropLast_concat]
          simp
        have z1 : (S t' ++ (⟨#[32]⟩ : ByteArray)).size + (S (nx.dropWhile LP.bl)).size = t'.length + 1 + (nx.dropWhile LP.bl).length := by rw [S_one, S_cat, S_size, S_size, List.length_append, List.length_singleton]
        have z2 : (t'.length : Int) ≤ ((S (t' ++ [d])).size : Int) := by rw [S_size, List.length_append, List.length_singleton]; omega
        rw [if_neg Bool.false_ne_true, hw2, if_pos (Int.natCast_nonneg _), if_pos z2, Int.toNat_natCast, hex, if_pos (by rw [S_size]; exact a1), if_pos n0, if_pos n1, triml_f, Option.bind_some, if_pos (by rw [z1]; exact a2), S_one, hcat]
end
theorem tot_drop (l : List (List UInt8)) (k : Nat) : tot (l.drop k) ≤ tot l := by
  induction k generalizing l with
  | zero => exact Nat.le_refl _
  | succ k ih =>
    cases l with
    | nil => exact Nat.le_refl _
    | cons s l => rw [List.drop_succ_cons, tot_cons]; exact Nat.le_trans (ih l) (by omega)
theorem ar6 {L i j m : Nat} (hm : L - i ≤ m + 1) (h : i < j) (hj : j ≤ L) : L - j ≤ m := by omega
theorem ar7 {a c T u : Nat} (h : a + 1 + c ≤ T) (hT : T ≤ 1000000) (hu : u ≤ a) : u + c ≤ 1000000 := by omega
theorem ar8 {D L i k : Nat} (h : D = L - (i + 1)) (hn : 3 * (L - i) + 1 ≤ k + 1) (hi : i < L) : 3 * D + 3 ≤ k := by omega
theorem ar9 {D L i : Nat} (h : D = L - (i + 1)) (hi : i < L) : L - D = i + 1 := by omega
theorem ar10 {D L i q x : Nat} (h : D = L - (i + 1)) (hi : i < L) (hq : L = q + 1) (hx : x ≤ D) : x ≤ L ∧ x ≤ q := by omega
theorem read_l0 (ls : List (List UInt8)) (hL : ls.length ≤ 1000000) (hT : tot ls ≤ 1000000) :
    ∀ (m : Nat) (out : List S30) (i n : Nat), out.length ≤ 4096 → i ≤ ls.length → ls.length - i ≤ m → 3 * (ls.length - i) + 1 ≤ n →
      line_Read.l0 n (ls.map S) out (i : Int) = some (readE ls.length ls.length out (ls.drop i))
  | 0, out, i, n, ho, hi, hm, hn => by
    obtain ⟨k, rfl⟩ : ∃ k, n = k + 1 := ⟨n - 1, by omega⟩
    have hz : ls.drop i = [] := List.drop_of_length_le (by omega)
    rw [line_Read.l0, List.length_map, if_neg (by omega), hz]
    cases ls.length <;> rfl
  | m + 1, out, i, n, ho, hi, hm, hn => by
    obtain ⟨k, rfl⟩ : ∃ k, n = k + 1 := ⟨n - 1, by omega⟩
    rw [line_Read.l0, List.length_map]
    by_cases hlt : i < ls.length
    · have hd := List.drop_eq_getElem_cons hlt
      have hl2 : (ls.drop (i + 1)).length = ls.length - (i + 1) := List.length_drop ..
      have htd := tot_drop ls i
      rw [hd, tot_cons] at htd
      have hun := untab_len ls[i]
      rw [if_pos (by omega), if_pos (by omega), rdOf_S ls i hlt, cut_f _ (by omega), Option.bind_some]
      have hw : wrap64 ((i : Int) + 1) = ((i + 1 : Nat) : Int) := by rw [w64 (by omega) (by omega)]; omega
      have IH : ∀ (out' : List S30) (j n : Nat), out'.length ≤ 4096 → i < j → j ≤ ls.length → 3 * (ls.length - j) + 1 ≤ n → line_Read.l0 n (ls.map S) out' (j : Int) = some (readE ls.length ls.length out' (ls.drop j)) :=
        fun out' j n' h1 h2 h3 h4 => read_l0 ls hL hT m out' j n' h1 h3 (ar6 hm h2 h3) h4
      have hb1 : (LP.untab ls[i]).length + tot (ls.drop (i + 1)) ≤ 1000000 := ar7 htd hT hun
      have hb2 : 3 * (ls.drop (i + 1)).length + 3 ≤ k := ar8 hl2 hn hlt
      simp only []
      rw [hw, hd]
      obtain ⟨l, hl⟩ : ∃ l, ls[i] = l := ⟨_, rfl⟩
      obtain ⟨r, hr⟩ : ∃ r, ls.drop (i + 1) = r := ⟨_, rfl⟩
      rw [hl, hr] at hb1
      rw [hr] at hb2 hl2
      rw [hl, hr, read_l1 ls out ((i + 1 : Nat) : Int) (LP.isTab l) (fun o r => readE ls.length ls.length o r) hL ho i IH r i (LP.untab l) k (Nat.le_refl _) hlt hr hb1 hb2]
      congr 1
      obtain ⟨q, hq⟩ : ∃ q, ls.length = q + 1 := ⟨ls.length - 1, (Nat.sub_add_cancel (Nat.lt_of_le_of_lt (Nat.zero_le i) hlt)).symm⟩
      have hLi : ls.length - r.length = i + 1 := ar9 hl2 hlt
      have hqq : ∀ (o : List S30) (u : List UInt8) (r' : List (List UInt8)), LP.gather (LP.isTab l) (LP.untab l) r = some (u, r') → readE ls.length ls.length o r' = readE ls.length q o r' := by
        intro o u r' hg
        have := LP.gather_le _ _ _ _ _ hg
        exact readE_fuel _ _ _ _ _ (ar10 hl2 hlt hq this).1 (ar10 hl2 hlt hq this).2
      have hE : readE ls.length ls.length out (l :: r) = readE ls.length (q + 1) out (l :: r) := by rw [← hq]
      rw [hE, readE, hLi]
      cases hg : LP.gather (LP.isTab l) (LP.untab l) r with
      | none => rfl
      | some p =>
        obtain ⟨u, r'⟩ := p
        unfold endR
        simp only []
        rw [hqq _ u r' hg, hqq _ u r' hg]
    · have hz : ls.drop i = [] := List.drop_of_length_le (by omega)
      rw [if_neg (by omega), hz]
      cases ls.length <;> rfl
theorem readE_F (L : Nat) : ∀ (f k : Nat) (out : List S30) (l : List (List UInt8)), k + l.length = L → out.length ≤ 4096 →
    ∃ e g : Int, e ≠ 0 ∧ readE L f out l = match LP.readF f k l with
      | none => ([], e, g)
      | some o => if out.length + o.length ≤ 4096 then (out ++ o.map toS, 0, 0) else ([], e, g)
  | 0, k, out, l, _, ho => ⟨1, 0, by decide, by
      simp only [readE, LP.readF, List.length_nil, Nat.add_zero, List.map_nil, List.append_nil]
      rw [if_pos ho]⟩
  | f + 1, k, out, [], _, ho => ⟨1, 0, by decide, by
      simp only [readE, LP.readF, List.length_nil, Nat.add_zero, List.map_nil, List.append_nil]
      rw [if_pos ho]⟩
  | f + 1, k, out, l :: r, hk, ho => by
    rw [List.length_cons] at hk
    unfold readE LP.readF
    cases hg : LP.gather (LP.isTab l) (LP.untab l) r with
    | none => exact ⟨4, (L : Int), by decide, rfl⟩
    | some p =>
      obtain ⟨t, r'⟩ := p
      simp only []
      have hle := LP.gather_le _ _ _ _ _ hg
      by_cases hb : (LP.text (LP.isTab l) t).all LP.bl = true
      · obtain ⟨e, g, he, h⟩ := readE_F L f (k + 1 + (r.length - r'.length)) out r' (by omega) ho
        refine ⟨e, g, he, ?_⟩
        rw [if_pos hb, h]
        cases hf : LP.readF f (k + 1 + (r.length - r'.length)) r' with
        | none => rfl
        | some o => simp only []; rw [if_pos hb]
      · rw [if_neg hb]
        have hLk : L - r.length = k + 1 := by omega
        rw [hLk]
        by_cases h4 : out.length = 4096
        · refine ⟨5, ((k + 1 : Nat) : Int), by decide, ?_⟩
          rw [if_pos h4]
          cases hf : LP.readF f (k + 1 + (r.length - r'.length)) r' with
          | none => rfl
          | some o =>
            simp only []
            rw [if_neg hb]
            simp only [List.length_cons]
            rw [if_neg (by omega)]
        · obtain ⟨e, g, he, h⟩ := readE_F L f (k + 1 + (r.length - r'.length)) (out ++ [⟨S (LP.text (LP.isTab l) t), ((k + 1 : Nat) : Int), LP.isTab l⟩]) r' (by omega) (by rw [List.length_append, List.length_singleton]; omega)
          refine ⟨e, g, he, ?_⟩
          rw [if_neg h4, h]
          cases hf : LP.readF f (k + 1 + (r.length - r'.length)) r' with
          | none => rfl
          | some o =>
            simp only []
            rw [if_neg hb]
            simp only [List.length_append, List.length_cons, List.length_nil]
            by_cases h5 : out.length + (0 + 1) + o.length ≤ 4096
            · rw [if_pos h5, if_pos (by omega), List.append_assoc]; rfl
            · rw [if_neg h5, if_neg (by omega)]
theorem tot_split (s : List UInt8) : ∀ h : List UInt8, tot (LP.splitA h s) = h.length + s.length + 1 := by
  induction s with
  | nil => intro h; simp [LP.splitA, tot]
  | cons c s ih =>
    intro h
    rw [LP.splitA]
    split
    · rw [tot_cons, ih, List.length_nil, List.length_cons]; omega
    · rw [ih, List.length_append, List.length_singleton, List.length_cons]; omega
/-- what line.Read answers -/
theorem read_f (s : List UInt8) (hs : s.length ≤ 10000000) (n : Nat) (hn : 300000 ≤ n) : ∃ e g : Int, e ≠ 0 ∧ line_Read.f n (S s) = some (match LP.readS s with
      | none => ([], e, g)
      | some o => (o.map toS, 0, 0)) := by
  unfold line_Read.f LP.readS
  rw [S_size]
  have e1 : (S s).toList = [] ↔ s = [] := by rw [S_nil]
  by_cases h1 : 65536 < s.length
  · exact ⟨5, 0, by decide, by rw [if_pos (by omega), if_pos h1]⟩
  · rw [if_neg (by omega), if_neg h1]
    by_cases h2 : s = []
    · exact ⟨1, 0, by decide, by rw [if_pos (e1.mpr h2), if_pos h2]; rfl⟩
    · rw [if_neg (fun h => h2 (e1.mp h)), if_neg h2, unend_f s (by omega), Option.bind_some]
      have hul : (LP.unend s).length ≤ s.length := by
        unfold LP.unend
        split
        · rw [List.length_dropLast]; omega
        · exact Nat.le_refl _
      rw [split_f _ (by omega), Option.bind_some]
      have ht := tot_split (LP.unend s) []
      have hsl := LP.splitA_len (LP.unend s) []
      have hcl : (LP.unend s).count 10 ≤ (LP.unend s).length := List.count_le_length
      rw [show LP.splitA [] (LP.unend s) = LP.splitL (LP.unend s) from rfl] at ht hsl
      rw [List.length_nil] at ht
      obtain ⟨ls, hls⟩ : ∃ ls, LP.splitL (LP.unend s) = ls := ⟨_, rfl⟩
      rw [hls] at ht hsl ⊢
      have hr := read_l0 ls (by omega) (by omega) ls.length [] 0 n (by decide) (by omega) (by omega) (by omega)
      rw [List.drop_zero] at hr
      obtain ⟨e, g, he, h⟩ := readE_F ls.length ls.length 0 [] ls (by omega) (by decide)
      refine ⟨e, g, he, ?_⟩
      rw [show ((0 : Nat) : Int) = 0 from rfl] at hr
      rw [hr, h]
      cases LP.readF ls.length 0 ls with
      | none => rfl
      | some o =>
        simp only [List.length_nil, Nat.zero_add, List.nil_append]
        by_cases h4 : o.length ≤ 4096
        · rw [if_pos h4, if_pos h4]
        · rw [if_neg h4, if_neg h4]
end Go.Proofs.YthkndchbgiimnaaDoor.PureL
