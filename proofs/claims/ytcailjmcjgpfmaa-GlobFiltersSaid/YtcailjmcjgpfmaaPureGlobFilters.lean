/- Quoted texts, and the words that match: both sides go through the same words. -/
import Derived.Test.YtcailjmcjgpfmaaPGx17
import Derived.Test.YtcailjmcjgpfmaaGlobA
import Derived.Test.YtcailjmcjgpfmaaRowStr
set_option linter.unusedVariables false
set_option linter.unusedSimpArgs false
namespace Go.Proofs.Ytcailjmcjgpfmaa.Pure
open Go.RowKit Go.Proofs.Ytcailjmcjgpfmaa.PG Go.Proofs.YtcailjmcjgpfmaaW.PrintWords Go.Proofs.YtcailjmcjgpfmaaW.PrintLast Go.Proofs.Ytcailjmcjgpfmaa.Ba

/-- the words from the i-th on that match, behind others -/
def sieve (p : ByteArray) (l : List ByteArray) : List ByteArray := l.filter fun w => GP.M p.data.toList w.data.toList

theorem sieve_yes (p w : ByteArray) (l : List ByteArray) (h : GP.M p.data.toList w.data.toList = true) : sieve p (w :: l) = w :: sieve p l := by
  unfold sieve; rw [List.filter_cons, if_pos h]
theorem sieve_no (p w : ByteArray) (l : List ByteArray) (h : GP.M p.data.toList w.data.toList = false) : sieve p (w :: l) = sieve p l := by
  unfold sieve; rw [List.filter_cons, if_neg (by rw [h]; decide)]
theorem w64 {x : Int} (h : 0 ≤ x) (h' : x ≤ 1000000000000) : wrap64 (x + 1) = x + 1 := by unfold wrap64; omega
theorem rdOf_at (l : List ByteArray) (i : Nat) (h : i < l.length) : rdOf ByteArray.empty l (i : Int) = l[i] := by
  unfold rdOf; simp [List.getD_eq_getElem?_getD, h]

theorem filt_g (p : ByteArray) (l : List ByteArray) (hp : p.size ≤ 2000) (hl : l.length ≤ 200) (hw : ∀ w ∈ l, w.size ≤ 2000) :
    ∀ (n i : Nat) (acc : List ByteArray), i ≤ l.length → l.length - i < n → acc.length ≤ i → glob_Filter.l0 n p acc l (l.length : Int) (i : Int) = some (acc ++ sieve p (l.drop i))
  | 0, _, _, _, h, _ => by omega
  | n + 1, i, acc, hi, hn, ha => by
    unfold glob_Filter.l0
    by_cases hlt : i < l.length
    · rw [if_pos (by omega), if_pos (by omega), if_pos (by omega), rdOf_at l i hlt, gm _ _ (by omega) (by have := hw _ (List.getElem_mem hlt); omega), Option.bind_some, w64 (by omega) (by omega)]
      have hd : l.drop i = l[i] :: l.drop (i + 1) := by rw [List.drop_eq_getElem_cons hlt]
      cases hm : GP.M p.data.toList (l[i]).data.toList with
      | true =>
        rw [if_pos rfl, if_pos (by omega)]
        rw [show ((i : Int) + 1) = ((i + 1 : Nat) : Int) by omega, filt_g p l hp hl hw n (i + 1) _ (by omega) (by omega) (by simp; omega), hd, sieve_yes p _ _ hm]; simp
      | false =>
        rw [if_neg (by decide)]
        rw [show ((i : Int) + 1) = ((i + 1 : Nat) : Int) by omega, filt_g p l hp hl hw n (i + 1) _ (by omega) (by omega) (by omega), hd, sieve_no p _ _ hm]
    · rw [if_neg (by omega), show i = l.length by omega]; simp [sieve]

theorem filt_r (p : ByteArray) (l : List ByteArray) (hp : p.size ≤ 2000) (hl : l.length ≤ 200) (hw : ∀ w ∈ l, w.size ≤ 2000) :
    ∀ (n i : Nat) (acc : List ByteArray), i ≤ l.length → l.length - i < n → acc.length ≤ i → bobstayref01_Filter.l0 n p l acc (i : Int) = some (acc ++ sieve p (l.drop i))
  | 0, _, _, _, h, _ => by omega
  | n + 1, i, acc, hi, hn, ha => by
    unfold bobstayref01_Filter.l0
    by_cases hlt : i < l.length
    · rw [if_pos (by omega), if_pos (by omega), rdOf_at l i hlt, gr _ _ (by omega) (by have := hw _ (List.getElem_mem hlt); omega), Option.bind_some, w64 (by omega) (by omega)]
      have hd : l.drop i = l[i] :: l.drop (i + 1) := by rw [List.drop_eq_getElem_cons hlt]
      cases hm : GP.M p.data.toList (l[i]).data.toList with
      | true =>
        rw [if_pos rfl, if_pos (by omega)]
        rw [show ((i : Int) + 1) = ((i + 1 : Nat) : Int) by omega, filt_r p l hp hl hw n (i + 1) _ (by omega) (by omega) (by simp; omega), hd, sieve_yes p _ _ hm]; simp
      | false =>
        rw [if_neg (by decide)]
        rw [show ((i : Int) + 1) = ((i + 1 : Nat) : Int) by omega, filt_r p l hp hl hw n (i + 1) _ (by omega) (by omega) (by omega), hd, sieve_no p _ _ hm]
    · rw [if_neg (by omega), show i = l.length by omega]; simp [sieve]

theorem same_refl (l : List ByteArray) (hl : l.length ≤ 1000000000) : ∀ (n i : Nat), i ≤ l.length → l.length - i < n → bobstayref01_Same.l0 n l l (i : Int) = some true
  | 0, _, _, h => by omega
  | n + 1, i, hi, hn => by
    unfold bobstayref01_Same.l0
    by_cases hlt : i < l.length
    · rw [if_pos (by omega), if_pos (by omega), if_pos (by omega), if_pos rfl, w64 (by omega) (by omega), show ((i : Int) + 1) = ((i + 1 : Nat) : Int) by omega]
      exact same_refl l hl n (i + 1) (by omega) (by omega)
    · rw [if_neg (by omega)]

/-- the bytes of a text, as numbers -/
def nums8 (l : List UInt8) : List Int := l.map fun c => ((c.toNat : Nat) : Int)
theorem strOf_nums8 (l : List UInt8) : strOfNums (nums8 l) = S l := by
  apply ba_ext
  rw [data_S]
  unfold strOfNums nums8
  simp [List.map_map, Function.comp_def]

theorem plain_r (c : UInt8) (n : Nat) : bobstayref01_Plain.f (n + 2) ⟨#[c]⟩ = some (!GP.spec.contains c) := by
  have hb : bt ⟨#[c]⟩ 0 = (c.toNat : Int) := bt_get ⟨#[c]⟩ 0 (Nat.zero_lt_one)
  have hs : ((⟨#[c]⟩ : ByteArray).size : Int) = 1 := rfl
  unfold bobstayref01_Plain.f bobstayref01_Plain.l0
  rw [if_pos (by rw [hs]; decide), if_pos (by decide), hb]
  have key : ∀ k : Nat, k < 256 → (((c.toNat : Nat) : Int) = (k : Int) ↔ c = UInt8.ofNat k) := by
    intro k hk
    constructor
    · intro h
      have : c.toNat = k := by omega
      rw [← this]; simp
    · rintro rfl
      simp; omega
  by_cases h1 : c = 42
  · rw [if_pos (show (c.toNat : Int) = 42 from (key 42 (by decide)).mpr h1), h1]; rfl
  · rw [if_neg (show ¬ (c.toNat : Int) = 42 from fun h => h1 ((key 42 (by decide)).mp h))]
    by_cases h2 : c = 63
    · rw [if_pos (show (c.toNat : Int) = 63 from (key 63 (by decide)).mpr h2), h2]; rfl
    · rw [if_neg (show ¬ (c.toNat : Int) = 63 from fun h => h2 ((key 63 (by decide)).mp h))]
      by_cases h3 : c = 91
      · rw [if_pos (show (c.toNat : Int) = 91 from (key 91 (by decide)).mpr h3), h3]; rfl
      · rw [if_neg (show ¬ (c.toNat : Int) = 91 from fun h => h3 ((key 91 (by decide)).mp h))]
        by_cases h4 : c = 92
        · rw [if_pos (show (c.toNat : Int) = 92 from (key 92 (by decide)).mpr h4), h4]; rfl
        · rw [if_neg (show ¬ (c.toNat : Int) = 92 from fun h => h4 ((key 92 (by decide)).mp h))]
          unfold bobstayref01_Plain.l0
          rw [if_neg (by rw [hs, w64 (by decide) (by decide)]; decide)]
          simp [GP.spec, h1, h2, h3, h4]

theorem quot_r (p : ByteArray) (hp : p.size ≤ 2000) :
    ∀ (n i : Nat), i ≤ p.size → p.size - i + 4 < n → bobstayref01_Quote.l0 n p (nums8 (GP.quote (p.data.toList.take i))) (i : Int) = some (S (GP.quote p.data.toList))
  | 0, _, _, h => by omega
  | n + 1, i, hi, hn => by
    unfold bobstayref01_Quote.l0
    by_cases hlt : i < p.size
    · have ht := take_snoc p i hlt
      have hlen := GP.quote_len (p.data.toList.take i)
      have hl2 : (p.data.toList.take i).length ≤ i := List.length_take_le _ _
      have hnl : (nums8 (GP.quote (p.data.toList.take i))).length ≤ 4000 := by unfold nums8; rw [List.length_map]; omega
      have hx : p.extract i (i + 1) = ⟨#[p[i]]⟩ := by
        apply ba_ext; rw [data_extract, drop_cons p i hlt, Nat.add_sub_cancel_left]; rfl
      obtain ⟨m, rfl⟩ : ∃ m, n = m + 2 := ⟨n - 2, by omega⟩
      have ih := quot_r p hp (m + 2) (i + 1) (by omega) (by omega)
      rw [ht, GP.quote_snoc] at ih
      rw [w64 (by omega) (by omega)]
      rw [if_pos (by omega), if_pos (by omega), if_pos (by omega), if_pos (by omega), show ((i : Int)).toNat = i by omega, show ((i : Int) + 1).toNat = i + 1 by omega, hx, plain_r, Option.bind_some, bt_get p i hlt]
      rw [show ((i + 1 : Nat) : Int) = (i : Int) + 1 by omega] at ih
      cases hc : GP.spec.contains p[i] with
      | true =>
        rw [hc, if_pos rfl] at ih
        rw [if_neg (by decide), if_pos (by omega), Option.bind_some, if_pos (by simp; omega)]
        rw [← ih]
        congr 1
        simp [nums8]
      | false =>
        rw [hc, if_neg (by decide)] at ih
        rw [if_pos (by decide), if_pos (by omega)]
        rw [← ih]
        congr 1
        simp [nums8]
    · rw [if_neg (by omega), List.take_of_length_le (by rw [← size_len]; omega), strOf_nums8]

theorem filters_l0 (p : ByteArray) (l : List ByteArray) (hp : p.size ≤ 2000) (hl : l.length ≤ 200) :
    ∀ (n i : Nat), i ≤ l.length → l.length - i + 3000 < n → (∀ w ∈ l.take i, w.size ≤ 2000) → bobstaylaw01_GlobFilters.l0 n p l l (l.length : Int) (i : Int) = some true
  | 0, _, _, h, _ => by omega
  | n + 1, i, hi, hn, hw => by
    rw [bobstaylaw01_GlobFilters.l0]
    by_cases hlt : i < l.length
    · rw [if_pos (by omega), if_pos (by omega), if_pos (by omega), rdOf_at l i hlt]
      rcases far_cases p l[i] with h | ⟨h, h1, h2⟩
      · rw [h, Option.bind_some, if_pos rfl, alive]; rfl
      · rw [h, Option.bind_some, if_neg (by decide), w64 (by omega) (by omega), show ((i : Int) + 1) = ((i + 1 : Nat) : Int) by omega]
        refine filters_l0 p l hp hl n (i + 1) (by omega) (by omega) fun w hw' => ?_
        rw [List.take_succ_eq_append_getElem hlt, List.mem_append] at hw'
        rcases hw' with h' | h'
        · exact hw w h'
        · rw [List.mem_singleton] at h'; rw [h']; exact h2
    · have hi' : i = l.length := by omega
      have hw' : ∀ w ∈ l, w.size ≤ 2000 := by rw [hi', List.take_length] at hw; exact hw
      have hf : (sieve p l).length ≤ 200 := Nat.le_trans (List.length_filter_le _ _) hl
      have e1 : glob_Filter.f n p l = some (sieve p l) := by
        unfold glob_Filter.f; rw [show (0 : Int) = ((0 : Nat) : Int) from rfl, filt_g p l hp hl hw' n 0 [] (by omega) (by omega) (by simp)]; rfl
      have e2 : bobstayref01_Filter.f n p l = some (sieve p l) := by
        unfold bobstayref01_Filter.f; rw [show (0 : Int) = ((0 : Nat) : Int) from rfl, filt_r p l hp hl hw' n 0 [] (by omega) (by omega) (by simp)]; rfl
      have e3 : bobstayref01_Same.f n (sieve p l) (sieve p l) = some true := by
        unfold bobstayref01_Same.f; rw [if_pos rfl, show (0 : Int) = ((0 : Nat) : Int) from rfl, same_refl _ (by omega) n 0 (by omega) (by omega)]
      have e4 : bobstayref01_Quote.f n p = some (S (GP.quote p.data.toList)) := by
        unfold bobstayref01_Quote.f; exact quot_r p hp n 0 (by omega) (by omega)
      rw [if_neg (by omega), e1, Option.bind_some, e2, Option.bind_some, e3, Option.bind_some, if_pos rfl, gq p (by omega), Option.bind_some, e4, Option.bind_some, if_pos rfl, alive]; rfl

theorem filters_j0 (p : ByteArray) (l : List ByteArray) (hp : p.size ≤ 2000) (k : Nat) (hk : 4000 ≤ k) (b : Bool) (hb : b = false → l.length ≤ 200) : bobstaylaw01_GlobFilters.j0 (k + 1) p l b = some true := by
  rw [bobstaylaw01_GlobFilters.j0]
  cases b with
  | true => rw [if_pos rfl, alive]; rfl
  | false => rw [if_neg (by decide)]; exact filters_l0 p l hp (hb rfl) k 0 (by omega) (by have := hb rfl; omega) (by simp)
theorem filters_j0t (p : ByteArray) (l : List ByteArray) (k : Nat) : bobstaylaw01_GlobFilters.j0 (k + 1) p l true = some true := by
  rw [bobstaylaw01_GlobFilters.j0]
  rw [if_pos rfl, alive]; rfl

theorem GlobFilters (p : ByteArray) (l : List ByteArray) : ∃ k, bobstaylaw01_GlobFilters.f k p l = some true := by
  refine ⟨4999 + 1, ?_⟩
  unfold bobstaylaw01_GlobFilters.f
  rcases far_cases p ⟨#[]⟩ with h | ⟨h, h1, _⟩
  · rw [h, Option.bind_some, if_pos rfl]; exact filters_j0t p l _
  · rw [h, Option.bind_some, if_neg (by decide)]
    exact filters_j0 p l h1 _ (by decide) _ fun e => by have := of_decide_eq_false e; omega

theorem GlobFiltersWalk (W : World) (p : ByteArray) (hp : p.size ≤ 140737488351232) (A : Option Addr) (cap : Nat) (ss : List ByteArray) (hs : StrRow W A cap ss) :
    Calls Try.prog 8 #[.string p, .slice A ss.length cap] W fun e w' => e = .returned (.bool true) ∧ Below W.heap.size W w' := by
  obtain ⟨k, hk⟩ := GlobFilters p ss
  exact bobstaylaw01_GlobFilters.calls k p A cap ss true W (Kd.C_of_reads hs.1) hs.2.1 hk
end Go.Proofs.Ytcailjmcjgpfmaa.Pure
