/- The fields of any text, how many there are, and any words joined, are the document's. -/
import Derived.Test.YtjblkmmpfgjlnaaDoorPFx17
import Derived.Test.YtjblkmmpfgjlnaaDoorFieldP
import Derived.Test.YtjblkmmpfgjlnaaDoorRowStrB
set_option linter.unusedVariables false
set_option linter.unusedSimpArgs false
namespace Go.Proofs.YtjblkmmpfgjlnaaDoor.PureF
open Go.RowKit Go.Proofs.YtjblkmmpfgjlnaaDoor.PF Go.Proofs.YtjblkmmpfgjlnaaDoorW.PrintWords Go.Proofs.YtjblkmmpfgjlnaaDoorW.PrintLast Go.Proofs.YtjblkmmpfgjlnaaDoor.Ba

theorem bt_get (s : ByteArray) (i : Nat) (h : i < s.size) : bt s i = ((s[i]).toNat : Int) := by
  rw [← bt_at s i h]; rfl
theorem w64 {x : Int} (h : 0 ≤ x) (h' : x ≤ 1000000000000) : wrap64 (x + 1) = x + 1 := by unfold wrap64; omega
def pnums (l : List UInt8) : List Int := l.map fun c => ((c.toNat : Nat) : Int)
theorem strOf_pnums (l : List UInt8) : strOfNums (pnums l) = S l := by
  apply ba_ext
  rw [data_S]
  unfold strOfNums pnums
  simp [List.map_map, Function.comp_def]
theorem pn_app (a b : List UInt8) : pnums (a ++ b) = pnums a ++ pnums b := by simp [pnums]
theorem pn_len (a : List UInt8) : (pnums a).length = a.length := by simp [pnums]
theorem bytes_pn (s : ByteArray) : bytesOf s = pnums s.data.toList := by
  unfold bytesOf pnums; rfl
theorem ue (c : UInt8) (k : UInt8) : (((c.toNat : Nat) : Int) = ((k.toNat : Nat) : Int)) = (c = k) := by
  apply propext
  constructor
  · intro h; exact UInt8.toNat_inj.mp (by omega)
  · rintro rfl; rfl
theorem ue32 (c : UInt8) : (((c.toNat : Nat) : Int) = 32) = (c = 32) := ue c 32
theorem ue9 (c : UInt8) : (((c.toNat : Nat) : Int) = 9) = (c = 9) := ue c 9
theorem blank_f (c : UInt8) : bobstayref04_Blank.f (c.toNat : Int) = some (WP.bl c) := by
  unfold bobstayref04_Blank.f
  simp only [ue32]
  by_cases h : c = 32
  · simp [h, WP.bl]
  · rw [if_neg h]
    congr 1
    by_cases h9 : c = 9
    · subst h9; rfl
    · have : ¬ (c.toNat : Int) = 9 := by rw [ue9]; exact h9
      simp [h, h9, WP.bl, beq_eq_false_iff_ne.mpr this]
def frm : Option Nat → Int
  | none => -1
  | some j => j
theorem ext_S (s : ByteArray) (j i : Nat) : s.extract j i = S ((s.data.toList.drop j).take (i - j)) := by
  apply ba_ext; rw [data_extract, data_S]

theorem rfields_l0 (s : ByteArray) (hs : s.size ≤ 1048576) :
    ∀ (n i : Nat) (cur : Option Nat) (out : List ByteArray), i ≤ s.size → s.size + 1 - i < n → out.length ≤ i → (∀ j, cur = some j → j ≤ i) →
      bobstayref04_Fields.l0 n s out (frm cur) (i : Int) = some (out ++ (WP.grp (WP.bk (s.data.toList.drop i)) (cur.map fun j => (s.data.toList.drop j).take (i - j))).map S)
  | 0, _, _, _, _, h, _, _ => by omega
  | n + 1, i, cur, out, hi, hn, ho, hc => by
    rw [bobstayref04_Fields.l0]
    have hol : out.length < 8796093022208 := by omega
    by_cases hlt : i < s.size
    · obtain ⟨c, hcc⟩ : ∃ c, s[i]'hlt = c := ⟨_, rfl⟩
      have hd := drop_cons s i hlt
      rw [hcc] at hd
      have hbk : WP.bk (s.data.toList.drop i) = (c, if WP.bl c = true then 98 else 112) :: WP.bk (s.data.toList.drop (i + 1)) := by rw [hd]; rfl
      rw [if_pos (by omega), if_pos (by omega), if_pos (by omega), bt_get s i hlt, hcc, blank_f, Option.bind_some, w64 (by omega) (by omega), hbk]
      have IH : ∀ (cur' : Option Nat) (out' : List ByteArray), out'.length ≤ i + 1 → (∀ j, cur' = some j → j ≤ i + 1) → bobstayref04_Fields.l0 n s out' (frm cur') ((i : Int) + 1) = some (out' ++ (WP.grp (WP.bk (s.data.toList.drop (i + 1))) (cur'.map fun j => (s.data.toList.drop j).take (i + 1 - j))).map S) := by
        intro cur' out' h1 h2
        have := rfields_l0 s hs n (i + 1) cur' out' (by omega) (by omega) h1 h2
        rw [show ((i + 1 : Nat) : Int) = (i : Int) + 1 by omega] at this
        exact this
      by_cases hk : WP.bl c = true
      · rw [if_pos hk, hk]
        cases cur with
        | none =>
          rw [if_neg (by simp [frm]), IH none out (by omega) (by simp)]
          simp only [Option.map_none, WP.grp, if_true]
        | some j =>
          have hj := hc j rfl
          have e : frm (some j) = (j : Int) := rfl
          rw [e, if_pos (by omega), if_pos (by omega), if_pos (by omega), if_pos hol]
          have := IH none (out ++ [s.extract j i]) (by simp; omega) (by simp)
          rw [show frm none = -1 from rfl] at this
          rw [show ((j : Int)).toNat = j by omega, show ((i : Int)).toNat = i by omega, this]
          simp only [Option.map_none, Option.map_some, WP.grp, if_true]
          rw [ext_S]; simp
      · have hk' : WP.bl c = false := by simpa using hk
        have h98 : ¬ ((112 : UInt8) = 98) := by decide
        rw [if_neg hk, hk']
        cases cur with
        | none =>
          have := IH (some i) out (by omega) (by intro j hj; cases hj; omega)
          rw [show frm (some i) = (i : Int) from rfl] at this
          rw [if_pos (by simp [frm]), this]
          simp only [Option.map_none, Option.map_some, WP.grp, Bool.false_eq_true, if_false, h98]
          rw [hd, show i + 1 - i = 1 by omega]; rfl
        | some j =>
          have hj := hc j rfl
          have e : frm (some j) = (j : Int) := rfl
          rw [e, if_neg (by omega), ← e, IH (some j) out (by omega) (by intro j' hj'; cases hj'; omega)]
          simp only [Option.map_some, WP.grp, Bool.false_eq_true, if_false, h98]
          congr 4
          rw [show i + 1 - j = (i - j) + 1 by omega, List.take_succ_eq_append_getElem (by rw [List.length_drop, ← size_len]; omega), List.getElem_drop]
          congr 2
          have : j + (i - j) = i := by omega
          simp only [this]; exact congrArg (fun x => [x]) hcc
    · obtain rfl : i = s.size := by omega
      have hz : s.data.toList.drop s.size = [] := List.drop_of_length_le (by rw [← size_len]; exact Nat.le_refl _)
      rw [if_pos (by omega), if_neg (by omega), hz]
      obtain ⟨m, rfl⟩ : ∃ m, n = m + 1 := ⟨n - 1, by omega⟩
      have END : ∀ (out' : List ByteArray) (x : Int), bobstayref04_Fields.l0 (m + 1) s out' x (wrap64 ((s.size : Int) + 1)) = some out' := by
        intro out' x
        rw [bobstayref04_Fields.l0, w64 (by omega) (by omega), if_neg (by omega)]
      cases cur with
      | none =>
        rw [if_neg (by simp [frm]), END]
        simp [WP.bk, WP.grp]
      | some j =>
        have hj := hc j rfl
        have e : frm (some j) = (j : Int) := rfl
        rw [e, if_pos (by omega), if_pos (by omega), if_pos (by omega), if_pos hol, END]
        rw [show ((j : Int)).toNat = j by omega, show ((s.size : Int)).toNat = s.size by omega, ext_S]
        simp [WP.bk, WP.grp]
theorem rfields_f (s : ByteArray) (hs : s.size ≤ 1048576) (n : Nat) (hn : s.size + 1 < n) : bobstayref04_Fields.f n s = some ((WP.fieldsL s.data.toList).map S) := by
  unfold bobstayref04_Fields.f
  have := rfields_l0 s hs n 0 none [] (by omega) (by omega) (by simp) (by simp)
  simpa [frm, WP.fieldsL] using this
theorem rdOf_at (l : List ByteArray) (i : Nat) (h : i < l.length) : rdOf ByteArray.empty l (i : Int) = l[i] := by
  unfold rdOf; simp [List.getD_eq_getElem?_getD, h]
theorem rjoin_l0 (l : List ByteArray) (hl : l.length ≤ 100000000) :
    ∀ (n i : Nat) (acc : List UInt8), i ≤ l.length → l.length - i < n → acc.length + WP.tot (l.drop i) ≤ 100000000 → bobstayref04_Join.l0 n l (pnums acc) (i : Int) = some (S (WP.joinL (l.drop i) acc))
  | 0, _, _, _, h, _ => by omega
  | n + 1, i, acc, hi, hn, ht => by
    rw [bobstayref04_Join.l0]
    by_cases hlt : i < l.length
    · have hd : l.drop i = l[i] :: l.drop (i + 1) := List.drop_eq_getElem_cons hlt
      rw [if_pos (by omega), if_pos (by omega), rdOf_at l i hlt, w64 (by omega) (by omega), hd]
      rw [hd, WP.tot_cons] at ht
      generalize l[i] = t at ht ⊢
      have hts : t.data.toList.length = t.size := (size_len t).symm
      have IH : ∀ acc' : List UInt8, acc'.length + WP.tot (l.drop (i + 1)) ≤ 100000000 → bobstayref04_Join.l0 n l (pnums acc') ((i : Int) + 1) = some (S (WP.joinL (l.drop (i + 1)) acc')) := by
        intro acc' h
        have := rjoin_l0 l hl n (i + 1) acc' (by omega) (by omega) h
        rw [show ((i + 1 : Nat) : Int) = (i : Int) + 1 by omega] at this
        exact this
      rw [Lib.toList_data]
      by_cases h0 : t.data.toList = []
      · rw [if_pos h0, IH acc (by omega)]
        simp only [WP.joinL, h0, if_true]
      · rw [if_neg h0, bytes_pn]
        by_cases ha : acc = []
        · subst ha
          have e : pnums ([] : List UInt8) ++ pnums t.data.toList = pnums t.data.toList := rfl
          rw [if_neg (by simp [pnums]), if_pos (by simp only [pnums, List.map_nil, List.length_nil]; omega), e, IH _ (by omega)]
          simp only [WP.joinL, h0, if_true, if_false]
        · have hp : 0 < acc.length := List.length_pos_iff.mpr ha
          have e : pnums acc ++ [32] ++ pnums t.data.toList = pnums (acc ++ 32 :: t.data.toList) := by simp [pnums]
          rw [if_pos (by rw [pn_len]; omega), if_pos (by rw [pn_len]; omega), Option.bind_some, if_pos (by rw [List.length_append, pn_len, List.length_singleton]; omega), e, IH _ (by rw [List.length_append, List.length_cons]; omega)]
          simp only [WP.joinL, h0, ha, if_false]
    · have hz : l.drop i = [] := List.drop_of_length_le (by omega)
      rw [if_neg (by omega), hz, strOf_pnums]; rfl
theorem alive0 : bobstaylaw04_alive.f 40 = some true := by
  have al_split : word_Split.f 40 ⟨#[97, 32, 39, 98, 32, 99, 39, 92, 32, 100]⟩ = some ([⟨#[97]⟩, ⟨#[39, 98, 32, 99, 39, 92, 32, 100]⟩], 0) := by decide +kernel
  have al_mean : word_Mean.f ⟨#[39, 98, 32, 99, 39, 92, 32, 100]⟩ = some (⟨#[98, 32, 99, 32, 100]⟩, 0) := by
    have e1 : WP.meanL [39, 98, 32, 99, 39, 92, 32, 100] = some [98, 32, 99, 32, 100] := by
      rw [WP.mean_yes _ 5 [98, 32, 99] (by decide +kernel), show List.drop 5 [39, 98, 32, 99, 39, 92, 32, 100] = ([92, 32, 100] : List UInt8) from rfl,
        WP.mean_yes _ 2 [32] (by decide +kernel), show List.drop 2 [92, 32, 100] = ([100] : List UInt8) from rfl,
        WP.mean_yes _ 1 [100] (by decide +kernel), show List.drop 1 [100] = ([] : List UInt8) from rfl, WP.mean_nil]; rfl
    unfold word_Mean.f
    rw [if_pos (by decide), show (⟨#[39, 98, 32, 99, 39, 92, 32, 100]⟩ : ByteArray).data.toList = [39, 98, 32, 99, 39, 92, 32, 100] from rfl, e1]; rfl
  have al_quote : word_Quote.f 40 ⟨#[105, 116, 39, 115]⟩ = some ⟨#[39, 105, 116, 39, 92, 39, 39, 115, 39]⟩ := by decide +kernel
  have al_join : word_Join.f [⟨#[97]⟩, ⟨#[]⟩, ⟨#[98]⟩] = some ⟨#[97, 32, 98]⟩ := by decide +kernel
  unfold bobstaylaw04_alive.f
  rw [al_split, Option.bind_some, al_mean, Option.bind_some, if_pos rfl, if_pos rfl, if_pos (by decide), if_pos (by decide +kernel), al_quote, Option.bind_some, if_pos (by decide +kernel), al_join, Option.bind_some]
  exact congrArg some (by decide +kernel)
theorem alive : ∀ k : Nat, bobstaylaw04_alive.f (40 + k) = some true
  | 0 => alive0
  | k + 1 => bobstaylaw04_alive.mono (40 + k) true (alive k)
theorem same_rbig (l : List ByteArray) (hl : l.length ≤ 100000000) : ∀ (n i : Nat), i ≤ l.length → l.length - i < n → bobstayref01_Same.l0 n l l (i : Int) = some true
  | 0, _, _, h => by omega
  | n + 1, i, hi, hn => by
    unfold bobstayref01_Same.l0
    by_cases hlt : i < l.length
    · rw [if_pos (by omega), if_pos (by omega), if_pos (by omega), if_pos rfl, w64 (by omega) (by omega), show ((i : Int) + 1) = ((i + 1 : Nat) : Int) by omega]
      exact same_rbig l hl n (i + 1) (by omega) (by omega)
    · rw [if_neg (by omega)]
theorem len_grp : ∀ (l : List (UInt8 × UInt8)), (WP.grp l none).length ≤ l.length ∧ ∀ w : List UInt8, (WP.grp l (some w)).length ≤ l.length + 1
  | [] => ⟨by simp [WP.grp], fun w => by simp [WP.grp]⟩
  | x :: l => by
    obtain ⟨i1, i2⟩ := len_grp l
    constructor
    · simp only [WP.grp]
      split
      · simp only [List.length_cons]; omega
      · have := i2 [x.1]; simp only [List.length_cons]; omega
    · intro w
      simp only [WP.grp]
      split
      · simp only [List.length_cons]; omega
      · have := i2 (w ++ [x.1]); simp only [List.length_cons]; omega
theorem WordFields (s : ByteArray) (hs : s.size ≤ 1048576) (l : List ByteArray) (hl : WP.tot l ≤ 1048576) : ∃ k, bobstaylaw04_WordFields.f k s l = some true := by
  have hll : ∀ l : List ByteArray, l.length ≤ WP.tot l := by
    intro l
    induction l with
    | nil => simp [WP.tot]
    | cons s l ih => rw [WP.tot_cons, List.length_cons]; omega
  have hlen := hll l
  obtain ⟨ws, hws⟩ : ∃ ws, (WP.fieldsL s.data.toList).map S = ws := ⟨_, rfl⟩
  have hwl : ws.length ≤ s.size := by
    have := (len_grp (WP.bk s.data.toList)).1
    rw [← hws, List.length_map]
    have e : (WP.bk s.data.toList).length = s.size := by rw [size_len]; simp [WP.bk]
    rw [e] at this; exact this
  have hf : word_Fields.f s = some ws := by unfold word_Fields.f; rw [if_pos (by omega), hws]
  have hc : word_Count.f s = some (ws.length : Int) := by unfold word_Count.f; rw [hf]; rfl
  have hj : word_Join.f l = some (S (WP.joinL l [])) := by unfold word_Join.f; rw [if_pos (by omega)]
  refine ⟨40 + (s.size + l.length + 2), ?_⟩
  have hrf := rfields_f s hs (40 + (s.size + l.length + 2)) (by omega)
  rw [hws] at hrf
  have hrj : bobstayref04_Join.f (40 + (s.size + l.length + 2)) l = some (S (WP.joinL l [])) := by
    unfold bobstayref04_Join.f
    exact rjoin_l0 l (by omega) _ 0 [] (by omega) (by omega) (by simp; omega)
  have hsm : bobstayref01_Same.f (40 + (s.size + l.length + 2)) ws ws = some true := by
    unfold bobstayref01_Same.f
    rw [if_pos rfl]
    exact same_rbig ws (by omega) _ 0 (by omega) (by omega)
  unfold bobstaylaw04_WordFields.f
  rw [hf, Option.bind_some, hrf, Option.bind_some, hsm, Option.bind_some, if_pos rfl, hc, Option.bind_some, Option.bind_some, if_pos rfl, hj, Option.bind_some, hrj, Option.bind_some, if_pos rfl, alive]; rfl
theorem WordFieldsWalk (W : World) (s : ByteArray) (_ : s.size ≤ 140737488351232) (A : Option Addr) (cap : Nat) (ss : List ByteArray) (hr : StrRow W A cap ss) (hs : s.size + 1 ≤ 1048576) (hl : totS ss ≤ 1048576) :
    Calls Tryd.prog 8 #[.string s, .slice A ss.length cap] W fun e w' => e = .returned (.bool true) ∧ Below W.heap.size W w' := by
  obtain ⟨k, hk⟩ := WordFields s (by omega) ss hl
  exact bobstaylaw04_WordFields.calls k s A cap ss true W (Kd.C_of_reads hr.1) hr.2.1 hk
end Go.Proofs.YtjblkmmpfgjlnaaDoor.PureF
