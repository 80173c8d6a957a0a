/- What the program and the document's answer make of a rule's line. -/
import Derived.Test.YtapfblaejmenlaaDoorPRx24
import Derived.Test.YtapfblaejmenlaaDoorRuleP
set_option linter.unusedVariables false
set_option linter.unusedSimpArgs false
namespace Go.Proofs.YtapfblaejmenlaaDoor.PureR
open Go.RowKit Go.Proofs.YtapfblaejmenlaaDoor.PR Go.Proofs.YtapfblaejmenlaaDoorW.PrintWords Go.Proofs.YtapfblaejmenlaaDoorW.PrintLast Go.Proofs.YtapfblaejmenlaaDoor.Ba

theorem bt_get (s : ByteArray) (i : Nat) (h : i < s.size) : bt s i = ((s[i]).toNat : Int) := by
  rw [← bt_at s i h]; rfl
theorem w64 {x : Int} (h : 0 ≤ x) (h' : x ≤ 1000000000000) : wrap64 (x + 1) = x + 1 := by unfold wrap64; omega
theorem w64' {x : Int} (h : 0 ≤ x) (h' : x ≤ 1000000000000) : wrap64 x = x := by unfold wrap64; omega
theorem ue (c : UInt8) (k : UInt8) : (((c.toNat : Nat) : Int) = ((k.toNat : Nat) : Int)) = (c = k) := by
  apply propext
  constructor
  · intro h; exact UInt8.toNat_inj.mp (by omega)
  · rintro rfl; rfl
theorem ue33 (c : UInt8) : (((c.toNat : Nat) : Int) = 33) = (c = 33) := ue c 33
theorem ue58 (c : UInt8) : (((c.toNat : Nat) : Int) = 58) = (c = 58) := ue c 58
theorem ue59 (c : UInt8) : (((c.toNat : Nat) : Int) = 59) = (c = 59) := ue c 59
theorem ue32 (c : UInt8) : (((c.toNat : Nat) : Int) = 32) = (c = 32) := ue c 32
theorem ue9 (c : UInt8) : (((c.toNat : Nat) : Int) = 9) = (c = 9) := ue c 9
theorem blank_f (c : UInt8) : bobstayref04_Blank.f (c.toNat : Int) = some (WP.bl c) := by
  unfold bobstayref04_Blank.f
  simp only [ue32]
  by_cases h : c = 32
  · simp [h, WP.bl]
  · rw [if_neg h]
    congr 1
    by_cases h9 : c = 9
    · subst h9; rfl
    · have : ¬ (c.toNat : Int) = 9 := by rw [ue9]; exact h9
      simp [h, h9, WP.bl, beq_eq_false_iff_ne.mpr this]
theorem ext_S (s : ByteArray) (j i : Nat) : s.extract j i = S ((s.data.toList.drop j).take (i - j)) := by
  apply ba_ext; rw [data_extract, data_S]

/-! ### the document's fields -/
def frm : Option Nat → Int
  | none => -1
  | some j => j
theorem rfields_l0 (s : ByteArray) (hs : s.size ≤ 100000000) :
    ∀ (n i : Nat) (cur : Option Nat) (out : List ByteArray), i ≤ s.size → s.size + 1 - i < n → out.length ≤ i → (∀ j, cur = some j → j ≤ i) →
      bobstayref04_Fields.l0 n s out (frm cur) (i : Int) = some (out ++ (WP.grp (WP.bk (s.data.toList.drop i)) (cur.map fun j => (s.data.toList.drop j).take (i - j))).map S)
  | 0, _, _, _, _, h, _, _ => by omega
  | n + 1, i, cur, out, hi, hn, ho, hc => by
    rw [bobstayref04_Fields.l0]
    have hol : out.length < 8796093022208 := by omega
    by_cases hlt : i < s.size
    · obtain ⟨c, hcc⟩ : ∃ c, s[i]'hlt = c := ⟨_, rfl⟩
      have hd := drop_cons s i hlt
      rw [hcc] at hd
      have hbk : WP.bk (s.data.toList.drop i) = (c, if WP.bl c = true then 98 else 112) :: WP.bk (s.data.toList.drop (i + 1)) := by rw [hd]; rfl
      rw [if_pos (by omega), if_pos (by omega), if_pos (by omega), bt_get s i hlt, hcc, blank_f, Option.bind_some, w64 (by omega) (by omega), hbk]
      have IH : ∀ (cur' : Option Nat) (out' : List ByteArray), out'.length ≤ i + 1 → (∀ j, cur' = some j → j ≤ i + 1) → bobstayref04_Fields.l0 n s out' (frm cur') ((i : Int) + 1) = some (out' ++ (WP.grp (WP.bk (s.data.toList.drop (i + 1))) (cur'.map fun j => (s.data.toList.drop j).take (i + 1 - j))).map S) := by
        intro cur' out' h1 h2
        have := rfields_l0 s hs n (i + 1) cur' out' (by omega) (by omega) h1 h2
        rw [show ((i + 1 : Nat) : Int) = (i : Int) + 1 by omega] at this
        exact this
      by_cases hk : WP.bl c = true
      · rw [if_pos hk, hk]
        cases cur with
        | none =>
          rw [if_neg (by simp [frm]), IH none out (by omega) (by simp)]
          simp only [Option.map_none, WP.grp, if_true]
        | some j =>
          have hj := hc j rfl
          have e : frm (some j) = (j : Int) := rfl
          rw [e, if_pos (by omega), if_pos (by omega), if_pos (by omega), if_pos hol]
          have := IH none (out ++ [s.extract j i]) (by simp; omega) (by simp)
          rw [show frm none = -1 from rfl] at this
          rw [show ((j : Int)).toNat = j by omega, show ((i : Int)).toNat = i by omega, this]
          simp only [Option.map_none, Option.map_some, WP.grp, if_true]
          rw [ext_S]; simp
      · have hk' : WP.bl c = false := by simpa using hk
        have h98 : ¬ ((112 : UInt8) = 98) := by decide
        rw [if_neg hk, hk']
        cases cur with
        | none =>
          have := IH (some i) out (by omega) (by intro j hj; cases hj; omega)
          rw [show frm (some i) = (i : Int) from rfl] at this
          rw [if_pos (by simp [frm]), this]
          simp only [Option.map_none, Option.map_some, WP.grp, Bool.false_eq_true, if_false, h98]
          rw [hd, show i + 1 - i = 1 by omega]; rfl
        | some j =>
          have hj := hc j rfl
          have e : frm (some j) = (j : Int) := rfl
          rw [e, if_neg (by omega), ← e, IH (some j) out (by omega) (by intro j' hj'; cases hj'; omega)]
          simp only [Option.map_some, WP.grp, Bool.false_eq_true, if_false, h98]
          congr 4
          rw [show i + 1 - j = (i - j) + 1 by omega, List.take_succ_eq_append_getElem (by rw [List.length_drop, ← size_len]; omega), List.getElem_drop]
          congr 2
          have : j + (i - j) = i := by omega
          simp only [this]; exact congrArg (fun x => [x]) hcc
    · obtain rfl : i = s.size := by omega
      have hz : s.data.toList.drop s.size = [] := List.drop_of_length_le (by rw [← size_len]; exact Nat.le_refl _)
      rw [if_pos (by omega), if_neg (by omega), hz]
      obtain ⟨m, rfl⟩ : ∃ m, n = m + 1 := ⟨n - 1, by omega⟩
      have END : ∀ (out' : List ByteArray) (x : Int), bobstayref04_Fields.l0 (m + 1) s out' x (wrap64 ((s.size : Int) + 1)) = some out' := by
        intro out' x
        rw [bobstayref04_Fields.l0, w64 (by omega) (by omega), if_neg (by omega)]
      cases cur with
      | none =>
        rw [if_neg (by simp [frm]), END]
        simp [WP.bk, WP.grp]
      | some j =>
        have hj := hc j rfl
        have e : frm (some j) = (j : Int) := rfl
        rw [e, if_pos (by omega), if_pos (by omega), if_pos (by omega), if_pos hol, END]
        rw [show ((j : Int)).toNat = j by omega, show ((s.size : Int)).toNat = s.size by omega, ext_S]
        simp [WP.bk, WP.grp]
theorem rfields_f (s : ByteArray) (hs : s.size ≤ 100000000) (n : Nat) (hn : s.size + 1 < n) : bobstayref04_Fields.f n s = some ((WP.fieldsL s.data.toList).map S) := by
  unfold bobstayref04_Fields.f
  have := rfields_l0 s hs n 0 none [] (by omega) (by omega) (by simp) (by simp)
  simpa [frm, WP.fieldsL] using this
theorem fields_f (s : ByteArray) (hs : s.size ≤ 100000000) : word_Fields.f s = some ((WP.fieldsL s.data.toList).map S) := by
  unfold word_Fields.f
  rw [if_pos (by omega)]
theorem len_grp : ∀ (l : List (UInt8 × UInt8)), (WP.grp l none).length ≤ l.length ∧ ∀ w : List UInt8, (WP.grp l (some w)).length ≤ l.length + 1
  | [] => ⟨by simp [WP.grp], fun w => by simp [WP.grp]⟩
  | x :: l => by
    obtain ⟨i1, i2⟩ := len_grp l
    constructor
    · simp only [WP.grp]
      split
      · simp only [List.length_cons]; omega
      · have := i2 [x.1]; simp only [List.length_cons]; omega
    · intro w
      simp only [WP.grp]
      split
      · simp only [List.length_cons]; omega
      · have := i2 (w ++ [x.1]); simp only [List.length_cons]; omega
theorem fields_len (l : List UInt8) : (WP.fieldsL l).length ≤ l.length := by
  have := (len_grp (WP.bk l)).1
  have e : (WP.bk l).length = l.length := by simp [WP.bk]
  rw [e] at this; exact this

/-! ### the operator -/
theorem op_find : ∀ l : List UInt8, (∀ c ∈ l, c ≠ 33 ∧ c ≠ 58) ∨ ∃ p c t, l = p ++ c :: t ∧ (∀ d ∈ p, d ≠ 33 ∧ d ≠ 58) ∧ (c = 33 ∨ c = 58)
  | [] => .inl (by simp)
  | d :: l => by
    by_cases h : d = 33 ∨ d = 58
    · exact .inr ⟨[], d, l, rfl, by simp, h⟩
    · have hd : d ≠ 33 ∧ d ≠ 58 := ⟨fun e => h (.inl e), fun e => h (.inr e)⟩
      rcases op_find l with h1 | ⟨p, c, t, rfl, h2, h3⟩
      · exact .inl fun c hc => by
          rcases List.mem_cons.mp hc with rfl | hc
          · exact hd
          · exact h1 c hc
      · exact .inr ⟨d :: p, c, t, rfl, fun c hc => by
          rcases List.mem_cons.mp hc with rfl | hc
          · exact hd
          · exact h2 c hc, h3⟩
theorem no33 (c : UInt8) (h : c ≠ 33 ∧ c ≠ 58) : ([58, 33] : List UInt8).contains c = false := by
  simp [List.contains_cons, h.1, h.2]
theorem ia_none (l : List UInt8) (h : ∀ c ∈ l, c ≠ 33 ∧ c ≠ 58) : Lib.indexAny l [58, 33] = -1 :=
  Lib.indexAny_none fun j b _ hb => no33 b (h b (List.mem_of_getElem? hb))
theorem ia_hit (p t : List UInt8) (c : UInt8) (h : ∀ d ∈ p, d ≠ 33 ∧ d ≠ 58) (hc : c = 33 ∨ c = 58) : Lib.indexAny (p ++ c :: t) [58, 33] = (p.length : Int) := by
  refine Lib.indexAny_hit (x := c) ?_ (by simp) (by rcases hc with rfl | rfl <;> decide)
  intro j b hj hb
  rw [List.getElem?_append_left hj] at hb
  exact no33 b (h b (List.mem_of_getElem? hb))
theorem ib_no (l : List UInt8) (c : UInt8) (h : ∀ d ∈ l, d ≠ c) : Lib.indexByte l c = -1 := by
  induction l with
  | nil => rfl
  | cons d l ih =>
    have h1 : (d == c) = false := beq_eq_false_iff_ne.mpr (h d (List.mem_cons_self ..))
    have h2 := ih fun e he => h e (List.mem_cons_of_mem _ he)
    unfold Lib.indexByte
    rw [h1, h2]; rfl
theorem ib_at (p t : List UInt8) (c : UInt8) (h : ∀ d ∈ p, d ≠ c) : Lib.indexByte (p ++ c :: t) c = (p.length : Int) := by
  induction p with
  | nil =>
    rw [List.nil_append]
    unfold Lib.indexByte
    rw [beq_self_eq_true c]; rfl
  | cons d p ih =>
    have h1 : (d == c) = false := beq_eq_false_iff_ne.mpr (h d (List.mem_cons_self ..))
    have h2 := ih fun e he => h e (List.mem_cons_of_mem _ he)
    rw [List.cons_append]
    unfold Lib.indexByte
    rw [h1, h2]
    have h3 : ((p.length : Int) == -1) = false := beq_eq_false_iff_ne.mpr (by omega)
    rw [h3, List.length_cons]
    simp only [Bool.false_eq_true, if_false]; omega
/-- a text cut at a byte -/
theorem byte_find (c : UInt8) : ∀ l : List UInt8, (∀ d ∈ l, d ≠ c) ∨ ∃ p t, l = p ++ c :: t ∧ ∀ d ∈ p, d ≠ c
  | [] => .inl (by simp)
  | d :: l => by
    by_cases h : d = c
    · subst h; exact .inr ⟨[], l, rfl, by simp⟩
    · rcases byte_find c l with h1 | ⟨p, t, rfl, h2⟩
      · exact .inl fun e he => by
          rcases List.mem_cons.mp he with rfl | he
          · exact h
          · exact h1 e he
      · exact .inr ⟨d :: p, t, rfl, fun e he => by
          rcases List.mem_cons.mp he with rfl | he
          · exact h
          · exact h2 e he⟩
theorem S_take (s : ByteArray) (p t : List UInt8) (h : s.data.toList = p ++ t) : s.extract 0 p.length = S p := by
  rw [ext_S, h]; simp
theorem S_drop (s : ByteArray) (p t : List UInt8) (h : s.data.toList = p ++ t) : s.extract p.length s.size = S t := by
  rw [ext_S, h, size_len, h]; simp
theorem S_drop1 (s : ByteArray) (p t : List UInt8) (c : UInt8) (h : s.data.toList = p ++ c :: t) : s.extract (p.length + 1) s.size = S t := by
  have := S_drop s (p ++ [c]) t (by rw [h]; simp)
  simpa using this
theorem S_drop2 (s : ByteArray) (p t : List UInt8) (c d : UInt8) (h : s.data.toList = p ++ c :: d :: t) : s.extract (p.length + 2) s.size = S t := by
  have := S_drop s (p ++ [c, d]) t (by rw [h]; simp)
  simpa using this
theorem size_app (s : ByteArray) (p t : List UInt8) (h : s.data.toList = p ++ t) : s.size = p.length + t.length := by rw [size_len, h, List.length_append]
theorem bt_app (s : ByteArray) (p t : List UInt8) (c : UInt8) (h : s.data.toList = p ++ c :: t) : bt s (p.length : Int) = ((c.toNat : Nat) : Int) := by
  have hl := size_app s p (c :: t) h
  rw [List.length_cons] at hl
  have hlt : p.length < s.size := by omega
  rw [bt_get s p.length hlt, get_data]
  simp only [h]
  simp
theorem S_size (l : List UInt8) : (S l).size = l.length := by rw [size_len, data_S]
theorem pfx58 (t : List UInt8) : strings_HasPrefix.f (S (58 :: t)) (⟨#[58, 58]⟩ : ByteArray) = some (t.head? == some 58) := by
  unfold strings_HasPrefix.f stringslite_HasPrefix.f
  have hz : ((⟨#[58, 58]⟩ : ByteArray).size : Int) = 2 := rfl
  have hl : (⟨#[58, 58]⟩ : ByteArray).toList = [58, 58] := by rw [Lib.toList_data]
  rw [hz, S_size, List.length_cons, hl]
  cases t with
  | nil => rfl
  | cons d t =>
    rw [List.length_cons, if_pos (by omega), if_pos (by omega), if_pos (by omega), Lib.toList_data, data_extract, data_S]
    simp only [Option.bind_some, Option.some.injEq, List.drop_zero]
    show ((([58, d] : List UInt8)) == [58, 58]) = _
    simp
theorem op_f (s : ByteArray) (hs : s.size ≤ 100000000) : rule_operator.f s = some (match RP.opA [] s.data.toList with | none => (⟨#[]⟩, 0, ⟨#[]⟩) | some (h, k, t) => (S h, (k : Int), S t)) := by
  unfold rule_operator.f
  have hI : strings_IndexAny.f s (⟨#[58, 33]⟩ : ByteArray) = some (Lib.indexAny s.data.toList [58, 33]) := by
    unfold strings_IndexAny.f
    rw [if_pos ⟨by decide, by decide, by omega, by decide⟩]
  rw [hI, Option.bind_some]
  rcases op_find s.data.toList with h | ⟨p, c, t, h, hp, hc⟩
  · have e : RP.opA [] s.data.toList = none := by
      have := RP.opA_run s.data.toList [] [] h
      rw [List.append_nil, List.nil_append] at this
      rw [this]; rfl
    rw [ia_none _ h, if_pos (by decide), e]
  · have hz := size_app s p (c :: t) h
    rw [List.length_cons] at hz
    have hr := RP.opA_run p [] (c :: t) hp
    rw [List.nil_append] at hr
    have e1 := bt_app s p t c h
    have e2 := S_take s p (c :: t) h
    have e3 := S_drop1 s p t c h
    rw [h, ia_hit p t c hp hc, hr, if_neg (by omega), if_pos (by omega), if_pos (by omega), e1]
    have n1 : ((p.length : Int)).toNat = p.length := by omega
    have n2 : (wrap64 ((p.length : Int) + 1)).toNat = p.length + 1 := by rw [w64 (by omega) (by omega)]; omega
    have n3 : (wrap64 ((p.length : Int) + 2)).toNat = p.length + 2 := by rw [w64' (by omega) (by omega)]; omega
    have g1 : (0 : Int) ≤ wrap64 ((p.length : Int) + 1) := by rw [w64 (by omega) (by omega)]; omega
    have g2 : wrap64 ((p.length : Int) + 1) ≤ (s.size : Int) := by rw [w64 (by omega) (by omega)]; omega
    have g3 : (0 : Int) ≤ wrap64 ((p.length : Int) + 2) := by rw [w64' (by omega) (by omega)]; omega
    rcases hc with rfl | rfl
    · rw [if_pos (by rfl), if_pos (by omega), if_pos g1, if_pos g2, n1, n2, e2, e3, RP.opA, if_pos rfl]; rfl
    · have hx : s.extract p.length s.size = S (58 :: t) := S_drop s p (58 :: t) h
      rw [if_neg (show ¬ (((58 : UInt8).toNat : Nat) : Int) = 33 by decide), if_pos (by omega), n1, hx, pfx58, Option.bind_some, RP.opA, if_neg (show ¬ (58 : UInt8) = 33 by decide), if_pos (show (58 : UInt8) = 58 from rfl)]
      by_cases ht : t.head? = some 58
      · have hb : (t.head? == some 58) = true := beq_iff_eq.mpr ht
        obtain ⟨t', rfl⟩ : ∃ t', t = 58 :: t' := by
          cases t with
          | nil => cases ht
          | cons d t' => simp only [List.head?_cons, Option.some.injEq] at ht; subst ht; exact ⟨t', rfl⟩
        rw [List.length_cons] at hz
        have g4 : wrap64 ((p.length : Int) + 2) ≤ (s.size : Int) := by rw [w64' (by omega) (by omega)]; omega
        rw [if_pos hb, if_pos g3, if_pos g4, n3, e2, S_drop2 s p t' 58 58 h, if_pos ht]; rfl
      · have hb : (t.head? == some 58) = false := beq_eq_false_iff_ne.mpr ht
        rw [if_neg (by rw [hb]; decide), if_pos g1, if_pos g2, n2, e2, e3, if_neg ht]; rfl

/-! ### what the program makes of a line -/
def PRes (s : ByteArray) (at_ : Int) : List ByteArray × Int × List ByteArray × List ByteArray × Int × Int × Int :=
  match RP.parseL s.data.toList with
  | .inl e => ([], 0, [], [], 0, (e : Int), at_)
  | .inr r => (r.ts.map S, (r.k : Int), r.ss.map S, r.cs.map S, at_, 0, 0)
theorem cut_f (s : ByteArray) (hs : s.size ≤ 100000000) : ∃ b, strings_Cut.f s (⟨#[59]⟩ : ByteArray) = some (S (RP.semi [] s.data.toList).1, S (RP.semi [] s.data.toList).2, b) := by
  unfold strings_Cut.f stringslite_Cut.f
  have hI : stringslite_Index.f s (⟨#[59]⟩ : ByteArray) = some (Lib.indexByte s.data.toList 59) := by
    unfold stringslite_Index.f
    rw [dif_pos ⟨by decide, by omega⟩]; rfl
  rw [hI, Option.bind_some]
  rcases byte_find 59 s.data.toList with h | ⟨p, t, h, hp⟩
  · have e : RP.semi [] s.data.toList = (s.data.toList, []) := by
      have := RP.semi_run s.data.toList [] [] h
      rw [List.append_nil, List.nil_append] at this
      rw [this]; rfl
    refine ⟨false, ?_⟩
    rw [ib_no _ _ h, if_neg (by decide), e, S_data]; rfl
  · have hz := size_app s p (59 :: t) h
    rw [List.length_cons] at hz
    have hr := RP.semi_run p [] (59 :: t) hp
    rw [List.nil_append, RP.semi, if_pos rfl] at hr
    have e2 := S_take s p (59 :: t) h
    have e3 := S_drop1 s p t 59 h
    have hz1 : ((⟨#[59]⟩ : ByteArray).size : Int) = 1 := rfl
    have n1 : ((p.length : Int)).toNat = p.length := by omega
    have n2 : (wrap64 ((p.length : Int) + 1)).toNat = p.length + 1 := by rw [w64 (by omega) (by omega)]; omega
    have g1 : (0 : Int) ≤ wrap64 ((p.length : Int) + 1) := by rw [w64 (by omega) (by omega)]; omega
    have g2 : wrap64 ((p.length : Int) + 1) ≤ (s.size : Int) := by rw [w64 (by omega) (by omega)]; omega
    refine ⟨true, ?_⟩
    rw [h, ib_at p t 59 hp, hr, hz1, if_pos (by omega), if_pos (by omega), if_pos (by omega), if_pos g1, if_pos g2, n1, n2, e2, e3]; rfl
theorem long_f (l : List (List UInt8)) (hl : l.length ≤ 100000000) : slices_ContainsFunc_string_string.f (l.map S) longFn = some (RP.tooLong l) := by
  unfold slices_ContainsFunc_string_string.f
  rw [if_pos ⟨rfl, by rw [List.length_map]; omega⟩]
  congr 1
  unfold RP.tooLong
  rw [List.any_map]
  show l.any (fun w => decide (255 < (S w).size)) = _
  simp only [S_size]
theorem trim_set : (fun c => ([32, 9] : List UInt8).contains c) = WP.bl := by
  funext c
  rw [List.contains_cons, List.contains_cons, List.contains_nil, Bool.or_false]
  rfl
theorem trim_f (l : List UInt8) (hl : l.length ≤ 100000000) : strings_Trim.f (S l) (⟨#[32, 9]⟩ : ByteArray) = some (S (RP.trim l)) := by
  unfold strings_Trim.f
  rw [if_pos ⟨by decide, by decide, by rw [S_size]; omega, by decide⟩, data_S]
  have : ((⟨#[32, 9]⟩ : ByteArray).data.toList.contains) = WP.bl := trim_set
  rw [this]; rfl
theorem semi_len (l : List UInt8) : (RP.semi [] l).1.length ≤ l.length ∧ (RP.semi [] l).2.length ≤ l.length := by
  rcases byte_find 59 l with h | ⟨p, t, h, hp⟩
  · have := RP.semi_run l [] [] h
    rw [List.append_nil, List.nil_append] at this
    rw [this]
    exact ⟨Nat.le_refl _, Nat.zero_le _⟩
  · subst h
    have hr := RP.semi_run p [] (59 :: t) hp
    rw [List.nil_append, RP.semi, if_pos rfl] at hr
    rw [hr, List.length_append, List.length_cons]
    exact ⟨by show p.length ≤ _; omega, by show t.length ≤ _; omega⟩
theorem op_len : ∀ (l h0 h : List UInt8) (k : Nat) (t : List UInt8), RP.opA h0 l = some (h, k, t) → h.length ≤ h0.length + l.length ∧ t.length ≤ l.length
  | [], h0, h, k, t, e => by cases e
  | c :: l, h0, h, k, t, e => by
    rw [RP.opA] at e
    split at e
    · injection e with e; injection e with e1 e; injection e with e2 e3
      subst e1; subst e3
      simp only [List.length_cons]; omega
    · split at e
      · split at e
        · injection e with e; injection e with e1 e; injection e with e2 e3
          subst e1; subst e3
          simp only [List.length_cons, List.length_tail]; omega
        · injection e with e; injection e with e1 e; injection e with e2 e3
          subst e1; subst e3
          simp only [List.length_cons]; omega
      · have := op_len l _ h k t e
        simp only [List.length_append, List.length_cons, List.length_nil] at this ⊢
        omega
theorem S_nil (l : List UInt8) : ((S l).toList = ([] : List UInt8)) = (l = []) := by rw [Lib.toList_data, data_S]
theorem mx_le (a b : Int) : (mx a b > 4096) = (a > 4096 ∨ b > 4096) := by
  unfold mx; apply propext; split <;> omega
theorem parse_f (k : Nat) (s : ByteArray) (at_ : Int) (hs : s.size ≤ 100000000) : rule_Parse.f (k + 1) s at_ = some (PRes s at_) := by
  unfold rule_Parse.f
  rw [op_f s hs, Option.bind_some]
  unfold PRes RP.parseL
  cases e : RP.opA [] s.data.toList with
  | none =>
    obtain ⟨b, hb⟩ := cut_f (⟨#[]⟩ : ByteArray) (by decide)
    simp only []
    rw [hb, Option.bind_some, fields_f _ (by decide), Option.bind_some]
    simp only []
    rw [fields_f _ (by rw [S_size]; exact Nat.le_trans (semi_len _).1 (by decide)), Option.bind_some, if_pos trivial]
    rw [rule_Parse.j0, if_pos rfl]; rfl
  | some p =>
    obtain ⟨h, kd, t⟩ := p
    have hl := op_len _ _ _ _ _ e
    rw [← size_len, List.length_nil] at hl
    have hk := (RP.opA_some _ [] h kd t (by simp) e).2
    obtain ⟨b, hb⟩ := cut_f (S t) (by rw [S_size]; omega)
    rw [data_S] at hb
    have hsl := semi_len t
    simp only []
    rw [hb, Option.bind_some, fields_f _ (by rw [S_size]; omega), Option.bind_some]
    simp only []
    rw [fields_f _ (by rw [S_size]; omega), Option.bind_some, data_S, data_S]
    have f1 := fields_len h
    have f2 := fields_len (RP.semi [] t).1
    generalize WP.fieldsL h = ts at *
    generalize WP.fieldsL (RP.semi [] t).1 = ss at *
    have hl0 : (((ts.map S).length : Int) = 0) = (ts = []) := by
      rw [List.length_map]
      apply propext
      constructor
      · intro h; exact List.length_eq_zero_iff.mp (by omega)
      · rintro rfl; rfl
    rw [if_neg (by rcases hk with rfl | rfl | rfl <;> decide)]
    have J : ∀ x : Bool, rule_Parse.j0 (k + 1) at_ (S (RP.semi [] t).2) x (ts.map S) (kd : Int) (ss.map S) at_ = some (if x = true then ([], 0, [], [], 0, 14, at_) else if 4096 < ts.length ∨ 4096 < ss.length then ([], 0, [], [], 0, 5, at_) else (ts.map S, (kd : Int), ss.map S, (if RP.trim (RP.semi [] t).2 = [] then [] else [RP.trim (RP.semi [] t).2]).map S, at_, 0, 0)) := by
      intro x
      rw [rule_Parse.j0]
      cases x with
      | true => rfl
      | false =>
        rw [if_neg Bool.false_ne_true, if_neg Bool.false_ne_true, List.length_map, List.length_map]
        simp only [mx_le]
        by_cases hm : 4096 < ts.length ∨ 4096 < ss.length
        · rw [if_pos (by omega), if_pos hm]
        · rw [if_neg (by omega), if_neg hm, trim_f _ (by omega), Option.bind_some]
          simp only [S_nil]
          by_cases ht : RP.trim (RP.semi [] t).2 = []
          · rw [if_pos ht, if_pos ht]; rfl
          · rw [if_neg ht, if_neg ht]; rfl
    simp only [hl0]
    by_cases h0 : ts = []
    · rw [if_pos h0, J true, if_pos rfl, if_pos (.inl h0)]; rfl
    · rw [if_neg h0]
      have hlf : (20 : Nat) = longFn := rfl
      rw [hlf, long_f ts (by omega), Option.bind_some]
      cases h1 : RP.tooLong ts with
      | true => rw [if_pos rfl, J true, if_pos rfl, if_pos (.inr (.inl rfl))]; rfl
      | false =>
        rw [if_neg (by decide), long_f ss (by omega), Option.bind_some, J]
        cases h2 : RP.tooLong ss with
        | true => rw [if_pos rfl, if_pos (.inr (.inr rfl))]; rfl
        | false =>
          rw [if_neg Bool.false_ne_true, if_neg (show ¬ (ts = [] ∨ false = true ∨ false = true) by simp [h0])]
          by_cases hm : 4096 < ts.length ∨ 4096 < ss.length
          · rw [if_pos hm, if_pos hm]; rfl
          · rw [if_neg hm, if_neg hm]

/-! ### the document's answer -/
def oT (k : Nat) : List UInt8 := if k = 2 then [33] else if k = 3 then [58, 58] else [58]
def opRes (i : Nat) : List UInt8 → Int × ByteArray
  | [] => (0, ⟨#[]⟩)
  | c :: t => if c = 33 then ((i : Int), ⟨#[33]⟩) else if c = 58 then (if t.head? = some 58 then ((i : Int), ⟨#[58, 58]⟩) else ((i : Int), ⟨#[58]⟩)) else opRes (i + 1) t
theorem rop_l0 (s : ByteArray) (hs : s.size ≤ 100000000) : ∀ (l p : List UInt8) (n : Nat), s.data.toList = p ++ l → 2 * l.length + 2 ≤ n → bobstayref13_operator.l0 n s (p.length : Int) = some (opRes p.length l)
  | [], p, n, h, hn => by
    obtain ⟨m, rfl⟩ : ∃ m, n = m + 1 := ⟨n - 1, by omega⟩
    have hz := size_app s p [] h
    rw [List.length_nil] at hz
    rw [bobstayref13_operator.l0, if_neg (by omega)]; rfl
  | c :: t, p, n, h, hn => by
    rw [List.length_cons] at hn
    obtain ⟨m, rfl⟩ : ∃ m, n = m + 1 + 1 := ⟨n - 2, by omega⟩
    have hz := size_app s p (c :: t) h
    rw [List.length_cons] at hz
    have e1 := bt_app s p t c h
    have w1 : wrap64 ((p.length : Int) + 1) = ((p.length + 1 : Nat) : Int) := by rw [w64 (by omega) (by omega)]; omega
    have IH : bobstayref13_operator.l0 m s ((p.length + 1 : Nat) : Int) = some (opRes (p.length + 1) t) := by
      have := rop_l0 s hs t (p ++ [c]) m (by rw [h]; simp) (by omega)
      simpa using this
    rw [bobstayref13_operator.l0, if_pos (by omega), if_pos (by omega), e1, w1, opRes]
    simp only [ue33, ue58]
    by_cases h33 : c = 33
    · rw [if_pos h33, if_pos h33]
    · rw [if_neg h33, if_neg h33]
      have J : ∀ b : Bool, bobstayref13_operator.j1 (m + 1) s (p.length : Int) b = if b = true then some ((p.length : Int), ⟨#[58, 58]⟩) else if c = 58 then some ((p.length : Int), ⟨#[58]⟩) else some (opRes (p.length + 1) t) := by
        intro b
        rw [bobstayref13_operator.j1]
        cases b with
        | true => rfl
        | false =>
          rw [if_neg Bool.false_ne_true, if_neg Bool.false_ne_true, if_pos (by omega), if_pos (by omega), e1, w1, IH]
          simp only [ue58]
      by_cases h58 : c = 58
      · rw [if_pos h58, if_pos h58]
        cases t with
        | nil =>
          rw [List.length_nil] at hz
          rw [if_neg (by omega), J, if_neg (by decide), if_pos h58, if_neg (by simp)]
        | cons d t =>
          rw [List.length_cons] at hz
          have e2 := bt_app s (p ++ [c]) t d (by rw [h]; simp)
          rw [List.length_append, List.length_singleton] at e2
          rw [if_pos (by omega), if_pos (by omega), J, e2]
          by_cases hd : d = 58
          · subst hd; rw [if_pos (by decide), if_pos (by simp)]
          · rw [if_neg (by rw [beq_iff_eq, ue58]; exact hd), if_pos h58, if_neg (by simpa using hd)]
      · rw [if_neg h58, if_neg h58, J, if_neg (by decide), if_neg h58]
theorem opRes_opA : ∀ (l p : List UInt8), match RP.opA p l with
    | none => opRes p.length l = (0, ⟨#[]⟩)
    | some (h, k, t) => opRes p.length l = ((h.length : Int), S (oT k)) ∧ p ++ l = h ++ (oT k ++ t)
  | [], p => rfl
  | c :: l, p => by
    rw [RP.opA, opRes]
    by_cases h33 : c = 33
    · rw [if_pos h33, if_pos h33]
      subst h33
      exact ⟨rfl, by simp [oT]⟩
    · rw [if_neg h33, if_neg h33]
      by_cases h58 : c = 58
      · rw [if_pos h58, if_pos h58]
        subst h58
        by_cases ht : l.head? = some 58
        · rw [if_pos ht, if_pos ht]
          obtain ⟨t', rfl⟩ : ∃ t', l = 58 :: t' := by
            cases l with
            | nil => cases ht
            | cons d t' => simp only [List.head?_cons, Option.some.injEq] at ht; subst ht; exact ⟨t', rfl⟩
          exact ⟨rfl, by simp [oT]⟩
        · rw [if_neg ht, if_neg ht]
          exact ⟨rfl, by simp [oT]⟩
      · rw [if_neg h58, if_neg h58]
        have := opRes_opA l (p ++ [c])
        rw [List.length_append, List.length_singleton] at this
        cases e : RP.opA (p ++ [c]) l with
        | none => rw [e] at this; exact this
        | some x =>
          obtain ⟨h, k, t⟩ := x
          rw [e] at this
          exact ⟨this.1, by rw [← this.2]; simp⟩
theorem rdOf_at (l : List ByteArray) (i : Nat) (h : i < l.length) : rdOf ByteArray.empty l (i : Int) = l[i] := by
  unfold rdOf; simp [List.getD_eq_getElem?_getD, h]
theorem names_l0 (l : List (List UInt8)) (hl : l.length ≤ 100000000) : ∀ (n i : Nat), i ≤ l.length → l.length - i < n → bobstayref13_names.l0 n (l.map S) (i : Int) = some (!RP.tooLong (l.drop i))
  | 0, _, _, h => by omega
  | n + 1, i, hi, hn => by
    rw [bobstayref13_names.l0, List.length_map]
    by_cases hlt : i < l.length
    · have hd : l.drop i = l[i] :: l.drop (i + 1) := List.drop_eq_getElem_cons hlt
      have hx : rdOf ByteArray.empty (l.map S) (i : Int) = S l[i] := by rw [rdOf_at _ _ (by rw [List.length_map]; exact hlt), List.getElem_map]
      have IH := names_l0 l hl n (i + 1) (by omega) (by omega)
      rw [show ((i + 1 : Nat) : Int) = (i : Int) + 1 by omega] at IH
      rw [if_pos (by omega), if_pos (by omega), hx, S_size, hd, w64 (by omega) (by omega), IH]
      unfold RP.tooLong
      rw [List.any_cons]
      by_cases hlong : 255 < l[i].length
      · rw [if_pos (by omega), decide_eq_true hlong]; rfl
      · rw [if_neg (by omega), decide_eq_false hlong]; rfl
    · have hz : l.drop i = [] := List.drop_of_length_le (by omega)
      rw [if_neg (by omega), hz]; rfl
theorem names_f (l : List (List UInt8)) (hl : l.length ≤ 100000000) (n : Nat) (hn : l.length < n) : bobstayref13_names.f n (l.map S) = some (!RP.tooLong l) := by
  unfold bobstayref13_names.f
  have := names_l0 l hl n 0 (by omega) (by omega)
  rw [List.drop_zero] at this
  exact this

/-! ### trimming -/
theorem rtrim_cons (p : UInt8 → Bool) (c : UInt8) (l : List UInt8) : RP.rtrim p (c :: l) = if RP.rtrim p l = [] then (if p c = true then [] else [c]) else c :: RP.rtrim p l := by
  unfold RP.rtrim
  rw [List.reverse_cons, List.dropWhile_append]
  by_cases h : (l.reverse.dropWhile p) = []
  · rw [h]
    simp only [List.isEmpty_nil, if_true, List.reverse_nil]
    by_cases hc : p c = true
    · rw [if_pos hc, List.dropWhile_cons_of_pos hc]; rfl
    · rw [if_neg hc, List.dropWhile_cons_of_neg hc]; rfl
  · have h2 : (l.reverse.dropWhile p).isEmpty = false := by
      cases e : l.reverse.dropWhile p with
      | nil => exact absurd e h
      | cons _ _ => rfl
    rw [h2, if_neg (by decide), if_neg (by simpa using h)]
    simp
theorem trim_comm (p : UInt8 → Bool) : ∀ l : List UInt8, RP.rtrim p (l.dropWhile p) = (RP.rtrim p l).dropWhile p
  | [] => rfl
  | c :: l => by
    rw [rtrim_cons]
    by_cases hc : p c = true
    · rw [List.dropWhile_cons_of_pos hc, trim_comm p l]
      by_cases h : RP.rtrim p l = []
      · rw [if_pos h, if_pos hc, h]
      · rw [if_neg h, List.dropWhile_cons_of_pos hc]
    · rw [List.dropWhile_cons_of_neg hc, rtrim_cons]
      by_cases h : RP.rtrim p l = []
      · rw [if_pos h, if_neg hc, List.dropWhile_cons_of_neg hc]
      · rw [if_neg h, List.dropWhile_cons_of_neg hc]
theorem rtrim_len (p : UInt8 → Bool) (l : List UInt8) : (RP.rtrim p l).length ≤ l.length := by
  unfold RP.rtrim
  rw [List.length_reverse]
  have := (List.dropWhile_suffix (p := p) (l := l.reverse)).length_le
  rw [List.length_reverse] at this
  exact this
theorem trim_l1 : ∀ (m : Nat) (l : List UInt8) (n : Nat), l.length = m → m ≤ 100000000 → m < n → bobstayref13_trim.l1 n (S l) = some (S (RP.rtrim WP.bl l))
  | 0, l, n, h, _, hn => by
    have : l = [] := List.length_eq_zero_iff.mp h
    subst this
    obtain ⟨k, rfl⟩ : ∃ k, n = k + 1 := ⟨n - 1, by omega⟩
    rw [bobstayref13_trim.l1, S_size, List.length_nil, if_neg (by decide)]; rfl
  | m + 1, l, n, h, hb, hn => by
    obtain ⟨k, rfl⟩ : ∃ k, n = k + 1 := ⟨n - 1, by omega⟩
    obtain ⟨l', d, rfl⟩ : ∃ l' d, l = l' ++ [d] := ⟨l.dropLast, l.getLast (by intro e; simp [e] at h), (List.dropLast_concat_getLast _).symm⟩
    rw [List.length_append, List.length_singleton] at h
    have e1 : wrap64 (((S (l' ++ [d])).size : Int) - 1) = (l'.length : Int) := by rw [S_size, List.length_append, List.length_singleton, w64' (by omega) (by omega)]; omega
    have e2 := bt_app (S (l' ++ [d])) l' [] d (by rw [data_S])
    have e3 := S_take (S (l' ++ [d])) l' [d] (by rw [data_S])
    rw [bobstayref13_trim.l1, e1, e2, blank_f, Option.bind_some, S_size, List.length_append, List.length_singleton, if_pos (by omega), if_pos (by omega), if_pos (by omega), RP.rtrim_snoc]
    by_cases hd : WP.bl d = true
    · rw [if_pos hd, if_pos hd, if_pos (by omega), show ((l'.length : Int)).toNat = l'.length by omega, e3]
      exact trim_l1 m l' k (by omega) (by omega) (by omega)
    · rw [if_neg hd, if_neg hd]
theorem trim_l0 : ∀ (l : List UInt8) (n : Nat), l.length ≤ 100000000 → 2 * l.length + 3 ≤ n → bobstayref13_trim.l0 n (S l) = some (S (RP.rtrim WP.bl (l.dropWhile WP.bl)))
  | [], n, _, hn => by
    obtain ⟨k, rfl⟩ : ∃ k, n = k + 1 + 1 := ⟨n - 2, by simp at hn; omega⟩
    rw [bobstayref13_trim.l0, S_size, List.length_nil, if_neg (by decide), bobstayref13_trim.j1]
    exact trim_l1 0 [] k rfl (by omega) (by simp at hn; omega)
  | c :: l, n, hb, hn => by
    rw [List.length_cons] at hb hn
    obtain ⟨k, rfl⟩ : ∃ k, n = k + 1 + 1 := ⟨n - 2, by omega⟩
    have e2 : bt (S (c :: l)) 0 = ((c.toNat : Nat) : Int) := bt_app (S (c :: l)) [] l c (by rw [data_S]; rfl)
    have e3 : (S (c :: l)).extract 1 (S (c :: l)).size = S l := S_drop1 (S (c :: l)) [] l c (by rw [data_S]; rfl)
    rw [bobstayref13_trim.l0, e2, blank_f, Option.bind_some, e3, S_size, List.length_cons, if_pos (by omega), if_pos (by omega)]
    by_cases hc : WP.bl c = true
    · rw [if_pos hc, if_pos (by omega), List.dropWhile_cons_of_pos hc]
      exact trim_l0 l (k + 1) (by omega) (by omega)
    · rw [if_neg hc, bobstayref13_trim.j1, List.dropWhile_cons_of_neg hc]
      exact trim_l1 (l.length + 1) (c :: l) k (by rw [List.length_cons]) (by omega) (by omega)
theorem rtrim_f (l : List UInt8) (hl : l.length ≤ 100000000) (n : Nat) (hn : 2 * l.length + 3 ≤ n) : bobstayref13_trim.f n (S l) = some (S (RP.trim l)) := by
  unfold bobstayref13_trim.f
  rw [trim_l0 l n hl hn, trim_comm]; rfl

/-! ### the document's parse -/
/-- what is made of the parts -/
def fin (op : List UInt8) (ts ss : List (List UInt8)) (c : List UInt8) (at_ : Int) : List ByteArray × Int × List ByteArray × List ByteArray × Int × Int × Int :=
  if op = [] ∨ ts = [] ∨ RP.tooLong ts = true ∨ RP.tooLong ss = true then ([], 0, [], [], 0, 14, at_)
  else if 4096 < ts.length ∨ 4096 < ss.length then ([], 0, [], [], 0, 5, at_)
  else (ts.map S, if op = [58] then 1 else if op = [33] then 2 else 3, ss.map S, (if c = [] then [] else [c]).map S, at_, 0, 0)
theorem S_eq (l m : List UInt8) : ((S l).toList = m) = (l = m) := by rw [Lib.toList_data, data_S]
theorem rp_j1 (at_ : Int) (op : List UInt8) (r c : List UInt8) (ts : List (List UInt8)) (hr : r.length ≤ 100000000) (hts : ts.length ≤ 100000000) (n : Nat) (hn : r.length + ts.length + 4 ≤ n) (z : Int) :
    bobstayref13_Parse.j1 n at_ (S op) (S r) (S c) (ts.map S) z at_ = some (fin op ts (WP.fieldsL r) c at_) := by
  obtain ⟨k, rfl⟩ : ∃ k, n = k + 1 + 1 := ⟨n - 2, by omega⟩
  rw [bobstayref13_Parse.j1, rfields_f (S r) (by rw [S_size]; exact hr) (k + 1) (by rw [S_size]; omega), Option.bind_some, data_S]
  have f1 := fields_len r
  generalize WP.fieldsL r = ss at *
  have J : ∀ b : Bool, bobstayref13_Parse.j2 (k + 1) at_ (S op) (S c) b (ts.map S) z (ss.map S) at_ = some (if b = true then ([], 0, [], [], 0, 14, at_) else if 4096 < ts.length ∨ 4096 < ss.length then ([], 0, [], [], 0, 5, at_) else (ts.map S, if op = [58] then 1 else if op = [33] then 2 else 3, ss.map S, (if c = [] then [] else [c]).map S, at_, 0, 0)) := by
    intro b
    rw [bobstayref13_Parse.j2]
    cases b with
    | true => rfl
    | false =>
      rw [if_neg Bool.false_ne_true, if_neg Bool.false_ne_true, List.length_map, List.length_map]
      simp only [S_eq]
      by_cases h1 : 4096 < ts.length
      · rw [if_pos (by omega), if_pos (.inl h1)]
      · rw [if_neg (show ¬ ((ts.length : Int) > 4096) by omega)]
        by_cases h2 : 4096 < ss.length
        · rw [if_pos (show ((ss.length : Int) > 4096) by omega), if_pos (.inr h2)]
        · rw [if_neg (show ¬ ((ss.length : Int) > 4096) by omega), if_neg (show ¬ (4096 < ts.length ∨ 4096 < ss.length) by omega)]
          by_cases h3 : op = [58]
          · rw [if_pos h3, if_pos h3]
            by_cases h5 : c = []
            · rw [if_pos h5, if_pos h5]; rfl
            · rw [if_neg h5, if_neg h5]; rfl
          · rw [if_neg h3, if_neg h3]
            by_cases h4 : op = [33]
            · rw [if_pos h4, if_pos h4]
              by_cases h5 : c = []
              · rw [if_pos h5, if_pos h5]; rfl
              · rw [if_neg h5, if_neg h5]; rfl
            · rw [if_neg h4, if_neg h4]
              by_cases h5 : c = []
              · rw [if_pos h5, if_pos h5]; rfl
              · rw [if_neg h5, if_neg h5]; rfl
  have hl0 : (((ts.map S).length : Int) = 0) = (ts = []) := by
    rw [List.length_map]
    apply propext
    constructor
    · intro h; exact List.length_eq_zero_iff.mp (by omega)
    · rintro rfl; rfl
  simp only [S_eq, hl0]
  unfold fin
  by_cases h1 : op = []
  · rw [if_pos h1, J true, if_pos rfl, if_pos (.inl h1)]
  · rw [if_neg h1]
    by_cases h2 : ts = []
    · rw [if_pos h2, J true, if_pos rfl, if_pos (.inr (.inl h2))]
    · rw [if_neg h2, names_f ts hts (k + 1) (by omega), Option.bind_some]
      cases h3 : RP.tooLong ts with
      | true => rw [if_neg (by decide), J true, if_pos rfl, if_pos (.inr (.inr (.inl rfl)))]
      | false =>
        rw [if_pos (by decide), names_f ss (by omega) (k + 1) (by omega), Option.bind_some, J]
        cases h4 : RP.tooLong ss with
        | true => rw [if_pos (by decide), if_pos (.inr (.inr (.inr rfl)))]
        | false => rw [show (!false) = true from rfl, show (!true) = false from rfl, if_neg Bool.false_ne_true, if_neg (show ¬ (op = [] ∨ ts = [] ∨ false = true ∨ false = true) by simp [h1, h2])]
theorem rp_l0 (at_ : Int) (op : List UInt8) (r : List UInt8) (ts : List (List UInt8)) (z : Int) (hr : r.length ≤ 100000000) (hts : ts.length ≤ 100000000) :
    ∀ (l p : List UInt8) (n : Nat), r = p ++ l → (∀ c ∈ p, c ≠ 59) → l.length + 2 * r.length + ts.length + 9 ≤ n →
      bobstayref13_Parse.l0 n at_ (S op) (S r) (S []) (p.length : Int) (ts.map S) z at_ = some (fin op ts (WP.fieldsL (RP.semi p l).1) (match l.contains 59 with | true => RP.trim (RP.semi p l).2 | false => []) at_)
  | [], p, n, h, hp, hn => by
    obtain ⟨k, rfl⟩ : ∃ k, n = k + 1 := ⟨n - 1, by simp at hn; omega⟩
    rw [List.append_nil] at h
    subst h
    rw [List.length_nil] at hn
    rw [bobstayref13_Parse.l0, S_size, if_neg (by omega)]
    exact rp_j1 at_ op r [] ts hr hts k (by omega) z
  | c :: l, p, n, h, hp, hn => by
    rw [List.length_cons] at hn
    obtain ⟨k, rfl⟩ : ∃ k, n = k + 1 := ⟨n - 1, by omega⟩
    have hz : r.length = p.length + (l.length + 1) := by rw [h, List.length_append, List.length_cons]
    have e1 := bt_app (S r) p l c (by rw [data_S]; exact h)
    have w1 : wrap64 ((p.length : Int) + 1) = ((p.length + 1 : Nat) : Int) := by rw [w64 (by omega) (by omega)]; omega
    rw [bobstayref13_Parse.l0, e1, w1, S_size, if_pos (by omega), if_pos (by omega), RP.semi]
    simp only [ue59]
    by_cases hc : c = 59
    · subst hc
      have e2 := S_take (S r) p (59 :: l) (by rw [data_S]; exact h)
      have e3 := S_drop1 (S r) p l 59 (by rw [data_S]; exact h)
      rw [S_size] at e3
      rw [if_pos rfl, if_pos rfl, if_pos (by omega), if_pos (by omega), show (((p.length + 1 : Nat) : Int)).toNat = p.length + 1 by omega, e3, rtrim_f l (by omega) k (by omega), Option.bind_some, if_pos (by omega), show ((p.length : Int)).toNat = p.length by omega, e2]
      rw [show (59 :: l).contains 59 = true by simp]
      exact rp_j1 at_ op p (RP.trim l) ts (by omega) hts k (by omega) z
    · rw [if_neg hc, if_neg hc]
      have := rp_l0 at_ op r ts z hr hts l (p ++ [c]) k (by rw [h]; simp) (by
        intro d hd
        rcases List.mem_append.mp hd with hd | hd
        · exact hp d hd
        · rw [List.mem_singleton] at hd; subst hd; exact hc) (by omega)
      rw [List.length_append, List.length_singleton] at this
      rw [this]
      have hcc : (c :: l).contains 59 = l.contains 59 := by
        rw [List.contains_cons]
        have : ((59 : UInt8) == c) = false := beq_eq_false_iff_ne.mpr fun e => hc e.symm
        rw [this, Bool.false_or]
      rw [hcc]
theorem semi_no (l : List UInt8) (h : l.contains 59 = false) : (RP.semi [] l).2 = [] := by
  have hn : ∀ c ∈ l, c ≠ 59 := by
    rintro c hc rfl
    rw [List.contains_iff_mem.mpr hc] at h
    cases h
  have := RP.semi_run l [] [] hn
  rw [List.append_nil, List.nil_append] at this
  rw [this]; rfl
theorem rparse_f (s : ByteArray) (at_ : Int) (hs : s.size ≤ 10000000) (n : Nat) (hn : 5 * s.size + 20 ≤ n) : bobstayref13_Parse.f n s at_ = some (PRes s at_) := by
  unfold bobstayref13_Parse.f bobstayref13_operator.f
  have h0 := rop_l0 s (by omega) s.data.toList [] n rfl (by rw [← size_len]; omega)
  rw [show ((([] : List UInt8).length : Nat) : Int) = 0 by rfl] at h0
  rw [h0, Option.bind_some]
  have h1 := opRes_opA s.data.toList []
  unfold PRes RP.parseL
  have key : ∀ (r op : List UInt8) (ts : List (List UInt8)), r.length ≤ s.size → ts.length ≤ s.size → bobstayref13_Parse.l0 n at_ (S op) (S r) (⟨#[]⟩ : ByteArray) 0 (ts.map S) 0 at_ = some (fin op ts (WP.fieldsL (RP.semi [] r).1) (RP.trim (RP.semi [] r).2) at_) := by
    intro r op ts hr hts
    have := rp_l0 at_ op r ts 0 (by omega) (by omega) r [] n rfl (by simp) (by omega)
    rw [show ((([] : List UInt8).length : Nat) : Int) = 0 by rfl] at this
    have e : (⟨#[]⟩ : ByteArray) = S [] := rfl
    rw [e, this]
    cases hc : r.contains 59 with
    | true => rfl
    | false => rw [semi_no r hc]; rfl
  cases e : RP.opA [] s.data.toList with
  | none =>
    rw [e] at h1
    rw [show opRes ([] : List UInt8).length s.data.toList = (0, ⟨#[]⟩) from h1]
    have e0 : s.extract 0 0 = S [] := by rw [ext_S]; simp
    have e1 : s.extract 0 s.size = S s.data.toList := by rw [ext_S, S_data]; simp only [List.drop_zero, Nat.sub_zero]; rw [List.take_of_length_le (by rw [← size_len]; exact Nat.le_refl _), S_data]
    simp only []
    have hz0 : wrap64 ((0 : Int) + ((⟨#[]⟩ : ByteArray).size : Int)) = 0 := w64' (by decide) (by decide)
    rw [if_pos (by decide), if_pos (by omega), show ((0 : Int)).toNat = 0 from rfl, e0, rfields_f (S []) (by decide) n (by show (0 : Nat) + 1 < n; omega), Option.bind_some, hz0, if_pos (by decide), if_pos (by omega), show ((0 : Int)).toNat = 0 from rfl, e1]
    have := key s.data.toList [] [] (by rw [← size_len]; exact Nat.le_refl _) (by simp)
    have e2 : (WP.fieldsL (S ([] : List UInt8)).data.toList).map S = ([] : List (List UInt8)).map S := by rw [data_S]; rfl
    rw [e2, show (⟨#[]⟩ : ByteArray) = S [] from rfl] at *
    rw [this]
    unfold fin
    rw [if_pos (.inl rfl)]; rfl
  | some x =>
    obtain ⟨h, k, t⟩ := x
    rw [e] at h1
    obtain ⟨h1, h2⟩ := h1
    rw [List.nil_append] at h2
    have hk := (RP.opA_some _ [] h k t (by simp) e).2
    rw [show opRes ([] : List UInt8).length s.data.toList = ((h.length : Int), S (oT k)) from h1]
    have hzs := size_app s h (oT k ++ t) h2
    rw [List.length_append] at hzs
    have e0 := S_take s h (oT k ++ t) h2
    have e1 := S_drop s (h ++ oT k) t (by rw [h2]; simp)
    rw [List.length_append] at e1
    simp only []
    have hw : wrap64 ((h.length : Int) + ((S (oT k)).size : Int)) = ((h.length + (oT k).length : Nat) : Int) := by rw [S_size, w64' (by omega) (by omega)]; omega
    rw [if_pos (by omega), if_pos (by omega), show ((h.length : Int)).toNat = h.length by omega, e0, rfields_f (S h) (by rw [S_size]; omega) n (by rw [S_size]; omega), Option.bind_some, hw, if_pos (by omega), if_pos (by omega), show (((h.length + (oT k).length : Nat) : Int)).toNat = h.length + (oT k).length by omega, e1, data_S]
    rw [key t (oT k) (WP.fieldsL h) (by omega) (by have := fields_len h; omega)]
    unfold fin
    have ho : ¬ oT k = [] := by rcases hk with rfl | rfl | rfl <;> decide
    have hkk : (if oT k = [58] then (1 : Int) else if oT k = [33] then 2 else 3) = (k : Int) := by rcases hk with rfl | rfl | rfl <;> decide
    rw [hkk]
    by_cases g1 : WP.fieldsL h = [] ∨ RP.tooLong (WP.fieldsL h) = true ∨ RP.tooLong (WP.fieldsL (RP.semi [] t).1) = true
    · rw [if_pos (.inr g1), if_pos g1]; rfl
    · rw [if_neg (fun h => h.elim ho g1), if_neg g1]
      by_cases g2 : 4096 < (WP.fieldsL h).length ∨ 4096 < (WP.fieldsL (RP.semi [] t).1).length
      · rw [if_pos g2, if_pos g2]; rfl
      · rw [if_neg g2, if_neg g2]

/-! ### the laws -/
theorem same_rbig (l : List ByteArray) (hl : l.length ≤ 100000000) : ∀ (n i : Nat), i ≤ l.length → l.length - i < n → bobstayref01_Same.l0 n l l (i : Int) = some true
  | 0, _, _, h => by omega
  | n + 1, i, hi, hn => by
    unfold bobstayref01_Same.l0
    by_cases hlt : i < l.length
    · rw [if_pos (by omega), if_pos (by omega), if_pos (by omega), if_pos rfl, w64 (by omega) (by omega), show ((i : Int) + 1) = ((i + 1 : Nat) : Int) by omega]
      exact same_rbig l hl n (i + 1) (by omega) (by omega)
    · rw [if_neg (by omega)]
theorem same_big (l : List ByteArray) (hl : l.length ≤ 100000000) (n : Nat) (hn : l.length < n) : bobstayref01_Same.f n l l = some true := by
  unfold bobstayref01_Same.f
  rw [if_pos rfl]
  exact same_rbig l hl n 0 (by omega) (by omega)
theorem rsame_refl (a : List ByteArray) (k : Int) (b c : List ByteArray) (z : Int) (ha : a.length ≤ 5000) (hb : b.length ≤ 5000) (hc : c.length ≤ 5000) (n : Nat) (hn : 5000 < n) : bobstayref13_Same.f n a k b c z a k b c z = some true := by
  unfold bobstayref13_Same.f
  rw [if_pos rfl, if_pos rfl, same_big a (by omega) n (by omega), Option.bind_some, if_pos rfl, same_big b (by omega) n (by omega), Option.bind_some, if_pos rfl, same_big c (by omega) n (by omega), Option.bind_some]
theorem alive0 : bobstaylaw13_alive.f 40 = some true := by decide +kernel
theorem alive : ∀ k : Nat, bobstaylaw13_alive.f (40 + k) = some true
  | 0 => alive0
  | k + 1 => bobstaylaw13_alive.mono (40 + k) true (alive k)
theorem pres_small (s : ByteArray) (at_ : Int) : (PRes s at_).1.length ≤ 5000 ∧ (PRes s at_).2.2.1.length ≤ 5000 ∧ (PRes s at_).2.2.2.1.length ≤ 5000 := by
  unfold PRes RP.parseL
  cases RP.opA [] s.data.toList with
  | none => exact ⟨Nat.zero_le _, Nat.zero_le _, Nat.zero_le _⟩
  | some x =>
    obtain ⟨h, k, t⟩ := x
    simp only []
    split
    · rename_i e
      refine ⟨by simp, by simp, by simp⟩
    · rename_i r e
      split at e
      · cases e
      · split at e
        · cases e
        · rename_i g1 g2
          injection e with e
          subst e
          simp only [List.length_map]
          refine ⟨by omega, by omega, ?_⟩
          split <;> simp
theorem RuleParses (s : ByteArray) (at_ : Int) (hs : s.size ≤ 1048576) : ∃ k, bobstaylaw13_RuleParses.f k s at_ = some true := by
  refine ⟨40 + (5 * s.size + 5020), ?_⟩
  have p1 := parse_f (39 + (5 * s.size + 5020)) s at_ (by omega)
  rw [show 39 + (5 * s.size + 5020) + 1 = 40 + (5 * s.size + 5020) by omega] at p1
  have p2 := rparse_f s at_ (by omega) (40 + (5 * s.size + 5020)) (by omega)
  obtain ⟨h1, h2, h3⟩ := pres_small s at_
  generalize PRes s at_ = P at *
  obtain ⟨a, k, b, c, z, e, f⟩ := P
  unfold bobstaylaw13_RuleParses.f
  rw [p1, Option.bind_some, p2, Option.bind_some]
  simp only [] at h1 h2 h3 ⊢
  rw [rsame_refl a k b c z h1 h2 h3 _ (by omega), Option.bind_some, if_pos rfl, if_pos (by simp), alive]; rfl
theorem RuleParsesWalk (W : World) (s : ByteArray) (_ : s.size ≤ 140737488351232) (at_ : Int) (_ : (Lit.int .i64 at_).wf = true) (hs : s.size + 1 ≤ 1048576) :
    Calls Tryd.prog 3 #[.string s, .int .i64 at_] W fun e w' => e = .returned (.bool true) ∧ Below W.heap.size W w' := by
  obtain ⟨k, hk⟩ := RuleParses s at_ (by omega)
  exact bobstaylaw13_RuleParses.calls k s at_ true W hk
end Go.Proofs.YtapfblaejmenlaaDoor.PureR
