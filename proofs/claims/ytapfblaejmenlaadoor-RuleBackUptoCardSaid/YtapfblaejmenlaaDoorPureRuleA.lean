/- What the program makes of a rule's line. -/
import Derived.Test.YtapfblaejmenlaaDoorPRx23
import Derived.Test.YtapfblaejmenlaaDoorRuleP
set_option linter.unusedVariables false
set_option linter.unusedSimpArgs false
namespace Go.Proofs.YtapfblaejmenlaaDoor.PureR
open Go.RowKit Go.Proofs.YtapfblaejmenlaaDoor.PR Go.Proofs.YtapfblaejmenlaaDoorW.PrintWords Go.Proofs.YtapfblaejmenlaaDoorW.PrintLast Go.Proofs.YtapfblaejmenlaaDoor.Ba

theorem bt_get (s : ByteArray) (i : Nat) (h : i < s.size) : bt s i = ((s[i]).toNat : Int) := by
  rw [← bt_at s i h]; rfl
theorem w64 {x : Int} (h : 0 ≤ x) (h' : x ≤ 1000000000000) : wrap64 (x + 1) = x + 1 := by unfold wrap64; omega
theorem w64' {x : Int} (h : 0 ≤ x) (h' : x ≤ 1000000000000) : wrap64 x = x := by unfold wrap64; omega
theorem ue (c : UInt8) (k : UInt8) : (((c.toNat : Nat) : Int) = ((k.toNat : Nat) : Int)) = (c = k) := by
  apply propext
  constructor
  · intro h; exact UInt8.toNat_inj.mp (by omega)
  · rintro rfl; rfl
theorem ue33 (c : UInt8) : (((c.toNat : Nat) : Int) = 33) = (c = 33) := ue c 33
theorem ue58 (c : UInt8) : (((c.toNat : Nat) : Int) = 58) = (c = 58) := ue c 58
theorem ue59 (c : UInt8) : (((c.toNat : Nat) : Int) = 59) = (c = 59) := ue c 59
theorem ue32 (c : UInt8) : (((c.toNat : Nat) : Int) = 32) = (c = 32) := ue c 32
theorem ue9 (c : UInt8) : (((c.toNat : Nat) : Int) = 9) = (c = 9) := ue c 9
theorem ext_S (s : ByteArray) (j i : Nat) : s.extract j i = S ((s.data.toList.drop j).take (i - j)) := by
  apply ba_ext; rw [data_extract, data_S]

theorem fields_f (s : ByteArray) (hs : s.size ≤ 100000000) : word_Fields.f s = some ((WP.fieldsL s.data.toList).map S) := by
  unfold word_Fields.f
  rw [if_pos (by omega)]
theorem len_grp : ∀ (l : List (UInt8 × UInt8)), (WP.grp l none).length ≤ l.length ∧ ∀ w : List UInt8, (WP.grp l (some w)).length ≤ l.length + 1
  | [] => ⟨by simp [WP.grp], fun w => by simp [WP.grp]⟩
  | x :: l => by
    obtain ⟨i1, i2⟩ := len_grp l
    constructor
    · simp only [WP.grp]
      split
      · simp only [List.length_cons]; omega
      · have := i2 [x.1]; simp only [List.length_cons]; omega
    · intro w
      simp only [WP.grp]
      split
      · simp only [List.length_cons]; omega
      · have := i2 (w ++ [x.1]); simp only [List.length_cons]; omega
theorem fields_len (l : List UInt8) : (WP.fieldsL l).length ≤ l.length := by
  have := (len_grp (WP.bk l)).1
  have e : (WP.bk l).length = l.length := by simp [WP.bk]
  rw [e] at this; exact this

/-! ### the operator -/
theorem op_find : ∀ l : List UInt8, (∀ c ∈ l, c ≠ 33 ∧ c ≠ 58) ∨ ∃ p c t, l = p ++ c :: t ∧ (∀ d ∈ p, d ≠ 33 ∧ d ≠ 58) ∧ (c = 33 ∨ c = 58)
  | [] => .inl (by simp)
  | d :: l => by
    by_cases h : d = 33 ∨ d = 58
    · exact .inr ⟨[], d, l, rfl, by simp, h⟩
    · have hd : d ≠ 33 ∧ d ≠ 58 := ⟨fun e => h (.inl e), fun e => h (.inr e)⟩
      rcases op_find l with h1 | ⟨p, c, t, rfl, h2, h3⟩
      · exact .inl fun c hc => by
          rcases List.mem_cons.mp hc with rfl | hc
          · exact hd
          · exact h1 c hc
      · exact .inr ⟨d :: p, c, t, rfl, fun c hc => by
          rcases List.mem_cons.mp hc with rfl | hc
          · exact hd
          · exact h2 c hc, h3⟩
theorem no33 (c : UInt8) (h : c ≠ 33 ∧ c ≠ 58) : ([58, 33] : List UInt8).contains c = false := by
  simp [List.contains_cons, h.1, h.2]
theorem ia_none (l : List UInt8) (h : ∀ c ∈ l, c ≠ 33 ∧ c ≠ 58) : Lib.indexAny l [58, 33] = -1 :=
  Lib.indexAny_none fun j b _ hb => no33 b (h b (List.mem_of_getElem? hb))
theorem ia_hit (p t : List UInt8) (c : UInt8) (h : ∀ d ∈ p, d ≠ 33 ∧ d ≠ 58) (hc : c = 33 ∨ c = 58) : Lib.indexAny (p ++ c :: t) [58, 33] = (p.length : Int) := by
  refine Lib.indexAny_hit (x := c) ?_ (by simp) (by rcases hc with rfl | rfl <;> decide)
  intro j b hj hb
  rw [List.getElem?_append_left hj] at hb
  exact no33 b (h b (List.mem_of_getElem? hb))
theorem ib_no (l : List UInt8) (c : UInt8) (h : ∀ d ∈ l, d ≠ c) : Lib.indexByte l c = -1 := by
  induction l with
  | nil => rfl
  | cons d l ih =>
    have h1 : (d == c) = false := beq_eq_false_iff_ne.mpr (h d (List.mem_cons_self ..))
    have h2 := ih fun e he => h e (List.mem_cons_of_mem _ he)
    unfold Lib.indexByte
    rw [h1, h2]; rfl
theorem ib_at (p t : List UInt8) (c : UInt8) (h : ∀ d ∈ p, d ≠ c) : Lib.indexByte (p ++ c :: t) c = (p.length : Int) := by
  induction p with
  | nil =>
    rw [List.nil_append]
    unfold Lib.indexByte
    rw [beq_self_eq_true c]; rfl
  | cons d p ih =>
    have h1 : (d == c) = false := beq_eq_false_iff_ne.mpr (h d (List.mem_cons_self ..))
    have h2 := ih fun e he => h e (List.mem_cons_of_mem _ he)
    rw [List.cons_append]
    unfold Lib.indexByte
    rw [h1, h2]
    have h3 : ((p.length : Int) == -1) = false := beq_eq_false_iff_ne.mpr (by omega)
    rw [h3, List.length_cons]
    simp only [Bool.false_eq_true, if_false]; omega
/-- a text cut at a byte -/
theorem byte_find (c : UInt8) : ∀ l : List UInt8, (∀ d ∈ l, d ≠ c) ∨ ∃ p t, l = p ++ c :: t ∧ ∀ d ∈ p, d ≠ c
  | [] => .inl (by simp)
  | d :: l => by
    by_cases h : d = c
    · subst h; exact .inr ⟨[], l, rfl, by simp⟩
    · rcases byte_find c l with h1 | ⟨p, t, rfl, h2⟩
      · exact .inl fun e he => by
          rcases List.mem_cons.mp he with rfl | he
          · exact h
          · exact h1 e he
      · exact .inr ⟨d :: p, t, rfl, fun e he => by
          rcases List.mem_cons.mp he with rfl | he
          · exact h
          · exact h2 e he⟩
theorem S_take (s : ByteArray) (p t : List UInt8) (h : s.data.toList = p ++ t) : s.extract 0 p.length = S p := by
  rw [ext_S, h]; simp
theorem S_drop (s : ByteArray) (p t : List UInt8) (h : s.data.toList = p ++ t) : s.extract p.length s.size = S t := by
  rw [ext_S, h, size_len, h]; simp
theorem S_drop1 (s : ByteArray) (p t : List UInt8) (c : UInt8) (h : s.data.toList = p ++ c :: t) : s.extract (p.length + 1) s.size = S t := by
  have := S_drop s (p ++ [c]) t (by rw [h]; simp)
  simpa using this
theorem S_drop2 (s : ByteArray) (p t : List UInt8) (c d : UInt8) (h : s.data.toList = p ++ c :: d :: t) : s.extract (p.length + 2) s.size = S t := by
  have := S_drop s (p ++ [c, d]) t (by rw [h]; simp)
  simpa using this
theorem size_app (s : ByteArray) (p t : List UInt8) (h : s.data.toList = p ++ t) : s.size = p.length + t.length := by rw [size_len, h, List.length_append]
theorem bt_app (s : ByteArray) (p t : List UInt8) (c : UInt8) (h : s.data.toList = p ++ c :: t) : bt s (p.length : Int) = ((c.toNat : Nat) : Int) := by
  have hl := size_app s p (c :: t) h
  rw [List.length_cons] at hl
  have hlt : p.length < s.size := by omega
  rw [bt_get s p.length hlt, get_data]
  simp only [h]
  simp
theorem S_size (l : List UInt8) : (S l).size = l.length := by rw [size_len, data_S]
theorem pfx58 (t : List UInt8) : strings_HasPrefix.f (S (58 :: t)) (⟨#[58, 58]⟩ : ByteArray) = some (t.head? == some 58) := by
  unfold strings_HasPrefix.f stringslite_HasPrefix.f
  have hz : ((⟨#[58, 58]⟩ : ByteArray).size : Int) = 2 := rfl
  have hl : (⟨#[58, 58]⟩ : ByteArray).toList = [58, 58] := by rw [Lib.toList_data]
  rw [hz, S_size, List.length_cons, hl]
  cases t with
  | nil => rfl
  | cons d t =>
    rw [List.length_cons, if_pos (by omega), if_pos (by omega), if_pos (by omega), Lib.toList_data, data_extract, data_S]
    simp only [Option.bind_some, Option.some.injEq, List.drop_zero]
    show ((([58, d] : List UInt8)) == [58, 58]) = _
    simp
theorem op_f (s : ByteArray) (hs : s.size ≤ 100000000) : rule_operator.f s = some (match RP.opA [] s.data.toList with | none => (⟨#[]⟩, 0, ⟨#[]⟩) | some (h, k, t) => (S h, (k : Int), S t)) := by
  unfold rule_operator.f
  have hI : strings_IndexAny.f s (⟨#[58, 33]⟩ : ByteArray) = some (Lib.indexAny s.data.toList [58, 33]) := by
    unfold strings_IndexAny.f
    rw [if_pos ⟨by decide, by decide, by omega, by decide⟩]
  rw [hI, Option.bind_some]
  rcases op_find s.data.toList with h | ⟨p, c, t, h, hp, hc⟩
  · have e : RP.opA [] s.data.toList = none := by
      have := RP.opA_run s.data.toList [] [] h
      rw [List.append_nil, List.nil_append] at this
      rw [this]; rfl
    rw [ia_none _ h, if_pos (by decide), e]
  · have hz := size_app s p (c :: t) h
    rw [List.length_cons] at hz
    have hr := RP.opA_run p [] (c :: t) hp
    rw [List.nil_append] at hr
    have e1 := bt_app s p t c h
    have e2 := S_take s p (c :: t) h
    have e3 := S_drop1 s p t c h
    rw [h, ia_hit p t c hp hc, hr, if_neg (by omega), if_pos (by omega), if_pos (by omega), e1]
    have n1 : ((p.length : Int)).toNat = p.length := by omega
    have n2 : (wrap64 ((p.length : Int) + 1)).toNat = p.length + 1 := by rw [w64 (by omega) (by omega)]; omega
    have n3 : (wrap64 ((p.length : Int) + 2)).toNat = p.length + 2 := by rw [w64' (by omega) (by omega)]; omega
    have g1 : (0 : Int) ≤ wrap64 ((p.length : Int) + 1) := by rw [w64 (by omega) (by omega)]; omega
    have g2 : wrap64 ((p.length : Int) + 1) ≤ (s.size : Int) := by rw [w64 (by omega) (by omega)]; omega
    have g3 : (0 : Int) ≤ wrap64 ((p.length : Int) + 2) := by rw [w64' (by omega) (by omega)]; omega
    rcases hc with rfl | rfl
    · rw [if_pos (by rfl), if_pos (by omega), if_pos g1, if_pos g2, n1, n2, e2, e3, RP.opA, if_pos rfl]; rfl
    · have hx : s.extract p.length s.size = S (58 :: t) := S_drop s p (58 :: t) h
      rw [if_neg (show ¬ (((58 : UInt8).toNat : Nat) : Int) = 33 by decide), if_pos (by omega), n1, hx, pfx58, Option.bind_some, RP.opA, if_neg (show ¬ (58 : UInt8) = 33 by decide), if_pos (show (58 : UInt8) = 58 from rfl)]
      by_cases ht : t.head? = some 58
      · have hb : (t.head? == some 58) = true := beq_iff_eq.mpr ht
        obtain ⟨t', rfl⟩ : ∃ t', t = 58 :: t' := by
          cases t with
          | nil => cases ht
          | cons d t' => simp only [List.head?_cons, Option.some.injEq] at ht; subst ht; exact ⟨t', rfl⟩
        rw [List.length_cons] at hz
        have g4 : wrap64 ((p.length : Int) + 2) ≤ (s.size : Int) := by rw [w64' (by omega) (by omega)]; omega
        rw [if_pos hb, if_pos g3, if_pos g4, n3, e2, S_drop2 s p t' 58 58 h, if_pos ht]; rfl
      · have hb : (t.head? == some 58) = false := beq_eq_false_iff_ne.mpr ht
        rw [if_neg (by rw [hb]; decide), if_pos g1, if_pos g2, n2, e2, e3, if_neg ht]; rfl

/-! ### what the program makes of a line -/
def PRes (s : ByteArray) (at_ : Int) : List ByteArray × Int × List ByteArray × List ByteArray × Int × Int × Int :=
  match RP.parseL s.data.toList with
  | .inl e => ([], 0, [], [], 0, (e : Int), at_)
  | .inr r => (r.ts.map S, (r.k : Int), r.ss.map S, r.cs.map S, at_, 0, 0)
theorem cut_f (s : ByteArray) (hs : s.size ≤ 100000000) : ∃ b, strings_Cut.f s (⟨#[59]⟩ : ByteArray) = some (S (RP.semi [] s.data.toList).1, S (RP.semi [] s.data.toList).2, b) := by
  unfold strings_Cut.f stringslite_Cut.f
  have hI : stringslite_Index.f s (⟨#[59]⟩ : ByteArray) = some (Lib.indexByte s.data.toList 59) := by
    unfold stringslite_Index.f
    rw [dif_pos ⟨by decide, by omega⟩]; rfl
  rw [hI, Option.bind_some]
  rcases byte_find 59 s.data.toList with h | ⟨p, t, h, hp⟩
  · have e : RP.semi [] s.data.toList = (s.data.toList, []) := by
      have := RP.semi_run s.data.toList [] [] h
      rw [List.append_nil, List.nil_append] at this
      rw [this]; rfl
    refine ⟨false, ?_⟩
    rw [ib_no _ _ h, if_neg (by decide), e, S_data]; rfl
  · have hz := size_app s p (59 :: t) h
    rw [List.length_cons] at hz
    have hr := RP.semi_run p [] (59 :: t) hp
    rw [List.nil_append, RP.semi, if_pos rfl] at hr
    have e2 := S_take s p (59 :: t) h
    have e3 := S_drop1 s p t 59 h
    have hz1 : ((⟨#[59]⟩ : ByteArray).size : Int) = 1 := rfl
    have n1 : ((p.length : Int)).toNat = p.length := by omega
    have n2 : (wrap64 ((p.length : Int) + 1)).toNat = p.length + 1 := by rw [w64 (by omega) (by omega)]; omega
    have g1 : (0 : Int) ≤ wrap64 ((p.length : Int) + 1) := by rw [w64 (by omega) (by omega)]; omega
    have g2 : wrap64 ((p.length : Int) + 1) ≤ (s.size : Int) := by rw [w64 (by omega) (by omega)]; omega
    refine ⟨true, ?_⟩
    rw [h, ib_at p t 59 hp, hr, hz1, if_pos (by omega), if_pos (by omega), if_pos (by omega), if_pos g1, if_pos g2, n1, n2, e2, e3]; rfl
theorem long_f (l : List (List UInt8)) (hl : l.length ≤ 100000000) : slices_ContainsFunc_string_string.f (l.map S) longFn = some (RP.tooLong l) := by
  unfold slices_ContainsFunc_string_string.f
  rw [if_pos ⟨rfl, by rw [List.length_map]; omega⟩]
  congr 1
  unfold RP.tooLong
  rw [List.any_map]
  show l.any (fun w => decide (255 < (S w).size)) = _
  simp only [S_size]
theorem trim_set : (fun c => ([32, 9] : List UInt8).contains c) = WP.bl := by
  funext c
  rw [List.contains_cons, List.contains_cons, List.contains_nil, Bool.or_false]
  rfl
theorem trim_f (l : List UInt8) (hl : l.length ≤ 100000000) : strings_Trim.f (S l) (⟨#[32, 9]⟩ : ByteArray) = some (S (RP.trim l)) := by
  unfold strings_Trim.f
  rw [if_pos ⟨by decide, by decide, by rw [S_size]; omega, by decide⟩, data_S]
  have : ((⟨#[32, 9]⟩ : ByteArray).data.toList.contains) = WP.bl := trim_set
  rw [this]; rfl
theorem semi_len (l : List UInt8) : (RP.semi [] l).1.length ≤ l.length ∧ (RP.semi [] l).2.length ≤ l.length := by
  rcases byte_find 59 l with h | ⟨p, t, h, hp⟩
  · have := RP.semi_run l [] [] h
    rw [List.append_nil, List.nil_append] at this
    rw [this]
    exact ⟨Nat.le_refl _, Nat.zero_le _⟩
  · subst h
    have hr := RP.semi_run p [] (59 :: t) hp
    rw [List.nil_append, RP.semi, if_pos rfl] at hr
    rw [hr, List.length_append, List.length_cons]
    exact ⟨by show p.length ≤ _; omega, by show t.length ≤ _; omega⟩
theorem op_len : ∀ (l h0 h : List UInt8) (k : Nat) (t : List UInt8), RP.opA h0 l = some (h, k, t) → h.length ≤ h0.length + l.length ∧ t.length ≤ l.length
  | [], h0, h, k, t, e => by cases e
  | c :: l, h0, h, k, t, e => by
    rw [RP.opA] at e
    split at e
    · injection e with e; injection e with e1 e; injection e with e2 e3
      subst e1; subst e3
      simp only [List.length_cons]; omega
    · split at e
      · split at e
        · injection e with e; injection e with e1 e; injection e with e2 e3
          subst e1; subst e3
          simp only [List.length_cons, List.length_tail]; omega
        · injection e with e; injection e with e1 e; injection e with e2 e3
          subst e1; subst e3
          simp only [List.length_cons]; omega
      · have := op_len l _ h k t e
        simp only [List.length_append, List.length_cons, List.length_nil] at this ⊢
        omega
theorem S_nil (l : List UInt8) : ((S l).toList = ([] : List UInt8)) = (l = []) := by rw [Lib.toList_data, data_S]
theorem mx_le (a b : Int) : (mx a b > 4096) = (a > 4096 ∨ b > 4096) := by
  unfold mx; apply propext; split <;> omega
theorem parse_f (k : Nat) (s : ByteArray) (at_ : Int) (hs : s.size ≤ 100000000) : rule_Parse.f (k + 1) s at_ = some (PRes s at_) := by
  unfold rule_Parse.f
  rw [op_f s hs, Option.bind_some]
  unfold PRes RP.parseL
  cases e : RP.opA [] s.data.toList with
  | none =>
    obtain ⟨b, hb⟩ := cut_f (⟨#[]⟩ : ByteArray) (by decide)
    simp only []
    rw [hb, Option.bind_some, fields_f _ (by decide), Option.bind_some]
    simp only []
    rw [fields_f _ (by rw [S_size]; exact Nat.le_trans (semi_len _).1 (by decide)), Option.bind_some, if_pos trivial]
    rw [rule_Parse.j0, if_pos rfl]; rfl
  | some p =>
    obtain ⟨h, kd, t⟩ := p
    have hl := op_len _ _ _ _ _ e
    rw [← size_len, List.length_nil] at hl
    have hk := (RP.opA_some _ [] h kd t (by simp) e).2
    obtain ⟨b, hb⟩ := cut_f (S t) (by rw [S_size]; omega)
    rw [data_S] at hb
    have hsl := semi_len t
    simp only []
    rw [hb, Option.bind_some, fields_f _ (by rw [S_size]; omega), Option.bind_some]
    simp only []
    rw [fields_f _ (by rw [S_size]; omega), Option.bind_some, data_S, data_S]
    have f1 := fields_len h
    have f2 := fields_len (RP.semi [] t).1
    generalize WP.fieldsL h = ts at *
    generalize WP.fieldsL (RP.semi [] t).1 = ss at *
    have hl0 : (((ts.map S).length : Int) = 0) = (ts = []) := by
      rw [List.length_map]
      apply propext
      constructor
      · intro h; exact List.length_eq_zero_iff.mp (by omega)
      · rintro rfl; rfl
    rw [if_neg (by rcases hk with rfl | rfl | rfl <;> decide)]
    have J : ∀ x : Bool, rule_Parse.j0 (k + 1) at_ (S (RP.semi [] t).2) x (ts.map S) (kd : Int) (ss.map S) at_ = some (if x = true then ([], 0, [], [], 0, 14, at_) else if 4096 < ts.length ∨ 4096 < ss.length then ([], 0, [], [], 0, 5, at_) else (ts.map S, (kd : Int), ss.map S, (if RP.trim (RP.semi [] t).2 = [] then [] else [RP.trim (RP.semi [] t).2]).map S, at_, 0, 0)) := by
      intro x
      rw [rule_Parse.j0]
      cases x with
      | true => rfl
      | false =>
        rw [if_neg Bool.false_ne_true, if_neg Bool.false_ne_true, List.length_map, List.length_map]
        simp only [mx_le]
        by_cases hm : 4096 < ts.length ∨ 4096 < ss.length
        · rw [if_pos (by omega), if_pos hm]
        · rw [if_neg (by omega), if_neg hm, trim_f _ (by omega), Option.bind_some]
          simp only [S_nil]
          by_cases ht : RP.trim (RP.semi [] t).2 = []
          · rw [if_pos ht, if_pos ht]; rfl
          · rw [if_neg ht, if_neg ht]; rfl
    simp only [hl0]
    by_cases h0 : ts = []
    · rw [if_pos h0, J true, if_pos rfl, if_pos (.inl h0)]; rfl
    · rw [if_neg h0]
      have hlf : (20 : Nat) = longFn := rfl
      rw [hlf, long_f ts (by omega), Option.bind_some]
      cases h1 : RP.tooLong ts with
      | true => rw [if_pos rfl, J true, if_pos rfl, if_pos (.inr (.inl rfl))]; rfl
      | false =>
        rw [if_neg (by decide), long_f ss (by omega), Option.bind_some, J]
        cases h2 : RP.tooLong ss with
        | true => rw [if_pos rfl, if_pos (.inr (.inr rfl))]; rfl
        | false =>
          rw [if_neg Bool.false_ne_true, if_neg (show ¬ (ts = [] ∨ false = true ∨ false = true) by simp [h0])]
          by_cases hm : 4096 < ts.length ∨ 4096 < ss.length
          · rw [if_pos hm, if_pos hm]; rfl
          · rw [if_neg hm, if_neg hm]

theorem rtrim_len (p : UInt8 → Bool) (l : List UInt8) : (RP.rtrim p l).length ≤ l.length := by
  unfold RP.rtrim
  rw [List.length_reverse]
  have := (List.dropWhile_suffix (p := p) (l := l.reverse)).length_le
  rw [List.length_reverse] at this
  exact this
/-! ### the laws -/
theorem same_rbig (l : List ByteArray) (hl : l.length ≤ 100000000) : ∀ (n i : Nat), i ≤ l.length → l.length - i < n → bobstayref01_Same.l0 n l l (i : Int) = some true
  | 0, _, _, h => by omega
  | n + 1, i, hi, hn => by
    unfold bobstayref01_Same.l0
    by_cases hlt : i < l.length
    · rw [if_pos (by omega), if_pos (by omega), if_pos (by omega), if_pos rfl, w64 (by omega) (by omega), show ((i : Int) + 1) = ((i + 1 : Nat) : Int) by omega]
      exact same_rbig l hl n (i + 1) (by omega) (by omega)
    · rw [if_neg (by omega)]
theorem same_big (l : List ByteArray) (hl : l.length ≤ 100000000) (n : Nat) (hn : l.length < n) : bobstayref01_Same.f n l l = some true := by
  unfold bobstayref01_Same.f
  rw [if_pos rfl]
  exact same_rbig l hl n 0 (by omega) (by omega)
theorem rsame_refl (a : List ByteArray) (k : Int) (b c : List ByteArray) (z : Int) (ha : a.length ≤ 5000) (hb : b.length ≤ 5000) (hc : c.length ≤ 5000) (n : Nat) (hn : 5000 < n) : bobstayref13_Same.f n a k b c z a k b c z = some true := by
  unfold bobstayref13_Same.f
  rw [if_pos rfl, if_pos rfl, same_big a (by omega) n (by omega), Option.bind_some, if_pos rfl, same_big b (by omega) n (by omega), Option.bind_some, if_pos rfl, same_big c (by omega) n (by omega), Option.bind_some]
theorem alive0 : bobstaylaw13_alive.f 40 = some true := by decide +kernel
theorem alive : ∀ k : Nat, bobstaylaw13_alive.f (40 + k) = some true
  | 0 => alive0
  | k + 1 => bobstaylaw13_alive.mono (40 + k) true (alive k)
theorem pres_small (s : ByteArray) (at_ : Int) : (PRes s at_).1.length ≤ 5000 ∧ (PRes s at_).2.2.1.length ≤ 5000 ∧ (PRes s at_).2.2.2.1.length ≤ 5000 := by
  unfold PRes RP.parseL
  cases RP.opA [] s.data.toList with
  | none => exact ⟨Nat.zero_le _, Nat.zero_le _, Nat.zero_le _⟩
  | some x =>
    obtain ⟨h, k, t⟩ := x
    simp only []
    split
    · rename_i e
      refine ⟨by simp, by simp, by simp⟩
    · rename_i r e
      split at e
      · cases e
      · split at e
        · cases e
        · rename_i g1 g2
          injection e with e
          subst e
          simp only [List.length_map]
          refine ⟨by omega, by omega, ?_⟩
          split <;> simp
end Go.Proofs.YtapfblaejmenlaaDoor.PureR
