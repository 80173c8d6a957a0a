/- A text with a value in place of a name is the document's. -/
import Derived.Test.YtiedbnjoomcdbaaDoorPureLoopB
set_option linter.unusedVariables false
set_option linter.unusedSimpArgs false
namespace Go.Proofs.YtiedbnjoomcdbaaDoor.PureC
open Go.RowKit Go.Proofs.YtiedbnjoomcdbaaDoor.PC Go.Proofs.YtiedbnjoomcdbaaDoorW.PrintWords Go.Proofs.YtiedbnjoomcdbaaDoorW.PrintLast Go.Proofs.YtiedbnjoomcdbaaDoor.Ba

def qt (v : List UInt8) : List UInt8 := repl 36 [36, 36] v
theorem qt_cons (c : UInt8) (r : List UInt8) : qt (c :: r) = (if c = 36 then [36, 36] else [c]) ++ qt r := by simp [qt, repl]
theorem qt_len : ∀ v : List UInt8, (qt v).length ≤ 2 * v.length
  | [] => by simp [qt, repl]
  | c :: r => by
    have := qt_len r
    rw [qt_cons, List.length_append, List.length_cons]
    split <;> simp only [List.length_cons, List.length_nil] <;> omega
theorem quoteG (v : List UInt8) (hv : v.length ≤ 1000000) : PO.expand_Quote.f (S v) = some (S (qt v)) := by
  unfold PO.expand_Quote.f PO.strings_ReplaceAll.f
  rw [dif_pos ⟨by rw [S_size]; omega, by decide, by decide, by decide⟩, data_S]
  rfl
theorem quote_l0 (v : List UInt8) (hv : v.length ≤ 1000000) : ∀ (r p A : List UInt8), v = p ++ r → A.length + 2 * r.length ≤ 10000000 →
    Ev fun k => bobstayref08_Quote.l0 k (S v) (pnums A) (p.length : Int) = some (S (A ++ qt r))
  | [], p, A, h, hA => ev_all fun k => by
    have hs : v.length = p.length := by rw [h]; simp
    rw [bobstayref08_Quote.l0, if_neg (by rw [S_size]; omega), strOf_pnums]
    simp [qt, repl]
  | c :: r, p, A, h, hA => by
    have hs : v.length = p.length + (r.length + 1) := by rw [h]; simp
    have hp : p.length ≤ 1000000 := by omega
    have Hb := Lib.hid (bt_app (S v) p r c (by rw [data_S]; exact h))
    simp only [List.length_cons] at hA
    have hq : v = (p ++ [c]) ++ r := by rw [h]; simp
    have hl : (p ++ [c]).length = p.length + 1 := by simp
    by_cases hc : c = 36
    · have g := quote_l0 v hv r (p ++ [c]) (A ++ [36] ++ [c]) hq (by simp only [List.length_append, List.length_cons, List.length_nil]; omega)
      rw [hl] at g
      refine ev_step g fun k ih => ?_
      rw [bobstayref08_Quote.l0, if_pos (by rw [S_size]; omega), if_pos (by omega), Hb.out, if_pos (by rw [ue36]; exact hc), if_pos (by rw [pn_len]; omega)]
      simp only [Option.bind_some]
      rw [show ([36] : List Int) = [(((36 : UInt8).toNat : Nat) : Int)] from rfl, pn_snoc, if_pos (by rw [pn_len, List.length_append, List.length_cons, List.length_nil]; omega), pn_snoc, w1 p.length hp, qt_cons, if_pos hc]
      rw [ih, hc]
      simp
    · have g := quote_l0 v hv r (p ++ [c]) (A ++ [c]) hq (by simp only [List.length_append, List.length_cons, List.length_nil]; omega)
      rw [hl] at g
      refine ev_step g fun k ih => ?_
      rw [bobstayref08_Quote.l0, if_pos (by rw [S_size]; omega), if_pos (by omega), Hb.out, if_neg (by rw [ue36]; exact hc), if_pos (by rw [pn_len]; omega), pn_snoc, w1 p.length hp, qt_cons, if_neg hc]
      rw [ih]
      simp
theorem quoteR (v : List UInt8) (hv : v.length ≤ 1000000) : Ev fun k => bobstayref08_Quote.f k (S v) = some (S (qt v)) := by
  have := quote_l0 v hv v [] [] (by simp) (by simp only [List.length_nil]; omega)
  exact ev_imp this fun k h => by unfold bobstayref08_Quote.f; simpa [pnums] using h
/-! ### The comparison with a use of the name -/
theorem isUse_of (U : List UInt8) (N : ByteArray) : isUse U N.data.toList = isUseB (S U) N := by
  have := isUse_eq (S U) N
  rw [Lib.toList_data, data_S] at this
  exact this
theorem cmp_eq {α : Type} (U : List UInt8) (N : ByteArray) (hN : N.size ≤ 1000000) (Y D : Option α) :
    (if 2 + N.size ≤ 9223372036854775807 then (if ((⟨#[36, 123]⟩ : ByteArray) ++ N).size + 1 ≤ 9223372036854775807 then (if U = (((⟨#[36, 123]⟩ : ByteArray) ++ N) ++ (⟨#[125]⟩ : ByteArray)).toList then Y
      else (if ((⟨#[36, 40]⟩ : ByteArray) ++ N).size + 1 ≤ 9223372036854775807 then (if U = (((⟨#[36, 40]⟩ : ByteArray) ++ N) ++ (⟨#[41]⟩ : ByteArray)).toList then Y
        else (if (N.size : Int) = 1 then (if 1 + N.size ≤ 9223372036854775807 then (if U = ((⟨#[36]⟩ : ByteArray) ++ N).toList then Y else D) else none) else D)) else none)) else none) else none)
    = if isUse U N.data.toList = true then Y else D := by
  have e1 : ((⟨#[36, 123]⟩ : ByteArray) ++ N).size = 2 + N.size := by rw [ByteArray.size_append]; rfl
  have e2 : ((⟨#[36, 40]⟩ : ByteArray) ++ N).size = 2 + N.size := by rw [ByteArray.size_append]; rfl
  rw [if_pos (by omega), if_pos (by omega), if_pos (c := ((⟨#[36, 40]⟩ : ByteArray) ++ N).size + 1 ≤ 9223372036854775807) (by omega), if_pos (c := 1 + N.size ≤ 9223372036854775807) (by omega), isUse_of]
  unfold isUseB
  rw [Lib.toList_data (S U), data_S]
  by_cases a : U = (((⟨#[36, 123]⟩ : ByteArray) ++ N) ++ (⟨#[125]⟩ : ByteArray)).toList
  · rw [if_pos a, if_pos (by rw [beq_iff_eq.2 a]; simp)]
  · have a' := beq_eq_false_iff_ne.2 a
    rw [if_neg a, a', Bool.false_or]
    by_cases b : U = (((⟨#[36, 40]⟩ : ByteArray) ++ N) ++ (⟨#[41]⟩ : ByteArray)).toList
    · rw [if_pos b, if_pos (by rw [beq_iff_eq.2 b]; simp)]
    · have b' := beq_eq_false_iff_ne.2 b
      rw [if_neg b, b', Bool.false_or]
      by_cases d : (N.size : Int) = 1
      · rw [if_pos d, decide_eq_true d, Bool.true_and]
        by_cases c : U = ((⟨#[36]⟩ : ByteArray) ++ N).toList
        · rw [if_pos c, if_pos (by rw [beq_iff_eq.2 c])]
        · have c' := beq_eq_false_iff_ne.2 c
          rw [if_neg c, c', if_neg (by simp)]
      · rw [if_neg d, decide_eq_false d, Bool.false_and, if_neg (by simp)]
theorem isUse36 (n : List UInt8) : isUse [36] n = false := by
  unfold isUse
  by_cases h : n.length = 1
  · cases n with
    | nil => simp at h
    | cons a n => simp
  · simp [h]
theorem isUse0 (n : List UInt8) : isUse [] n = false := by
  unfold isUse; simp
/-! ### The document's round at a dollar -/
theorem ex_at (p l : List UInt8) (m : Nat) (hm : m ≤ l.length) : ((S (p ++ l)).extract p.length (p.length + m)).toList = l.take m := by
  rw [Lib.toList_data, ByteArray.data_extract, Array.toList_extract, data_S]
  simp
theorem ref_use (k : Nat) (p q : List UInt8) (m : Nat) (N V X : ByteArray) (hN : N.size ≤ 1000000) (hq : ∀ c r, q = c :: r → c ≠ 36) (hm : m ≤ q.length + 1) (hsz : p.length + (q.length + 1) ≤ 1000000)
    (hE : bobstayref08_End.f k (S (p ++ 36 :: q)) (p.length : Int) = some (if m = 0 then -1 else ((p.length + m : Nat) : Int))) :
    bobstayref12_bind.l0 (k + 1) (S (p ++ 36 :: q)) N V X (p.length : Int) = if isUse ((36 :: q).take m) N.data.toList = true then
      ((bobstayref08_Quote.f k V).bind fun t => if X.size + t.size ≤ 9223372036854775807 then bobstayref12_bind.l0 k (S (p ++ 36 :: q)) N V (X ++ t) ((p.length + m : Nat) : Int) else none)
      else (if X.size + 1 ≤ 9223372036854775807 then bobstayref12_bind.l0 k (S (p ++ 36 :: q)) N V (X ++ (⟨#[36]⟩ : ByteArray)) ((p.length + 1 : Nat) : Int) else none) := by
  have hz : ((S (p ++ 36 :: q)).size : Int) = ((p.length + (q.length + 1) : Nat) : Int) := by rw [S_size, List.length_append]; rfl
  have Hb := Lib.hid (bt_app (S (p ++ 36 :: q)) p q 36 (by rw [data_S]))
  have hp : p.length ≤ 1000000 := by omega
  rw [bobstayref12_bind.l0, hz, if_pos (by omega), if_pos (by omega), Hb.out, if_pos (by rfl), w1 p.length hp]
  have hX : m ≠ 0 → ((S (p ++ 36 :: q)).extract (p.length : Int).toNat ((p.length + m : Nat) : Int).toNat).toList = (36 :: q).take m := fun _ => by
    rw [Int.toNat_natCast, Int.toNat_natCast]
    exact ex_at p (36 :: q) m (by simp only [List.length_cons]; omega)
  have key : (if (if m = 0 then (-1 : Int) else ((p.length + m : Nat) : Int)) > 0 then True else False) = (m ≠ 0) := by
    by_cases h : m = 0
    · simp [h]
    · rw [if_neg h, if_pos (by omega)]; simp [h]
  cases q with
  | nil =>
    rw [if_neg (by simp only [List.length_nil]; omega), hE]
    simp only [Option.bind_some]
    by_cases h0 : m = 0
    · subst h0
      simp only [if_true]
      rw [if_neg (by omega), cmp_eq _ _ hN, isUse36, List.take_zero, isUse0]
      simp only [Bool.false_eq_true, if_false]
    · simp only [if_neg h0]
      rw [if_pos (by omega), if_pos (by omega), if_pos (by simp only [List.length_nil] at *; omega), hX h0, cmp_eq _ _ hN]
  | cons c r =>
    have hb2 : bt (S (p ++ 36 :: c :: r)) ((p.length + 1 : Nat) : Int) = ((c.toNat : Nat) : Int) := by
      have := bt_app (S (p ++ 36 :: c :: r)) (p ++ [36]) r c (by rw [data_S]; simp)
      rw [List.length_append] at this
      exact this
    rw [if_pos (by simp only [List.length_cons]; omega), if_pos (by omega), hb2, if_neg (by rw [ue36]; exact hq c r rfl), hE]
    clear hb2
    simp only [Option.bind_some]
    by_cases h0 : m = 0
    · subst h0
      simp only [if_true]
      rw [if_neg (by omega), cmp_eq _ _ hN, isUse36, List.take_zero, isUse0]
      simp only [Bool.false_eq_true, if_false]
    · simp only [if_neg h0]
      rw [if_pos (by omega), if_pos (by omega), if_pos (by simp only [List.length_cons] at *; omega), hX h0, cmp_eq _ _ hN]
theorem ref_dd (k : Nat) (p r : List UInt8) (N V X : ByteArray) (hsz : p.length + (r.length + 2) ≤ 1000000) (hX : X.size ≤ 1000000000) :
    bobstayref12_bind.l0 (k + 1) (S (p ++ 36 :: 36 :: r)) N V X (p.length : Int) = bobstayref12_bind.l0 k (S (p ++ 36 :: 36 :: r)) N V (X ++ (⟨#[36, 36]⟩ : ByteArray)) ((p.length + 2 : Nat) : Int) := by
  have hz : ((S (p ++ 36 :: 36 :: r)).size : Int) = ((p.length + (r.length + 2) : Nat) : Int) := by rw [S_size, List.length_append]; rfl
  have Hb := Lib.hid (bt_app (S (p ++ 36 :: 36 :: r)) p (36 :: r) 36 (by rw [data_S]))
  have hp : p.length ≤ 1000000 := by omega
  have hb2 : bt (S (p ++ 36 :: 36 :: r)) ((p.length + 1 : Nat) : Int) = (((36 : UInt8).toNat : Nat) : Int) := by
    have := bt_app (S (p ++ 36 :: 36 :: r)) (p ++ [36]) r 36 (by rw [data_S]; simp)
    rw [List.length_append] at this
    exact this
  have hw : wrap64 ((p.length : Int) + 2) = ((p.length + 2 : Nat) : Int) := by clear hb2; rw [v64' (by omega) (by omega)]; omega
  rw [bobstayref12_bind.l0, hz, if_pos (by omega), if_pos (by omega), Hb.out, if_pos (by rfl), w1 p.length hp, if_pos (by clear hb2 hw; omega), if_pos (by clear hb2 hw; omega), hb2, if_pos (by rfl), if_pos (by clear hb2 hw; omega), hw]
theorem ref_chr (k : Nat) (p r : List UInt8) (c : UInt8) (N V X : ByteArray) (hc : c ≠ 36) (hsz : p.length + (r.length + 1) ≤ 1000000) (hX : X.size ≤ 1000000000) :
    bobstayref12_bind.l0 (k + 1) (S (p ++ c :: r)) N V X (p.length : Int) = bobstayref12_bind.l0 k (S (p ++ c :: r)) N V (X ++ S [c]) ((p.length + 1 : Nat) : Int) := by
  have hz : ((S (p ++ c :: r)).size : Int) = ((p.length + (r.length + 1) : Nat) : Int) := by rw [S_size, List.length_append]; rfl
  have Hb := Lib.hid (bt_app (S (p ++ c :: r)) p r c (by rw [data_S]))
  have hp : p.length ≤ 1000000 := by omega
  have hx : (S (p ++ c :: r)).extract (p.length : Int).toNat ((p.length + 1 : Nat) : Int).toNat = S [c] := by
    apply ba_ext
    rw [Int.toNat_natCast, Int.toNat_natCast, ByteArray.data_extract, Array.toList_extract, data_S, data_S]
    simp
  have hs1 : (S [c]).size = 1 := by rw [S_size]; rfl
  rw [bobstayref12_bind.l0, hz, if_pos (by omega), if_pos (by omega), Hb.out, if_neg (by rw [ue36]; exact hc), w1 p.length hp, if_pos (by omega), if_pos (by omega), hx, if_pos (by omega)]
/-- bytes that are no dollars are gone over -/
theorem ref_skip (N V R : ByteArray) : ∀ (h p t X : List UInt8), (∀ d ∈ h, d ≠ 36) → p.length + (h.length + t.length) ≤ 1000000 → X.length + h.length ≤ 1000000000 →
    (Ev fun k => bobstayref12_bind.l0 k (S (p ++ (h ++ t))) N V (S (X ++ h)) ((p.length + h.length : Nat) : Int) = some R) → Ev fun k => bobstayref12_bind.l0 k (S (p ++ (h ++ t))) N V (S X) (p.length : Int) = some R
  | [], p, t, X, hh, hs, hX, he => by simpa using he
  | c :: h, p, t, X, hh, hs, hX, he => by
    simp only [List.length_cons] at hs hX
    have e1 : p ++ (c :: h ++ t) = (p ++ [c]) ++ (h ++ t) := by simp
    have e2 : (p ++ [c]).length = p.length + 1 := by simp
    have e3 : X ++ c :: h = (X ++ [c]) ++ h := by simp
    have e4 : p.length + (c :: h).length = (p ++ [c]).length + h.length := by simp only [List.length_cons, List.length_append, List.length_nil]; omega
    have := ref_skip N V R h (p ++ [c]) t (X ++ [c]) (fun d hd => hh d (by simp [hd])) (by omega) (by simp only [List.length_append, List.length_cons, List.length_nil]; omega) (by rw [← e1, ← e3, ← e4]; exact he)
    rw [← e1, e2] at this
    refine ev_step this fun k ih => ?_
    have := ref_chr k p (h ++ t) c N V (S X) (hh c (by simp)) (by rw [List.length_append]; omega) (by rw [S_size]; omega)
    rw [List.cons_append] at ih ⊢
    rw [this, S_cat]
    exact ih
/-! ### A text with a value in place of a name: the program's and the document's -/
theorem use_S (q : List UInt8) (m : Nat) (h : UseAt (36 :: q) m) : Ev fun k => PO.expand_Use.f k (S (36 :: q)) = some (m : Int) := by
  refine ev_imp h.2.1 fun k ih => ?_
  have hb : bt (S (36 :: q)) 0 = (((36 : UInt8).toNat : Nat) : Int) := bt_app (S (36 :: q)) [] q 36 (by rw [data_S]; rfl)
  unfold PO.expand_Use.f
  rw [if_neg (by rw [S_nil]; simp), if_pos (by rw [S_size]; simp only [List.length_cons]; omega), hb, if_pos (by rfl), ih]
  simp only [Option.bind_some]
  rw [S_size, List.length_take, Nat.min_eq_left h.1]
theorem ar5 {A T B : Nat} (h : A + 5000 * T ≤ B) {x h1 t1 : Nat} (hx : x ≤ 4000) (ht : h1 + (t1 + 1) ≤ T) : A + h1 + x + 5000 * t1 ≤ B := by omega
theorem bind_rel (name value : List UInt8) (hn : name.length ≤ 1000) (hv : value.length ≤ 1000) : ∀ (j : Nat) (t p acc : List UInt8), t.length ≤ j → p.length + t.length ≤ 100000 → acc.length + 5000 * t.length ≤ 1000000000 →
    ∃ res, (Ev fun k => bindA k t name value acc = some res) ∧ (Ev fun k => bobstayref12_bind.l0 k (S (p ++ t)) (S name) (S value) (S acc) (p.length : Int) = some (S res)) := by
  intro j
  induction j with
  | zero =>
    intro t p acc hj hp ha
    have : t = [] := List.length_eq_zero_iff.1 (by omega)
    subst this
    refine ⟨acc, ev_all fun k => ?_, ev_all fun k => ?_⟩
    · rw [bindA, if_pos (by omega), if_neg (by simp), List.append_nil]
    · rw [bobstayref12_bind.l0, if_neg (by rw [S_size]; simp)]
  | succ j IH =>
    intro t p acc hj hp ha
    rcases split36 t with ⟨h1, h2⟩ | ⟨q, h1, h2, h3, h4⟩
    · refine ⟨acc ++ t, ev_all fun k => ?_, ?_⟩
      · rw [bindA, if_pos (by omega), if_neg (by rw [h1]; simp)]
      · have := ref_skip (S name) (S value) (S (acc ++ t)) t p [] acc h2 (by simp only [List.length_nil]; omega) (by omega) (ev_all fun k => by
          rw [bobstayref12_bind.l0, if_neg (by rw [S_size]; simp)])
        simpa using this
    · obtain ⟨h, hh⟩ : ∃ h, t.takeWhile (· != 36) = h := ⟨_, rfl⟩
      rw [hh] at h2 h4
      have htl : t.length = h.length + (q.length + 1) := by rw [h2]; simp
      obtain ⟨m, hU, hm2⟩ := use_all (q.length + 1) (36 :: q) (by simp) (by simp) (by simp only [List.length_cons]; omega)
      have hml : m ≤ q.length + 1 := by simpa using hU.1
      have hG := use_S q m hU
      have hA0 : ∀ k (hk : PO.expand_Use.f k (S (36 :: q)) = some (m : Int)), bindA (k + 1) t name value acc =
          (if (36 :: q).take m = [36, 36] then bindA k ((36 :: q).drop 2) name value (acc ++ h ++ [36, 36])
           else if isUse ((36 :: q).take m) name = true then bindA k ((36 :: q).drop m) name value (acc ++ h ++ qt value)
           else bindA k ((36 :: q).drop 1) name value (acc ++ h ++ [36])) := fun k hk => by
        rw [bindA, if_pos (by omega), if_pos h1, h3, hh, hk]
        simp only [Option.bind_some]
        rw [if_pos (by omega), Int.toNat_natCast, if_pos (by simpa using hml), quoteG value (by omega)]
        simp only [Option.bind_some]
        have hql := qt_len value
        rw [data_S, if_pos (c := (S (qt value)).size ≤ 1000000000) (by rw [S_size]; omega)]
      have hR : ∀ (res : List UInt8) (X : List UInt8), (Ev fun k => bobstayref12_bind.l0 k (S ((p ++ h) ++ 36 :: q)) (S name) (S value) (S (acc ++ h)) (((p ++ h).length : Nat) : Int) = some (S res)) →
          Ev fun k => bobstayref12_bind.l0 k (S (p ++ t)) (S name) (S value) (S acc) (p.length : Int) = some (S res) := fun res _ he => by
        have := ref_skip (S name) (S value) (S res) h p (36 :: q) acc h4 (by simp only [List.length_cons]; omega) (by omega) (by rw [← List.append_assoc, ← List.length_append]; exact he)
        rw [← h2] at this
        exact this
      have hpl : (p ++ h).length = p.length + h.length := List.length_append
      have hal : (acc ++ h).length = acc.length + h.length := List.length_append
      by_cases hdd : ∃ r, q = 36 :: r
      · obtain ⟨r, rfl⟩ := hdd
        have hm : m = 2 := hm2 36 36 r rfl (by decide) (by decide)
        subst hm
        simp only [List.length_cons] at *
        obtain ⟨res, g1, g2⟩ := IH r (p ++ h ++ [36, 36]) (acc ++ h ++ [36, 36]) (by omega) (by simp only [List.length_append, List.length_cons, List.length_nil]; omega) (by simp only [List.length_append, List.length_cons, List.length_nil]; exact ar5 (h1 := h.length) (x := 2) ha (by omega) (by omega))
        refine ⟨res, ev_step (ev_and hG g1) fun k ih => ?_, hR res [] (ev_step g2 fun k ih => ?_)⟩
        · rw [hA0 k ih.1, if_pos (by rfl)]
          exact ih.2
        · have := ref_dd k (p ++ h) r (S name) (S value) (S (acc ++ h)) (by rw [hpl]; omega) (by rw [S_size, hal]; omega)
          rw [this, show (⟨#[36, 36]⟩ : ByteArray) = S [36, 36] from rfl, S_cat]
          have e1 : (p ++ h ++ [36, 36]) ++ r = (p ++ h) ++ 36 :: 36 :: r := by simp
          have e2 : (p ++ h ++ [36, 36]).length = (p ++ h).length + 2 := by simp only [List.length_append, List.length_cons, List.length_nil]
          rw [e1, e2] at ih
          exact ih
      · have hq : ∀ c r, q = c :: r → c ≠ 36 := fun c r e hc => hdd ⟨r, by rw [e, hc]⟩
        have hne : (36 :: q).take m ≠ [36, 36] := fun e => by
          cases m with
          | zero => simp at e
          | succ m =>
            rw [List.take_succ_cons] at e
            have e := (List.cons.inj e).2
            cases q with
            | nil => simp at e
            | cons c r =>
              cases m with
              | zero => simp at e
              | succ m =>
                rw [List.take_succ_cons] at e
                exact hq c r rfl (List.cons.inj e).1
        have hE := hU.2.2 (p ++ h) (by rw [hpl]; simp only [List.length_cons]; omega)
        have hS : (S name).size ≤ 1000000 := by rw [S_size]; omega
        have hQ := quoteR value (by omega)
        have hql := qt_len value
        cases hI : isUse ((36 :: q).take m) name with
        | true =>
          have hm0 : m ≠ 0 := fun e => by rw [e, List.take_zero, isUse0] at hI; cases hI
          have hdl : ((36 :: q).drop m).length = q.length + 1 - m := by rw [List.length_drop, List.length_cons]
          have hpl2 : (p ++ h ++ (36 :: q).take m).length = p.length + h.length + m := by rw [List.length_append, hpl, List.length_take, List.length_cons, Nat.min_eq_left hml]
          obtain ⟨res, g1, g2⟩ := IH ((36 :: q).drop m) (p ++ h ++ (36 :: q).take m) (acc ++ h ++ qt value) (by omega) (by omega) (by
            rw [List.length_append, hal, hdl]
            exact ar5 (h1 := h.length) (x := (qt value).length) ha (by omega) (by omega))
          refine ⟨res, ev_step (ev_and hG g1) fun k ih => ?_, hR res [] (ev_step (ev_and (ev_and hE hQ) g2) fun k ih => ?_)⟩
          · rw [hA0 k ih.1, if_neg hne, if_pos hI]
            exact ih.2
          · rw [ref_use k (p ++ h) q m (S name) (S value) (S (acc ++ h)) hS hq hml (by rw [hpl]; omega) ih.1.1, data_S, if_pos hI, ih.1.2]
            simp only [Option.bind_some]
            rw [if_pos (by rw [S_size, S_size, hal]; omega), S_cat]
            have e1 : (p ++ h ++ (36 :: q).take m) ++ (36 :: q).drop m = (p ++ h) ++ 36 :: q := by rw [List.append_assoc, List.take_append_drop]
            have ih2 := ih.2
            rw [e1, hpl2] at ih2
            rw [hpl]
            exact ih2
        | false =>
          obtain ⟨res, g1, g2⟩ := IH q (p ++ h ++ [36]) (acc ++ h ++ [36]) (by omega) (by simp only [List.length_append, List.length_cons, List.length_nil]; omega) (by simp only [List.length_append, List.length_cons, List.length_nil]; exact ar5 (h1 := h.length) (x := 1) ha (by omega) (by omega))
          refine ⟨res, ev_step (ev_and hG g1) fun k ih => ?_, hR res [] (ev_step (ev_and hE g2) fun k ih => ?_)⟩
          · rw [hA0 k ih.1, if_neg hne, if_neg (by rw [hI]; simp)]
            exact ih.2
          · rw [ref_use k (p ++ h) q m (S name) (S value) (S (acc ++ h)) hS hq hml (by rw [hpl]; omega) ih.1, data_S, if_neg (by rw [hI]; simp), if_pos (by rw [S_size, hal]; omega), show (⟨#[36]⟩ : ByteArray) = S [36] from rfl, S_cat]
            have e1 : (p ++ h ++ [36]) ++ q = (p ++ h) ++ 36 :: q := by simp
            have e2 : (p ++ h ++ [36]).length = (p ++ h).length + 1 := by simp only [List.length_append, List.length_cons, List.length_nil]
            have ih2 := ih.2
            rw [e1, e2] at ih2
            exact ih2
end Go.Proofs.YtiedbnjoomcdbaaDoor.PureC
