/- The text of any lines, the first word of any text, and whether lists are the same, are the document's. -/
import Derived.Test.YthkndchbgiimnaaDoorPLineWr
import Derived.Test.YthkndchbgiimnaaDoorPureLineC
import Derived.Test.YthkndchbgiimnaaDoorRowLine
set_option linter.unusedVariables false
set_option linter.unusedSimpArgs false
namespace Go.Proofs.YthkndchbgiimnaaDoor.PureL
open Go.RowKit Go.Proofs.YthkndchbgiimnaaDoor.PL Go.Proofs.YthkndchbgiimnaaDoorW.PrintWords Go.Proofs.YthkndchbgiimnaaDoorW.PrintLast Go.Proofs.YthkndchbgiimnaaDoor.Ba

def Ev (P : Nat → Prop) : Prop := ∃ N, ∀ n, N ≤ n → P n
theorem ev_all {P : Nat → Prop} (h : ∀ n, P (n + 1)) : Ev P := ⟨1, fun n hn => by obtain ⟨k, rfl⟩ : ∃ k, n = k + 1 := ⟨n - 1, by omega⟩; exact h k⟩
theorem ev_step {P Q : Nat → Prop} (h : Ev P) (s : ∀ n, P n → Q (n + 1)) : Ev Q := by
  obtain ⟨N, hN⟩ := h
  refine ⟨N + 1, fun n hn => ?_⟩
  obtain ⟨k, rfl⟩ : ∃ k, n = k + 1 := ⟨n - 1, by omega⟩
  exact s k (hN k (by omega))
theorem ev_imp {P Q : Nat → Prop} (h : Ev P) (s : ∀ n, P n → Q n) : Ev Q := by
  obtain ⟨N, hN⟩ := h
  exact ⟨N, fun n hn => s n (hN n hn)⟩
theorem ev_and {P Q : Nat → Prop} (h : Ev P) (g : Ev Q) : Ev fun n => P n ∧ Q n := by
  obtain ⟨N, hN⟩ := h
  obtain ⟨M, hM⟩ := g
  exact ⟨N + M, fun n hn => ⟨hN n (by omega), hM n (by omega)⟩⟩

abbrev L51 := S51
abbrev L30 := S30
def cv (x : L51) : L30 := ⟨x.f0, x.f1, x.f2⟩
def tr (x : L51) : ByteArray × Int × Bool := (x.f0, x.f1, x.f2)
theorem rd51 (l : List L51) (i : Nat) (h : i < l.length) : rd_T51 l (i : Int) = l[i] := by
  unfold rd_T51
  simp [List.getD_eq_getElem?_getD, h]
theorem rd30 (l : List L51) (i : Nat) (h : i < l.length) : rd_T30 (l.map cv) (i : Int) = cv l[i] := by
  unfold rd_T30
  simp [List.getD_eq_getElem?_getD, h]

/-! ### The first word -/
theorem blank_f (c : UInt8) : bobstayref04_Blank.f ((c.toNat : Nat) : Int) = some (LP.bl c) := by
  unfold bobstayref04_Blank.f LP.bl
  by_cases h : c = 32
  · subst h; rfl
  · rw [if_neg (fun e => h (UInt8.toNat_inj.mp (by simpa using (show c.toNat = 32 by omega))))]
    by_cases h9 : c = 9
    · subst h9; rfl
    · have : ¬ ((c.toNat : Nat) : Int) = 9 := fun e => h9 (UInt8.toNat_inj.mp (by simpa using (show c.toNat = 9 by omega)))
      rw [beq_eq_false_iff_ne.mpr this, beq_eq_false_iff_ne.mpr h, beq_eq_false_iff_ne.mpr h9]; rfl
theorem left_ev : ∀ l : List UInt8, Ev fun n => bobstayref11_left.l0 n (S l) = some (S (l.dropWhile LP.bl))
  | [] => ev_all fun n => by rw [bobstayref11_left.l0, if_neg (by simp)]; rfl
  | c :: l => by
    have hb : bt (S (c :: l)) 0 = ((c.toNat : Nat) : Int) := bt_app (S (c :: l)) [] l c rfl
    cases hc : LP.bl c with
    | true =>
      refine ev_step (left_ev l) fun n ih => ?_
      rw [bobstayref11_left.l0, if_pos (by simp only [size_S, List.length_cons]; omega), if_pos (by simp only [size_S, List.length_cons]; omega), hb, blank_f, hc]
      simp only [Option.bind_some]
      rw [if_pos trivial, if_pos (by simp only [size_S, List.length_cons]; omega), tail_S, ih, List.dropWhile_cons, if_pos hc]
    | false =>
      refine ev_all fun n => ?_
      rw [bobstayref11_left.l0, if_pos (by simp only [size_S, List.length_cons]; omega), if_pos (by simp only [size_S, List.length_cons]; omega), hb, blank_f, hc]
      simp only [Option.bind_some]
      rw [if_neg (by simp), List.dropWhile_cons, if_neg (by simp [hc])]
def brk : List UInt8 → List UInt8 → List UInt8 × List UInt8
  | q, [] => (q, [])
  | q, c :: r => if LP.bl c = true then (q, (c :: r).dropWhile LP.bl) else brk (q ++ [c]) r
theorem word_ev : ∀ (r q : List UInt8), q.length + r.length ≤ 1000000000 → Ev fun n => bobstayref11_Word.l0 n (S (q ++ r)) (q.length : Int) = some (S (brk q r).1, S (brk q r).2)
  | [], q, hl => ev_all fun n => by
    rw [bobstayref11_Word.l0, if_neg (by simp), List.append_nil]; rfl
  | c :: r, q, hl => by
    have hb : bt (S (q ++ c :: r)) (q.length : Int) = ((c.toNat : Nat) : Int) := bt_app _ q r c rfl
    have hsz : (q.length : Int) < ((S (q ++ c :: r)).size : Int) := by simp only [size_S, List.length_append, List.length_cons]; omega
    cases hc : LP.bl c with
    | true =>
      refine ev_step (left_ev (c :: r)) fun n ih => ?_
      rw [bobstayref11_Word.l0, if_pos hsz, if_pos (by omega), hb, blank_f, hc]
      simp only [Option.bind_some]
      have e1 : (S (q ++ c :: r)).extract (q.length : Int).toNat (S (q ++ c :: r)).size = S (c :: r) := by
        apply ba_ext
        rw [ByteArray.data_extract]
        simp
      have e2 : (S (q ++ c :: r)).extract 0 (q.length : Int).toNat = S q := by
        apply ba_ext
        rw [ByteArray.data_extract]
        simp
      have hf : bobstayref11_left.f n (S (c :: r)) = some (S ((c :: r).dropWhile LP.bl)) := ih
      rw [if_pos trivial, if_pos (by omega), e1, hf, e2]
      simp only [Option.bind_some, brk, hc, if_pos]
    | false =>
      have h := word_ev r (q ++ [c]) (by simp only [List.length_append, List.length_cons, List.length_nil] at *; omega)
      refine ev_step h fun n ih => ?_
      have e : (q ++ [c]) ++ r = q ++ c :: r := by simp
      have el : (((q ++ [c]).length : Nat) : Int) = (q.length : Int) + 1 := by simp
      rw [e, el] at ih
      simp only [List.length_cons] at hl
      rw [bobstayref11_Word.l0, if_pos hsz, if_pos (by omega), hb, blank_f, hc]
      simp only [Option.bind_some]
      rw [if_neg (by simp), w64 (by omega) (by omega), ih]
      simp [brk, hc]
theorem brk_no : ∀ (r q : List UInt8), (∀ c ∈ r, LP.bl c = false) → brk q r = (q ++ r, [])
  | [], q, _ => by simp [brk]
  | c :: r, q, h => by
    rw [brk, if_neg (by rw [h c (by simp)]; simp), brk_no r _ fun d hd => h d (by simp [hd])]
    simp
theorem brk_hit : ∀ (p q : List UInt8) (c : UInt8) (t : List UInt8), (∀ c ∈ p, LP.bl c = false) → LP.bl c = true → brk q (p ++ c :: t) = (q ++ p, (c :: t).dropWhile LP.bl)
  | [], q, c, t, _, hc => by simp [brk, hc]
  | d :: p, q, c, t, h, hc => by
    rw [List.cons_append, brk, if_neg (by rw [h d (by simp)]; simp), brk_hit p _ c t (fun d hd => h d (by simp [hd])) hc]
    simp
theorem first_bl : ∀ l : List UInt8, (∀ c ∈ l, LP.bl c = false) ∨ ∃ p c t, l = p ++ c :: t ∧ (∀ c ∈ p, LP.bl c = false) ∧ LP.bl c = true
  | [] => .inl (by simp)
  | c :: l => by
    cases hc : LP.bl c with
    | true => exact .inr ⟨[], c, l, rfl, by simp, hc⟩
    | false =>
      rcases first_bl l with h | ⟨p, d, t, rfl, hp, hd⟩
      · exact .inl fun d hd => (List.mem_cons.1 hd).elim (fun e => e ▸ hc) (fun e => h d e)
      · exact .inr ⟨c :: p, d, t, rfl, fun e he => (List.mem_cons.1 he).elim (fun q => q ▸ hc) (fun q => hp e q), hd⟩
theorem no9 (b : UInt8) (h : LP.bl b = false) : ([32, 9] : List UInt8).contains b = false := by
  unfold LP.bl at h
  simp only [List.contains_cons, List.contains_nil, Bool.or_false] at *
  exact h
theorem lword (l : List UInt8) (hl : l.length ≤ 100000000) : line_Word.f (S l) = some (S (brk [] (l.dropWhile LP.bl)).1, S (brk [] (l.dropWhile LP.bl)).2) := by
  unfold line_Word.f
  rw [triml_f]
  simp only [Option.bind_some]
  have hle : (l.dropWhile LP.bl).length ≤ l.length := (List.dropWhile_sublist _).length_le
  generalize l.dropWhile LP.bl = s at hle ⊢
  have hI : strings_IndexAny.f (S s) (⟨#[32, 9]⟩ : ByteArray) = some (Lib.indexAny s [32, 9]) := by
    unfold strings_IndexAny.f
    rw [if_pos ⟨by decide, by decide, by rw [size_S]; omega, by decide⟩]
    rfl
  rw [hI]
  simp only [Option.bind_some]
  rcases first_bl s with h | ⟨p, c, t, rfl, hp, hc⟩
  · have : Lib.indexAny s [32, 9] = -1 := Lib.indexAny_none fun j b _ hb => by
      have := no9 b (h b (List.mem_of_getElem? hb))
      simpa using this
    rw [this, if_neg (by omega), brk_no s [] h, List.nil_append]
    rfl
  · have hi : Lib.indexAny (p ++ c :: t) [32, 9] = (p.length : Int) := by
      refine Lib.indexAny_hit (x := c) ?_ (by simp) ?_
      · intro j b hj hb
        rw [List.getElem?_append_left hj] at hb
        have := no9 b (hp b (List.mem_of_getElem? hb))
        simpa using this
      · unfold LP.bl at hc; simpa using hc
    have e1 : (S (p ++ c :: t)).extract (p.length : Int).toNat (S (p ++ c :: t)).size = S (c :: t) := by
      apply ba_ext
      rw [ByteArray.data_extract]
      simp
    have e2 : (S (p ++ c :: t)).extract 0 (p.length : Int).toNat = S p := by
      apply ba_ext
      rw [ByteArray.data_extract]
      simp
    rw [hi, if_pos (by omega), if_pos (by omega), if_pos (by simp only [size_S, List.length_append]; omega), e1, triml_f, e2]
    simp only [Option.bind_some]
    rw [brk_hit p [] c t hp hc, List.nil_append]
theorem rword (l : List UInt8) (hl : l.length ≤ 100000000) : Ev fun n => bobstayref11_Word.f n (S l) = some (S (brk [] (l.dropWhile LP.bl)).1, S (brk [] (l.dropWhile LP.bl)).2) := by
  have hle : (l.dropWhile LP.bl).length ≤ l.length := (List.dropWhile_sublist _).length_le
  have h := word_ev (l.dropWhile LP.bl) [] (by simp only [List.length_nil]; omega)
  refine ev_imp (ev_and (left_ev l) h) fun n ⟨h1, h2⟩ => ?_
  unfold bobstayref11_Word.f bobstayref11_left.f
  rw [h1]
  simpa using h2

/-! ### The lines, turned -/
theorem theirs_ev (l : List L51) (hl : l.length ≤ 1000000) : ∀ (m i : Nat), l.length - i = m → i ≤ l.length →
    Ev fun n => bobstaylaw11_theirs.l0 n ((l.take i).map cv) l (l.length : Int) (i : Int) = some (l.map cv)
  | 0, i, hm, hi => ev_all fun n => by
    have : i = l.length := by omega
    subst this
    rw [bobstaylaw11_theirs.l0, if_neg (by omega), List.take_length]
  | m + 1, i, hm, hi => by
    have hlt : i < l.length := by omega
    refine ev_step (theirs_ev l hl m (i + 1) (by omega) (by omega)) fun n ih => ?_
    have hw : wrap64 ((i : Int) + 1) = ((i + 1 : Nat) : Int) := by rw [w64 (by omega) (by omega)]; omega
    rw [bobstaylaw11_theirs.l0, if_pos (by omega), if_pos (by omega), if_pos (by omega), if_pos (by rw [List.length_map, List.length_take]; omega), rd51 l i hlt, hw]
    have e : (l.take (i + 1)).map cv = (l.take i).map cv ++ [cv l[i]] := by
      rw [List.take_add_one, List.getElem?_eq_getElem hlt]; simp only [Option.toList_some, List.map_append, List.map_cons, List.map_nil]
    rw [e] at ih
    exact ih
theorem theirs_f (l : List L51) (hl : l.length ≤ 1000000) : Ev fun n => bobstaylaw11_theirs.f n l = some (l.map cv) := by
  have := theirs_ev l hl l.length 0 (by omega) (by omega)
  exact ev_imp this fun n h => by unfold bobstaylaw11_theirs.f; simpa using h

/-! ### The text of lines -/
def pnums (l : List UInt8) : List Int := l.map fun c => ((c.toNat : Nat) : Int)
theorem strOf_pnums (l : List UInt8) : strOfNums (pnums l) = S l := by
  apply ba_ext
  rw [data_S]
  unfold strOfNums pnums
  simp [List.map_map, Function.comp_def]
theorem pn_snoc (a : List UInt8) (c : UInt8) : pnums a ++ [((c.toNat : Nat) : Int)] = pnums (a ++ [c]) := by simp [pnums]
theorem pn_len (a : List UInt8) : (pnums a).length = a.length := by simp [pnums]
theorem ue35 (c : UInt8) : (((c.toNat : Nat) : Int) = 35) = (c = 35) := ue c 35
theorem repl_cons (c : UInt8) (r : List UInt8) : LP.replL (c :: r) = (if c = 35 then [92, 35] else [c]) ++ LP.replL r := by simp [LP.replL]
theorem wl1 (l : List L51) (i : Nat) (hi : i < l.length) (hl : l.length ≤ 1000000) (R : ByteArray) : ∀ (r p A : List UInt8), l[i].f0.data.toList = p ++ r → p.length + r.length ≤ 1000000000 → A.length + 2 * r.length ≤ 1000000000 →
    (Ev fun n => bobstayref11_Write.l0 n l (pnums (A ++ (if l[i].f2 = true then r else LP.replL r) ++ [10])) ((i + 1 : Nat) : Int) = some R) →
    Ev fun n => bobstayref11_Write.l1 n l (pnums A) (i : Int) (p.length : Int) = some R
  | [], p, A, h, hp, hA, hn => by
    refine ev_step hn fun n ih => ?_
    have hw : wrap64 ((i : Int) + 1) = ((i + 1 : Nat) : Int) := by rw [w64 (by omega) (by omega)]; omega
    have hs : l[i].f0.size = p.length := by rw [size_len, h]; simp
    rw [bobstayref11_Write.l1, if_pos (by omega), if_pos (by omega), rd51 l i hi, if_neg (by omega), if_pos (by rw [pn_len]; simp only [List.length_nil] at hA; omega), hw]
    have e : (if l[i].f2 = true then ([] : List UInt8) else LP.replL []) = [] := by split <;> rfl
    rw [e, List.append_nil] at ih
    rw [show ([10] : List Int) = [(((10 : UInt8).toNat : Nat) : Int)] from rfl, pn_snoc]
    exact ih
  | c :: r, p, A, h, hp, hA, hn => by
    have hb : bt l[i].f0 (p.length : Int) = ((c.toNat : Nat) : Int) := bt_app _ p r c h
    have hs : l[i].f0.size = p.length + (r.length + 1) := by rw [size_len, h]; simp
    have hw : wrap64 ((p.length : Int) + 1) = (((p ++ [c]).length : Nat) : Int) := by
      rw [w64 (by omega) (by simp only [List.length_cons] at hp; omega)]; simp
    have hd : l[i].f0.data.toList = (p ++ [c]) ++ r := by rw [h]; simp
    simp only [List.length_cons] at hp hA
    by_cases hc : c = 35
    · cases hf : l[i].f2 with
      | true =>
        have g := wl1 l i hi hl R r (p ++ [c]) (A ++ [c]) hd (by simp only [List.length_append, List.length_cons, List.length_nil]; omega) (by simp only [List.length_append, List.length_cons, List.length_nil]; omega) (by simpa [hf] using hn)
        refine ev_step g fun n ih => ?_
        rw [bobstayref11_Write.l1, if_pos (by omega), if_pos (by omega), rd51 l i hi, if_pos (by omega), if_pos (by omega), hb, if_pos (by rw [ue35]; exact hc), if_pos hf, if_pos (by rw [pn_len]; omega), hw, pn_snoc]
        exact ih
      | false =>
        have g := wl1 l i hi hl R r (p ++ [c]) (A ++ [92] ++ [c]) hd (by simp only [List.length_append, List.length_cons, List.length_nil]; omega) (by simp only [List.length_append, List.length_cons, List.length_nil]; omega) (by
          rw [hf, if_neg (by simp), repl_cons, if_pos hc] at hn
          rw [hf, if_neg (by simp), hc]
          simpa using hn)
        refine ev_step g fun n ih => ?_
        rw [bobstayref11_Write.l1, if_pos (by omega), if_pos (by omega), rd51 l i hi, if_pos (by omega), if_pos (by omega), hb, if_pos (by rw [ue35]; exact hc), if_neg (by simp [hf]), if_pos (by rw [pn_len]; omega)]
        simp only [Option.bind_some]
        rw [show ([92] : List Int) = [(((92 : UInt8).toNat : Nat) : Int)] from rfl, pn_snoc, if_pos (by rw [pn_len]; simp only [List.length_append, List.length_cons, List.length_nil]; omega), hw, pn_snoc]
        exact ih
    · have g := wl1 l i hi hl R r (p ++ [c]) (A ++ [c]) hd (by simp only [List.length_append, List.length_cons, List.length_nil]; omega) (by simp only [List.length_append, List.length_cons, List.length_nil]; omega) (by
        cases hf : l[i].f2 with
        | true => simpa [hf] using hn
        | false =>
          rw [hf, if_neg (by simp), repl_cons, if_neg hc] at hn
          rw [if_neg (by simp)]
          simpa using hn)
      refine ev_step g fun n ih => ?_
      rw [bobstayref11_Write.l1, if_pos (by omega), if_pos (by omega), rd51 l i hi, if_pos (by omega), if_pos (by omega), hb, if_neg (by rw [ue35]; exact hc), if_pos (by rw [pn_len]; omega), hw, pn_snoc]
      exact ih
theorem wt_c (x : L51) (r : List L51) : wtot ((x :: r).map tr) = x.f0.size + 2 + wtot (r.map tr) := by
  rw [List.map_cons, wtot_cons]; rfl
theorem arw1 {a b c T : Nat} (h : a + 2 * (b + 2 + c) ≤ T) {d : Nat} (hd : d ≤ 2 * b + 2) : a + d + 2 * c ≤ T := by omega
theorem body_len (x : L51) : (wr1 (tr x)).length ≤ 2 * x.f0.size + 2 := by
  have hr : ∀ t : List UInt8, (LP.replL t).length ≤ 2 * t.length := by
    intro t
    induction t with
    | nil => simp [LP.replL]
    | cons c t ih => rw [repl_cons]; split <;> simp only [List.length_append, List.length_cons, List.length_nil] <;> omega
  have := hr x.f0.data.toList
  rw [size_len]
  unfold wr1 tr
  split <;> simp only [List.length_append, List.length_cons, List.length_nil] <;> omega
theorem wl0 (l : List L51) (hl : l.length ≤ 1000000) : ∀ (m i : Nat) (A : List UInt8), l.length - i = m → i ≤ l.length → A.length + 2 * wtot ((l.drop i).map tr) ≤ 900000000 →
    Ev fun n => bobstayref11_Write.l0 n l (pnums A) (i : Int) = some (S (A ++ wrL ((l.drop i).map tr)))
  | 0, i, A, hm, hi, hA => ev_all fun n => by
    have : i = l.length := by omega
    subst this
    rw [bobstayref11_Write.l0, if_neg (by omega), strOf_pnums, List.drop_length]
    simp [wrL]
  | m + 1, i, A, hm, hi, hA => by
    have hlt : i < l.length := by omega
    have hd : l.drop i = l[i] :: l.drop (i + 1) := List.drop_eq_getElem_cons hlt
    rw [hd, wt_c] at hA
    have hbl := body_len l[i]
    have hw : wrL ((l.drop i).map tr) = wr1 (tr l[i]) ++ wrL ((l.drop (i + 1)).map tr) := by rw [hd, List.map_cons]; unfold wrL; rw [List.flatMap_cons]
    have hsz : l[i].f0.size = l[i].f0.data.toList.length := size_len _
    have hsmall : A.length + 1 + 2 * l[i].f0.data.toList.length ≤ 1000000000 := by
      generalize wtot ((l.drop (i + 1)).map tr) = W at hA
      omega
    have hsmall' : l[i].f0.data.toList.length ≤ 1000000000 := by
      generalize wtot ((l.drop (i + 1)).map tr) = W at hA
      omega
    have hnext := wl0 l hl m (i + 1) (A ++ wr1 (tr l[i])) (by omega) (by omega) (by rw [List.length_append]; exact arw1 hA hbl)
    rw [List.append_assoc, ← hw] at hnext
    cases hf : l[i].f2 with
    | true =>
      have g := wl1 l i hlt hl _ l[i].f0.data.toList [] (A ++ [9]) (by simp) (by simp only [List.length_nil]; omega) (by simp only [List.length_append, List.length_cons, List.length_nil]; omega) (by
        have : A ++ [9] ++ (if l[i].f2 = true then l[i].f0.data.toList else LP.replL l[i].f0.data.toList) ++ [10] = A ++ wr1 (tr l[i]) := by
          unfold wr1 tr; simp [hf]
        rw [this]; exact hnext)
      refine ev_step (ev_step (P := fun n => bobstayref11_Write.l1 n l (pnums (A ++ [9])) (i : Int) 0 = some _) g (Q := fun n => bobstayref11_Write.j1 n l (pnums (A ++ [9])) (i : Int) = some _) fun n ih => by rw [bobstayref11_Write.j1]; exact ih) fun n ih => ?_
      rw [bobstayref11_Write.l0, if_pos (by omega), if_pos (by omega), rd51 l i hlt, if_pos hf, if_pos (by rw [pn_len]; omega), show ([9] : List Int) = [(((9 : UInt8).toNat : Nat) : Int)] from rfl, pn_snoc]
      exact ih
    | false =>
      have g := wl1 l i hlt hl _ l[i].f0.data.toList [] A (by simp) (by simp only [List.length_nil]; omega) (by omega) (by
        have : A ++ (if l[i].f2 = true then l[i].f0.data.toList else LP.replL l[i].f0.data.toList) ++ [10] = A ++ wr1 (tr l[i]) := by
          unfold wr1 tr; simp [hf]
        rw [this]; exact hnext)
      refine ev_step (ev_step (P := fun n => bobstayref11_Write.l1 n l (pnums A) (i : Int) 0 = some _) g (Q := fun n => bobstayref11_Write.j1 n l (pnums A) (i : Int) = some _) fun n ih => by rw [bobstayref11_Write.j1]; exact ih) fun n ih => ?_
      rw [bobstayref11_Write.l0, if_pos (by omega), if_pos (by omega), rd51 l i hlt, if_neg (by simp [hf])]
      exact ih
theorem write_r (l : List L51) (hl : l.length ≤ 1000000) (hw : wtot (l.map tr) ≤ 100000000) : Ev fun n => bobstayref11_Write.f n l = some (S (wrL (l.map tr))) := by
  have := wl0 l hl l.length 0 [] (by omega) (by omega) (by simp only [List.length_nil, List.drop_zero]; generalize wtot (l.map tr) = W at *; omega)
  exact ev_imp this fun n h => by unfold bobstayref11_Write.f; simpa [pnums] using h
theorem write_l (l : List L51) (hw : wtot (l.map tr) ≤ 100000000) : line_Write.f (l.map cv) = some (S (wrL (l.map tr))) := by
  have e : (l.map cv).map line_Write.tr = l.map tr := by rw [List.map_map]; rfl
  unfold line_Write.f
  rw [e, if_pos hw]

/-! ### The same -/
def dif (x y : L51) : Bool := !(x.f0.toList == y.f0.toList) || (!(x.f1 == y.f1) || (!(x.f2 == y.f2)))
theorem same_eq (a b : List L51) (hl : a.length = b.length) (hs : a.length ≤ 1000000) : ∀ (m i : Nat), a.length - i = m → i ≤ a.length →
    ∃ r, Ev fun n => line_Same.l0 n (a.map cv) (b.map cv) (a.length : Int) (i : Int) = some r ∧ bobstayref11_Same.l0 n a b (i : Int) = some r
  | 0, i, hm, hi => ⟨true, ev_all fun n => by
    constructor
    · rw [line_Same.l0, if_neg (by omega)]; simp [hl]
    · rw [bobstayref11_Same.l0, if_neg (by omega)]⟩
  | m + 1, i, hm, hi => by
    have hlt : i < a.length := by omega
    have hw : wrap64 ((i : Int) + 1) = ((i + 1 : Nat) : Int) := by rw [w64 (by omega) (by omega)]; omega
    cases hd : dif a[i] (b[i]'(by omega)) with
    | true =>
      refine ⟨false, ev_all fun n => ⟨?_, ?_⟩⟩
      · rw [line_Same.l0, if_pos (by omega), if_pos (by omega), if_pos (by rw [List.length_map]; omega), if_pos (by rw [List.length_map]; omega), rd30 a i hlt, rd30 b i (by omega), if_pos (by exact hd)]
      · rw [bobstayref11_Same.l0, if_pos (by omega), if_pos (by omega), if_pos (by omega), rd51 a i hlt, rd51 b i (by omega), if_pos (by exact hd)]
    | false =>
      obtain ⟨r, h⟩ := same_eq a b hl hs m (i + 1) (by omega) (by omega)
      refine ⟨r, ev_step h fun n ih => ⟨?_, ?_⟩⟩
      · rw [line_Same.l0, if_pos (by omega), if_pos (by omega), if_pos (by rw [List.length_map]; omega), if_pos (by rw [List.length_map]; omega), rd30 a i hlt, rd30 b i (by omega), if_neg (by show ¬ dif _ _ = true; rw [hd]; simp), hw]
        exact ih.1
      · rw [bobstayref11_Same.l0, if_pos (by omega), if_pos (by omega), if_pos (by omega), rd51 a i hlt, rd51 b i (by omega), if_neg (by show ¬ dif _ _ = true; rw [hd]; simp), hw]
        exact ih.2
theorem same_ne (a b : List L51) (hl : a.length ≠ b.length) (M : Nat) (ha : M ≤ a.length) (hb : M ≤ b.length) (hs : M ≤ 1000000) : ∀ (m i : Nat), M - i = m → i ≤ M →
    Ev fun n => line_Same.l0 n (a.map cv) (b.map cv) (M : Int) (i : Int) = some false
  | 0, i, hm, hi => ev_all fun n => by
    rw [line_Same.l0, if_neg (by omega), List.length_map, List.length_map, beq_eq_false_iff_ne.mpr (by omega)]
  | m + 1, i, hm, hi => by
    have hw : wrap64 ((i : Int) + 1) = ((i + 1 : Nat) : Int) := by rw [w64 (by omega) (by omega)]; omega
    cases hd : dif (a[i]'(by omega)) (b[i]'(by omega)) with
    | true =>
      refine ev_all fun n => ?_
      rw [line_Same.l0, if_pos (by omega), if_pos (by omega), if_pos (by rw [List.length_map]; omega), if_pos (by rw [List.length_map]; omega), rd30 a i (by omega), rd30 b i (by omega), if_pos (by exact hd)]
    | false =>
      refine ev_step (same_ne a b hl M ha hb hs m (i + 1) (by omega) (by omega)) fun n ih => ?_
      rw [line_Same.l0, if_pos (by omega), if_pos (by omega), if_pos (by rw [List.length_map]; omega), if_pos (by rw [List.length_map]; omega), rd30 a i (by omega), rd30 b i (by omega), if_neg (by show ¬ dif _ _ = true; rw [hd]; simp), hw]
      exact ih
theorem same_both (a b : List L51) (ha : a.length ≤ 1000000) (hb : b.length ≤ 1000000) : ∃ r, Ev fun n => line_Same.f n (a.map cv) (b.map cv) = some r ∧ bobstayref11_Same.f n a b = some r := by
  by_cases hl : a.length = b.length
  · obtain ⟨r, h⟩ := same_eq a b hl ha a.length 0 (by omega) (by omega)
    refine ⟨r, ev_imp h fun n h => ⟨?_, ?_⟩⟩
    · unfold line_Same.f
      have : mn ((a.map cv).length : Int) ((b.map cv).length : Int) = (a.length : Int) := by rw [List.length_map, List.length_map]; unfold mn; split <;> omega
      rw [this]; exact h.1
    · unfold bobstayref11_Same.f
      rw [if_pos (by omega)]; exact h.2
  · refine ⟨false, ?_⟩
    have h := same_ne a b hl (min a.length b.length) (by omega) (by omega) (by omega) (min a.length b.length) 0 (by omega) (by omega)
    refine ev_imp h fun n h => ⟨?_, ?_⟩
    · unfold line_Same.f
      have : mn ((a.map cv).length : Int) ((b.map cv).length : Int) = ((min a.length b.length : Nat) : Int) := by rw [List.length_map, List.length_map]; unfold mn; split <;> omega
      rw [this]; exact h
    · unfold bobstayref11_Same.f
      rw [if_neg (by omega)]
theorem self_l0 (L : List L30) (hl : L.length ≤ 1000000) : ∀ (m i : Nat), L.length - i = m → i ≤ L.length → Ev fun n => line_Same.l0 n L L (L.length : Int) (i : Int) = some true
  | 0, i, hm, hi => ev_all fun n => by
    rw [line_Same.l0, if_neg (by omega)]
    simp
  | m + 1, i, hm, hi => by
    refine ev_step (self_l0 L hl m (i + 1) (by omega) (by omega)) fun n ih => ?_
    have hw : wrap64 ((i : Int) + 1) = ((i + 1 : Nat) : Int) := by rw [w64 (by omega) (by omega)]; omega
    rw [line_Same.l0, if_pos (by omega), if_pos (by omega), if_pos (by omega), if_pos (by omega), if_neg (by simp), hw]
    exact ih
theorem self_f (L : List L30) (hl : L.length ≤ 1000000) : Ev fun n => line_Same.f n L L = some true := by
  refine ev_imp (self_l0 L hl L.length 0 (by omega) (by omega)) fun n h => ?_
  unfold line_Same.f
  have : mn (L.length : Int) (L.length : Int) = (L.length : Int) := by unfold mn; split <;> rfl
  rw [this]
  exact h

/-! ### The whole -/
def mk51 (x : ByteArray × Int × Bool) : L51 := ⟨x.1, x.2.1, x.2.2⟩
theorem row51 {W : World} {A : Option Addr} {cap : Nat} {ls : List (ByteArray × Int × Bool)} (h : LineRow W A cap ls) : Kd.C k51 W A (ls.map mk51).length (ls.map mk51) := by
  obtain ⟨h1, h2, h3⟩ := h
  refine ⟨rfl, by rw [List.length_map]; exact h2, fun hn => ?_⟩
  rw [List.length_map] at hn
  obtain ⟨ad, rfl, hc⟩ := h3 hn
  refine ⟨ad, rfl, fun j p hp => ?_⟩
  rw [List.getElem?_map, Option.map_eq_some_iff] at hp
  obtain ⟨x, hx, rfl⟩ := hp
  obtain ⟨q0, q1, q2⟩ := hc j x hx
  refine ⟨_, rfl, k51_mk W (mk51 x), fun i u hu => ?_⟩
  match i, hu with
  | 0, hu => simp at hu; subst hu; exact q0
  | 1, hu => simp at hu; subst hu; exact q1
  | 2, hu => simp at hu; subst hu; exact q2
theorem tot_wt : ∀ ls : List (ByteArray × Int × Bool), wtot ls + 2 * ls.length ≤ totL ls
  | [] => by simp [totL, wtot]
  | x :: ls => by
    have ih := tot_wt ls
    rw [wtot_cons, show totL (x :: ls) = x.1.size + 4 + totL ls by simp [totL], List.length_cons]
    omega
theorem LineWritesWalk (W : World) (A : Option Addr) (cap : Nat) (ls : List (ByteArray × Int × Bool)) (hr : LineRow W A cap ls) (A2 : Option Addr) (cap2 : Nat) (ks : List (ByteArray × Int × Bool)) (hr2 : LineRow W A2 cap2 ks)
    (s : ByteArray) (_ : s.size ≤ 140737488351232) (hl : totL ls ≤ 1048576) (hk : totL ks ≤ 1048576) (hs : s.size + 1 ≤ 1048576) :
    Calls Tryd.prog 7 #[.slice A ls.length cap, .slice A2 ks.length cap2, .string s] W fun e W' => e = .returned (.bool true) ∧ Below W.heap.size W W' := by
  have t1 := tot_wt ls
  have t2 := tot_wt ks
  have e1 : ((ls.map mk51).map tr) = ls := by rw [List.map_map]; exact List.map_id'' (fun _ => rfl) ls
  have l1 : (ls.map mk51).length ≤ 1000000 := by rw [List.length_map]; generalize wtot ls = X at *; omega
  have l2 : (ks.map mk51).length ≤ 1000000 := by rw [List.length_map]; generalize wtot ks = X at *; omega
  have w1 : wtot ((ls.map mk51).map tr) ≤ 100000000 := by rw [e1]; generalize wtot ls = X at *; omega
  have hsl : s.data.toList.length ≤ 100000000 := by rw [← size_len]; omega
  obtain ⟨r, hsame⟩ := same_both (ls.map mk51) (ks.map mk51) l1 l2
  have hal : Ev fun n => bobstaylaw11_alive.f n = some true := ⟨40, alive'⟩
  obtain ⟨N, hN⟩ := ev_and (ev_and (rword s.data.toList hsl) (theirs_f _ l1)) (ev_and (ev_and (theirs_f _ l2) (write_r _ l1 w1)) (ev_and (ev_and hsame hal) (self_f ((ls.map mk51).map cv) (by rw [List.length_map]; exact l1))))
  obtain ⟨⟨a1, a2⟩, ⟨a3, a4⟩, ⟨⟨a5, a6⟩, a7⟩, a8⟩ := hN N (Nat.le_refl _)
  have lw := lword s.data.toList hsl
  rw [S_data] at lw a1
  have c1 := row51 hr
  have c2 := row51 hr2
  have len1 : (ls.map mk51).length = ls.length := List.length_map _
  have len2 : (ks.map mk51).length = ks.length := List.length_map _
  have := lineWrites.calls N A cap (ls.map mk51) A2 cap2 (ks.map mk51) s W c1 (by rw [len1]; exact hr.1) c2 (by rw [len2]; exact hr2.1) _ _ _ _ _ _ _ _ _ _ lw a1 a2 (write_l _ w1) a4 a3 a5 a6 a8 a7 rfl rfl rfl rfl
  rw [len1, len2] at this
  exact this
end Go.Proofs.YthkndchbgiimnaaDoor.PureL
