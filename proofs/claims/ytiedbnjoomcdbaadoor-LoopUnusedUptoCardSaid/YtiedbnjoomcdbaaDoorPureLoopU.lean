/- Binding a name that is not used turns nothing, and a use of the name alone becomes the value: the printed law answers true. -/
import Derived.Test.YtiedbnjoomcdbaaDoorPureLoopA
import Derived.Test.YtiedbnjoomcdbaaDoorPCx20
import Derived.Test.YtiedbnjoomcdbaaDoorRowLine
set_option linter.unusedVariables false
set_option linter.unusedSimpArgs false
namespace Go.Proofs.YtiedbnjoomcdbaaDoor.PureC
open Go.RowKit Go.Proofs.YtiedbnjoomcdbaaDoor.PC Go.Proofs.YtiedbnjoomcdbaaDoorW.PrintWords Go.Proofs.YtiedbnjoomcdbaaDoorW.PrintLast Go.Proofs.YtiedbnjoomcdbaaDoor.Ba

theorem ue36 (c : UInt8) : (((c.toNat : Nat) : Int) = 36) = (c = 36) := ue c 36
theorem w1 (a : Nat) (h : a ≤ 1000000) : wrap64 ((a : Int) + 1) = ((a + 1 : Nat) : Int) := by rw [v64 (by omega) (by omega)]; omega
theorem w2 (a b : Nat) (h : a + b ≤ 1000000) : wrap64 (((a + b : Nat) : Int) + 1) = ((a + (b + 1) : Nat) : Int) := by rw [v64 (by omega) (by omega)]; omega
theorem wd (a : Nat) (h : a ≤ 1000000) (h1 : a ≠ 0) : wrap64 ((a : Int) - 1) = ((a - 1 : Nat) : Int) := by rw [v64' (by omega) (by omega)]; omega
theorem wm (a m : Nat) (h : a ≤ 1000000) (h1 : m ≠ 0) (h2 : m ≤ 1000000) : wrap64 (wrap64 ((a : Int) + wrap64 ((m : Int) - 1)) + 1) = ((a + m : Nat) : Int) := by
  rw [v64' (x := (m : Int) - 1) (by omega) (by omega), v64' (x := (a : Int) + ((m : Int) - 1)) (by omega) (by omega), v64 (by omega) (by omega)]; omega
theorem ar3 (a b m : Nat) : ((a + b + m : Nat) : Int) = ((a + (b + m) : Nat) : Int) := by omega
theorem ib (c : UInt8) : PO.strings_IndexByte.f (⟨#[123, 40]⟩ : ByteArray) ((c.toNat : Nat) : Int) = some (if c = 123 then 0 else if c = 40 then 1 else -1) := by
  unfold PO.strings_IndexByte.f
  have h1 : ((c.toNat : Nat) : Int).toNat.toUInt8 = c := by rw [Int.toNat_natCast]; simp
  rw [h1]
  show some (Lib.indexByte [123, 40] c) = _
  by_cases c1 : c = 123
  · subst c1; rfl
  · by_cases c2 : c = 40
    · subst c2; rfl
    · have d1 : ¬ (123 : UInt8) = c := fun e => c1 e.symm
      have d2 : ¬ (40 : UInt8) = c := fun e => c2 e.symm
      simp [Lib.indexByte, c1, c2, d1, d2]
def qt (v : List UInt8) : List UInt8 := repl 36 [36, 36] v
theorem qt_cons (c : UInt8) (r : List UInt8) : qt (c :: r) = (if c = 36 then [36, 36] else [c]) ++ qt r := by simp [qt, repl]
theorem qt_len : ∀ v : List UInt8, (qt v).length ≤ 2 * v.length
  | [] => by simp [qt, repl]
  | c :: r => by
    have := qt_len r
    rw [qt_cons, List.length_append, List.length_cons]
    split <;> simp only [List.length_cons, List.length_nil] <;> omega
theorem quoteG (v : List UInt8) (hv : v.length ≤ 1000000) : PO.expand_Quote.f (S v) = some (S (qt v)) := by
  unfold PO.expand_Quote.f PO.strings_ReplaceAll.f
  rw [dif_pos ⟨by rw [S_size]; omega, by decide, by decide, by decide⟩, data_S]
  rfl
theorem isUse36 (n : List UInt8) : isUse [36] n = false := by
  unfold isUse
  by_cases h : n.length = 1
  · cases n with
    | nil => simp at h
    | cons a n => simp
  · simp [h]
theorem isUse0 (n : List UInt8) : isUse [] n = false := by
  unfold isUse; simp
theorem bindG (s nm vl : ByteArray) (hn : nm.size ≤ 1000) (hv : vl.size ≤ 1000) (res : List UInt8) (h : Ev fun k => bindA k s.data.toList nm.data.toList vl.data.toList [] = some res) : Ev fun k => loop_bind.f k s nm vl = some (S res) := by
  refine ev_imp h fun k h => ?_
  unfold loop_bind.f
  rw [if_pos ⟨by omega, by omega⟩, h, Option.map_some]
theorem w500 (a b : Nat) (h : a + b ≤ 100000000) : wrap64 ((a : Int) + (b : Int)) = ((a + b : Nat) : Int) := by rw [v64' (by omega) (by omega)]; omega
theorem alive_f : bobstaylaw12_alive.f = some true := rfl

def UseG (l : List UInt8) (m : Nat) : Prop := m ≤ l.length ∧ (Ev fun k => PO.expand_whole.f k (S l) = some (S (l.take m)))
def LoopG (l q : List UInt8) (o e : UInt8) (deep m : Nat) : Prop := (m = 0 ∨ q.length < m) ∧ m ≤ l.length ∧
  (Ev fun k => PO.expand_whole.l0 k (S l) ((o.toNat : Nat) : Int) ((e.toNat : Nat) : Int) (deep : Int) (q.length : Int) = some (S (l.take m)))
theorem useG_loop (n : Nat) (IH : ∀ l : List UInt8, l.length ≤ n → l ≠ [] → l.length ≤ 1000000 → ∃ m, UseG l m) (l : List UInt8) (hl : l.length ≤ 1000000) (o e : UInt8) :
    ∀ (j : Nat) (r q : List UInt8) (deep : Nat), r.length ≤ j → l = q ++ r → r.length ≤ n → deep ≤ q.length → ∃ m, LoopG l q o e deep m
  | j, [], q, deep, hj, hq, hn, hd => by
    have hs : l.length = q.length := by rw [hq]; simp
    refine ⟨0, .inl rfl, Nat.zero_le _, ev_all fun k => ?_⟩
    rw [PO.expand_whole.l0, if_neg (by rw [S_size]; omega), List.take_zero]; rfl
  | 0, d :: r, q, deep, hj, hq, hn, hd => by simp at hj
  | j + 1, d :: r, q, deep, hj, hq, hn, hd => by
    simp only [List.length_cons] at hj hn
    have hs : l.length = q.length + (r.length + 1) := by rw [hq]; simp
    have Hb : Hid (bt (S l) (q.length : Int) = ((d.toNat : Nat) : Int)) := Lib.hid (bt_app _ q r d (by rw [data_S]; exact hq))
    have z1 : (q.length : Int) < ((S l).size : Int) := by rw [S_size]; omega
    have z2 : (0 : Int) ≤ (q.length : Int) := by omega
    have hq1 : l = (q ++ [d]) ++ r := by rw [hq]; simp
    by_cases h36 : d = 36
    · have h36' : ((d.toNat : Nat) : Int) = 36 := by rw [ue36]; exact h36
      obtain ⟨m1, hm1, hW⟩ := IH (d :: r) (by simp only [List.length_cons]; omega) (by simp) (by simp only [List.length_cons]; omega)
      have ex : (S l).extract (q.length : Int).toNat (S l).size = S (d :: r) := S_drop (S l) q (d :: r) (by rw [data_S]; exact hq)
      by_cases hm : m1 = 0
      · subst hm
        refine ⟨0, .inl rfl, Nat.zero_le _, ev_step hW fun k ih => ?_⟩
        rw [PO.expand_whole.l0, if_pos z1, if_pos z2, Hb.out, if_pos h36', if_pos (by omega), ex, ih]
        simp only [Option.bind_some]
        rw [if_pos (by rw [List.take_zero, S_nil]), List.take_zero]; rfl
      · have e2 : l = (q ++ (d :: r).take m1) ++ (d :: r).drop m1 := by rw [List.append_assoc, List.take_append_drop]; exact hq
        have e3 : (q ++ (d :: r).take m1).length = q.length + m1 := by rw [List.length_append, List.length_take]; omega
        simp only [List.length_cons] at hm1
        obtain ⟨m, g1, g2, g3⟩ := useG_loop n IH l hl o e j ((d :: r).drop m1) (q ++ (d :: r).take m1) deep (by rw [List.length_drop, List.length_cons]; omega) e2 (by rw [List.length_drop, List.length_cons]; omega) (by omega)
        rw [e3] at g1 g3
        refine ⟨m, by omega, g2, ev_step (ev_and hW g3) fun k ih => ?_⟩
        rw [PO.expand_whole.l0, if_pos z1, if_pos z2, Hb.out, if_pos h36', if_pos (by omega), ex, ih.1]
        simp only [Option.bind_some]
        have hts : ((S ((d :: r).take m1)).size : Int) = (m1 : Int) := by rw [S_size, List.length_take, List.length_cons, Nat.min_eq_left hm1]
        rw [if_neg (by rw [S_nil]; intro h; have := congrArg List.length h; rw [List.length_take, List.length_cons] at this; simp only [List.length_nil] at this; omega), hts, wm q.length m1 (by omega) hm (by omega)]
        with_reducible exact ih.2
    · have h36' : ¬ ((d.toNat : Nat) : Int) = 36 := by rw [ue36]; exact h36
      have hql' : (q ++ [d]).length = q.length + 1 := by simp
      have hqz : q.length ≤ 1000000 := by omega
      have hdz : deep ≤ 1000000 := by omega
      by_cases ho : d = o
      · have ho' : ((d.toNat : Nat) : Int) = ((o.toNat : Nat) : Int) := by rw [ho]
        obtain ⟨m, g1, g2, g3⟩ := useG_loop n IH l hl o e j r (q ++ [d]) (deep + 1) (by omega) hq1 (by omega) (by omega)
        rw [hql'] at g1 g3
        refine ⟨m, by omega, g2, ev_step g3 fun k ih => ?_⟩
        rw [PO.expand_whole.l0, if_pos z1, if_pos z2, Hb.out, if_neg h36', if_pos ho', w1 deep hdz, w1 q.length hqz]; with_reducible exact ih
      · have ho' : ¬ ((d.toNat : Nat) : Int) = ((o.toNat : Nat) : Int) := by rw [ue]; exact ho
        by_cases he : d = e
        · have he' : ((d.toNat : Nat) : Int) = ((e.toNat : Nat) : Int) := by rw [he]
          by_cases hdp : deep = 0
          · subst hdp
            refine ⟨q.length + 1, .inr (by omega), by omega, ev_all fun k => ?_⟩
            have hx : (S l).extract 0 (q.length + 1) = S (l.take (q.length + 1)) := by
              have := S_take (S l) (l.take (q.length + 1)) (l.drop (q.length + 1)) (by rw [data_S, List.take_append_drop])
              rw [List.length_take, Nat.min_eq_left (by omega)] at this
              exact this
            rw [PO.expand_whole.l0, if_pos z1, if_pos z2, Hb.out, if_neg h36', if_neg ho', if_pos he', if_pos (by rfl), w1 q.length hqz, if_pos (by omega), if_pos (by rw [S_size]; omega), Int.toNat_natCast, hx]
          · obtain ⟨m, g1, g2, g3⟩ := useG_loop n IH l hl o e j r (q ++ [d]) (deep - 1) (by omega) hq1 (by omega) (by omega)
            rw [hql'] at g1 g3
            refine ⟨m, by omega, g2, ev_step g3 fun k ih => ?_⟩
            rw [PO.expand_whole.l0, if_pos z1, if_pos z2, Hb.out, if_neg h36', if_neg ho', if_pos he', if_neg (by omega), wd deep hdz hdp, w1 q.length hqz]; with_reducible exact ih
        · have he' : ¬ ((d.toNat : Nat) : Int) = ((e.toNat : Nat) : Int) := by rw [ue]; exact he
          obtain ⟨m, g1, g2, g3⟩ := useG_loop n IH l hl o e j r (q ++ [d]) deep (by omega) hq1 (by omega) (by omega)
          rw [hql'] at g1 g3
          refine ⟨m, by omega, g2, ev_step g3 fun k ih => ?_⟩
          rw [PO.expand_whole.l0, if_pos z1, if_pos z2, Hb.out, if_neg h36', if_neg ho', if_neg he', w1 q.length hqz]; with_reducible exact ih
theorem whole_step (a c : UInt8) (r : List UInt8) (k : Nat) : PO.expand_whole.f (k + 1) (S (a :: c :: r)) = if c = 123 ∨ c = 40 then PO.expand_whole.l0 k (S (a :: c :: r)) ((c.toNat : Nat) : Int) (if c = 123 then 125 else if c = 40 then 41 else 0) 0 2 else some (S ((a :: c :: r).take 2)) := by
  have hz : ((S (a :: c :: r)).size : Int) = ((r.length + 2 : Nat) : Int) := by rw [S_size]; rfl
  have Hbt : Hid (bt (S (a :: c :: r)) 1 = ((c.toNat : Nat) : Int)) := Lib.hid (bt_app _ [a] r c (by rw [data_S]; rfl))
  rw [PO.expand_whole.f, hz, if_neg (by omega), if_pos (by omega), Hbt.out, ib]
  simp only [Option.bind_some]
  by_cases c1 : c = 123
  · rw [if_pos c1, if_pos (Or.inl c1), if_neg (by decide), if_pos (by decide), if_pos (by decide), if_pos c1]
    rfl
  · by_cases c2 : c = 40
    · rw [if_neg c1, if_pos c2, if_pos (Or.inr c2), if_neg (by decide), if_pos (by decide), if_pos (by decide), if_neg c1, if_pos c2]
      rfl
    · have hx : (S (a :: c :: r)).extract 0 2 = S ((a :: c :: r).take 2) := S_take (S (a :: c :: r)) [a, c] r (by rw [data_S]; rfl)
      rw [if_neg c1, if_neg c2, if_pos (by decide), if_pos (by decide), if_pos (by omega), hx, if_neg (fun e => e.elim c1 c2)]
theorem useG_all : ∀ (n : Nat) (l : List UInt8), l.length ≤ n → l ≠ [] → l.length ≤ 1000000 → ∃ m, UseG l m
  | 0, l, h, hne, _ => by
    cases l with
    | nil => exact absurd rfl hne
    | cons a l => simp at h
  | n + 1, [], h, hne, hb => absurd rfl hne
  | n + 1, [a], h, hne, hb => ⟨1, by simp, ev_all fun k => by rw [PO.expand_whole.f, if_pos (by rw [S_size]; simp)]; rfl⟩
  | n + 1, a :: c :: r, h, hne, hb => by
    simp only [List.length_cons] at h hb
    by_cases hbr : c = 123 ∨ c = 40
    · obtain ⟨m, g1, g2, g3⟩ := useG_loop n (fun l h1 h2 h3 => useG_all n l h1 h2 h3) (a :: c :: r) (by simp only [List.length_cons]; omega) c (if c = 123 then 125 else 41) r.length r [a, c] 0 (Nat.le_refl _) rfl (by omega) (by simp)
      have he : (((if c = 123 then (125 : UInt8) else 41).toNat : Nat) : Int) = if c = 123 then 125 else if c = 40 then 41 else 0 := by
        rcases hbr with e | e
        · rw [if_pos e, if_pos e]; rfl
        · rw [e]; rfl
      rw [he] at g3
      exact ⟨m, g2, ev_step g3 fun k ih => by rw [whole_step, if_pos hbr]; exact ih⟩
    · exact ⟨2, by simp, ev_all fun k => by rw [whole_step, if_neg hbr]⟩
theorem useG_S (q : List UInt8) (m : Nat) (h : UseG (36 :: q) m) : Ev fun k => PO.expand_Use.f k (S (36 :: q)) = some (m : Int) := by
  refine ev_imp h.2 fun k ih => ?_
  have hb : bt (S (36 :: q)) 0 = (((36 : UInt8).toNat : Nat) : Int) := bt_app (S (36 :: q)) [] q 36 (by rw [data_S]; rfl)
  unfold PO.expand_Use.f
  rw [if_neg (by rw [S_nil]; simp), if_pos (by rw [S_size]; simp only [List.length_cons]; omega), hb, if_pos (by rfl), ih]
  simp only [Option.bind_some]
  rw [S_size, List.length_take, Nat.min_eq_left h.1]
theorem ar5 {A T B : Nat} (h : A + 5000 * T ≤ B) {x h1 t1 : Nat} (hx : x ≤ 4000) (ht : h1 + (t1 + 1) ≤ T) : A + h1 + x + 5000 * t1 ≤ B := by omega
theorem bindA_no (k : Nat) (t name value acc : List UInt8) (h : ∀ d ∈ t, d ≠ 36) (ha : acc.length + t.length ≤ 1000000000) : bindA (k + 1) t name value acc = some (acc ++ t) := by
  rcases split36 t with ⟨h1, h2⟩ | ⟨q, h1, h2, h3, h4⟩
  · rw [bindA, if_pos (by omega), if_neg (by rw [h1]; simp)]
  · exact absurd rfl (h 36 (by rw [h2]; simp))
/-- one round of the program's at a dollar, told -/
theorem bindA_at (k : Nat) (t h q name value acc : List UInt8) (m : Nat) (ht : t = h ++ 36 :: q) (hh : ∀ d ∈ h, d ≠ 36) (ha : acc.length + t.length ≤ 1000000000) (hv : value.length ≤ 1000) (hm : m ≤ q.length + 1) (hk : PO.expand_Use.f k (S (36 :: q)) = some (m : Int)) :
    bindA (k + 1) t name value acc =
          (if (36 :: q).take m = [36, 36] then bindA k ((36 :: q).drop 2) name value (acc ++ h ++ [36, 36])
           else if isUse ((36 :: q).take m) name = true then bindA k ((36 :: q).drop m) name value (acc ++ h ++ qt value)
           else bindA k ((36 :: q).drop 1) name value (acc ++ h ++ [36])) := by
  have hc : t.contains 36 = true := by rw [ht]; simp
  have htk : t.takeWhile (· != 36) = h := by
    rw [ht, List.takeWhile_append_of_pos (fun d hd => by simp [hh d hd])]
    simp
  have hdr : t.dropWhile (· != 36) = 36 :: q := by
    rw [ht, List.dropWhile_append_of_pos (fun d hd => by simp [hh d hd])]
    simp
  rw [bindA, if_pos (by omega), if_pos hc, hdr, htk, hk]
  simp only [Option.bind_some]
  rw [if_pos (by omega), Int.toNat_natCast, if_pos (by simpa using hm), quoteG value (by omega)]
  simp only [Option.bind_some]
  have hql := qt_len value
  rw [data_S, if_pos (c := (S (qt value)).size ≤ 1000000000) (by rw [S_size]; omega)]
theorem bind_some (name value : List UInt8) (hv : value.length ≤ 1000) : ∀ (j : Nat) (t acc : List UInt8), t.length ≤ j → t.length ≤ 100000 → acc.length + 5000 * t.length ≤ 1000000000 →
    ∃ res, (Ev fun k => bindA k t name value acc = some res) := by
  intro j
  induction j with
  | zero =>
    intro t acc hj hp ha
    exact ⟨acc ++ t, ev_all fun k => bindA_no k t name value acc (by rw [List.length_eq_zero_iff.1 (show t.length = 0 by omega)]; simp) (by omega)⟩
  | succ j IH =>
    intro t acc hj hp ha
    rcases split36 t with ⟨h1, h2⟩ | ⟨q, h1, h2, h3, h4⟩
    · exact ⟨acc ++ t, ev_all fun k => bindA_no k t name value acc h2 (by omega)⟩
    · obtain ⟨h, hh⟩ : ∃ h, t.takeWhile (· != 36) = h := ⟨_, rfl⟩
      rw [hh] at h2 h4
      have htl : t.length = h.length + (q.length + 1) := by rw [h2]; simp
      obtain ⟨m, hU⟩ := useG_all (q.length + 1) (36 :: q) (by simp) (by simp) (by simp only [List.length_cons]; omega)
      have hml : m ≤ q.length + 1 := by simpa using hU.1
      have hG := useG_S q m hU
      have hal : (acc ++ h).length = acc.length + h.length := List.length_append
      have hql := qt_len value
      by_cases hdd : (36 :: q).take m = [36, 36]
      · have hq1 : 1 ≤ q.length := by
          have := congrArg List.length hdd
          rw [List.length_take] at this
          simp only [List.length_cons, List.length_nil] at this
          omega
        obtain ⟨res, g⟩ := IH ((36 :: q).drop 2) (acc ++ h ++ [36, 36]) (by rw [List.length_drop, List.length_cons]; omega) (by rw [List.length_drop, List.length_cons]; omega) (by
          rw [List.length_drop, List.length_cons, List.length_append, hal]
          exact ar5 (h1 := h.length) (x := 2) ha (by omega) (by omega))
        exact ⟨res, ev_step (ev_and hG g) fun k ih => by rw [bindA_at k t h q name value acc m h2 h4 (by omega) hv hml ih.1, if_pos hdd]; exact ih.2⟩
      · cases hI : isUse ((36 :: q).take m) name with
        | true =>
          have hm0 : m ≠ 0 := fun e => by rw [e, List.take_zero, isUse0] at hI; cases hI
          obtain ⟨res, g⟩ := IH ((36 :: q).drop m) (acc ++ h ++ qt value) (by rw [List.length_drop, List.length_cons]; omega) (by rw [List.length_drop, List.length_cons]; omega) (by
            rw [List.length_drop, List.length_cons, List.length_append, hal]
            exact ar5 (h1 := h.length) (x := (qt value).length) ha (by omega) (by omega))
          exact ⟨res, ev_step (ev_and hG g) fun k ih => by rw [bindA_at k t h q name value acc m h2 h4 (by omega) hv hml ih.1, if_neg hdd, if_pos hI]; exact ih.2⟩
        | false =>
          obtain ⟨res, g⟩ := IH ((36 :: q).drop 1) (acc ++ h ++ [36]) (by rw [List.length_drop, List.length_cons]; omega) (by rw [List.length_drop, List.length_cons]; omega) (by
            rw [List.length_drop, List.length_cons, List.length_append, hal]
            exact ar5 (h1 := h.length) (x := 1) ha (by omega) (by omega))
          exact ⟨res, ev_step (ev_and hG g) fun k ih => by rw [bindA_at k t h q name value acc m h2 h4 (by omega) hv hml ih.1, if_neg hdd, if_neg (by rw [hI]; simp)]; exact ih.2⟩
end Go.Proofs.YtiedbnjoomcdbaaDoor.PureC
