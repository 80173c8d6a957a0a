/- A use's end is the document's. -/
import Derived.Test.YtiedbnjoomcdbaaDoorPureLoopA
import Derived.Test.YtiedbnjoomcdbaaDoorPCx19
set_option linter.unusedVariables false
set_option linter.unusedSimpArgs false
namespace Go.Proofs.YtiedbnjoomcdbaaDoor.PureC
open Go.RowKit Go.Proofs.YtiedbnjoomcdbaaDoor.PC Go.Proofs.YtiedbnjoomcdbaaDoorW.PrintWords Go.Proofs.YtiedbnjoomcdbaaDoorW.PrintLast Go.Proofs.YtiedbnjoomcdbaaDoor.Ba

def UseAt (l : List UInt8) (m : Nat) : Prop := m ≤ l.length ∧ (Ev fun k => PO.expand_whole.f k (S l) = some (S (l.take m))) ∧
  (∀ p : List UInt8, p.length + l.length ≤ 1000000 → Ev fun k => bobstayref08_End.f k (S (p ++ l)) (p.length : Int) = some (if m = 0 then -1 else ((p.length + m : Nat) : Int)))
def LoopAt (l q : List UInt8) (o e : UInt8) (deep m : Nat) : Prop := (m = 0 ∨ q.length < m) ∧ m ≤ l.length ∧
  (Ev fun k => PO.expand_whole.l0 k (S l) ((o.toNat : Nat) : Int) ((e.toNat : Nat) : Int) (deep : Int) (q.length : Int) = some (S (l.take m))) ∧
  (∀ p : List UInt8, p.length + l.length ≤ 1000000 → Ev fun k => bobstayref08_End.l0 k (S (p ++ l)) ((e.toNat : Nat) : Int) ((o.toNat : Nat) : Int) (deep : Int) ((p.length + q.length : Nat) : Int) = some (if m = 0 then -1 else ((p.length + m : Nat) : Int)))
theorem ue36 (c : UInt8) : (((c.toNat : Nat) : Int) = 36) = (c = 36) := ue c 36
theorem w1 (a : Nat) (h : a ≤ 1000000) : wrap64 ((a : Int) + 1) = ((a + 1 : Nat) : Int) := by rw [v64 (by omega) (by omega)]; omega
theorem w2 (a b : Nat) (h : a + b ≤ 1000000) : wrap64 (((a + b : Nat) : Int) + 1) = ((a + (b + 1) : Nat) : Int) := by rw [v64 (by omega) (by omega)]; omega
theorem wd (a : Nat) (h : a ≤ 1000000) (h1 : a ≠ 0) : wrap64 ((a : Int) - 1) = ((a - 1 : Nat) : Int) := by rw [v64' (by omega) (by omega)]; omega
theorem wm (a m : Nat) (h : a ≤ 1000000) (h1 : m ≠ 0) (h2 : m ≤ 1000000) : wrap64 (wrap64 ((a : Int) + wrap64 ((m : Int) - 1)) + 1) = ((a + m : Nat) : Int) := by
  rw [v64' (x := (m : Int) - 1) (by omega) (by omega), v64' (x := (a : Int) + ((m : Int) - 1)) (by omega) (by omega), v64 (by omega) (by omega)]; omega
theorem ar3 (a b m : Nat) : ((a + b + m : Nat) : Int) = ((a + (b + m) : Nat) : Int) := by omega
theorem use_loop (n : Nat) (IH : ∀ l : List UInt8, l.length ≤ n → l ≠ [] → l.length ≤ 1000000 → ∃ m, UseAt l m) (l : List UInt8) (hl : l.length ≤ 1000000) (o e : UInt8) :
    ∀ (j : Nat) (r q : List UInt8) (deep : Nat), r.length ≤ j → l = q ++ r → r.length ≤ n → deep ≤ q.length → ∃ m, LoopAt l q o e deep m
  | j, [], q, deep, hj, hq, hn, hd => by
    have hs : l.length = q.length := by rw [hq]; simp
    refine ⟨0, .inl rfl, Nat.zero_le _, ev_all fun k => ?_, fun p hp => ev_all fun k => ?_⟩
    · rw [PO.expand_whole.l0, if_neg (by rw [S_size]; omega), List.take_zero]; rfl
    · rw [bobstayref08_End.l0, if_neg (by rw [S_size, List.length_append]; omega), if_pos rfl]
  | 0, d :: r, q, deep, hj, hq, hn, hd => by simp at hj
  | j + 1, d :: r, q, deep, hj, hq, hn, hd => by
    simp only [List.length_cons] at hj hn
    have hs : l.length = q.length + (r.length + 1) := by rw [hq]; simp
    have Hb : Hid (bt (S l) (q.length : Int) = ((d.toNat : Nat) : Int)) := Lib.hid (bt_app _ q r d (by rw [data_S]; exact hq))
    have hbE : ∀ p : List UInt8, bt (S (p ++ l)) ((p.length + q.length : Nat) : Int) = ((d.toNat : Nat) : Int) := fun p => by
      have := bt_app (S (p ++ l)) (p ++ q) r d (by rw [data_S, hq]; simp)
      rw [List.length_append] at this
      exact this
    have z1 : (q.length : Int) < ((S l).size : Int) := by rw [S_size]; omega
    have z2 : (0 : Int) ≤ (q.length : Int) := by omega
    have zE : ∀ p : List UInt8, ((p.length + q.length : Nat) : Int) < ((S (p ++ l)).size : Int) := fun p => by rw [S_size, List.length_append]; omega
    have hq1 : l = (q ++ [d]) ++ r := by rw [hq]; simp
    have l1 : (((q ++ [d]).length : Nat) : Int) = (q.length : Int) + 1 := by simp
    by_cases h36 : d = 36
    · have h36' : ((d.toNat : Nat) : Int) = 36 := by rw [ue36]; exact h36
      obtain ⟨m1, hm1, hW, hE⟩ := IH (d :: r) (by simp only [List.length_cons]; omega) (by simp) (by simp only [List.length_cons]; omega)
      have ex : (S l).extract (q.length : Int).toNat (S l).size = S (d :: r) := S_drop (S l) q (d :: r) (by rw [data_S]; exact hq)
      have hE' : ∀ p : List UInt8, p.length + l.length ≤ 1000000 → Ev fun k => bobstayref08_End.f k (S (p ++ l)) ((p.length + q.length : Nat) : Int) = some (if m1 = 0 then -1 else ((p.length + q.length + m1 : Nat) : Int)) := fun p hp => by
        have := hE (p ++ q) (by simp only [List.length_append, List.length_cons]; omega)
        rw [List.append_assoc, ← hq, List.length_append] at this
        exact this
      by_cases hm : m1 = 0
      · subst hm
        refine ⟨0, .inl rfl, Nat.zero_le _, ev_step hW fun k ih => ?_, fun p hp => ev_step (hE' p hp) fun k ih => ?_⟩
        · rw [PO.expand_whole.l0, if_pos z1, if_pos z2, Hb.out, if_pos h36', if_pos (by omega), ex, ih]
          simp only [Option.bind_some]
          rw [if_pos (by rw [List.take_zero, S_nil]), List.take_zero]; rfl
        · rw [bobstayref08_End.l0, if_pos (zE p), if_pos (by omega), hbE, if_pos h36', ih]
          simp only [Option.bind_some]
          simp only [if_true]
          rw [if_pos (by omega)]
      · have e2 : l = (q ++ (d :: r).take m1) ++ (d :: r).drop m1 := by rw [List.append_assoc, List.take_append_drop]; exact hq
        have e3 : (q ++ (d :: r).take m1).length = q.length + m1 := by rw [List.length_append, List.length_take]; omega
        simp only [List.length_cons] at hm1
        obtain ⟨m, g1, g2, g3, g4⟩ := use_loop n IH l hl o e j ((d :: r).drop m1) (q ++ (d :: r).take m1) deep (by rw [List.length_drop, List.length_cons]; omega) e2 (by rw [List.length_drop, List.length_cons]; omega) (by omega)
        rw [e3] at g1 g3 g4
        refine ⟨m, by omega, g2, ev_step (ev_and hW g3) fun k ih => ?_, fun p hp => ev_step (ev_and (hE' p hp) (g4 p hp)) fun k ih => ?_⟩
        · rw [PO.expand_whole.l0, if_pos z1, if_pos z2, Hb.out, if_pos h36', if_pos (by omega), ex, ih.1]
          simp only [Option.bind_some]
          have hts : ((S ((d :: r).take m1)).size : Int) = (m1 : Int) := by rw [S_size, List.length_take, List.length_cons, Nat.min_eq_left hm1]
          rw [if_neg (by rw [S_nil]; intro h; have := congrArg List.length h; rw [List.length_take, List.length_cons] at this; simp only [List.length_nil] at this; omega), hts, wm q.length m1 (by omega) hm (by omega)]
          with_reducible exact ih.2
        · rw [bobstayref08_End.l0, if_pos (zE p), if_pos (by omega), hbE, if_pos h36', ih.1]
          simp only [Option.bind_some]
          rw [if_neg hm, if_neg (by omega), ar3 p.length q.length m1]
          with_reducible exact ih.2
    · have h36' : ¬ ((d.toNat : Nat) : Int) = 36 := by rw [ue36]; exact h36
      have hql' : (q ++ [d]).length = q.length + 1 := by simp
      have hqz : q.length ≤ 1000000 := by omega
      have hdz : deep ≤ 1000000 := by omega
      have hpz : ∀ p : List UInt8, p.length + l.length ≤ 1000000 → p.length + q.length ≤ 1000000 := fun p hp => by omega
      by_cases ho : d = o
      · have ho' : ((d.toNat : Nat) : Int) = ((o.toNat : Nat) : Int) := by rw [ho]
        obtain ⟨m, g1, g2, g3, g4⟩ := use_loop n IH l hl o e j r (q ++ [d]) (deep + 1) (by omega) hq1 (by omega) (by omega)
        rw [hql'] at g1 g3 g4
        refine ⟨m, by omega, g2, ev_step g3 fun k ih => ?_, fun p hp => ev_step (g4 p hp) fun k ih => ?_⟩
        · rw [PO.expand_whole.l0, if_pos z1, if_pos z2, Hb.out, if_neg h36', if_pos ho', w1 deep hdz, w1 q.length hqz]; with_reducible exact ih
        · rw [bobstayref08_End.l0, if_pos (zE p), if_pos (by omega), hbE, if_neg h36', if_pos ho', w1 deep hdz, w2 p.length q.length (hpz p hp)]; with_reducible exact ih
      · have ho' : ¬ ((d.toNat : Nat) : Int) = ((o.toNat : Nat) : Int) := by rw [ue]; exact ho
        by_cases he : d = e
        · have he' : ((d.toNat : Nat) : Int) = ((e.toNat : Nat) : Int) := by rw [he]
          by_cases hdp : deep = 0
          · subst hdp
            refine ⟨q.length + 1, .inr (by omega), by omega, ev_all fun k => ?_, fun p hp => ev_all fun k => ?_⟩
            · have hx : (S l).extract 0 (q.length + 1) = S (l.take (q.length + 1)) := by
                have := S_take (S l) (l.take (q.length + 1)) (l.drop (q.length + 1)) (by rw [data_S, List.take_append_drop])
                rw [List.length_take, Nat.min_eq_left (by omega)] at this
                exact this
              rw [PO.expand_whole.l0, if_pos z1, if_pos z2, Hb.out, if_neg h36', if_neg ho', if_pos he', if_pos (by rfl), w1 q.length hqz, if_pos (by omega), if_pos (by rw [S_size]; omega), Int.toNat_natCast, hx]
            · rw [bobstayref08_End.l0, if_pos (zE p), if_pos (by omega), hbE, if_neg h36', if_neg ho', if_pos he', if_pos (by rfl), w2 p.length q.length (hpz p hp), if_neg (by omega)]
          · obtain ⟨m, g1, g2, g3, g4⟩ := use_loop n IH l hl o e j r (q ++ [d]) (deep - 1) (by omega) hq1 (by omega) (by omega)
            rw [hql'] at g1 g3 g4
            refine ⟨m, by omega, g2, ev_step g3 fun k ih => ?_, fun p hp => ev_step (g4 p hp) fun k ih => ?_⟩
            · rw [PO.expand_whole.l0, if_pos z1, if_pos z2, Hb.out, if_neg h36', if_neg ho', if_pos he', if_neg (by omega), wd deep hdz hdp, w1 q.length hqz]; with_reducible exact ih
            · rw [bobstayref08_End.l0, if_pos (zE p), if_pos (by omega), hbE, if_neg h36', if_neg ho', if_pos he', if_neg (by omega), wd deep hdz hdp, w2 p.length q.length (hpz p hp)]; with_reducible exact ih
        · have he' : ¬ ((d.toNat : Nat) : Int) = ((e.toNat : Nat) : Int) := by rw [ue]; exact he
          obtain ⟨m, g1, g2, g3, g4⟩ := use_loop n IH l hl o e j r (q ++ [d]) deep (by omega) hq1 (by omega) (by omega)
          rw [hql'] at g1 g3 g4
          refine ⟨m, by omega, g2, ev_step g3 fun k ih => ?_, fun p hp => ev_step (g4 p hp) fun k ih => ?_⟩
          · rw [PO.expand_whole.l0, if_pos z1, if_pos z2, Hb.out, if_neg h36', if_neg ho', if_neg he', w1 q.length hqz]; with_reducible exact ih
          · rw [bobstayref08_End.l0, if_pos (zE p), if_pos (by omega), hbE, if_neg h36', if_neg ho', if_neg he', w2 p.length q.length (hpz p hp)]; with_reducible exact ih
theorem ib (c : UInt8) : PO.strings_IndexByte.f (⟨#[123, 40]⟩ : ByteArray) ((c.toNat : Nat) : Int) = some (if c = 123 then 0 else if c = 40 then 1 else -1) := by
  unfold PO.strings_IndexByte.f
  have h1 : ((c.toNat : Nat) : Int).toNat.toUInt8 = c := by rw [Int.toNat_natCast]; simp
  rw [h1]
  show some (Lib.indexByte [123, 40] c) = _
  by_cases c1 : c = 123
  · subst c1; rfl
  · by_cases c2 : c = 40
    · subst c2; rfl
    · have d1 : ¬ (123 : UInt8) = c := fun e => c1 e.symm
      have d2 : ¬ (40 : UInt8) = c := fun e => c2 e.symm
      simp [Lib.indexByte, c1, c2, d1, d2]
theorem cl (c : UInt8) : bobstayref08_closing.f ((c.toNat : Nat) : Int) = some (if c = 123 then 125 else if c = 40 then 41 else 0) := by
  unfold bobstayref08_closing.f
  have e1 : (((c.toNat : Nat) : Int) = 123) = (c = 123) := ue c 123
  have e2 : (((c.toNat : Nat) : Int) = 40) = (c = 40) := ue c 40
  simp only [e1, e2]
  split
  · rfl
  · split <;> rfl
theorem use_all : ∀ (n : Nat) (l : List UInt8), l.length ≤ n → l ≠ [] → l.length ≤ 1000000 → ∃ m, UseAt l m ∧ ∀ a c r, l = a :: c :: r → c ≠ 123 → c ≠ 40 → m = 2
  | 0, l, h, hne, _ => by
    cases l with
    | nil => exact absurd rfl hne
    | cons a l => simp at h
  | n + 1, [], h, hne, hb => absurd rfl hne
  | n + 1, [a], h, hne, hb => by
    refine ⟨1, ⟨by simp, ev_all fun k => ?_, fun p hp => ev_all fun k => ?_⟩, fun a c r h => by simp at h⟩
    · rw [PO.expand_whole.f, if_pos (by rw [S_size]; simp)]; rfl
    · have hz : ((S (p ++ [a])).size : Int) = ((p.length + 1 : Nat) : Int) := by rw [S_size]; simp
      have hp' : p.length ≤ 1000000 := by omega
      rw [bobstayref08_End.f, hz, w1 p.length hp', if_pos (by omega), if_neg (by omega)]
  | n + 1, a :: c :: r, h, hne, hb => by
    have hz : ((S (a :: c :: r)).size : Int) = ((r.length + 2 : Nat) : Int) := by rw [S_size]; rfl
    have hbt : bt (S (a :: c :: r)) 1 = ((c.toNat : Nat) : Int) := bt_app _ [a] r c (by rw [data_S]; rfl)
    simp only [List.length_cons] at h hb
    have Hbt := Lib.hid hbt
    clear hbt
    have hE : ∀ (p : List UInt8) (k : Nat), p.length + (a :: c :: r).length ≤ 1000000 → bobstayref08_End.f (k + 1) (S (p ++ a :: c :: r)) (p.length : Int) = if c = 123 ∨ c = 40 then bobstayref08_End.l0 k (S (p ++ a :: c :: r)) (if c = 123 then 125 else if c = 40 then 41 else 0) ((c.toNat : Nat) : Int) 0 ((p.length + 2 : Nat) : Int) else some ((p.length + 2 : Nat) : Int) := fun p k hp => by
      simp only [List.length_cons] at hp
      have hp' : p.length ≤ 1000000 := by omega
      have hz2 : ((S (p ++ a :: c :: r)).size : Int) = ((p.length + (r.length + 2) : Nat) : Int) := by rw [S_size, List.length_append]; rfl
      have hb2 : bt (S (p ++ a :: c :: r)) ((p.length + 1 : Nat) : Int) = ((c.toNat : Nat) : Int) := by
        have := bt_app (S (p ++ a :: c :: r)) (p ++ [a]) r c (by rw [data_S]; simp)
        rw [List.length_append] at this
        exact this
      have hw : wrap64 ((p.length : Int) + 2) = ((p.length + 2 : Nat) : Int) := by rw [v64' (by omega) (by omega)]; omega
      rw [bobstayref08_End.f, w1 p.length hp', hz2, if_neg (by clear hb2 hw; omega), if_pos (by clear hb2 hw; omega), if_pos (by clear hb2 hw; omega), hb2, cl, hw]
      simp only [Option.bind_some]
      by_cases c1 : c = 123
      · rw [if_pos c1, if_pos (Or.inl c1), if_neg (by decide)]
      · by_cases c2 : c = 40
        · rw [if_neg c1, if_pos c2, if_pos (Or.inr c2), if_neg (by decide)]
        · rw [if_neg c1, if_neg c2, if_neg (c := c = 123 ∨ c = 40) (fun e => e.elim c1 c2), if_pos (by rfl)]
    have hW : ∀ k : Nat, PO.expand_whole.f (k + 1) (S (a :: c :: r)) = if c = 123 ∨ c = 40 then PO.expand_whole.l0 k (S (a :: c :: r)) ((c.toNat : Nat) : Int) (if c = 123 then 125 else if c = 40 then 41 else 0) 0 2 else some (S ((a :: c :: r).take 2)) := fun k => by
      rw [PO.expand_whole.f, hz, if_neg (by omega), if_pos (by omega), Hbt.out, ib]
      simp only [Option.bind_some]
      by_cases c1 : c = 123
      · rw [if_pos c1, if_pos (Or.inl c1), if_neg (by decide), if_pos (by decide), if_pos (by decide), if_pos c1]
        rfl
      · by_cases c2 : c = 40
        · rw [if_neg c1, if_pos c2, if_pos (Or.inr c2), if_neg (by decide), if_pos (by decide), if_pos (by decide), if_neg c1, if_pos c2]
          rfl
        · have hx : (S (a :: c :: r)).extract 0 2 = S ((a :: c :: r).take 2) := S_take (S (a :: c :: r)) [a, c] r (by rw [data_S]; rfl)
          rw [if_neg c1, if_neg c2, if_pos (by decide), if_pos (by decide), if_pos (by omega), hx, if_neg (fun e => e.elim c1 c2)]
    by_cases hbr : c = 123 ∨ c = 40
    · obtain ⟨m, g1, g2, g3, g4⟩ := use_loop n (fun l h1 h2 h3 => by obtain ⟨m, hm, _⟩ := use_all n l h1 h2 h3; exact ⟨m, hm⟩) (a :: c :: r) (by simp only [List.length_cons]; omega) c (if c = 123 then 125 else 41) r.length r [a, c] 0 (Nat.le_refl _) rfl (by omega) (by simp)
      have he : (((if c = 123 then (125 : UInt8) else 41).toNat : Nat) : Int) = if c = 123 then 125 else if c = 40 then 41 else 0 := by
        rcases hbr with e | e
        · rw [if_pos e, if_pos e]; rfl
        · rw [e]; rfl
      rw [he] at g3 g4
      refine ⟨m, ⟨g2, ev_step g3 fun k ih => ?_, fun p hp => ev_step (g4 p hp) fun k ih => ?_⟩, fun a' c' r' hh h1 h2 => ?_⟩
      · rw [hW k, if_pos hbr]; exact ih
      · rw [hE p k hp, if_pos hbr]; exact ih
      · simp only [List.cons.injEq] at hh
        obtain ⟨_, rfl, _⟩ := hh
        rcases hbr with e | e
        · exact absurd e h1
        · exact absurd e h2
    · refine ⟨2, ⟨by simp, ev_all fun k => ?_, fun p hp => ev_all fun k => ?_⟩, fun _ _ _ _ _ _ => rfl⟩
      · rw [hW k, if_neg hbr]
      · rw [hE p k hp, if_neg hbr, if_neg (by omega)]
end Go.Proofs.YtiedbnjoomcdbaaDoor.PureC
