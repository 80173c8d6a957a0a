/- The document's list and the program's maps say the same: in plain words. -/
import Derived.Test.YtpgfffibiogekaaRefO
import Derived.Test.YtpgfffibiogekaaVarL
set_option linter.unusedVariables false
set_option linter.unusedSimpArgs false
namespace Go.Proofs.Ytpgfffibiogekaa.MS
open Go.RowKit Go.Maps Go.Proofs.YtpgfffibiogekaaW.PrintWords Go.Proofs.YtpgfffibiogekaaW.PrintLast Go.Proofs.YtpgfffibiogekaaW.PrintMore

theorem btl (b : ByteArray) : b.toList = b.data.toList := ByteArray.toList_eq b
theorem btl_inj {a b : ByteArray} (h : a.toList = b.toList) : a = b := by
  rw [btl, btl] at h
  cases a; cases b
  simp only [ByteArray.mk.injEq]
  exact Array.toList_inj.1 h
theorem hit_iff (n : Int) (s : ByteArray) (x : V3) : hitV n s x = true ↔ x.1 = n ∧ x.2.1 = s := by
  unfold hitV
  rw [Bool.and_eq_true, beq_iff_eq, beq_iff_eq]
  exact ⟨fun h => ⟨h.1, btl_inj h.2⟩, fun h => ⟨h.1, by rw [h.2]⟩⟩
theorem hit_not {n : Int} {s : ByteArray} {x : V3} (h : hitV n s x = false) : ¬ (x.1 = n ∧ x.2.1 = s) := fun e => by rw [(hit_iff n s x).2 e] at h; cases h
theorem inL_cons (x : V3) (l : List V3) (z : Int) (t : ByteArray) : inL (x :: l) z t = if hitV z t x = true then some x.2.2 else inL l z t := by
  unfold inL
  rw [List.find?_cons]
  cases hitV z t x <;> rfl
def updL (n : Int) (s v : ByteArray) : List V3 → List V3
  | [] => []
  | x :: l => if hitV n s x = true then (x.1, x.2.1, v) :: l else x :: updL n s v l
def delL (n : Int) (s : ByteArray) : List V3 → List V3
  | [] => []
  | x :: l => if hitV n s x = true then l else x :: delL n s l
theorem at_upd (n : Int) (s v : ByteArray) : ∀ (l : List V3) (i j : Nat) (hj : j < l.length), atR n s l i = ((i + j : Nat) : Int) → l.set j (l[j].1, l[j].2.1, v) = updL n s v l ∧ l.eraseIdx j = delL n s l
  | [], i, j, hj, _ => by simp at hj
  | x :: l, i, j, hj, h => by
    cases hx : hitV n s x with
    | true =>
      rw [atR, if_pos hx] at h
      have hj0 : j = 0 := by omega
      subst hj0
      rw [updL, delL, if_pos hx, if_pos hx]
      exact ⟨rfl, rfl⟩
    | false =>
      have hne : ¬ hitV n s x = true := by rw [hx]; simp
      rw [atR, if_neg hne] at h
      rcases at_cases n s l (i + 1) with ⟨-, h2⟩ | ⟨q, hq, h2, -⟩
      · omega
      · have hjq : j = q + 1 := by omega
        subst hjq
        have ih := at_upd n s v l (i + 1) q hq (by omega)
        rw [updL, delL, if_neg hne, if_neg hne, ← ih.1, ← ih.2]
        exact ⟨rfl, rfl⟩
theorem at_none (l : List V3) (n : Int) (s : ByteArray) : (atR n s l 0 < 0) ↔ inL l n s = none := by
  unfold inL
  rcases at_cases n s l 0 with ⟨h1, h2⟩ | ⟨j, hj, h2, h1, -⟩
  · rw [h1, h2]; simp
  · rw [h1, h2]; simp
theorem setL_eq (l : List V3) (n : Int) (s v : ByteArray) : setL l n s v = if inL l n s = none then l ++ [(n, s, v)] else updL n s v l := by
  unfold setL
  by_cases h : atR n s l 0 < 0
  · rw [if_pos h, if_pos ((at_none l n s).1 h)]
  · rw [if_neg h, if_neg (fun e => h ((at_none l n s).2 e))]
    rcases at_cases n s l 0 with ⟨h1, h2⟩ | ⟨j, hj, h2, h1, -⟩
    · omega
    · rw [h2, Int.toNat_natCast, Nat.zero_add, getD_at l j hj]
      exact (at_upd n s v l 0 j hj h2).1
theorem eraseL_eq (l : List V3) (n : Int) (s : ByteArray) (h : ¬ atR n s l 0 < 0) : l.eraseIdx (atR n s l 0).toNat = delL n s l := by
  rcases at_cases n s l 0 with ⟨h1, h2⟩ | ⟨j, hj, h2, h1, -⟩
  · omega
  · rw [h2, Int.toNat_natCast, Nat.zero_add]
    exact (at_upd n s ByteArray.empty l 0 j hj h2).2
theorem inL_app (l : List V3) (n : Int) (s v : ByteArray) (z : Int) (t : ByteArray) : inL (l ++ [(n, s, v)]) z t = (inL l z t).or (if hitV z t (n, s, v) = true then some v else none) := by
  induction l with
  | nil => rw [List.nil_append, inL_cons]; rfl
  | cons x l ih =>
    rw [List.cons_append, inL_cons, inL_cons, ih]
    cases hitV z t x <;> rfl
theorem inL_upd (l : List V3) (n : Int) (s v : ByteArray) (z : Int) (t : ByteArray) : inL (updL n s v l) z t = if z = n ∧ t = s then (inL l n s).map (fun _ => v) else inL l z t := by
  induction l with
  | nil => split <;> rfl
  | cons x l ih =>
    rw [updL]
    cases hx : hitV n s x with
    | true =>
      obtain ⟨e1, e2⟩ := (hit_iff n s x).1 hx
      rw [if_pos rfl, inL_cons, inL_cons, if_pos hx, inL_cons]
      have e3 : hitV z t (x.1, x.2.1, v) = hitV z t x := rfl
      rw [e3]
      by_cases h : z = n ∧ t = s
      · rw [if_pos h, h.1, h.2, if_pos hx]; rfl
      · rw [if_neg h]
        cases hz : hitV z t x with
        | true => obtain ⟨e4, e5⟩ := (hit_iff z t x).1 hz; exact absurd ⟨by rw [← e4, e1], by rw [← e5, e2]⟩ h
        | false => rfl
    | false =>
      rw [if_neg (by simp), inL_cons, inL_cons, ih, inL_cons, hx]
      by_cases h : z = n ∧ t = s
      · rw [if_pos h, if_pos h, h.1, h.2, hx]; rfl
      · rw [if_neg h, if_neg h]
def kk (x : V3) : Int × ByteArray := (x.1, x.2.1)
theorem kk_iff (x : V3) (n : Int) (s : ByteArray) : kk x = (n, s) ↔ x.1 = n ∧ x.2.1 = s := by
  unfold kk; rw [Prod.mk.injEq]
theorem upd_kk (l : List V3) (n : Int) (s v : ByteArray) : (updL n s v l).map kk = l.map kk := by
  induction l with
  | nil => rfl
  | cons x l ih =>
    rw [updL]
    split
    · rfl
    · rw [List.map_cons, ih]; rfl
theorem del_sub (l : List V3) (n : Int) (s : ByteArray) : (delL n s l).Sublist l := by
  induction l with
  | nil => exact List.Sublist.refl _
  | cons x l ih =>
    rw [delL]
    split
    · exact List.sublist_cons_self _ _
    · exact ih.cons_cons _
theorem inL_mem_none (l : List V3) (z : Int) (t : ByteArray) : inL l z t = none ↔ (z, t) ∉ l.map kk := by
  induction l with
  | nil => simp [inL]
  | cons x l ih =>
    rw [inL_cons, List.map_cons, List.mem_cons]
    cases hx : hitV z t x with
    | true =>
      have h1 := (kk_iff x z t).2 ((hit_iff z t x).1 hx)
      rw [if_pos rfl, h1]; simp
    | false =>
      have h1 : ¬ (z, t) = kk x := fun e => hit_not hx ((kk_iff x z t).1 e.symm)
      rw [if_neg (by simp), ih]; simp [h1]
theorem inL_del (l : List V3) (hl : (l.map kk).Nodup) (n : Int) (s : ByteArray) (z : Int) (t : ByteArray) : inL (delL n s l) z t = if z = n ∧ t = s then none else inL l z t := by
  induction l with
  | nil => split <;> rfl
  | cons x l ih =>
    rw [List.map_cons, List.nodup_cons] at hl
    rw [delL]
    cases hx : hitV n s x with
    | true =>
      rw [if_pos rfl, inL_cons]
      have h1 := (kk_iff x n s).2 ((hit_iff n s x).1 hx)
      by_cases h : z = n ∧ t = s
      · rw [if_pos h, h.1, h.2, inL_mem_none, ← h1]; exact hl.1
      · rw [if_neg h]
        cases hz : hitV z t x with
        | true =>
          obtain ⟨e1, e2⟩ := (hit_iff n s x).1 hx
          obtain ⟨e4, e5⟩ := (hit_iff z t x).1 hz; exact absurd ⟨by rw [← e4, e1], by rw [← e5, e2]⟩ h
        | false => rfl
    | false =>
      rw [if_neg (by simp), inL_cons, ih hl.2, inL_cons]
      by_cases h : z = n ∧ t = s
      · rw [if_pos h, if_pos h, h.1, h.2, hx]; rfl
      · rw [if_neg h, if_neg h]
theorem inL_clear (l : List V3) (n : Int) (z : Int) (t : ByteArray) : inL (clearRL l n) z t = if z = n then none else inL l z t := by
  unfold clearRL
  induction l with
  | nil => split <;> rfl
  | cons x l ih =>
    rw [List.filter_cons]
    by_cases h1 : x.1 = n
    · rw [if_neg (by simp [h1]), ih, inL_cons]
      by_cases h : z = n
      · rw [if_pos h, if_pos h]
      · rw [if_neg h, if_neg h]
        cases hz : hitV z t x with
        | true => obtain ⟨e4, e5⟩ := (hit_iff z t x).1 hz; exact absurd (by rw [← e4, h1]) h
        | false => rfl
    · rw [if_pos (by simp [h1]), inL_cons, ih, inL_cons]
      by_cases h : z = n
      · rw [if_pos h, if_pos h]
        cases hz : hitV z t x with
        | true => obtain ⟨e4, e5⟩ := (hit_iff z t x).1 hz; exact absurd (by rw [e4, h]) h1
        | false => rfl
      · rw [if_neg h, if_neg h]
/-- the list and the maps say the same -/
structure Agree (D : Nat → DataW Unit) (l : List V3) : Prop where
  sc : ∀ x ∈ l, isSc x.1 = true
  nd : (l.map kk).Nodup
  eq : ∀ z s, inSc D z s = inL l z s
  zero : D 0 = .map []
theorem agree_nil : Agree (fun _ => .map []) [] where
  sc := fun x h => by cases h
  nd := List.Pairwise.nil
  eq := fun z s => by unfold inSc inL; split <;> simp [look_nil]
  zero := rfl
theorem toNat_of {z n : Int} (hz : isSc z = true) (hn : isSc n = true) : z.toNat = n.toNat ↔ z = n := by
  obtain ⟨a, rfl, -, -⟩ := isSc_nat hz
  obtain ⟨b, rfl, -, -⟩ := isSc_nat hn
  rw [Int.toNat_natCast, Int.toNat_natCast]; omega
theorem toNat_pos {n : Int} (hn : isSc n = true) : 0 ≠ n.toNat := by
  obtain ⟨b, rfl, h, -⟩ := isSc_nat hn
  rw [Int.toNat_natCast]; omega
theorem inL_sc {D : Nat → DataW Unit} {l : List V3} (h : Agree D l) {z : Int} (hz : isSc z = false) (s : ByteArray) : inL l z s = none := by
  rw [← h.eq, inSc, hz]; rfl
theorem Agree.put {D : Nat → DataW Unit} {l : List V3} (h : Agree D l) (hm : ∀ i, i < 5 → IsMap (D i)) {n : Int} (hn : isSc n = true) (s v : ByteArray) :
    Agree (fun i => if i = n.toNat then (D n.toNat).put (key s) (str v) else D i) (setL l n s v) where
  sc := by
    rw [setL_eq]
    split
    · intro x hx
      rcases List.mem_append.1 hx with hx | hx
      · exact h.sc x hx
      · rw [List.mem_singleton.1 hx]; exact hn
    · intro x hx
      have h1 : kk x ∈ l.map kk := by rw [← upd_kk l n s v]; exact List.mem_map_of_mem hx
      obtain ⟨y, hy, e⟩ := List.mem_map.1 h1
      have e : y.1 = x.1 := by have e2 := congrArg Prod.fst e; exact e2
      rw [← e]; exact h.sc y hy
  nd := by
    rw [setL_eq]
    split
    · rename_i hnone
      rw [List.map_append, List.nodup_append]
      refine ⟨h.nd, by simp, fun a ha b hb e => ?_⟩
      have hb : b = (n, s) := by simpa [kk] using hb
      rw [e, hb] at ha
      exact (inL_mem_none l n s).1 hnone ha
    · rw [upd_kk]; exact h.nd
  eq := by
    intro z t
    have hR : inL (setL l n s v) z t = if z = n ∧ t = s then some v else inL l z t := by
      rw [setL_eq]
      by_cases hno : inL l n s = none
      · rw [if_pos hno, inL_app]
        by_cases hh : z = n ∧ t = s
        · rw [if_pos hh, (hit_iff z t (n, s, v)).2 ⟨hh.1.symm, hh.2.symm⟩, hh.1, hh.2, hno]; rfl
        · have hf : ¬ hitV z t (n, s, v) = true := fun e => hh ⟨((hit_iff z t (n, s, v)).1 e).1.symm, ((hit_iff z t (n, s, v)).1 e).2.symm⟩
          rw [if_neg hh, if_neg hf, Option.or_none]
      · rw [if_neg hno, inL_upd]
        by_cases hh : z = n ∧ t = s
        · rw [if_pos hh, if_pos hh]
          cases ho : inL l n s with
          | none => exact absurd ho hno
          | some u => rfl
        · rw [if_neg hh, if_neg hh]
    rw [hR]
    cases hz : isSc z with
    | false =>
      have hne : ¬ (z = n ∧ t = s) := fun e => by rw [e.1, hn] at hz; cases hz
      rw [inSc, hz, if_neg hne, inL_sc h hz]; rfl
    | true =>
      obtain ⟨b, rfl, hb1, hb5⟩ := isSc_nat hn
      rw [inSc, hz, if_pos rfl]
      by_cases hzn : z = (b : Int)
      · subst hzn
        rw [Int.toNat_natCast, if_pos rfl, look_put _ (hm b hb5), ← h.eq, inSc, hz, if_pos rfl, Int.toNat_natCast]
        by_cases ht : t = s
        · rw [if_pos ht, if_pos ⟨rfl, ht⟩]
        · rw [if_neg ht, if_neg (fun e => ht e.2)]
      · rw [if_neg (fun e => hzn ((toNat_of hz hn).1 e)), if_neg (fun e => hzn e.1), ← h.eq, inSc, hz, if_pos rfl]
  zero := by rw [if_neg (toNat_pos hn)]; exact h.zero
theorem Agree.drop {D : Nat → DataW Unit} {l : List V3} (h : Agree D l) {n : Int} (hn : isSc n = true) (s : ByteArray) :
    Agree (fun i => if i = n.toNat then (D n.toNat).del (key s) else D i) (delL n s l) where
  sc := fun x hx => h.sc x ((del_sub l n s).mem hx)
  nd := h.nd.sublist ((del_sub l n s).map kk)
  eq := by
    intro z t
    rw [inL_del l h.nd]
    cases hz : isSc z with
    | false =>
      have hne : ¬ (z = n ∧ t = s) := fun e => by rw [e.1, hn] at hz; cases hz
      rw [inSc, hz, if_neg hne, inL_sc h hz]; rfl
    | true =>
      rw [inSc, hz, if_pos rfl]
      by_cases hzn : z = n
      · subst hzn
        rw [if_pos rfl, look_del, ← h.eq, inSc, hz, if_pos rfl]
        by_cases ht : t = s
        · rw [if_pos ht, if_pos ⟨rfl, ht⟩]
        · rw [if_neg ht, if_neg (fun e => ht e.2)]
      · rw [if_neg (fun e => hzn ((toNat_of hz hn).1 e)), if_neg (fun e => hzn e.1), ← h.eq, inSc, hz, if_pos rfl]
  zero := by rw [if_neg (toNat_pos hn)]; exact h.zero
theorem Agree.clear {D : Nat → DataW Unit} {l : List V3} (h : Agree D l) (n : Int) : Agree (clearD D n) (clearRL l n) where
  sc := fun x hx => h.sc x (List.mem_filter.1 hx).1
  nd := h.nd.sublist (List.filter_sublist.map kk)
  eq := by
    intro z t
    rw [inL_clear]
    cases hz : isSc z with
    | false => rw [inSc, hz, inL_sc h hz]; simp
    | true =>
      rw [inSc, hz, if_pos rfl, clearD]
      cases hn : isSc n with
      | false =>
        have hne : ¬ z = n := fun e => by rw [e, hn] at hz; cases hz
        rw [if_neg (by simp), if_neg hne, ← h.eq, inSc, hz, if_pos rfl]
      | true =>
        rw [if_pos rfl]
        by_cases hzn : z = n
        · subst hzn
          rw [if_pos rfl, if_pos rfl, look_nil]
        · rw [if_neg (fun e => hzn ((toNat_of hz hn).1 e)), if_neg hzn, ← h.eq, inSc, hz, if_pos rfl]
  zero := by
    unfold clearD
    split
    · rename_i hn; show (if 0 = n.toNat then _ else _) = _; rw [if_neg (toNat_pos hn)]; exact h.zero
    · exact h.zero
theorem Agree.get {D : Nat → DataW Unit} {l : List V3} (h : Agree D l) (s : ByteArray) : getV D s = getL l s := by
  have e : ∀ b : Nat, 1 ≤ b → b < 5 → look (D b) s = inL l (b : Int) s := fun b h1 h5 => by
    rw [← h.eq]
    have hsc : isSc (b : Int) = true := by unfold isSc; simp; omega
    rw [inSc, hsc, if_pos rfl, Int.toNat_natCast]
  unfold getV getL
  rw [h.zero, look_nil, e 1 (by omega) (by omega), e 2 (by omega) (by omega), e 3 (by omega) (by omega), e 4 (by omega) (by omega)]
  rfl
end Go.Proofs.Ytpgfffibiogekaa.MS

/- Names of the list and of the maps, sorted, are the same: in plain words. -/
set_option linter.unusedVariables false
set_option linter.unusedSimpArgs false
namespace Go.Proofs.Ytpgfffibiogekaa.MS
open Go.RowKit Go.Maps Go.Sort Go.Shelf Go.Proofs.YtpgfffibiogekaaW.PrintWords Go.Proofs.YtpgfffibiogekaaW.PrintLast Go.Proofs.YtpgfffibiogekaaW.PrintMore

def tl (b : ByteArray) : List UInt8 := b.data.toList
theorem tl_toB (x : List UInt8) : tl (toB x) = x := rfl
theorem toB_tl (b : ByteArray) : toB (tl b) = b := rfl
def leT (a b : ByteArray) : Prop := tl a ≤ tl b
theorem lt_eq : ∀ (x y : List UInt8), Op.bytesLess x y = decide (x < y)
  | [], [] => by simp [Op.bytesLess]
  | _ :: _, [] => by simp [Op.bytesLess]
  | [], _ :: _ => by simp [Op.bytesLess]
  | a :: x, b :: y => by
    rw [Op.bytesLess, lt_eq x y]
    simp only [List.cons_lt_cons_iff]
    by_cases h1 : a < b <;> by_cases h2 : a = b <;> by_cases h3 : x < y <;> simp [h1, h2, h3]
theorem ltB_t {a b : ByteArray} (h : ltB a b = true) : leT a b := by
  unfold ltB at h
  rw [lt_eq, btl, btl, decide_eq_true_eq] at h
  exact List.le_of_lt h
theorem ltB_f {a b : ByteArray} (h : ltB a b = false) : leT b a := by
  unfold ltB at h
  rw [lt_eq, btl, btl, decide_eq_false_iff_not] at h
  exact List.not_lt.1 h
theorem leT_trans {a b c : ByteArray} (h1 : leT a b) (h2 : leT b c) : leT a c := List.le_trans h1 h2
theorem mergeR_perm : ∀ a b : List ByteArray, (mergeR a b).Perm (a ++ b)
  | [], b => by rw [mergeR]; exact List.Perm.refl _
  | x :: a, [] => by rw [mergeR]; simp; simp
  | x :: a, y :: b => by
    rw [mergeR]
    split
    · refine ((mergeR_perm (x :: a) b).cons y).trans ?_
      exact List.perm_middle.symm
    · exact (mergeR_perm a (y :: b)).cons x
theorem mergeR_sorted : ∀ a b : List ByteArray, a.Pairwise leT → b.Pairwise leT → (mergeR a b).Pairwise leT
  | [], b => fun _ h => by rw [mergeR]; exact h
  | x :: a, [] => fun h _ => by rw [mergeR]; exact h; simp
  | x :: a, y :: b => fun ha hb => by
    have ha' := List.pairwise_cons.1 ha
    have hb' := List.pairwise_cons.1 hb
    rw [mergeR]
    cases hc : ltB y x with
    | true =>
      rw [if_pos rfl]
      refine List.pairwise_cons.2 ⟨fun z hz => ?_, mergeR_sorted (x :: a) b ha hb'.2⟩
      rcases List.mem_append.1 ((mergeR_perm (x :: a) b).mem_iff.1 hz) with hz | hz
      · rcases List.mem_cons.1 hz with rfl | hz
        · exact ltB_t hc
        · exact leT_trans (ltB_t hc) (ha'.1 z hz)
      · exact hb'.1 z hz
    | false =>
      rw [if_neg (by simp)]
      refine List.pairwise_cons.2 ⟨fun z hz => ?_, mergeR_sorted a (y :: b) ha'.2 hb⟩
      rcases List.mem_append.1 ((mergeR_perm a (y :: b)).mem_iff.1 hz) with hz | hz
      · exact ha'.1 z hz
      · rcases List.mem_cons.1 hz with rfl | hz
        · exact ltB_f hc
        · exact leT_trans (ltB_f hc) (hb'.1 z hz)
theorem sortR_perm : ∀ (k : Nat) (l : List ByteArray), (sortR k l).Perm l
  | 0, l => List.Perm.refl _
  | k + 1, l => by
    rw [sortR]
    split
    · exact List.Perm.refl _
    · refine (mergeR_perm _ _).trans (((sortR_perm k _).append (sortR_perm k _)).trans ?_)
      rw [List.take_append_drop]
theorem sortR_sorted : ∀ (k : Nat) (l : List ByteArray), l.length ≤ k → (sortR k l).Pairwise leT
  | 0, l, h => by
    have : l = [] := List.eq_nil_of_length_eq_zero (by omega)
    subst this; exact List.Pairwise.nil
  | k + 1, l, h => by
    rw [sortR]
    split
    · rename_i h2
      match l, h2 with
      | [], _ => exact List.Pairwise.nil
      | [x], _ => exact List.pairwise_singleton _ _
      | x :: y :: l, h2 => simp at h2; omega
    · refine mergeR_sorted _ _ (sortR_sorted k _ ?_) (sortR_sorted k _ ?_)
      · rw [List.length_take]; omega
      · rw [List.length_drop]; omega
theorem mem_nmR (l : List V3) (n : Int) (t : ByteArray) : t ∈ nmR n l ↔ (n, t) ∈ l.map kk := by
  unfold nmR
  rw [List.mem_map, List.mem_map]
  constructor
  · rintro ⟨x, hx, e⟩
    obtain ⟨h1, h2⟩ := List.mem_filter.1 hx
    exact ⟨x, h1, (kk_iff x n t).2 ⟨beq_iff_eq.1 h2, e⟩⟩
  · rintro ⟨x, hx, e⟩
    obtain ⟨h1, h2⟩ := (kk_iff x n t).1 e
    exact ⟨x, List.mem_filter.2 ⟨hx, by simp [h1]⟩, h2⟩
theorem nmR_nodup (l : List V3) (n : Int) (h : (l.map kk).Nodup) : (nmR n l).Nodup := by
  induction l with
  | nil => exact List.Pairwise.nil
  | cons x l ih =>
    rw [List.map_cons, List.nodup_cons] at h
    have e : nmR n (x :: l) = if (x.1 == n) = true then x.2.1 :: nmR n l else nmR n l := by
      unfold nmR; rw [List.filter_cons]; split <;> rfl
    rw [e]
    split
    · rename_i hx
      refine List.nodup_cons.2 ⟨fun hm => h.1 ?_, ih h.2⟩
      rw [mem_nmR] at hm
      rw [show kk x = (n, x.2.1) from (kk_iff x n x.2.1).2 ⟨beq_iff_eq.1 hx, rfl⟩]
      exact hm
    · exact ih h.2
theorem keys_perm {w : World} {b n : Nat} {D : Nat → DataW Unit} {l : List V3} (hM : Mp w b (D n)) (h : Agree D l) (h1 : 1 ≤ n) (h5 : n < 5) : ((nmR n l).map tl).Perm (strKeys (D n)) := by
  obtain ⟨es, he, hp⟩ := hM.tidy
  obtain ⟨es2, he2, hk⟩ := World.ownsMap.keysOf hM
  have e12 : es2 = es := by rw [he] at he2; injection he2 with e; exact e.symm
  subst e12
  have hsc : isSc (n : Int) = true := by unfold isSc; simp; omega
  rw [he]
  refine perm_strKeys hp (fun p hp' => ?_) ?_ (fun x => ?_)
  · obtain ⟨kv', hkv⟩ := hk p hp'
    obtain ⟨y, _, hy, _⟩ := Maps.keyOf_str Try.underlying9 hkv
    exact ⟨y, hy⟩
  · refine List.pairwise_map.2 ((nmR_nodup l n h.nd).imp fun {a b} hne e => hne ?_)
    rw [← toB_tl a, ← toB_tl b, e]
  · rw [← he]
    have hl : has (D n) (Lit.string x) = (look (D n) (toB x)).isSome := (look_is (D n) (toB x)).symm
    have hi : look (D n) (toB x) = inL l n (toB x) := by rw [← h.eq, inSc, hsc, if_pos rfl, Int.toNat_natCast]
    rw [hl, hi]
    constructor
    · intro hx
      obtain ⟨t, ht, rfl⟩ := List.mem_map.1 hx
      rw [toB_tl]
      rw [mem_nmR] at ht
      cases hc : inL l n t with
      | some u => rfl
      | none => exact absurd ht ((inL_mem_none l n t).1 hc)
    · intro hx
      refine List.mem_map.2 ⟨toB x, ?_, tl_toB x⟩
      rw [mem_nmR]
      refine Classical.byContradiction fun hn => ?_
      rw [(inL_mem_none l n (toB x)).2 hn] at hx
      cases hx
theorem size_many {w : World} {b n : Nat} {D : Nat → DataW Unit} {l : List V3} (hM : Mp w b (D n)) (h : Agree D l) (h1 : 1 ≤ n) (h5 : n < 5) : Maps.size (D n) = manyR n l := by
  rw [← keys_len (D n) hM.isMap, ← (keys_perm hM h h1 h5).length_eq, List.length_map, nmR_len]
theorem sort_same {w : World} {b n : Nat} {D : Nat → DataW Unit} {l : List V3} (hM : Mp w b (D n)) (h : Agree D l) (h1 : 1 ≤ n) (h5 : n < 5) : sortN (D n) = sortR (manyR n l) (nmR n l) := by
  have tr : ∀ a b c : List UInt8, leB a b = true → leB b c = true → leB a c = true := fun a b c h1 h2 => by simp only [leB, decide_eq_true_eq] at *; exact List.le_trans h1 h2
  have tot : ∀ a b : List UInt8, (leB a b || leB b a) = true := fun a b => by simp only [leB, Bool.or_eq_true, decide_eq_true_eq]; exact List.le_total a b
  have e : (strKeys (D n)).mergeSort leB = (sortR (manyR n l) (nmR n l)).map tl := by
    refine List.Perm.eq_of_pairwise (le := fun a b => leB a b = true) (fun a b _ _ h1 h2 => ?_) (List.pairwise_mergeSort tr tot _) ?_ ((List.mergeSort_perm _ leB).trans ((keys_perm hM h h1 h5).symm.trans ((sortR_perm _ _).map tl).symm))
    · simp only [leB, decide_eq_true_eq] at h1 h2
      exact List.le_antisymm h1 h2
    · refine List.pairwise_map.2 ((sortR_sorted (manyR n l) (nmR n l) (by rw [nmR_len]; exact Nat.le_refl _)).imp fun {a b} hab => ?_)
      simp only [leB, decide_eq_true_eq]
      exact hab
  rw [sortN, e, List.map_map]
  have e2 : toB ∘ tl = id := funext toB_tl
  rw [e2, List.map_id]
end Go.Proofs.Ytpgfffibiogekaa.MS

/- One call keeps the list and the maps alike: in plain words. -/
set_option linter.unusedVariables false
set_option linter.unusedSimpArgs false
namespace Go.Proofs.Ytpgfffibiogekaa.MS
open Go.RowKit Go.Maps Go.Sort Go.Shelf Go.Proofs.YtpgfffibiogekaaW.PrintWords Go.Proofs.YtpgfffibiogekaaW.PrintLast Go.Proofs.YtpgfffibiogekaaW.PrintMore

theorem inL_of_mem (l : List V3) (hl : (l.map kk).Nodup) (x : V3) (hx : x ∈ l) : inL l x.1 x.2.1 = some x.2.2 := by
  induction l with
  | nil => cases hx
  | cons y l ih =>
    rw [List.map_cons, List.nodup_cons] at hl
    rw [inL_cons]
    rcases List.mem_cons.1 hx with rfl | hx
    · rw [if_pos ((hit_iff _ _ _).2 ⟨rfl, rfl⟩)]
    · cases hh : hitV x.1 x.2.1 y with
      | true =>
        have h1 : kk y = kk x := (kk_iff y x.1 x.2.1).2 ((hit_iff _ _ _).1 hh)
        exact absurd (by rw [h1]; exact List.mem_map_of_mem hx) hl.1
      | false => rw [if_neg (by simp)]; exact ih hl.2 hx
theorem many_sum (l : List V3) (h : ∀ x ∈ l, isSc x.1 = true) : l.length = manyR 1 l + manyR 2 l + manyR 3 l + manyR 4 l := by
  induction l with
  | nil => rfl
  | cons x l ih =>
    have ih := ih (fun y hy => h y (List.mem_cons_of_mem _ hy))
    obtain ⟨n, hn, h1, h5⟩ := isSc_nat (h x List.mem_cons_self)
    have e : ∀ k : Nat, manyR (k : Int) (x :: l) = (if n = k then 1 else 0) + manyR (k : Int) l := fun k => by
      unfold manyR
      rw [List.filter_cons, hn]
      by_cases hk : n = k
      · subst hk; simp; omega
      · have : ((n : Int) == (k : Int)) = false := by simp; omega
        rw [this, if_neg (by simp), if_neg hk, Nat.zero_add]
    have e1 := e 1; have e2 := e 2; have e3 := e 3; have e4 := e 4
    have f1 : manyR 1 (x :: l) = (if n = 1 then 1 else 0) + manyR 1 l := e1
    have f2 : manyR 2 (x :: l) = (if n = 2 then 1 else 0) + manyR 2 l := e2
    have f3 : manyR 3 (x :: l) = (if n = 3 then 1 else 0) + manyR 3 l := e3
    have f4 : manyR 4 (x :: l) = (if n = 4 then 1 else 0) + manyR 4 l := e4
    rw [List.length_cons, f1, f2, f3, f4, ih]
    rcases lt5 h5 with rfl | rfl | rfl | rfl | rfl <;> simp at h1 ⊢ <;> omega
section
variable {w : World} {base g : Nat} {m : Nat → Nat} {D : Nat → DataW Unit} {l : List V3}
theorem agree_len (hS : SetAt w base g m D) (h : Agree D l) : l.length ≤ 4096 := by
  have e := many_sum l h.sc
  have f : ∀ n : Nat, 1 ≤ n → n < 5 → manyR (n : Int) l ≤ 1024 := fun n h1 h5 => by
    rw [← size_many (hS.own n h5) h h1 h5]; exact hS.cnt n h5
  have f1 : manyR 1 l ≤ 1024 := f 1 (by omega) (by omega)
  have f2 : manyR 2 l ≤ 1024 := f 2 (by omega) (by omega)
  have f3 : manyR 3 l ≤ 1024 := f 3 (by omega) (by omega)
  have f4 : manyR 4 l ≤ 1024 := f 4 (by omega) (by omega)
  omega
theorem agree_val (hS : SetAt w base g m D) (h : Agree D l) : ∀ x ∈ l, x.2.2.size ≤ 100000 := by
  intro x hx
  have h1 := inL_of_mem l h.nd x hx
  rw [← h.eq] at h1
  have := inSc_le hS h1
  omega
theorem agree_putE (hS : SetAt w base g m D) (h : Agree D l) (z : Int) (s v : ByteArray) : putE D z s v = putRE l z s v := by
  unfold putE putRE
  cases hz : isSc z with
  | false => rfl
  | true =>
    obtain ⟨n, rfl, h1, h5⟩ := isSc_nat hz
    have e1 : look (D n) s = none ↔ atR (n : Int) s l 0 < 0 := by
      rw [at_none, ← h.eq, inSc, hz, if_pos rfl, Int.toNat_natCast]
    have e2 := size_many (hS.own n h5) h h1 h5
    rw [Int.toNat_natCast, e2]
    simp only [e1]
theorem agree_put (hS : SetAt w base g m D) (h : Agree D l) (z : Int) (s v : ByteArray) : Agree (putD D z s v) (putRL l z s v) := by
  unfold putD putRL
  rw [agree_putE hS h]
  split
  · rename_i hE
    have hz : isSc z = true := by
      cases hz : isSc z with
      | true => rfl
      | false => unfold putRE at hE; rw [hz] at hE; simp at hE
    exact h.put (fun i hi => (hS.own i hi).isMap) hz s v
  · exact h
theorem agree_add (h : Agree D l) (z : Int) (s v : ByteArray) : addV D z s v = addL l z s v := by
  unfold addV addL
  rw [h.eq]
  cases inL l z s <;> rfl
theorem agree_drop (h : Agree D l) (z : Int) (s : ByteArray) : dropE D z s = dropRE l z s ∧ Agree (dropD D z s) (dropRL l z s) := by
  cases hz : isSc z with
  | false =>
    have e1 : dropE D z s = 1 := by rw [dropE, hz]; rfl
    have e2 : dropRE l z s = 1 := by rw [dropRE, hz]; rfl
    exact ⟨by rw [e1, e2], by rw [dropD, dropRL, e1, e2, if_neg (by decide), if_neg (by decide)]; exact h⟩
  | true =>
    have hl : look (D z.toNat) s = inL l z s := by rw [← h.eq, inSc, hz, if_pos rfl]
    by_cases hn : inL l z s = none
    · have e1 : dropE D z s = 6 := by rw [dropE, hz, if_pos rfl, if_pos (by rw [hl]; exact hn)]
      have e2 : dropRE l z s = 6 := by rw [dropRE, hz, if_pos rfl, if_pos ((at_none l z s).2 hn)]
      exact ⟨by rw [e1, e2], by rw [dropD, dropRL, e1, e2, if_neg (by decide), if_neg (by decide)]; exact h⟩
    · have hat : ¬ atR z s l 0 < 0 := fun e => hn ((at_none l z s).1 e)
      have e1 : dropE D z s = 0 := by rw [dropE, hz, if_pos rfl, if_neg (by rw [hl]; exact hn)]
      have e2 : dropRE l z s = 0 := by rw [dropRE, hz, if_pos rfl, if_neg hat]
      refine ⟨by rw [e1, e2], ?_⟩
      rw [dropD, dropRL, e1, e2, if_pos rfl, if_pos rfl, eraseL_eq l z s hat]
      exact h.drop hz s
theorem agree_step (hS : SetAt w base g m D) (h : Agree D l) (a : Ac) : doE D a = woE l a ∧ Agree (doD D a) (woL l a) := by
  unfold doE woE doD woL
  by_cases h0 : (a.k % 5 == 0) = true
  · simp only [if_pos h0]
    exact ⟨agree_putE hS h _ _ _, agree_put hS h _ _ _⟩
  · simp only [if_neg h0]
    by_cases h1 : (a.k % 5 == 1) = true
    · simp only [if_pos h1]
      rw [agree_add h]
      exact ⟨agree_putE hS h _ _ _, agree_put hS h _ _ _⟩
    · simp only [if_neg h1]
      by_cases h2 : (a.k % 5 == 2) = true
      · simp only [if_pos h2]
        unfold defE defRE defD defRL
        rw [h.get]
        by_cases hc : ((getL l a.s).isSome && isSc a.z) = true
        · simp only [if_pos hc]
          exact ⟨trivial, h⟩
        · simp only [if_neg hc]
          exact ⟨agree_putE hS h _ _ _, agree_put hS h _ _ _⟩
      · simp only [if_neg h2]
        by_cases h3 : (a.k % 5 == 3) = true
        · simp only [if_pos h3]
          exact agree_drop h _ _
        · simp only [if_neg h3]
          exact ⟨trivial, h.clear _⟩
/-- the names of a scope: the same -/
theorem agree_names (hS : SetAt w base g m D) (h : Agree D l) (q : Nat) : nmL D (q : Int) = sortR (manyR q l) (nmR q l) := by
  cases hz : isSc (q : Int) with
  | true =>
    obtain ⟨n, hn, h1, h5⟩ := isSc_nat hz
    have hqn : q = n := by omega
    subst hqn
    rw [nmL, hz, if_pos rfl, Int.toNat_natCast]
    exact sort_same (hS.own q h5) h h1 h5
  | false =>
    have e : nmR (q : Int) l = [] := by
      rw [List.eq_nil_iff_forall_not_mem]
      intro t ht
      rw [mem_nmR] at ht
      obtain ⟨x, hx, e⟩ := List.mem_map.1 ht
      have h1 := h.sc x hx
      rw [((kk_iff x q t).1 e).1, hz] at h1
      cases h1
    have e2 : manyR (q : Int) l = 0 := by rw [← nmR_len, e]; rfl
    rw [nmL, hz, e, e2]; rfl
theorem agree_many (hS : SetAt w base g m D) (h : Agree D l) (q : Nat) : manyR q l = (nmL D (q : Int)).length ∧ (nmL D (q : Int)).length ≤ 1024 := by
  rw [agree_names hS h, sortR_len, nmR_len]
  refine ⟨rfl, ?_⟩
  cases hz : isSc (q : Int) with
  | true =>
    obtain ⟨n, hn, h1, h5⟩ := isSc_nat hz
    have hqn : q = n := by omega
    subst hqn
    rw [← size_many (hS.own q h5) h h1 h5]; exact hS.cnt q h5
  | false =>
    have e := agree_names hS h q
    rw [nmL, hz] at e
    have e3 := congrArg List.length e
    rw [sortR_len, nmR_len] at e3
    have e4 : ([] : List ByteArray).length = manyR q l := e3
    rw [← e4]; exact Nat.zero_le _
end
end Go.Proofs.Ytpgfffibiogekaa.MS
