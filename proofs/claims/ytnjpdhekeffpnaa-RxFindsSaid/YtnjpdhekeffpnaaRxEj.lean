/- A quoted text as a tree: plain. -/
import Derived.Test.YtnjpdhekeffpnaaRxEi
import Derived.Test.YtnjpdhekeffpnaaRxQ
set_option linter.unusedVariables false
set_option linter.unusedSimpArgs false
namespace Go.Proofs.Ytnjpdhekeffpnaa.Rx
open Go.RowKit Go.Proofs.YtnjpdhekeffpnaaW.PrintWords Go.Proofs.YtnjpdhekeffpnaaW.PrintLast Go.Proofs.YtnjpdhekeffpnaaW.PrintMore

theorem notSp_all : ∀ c : Fin 256, isSp (UInt8.ofNat c.val) = false → c.val ≠ 42 ∧ c.val ≠ 43 ∧ c.val ≠ 63 ∧ c.val ≠ 46 ∧ c.val ≠ 94 ∧ c.val ≠ 36 ∧ c.val ≠ 91 ∧ c.val ≠ 40 ∧ c.val ≠ 92 ∧ c.val ≠ 124 ∧ c.val ≠ 41 := by decide +kernel
theorem notSp (c : UInt8) (h : isSp c = false) : c.toNat ≠ 42 ∧ c.toNat ≠ 43 ∧ c.toNat ≠ 63 ∧ c.toNat ≠ 46 ∧ c.toNat ≠ 94 ∧ c.toNat ≠ 36 ∧ c.toNat ≠ 91 ∧ c.toNat ≠ 40 ∧ c.toNat ≠ 92 ∧ c.toNat ≠ 124 ∧ c.toNat ≠ 41 := by
  have := notSp_all ⟨c.toNat, c.toNat_lt⟩
  simp only [UInt8.ofNat_toNat] at this
  exact this h
theorem bt_lt (s : ByteArray) (i : Nat) (h : i < s.size) : bt s (i : Int) = ((s[i]'h).toNat : Int) := by
  unfold bt
  rw [dif_pos (by rw [Int.toNat_natCast]; exact h)]
  rfl
theorem bt_drop {p : ByteArray} {k : Nat} {c : UInt8} {r : List UInt8} (h : p.data.toList.drop k = c :: r) : k < p.size ∧ bt p (k : Int) = (c.toNat : Int) ∧ p.data.toList.drop (k + 1) = r := by
  have hk : k < p.size := by
    have h1 := congrArg List.length h
    rw [List.length_drop, Array.length_toList, List.length_cons] at h1
    show k < p.data.size
    omega
  rw [drop_at p k hk] at h
  injection h with h1 h2
  refine ⟨hk, ?_, h2⟩
  rw [bt_lt p k hk, h1]
theorem peek_drop {p : ByteArray} {S : BS} {c : UInt8} {r : List UInt8} (hF : S.F = none) (h : p.data.toList.drop S.at_ = c :: r) : peekB p S = some (c.toNat : Int) := by
  obtain ⟨h1, h2, _⟩ := bt_drop h
  unfold peekB
  rw [if_pos ⟨hF, h1⟩, h2]
theorem peek_end {p : ByteArray} {S : BS} (h : p.data.toList.drop S.at_ = []) : peekB p S = none := by
  apply peek_none
  have h1 := congrArg List.length h
  rw [List.length_drop, Array.length_toList, List.length_nil] at h1
  show p.data.size ≤ _
  omega
theorem th_lit {ge : Nat → BS → Re × BS} {p : ByteArray} {S : BS} {c : UInt8} {r : List UInt8} (hF : S.F = none) (h : p.data.toList.drop S.at_ = c :: r) (hc : isSp c = false) : thingE ge p S = (.byte (addR 0 c.toNat 1), skip S 1) := by
  obtain ⟨c1, c2, c3, c4, c5, c6, c7, c8, c9, c10, c11⟩ := notSp c hc
  unfold thingE
  rw [peek_drop hF h]
  dsimp only [Option.getD]
  rw [if_neg (by omega), if_neg (by omega), if_neg (by omega), if_neg (by omega), if_neg (by omega), if_neg (by omega), if_neg (by omega), Int.toNat_natCast]
theorem th_esc {ge : Nat → BS → Re × BS} {p : ByteArray} {S : BS} {c : UInt8} {r : List UInt8} (hF : S.F = none) (h : p.data.toList.drop S.at_ = 92 :: c :: r) : thingE ge p S = (.byte (addR 0 c.toNat 1), skip (skip S 1) 1) := by
  have h2 : p.data.toList.drop (skip S 1).at_ = c :: r := (bt_drop h).2.2
  have hp := peek_drop (S := skip S 1) hF h2
  unfold thingE
  rw [peek_drop hF h]
  dsimp only [Option.getD]
  rw [if_neg (by decide), if_neg (by decide), if_neg (by decide), if_neg (by decide), if_neg (by decide), if_neg (by decide), if_pos (by decide), hp]
  dsimp only
  rw [Int.toNat_natCast]
  rfl
theorem quoteL_cons (c : UInt8) (l : List UInt8) : quoteL (c :: l) = (if isSp c then [92, c] else [c]) ++ quoteL l := by simp [quoteL]
theorem rep_quote {p : ByteArray} {S : BS} (e : Re) (l : List UInt8) (hF : S.F = none) (h : p.data.toList.drop S.at_ = quoteL l) : repE p e S = (e, S) := by
  unfold repE
  cases l with
  | nil => rw [peek_end h]
  | cons c l =>
    rw [quoteL_cons] at h
    by_cases hc : isSp c = true
    · rw [if_pos hc] at h
      rw [peek_drop (c := 92) hF h]
      rfl
    · rw [if_neg hc] at h
      rw [peek_drop (c := c) hF h]
      obtain ⟨c1, c2, c3, c4, c5, c6, c7, c8, c9, c10, c11⟩ := notSp c (by simpa using hc)
      dsimp only
      rw [if_neg (by omega), if_neg (by omega), if_neg (by omega)]
theorem way_quote {ge : Nat → BS → Re × BS} (p : ByteArray) : ∀ (l : List UInt8) (n : Nat) (e : Re) (S : BS), S.F = none → p.data.toList.drop S.at_ = quoteL l → l.length < n →
    wayLE (thingE ge p) p n e S = (catB e l, skip S (quoteL l).length)
  | [], n + 1, e, S, hF, h, hn => by
    rw [wayLE, peek_end h]
    rfl
  | c :: l, n + 1, e, S, hF, h, hn => by
    rw [List.length_cons] at hn
    rw [quoteL_cons] at h ⊢
    rw [wayLE]
    by_cases hc : isSp c = true
    · rw [if_pos hc] at h ⊢
      have hd : p.data.toList.drop (S.at_ + 1 + 1) = quoteL l := (bt_drop (bt_drop h).2.2).2.2
      rw [peek_drop (c := 92) hF h, th_esc hF h]
      dsimp only
      rw [if_neg (by decide), rep_quote (S := skip (skip S 1) 1) _ l hF hd]
      dsimp only
      rw [way_quote p l n _ (skip (skip S 1) 1) hF hd (by omega)]
      congr 1
      show (⟨_, _, _⟩ : BS) = ⟨_, _, _⟩
      congr 1
      simp [skip]; omega
    · rw [if_neg hc] at h ⊢
      have hd : p.data.toList.drop (S.at_ + 1) = quoteL l := (bt_drop h).2.2
      obtain ⟨c1, c2, c3, c4, c5, c6, c7, c8, c9, c10, c11⟩ := notSp c (by simpa using hc)
      rw [peek_drop (c := c) hF h, th_lit hF h (by simpa using hc)]
      dsimp only
      rw [if_neg (by omega), rep_quote (S := skip S 1) _ l hF hd]
      dsimp only
      rw [way_quote p l n _ (skip S 1) hF hd (by omega)]
      congr 1
      show (⟨_, _, _⟩ : BS) = ⟨_, _, _⟩
      congr 1
      simp [skip]; omega
theorem quoteL_len (l : List UInt8) : l.length ≤ (quoteL l).length ∧ (quoteL l).length ≤ 2 * l.length := by
  induction l with
  | nil => simp [quoteL]
  | cons c l ih =>
    rw [quoteL_cons, List.length_append, List.length_cons]
    split <;> simp <;> omega
/-- the text quoted -/
abbrev qB (s : ByteArray) : ByteArray := ⟨(quoteL s.data.toList).toArray⟩
theorem read_quote (s : ByteArray) : readE (qB s) = (catB .eps s.data.toList, ⟨(qB s).size, none, []⟩) := by
  have hl := quoteL_len s.data.toList
  have hz : (qB s).size = (quoteL s.data.toList).length := by show (quoteL s.data.toList).toArray.size = _; simp
  have hw := way_quote (ge := grpFE (waysFE (thE (qB s) 15) (qB s)) (qB s)) (qB s) s.data.toList ((qB s).size + 1) .eps ⟨0, none, []⟩ rfl (by simp) (by omega)
  have hsk : skip ⟨0, none, []⟩ (quoteL s.data.toList).length = (⟨(qB s).size, none, []⟩ : BS) := by simp [skip, hz]
  rw [hsk] at hw
  show waysFE (thingE (grpFE (waysFE (thE (qB s) 15) (qB s)) (qB s)) (qB s)) (qB s) ⟨0, none, []⟩ = _
  obtain ⟨ge, hge⟩ : ∃ ge, grpFE (waysFE (thE (qB s) 15) (qB s)) (qB s) = ge := ⟨_, rfl⟩
  rw [hge] at hw ⊢
  rw [waysFE, wayE, hw]
  dsimp only
  rw [waysLE, peek_none (Nat.le_refl _)]
  rfl
/-- a text's fault, told by its tree -/
theorem fault_E (s : ByteArray) : faultB s = if 200 < s.size then some (4, 0) else (if (readE s).2.at_ < s.size then wrongB 2 (readE s).2.at_ (readE s).2 else (readE s).2).F := by
  have h := (read_ok s).1
  have h1 : (readE s).2.at_ = (readB s).2.at_ := by rw [← h]; rfl
  have h2 : (readE s).2.F = (readB s).2.F := by rw [← h]; rfl
  unfold faultB
  split
  · rfl
  · rw [h1]
    split
    · rw [wrongB, wrongB, h2]
      split
      · rfl
      · exact h2.symm
    · exact h2.symm
theorem fault_quote (s : ByteArray) (hs : s.size ≤ 60) : faultB (qB s) = none := by
  have hl := quoteL_len s.data.toList
  have hz : (qB s).size = (quoteL s.data.toList).length := by show (quoteL s.data.toList).toArray.size = _; simp
  rw [Array.length_toList] at hl
  have hl2 : (quoteL s.data.toList).length ≤ 2 * s.size := hl.2
  rw [fault_E, if_neg (by omega), read_quote]
  dsimp only
  rw [if_neg (by omega)]
theorem quote_M (s t : ByteArray) (i j : Nat) : M t (readE (qB s)).1 i j ↔ Stands t s.data.toList i ∧ j = i + s.size := by
  rw [read_quote, catB_M]
  rw [Array.length_toList]
  constructor
  · rintro ⟨k, h1, h2, h3⟩
    have h1 : i = k := h1
    subst h1
    exact ⟨h2, h3⟩
  · rintro ⟨h1, h2⟩
    exact ⟨i, rfl, h1, h2⟩
theorem stands_iff (t : ByteArray) : ∀ (l : List UInt8) (i : Nat), i ≤ t.size → (Stands t l i ↔ (t.data.toList.drop i).take l.length = l)
  | [], i, hi => by simp [Stands]
  | c :: l, i, hi => by
    rw [Stands]
    by_cases h : i < t.size
    · rw [drop_at t i h, List.length_cons, List.take_succ_cons, List.cons.injEq, ← stands_iff t l (i + 1) (by omega), bt_lt t i h]
      constructor
      · rintro ⟨_, h2, h3⟩; exact ⟨UInt8.toNat_inj.1 (by simpa using h2), h3⟩
      · rintro ⟨h2, h3⟩; exact ⟨h, by rw [h2]; simp, h3⟩
    · rw [drop_end t i (by omega)]
      simp [h]
theorem stands_ext (s t : ByteArray) (i : Nat) (h : i + s.size ≤ t.size) : Stands t s.data.toList i ↔ t.extract i (i + s.size) = s := by
  rw [stands_iff t _ i (by omega), Array.length_toList]
  constructor
  · intro h1
    apply ByteArray.ext
    apply Array.toList_inj.1
    rw [← h1]
    simp [ByteArray.data_extract]
  · intro h1
    conv => rhs; rw [← h1]
    simp [ByteArray.data_extract]
theorem stands_hi (t : ByteArray) : ∀ (l : List UInt8) (i : Nat), i ≤ t.size → Stands t l i → i + l.length ≤ t.size
  | [], i, hi, _ => by simpa using hi
  | c :: l, i, hi, h => by
    have := stands_hi t l (i + 1) (by have := h.1; omega) h.2.2
    rw [List.length_cons]; omega
/-- what the loop of the law on quoted texts keeps -/
def QInv (a b : ByteArray) (t z : Int) : Prop :=
  (t = -1 ∨ (0 ≤ t ∧ z < t ∧ t ≤ (b.size : Int) - a.size ∧ Stands b a.data.toList t.toNat)) ∧ ∀ j : Nat, z < j → (t = -1 ∨ (j : Int) < t) → (j : Int) ≤ (b.size : Int) - a.size → ¬ Stands b a.data.toList j
theorem QInv.start (a b : ByteArray) : QInv a b (-1) ((b.size : Int) - a.size) := ⟨.inl rfl, fun j h1 _ h3 => by omega⟩
theorem QInv.yes {a b : ByteArray} {t z : Int} (h : QInv a b t z) (h0 : 0 ≤ z) (h1 : z ≤ (b.size : Int) - a.size) (hs : b.extract z.toNat (z + a.size).toNat = a) : QInv a b z (z - 1) := by
  have e : (z + a.size).toNat = z.toNat + a.size := by omega
  rw [e] at hs
  exact ⟨.inr ⟨h0, by omega, h1, (stands_ext a b z.toNat (by omega)).2 hs⟩, fun j h2 h3 _ => by omega⟩
theorem QInv.no {a b : ByteArray} {t z : Int} (h : QInv a b t z) (h0 : 0 ≤ z) (h1 : z ≤ (b.size : Int) - a.size) (hs : ¬ b.extract z.toNat (z + a.size).toNat = a) : QInv a b t (z - 1) := by
  have e : (z + a.size).toNat = z.toNat + a.size := by omega
  rw [e] at hs
  refine ⟨?_, fun j h2 h3 h4 => ?_⟩
  · rcases h.1 with h2 | ⟨h2, h3, h4, h5⟩
    · exact .inl h2
    · exact .inr ⟨h2, by omega, h4, h5⟩
  · by_cases hj : (j : Int) = z
    · have hj2 : j = z.toNat := by omega
      rw [hj2]
      exact fun h6 => hs ((stands_ext a b z.toNat (by omega)).1 h6)
    · exact h.2 j (by omega) h3 h4
theorem quote_find (a b : ByteArray) (ha : a.size ≤ 60) (t z : Int) (h : QInv a b t z) (hz : z < 0) :
    (t = -1 ∧ findP b (stepsB (qB a)) (firstB (qB a)) 0 = none) ∨ ∃ i : Nat, t = (i : Int) ∧ findP b (stepsB (qB a)) (firstB (qB a)) 0 = some (i, (i : Int) + (a.size : Int)) := by
  have hF := findP_M (qB a) b (fault_quote a ha) 0
  obtain ⟨R, hR⟩ : ∃ R, findP b (stepsB (qB a)) (firstB (qB a)) 0 = R := ⟨_, rfl⟩
  rw [show ((0 : Nat) : Int) = 0 from rfl] at hF
  rw [hR] at hF ⊢
  cases R with
  | none =>
    rcases h.1 with h1 | ⟨h1, h2, h3, h4⟩
    · exact .inl ⟨h1, rfl⟩
    · exact absurd ((quote_M a b t.toNat (t.toNat + a.size)).2 ⟨h4, rfl⟩) (hF t.toNat _ (by omega) (by omega))
  | some q =>
    obtain ⟨i, y⟩ := q
    obtain ⟨_, h2, ⟨j, rfl, h3, _⟩, h5⟩ := hF
    obtain ⟨h6, rfl⟩ := (quote_M a b i j).1 h3
    have h7 := stands_hi b _ i h2 h6
    rw [Array.length_toList] at h7
    have h7' : i + a.size ≤ b.size := h7
    rcases h.1 with h1 | ⟨h1, h8, h9, h10⟩
    · exact absurd h6 (h.2 i (by omega) (.inl h1) (by omega))
    · refine .inr ⟨i, ?_, by simp⟩
      rcases Nat.lt_trichotomy i t.toNat with g | g | g
      · exact absurd h6 (h.2 i (by omega) (.inr (by omega)) (by omega))
      · omega
      · exact absurd ((quote_M a b t.toNat (t.toNat + a.size)).2 ⟨h10, rfl⟩) (h5 t.toNat _ (by omega) g)
theorem quote_isA (a : ByteArray) (ha : a.size ≤ 60) : isP a (stepsB (qB a)) (firstB (qB a)) = true := by
  rw [isP_M _ _ (fault_quote a ha), quote_M]
  exact ⟨(stands_ext a a 0 (by omega)).2 (by simp), by omega⟩
theorem quote_isB (a b : ByteArray) (ha : a.size ≤ 60) : isP b (stepsB (qB a)) (firstB (qB a)) = decide (a = b) := by
  rw [Bool.eq_iff_iff, isP_M _ _ (fault_quote a ha), quote_M, decide_eq_true_iff]
  constructor
  · rintro ⟨h1, h2⟩
    have h3 := (stands_ext a b 0 (by omega)).1 h1
    rw [show 0 + a.size = b.size by omega] at h3
    rw [← h3]; simp
  · rintro rfl
    exact ⟨(stands_ext a a 0 (by omega)).2 (by simp), by omega⟩
end Go.Proofs.Ytnjpdhekeffpnaa.Rx
