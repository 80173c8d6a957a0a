/- Patterns: what matches, on lists of bytes, and what the program's loop keeps. -/
import Derived.Test.YtcailjmcjgpfmaaGlobW3
set_option linter.unusedVariables false
namespace Go.Proofs.Ytcailjmcjgpfmaa.GP
open Go.RowKit Ba

theorem oneK_pos (p : List UInt8) : 1 ≤ oneK p := by
  unfold oneK
  split
  · split <;> omega
  · split
    · split <;> omega
    · omega

/-- whether a pattern is all of a text -/
def M (p s : List UInt8) : Bool :=
  match hp : p, hs : s with
  | [], s => s.isEmpty
  | x :: r, [] => if x == 42 then M r [] else false
  | x :: r, c :: s' => if x == 42 then M r (c :: s') || M (x :: r) s' else oneB (x :: r) c && M ((x :: r).drop (oneK (x :: r))) s'
termination_by p.length + s.length
decreasing_by
  all_goals simp only [List.length_cons, List.length_nil, List.length_drop]
  all_goals have := oneK_pos (x :: r)
  all_goals omega

theorem M_nil (s : List UInt8) : M [] s = s.isEmpty := by unfold M; rfl
theorem M_star_nil (r : List UInt8) : M (42 :: r) [] = M r [] := by conv => lhs; unfold M
                                                                    rfl
theorem M_star_cons (r : List UInt8) (c : UInt8) (s : List UInt8) : M (42 :: r) (c :: s) = (M r (c :: s) || M (42 :: r) s) := by
  conv => lhs; unfold M
  rfl
theorem M_one_nil (x : UInt8) (r : List UInt8) (h : x ≠ 42) : M (x :: r) [] = false := by
  conv => lhs; unfold M
  simp [h]
theorem M_one (x : UInt8) (r : List UInt8) (h : x ≠ 42) (c : UInt8) (s : List UInt8) : M (x :: r) (c :: s) = (oneB (x :: r) c && M ((x :: r).drop (oneK (x :: r))) s) := by
  conv => lhs; unfold M
  simp [h]

/-- what is left to try behind a star -/
def back (again : List UInt8) : List UInt8 → Bool
  | [] => false
  | _ :: r => M (42 :: again) r
theorem M_star (r s : List UInt8) : M (42 :: r) s = (M r s || back r s) := by
  cases s with
  | nil => rw [M_star_nil]; simp [back]
  | cons c s => rw [M_star_cons]; rfl
theorem star_iff (r : List UInt8) : ∀ s : List UInt8, M (42 :: r) s = true ↔ ∃ k, k ≤ s.length ∧ M r (s.drop k) = true
  | [] => by rw [M_star_nil]; exact ⟨fun h => ⟨0, Nat.le_refl _, h⟩, fun ⟨k, _, h⟩ => by simpa using h⟩
  | c :: s => by
    rw [M_star_cons, Bool.or_eq_true, star_iff r s]
    constructor
    · rintro (h | ⟨k, hk, h⟩)
      · exact ⟨0, Nat.zero_le _, h⟩
      · exact ⟨k + 1, by simp; omega, by simpa using h⟩
    · rintro ⟨k, hk, h⟩
      cases k with
      | zero => exact .inl h
      | succ k => exact .inr ⟨k, by simp at hk; omega, by simpa using h⟩
theorem star_drop (r s : List UInt8) (j : Nat) (hj : j ≤ s.length) (h : M (42 :: r) (s.drop j) = true) : M (42 :: r) s = true := by
  rw [star_iff] at h ⊢
  obtain ⟨k, hk, h⟩ := h
  rw [List.length_drop] at hk
  exact ⟨j + k, by omega, by rw [List.drop_drop] at h; exact h⟩

/-- What the loop keeps. -/
structure Kept (p0 s0 p s again rest : List UInt8) (star : Bool) : Prop where
  val : M p0 s0 = (M p s || (star && back again rest))
  inv : star = true → ∃ n, s = rest.drop n ∧ n ≤ rest.length ∧ ∀ y, M again y = true → n ≤ y.length ∧ M p (y.drop n) = true

theorem Kept.start (p s a r : List UInt8) : Kept p s p s a r false := ⟨by simp, fun h => by simp at h⟩

/-- what was left behind an elder star is there behind what it met since -/
theorem Kept.old {p0 s0 p s again rest : List UInt8} {star : Bool} (h : Kept p0 s0 p s again rest star) (hb : (star && back again rest) = true) :
    ∃ j, 0 < j ∧ j ≤ s.length ∧ M p (s.drop j) = true := by
  obtain ⟨h1, h2⟩ := Bool.and_eq_true_iff.mp hb
  obtain ⟨n, hs, hn, hy⟩ := h.inv h1
  cases rest with
  | nil => simp [back] at h2
  | cons c r =>
    obtain ⟨k, hk, hm⟩ := (star_iff again r).mp h2
    obtain ⟨h3, h4⟩ := hy _ hm
    rw [List.length_drop] at h3
    rw [List.drop_drop] at h4
    have hl : s.length = r.length + 1 - n := by rw [hs, List.length_drop]; rfl
    refine ⟨1 + k, by omega, by omega, ?_⟩
    rw [hs, List.drop_drop, show n + (1 + k) = (k + n) + 1 by omega, List.drop_succ_cons]
    exact h4

theorem Kept.star {p0 s0 p s again rest : List UInt8} {star : Bool} (h : Kept p0 s0 (42 :: p) s again rest star) : Kept p0 s0 p s p s true := by
  refine ⟨?_, fun _ => ⟨0, rfl, Nat.zero_le _, fun y hy => ⟨Nat.zero_le _, hy⟩⟩⟩
  rw [h.val, Bool.true_and, ← M_star]
  cases hb : (star && back again rest) with
  | false => simp
  | true =>
    obtain ⟨j, _, hj, hm⟩ := h.old hb
    rw [star_drop p s j hj hm]; rfl

theorem Kept.ended {p0 s0 p again rest : List UInt8} {star : Bool} (h : Kept p0 s0 p [] again rest star) (hp : p.head? ≠ some 42) : M p0 s0 = p.isEmpty := by
  rw [h.val]
  have hb : (star && back again rest) = false := by
    cases hb : (star && back again rest) with
    | false => rfl
    | true => obtain ⟨j, h0, hj, _⟩ := h.old hb; simp at hj; omega
  rw [hb, Bool.or_false]
  cases p with
  | nil => rw [M_nil]
  | cons x r => rw [M_one_nil x r (by simpa using hp)]; rfl

theorem Kept.step {p0 s0 again rest : List UInt8} {x : UInt8} {r : List UInt8} {c : UInt8} {s : List UInt8} {star : Bool} (h : Kept p0 s0 (x :: r) (c :: s) again rest star) (hx : x ≠ 42) (ho : oneB (x :: r) c = true) :
    Kept p0 s0 ((x :: r).drop (oneK (x :: r))) s again rest star := by
  refine ⟨?_, fun hst => ?_⟩
  · rw [h.val, M_one x r hx, ho, Bool.true_and]
  · obtain ⟨n, hs, hn, hy⟩ := h.inv hst
    have hd : s = rest.drop (n + 1) := by
      have := congrArg List.tail hs
      rw [List.tail_drop] at this; exact this
    have hl : n < rest.length := by
      rcases Nat.lt_or_ge n rest.length with h' | h'
      · exact h'
      · rw [List.drop_eq_nil_of_le h'] at hs; simp at hs
    refine ⟨n + 1, hd, hl, fun y hm => ?_⟩
    obtain ⟨h1, h2⟩ := hy y hm
    cases hz : y.drop n with
    | nil => rw [hz, M_one_nil x r hx] at h2; simp at h2
    | cons d z =>
      rw [hz, M_one x r hx, Bool.and_eq_true] at h2
      have hlen : n < y.length := by
        rcases Nat.lt_or_ge n y.length with h' | h'
        · exact h'
        · rw [List.drop_eq_nil_of_le h'] at hz; simp at hz
      refine ⟨hlen, ?_⟩
      have hz' : y.drop (n + 1) = z := by
        have := congrArg List.tail hz
        rw [List.tail_drop] at this; exact this
      rw [hz']; exact h2.2

/-- the pattern does not go on here -/
theorem miss {p : List UInt8} {c : UInt8} {s : List UInt8} (hp : p = [] ∨ ∃ x r, p = x :: r ∧ x ≠ 42 ∧ oneB p c = false) : M p (c :: s) = false := by
  rcases hp with rfl | ⟨x, r, rfl, hx, ho⟩
  · rw [M_nil]; rfl
  · rw [M_one x r hx, ho]; rfl

theorem Kept.none {p0 s0 p again rest : List UInt8} {c : UInt8} {s : List UInt8} {star : Bool} (h : Kept p0 s0 p (c :: s) again rest star) (hp : p = [] ∨ ∃ x r, p = x :: r ∧ x ≠ 42 ∧ oneB p c = false)
    (hn : star = false ∨ rest = []) : M p0 s0 = false := by
  rw [h.val, miss hp, Bool.false_or]
  rcases hn with rfl | rfl
  · rfl
  · simp [back]

theorem Kept.again {p0 s0 p ag : List UInt8} {c : UInt8} {s : List UInt8} {d : UInt8} {r : List UInt8} (h : Kept p0 s0 p (c :: s) ag (d :: r) true) (hp : p = [] ∨ ∃ x r, p = x :: r ∧ x ≠ 42 ∧ oneB p c = false) :
    Kept p0 s0 ag r ag r true := by
  refine ⟨?_, fun _ => ⟨0, rfl, Nat.zero_le _, fun y hy => ⟨Nat.zero_le _, hy⟩⟩⟩
  rw [h.val, miss hp, Bool.false_or, Bool.true_and, Bool.true_and, ← M_star]; rfl

/-- how much is left to do -/
def left (L : Nat) (p s rest : Nat) (star : Bool) (s0 : Nat) : Nat := (if star then rest else s0 + 1) * (L + 1) + (p + s)
theorem left_step {L p s rest s0 p' s' : Nat} {star : Bool} (h : p' + s' < p + s) : left L p' s' rest star s0 < left L p s rest star s0 := by
  unfold left; omega
theorem left_star {L p s rest s0 : Nat} {star : Bool} (h : s ≤ if star then rest else s0 + 1) : left L p s s true s0 < left L (p + 1) s rest star s0 := by
  unfold left
  have := Nat.mul_le_mul_right (L + 1) h
  simp only [if_true]
  omega
theorem left_back {L p s rest s0 p' s' : Nat} (h : p' + s' ≤ L) : left L p' s' rest true s0 < left L p s (rest + 1) true s0 := by
  unfold left
  simp only [if_true, Nat.add_mul]
  omega
end Go.Proofs.Ytcailjmcjgpfmaa.GP
