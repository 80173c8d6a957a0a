/- An expression that asks for no beginning and no end: what it matches in a stretch of a text: plain. -/
import Derived.Test.YtnjpdhekeffpnaaRxEj
set_option linter.unusedVariables false
set_option linter.unusedSimpArgs false
namespace Go.Proofs.Ytnjpdhekeffpnaa.Rx
open Go.RowKit Go.Proofs.YtnjpdhekeffpnaaW.PrintWords Go.Proofs.YtnjpdhekeffpnaaW.PrintLast Go.Proofs.YtnjpdhekeffpnaaW.PrintMore

/-- no beginning, no end is asked for -/
def Na : Re → Prop
  | .beg => False
  | .fin => False
  | .cat a b => Na a ∧ Na b
  | .alt a b => Na a ∧ Na b
  | .star a => Na a
  | .plus a => Na a
  | .opt a => Na a
  | _ => True
/-- no byte 94, no byte 36 -/
def NoA (p : ByteArray) : Prop := ∀ k : Nat, k < p.size → bt p (k : Int) ≠ 94 ∧ bt p (k : Int) ≠ 36
theorem thing_na {ge : Nat → BS → Re × BS} {p : ByteArray} (h : NoA p) (hg : ∀ a S, Na (ge a S).1) (S : BS) : Na (thingE ge p S).1 := by
  obtain ⟨c, hc⟩ : ∃ c, (peekB p S).getD 0 = c := ⟨_, rfl⟩
  have h2 : c ≠ 94 ∧ c ≠ 36 := by
    cases hp : peekB p S with
    | none => rw [hp] at hc; rw [← hc]; decide
    | some x =>
      obtain ⟨h1, _, h2⟩ := peek_lt hp
      rw [hp] at hc
      have hc : x = c := hc
      rw [← hc, h2]
      exact h _ h1
  unfold thingE
  rw [hc]
  dsimp only
  split
  · trivial
  · split
    · trivial
    · rw [if_neg h2.1, if_neg h2.2]
      split
      · trivial
      · split
        · exact hg _ _
        · split <;> trivial
theorem rep_na (p : ByteArray) (e : Re) (S : BS) (h : Na e) : Na (repE p e S).1 := by
  unfold repE
  split
  · exact h
  · split
    · exact h
    · split
      · exact h
      · split <;> exact h
theorem way_na {th : BS → Re × BS} (p : ByteArray) (ht : ∀ S, Na (th S).1) : ∀ (n : Nat) (e : Re) (S : BS), Na e → Na (wayLE th p n e S).1
  | 0, e, S, h => h
  | n + 1, e, S, h => by
    rw [wayLE]
    split
    · exact h
    · split
      · exact h
      · exact way_na p ht n _ _ ⟨h, rep_na p _ _ (ht S)⟩
theorem ways_na {th : BS → Re × BS} (p : ByteArray) (ht : ∀ S, Na (th S).1) : ∀ (n : Nat) (e : Re) (S : BS), Na e → Na (waysLE th p n e S).1
  | 0, e, S, h => h
  | n + 1, e, S, h => by
    rw [waysLE]
    split
    · exact ways_na p ht n _ _ ⟨h, way_na p ht _ _ _ trivial⟩
    · exact h
theorem waysF_na {th : BS → Re × BS} (p : ByteArray) (ht : ∀ S, Na (th S).1) (S : BS) : Na (waysFE th p S).1 := ways_na p ht _ _ _ (way_na p ht _ _ _ trivial)
theorem th_na (p : ByteArray) (h : NoA p) : ∀ (d : Nat) (S : BS), Na (thE p d S).1
  | 0, S => thing_na (ge := fun at_ S => (.eps, wrongB 4 at_ S)) h (fun _ _ => trivial) S
  | d + 1, S => thing_na (ge := grpFE (waysFE (thE p d) p) p) h (fun a S => waysF_na p (th_na p h d) S) S
theorem read_na (p : ByteArray) (h : NoA p) : Na (readE p).1 := waysF_na p (th_na p h 16) _
theorem bt_ext (s : ByteArray) (i k x : Nat) (h : i + x < k) (hk : k ≤ s.size) : bt (s.extract i k) (x : Int) = bt s ((i + x : Nat) : Int) := by
  rw [bt_lt _ _ (by rw [ByteArray.size_extract]; omega), bt_lt _ _ (by omega)]
  congr 2
  rw [ByteArray.getElem_extract]
/-- a match in a stretch is one of the text -/
theorem M_out (s : ByteArray) (i k : Nat) (hk : k ≤ s.size) : ∀ (e : Re) (x y : Nat), Na e → M (s.extract i k) e x y → M s e (i + x) (i + y)
  | .eps, x, y, _, h => by have h : x = y := h; rw [h]; rfl
  | .byte m, x, y, _, ⟨h1, h2, h3⟩ => by
    rw [ByteArray.size_extract] at h1
    rw [bt_ext s i k x (by omega) hk] at h2
    exact ⟨by omega, h2, by omega⟩
  | .beg, x, y, h, _ => h.elim
  | .fin, x, y, h, _ => h.elim
  | .cat a b, x, y, hn, ⟨z, h1, h2⟩ => ⟨i + z, M_out s i k hk a x z hn.1 h1, M_out s i k hk b z y hn.2 h2⟩
  | .alt a b, x, y, hn, h => h.imp (M_out s i k hk a x y hn.1) (M_out s i k hk b x y hn.2)
  | .star a, x, y, hn, h => by
    have h' : Star (M (s.extract i k) a) x y := h
    clear h
    show Star (M s a) _ _
    induction h' with
    | nil => exact .nil _
    | cons h1 _ ih => exact .cons (M_out s i k hk a _ _ hn h1) ih
  | .plus a, x, y, hn, ⟨z, h1, h⟩ => by
    refine ⟨i + z, M_out s i k hk a x z hn h1, ?_⟩
    clear h1
    induction h with
    | nil => exact .nil _
    | cons h1 _ ih => exact .cons (M_out s i k hk a _ _ hn h1) ih
  | .opt a, x, y, hn, h => h.imp (fun h => by rw [h]) (M_out s i k hk a x y hn)
/-- a match of the text is one in a stretch that holds it -/
theorem M_in (s : ByteArray) (i k : Nat) (hk : k ≤ s.size) : ∀ (e : Re) (x y : Nat), Na e → M s e (i + x) (i + y) → i + y ≤ k → M (s.extract i k) e x y
  | .eps, x, y, _, h, _ => by have h : i + x = i + y := h; show x = y; omega
  | .byte m, x, y, _, ⟨h1, h2, h3⟩, hy => by
    refine ⟨by rw [ByteArray.size_extract]; omega, ?_, by omega⟩
    rw [bt_ext s i k x (by omega) hk]
    exact h2
  | .beg, x, y, h, _, _ => h.elim
  | .fin, x, y, h, _, _ => h.elim
  | .cat a b, x, y, hn, ⟨z, h1, h2⟩, hy => by
    have g1 := M_le s a _ _ h1
    have g2 := M_le s b _ _ h2
    obtain ⟨z', rfl⟩ : ∃ z', z = i + z' := ⟨z - i, by omega⟩
    exact ⟨z', M_in s i k hk a x z' hn.1 h1 (by omega), M_in s i k hk b z' y hn.2 h2 hy⟩
  | .alt a b, x, y, hn, h, hy => h.imp (fun h => M_in s i k hk a x y hn.1 h hy) (fun h => M_in s i k hk b x y hn.2 h hy)
  | .star a, x, y, hn, h, hy => by
    have h' : Star (M s a) (i + x) (i + y) := h
    clear h
    show Star (M (s.extract i k) a) x y
    obtain ⟨u, hu⟩ : ∃ u, i + x = u := ⟨_, rfl⟩
    obtain ⟨v, hv⟩ : ∃ v, i + y = v := ⟨_, rfl⟩
    rw [hu, hv] at h'
    induction h' generalizing x with
    | nil u => rw [show x = y by omega]; exact .nil _
    | @cons u m v h1 h2 ih =>
      have g1 := M_le s a _ _ h1
      have g2 := Star.le (M_le s a) h2
      obtain ⟨z', rfl⟩ : ∃ z', m = i + z' := ⟨m - i, by omega⟩
      subst hu
      exact .cons (M_in s i k hk a x z' hn h1 (by omega)) (ih z' rfl hv)
  | .plus a, x, y, hn, ⟨z, h1, h⟩, hy => by
    have g1 := M_le s a _ _ h1
    have g2 := Star.le (M_le s a) h
    obtain ⟨z', rfl⟩ : ∃ z', z = i + z' := ⟨z - i, by omega⟩
    refine ⟨z', M_in s i k hk a x z' hn h1 (by omega), ?_⟩
    clear h1 g1 g2
    obtain ⟨u, hu⟩ : ∃ u, i + z' = u := ⟨_, rfl⟩
    obtain ⟨v, hv⟩ : ∃ v, i + y = v := ⟨_, rfl⟩
    rw [hu, hv] at h
    induction h generalizing z' with
    | nil u => rw [show z' = y by omega]; exact .nil _
    | @cons u m v h1 h2 ih =>
      have g1 := M_le s a _ _ h1
      have g2 := Star.le (M_le s a) h2
      obtain ⟨z', rfl⟩ : ∃ z', m = i + z' := ⟨m - i, by omega⟩
      subst hu
      exact .cons (M_in s i k hk a _ z' hn h1 (by omega)) (ih z' rfl hv)
  | .opt a, x, y, hn, h, hy => h.imp (fun h => by omega) (fun h => M_in s i k hk a x y hn h hy)
/-- Is of a stretch -/
theorem isP_ext (p s : ByteArray) (i k : Nat) (h : faultB p = none) (hp : NoA p) (hi : i ≤ k) (hk : k ≤ s.size) : isP (s.extract i k) (stepsB p) (firstB p) = true ↔ M s (readE p).1 i k := by
  rw [isP_M _ _ h]
  have hz : (s.extract i k).size = k - i := by rw [ByteArray.size_extract]; omega
  rw [hz]
  constructor
  · intro h1
    have := M_out s i k hk _ 0 (k - i) (read_na p hp) h1
    rwa [Nat.add_zero, show i + (k - i) = k by omega] at this
  · intro h1
    refine M_in s i k hk _ 0 (k - i) (read_na p hp) ?_ (by omega)
    rwa [Nat.add_zero, show i + (k - i) = k by omega]
theorem first_hit {s : ByteArray} {e : Re} {n i k : Nat} {R : Option (Nat × Int)} (h : FindS s e n R) (hn : n ≤ i) (hi : i ≤ s.size) (hm : M s e i k) (h1 : ∀ i' j : Nat, n ≤ i' → i' < i → ¬ M s e i' j) (h2 : ∀ j : Nat, k < j → ¬ M s e i j) : R = some (i, (k : Int)) := by
  cases R with
  | none => exact absurd hm (h i k hn hi)
  | some q =>
    obtain ⟨i', z⟩ := q
    obtain ⟨g1, g2, ⟨j, rfl, g3, g4⟩, g5⟩ := h
    rcases Nat.lt_trichotomy i i' with g | rfl | g
    · exact absurd hm (g5 i k hn g)
    · rcases Nat.lt_trichotomy j k with g | rfl | g
      · have := g4 k hm; omega
      · rfl
      · exact absurd g3 (h2 j g)
    · exact absurd g3 (h1 i' j g1 g)
theorem first_none {s : ByteArray} {e : Re} {n : Nat} {R : Option (Nat × Int)} (h : FindS s e n R) (h1 : ∀ i' j : Nat, n ≤ i' → i' ≤ s.size → ¬ M s e i' j) : R = none := by
  cases R with
  | none => rfl
  | some q =>
    obtain ⟨i', z⟩ := q
    obtain ⟨g1, g2, ⟨j, rfl, g3, g4⟩, g5⟩ := h
    exact absurd g3 (h1 i' j g1 g2)
theorem find_far (p s : ByteArray) (z : Int) (h : z < 0 ∨ (s.size : Int) < z) : findP s (stepsB p) (firstB p) z = none := by
  unfold findP
  split
  · rfl
  · rw [findL, if_pos (by omega)]
end Go.Proofs.Ytnjpdhekeffpnaa.Rx
