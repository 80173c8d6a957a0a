/- Plain laws of patterns: quoted texts, stars, sets. -/
import Derived.Test.YtcailjmcjgpfmaaGlobW5
set_option linter.unusedVariables false
namespace Go.Proofs.Ytcailjmcjgpfmaa.GP
open Go.RowKit Ba

/-- the same with fuel, to be reckoned -/
def Mf : Nat → List UInt8 → List UInt8 → Bool
  | 0, _, _ => false
  | n + 1, [], s => s.isEmpty
  | n + 1, x :: r, [] => if x == 42 then Mf n r [] else false
  | n + 1, x :: r, c :: s => if x == 42 then Mf n r (c :: s) || Mf n (x :: r) s else oneB (x :: r) c && Mf n ((x :: r).drop (oneK (x :: r))) s
theorem Mf_eq : ∀ (n : Nat) (p s : List UInt8), p.length + s.length < n → Mf n p s = M p s
  | 0, _, _, h => by omega
  | n + 1, [], s, _ => by rw [M_nil]; rfl
  | n + 1, x :: r, [], h => by
    simp only [List.length_cons, List.length_nil] at h
    unfold Mf
    by_cases e : x = 42
    · subst e; rw [M_star_nil, Mf_eq n r [] (by simp; omega)]; rfl
    · rw [M_one_nil x r e, if_neg (by simpa using e)]
  | n + 1, x :: r, c :: s, h => by
    simp only [List.length_cons] at h
    have hk := oneK_pos (x :: r)
    unfold Mf
    by_cases e : x = 42
    · subst e
      rw [M_star_cons, Mf_eq n r (c :: s) (by simp; omega), Mf_eq n (42 :: r) s (by simp; omega)]; rfl
    · rw [M_one x r e, if_neg (by simpa using e), Mf_eq n _ s (by rw [List.length_drop, List.length_cons]; omega)]
theorem M_val {p s : List UInt8} {b : Bool} (h : Mf (p.length + s.length + 1) p s = b) : M p s = b := by rw [← Mf_eq _ p s (Nat.lt_succ_self _), h]

def item (c : UInt8) : List UInt8 := if spec.contains c then [92, c] else [c]
theorem quote_cons (c : UInt8) (l : List UInt8) : quote (c :: l) = item c ++ quote l := by simp [quote, item]
theorem spec_not {c : UInt8} (h : ¬ spec.contains c = true) : c ≠ 42 ∧ c ≠ 63 ∧ c ≠ 91 ∧ c ≠ 92 := by
  refine ⟨?_, ?_, ?_, ?_⟩ <;> (rintro rfl; exact h (by decide))
theorem item_nil (c : UInt8) (p : List UInt8) : M (item c ++ p) [] = false := by
  unfold item
  split
  · exact M_one_nil 92 _ (by decide)
  · rename_i h
    exact M_one_nil c _ (spec_not h).1
theorem item_cons (c d : UInt8) (p t : List UInt8) : M (item c ++ p) (d :: t) = ((c == d) && M p t) := by
  unfold item
  split
  · rw [show [92, c] ++ p = 92 :: (c :: p) from rfl, M_one 92 _ (by decide)]
    rfl
  · rename_i h
    obtain ⟨h1, h2, h3, h4⟩ := spec_not h
    rw [show [c] ++ p = c :: p from rfl, M_one c _ h1]
    have hb : oneB (c :: p) d = (c == d) := by simp [oneB, h2, h3, h4]
    have hk : oneK (c :: p) = 1 := by simp [oneK, h3, h4]
    rw [hb, hk]; rfl
theorem quote_both : ∀ (s p t : List UInt8), M (quote s ++ p) (s ++ t) = M p t
  | [], p, t => rfl
  | c :: s, p, t => by
    rw [quote_cons, List.append_assoc, List.cons_append, item_cons, quote_both s p t]; simp
theorem quote_itself (s : List UInt8) : M (quote s) s = true := by
  have := quote_both s [] []
  rw [List.append_nil, List.append_nil, M_nil] at this; exact this
theorem quote_alone : ∀ (s t : List UInt8), M (quote s) t = (s == t)
  | [], [] => by rw [show quote [] = [] from rfl, M_nil]; rfl
  | [], d :: t => by rw [show quote [] = [] from rfl, M_nil]; rfl
  | c :: s, [] => by rw [quote_cons, item_nil]; rfl
  | c :: s, d :: t => by rw [quote_cons, item_cons, quote_alone s t]; rfl
theorem star_all (b : List UInt8) : M [42] b = true := (star_iff [] b).mpr ⟨b.length, Nat.le_refl _, by rw [List.drop_length, M_nil]; rfl⟩
theorem star_behind (c b : List UInt8) (p : List UInt8) (h : M p c = true) : M (42 :: p) (b ++ c) = true :=
  (star_iff p _).mpr ⟨b.length, by simp, by rw [List.drop_left]; exact h⟩
end Go.Proofs.Ytcailjmcjgpfmaa.GP
