/- rule.Join as a plain function of lists. -/
import Derived.Test.YtapfblaejmenlaaDoorPKx0
set_option linter.unusedVariables false
namespace Go.Proofs.YtapfblaejmenlaaDoor.Rj

structure Rl where
  t : List ByteArray
  k : Int
  s : List ByteArray
  c : List ByteArray
  a : Int
/-- is a name one of no class? -/
def cls (t : ByteArray) : Bool := decide (PK.rule_Class.f t = some 0)
def one (r : Rl) (t : ByteArray) : Rl := ⟨[t], r.k, r.s, r.c, r.a⟩
def mrg (r y : Rl) : Rl := ⟨y.t, if r.k = 2 then 2 else y.k, y.s ++ r.s, y.c ++ r.c, y.a⟩
def find (out : List Rl) (t : ByteArray) : Option Nat := (out.map (·.t)).findIdx? (fun u => decide (u = [t]))
def nil : Rl := ⟨[], 0, [], [], 0⟩
def putJ (out : List Rl) (r : Rl) (t : ByteArray) : Option (List Rl) :=
  match find out t with
  | none => some (out ++ [one r t])
  | some i =>
    if r.k = 3 then (if (out.getD i nil).k = 3 then some (out ++ [one r t]) else none)
    else if (out.getD i nil).k = 3 then none
    else if 0 < r.c.length ∧ 0 < (out.getD i nil).c.length ∧ cls t = true then none
    else some (out.set i (mrg r (out.getD i nil)))
def rowJ (r : Rl) : List ByteArray → List Rl → Option (List Rl)
  | [], out => some out
  | t :: ts, out => (putJ out r t).bind fun o => rowJ r ts o
/-- the rules, joined; or the line of the fault -/
def joinJ : List Rl → List Rl → List Rl ⊕ Int
  | [], out => .inl out
  | r :: rs, out => match rowJ r r.t out with
    | none => .inr r.a
    | some o => joinJ rs o

/-! ### weights -/
def wO (out : List Rl) : Nat := (out.map fun y => 1 + y.s.length + y.c.length).sum
def w1 (r : Rl) : Nat := 1 + r.s.length + r.c.length
def wL (l : List Rl) : Nat := (l.map fun r => r.t.length * w1 r).sum
theorem wO_append (a b : List Rl) : wO (a ++ b) = wO a + wO b := by simp [wO]
theorem wO_at {out : List Rl} {i : Nat} (h : i < out.length) : 1 + (out.getD i nil).s.length + (out.getD i nil).c.length ≤ wO out := by
  induction out generalizing i with
  | nil => simp at h
  | cons y out ih =>
    cases i with
    | zero => simp [wO]
    | succ i =>
      have := ih (i := i) (by simpa using h)
      simp only [List.getD_cons_succ, wO, List.map_cons, List.sum_cons] at this ⊢
      omega
theorem wO_len (out : List Rl) : out.length ≤ wO out := by
  induction out with
  | nil => simp
  | cons y out ih => simp only [List.length_cons, wO, List.map_cons, List.sum_cons] at ih ⊢; omega
theorem wO_set {out : List Rl} {i : Nat} (h : i < out.length) (r : Rl) : wO (out.set i (mrg r (out.getD i nil))) + 1 = wO out + w1 r := by
  induction out generalizing i with
  | nil => simp at h
  | cons y out ih =>
    cases i with
    | zero => simp [wO, mrg, w1]; omega
    | succ i =>
      have := ih (i := i) (by simpa using h)
      simp only [List.getD_cons_succ, List.set_cons_succ, wO, List.map_cons, List.sum_cons] at this ⊢
      omega

/-! ### finding -/
theorem find_lt {out : List Rl} {t : ByteArray} {i : Nat} (h : find out t = some i) : i < out.length := by
  have := (List.findIdx?_eq_some_iff_findIdx_eq.1 h).1
  simpa using this
theorem find_is {out : List Rl} {t : ByteArray} {i : Nat} (h : find out t = some i) : (out.getD i nil).t = [t] := by
  have hl := find_lt h
  obtain ⟨hlt, hp, _⟩ := List.findIdx?_eq_some_iff_getElem.1 h
  simp only [List.getElem_map, decide_eq_true_eq] at hp
  rw [List.getD_eq_getElem?_getD, List.getElem?_eq_getElem hl]
  exact hp
theorem find_append (out : List Rl) (r : Rl) (t s : ByteArray) : find (out ++ [one r t]) s = (find out s).or (if s = t then some out.length else none) := by
  unfold find
  rw [List.map_append, List.findIdx?_append]
  congr 1
  by_cases h : s = t
  · subst h; simp [one]
  · have h2 : ¬ ([t] = [s]) := fun e => h (by simpa using e.symm)
    simp [one, h, h2]
theorem find_set {out : List Rl} {i : Nat} (h : i < out.length) (r : Rl) (s : ByteArray) : find (out.set i (mrg r (out.getD i nil))) s = find out s := by
  unfold find
  congr 1
  rw [List.map_set]
  have e : (mrg r (out.getD i nil)).t = (out.map (·.t))[i]'(by simpa using h) := by
    rw [List.getElem_map, mrg, List.getD_eq_getElem?_getD, List.getElem?_eq_getElem h]; rfl
  rw [e, List.set_getElem_self]
end Go.Proofs.YtapfblaejmenlaaDoor.Rj
