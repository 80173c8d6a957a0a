/- Steps gone through, as plain functions: marks, the longest match, Find. -/
import Derived.Test.YtnjpdhekeffpnaaRxP
set_option linter.unusedVariables false
set_option linter.unusedSimpArgs false
namespace Go.Proofs.Ytnjpdhekeffpnaa.Rx
open Go.RowKit Go.Proofs.YtnjpdhekeffpnaaW.PrintWords Go.Proofs.YtnjpdhekeffpnaaW.PrintLast Go.Proofs.YtnjpdhekeffpnaaW.PrintMore

def stp (st : List Stp) (n : Nat) : Stp := st.getD n ⟨4, 0, 0, 0⟩
/-- all steps that are come to from step n, no byte taken, are marked -/
def walkP (st : List Stp) (b e : Bool) : Nat → List Bool → Nat → List Bool
  | 0, m, _ => m
  | k + 1, m, n =>
    if m.getD n true = true then m
    else if (stp st n).k = 1 then walkP st b e k (walkP st b e k (m.set n true) (stp st n).nx) (stp st n).ot
    else if (stp st n).k = 2 then (if b = true then walkP st b e k (m.set n true) (stp st n).nx else m.set n true)
    else if (stp st n).k = 3 then (if e = true then walkP st b e k (m.set n true) (stp st n).nx else m.set n true)
    else m.set n true
/-- how many are not marked -/
def free (m : List Bool) : Nat := m.countP (fun x => !x)
/-- steps that lead to steps -/
def WfS (st : List Stp) : Prop := ∀ x ∈ st, x.nx < st.length ∧ x.ot < st.length
theorem walkP_len (st : List Stp) (b e : Bool) : ∀ (k : Nat) (m : List Bool) (n : Nat), (walkP st b e k m n).length = m.length
  | 0, m, n => rfl
  | k + 1, m, n => by
    rw [walkP]
    split
    · rfl
    · split
      · rw [walkP_len, walkP_len, List.length_set]
      · split
        · split
          · rw [walkP_len, List.length_set]
          · rw [List.length_set]
        · split
          · split
            · rw [walkP_len, List.length_set]
            · rw [List.length_set]
          · rw [List.length_set]
theorem free_set (m : List Bool) (n : Nat) (h : m.getD n true = false) : free (m.set n true) + 1 = free m := by
  induction m generalizing n with
  | nil => simp at h
  | cons x m ih =>
    cases n with
    | zero =>
      have : x = false := by simpa using h
      subst this
      simp [free]
    | succ n =>
      have h' : m.getD n true = false := by simpa using h
      have := ih n h'
      unfold free at this ⊢
      rw [List.set_cons_succ, List.countP_cons, List.countP_cons]
      omega
theorem free_le (st : List Stp) (b e : Bool) : ∀ (k : Nat) (m : List Bool) (n : Nat), free (walkP st b e k m n) ≤ free m
  | 0, m, n => Nat.le_refl _
  | k + 1, m, n => by
    rw [walkP]
    split
    · exact Nat.le_refl _
    · rename_i h
      have h1 : free (m.set n true) ≤ free m := by
        have := free_set m n (by simpa using h)
        omega
      split
      · exact Nat.le_trans (free_le st b e k _ _) (Nat.le_trans (free_le st b e k _ _) h1)
      · split
        · split
          · exact Nat.le_trans (free_le st b e k _ _) h1
          · exact h1
        · split
          · split
            · exact Nat.le_trans (free_le st b e k _ _) h1
            · exact h1
          · exact h1
/-- one text's byte taken: the steps behind it -/
def stepL (s : ByteArray) (st : List Stp) (at_ : Nat) (marks : List Bool) : Nat → Nat → List Bool → Bool → Int → List Bool × Bool × Int
  | 0, _, next, some_, last => (next, some_, last)
  | k + 1, n, next, some_, last =>
    if n < marks.length then
      if marks.getD n false = false then stepL s st at_ marks k (n + 1) next some_ last
      else if (stp st n).k = 4 then stepL s st at_ marks k (n + 1) next some_ (at_ : Int)
      else if (stp st n).k = 0 ∧ at_ < s.size ∧ (stp st n).m.testBit (bt s at_).toNat = true then stepL s st at_ marks k (n + 1) (walkP st false (decide (at_ + 1 = s.size)) (st.length + 1) next (stp st n).nx) true last
      else stepL s st at_ marks k (n + 1) next some_ last
    else (next, some_, last)
/-- where the longest match ends, or -1 -/
def longL (s : ByteArray) (st : List Stp) : Nat → Nat → List Bool → Int → Int
  | 0, _, _, last => last
  | k + 1, at_, marks, last =>
    let r := stepL s st at_ marks (marks.length + 1) 0 (List.replicate st.length false) false last
    if r.2.1 = true then longL s st k (at_ + 1) r.1 r.2.2 else r.2.2
def longP (s : ByteArray) (st : List Stp) (first at_ : Nat) : Int :=
  longL s st (s.size + 2) at_ (walkP st (decide (at_ = 0)) (decide (at_ = s.size)) (st.length + 1) (List.replicate st.length false) first) (-1)
def findL (s : ByteArray) (st : List Stp) (first : Nat) : Nat → Nat → Option (Nat × Int)
  | 0, _ => none
  | k + 1, i => if s.size < i then none else if 0 ≤ longP s st first i then some (i, longP s st first i) else findL s st first k (i + 1)
def findP (s : ByteArray) (st : List Stp) (first : Nat) (from_ : Int) : Option (Nat × Int) := if from_ < 0 then none else findL s st first (s.size + 2) from_.toNat
def toS (s : String) : ByteArray := s.toUTF8
set_option maxRecDepth 100000 in
theorem alive1 : faultB ⟨#[97, 124, 97, 98]⟩ = none ∧ faultB ⟨#[98, 43]⟩ = none := by decide +kernel
set_option maxRecDepth 100000 in
theorem alive2 : findP ⟨#[120, 97, 98]⟩ (stepsB ⟨#[97, 124, 97, 98]⟩) (firstB ⟨#[97, 124, 97, 98]⟩) 0 = some (1, 3) := by decide +kernel
set_option maxRecDepth 100000 in
theorem alive3 : longP ⟨#[98, 98]⟩ (stepsB ⟨#[98, 43]⟩) (firstB ⟨#[98, 43]⟩) 0 = 2 := by decide +kernel
end Go.Proofs.Ytnjpdhekeffpnaa.Rx
