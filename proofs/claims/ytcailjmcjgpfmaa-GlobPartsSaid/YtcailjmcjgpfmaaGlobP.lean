/- Plain functions for patterns of names: what the program's glob and the document's answer compute, on lists of bytes. -/
import Derived.Lib.Bytealg
import Derived.Lib.Strings
namespace Go.Proofs.Ytcailjmcjgpfmaa.GP
open Go

def neg (c : UInt8) : Bool := c == 33 || c == 94

/-- how many bytes the set has that begins a pattern; 0: there is none -/
def brk (p : List UInt8) : Nat :=
  let skip := if 1 < p.length ∧ neg (p.getD 1 0) = true then 3 else 2
  if p.length < skip then 0 else if Lib.indexByte (p.drop skip) 93 < 0 then 0 else skip + (Lib.indexByte (p.drop skip) 93).toNat + 1

/-- is a byte among the things of a set (without brackets and sign) -/
def among : List UInt8 → UInt8 → Bool
  | a :: d :: b :: l, c => if d == 45 then (decide (a ≤ c) && decide (c ≤ b)) || among l c else (a == c) || among (d :: b :: l) c
  | a :: l, c => (a == c) || among l c
  | [], _ => false

/-- a set with its brackets -/
def has (set : List UInt8) (c : UInt8) : Bool :=
  let s := (set.drop 1).take (set.length - 2)
  match s with
  | [] => false
  | x :: l => if neg x then !among l c else among (x :: l) c

end Go.Proofs.Ytcailjmcjgpfmaa.GP
