/- Plain functions for words: what the program computes, on lists of bytes. -/
import Derived.Lib.Bytealg
namespace Go.Proofs.YtapfblaejmenlaaDoor.WP
open Go

/-- the rest of a text within double quotes: how many bytes till behind the closing one, and what they mean -/
def dq : List UInt8 → List UInt8 → Nat → Option (Nat × List UInt8)
  | [], _, _ => none
  | [c], acc, i => if c = 34 then some (i + 1, acc) else none
  | c :: x :: r, acc, i => if c = 34 then some (i + 1, acc) else if c = 92 then dq r (acc ++ [x]) (i + 2) else dq (x :: r) (acc ++ [c]) (i + 1)

/-- the quotes or the stroke that begin a text -/
def spanL : List UInt8 → Option (Nat × List UInt8)
  | [] => none
  | c :: r =>
    if c = 92 then (match r with | [] => none | x :: _ => some (2, [x]))
    else if c = 39 then (if Lib.indexByte r 39 < 0 then none else some ((Lib.indexByte r 39).toNat + 2, r.take (Lib.indexByte r 39).toNat))
    else if c = 34 then dq r [] 1
    else some (1, [c])

def spanV : Option (Nat × List UInt8) → Value
  | none => .tuple #[.int .i64 0, .string ⟨#[]⟩, .bool false]
  | some (n, m) => .tuple #[.int .i64 n, .string ⟨m.toArray⟩, .bool true]
end Go.Proofs.YtapfblaejmenlaaDoor.WP
