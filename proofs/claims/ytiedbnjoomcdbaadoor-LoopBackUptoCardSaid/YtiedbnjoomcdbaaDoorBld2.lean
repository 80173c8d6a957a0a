/- A Builder stays what it is behind a call that turns nothing that stands. -/
import Derived.Test.YtiedbnjoomcdbaaDoorBld
import Derived.Test.YtiedbnjoomcdbaaDoorWWords
import Derived.Below
namespace Go.Proofs.YtiedbnjoomcdbaaDoor
open Go.RowKit

theorem Bld.below {B b : Nat} {l : List UInt8} {w w' : World} (h : Bld B b l w) (hb : Below w.heap.size w w') : Bld B b l w' := by
  rcases h with h | h
  · have hlt := Lib.BuilderAt.lt h
    obtain ⟨hB, v, hk, ho, hne⟩ := h
    exact .inl ⟨hB, v, (hb.block b hlt).trans hk, Go.Proofs.YtiedbnjoomcdbaaDoorW.PrintWords.pw_own_below ho hb, hne⟩
  · have hlt := Lib.BuilderAt.lt h
    obtain ⟨hB, v, hk, ho, hne⟩ := h
    exact .inr ⟨hB, v, (hb.block b hlt).trans hk, Go.Proofs.YtiedbnjoomcdbaaDoorW.PrintWords.pw_own_below ho hb, hne⟩
end Go.Proofs.YtiedbnjoomcdbaaDoor
