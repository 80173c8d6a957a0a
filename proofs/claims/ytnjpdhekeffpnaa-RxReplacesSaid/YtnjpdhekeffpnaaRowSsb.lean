/- A struct of two strings and a bool among a row's arguments, opened. -/
import Derived.Lib.SmallJoins
import Derived.Deep.Strs
import Derived.ChangeArms
import Derived.DataReads
import Derived.ProofKit
namespace Go.Proofs.Ytnjpdhekeffpnaa.Ba
open Go.ChangeShapes Go.WideShapes Go.ChangeAt Go.RowKit
theorem open_ssb {H : Type} {enc : TypeId × Value → H} {P : Program} {W : World} {e : TypeId} {base : Nat} {v : Value} {d : DataW H} {p : List MemPlace} {f0 f1 f2 : Field}
    (he : P.underlying e = some (.struct #[f0, f1, f2])) (hone : Go.Deep.oneCellFields P #[f0, f1, f2] = true) (hc : P.cellsOf e = 3)
    (h0 : P.underlying f0.type = some .string) (h1 : P.underlying f1.type = some .string) (h2 : P.underlying f2.type = some .bool)
    (hok : Value.okWide P W .any base e v) (h : DataW.Trod enc P W 0 (fun _ => true) true e v d p) :
    ∃ (s u : ByteArray) (b : Bool), v = .agg #[.string s, .string u, .bool b] := by
  obtain ⟨v0, v1, v2, y0, y1, y2, n, rfl, rfl, rfl, e0, e1, e2⟩ := Go.Joins.open_agg3 he hone hc hok h
  obtain ⟨s, q0, rfl, _⟩ := DataW.trod_string h0 e0
  obtain ⟨u, q1, rfl, _⟩ := DataW.trod_string h1 e1
  obtain ⟨b, q2, rfl⟩ := DataW.trod_bool h2 e2
  simp at q0 q1 q2
  subst q0; subst q1; subst q2
  exact ⟨s, u, b, rfl⟩
end Go.Proofs.Ytnjpdhekeffpnaa.Ba
