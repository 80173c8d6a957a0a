/- A slice of bools among a row's arguments, opened as one list. -/
import Derived.Deep.Grids
import Derived.ProofKit
import Derived.SizedLaws
import Derived.Below
import Derived.Test.YthkndchbgiimnaaDoorWMore
namespace Go.Proofs.YthkndchbgiimnaaDoor.Ba
open Go.ChangeShapes Go.WideShapes Go.ChangeAt Go.RowKit Go.Proofs.YthkndchbgiimnaaDoorW.PrintWords Go.Proofs.YthkndchbgiimnaaDoorW.PrintLast

/-- what a walk may use of a slice of bools -/
def BoolRow (W : World) (A : Option Addr) (cap : Nat) (bs : List Bool) : Prop := ReadsOf Value.bool false W A bs.length bs ∧ bs.length ≤ cap

theorem open_bools_row {H : Type} {enc : TypeId × Value → H} {P : Program} {W : World} {t e : TypeId} {base : Nat} {v : Value} {d : DataW H} {p : List MemPlace}
    (ht : P.underlying t = some (.slice e)) (he : P.underlying e = some .bool) (hc : P.cellsOf e = 1) (hok : Value.okWide P W .any base t v) (h : DataW.Trod enc P W 0 (fun _ => true) true t v d p) :
    ∃ A cap bs, v = .slice A bs.length cap ∧ BoolRow W A cap bs := by
  obtain ⟨a0, len, cap, rfl⟩ := okWide_slice ht hok
  obtain ⟨fuel, hf⟩ := h
  rcases Go.Deep.open_bools ht he hc hf with ⟨hcs, hx⟩ | ⟨a, len', cap', B, hcs, _, hl, hm, hx, hcell⟩
  · simp [Value.cells] at hcs
    obtain ⟨rfl, rfl, rfl⟩ := hcs
    exact ⟨none, 0, [], rfl, ⟨rfl, by simp, fun h => absurd h (Nat.lt_irrefl 0)⟩, by simp⟩
  · simp [Value.cells] at hcs
    obtain ⟨rfl, rfl, rfl⟩ := hcs
    have hlen : ((List.range len).map B).length = len := by simp
    refine ⟨some a, cap, (List.range len).map B, by rw [hlen], ⟨rfl, ?_, fun _ => ⟨a, rfl, fun i hi => ?_⟩⟩, by rw [hlen]; exact hl⟩
    · have : (maxLen : Nat) = 9223372036854775807 := by decide
      rw [hlen]; omega
    · rw [hlen] at hi
      rw [hcell i (by omega)]
      simp [List.getD_eq_getElem?_getD, hi]
end Go.Proofs.YthkndchbgiimnaaDoor.Ba
