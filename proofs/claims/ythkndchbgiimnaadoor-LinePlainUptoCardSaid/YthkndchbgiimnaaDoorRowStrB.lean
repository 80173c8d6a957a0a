/- A slice of strings among a row's arguments, with its bulk. -/
import Derived.Test.YthkndchbgiimnaaDoorRowStr
import Derived.Test.YthkndchbgiimnaaDoorBulk
namespace Go.Proofs.YthkndchbgiimnaaDoor.Ba
open Go.ChangeShapes Go.WideShapes Go.ChangeAt Go.RowKit Go.Proofs.YthkndchbgiimnaaDoorW.PrintWords Go.Proofs.YthkndchbgiimnaaDoorW.PrintLast

def totS (l : List ByteArray) : Nat := (l.map fun s => s.size + 1).sum
theorem bulk_strs {H : Type} : ∀ l : List ByteArray, Rows.uptoBulkAll (strs (H := H) l) = totS l
  | [] => rfl
  | s :: l => by
    have ih := bulk_strs (H := H) l
    have e : strs (H := H) (s :: l) = .lit (.string s.data.toList) :: strs l := rfl
    rw [e]
    simp only [Rows.uptoBulkAll]
    rw [ih, bulks.string_eq]
    simp only [totS, List.map_cons, List.sum_cons]
    rw [Array.length_toList]; rfl
theorem open_strs_bulk {H : Type} {enc : TypeId × Value → H} {P : Program} {W : World} {t e : TypeId} {base j : Nat} {v : Value} {d : DataW H} {p : List MemPlace} {ts : List TypeId} {ds : List (DataW H)}
    (hsz : (DataW.weightsEach P ts ds).all (· ≤ reachBytes) = true) (hj : ts[j]? = some t) (hd : ds[j]? = some d)
    (ht : P.underlying t = some (.slice e)) (he : P.underlying e = some .string) (hc : P.cellsOf e = 1) (hb : P.bytesOf e = 16) (hok : Value.okWide P W .any base t v) (h : DataW.Trod enc P W 0 (fun _ => true) true t v d p) :
    ∃ A cap ss, v = .slice A ss.length cap ∧ StrRow W A cap ss ∧ totS ss ≤ Rows.uptoBulk d := by
  obtain ⟨a0, len, cap, rfl⟩ := okWide_slice ht hok
  obtain ⟨fuel, hf⟩ := h
  rcases open_strings ht he hc hf with ⟨hcs, hx⟩ | ⟨a, len', cap', ss, hcs, _, hl, hm, hz, hx, hcell, hws⟩
  · simp [Value.cells] at hcs
    obtain ⟨rfl, rfl, rfl⟩ := hcs
    exact ⟨none, 0, [], rfl, ⟨⟨rfl, by simp, fun h => absurd h (Nat.lt_irrefl 0)⟩, by simp, by simp, by simp⟩, by simp [totS]⟩
  · simp [Value.cells] at hcs
    obtain ⟨rfl, rfl, rfl⟩ := hcs
    simp only [Prod.mk.injEq] at hx
    obtain ⟨rfl, rfl⟩ := hx
    simp only [if_true] at hz
    have hreach := sized_slice hsz (j := j) (t := t) (e := e) hj hd ht
    rw [hb] at hreach
    simp only [strs, List.length_map, List.length_take, List.length_drop, reachBytes] at hreach
    have hlen : (ss.take len).length = len := by rw [List.length_take]; omega
    refine ⟨some a, cap, ss.take len, by rw [hlen], ⟨⟨rfl, ?_, fun _ => ⟨a, rfl, fun i hi => ?_⟩⟩, by omega, by omega, fun s hs => hws s (List.mem_of_mem_take hs)⟩, ?_⟩
    · have : (maxLen : Nat) = 9223372036854775807 := by decide
      rw [hlen]; omega
    · rw [hlen] at hi
      rw [hcell i (by omega)]
      simp only [List.getD_eq_getElem?_getD, List.getElem?_take, if_pos hi]
    · simp only [Rows.uptoBulk]
      rw [bulk_strs]; omega
end Go.Proofs.YthkndchbgiimnaaDoor.Ba
