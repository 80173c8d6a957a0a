/- A slice of structs (a string, an int, a bool) among a row's arguments, opened as one list, with its bulk. -/
import Derived.Deep.Strs
import Derived.Deep.Slices
import Derived.ChangeArms
import Derived.DataReads
import Derived.ProofKit
import Derived.SizedLaws
import Derived.Below
import Derived.Test.YtiedbnjoomcdbaaDoorBulk
import Derived.Test.YtiedbnjoomcdbaaDoorWMore
namespace Go.Proofs.YtiedbnjoomcdbaaDoor.Ba
open Go.ChangeShapes Go.WideShapes Go.ChangeAt Go.RowKit Go.Proofs.YtiedbnjoomcdbaaDoorW.PrintWords Go.Proofs.YtiedbnjoomcdbaaDoorW.PrintLast

/-- what a walk may use of a slice of such structs -/
def LineRow (W : World) (A : Option Addr) (cap : Nat) (ls : List (ByteArray × Int × Bool)) : Prop :=
  ls.length ≤ cap ∧ ls.length ≤ 9223372036854775807 ∧ (0 < ls.length → ∃ ad, A = some ad ∧ ∀ j x, ls[j]? = some x →
    W.cell? (ad.add (j * 3)) = some (.string x.1) ∧ W.cell? (ad.add (j * 3 + 1)) = some (.int .i64 x.2.1) ∧ W.cell? (ad.add (j * 3 + 2)) = some (.bool x.2.2))
def lineD {H : Type} (x : ByteArray × Int × Bool) : DataW H := .agg [.lit (.string x.1.data.toList), .lit (.int .i64 x.2.1), .lit (.bool x.2.2)]
def totL (l : List (ByteArray × Int × Bool)) : Nat := (l.map fun s => s.1.size + 4).sum
theorem bulk_line {H : Type} (x : ByteArray × Int × Bool) : Rows.uptoBulk (lineD (H := H) x) = x.1.size + 4 := by
  simp only [lineD, Rows.uptoBulk, Rows.uptoBulkAll, Array.length_toList]
  have : x.1.data.size = x.1.size := rfl
  omega
theorem bulk_lines {H : Type} : ∀ l : List (ByteArray × Int × Bool), Rows.uptoBulkAll (l.map (lineD (H := H))) = totL l
  | [] => rfl
  | s :: l => by
    have ih := bulk_lines (H := H) l
    simp only [List.map_cons, Rows.uptoBulkAll]
    rw [ih, bulk_line]
    simp only [totL, List.map_cons, List.sum_cons]

theorem open_lines_bulk {H : Type} {enc : TypeId × Value → H} {P : Program} {W : World} {t e : TypeId} {base : Nat} {v : Value} {d : DataW H} {p : List MemPlace} {f0 f1 f2 : Field}
    (ht : P.underlying t = some (.slice e)) (he : P.underlying e = some (.struct #[f0, f1, f2])) (hc : P.cellsOf e = 3)
    (h0 : P.underlying f0.type = some .string) (h1 : P.underlying f1.type = some (.int .i64)) (h2 : P.underlying f2.type = some .bool)
    (c0 : P.cellsOf f0.type = 1) (c1 : P.cellsOf f1.type = 1) (c2 : P.cellsOf f2.type = 1) (o0 : f0.offset = 0) (o1 : f1.offset = 1) (o2 : f2.offset = 2)
    (hok : Value.okWide P W .any base t v) (h : DataW.Trod enc P W 0 (fun _ => true) true t v d p) :
    ∃ A cap ls, v = .slice A ls.length cap ∧ LineRow W A cap ls ∧ totL ls ≤ Rows.uptoBulk d := by
  obtain ⟨a0, len, cap, rfl⟩ := okWide_slice ht hok
  obtain ⟨fuel, hf⟩ := h
  rcases Go.Deep.open_slice ht hf with ⟨hcs, hx⟩ | ⟨a, len', cap', m, n, D, Pl, hcs, _, hl, hmx, hm, hx, hel⟩
  · simp [Value.cells] at hcs
    obtain ⟨rfl, rfl, rfl⟩ := hcs
    exact ⟨none, 0, [], rfl, ⟨by simp, by simp, fun h => absurd h (Nat.lt_irrefl 0)⟩, by simp [totL]⟩
  · simp [Value.cells] at hcs
    obtain ⟨rfl, rfl, rfl⟩ := hcs
    simp only [Prod.mk.injEq] at hx
    obtain ⟨rfl, rfl⟩ := hx
    simp only [if_true] at hm
    have hall : ∀ i, i < len → ∃ x : ByteArray × Int × Bool, (W.cell? (a.add (i * 3)) = some (.string x.1) ∧ W.cell? (a.add (i * 3 + 1)) = some (.int .i64 x.2.1) ∧ W.cell? (a.add (i * 3 + 2)) = some (.bool x.2.2)) ∧ D i = lineD x := by
      intro i hi
      obtain ⟨cs', hcs', ht'⟩ := hel i (by omega)
      obtain ⟨y0, y1, y2, k, hD, hlen, e0, e1, e2⟩ := Go.Deep.trod_struct3 he ht'
      rw [c0, o0] at e0
      rw [c1, o1] at e1
      rw [c2, o2] at e2
      obtain ⟨s, q0, rfl, _⟩ := DataW.trod_string h0 e0
      obtain ⟨z, q1, rfl, _⟩ := DataW.trod_int h1 e1
      obtain ⟨b, q2, rfl⟩ := DataW.trod_bool h2 e2
      rw [hc] at hlen hcs'
      match cs', hlen with
      | [u0, u1, u2], _ =>
        simp at q0 q1 q2
        subst q0; subst q1; subst q2
        obtain ⟨_, _, hcell⟩ := World.cells?_some hcs'
        simp only [Prod.mk.injEq] at hD
        refine ⟨(s, z, b), ⟨?_, ?_, ?_⟩, hD.1⟩
        · have := hcell 0 (by omega)
          rw [Go.Deep.add_add] at this; simpa using this
        · have := hcell 1 (by omega)
          rw [Go.Deep.add_add] at this; simpa using this
        · have := hcell 2 (by omega)
          rw [Go.Deep.add_add] at this; simpa using this
    haveI : Inhabited (ByteArray × Int × Bool) := ⟨(ByteArray.empty, 0, false)⟩
    obtain ⟨B, hB⟩ := Go.Deep.choose_lt hall
    have hlen : ((List.range len).map B).length = len := by simp
    have hmax : (maxLen : Nat) = 9223372036854775807 := by decide
    refine ⟨some a, cap, (List.range len).map B, by rw [hlen], ⟨by rw [hlen]; exact hl, by rw [hlen]; omega, fun _ => ⟨a, rfl, fun j x hj => ?_⟩⟩, ?_⟩
    · simp only [List.getElem?_map, Option.map_eq_some_iff] at hj
      obtain ⟨i, hi, rfl⟩ := hj
      obtain ⟨hlt, rfl⟩ := List.getElem?_eq_some_iff.1 hi
      simp only [List.getElem_range]
      rw [List.length_range] at hlt
      exact (hB j hlt).1
    · have e : (List.range len).map D = ((List.range len).map B).map (lineD (H := H)) := by
        rw [List.map_map]
        exact List.map_congr_left fun i hi => (hB i (List.mem_range.1 hi)).2
      simp only [Rows.uptoBulk]
      rw [e, bulk_lines]; omega
end Go.Proofs.YtiedbnjoomcdbaaDoor.Ba
