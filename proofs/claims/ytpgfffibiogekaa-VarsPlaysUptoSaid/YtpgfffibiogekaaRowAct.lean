/- A slice of structs (a byte, an int, two strings) among a row's arguments, opened as one list, with its bulk. -/
import Derived.Lib.SmallJoins
import Derived.Deep.Strs
import Derived.Deep.Slices
import Derived.ChangeArms
import Derived.DataReads
import Derived.ProofKit
import Derived.SizedLaws
import Derived.Below
import Derived.Test.YtpgfffibiogekaaBulk
import Derived.Test.YtpgfffibiogekaaWMore
import Derived.Test.YtpgfffibiogekaaVarD
namespace Go.Proofs.Ytpgfffibiogekaa.Ba
open Go.ChangeShapes Go.WideShapes Go.ChangeAt Go.RowKit Go.Proofs.YtpgfffibiogekaaW.PrintWords Go.Proofs.YtpgfffibiogekaaW.PrintLast

/-- what a walk may use of a slice of calls -/
def ActRow (W : World) (A : Option Addr) (cap : Nat) (ls : List MS.Ac) : Prop :=
  ls.length ≤ cap ∧ ls.length ≤ 9223372036854775807 ∧ (0 < ls.length → ∃ ad, A = some ad ∧ ∀ j x, ls[j]? = some x →
    W.cell? (ad.add (j * 4)) = some (.int .u8 x.k) ∧ W.cell? (ad.add (j * 4 + 1)) = some (.int .i64 x.z) ∧ W.cell? (ad.add (j * 4 + 2)) = some (.string x.s) ∧ W.cell? (ad.add (j * 4 + 3)) = some (.string x.v))
def actD {H : Type} (x : MS.Ac) : DataW H := .agg [.lit (.int .u8 x.k), .lit (.int .i64 x.z), .lit (.string x.s.data.toList), .lit (.string x.v.data.toList)]
def totA (l : List MS.Ac) : Nat := (l.map fun a => a.s.size + a.v.size + 5).sum
theorem bulk_act {H : Type} (x : MS.Ac) : Rows.uptoBulk (actD (H := H) x) = x.s.size + x.v.size + 5 := by
  simp only [actD, Rows.uptoBulk, Rows.uptoBulkAll, Array.length_toList]
  have : x.s.data.size = x.s.size := rfl
  have : x.v.data.size = x.v.size := rfl
  omega
theorem bulk_acts {H : Type} : ∀ l : List MS.Ac, Rows.uptoBulkAll (l.map (actD (H := H))) = totA l
  | [] => rfl
  | s :: l => by
    have ih := bulk_acts (H := H) l
    simp only [List.map_cons, Rows.uptoBulkAll]
    rw [ih, bulk_act]
    simp only [totA, List.map_cons, List.sum_cons]
theorem tot_mem {l : List MS.Ac} {x : MS.Ac} (h : x ∈ l) : x.s.size + x.v.size ≤ totA l := by
  induction l with
  | nil => cases h
  | cons a l ih =>
    have e : totA (a :: l) = a.s.size + a.v.size + 5 + totA l := by simp only [totA, List.map_cons, List.sum_cons]
    rcases List.mem_cons.1 h with r | r
    · subst r; omega
    · have := ih r; omega

theorem open_acts_bulk {H : Type} {enc : TypeId × Value → H} {P : Program} {W : World} {t e : TypeId} {base : Nat} {v : Value} {d : DataW H} {p : List MemPlace} {f0 f1 f2 f3 : Field}
    (ht : P.underlying t = some (.slice e)) (he : P.underlying e = some (.struct #[f0, f1, f2, f3])) (hc : P.cellsOf e = 4)
    (h0 : P.underlying f0.type = some (.int .u8)) (h1 : P.underlying f1.type = some (.int .i64)) (h2 : P.underlying f2.type = some .string) (h3 : P.underlying f3.type = some .string)
    (c0 : P.cellsOf f0.type = 1) (c1 : P.cellsOf f1.type = 1) (c2 : P.cellsOf f2.type = 1) (c3 : P.cellsOf f3.type = 1) (o0 : f0.offset = 0) (o1 : f1.offset = 1) (o2 : f2.offset = 2) (o3 : f3.offset = 3)
    (hok : Value.okWide P W .any base t v) (h : DataW.Trod enc P W 0 (fun _ => true) true t v d p) :
    ∃ A cap ls, v = .slice A ls.length cap ∧ ActRow W A cap ls ∧ (∀ x ∈ ls, 0 ≤ x.k ∧ x.k < 256) ∧ totA ls ≤ Rows.uptoBulk d := by
  obtain ⟨a0, len, cap, rfl⟩ := okWide_slice ht hok
  obtain ⟨fuel, hf⟩ := h
  rcases Go.Deep.open_slice ht hf with ⟨hcs, hx⟩ | ⟨a, len', cap', m, n, D, Pl, hcs, _, hl, hmx, hm, hx, hel⟩
  · simp [Value.cells] at hcs
    obtain ⟨rfl, rfl, rfl⟩ := hcs
    exact ⟨none, 0, [], rfl, ⟨by simp, by simp, fun h => absurd h (Nat.lt_irrefl 0)⟩, by simp, by simp [totA]⟩
  · simp [Value.cells] at hcs
    obtain ⟨rfl, rfl, rfl⟩ := hcs
    simp only [Prod.mk.injEq] at hx
    obtain ⟨rfl, rfl⟩ := hx
    simp only [if_true] at hm
    have hall : ∀ i, i < len → ∃ x : MS.Ac, ((W.cell? (a.add (i * 4)) = some (.int .u8 x.k) ∧ W.cell? (a.add (i * 4 + 1)) = some (.int .i64 x.z) ∧ W.cell? (a.add (i * 4 + 2)) = some (.string x.s) ∧ W.cell? (a.add (i * 4 + 3)) = some (.string x.v)) ∧ (0 ≤ x.k ∧ x.k < 256)) ∧ D i = actD x := by
      intro i hi
      obtain ⟨cs', hcs', ht'⟩ := hel i (by omega)
      obtain ⟨y0, y1, y2, y3, k, hD, hlen, e0, e1, e2, e3⟩ := Go.Joins.trod_struct4 he ht'
      rw [c0, o0] at e0
      rw [c1, o1] at e1
      rw [c2, o2] at e2
      rw [c3, o3] at e3
      obtain ⟨kk, q0, rfl, hwf⟩ := DataW.trod_int h0 e0
      obtain ⟨z, q1, rfl, _⟩ := DataW.trod_int h1 e1
      obtain ⟨s, q2, rfl, _⟩ := DataW.trod_string h2 e2
      obtain ⟨u, q3, rfl, _⟩ := DataW.trod_string h3 e3
      rw [hc] at hlen hcs'
      match cs', hlen with
      | [u0, u1, u2, u3], _ =>
        simp at q0 q1 q2 q3
        subst q0; subst q1; subst q2; subst q3
        obtain ⟨_, _, hcell⟩ := World.cells?_some hcs'
        simp only [Prod.mk.injEq] at hD
        refine ⟨⟨kk, z, s, u⟩, ⟨⟨?_, ?_, ?_, ?_⟩, ?_⟩, hD.1⟩
        · have := hcell 0 (by omega)
          rw [Go.Deep.add_add] at this; simpa using this
        · have := hcell 1 (by omega)
          rw [Go.Deep.add_add] at this; simpa using this
        · have := hcell 2 (by omega)
          rw [Go.Deep.add_add] at this; simpa using this
        · have := hcell 3 (by omega)
          rw [Go.Deep.add_add] at this; simpa using this
        · simp [Lit.wf] at hwf
          have h0 : IntKind.u8.min = 0 := by decide
          have h1 : IntKind.u8.max = 255 := by decide
          rw [h0, h1] at hwf
          show 0 ≤ kk ∧ kk < 256
          omega
    haveI : Inhabited MS.Ac := ⟨⟨0, 0, ByteArray.empty, ByteArray.empty⟩⟩
    obtain ⟨B, hB⟩ := Go.Deep.choose_lt hall
    have hlen : ((List.range len).map B).length = len := by simp
    have hmax : (maxLen : Nat) = 9223372036854775807 := by decide
    refine ⟨some a, cap, (List.range len).map B, by rw [hlen], ⟨by rw [hlen]; exact hl, by rw [hlen]; omega, fun _ => ⟨a, rfl, fun j x hj => ?_⟩⟩, ?_, ?_⟩
    · simp only [List.getElem?_map, Option.map_eq_some_iff] at hj
      obtain ⟨i, hi, rfl⟩ := hj
      obtain ⟨hlt, rfl⟩ := List.getElem?_eq_some_iff.1 hi
      simp only [List.getElem_range]
      rw [List.length_range] at hlt
      exact (hB j hlt).1.1
    · intro x hx
      obtain ⟨i, hi, rfl⟩ := List.mem_map.1 hx
      exact (hB i (List.mem_range.1 hi)).1.2
    · have e : (List.range len).map D = ((List.range len).map B).map (actD (H := H)) := by
        rw [List.map_map]
        exact List.map_congr_left fun i hi => (hB i (List.mem_range.1 hi)).2
      simp only [Rows.uptoBulk]
      rw [e, bulk_acts]; omega
theorem open_act_bulk {H : Type} {enc : TypeId × Value → H} {P : Program} {W : World} {e : TypeId} {base : Nat} {v : Value} {d : DataW H} {p : List MemPlace} {f0 f1 f2 f3 : Field}
    (he : P.underlying e = some (.struct #[f0, f1, f2, f3])) (hone : Go.Deep.oneCellFields P #[f0, f1, f2, f3] = true) (hc : P.cellsOf e = 4)
    (h0 : P.underlying f0.type = some (.int .u8)) (h1 : P.underlying f1.type = some (.int .i64)) (h2 : P.underlying f2.type = some .string) (h3 : P.underlying f3.type = some .string)
    (hok : Value.okWide P W .any base e v) (h : DataW.Trod enc P W 0 (fun _ => true) true e v d p) :
    ∃ a : MS.Ac, v = MS.actV a ∧ (0 ≤ a.k ∧ a.k < 256) ∧ a.s.size + a.v.size + 5 ≤ Rows.uptoBulk d := by
  obtain ⟨v0, v1, v2, v3, y0, y1, y2, y3, n, rfl, rfl, rfl, e0, e1, e2, e3⟩ := Go.Joins.open_agg4 he hone hc hok h
  obtain ⟨kk, q0, rfl, hwf⟩ := DataW.trod_int h0 e0
  obtain ⟨z, q1, rfl, _⟩ := DataW.trod_int h1 e1
  obtain ⟨s, q2, rfl, _⟩ := DataW.trod_string h2 e2
  obtain ⟨u, q3, rfl, _⟩ := DataW.trod_string h3 e3
  simp at q0 q1 q2 q3
  subst q0; subst q1; subst q2; subst q3
  refine ⟨⟨kk, z, s, u⟩, rfl, ?_, ?_⟩
  · simp [Lit.wf] at hwf
    have h0 : IntKind.u8.min = 0 := by decide
    have h1 : IntKind.u8.max = 255 := by decide
    rw [h0, h1] at hwf
    show 0 ≤ kk ∧ kk < 256
    omega
  · have := bulk_act (H := H) ⟨kk, z, s, u⟩
    unfold actD at this
    exact Nat.le_of_eq this.symm
end Go.Proofs.Ytpgfffibiogekaa.Ba
