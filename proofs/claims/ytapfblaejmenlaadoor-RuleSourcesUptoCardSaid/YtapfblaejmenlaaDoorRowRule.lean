/- A slice of rules among a row's arguments, opened as one list, with its bulk. -/
import Derived.SliceStrings
import Derived.Deep.Strs
import Derived.Deep.Slices
import Derived.ChangeArms
import Derived.DataReads
import Derived.ProofKit
import Derived.SizedLaws
import Derived.Below
import Derived.Test.YtapfblaejmenlaaDoorBulk
import Derived.Test.YtapfblaejmenlaaDoorRjK
namespace Go.Proofs.YtapfblaejmenlaaDoor.Ba
open Go.ChangeShapes Go.WideShapes Go.ChangeAt Go.RowKit Go.Proofs.YtapfblaejmenlaaDoorW.PrintWords Go.Proofs.YtapfblaejmenlaaDoorW.PrintLast
open Go.Proofs.YtapfblaejmenlaaDoor.Rj (Rl kR)

def totT (l : List ByteArray) : Nat := (l.map fun s => s.size + 1).sum
theorem bulk_strs' {H : Type} : ∀ l : List ByteArray, Rows.uptoBulkAll (strs (H := H) l) = totT l
  | [] => rfl
  | s :: l => by
    have ih := bulk_strs' (H := H) l
    have e : strs (H := H) (s :: l) = .lit (.string s.data.toList) :: strs l := rfl
    rw [e]
    simp only [Rows.uptoBulkAll]
    rw [ih, bulks.string_eq]
    simp only [totT, List.map_cons, List.sum_cons]
    rw [Array.length_toList]; rfl
theorem strs_of {H : Type} {enc : TypeId × Value → H} {P : Program} {W : World} {t e : TypeId} {fuel : Nat} {cs : List Value} {x : DataW H × List MemPlace}
    (ht : P.underlying t = some (.slice e)) (he : P.underlying e = some .string) (hc : P.cellsOf e = 1) (h : DataW.trod enc P W 0 (fun _ => true) true fuel t cs = some x) :
    ∃ A cap ss, cs = [.slice A ss.length cap] ∧ ss.length ≤ cap ∧ Kd.string.C W A ss.length ss ∧ (∀ s ∈ ss, s.size ≤ maxLen) ∧ totT ss ≤ Rows.uptoBulk x.1 := by
  rcases open_strings ht he hc h with ⟨hcs, hx⟩ | ⟨a, len', cap', ss, hcs, _, hl, hm, hz, hx, hcell, hws⟩
  · subst hcs; subst hx
    exact ⟨none, 0, [], rfl, by simp, ⟨rfl, by simp, fun h => absurd h (Nat.lt_irrefl 0)⟩, by simp, by simp [totT]⟩
  · subst hcs; subst hx
    simp only [if_true] at hz
    have hlen : (ss.take len').length = len' := by rw [List.length_take]; omega
    have hmax : (maxLen : Nat) = 9223372036854775807 := by decide
    refine ⟨some a, cap', ss.take len', by rw [hlen], by omega, ⟨rfl, by rw [hlen]; omega, fun _ => ⟨a, rfl, fun j p hj => ⟨[.string p], rfl, rfl, fun i u hu => ?_⟩⟩⟩, fun s hs => hws s (List.mem_of_mem_take hs), ?_⟩
    · obtain ⟨hjl, hjp⟩ := List.getElem?_eq_some_iff.1 hj
      have hi : i = 0 := by
        have := (List.getElem?_eq_some_iff.1 hu).1
        simpa using this
      subst hi
      simp only [List.getElem?_cons_zero, Option.some.injEq] at hu
      subst hu
      have hjs : j < ss.length := by rw [hlen] at hjl; omega
      have := hcell j hjs
      rw [List.getElem_take] at hjp
      rw [List.getD_eq_getElem?_getD, List.getElem?_eq_getElem hjs, Option.getD_some, hjp] at this
      simpa [Kd.string, Kd.scalar] using this
    · simp only [Rows.uptoBulk]
      rw [bulk_strs']; omega
def wT (x : Rl) : Nat := totT x.t + totT x.s + totT x.c + 1
def totR (l : List Rl) : Nat := (l.map wT).sum
theorem bulk_ge {H : Type} (D : Nat → DataW H) (R : Nat → Rl) : ∀ (l : List Nat), (∀ i ∈ l, wT (R i) ≤ Rows.uptoBulk (D i)) → totR (l.map R) ≤ Rows.uptoBulkAll (l.map D)
  | [], _ => by simp [totR]
  | i :: l, h => by
    have ih := bulk_ge D R l (fun j hj => h j (List.mem_cons_of_mem _ hj))
    have h0 := h i List.mem_cons_self
    simp only [List.map_cons, totR, List.sum_cons, Rows.uptoBulkAll] at ih ⊢
    omega
theorem trod_struct5 {H : Type} {enc : TypeId × Value → H} {P : Program} {w : World} {base : Nat} {spare : Nat → Bool} {held : Bool} {t : TypeId} {f0 f1 f2 f3 f4 : Field} {fuel : Nat} {cs : List Value} {x : DataW H × List MemPlace} (ht : P.underlying t = some (.struct #[f0, f1, f2, f3, f4])) (h : DataW.trod enc P w base spare held fuel t cs = some x) :
    ∃ y0 y1 y2 y3 y4 n, x.1 = .agg [y0.1, y1.1, y2.1, y3.1, y4.1] ∧ cs.length = P.cellsOf t ∧ DataW.trod enc P w base spare held n f0.type ((cs.drop f0.offset).take (P.cellsOf f0.type)) = some y0 ∧
      DataW.trod enc P w base spare held n f1.type ((cs.drop f1.offset).take (P.cellsOf f1.type)) = some y1 ∧ DataW.trod enc P w base spare held n f2.type ((cs.drop f2.offset).take (P.cellsOf f2.type)) = some y2 ∧
      DataW.trod enc P w base spare held n f3.type ((cs.drop f3.offset).take (P.cellsOf f3.type)) = some y3 ∧ DataW.trod enc P w base spare held n f4.type ((cs.drop f4.offset).take (P.cellsOf f4.type)) = some y4 := by
  obtain ⟨xs, n, _, rfl, hl, hlen, hf⟩ := DataW.trod_struct ht h
  match xs, hlen with
  | [y0, y1, y2, y3, y4], _ => exact ⟨y0, y1, y2, y3, y4, n, by simp, hl, by simpa using hf 0 f0 rfl, by simpa using hf 1 f1 rfl, by simpa using hf 2 f2 rfl, by simpa using hf 3 f3 rfl, by simpa using hf 4 f4 rfl⟩
theorem open_rules_bulk {H : Type} {enc : TypeId × Value → H} {P : Program} {W : World} {t e s : TypeId} {base : Nat} {v : Value} {d : DataW H} {p : List MemPlace} {f0 f1 f2 f3 f4 : Field}
    (ht : P.underlying t = some (.slice e)) (he : P.underlying e = some (.struct #[f0, f1, f2, f3, f4])) (hc : P.cellsOf e = 5) (hs : P.underlying s = some .string) (hcs : P.cellsOf s = 1)
    (h0 : P.underlying f0.type = some (.slice s)) (h1 : P.underlying f1.type = some (.int .i64)) (h2 : P.underlying f2.type = some (.slice s)) (h3 : P.underlying f3.type = some (.slice s)) (h4 : P.underlying f4.type = some (.int .i64))
    (c0 : P.cellsOf f0.type = 1) (c1 : P.cellsOf f1.type = 1) (c2 : P.cellsOf f2.type = 1) (c3 : P.cellsOf f3.type = 1) (c4 : P.cellsOf f4.type = 1) (o0 : f0.offset = 0) (o1 : f1.offset = 1) (o2 : f2.offset = 2) (o3 : f3.offset = 3) (o4 : f4.offset = 4)
    (hok : Value.okWide P W .any base t v) (h : DataW.Trod enc P W 0 (fun _ => true) true t v d p) :
    ∃ A cap ls, v = .slice A ls.length cap ∧ Kd.C kR W A ls.length ls ∧ ls.length ≤ cap ∧ (∀ x ∈ ls, ∀ s ∈ x.t, s.size ≤ maxLen) ∧ totR ls ≤ Rows.uptoBulk d := by
  obtain ⟨a0, len, cap, rfl⟩ := okWide_slice ht hok
  obtain ⟨fuel, hf⟩ := h
  rcases Go.Deep.open_slice ht hf with ⟨hcs, hx⟩ | ⟨a, len', cap', m, n, D, Pl, hcs', _, hl, hmx, hm, hx, hel⟩
  · simp [Value.cells] at hcs
    obtain ⟨rfl, rfl, rfl⟩ := hcs
    exact ⟨none, 0, [], rfl, ⟨rfl, by simp, fun h => absurd h (Nat.lt_irrefl 0)⟩, by simp, by simp, by simp [totR]⟩
  · simp [Value.cells] at hcs'
    obtain ⟨rfl, rfl, rfl⟩ := hcs'
    simp only [Prod.mk.injEq] at hx
    obtain ⟨rfl, rfl⟩ := hx
    simp only [if_true] at hm
    have hall : ∀ i, i < len → ∃ x : Rl, (∃ c : List Value, c.length = 5 ∧ kR.K W x c ∧ ∀ j u, c[j]? = some u → W.cell? (a.add (i * 5 + j)) = some u) ∧ (∀ s ∈ x.t, s.size ≤ maxLen) ∧ wT x ≤ Rows.uptoBulk (D i) := by
      intro i hi
      obtain ⟨cs', hcs', ht'⟩ := hel i (by omega)
      obtain ⟨y0, y1, y2, y3, y4, k, hD, hlen, e0, e1, e2, e3, e4⟩ := trod_struct5 he ht'
      rw [c0, o0] at e0
      rw [c1, o1] at e1
      rw [c2, o2] at e2
      rw [c3, o3] at e3
      rw [c4, o4] at e4
      rw [hc] at hlen hcs'
      match cs', hlen with
      | [u0, u1, u2, u3, u4], _ =>
        obtain ⟨A0, k0, s0, q0, l0, g0, m0, b0⟩ := strs_of h0 hs hcs e0
        obtain ⟨z1, q1, rfl, _⟩ := DataW.trod_int h1 e1
        obtain ⟨A2, k2, s2, q2, l2, g2, m2, b2⟩ := strs_of h2 hs hcs e2
        obtain ⟨A3, k3, s3, q3, l3, g3, m3, b3⟩ := strs_of h3 hs hcs e3
        obtain ⟨z4, q4, rfl, _⟩ := DataW.trod_int h4 e4
        simp at q0 q1 q2 q3 q4
        subst q0; subst q1; subst q2; subst q3; subst q4
        obtain ⟨_, _, hcell⟩ := World.cells?_some hcs'
        refine ⟨⟨s0, z1, s2, s3, z4⟩, ⟨[.slice A0 s0.length k0, .int .i64 z1, .slice A2 s2.length k2, .slice A3 s3.length k3, .int .i64 z4], rfl, ⟨A0, k0, A2, k2, A3, k3, rfl, ⟨l0, l2, l3⟩, g0, g2, g3⟩, fun j u hu => ?_⟩, m0, ?_⟩
        · have hj : j < 5 := by
            have := (List.getElem?_eq_some_iff.1 hu).1
            simpa using this
          have h5 := hcell j (by omega)
          rw [Go.Deep.add_add] at h5
          rw [h5]
          obtain ⟨_, hju⟩ := List.getElem?_eq_some_iff.1 hu
          rw [← hju]
          simp
        · simp only at hD
          rw [hD]
          simp only [wT, Rows.uptoBulk, Rows.uptoBulkAll] at b0 b2 b3 ⊢
          omega
    haveI : Inhabited Rl := ⟨⟨[], 0, [], [], 0⟩⟩
    obtain ⟨R, hR⟩ := Go.Deep.choose_lt hall
    have hlen : ((List.range len).map R).length = len := by simp
    have hmax : (maxLen : Nat) = 9223372036854775807 := by decide
    refine ⟨some a, cap, (List.range len).map R, by rw [hlen], ⟨rfl, by rw [hlen]; omega, fun _ => ⟨a, rfl, fun j x hj => ?_⟩⟩, by rw [hlen]; exact hl, fun x hx => ?_, ?_⟩
    · simp only [List.getElem?_map, Option.map_eq_some_iff] at hj
      obtain ⟨i, hi, rfl⟩ := hj
      obtain ⟨hlt, rfl⟩ := List.getElem?_eq_some_iff.1 hi
      simp only [List.getElem_range]
      rw [List.length_range] at hlt
      exact (hR j hlt).1
    · obtain ⟨i, hi, rfl⟩ := List.mem_map.1 hx
      exact (hR i (List.mem_range.1 hi)).2.1
    · have := bulk_ge D R (List.range len) (fun i hi => (hR i (List.mem_range.1 hi)).2.2)
      simp only [Rows.uptoBulk]
      omega
end Go.Proofs.YtapfblaejmenlaaDoor.Ba
