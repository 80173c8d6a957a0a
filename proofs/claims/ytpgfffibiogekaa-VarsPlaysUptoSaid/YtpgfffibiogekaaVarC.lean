/- A set's copy, walked. -/
import Derived.Test.YtpgfffibiogekaaVarF
import Derived.Test.YtpgfffibiogekaaVarH
import Derived.Shelf.SlMaps.Clone
import Derived.Deep.QuietTactic
import Derived.BigQuiet
import Derived.BigRegion
import Derived.Handy
import Derived.RegionTactic
import Derived.Deep.RegionWith
set_option linter.unusedVariables false
set_option linter.unusedSimpArgs false
namespace Go.Proofs.Ytpgfffibiogekaa.MS
open Go.RowKit Go.Proofs.YtpgfffibiogekaaW.PrintWords Go.Proofs.YtpgfffibiogekaaW.PrintLast Go.Proofs.YtpgfffibiogekaaW.PrintMore

set_option maxHeartbeats 4000000 in
set_option maxRecDepth 100000 in
theorem cloneMW (w : World) (b : Nat) (D : DataW Unit) (h : Mp w b D) :
    Calls Try.prog 40 #[.map (some b)] w fun e w' => e = .returned (.map (some w.heap.size)) ∧ ∃ o, w' = w.alloc o ∧ Mp (w.alloc o) w.heap.size D := by
  obtain ⟨es, clock, hb, F, hs, hD⟩ := h
  have hq := fun w => run_eql_map_nil_sl (P := Try.prog) w 52 _ _ (some b) Try.underlying52
  go_enter Try.func40, Try.ntmps40
  go_wp2
  rw [run_callFunc_extern Try.func47 (by kernel_rfl) (by kernel_rfl) (by kernel_rfl) (e := Extern.MapsClone.clone) (by kernel_rfl), run_maps_clone_sl w 52 hb]
  simp only [Result.andThen]
  rw [Oper.upon_value]
  go_wp2
  rw [run_typeAssert_map_sl _ 52 20 _ _ _ Try.underlying52]
  simp only [Result.andThen]
  rw [Oper.upon_value]
  go_wp2
  go_ret
  exact ⟨rfl, _, rfl, ⟨es, clock, (MapKept.heap_alloc w _).1, F, hs, hD⟩⟩
set_option maxHeartbeats 8000000 in
set_option maxRecDepth 100000 in
theorem copyW (w : World) (base g : Nat) (m : Nat → Nat) (D : Nat → DataW Unit) (h : SetAt w base g m D) :
    Calls Try.prog 25 #[.pointer (some ⟨g, 0, none⟩)] w fun e w' => (∃ g2 m2, e = .returned (.pointer (some ⟨g2, 0, none⟩)) ∧ SetAt w' w.heap.size g2 m2 D) ∧ Below w.heap.size w w' := by
  have ho := fun w h => okW w base g m D h
  have HS := Aside0.mk h
  have c0 := h.cell 0 (by omega)
  have c1 := h.cell 1 (by omega)
  have c2 := h.cell 2 (by omega)
  have c3 := h.cell 3 (by omega)
  have c4 := h.cell 4 (by omega)
  have hgl := blk_lt h.blk
  have hi0 := ix0
  have hi1 := ix1
  have hi2 := ix2
  have hi3 := ix3
  have hi4 := ix4
  go_enter Try.func25, Try.ntmps25
  go_wp2_with (first
    | (go_at_call 28; refine (ho _ HS.out).mono ?_; rintro e w ⟨rfl, rfl⟩)
    | ((with_reducible refine gate_dst (N := 10) rfl ?_); (try (refine gate_guard (by rfl) ?_; dsimp only)); refine box_event ?hg (N := 10) ?hd (cs := #[.map none, .map none, .map none, .map none, .map none]) (t := 55) ?hr ?_; (case hd => rfl); (case hg => rfl); (case hr => first | (go_simp; done) | (go_simp; rfl)); intro g2 eg w0 p0 hl0; have EG := Aside0.mk eg; clear eg; have HS0 := HS.out.below hl0; have c0 := HS0.cell 0 (by omega); have c1 := HS0.cell 1 (by omega); have c2 := HS0.cell 2 (by omega); have c3 := HS0.cell 3 (by omega); have c4 := HS0.cell 4 (by omega)))
  clear c0 c1 c2 c3 c4
  have HM0 := Aside0.mk HS0
  have hgB : w.heap.size ≤ g2 := by have := EG.out; omega
  have hb0 := hl0
  have hw0 := blk_lt p0
  have hB0 : w.heap.size ≤ w0.heap.size := by omega
  have H0 := Aside0.mk (⟨hw0, hB0⟩ : g2 < w0.heap.size ∧ w.heap.size ≤ w0.heap.size)
  have hgg : ∀ j, j < 5 → m j ≠ g2 := fun j hj => by have := EG.out; have := (HS.out.own j hj).lt; omega
  have hgs : g ≠ g2 := by have := EG.out; omega
  have HG := Aside0.mk (⟨hgg, hgs⟩ : (∀ j, j < 5 → m j ≠ g2) ∧ g ≠ g2)
  clear hw0 hB0 hl0 HS0 hgg hgs hgl
  refine wp_loop_rounds 6 ?_
  rw [rounds_succ]
  have hc : ∀ o, (w0.alloc o).cell? ⟨g2, 0, none⟩ = some (.map none) := fun o => (blk_cell (blk_below p0 (below_alloc (Below.refl _ _) o)) 0).trans rfl
  have hf : ∀ o, (w0.alloc o).frozen? ⟨g2, 0, none⟩ = false := fun o => blk_frozen (blk_below p0 (below_alloc (Below.refl _ _) o)) 0
  go_wp2_with (fail)
  go_region_with (go_at_call 40; refine (cloneMW _ (m 0) (D 0) (by exact HM0.out.own 0 (by omega))).mono ?_; rintro e w' ⟨rfl, o0, rfl, hM⟩)
  clear hc hf
  have hgm0 : w0.heap.size ≠ g2 := by have := H0.out; omega
  have M0 : Mp (w0.alloc o0) w0.heap.size (D 0) := hM
  have M0 : Mp ((w0.alloc o0).setCell ⟨g2, 0, none⟩ (.map (some w0.heap.size))).drew w0.heap.size (D 0) := M0.setCell (a := ⟨g2, 0, none⟩) hgm0 (.map (some w0.heap.size))
  clear hM
  have G0 := Aside0.mk hgm0
  have p1 : ((w0.alloc o0).setCell ⟨g2, 0, none⟩ (.map (some w0.heap.size))).heap[g2]? = some (.cells #[.map (some w0.heap.size), .map none, .map none, .map none, .map none] 55 (0, 0)) := by
    simpa using blk_set (blk_below p0 (below_alloc (Below.refl _ _) o0)) 0 (.map (some w0.heap.size))
  have p1 : ((w0.alloc o0).setCell ⟨g2, 0, none⟩ (.map (some w0.heap.size))).drew.heap[g2]? = some (.cells #[.map (some w0.heap.size), .map none, .map none, .map none, .map none] 55 (0, 0)) := p1
  have hb1 : Below w.heap.size w ((w0.alloc o0).setCell ⟨g2, 0, none⟩ (.map (some w0.heap.size))).drew := below_drew ((below_then hb0 H0.out.2 (below_alloc (Below.refl _ _) _)).setCell (p := ⟨g2, 0, none⟩) hgB _)
  have hS : ((w0.alloc o0).setCell ⟨g2, 0, none⟩ (.map (some w0.heap.size))).drew.heap.size = w0.heap.size + 1 := by simp
  have HM1 := Aside0.mk (((HM0.out.below (below_alloc (Below.refl _ _) o0)).far (j := 0) (fun e => HG.out.2 e.symm) HG.out.1 (.map (some w0.heap.size))).below (below_drew (Below.refl _ _)))
  clear p0 hb0 hgm0
  generalize World.drew (World.setCell (World.alloc w0 o0) ⟨g2, 0, none⟩ (.map (some w0.heap.size))) = w1 at *
  have H1 := Aside0.mk (⟨by have := H0.out; omega, by have := H0.out; omega⟩ : g2 < w1.heap.size ∧ w.heap.size ≤ w1.heap.size)
  have S1 := Aside0.mk hS
  clear hS
  go_wp2_with (fail)
  rw [rounds_succ]
  have hc : ∀ o, (w1.alloc o).cell? ⟨g2, 1, none⟩ = some (.map none) := fun o => (blk_cell (blk_below p1 (below_alloc (Below.refl _ _) o)) 1).trans rfl
  have hf : ∀ o, (w1.alloc o).frozen? ⟨g2, 1, none⟩ = false := fun o => blk_frozen (blk_below p1 (below_alloc (Below.refl _ _) o)) 1
  go_wp2_with (fail)
  go_region_with (go_at_call 40; refine (cloneMW _ (m 1) (D 1) (by exact HM1.out.own 1 (by omega))).mono ?_; rintro e w' ⟨rfl, o1, rfl, hM⟩)
  clear hc hf
  have hgm1 : w1.heap.size ≠ g2 := by have := H1.out; omega
  have M0 : Mp ((w1.alloc o1).setCell ⟨g2, 1, none⟩ (.map (some w1.heap.size))).drew w0.heap.size (D 0) := (M0.alloc o1).setCell (a := ⟨g2, 1, none⟩) G0.out (.map (some w1.heap.size))
  have M1 : Mp (w1.alloc o1) w1.heap.size (D 1) := hM
  have M1 : Mp ((w1.alloc o1).setCell ⟨g2, 1, none⟩ (.map (some w1.heap.size))).drew w1.heap.size (D 1) := M1.setCell (a := ⟨g2, 1, none⟩) hgm1 (.map (some w1.heap.size))
  clear hM
  have G1 := Aside0.mk hgm1
  have p2 : ((w1.alloc o1).setCell ⟨g2, 1, none⟩ (.map (some w1.heap.size))).heap[g2]? = some (.cells #[.map (some w0.heap.size), .map (some w1.heap.size), .map none, .map none, .map none] 55 (0, 0)) := by
    simpa using blk_set (blk_below p1 (below_alloc (Below.refl _ _) o1)) 1 (.map (some w1.heap.size))
  have p2 : ((w1.alloc o1).setCell ⟨g2, 1, none⟩ (.map (some w1.heap.size))).drew.heap[g2]? = some (.cells #[.map (some w0.heap.size), .map (some w1.heap.size), .map none, .map none, .map none] 55 (0, 0)) := p2
  have hb2 : Below w.heap.size w ((w1.alloc o1).setCell ⟨g2, 1, none⟩ (.map (some w1.heap.size))).drew := below_drew ((below_then hb1 H1.out.2 (below_alloc (Below.refl _ _) _)).setCell (p := ⟨g2, 1, none⟩) hgB _)
  have hS : ((w1.alloc o1).setCell ⟨g2, 1, none⟩ (.map (some w1.heap.size))).drew.heap.size = w1.heap.size + 1 := by simp
  have HM2 := Aside0.mk (((HM1.out.below (below_alloc (Below.refl _ _) o1)).far (j := 1) (fun e => HG.out.2 e.symm) HG.out.1 (.map (some w1.heap.size))).below (below_drew (Below.refl _ _)))
  clear p1 hb1 hgm1
  generalize World.drew (World.setCell (World.alloc w1 o1) ⟨g2, 1, none⟩ (.map (some w1.heap.size))) = w2 at *
  have H2 := Aside0.mk (⟨by have := H1.out; omega, by have := H1.out; omega⟩ : g2 < w2.heap.size ∧ w.heap.size ≤ w2.heap.size)
  have S2 := Aside0.mk hS
  clear hS
  go_wp2_with (fail)
  rw [rounds_succ]
  have hc : ∀ o, (w2.alloc o).cell? ⟨g2, 2, none⟩ = some (.map none) := fun o => (blk_cell (blk_below p2 (below_alloc (Below.refl _ _) o)) 2).trans rfl
  have hf : ∀ o, (w2.alloc o).frozen? ⟨g2, 2, none⟩ = false := fun o => blk_frozen (blk_below p2 (below_alloc (Below.refl _ _) o)) 2
  go_wp2_with (fail)
  go_region_with (go_at_call 40; refine (cloneMW _ (m 2) (D 2) (by exact HM2.out.own 2 (by omega))).mono ?_; rintro e w' ⟨rfl, o2, rfl, hM⟩)
  clear hc hf
  have hgm2 : w2.heap.size ≠ g2 := by have := H2.out; omega
  have M0 : Mp ((w2.alloc o2).setCell ⟨g2, 2, none⟩ (.map (some w2.heap.size))).drew w0.heap.size (D 0) := (M0.alloc o2).setCell (a := ⟨g2, 2, none⟩) G0.out (.map (some w2.heap.size))
  have M1 : Mp ((w2.alloc o2).setCell ⟨g2, 2, none⟩ (.map (some w2.heap.size))).drew w1.heap.size (D 1) := (M1.alloc o2).setCell (a := ⟨g2, 2, none⟩) G1.out (.map (some w2.heap.size))
  have M2 : Mp (w2.alloc o2) w2.heap.size (D 2) := hM
  have M2 : Mp ((w2.alloc o2).setCell ⟨g2, 2, none⟩ (.map (some w2.heap.size))).drew w2.heap.size (D 2) := M2.setCell (a := ⟨g2, 2, none⟩) hgm2 (.map (some w2.heap.size))
  clear hM
  have G2 := Aside0.mk hgm2
  have p3 : ((w2.alloc o2).setCell ⟨g2, 2, none⟩ (.map (some w2.heap.size))).heap[g2]? = some (.cells #[.map (some w0.heap.size), .map (some w1.heap.size), .map (some w2.heap.size), .map none, .map none] 55 (0, 0)) := by
    simpa using blk_set (blk_below p2 (below_alloc (Below.refl _ _) o2)) 2 (.map (some w2.heap.size))
  have p3 : ((w2.alloc o2).setCell ⟨g2, 2, none⟩ (.map (some w2.heap.size))).drew.heap[g2]? = some (.cells #[.map (some w0.heap.size), .map (some w1.heap.size), .map (some w2.heap.size), .map none, .map none] 55 (0, 0)) := p3
  have hb3 : Below w.heap.size w ((w2.alloc o2).setCell ⟨g2, 2, none⟩ (.map (some w2.heap.size))).drew := below_drew ((below_then hb2 H2.out.2 (below_alloc (Below.refl _ _) _)).setCell (p := ⟨g2, 2, none⟩) hgB _)
  have hS : ((w2.alloc o2).setCell ⟨g2, 2, none⟩ (.map (some w2.heap.size))).drew.heap.size = w2.heap.size + 1 := by simp
  have HM3 := Aside0.mk (((HM2.out.below (below_alloc (Below.refl _ _) o2)).far (j := 2) (fun e => HG.out.2 e.symm) HG.out.1 (.map (some w2.heap.size))).below (below_drew (Below.refl _ _)))
  clear p2 hb2 hgm2
  generalize World.drew (World.setCell (World.alloc w2 o2) ⟨g2, 2, none⟩ (.map (some w2.heap.size))) = w3 at *
  have H3 := Aside0.mk (⟨by have := H2.out; omega, by have := H2.out; omega⟩ : g2 < w3.heap.size ∧ w.heap.size ≤ w3.heap.size)
  have S3 := Aside0.mk hS
  clear hS
  go_wp2_with (fail)
  rw [rounds_succ]
  have hc : ∀ o, (w3.alloc o).cell? ⟨g2, 3, none⟩ = some (.map none) := fun o => (blk_cell (blk_below p3 (below_alloc (Below.refl _ _) o)) 3).trans rfl
  have hf : ∀ o, (w3.alloc o).frozen? ⟨g2, 3, none⟩ = false := fun o => blk_frozen (blk_below p3 (below_alloc (Below.refl _ _) o)) 3
  go_wp2_with (fail)
  go_region_with (go_at_call 40; refine (cloneMW _ (m 3) (D 3) (by exact HM3.out.own 3 (by omega))).mono ?_; rintro e w' ⟨rfl, o3, rfl, hM⟩)
  clear hc hf
  have hgm3 : w3.heap.size ≠ g2 := by have := H3.out; omega
  have M0 : Mp ((w3.alloc o3).setCell ⟨g2, 3, none⟩ (.map (some w3.heap.size))).drew w0.heap.size (D 0) := (M0.alloc o3).setCell (a := ⟨g2, 3, none⟩) G0.out (.map (some w3.heap.size))
  have M1 : Mp ((w3.alloc o3).setCell ⟨g2, 3, none⟩ (.map (some w3.heap.size))).drew w1.heap.size (D 1) := (M1.alloc o3).setCell (a := ⟨g2, 3, none⟩) G1.out (.map (some w3.heap.size))
  have M2 : Mp ((w3.alloc o3).setCell ⟨g2, 3, none⟩ (.map (some w3.heap.size))).drew w2.heap.size (D 2) := (M2.alloc o3).setCell (a := ⟨g2, 3, none⟩) G2.out (.map (some w3.heap.size))
  have M3 : Mp (w3.alloc o3) w3.heap.size (D 3) := hM
  have M3 : Mp ((w3.alloc o3).setCell ⟨g2, 3, none⟩ (.map (some w3.heap.size))).drew w3.heap.size (D 3) := M3.setCell (a := ⟨g2, 3, none⟩) hgm3 (.map (some w3.heap.size))
  clear hM
  have G3 := Aside0.mk hgm3
  have p4 : ((w3.alloc o3).setCell ⟨g2, 3, none⟩ (.map (some w3.heap.size))).heap[g2]? = some (.cells #[.map (some w0.heap.size), .map (some w1.heap.size), .map (some w2.heap.size), .map (some w3.heap.size), .map none] 55 (0, 0)) := by
    simpa using blk_set (blk_below p3 (below_alloc (Below.refl _ _) o3)) 3 (.map (some w3.heap.size))
  have p4 : ((w3.alloc o3).setCell ⟨g2, 3, none⟩ (.map (some w3.heap.size))).drew.heap[g2]? = some (.cells #[.map (some w0.heap.size), .map (some w1.heap.size), .map (some w2.heap.size), .map (some w3.heap.size), .map none] 55 (0, 0)) := p4
  have hb4 : Below w.heap.size w ((w3.alloc o3).setCell ⟨g2, 3, none⟩ (.map (some w3.heap.size))).drew := below_drew ((below_then hb3 H3.out.2 (below_alloc (Below.refl _ _) _)).setCell (p := ⟨g2, 3, none⟩) hgB _)
  have hS : ((w3.alloc o3).setCell ⟨g2, 3, none⟩ (.map (some w3.heap.size))).drew.heap.size = w3.heap.size + 1 := by simp
  have HM4 := Aside0.mk (((HM3.out.below (below_alloc (Below.refl _ _) o3)).far (j := 3) (fun e => HG.out.2 e.symm) HG.out.1 (.map (some w3.heap.size))).below (below_drew (Below.refl _ _)))
  clear p3 hb3 hgm3
  generalize World.drew (World.setCell (World.alloc w3 o3) ⟨g2, 3, none⟩ (.map (some w3.heap.size))) = w4 at *
  have H4 := Aside0.mk (⟨by have := H3.out; omega, by have := H3.out; omega⟩ : g2 < w4.heap.size ∧ w.heap.size ≤ w4.heap.size)
  have S4 := Aside0.mk hS
  clear hS
  go_wp2_with (fail)
  rw [rounds_succ]
  have hc : ∀ o, (w4.alloc o).cell? ⟨g2, 4, none⟩ = some (.map none) := fun o => (blk_cell (blk_below p4 (below_alloc (Below.refl _ _) o)) 4).trans rfl
  have hf : ∀ o, (w4.alloc o).frozen? ⟨g2, 4, none⟩ = false := fun o => blk_frozen (blk_below p4 (below_alloc (Below.refl _ _) o)) 4
  go_wp2_with (fail)
  go_region_with (go_at_call 40; refine (cloneMW _ (m 4) (D 4) (by exact HM4.out.own 4 (by omega))).mono ?_; rintro e w' ⟨rfl, o4, rfl, hM⟩)
  clear hc hf
  have hgm4 : w4.heap.size ≠ g2 := by have := H4.out; omega
  have M0 : Mp ((w4.alloc o4).setCell ⟨g2, 4, none⟩ (.map (some w4.heap.size))).drew w0.heap.size (D 0) := (M0.alloc o4).setCell (a := ⟨g2, 4, none⟩) G0.out (.map (some w4.heap.size))
  have M1 : Mp ((w4.alloc o4).setCell ⟨g2, 4, none⟩ (.map (some w4.heap.size))).drew w1.heap.size (D 1) := (M1.alloc o4).setCell (a := ⟨g2, 4, none⟩) G1.out (.map (some w4.heap.size))
  have M2 : Mp ((w4.alloc o4).setCell ⟨g2, 4, none⟩ (.map (some w4.heap.size))).drew w2.heap.size (D 2) := (M2.alloc o4).setCell (a := ⟨g2, 4, none⟩) G2.out (.map (some w4.heap.size))
  have M3 : Mp ((w4.alloc o4).setCell ⟨g2, 4, none⟩ (.map (some w4.heap.size))).drew w3.heap.size (D 3) := (M3.alloc o4).setCell (a := ⟨g2, 4, none⟩) G3.out (.map (some w4.heap.size))
  have M4 : Mp (w4.alloc o4) w4.heap.size (D 4) := hM
  have M4 : Mp ((w4.alloc o4).setCell ⟨g2, 4, none⟩ (.map (some w4.heap.size))).drew w4.heap.size (D 4) := M4.setCell (a := ⟨g2, 4, none⟩) hgm4 (.map (some w4.heap.size))
  clear hM
  have G4 := Aside0.mk hgm4
  have p5 : ((w4.alloc o4).setCell ⟨g2, 4, none⟩ (.map (some w4.heap.size))).heap[g2]? = some (.cells #[.map (some w0.heap.size), .map (some w1.heap.size), .map (some w2.heap.size), .map (some w3.heap.size), .map (some w4.heap.size)] 55 (0, 0)) := by
    simpa using blk_set (blk_below p4 (below_alloc (Below.refl _ _) o4)) 4 (.map (some w4.heap.size))
  have p5 : ((w4.alloc o4).setCell ⟨g2, 4, none⟩ (.map (some w4.heap.size))).drew.heap[g2]? = some (.cells #[.map (some w0.heap.size), .map (some w1.heap.size), .map (some w2.heap.size), .map (some w3.heap.size), .map (some w4.heap.size)] 55 (0, 0)) := p5
  have hb5 : Below w.heap.size w ((w4.alloc o4).setCell ⟨g2, 4, none⟩ (.map (some w4.heap.size))).drew := below_drew ((below_then hb4 H4.out.2 (below_alloc (Below.refl _ _) _)).setCell (p := ⟨g2, 4, none⟩) hgB _)
  have hS : ((w4.alloc o4).setCell ⟨g2, 4, none⟩ (.map (some w4.heap.size))).drew.heap.size = w4.heap.size + 1 := by simp
  have HM5 := Aside0.mk (((HM4.out.below (below_alloc (Below.refl _ _) o4)).far (j := 4) (fun e => HG.out.2 e.symm) HG.out.1 (.map (some w4.heap.size))).below (below_drew (Below.refl _ _)))
  clear p4 hb4 hgm4
  generalize World.drew (World.setCell (World.alloc w4 o4) ⟨g2, 4, none⟩ (.map (some w4.heap.size))) = w5 at *
  have H5 := Aside0.mk (⟨by have := H4.out; omega, by have := H4.out; omega⟩ : g2 < w5.heap.size ∧ w.heap.size ≤ w5.heap.size)
  have S5 := Aside0.mk hS
  clear hS
  go_wp2_with (fail)
  rw [rounds_succ]
  go_wp2_with (fail)
  go_ret
  have s1 := S1.out
  have s2 := S2.out
  have s3 := S3.out
  have s4 := S4.out
  have h0 := H0.out
  refine ⟨⟨g2, five w0.heap.size w1.heap.size w2.heap.size w3.heap.size w4.heap.size, rfl, p5, ?_, ⟨hgB, ?_⟩, ?_, h.val, h.cnt⟩, hb5⟩
  · intro i j hi hj hne
    rcases lt5 hi with rfl | rfl | rfl | rfl | rfl <;> rcases lt5 hj with rfl | rfl | rfl | rfl | rfl <;> simp only [five] <;> first | (exact absurd rfl hne) | omega
  · intro i hi
    rcases lt5 hi with rfl | rfl | rfl | rfl | rfl <;> simp only [five] <;> omega
  · intro i hi
    rcases lt5 hi with rfl | rfl | rfl | rfl | rfl
    · exact M0
    · exact M1
    · exact M2
    · exact M3
    · exact M4
end Go.Proofs.Ytpgfffibiogekaa.MS
