/- loop.Build at the three lines of 'alive', walked. -/
import Derived.Test.YtiedbnjoomcdbaaDoorPOx0
import Derived.Deep.QuietTactic
import Derived.BigQuiet
import Derived.BigRegion
import Derived.Handy
import Derived.RegionTactic
set_option linter.unusedVariables false
set_option linter.unusedSimpArgs false
namespace Go.Proofs.YtiedbnjoomcdbaaDoor.PO
open Go.RowKit Go.Proofs.YtiedbnjoomcdbaaDoorW.PrintWords Go.Proofs.YtiedbnjoomcdbaaDoorW.PrintLast Go.Proofs.YtiedbnjoomcdbaaDoorW.PrintMore

def l0 : ByteArray := ⟨#[46, 102, 111, 114, 32, 105, 32, 105, 110, 32, 97, 32, 98]⟩
def l1 : ByteArray := ⟨#[36, 105, 46, 111, 58, 32, 36, 105, 46, 99]⟩
def l2 : ByteArray := ⟨#[46, 101, 110, 100, 102, 111, 114]⟩
def LS : List S34 := [⟨l0, 1, false⟩, ⟨l1, 2, false⟩, ⟨l2, 3, false⟩]
theorem dir0 : loop_Directive.f 9 l0 1 false = some (⟨#[102, 111, 114]⟩, ⟨#[105, 32, 105, 110, 32, 97, 32, 98]⟩) := by decide +kernel
theorem dir1 : loop_Directive.f 9 l1 2 false = some (⟨#[]⟩, ⟨#[]⟩) := by decide +kernel
theorem dir2 : loop_Directive.f 9 l2 3 false = some (⟨#[101, 110, 100, 102, 111, 114]⟩, ⟨#[]⟩) := by decide +kernel
theorem text0 : loop_loopText.f 9 ⟨#[105, 32, 105, 110, 32, 97, 32, 98]⟩ = some ([⟨#[105]⟩], ⟨#[97, 32, 98]⟩, true) := by decide +kernel

def LC : Array Value := #[.string l0, .int .i64 1, .bool false, .string l1, .int .i64 2, .bool false, .string l2, .int .i64 3, .bool false]
/-- the reader in block g over the three lines in block lb, at line i, without a fault -/
def SS (W : World) (g lb : Nat) (i : Int) : Prop :=
  W.heap[g]? = some (.cells #[.slice (some ⟨lb, 0, none⟩) 3 3, .int .i64 i, .int .i64 0, .int .i64 0] 62 (0, 0)) ∧ W.heap[lb]? = some (.cells LC 34 (0, 0)) ∧ g ≠ lb
theorem SS.below {W W2 : World} {g lb : Nat} {i : Int} (h : SS W g lb i) (k : Below W.heap.size W W2) : SS W2 g lb i := ⟨blk_below h.1 k, blk_below h.2.1 k, h.2.2⟩
theorem SS.drewN {W : World} {g lb : Nat} {i : Int} (h : SS W g lb i) (n : Nat) : SS (W.drewN n) g lb i := h
theorem SS.keep {W W2 : World} {g lb : Nat} {i : Int} {x : Nat} (h : SS W g lb i) (k : KeepBut W W2 x none) (h1 : g ≠ x) (h2 : lb ≠ x) : SS W2 g lb i := ⟨k.blk h.1 h1 (by simp), k.blk h.2.1 h2 (by simp), h.2.2⟩
theorem SS.facts {W : World} {g lb : Nat} {i : Int} (h : SS W g lb i) :
    (W.cell? ⟨g, 0, none⟩ = some (.slice (some ⟨lb, 0, none⟩) 3 3) ∧ W.cell? ⟨g, 1, none⟩ = some (.int .i64 i) ∧ W.cell? ⟨g, 2, none⟩ = some (.int .i64 0) ∧ W.cell? ⟨g, 3, none⟩ = some (.int .i64 0) ∧ W.frozen? ⟨g, 1, none⟩ = false) ∧
    W.cell? ⟨lb, 0, none⟩ = some (.string l0) ∧ W.cell? ⟨lb, 1, none⟩ = some (.int .i64 1) ∧ W.cell? ⟨lb, 2, none⟩ = some (.bool false) ∧
    W.cell? ⟨lb, 3, none⟩ = some (.string l1) ∧ W.cell? ⟨lb, 4, none⟩ = some (.int .i64 2) ∧ W.cell? ⟨lb, 5, none⟩ = some (.bool false) ∧
    W.cell? ⟨lb, 6, none⟩ = some (.string l2) ∧ W.cell? ⟨lb, 7, none⟩ = some (.int .i64 3) ∧ W.cell? ⟨lb, 8, none⟩ = some (.bool false) :=
  ⟨⟨(blk_cell h.1 0).trans rfl, (blk_cell h.1 1).trans rfl, (blk_cell h.1 2).trans rfl, (blk_cell h.1 3).trans rfl, blk_frozen h.1 1⟩,
   (blk_cell h.2.1 0).trans rfl, (blk_cell h.2.1 1).trans rfl, (blk_cell h.2.1 2).trans rfl, (blk_cell h.2.1 3).trans rfl, (blk_cell h.2.1 4).trans rfl, (blk_cell h.2.1 5).trans rfl, (blk_cell h.2.1 6).trans rfl, (blk_cell h.2.1 7).trans rfl, (blk_cell h.2.1 8).trans rfl⟩
theorem SS.far {W : World} {g lb : Nat} {i : Int} (h : SS W g lb i) {b j : Nat} (h1 : b ≠ g) (h2 : b ≠ lb) (u : Value) : SS (W.setCell ⟨b, j, none⟩ u) g lb i := ⟨blk_far h.1 (p := ⟨b, j, none⟩) h1.symm _, blk_far h.2.1 (p := ⟨b, j, none⟩) h2.symm _, h.2.2⟩
theorem keep_set {w W : World} {g b j : Nat} (h : KeepBut w W g none) (hb : b = g ∨ w.heap.size ≤ b) (u : Value) : KeepBut w (W.setCell ⟨b, j, none⟩ u) g none :=
  ⟨by rw [show (W.setCell ⟨b, j, none⟩ u).heap.size = W.heap.size by simp]; exact h.1, fun i hi hg hr => by
    rw [Below.heap_setCell W ⟨b, j, none⟩ u i (by rcases hb with e | e; · subst e; exact hg
                                                  · show i ≠ b; omega)]
    exact h.2 i hi hg hr⟩
theorem keep_below {w W W2 : World} {g : Nat} (h : KeepBut w W g none) (k : Below W.heap.size W W2) : KeepBut w W2 g none := h.trans (KeepBut.of_below k g none) (.inl rfl)
theorem SS.step {W : World} {g lb : Nat} {i : Int} (h : SS W g lb i) (j : Int) : SS (W.setCell ⟨g, 1, none⟩ (.int .i64 j)) g lb j :=
  ⟨by simpa using blk_set h.1 1 (.int .i64 j), blk_far h.2.1 (p := ⟨g, 1, none⟩) (fun e => h.2.2 e.symm) _, h.2.2⟩

set_option maxHeartbeats 8000000 in
set_option maxRecDepth 100000 in
theorem closing_end (g lb : Nat) (x0 : ByteArray) (x1 : Int) (x2 : Bool) (w0 w : World) (hS : SS w g lb 2) (hB : Below w0.heap.size w0 w) (hg : w0.heap.size ≤ g) :
    Calls Tryd.prog 54 #[.pointer (some ⟨g, 0, none⟩), .agg #[.string x0, .int .i64 x1, .bool x2]] w fun e w' =>
      e = .returned (.tuple #[.agg #[.string l2, .int .i64 3, .bool false], .string ⟨#[101, 110, 100, 102, 111, 114]⟩, .string ⟨#[]⟩, .bool true]) ∧ SS w' g lb 3 ∧ Below w0.heap.size w0 w' ∧ KeepBut w w' g none := by
  have hu34 := Tryd.underlying34
  have hu38 := Tryd.underlying38
  have HW := Aside0.mk hB
  clear hB
  go_enter Tryd.func54, Tryd.ntmps54
  go_wp2_with (first
    | ((with_reducible refine gate_dst (N := 3) rfl ?_); (try (refine gate_guard (by rfl) ?_; dsimp only)); refine box_event ?hg (N := 3) ?hd (cs := #[.string x0, .int .i64 x1, .bool x2]) (t := 34) ?hr ?_; (case hd => rfl); (case hg => rfl); (case hr => first | (go_simp; done) | (go_simp; rfl)); intro b3 e3 w3 hb3 hl3; have E3 := Aside0.mk e3; clear e3)
    | ((with_reducible refine gate_dst (N := 4) rfl ?_); (try (refine gate_guard (by rfl) ?_; dsimp only)); refine box_event ?hg (N := 4) ?hd (cs := #[.string ⟨#[]⟩, .int .i64 0, .bool false]) (t := 34) ?hr ?_; (case hd => rfl); (case hg => rfl); (case hr => first | (go_simp; done) | (go_simp; rfl)); intro b4 e4 w4 hb4 hl4; have E4 := Aside0.mk e4; clear e4; have hl34 := below_then hl3 hl3.size hl4; have hS4 := hS.below hl34; obtain ⟨⟨f0, f1, f2, f3, f4⟩, k0, k1, k2, k3, k4, k5, k6, k7, k8⟩ := hS4.facts))
  go_quiet (fail)
  go_wp2
  generalize hq : World.drewN w4 _ = w5
  have hS5 : SS w5 g lb 2 := by rw [← hq]; exact hS4.drewN _
  have hb5 : w5.heap[b4]? = some (.cells #[.string ⟨#[]⟩, .int .i64 0, .bool false] 34 (0, 0)) := by rw [← hq]; exact hb4
  have hl5 : Below w.heap.size w w5 := by rw [← hq]; exact pw_below_drewN hl34 _
  clear f0 f1 f2 f3 f4 k0 k1 k2 k3 k4 k5 k6 k7 k8 hq hb4 hS4
  obtain ⟨⟨f0, f1, f2, f3, f4⟩, k0, k1, k2, k3, k4, k5, k6, k7, k8⟩ := hS5.facts
  have hSA : SS (w5.alloc (.cells #[.string ⟨#[]⟩, .int .i64 0, .bool false] 34)) g lb 2 := hS5.below (below_alloc (Below.refl _ _) _)
  obtain ⟨⟨a0, a1, a2, a3, a4⟩, m0, m1, m2, m3, m4, m5, m6, m7, m8⟩ := hSA.facts
  clear hb3
  have G0 := blk_lt hS.1
  have L0 := blk_lt hS.2.1
  have n4g : b4 ≠ g := by have := hl3.size; have := E4.out; omega
  have n4l : b4 ≠ lb := by have := hl3.size; have := E4.out; omega
  have c4 : b4 < w5.heap.size := blk_lt hb5
  go_region
  all_goals
    generalize hq : World.drew (World.alloc w5 _) = w6
    have hS6 : SS w6 g lb 2 := by rw [← hq]; exact hS5.below (below_drew (below_alloc (Below.refl _ _) _))
    have hl6 : Below w.heap.size w w6 := by rw [← hq]; exact below_drew (below_alloc hl5 _)
    have hb8 : w6.heap[w5.heap.size]? = some (.cells #[.string l2, .int .i64 3, .bool false] 34 (0, 0)) := by rw [← hq]; exact blk_new w5 _
    have hb6 := blk_below hb5 (w1 := w6) (by rw [← hq]; exact below_drew (below_alloc (Below.refl _ _) _))
    have n8g : w5.heap.size ≠ g := by have := hl5.size; omega
    have n84 : w5.heap.size ≠ b4 := by omega
    clear f0 f1 f2 f3 f4 k0 k1 k2 k3 k4 k5 k6 k7 k8 a0 a1 a2 a3 a4 m0 m1 m2 m3 m4 m5 m6 m7 m8 hq hS5 hSA hl5 c4 hb5
    generalize w5.heap.size = b8 at *
    obtain ⟨⟨f0, f1, f2, f3, f4⟩, k0, k1, k2, k3, k4, k5, k6, k7, k8⟩ := hS6.facts
    have hb8' := blk_far hb8 (p := ⟨g, 1, none⟩) n8g (.int .i64 3)
    have hb4' := blk_far hb6 (p := ⟨g, 1, none⟩) n4g (.int .i64 3)
    have hS7 := hS6.step 3
    have hl7 : Below w.heap.size w w6 := hl6
    have z0 := (blk_cell hb8' 0).trans rfl
    have z1 := (blk_cell hb8' 1).trans rfl
    have z2 := (blk_cell hb8' 2).trans rfl
    go_wp2_with (go_at_call 40; refine (loop_Directive.calls 9 l2 3 false _ _ _ dir2).mono ?_; rintro e w8 ⟨rfl, hl8⟩; have q8 := blk_below hb8' hl8; have q4 := blk_below hb4' hl8; have y0 := (blk_cell q8 0).trans rfl; have y1 := (blk_cell q8 1).trans rfl; have y2 := (blk_cell q8 2).trans rfl; have x0 := (blk_cell q4 0).trans rfl; have x1 := (blk_cell q4 1).trans rfl; have x2 := (blk_cell q4 2).trans rfl; have v0 := blk_frozen q4 0; have v1 := blk_frozen q4 1; have v2 := blk_frozen q4 2)
    have p4 : (((w8.setCell ⟨b4, 0, none⟩ (.string l2)).setCell ⟨b4, 1, none⟩ (.int .i64 3)).setCell ⟨b4, 2, none⟩ (.bool false)).heap[b4]? = some (.cells #[.string l2, .int .i64 3, .bool false] 34 (0, 0)) := by
      simpa using blk_set (blk_set (blk_set q4 0 (.string l2)) 1 (.int .i64 3)) 2 (.bool false)
    have hS9 : SS (((w8.setCell ⟨b4, 0, none⟩ (.string l2)).setCell ⟨b4, 1, none⟩ (.int .i64 3)).setCell ⟨b4, 2, none⟩ (.bool false)) g lb 3 := (((hS7.below hl8).far n4g n4l _).far n4g n4l _).far n4g n4l _
    have hw4 : w.heap.size ≤ b4 := by have := hl3.size; have := E4.out; omega
    have hk9 : KeepBut w (((w8.setCell ⟨b4, 0, none⟩ (.string l2)).setCell ⟨b4, 1, none⟩ (.int .i64 3)).setCell ⟨b4, 2, none⟩ (.bool false)) g none :=
      keep_set (keep_set (keep_set (keep_below (keep_set (KeepBut.of_below hl7 g none) (.inl rfl) _) hl8) (.inr hw4) _) (.inr hw4) _) (.inr hw4) _
    have hB9 : Below w0.heap.size w0 (((w8.setCell ⟨b4, 0, none⟩ (.string l2)).setCell ⟨b4, 1, none⟩ (.int .i64 3)).setCell ⟨b4, 2, none⟩ (.bool false)) := by
      have hz := HW.out.size
      have h6 := below_then HW.out hz hl7
      exact ((((below_then (h6.setCell hg _) (by have := h6.size; simpa using this) hl8).setCell (show w0.heap.size ≤ b4 by omega) _).setCell (show w0.heap.size ≤ b4 by omega) _).setCell (show w0.heap.size ≤ b4 by omega) _)
    generalize hq9 : World.setCell (World.setCell (World.setCell w8 _ _) _ _) _ _ = w9 at *
    have r0 : w9.cell? ⟨b4, 0, none⟩ = some (.string l2) := (blk_cell p4 0).trans rfl
    have r1 : w9.cell? ⟨b4, 1, none⟩ = some (.int .i64 3) := (blk_cell p4 1).trans rfl
    have r2 : w9.cell? ⟨b4, 2, none⟩ = some (.bool false) := (blk_cell p4 2).trans rfl
    (try simp only [Exit.inBlock, Exit.then])
    refine bodyPost_ret (by simp [results, Tryd.results54, go_sem, r0, r1, r2]; try rfl) rfl ?_
    exact ⟨rfl, hS9, hB9, hk9⟩
end Go.Proofs.YtiedbnjoomcdbaaDoor.PO
