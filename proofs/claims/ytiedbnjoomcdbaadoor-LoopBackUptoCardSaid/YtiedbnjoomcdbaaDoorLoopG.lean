/- loop.Build at the three lines of 'alive', walked. -/
import Derived.Test.YtiedbnjoomcdbaaDoorPOx0
import Derived.Deep.QuietTactic
import Derived.BigQuiet
import Derived.BigRegion
import Derived.Handy
import Derived.RegionTactic
import Derived.LoopN
set_option linter.unusedVariables false
set_option linter.unusedSimpArgs false
namespace Go.Proofs.YtiedbnjoomcdbaaDoor.PO
open Go.RowKit Go.Proofs.YtiedbnjoomcdbaaDoorW.PrintWords Go.Proofs.YtiedbnjoomcdbaaDoorW.PrintLast Go.Proofs.YtiedbnjoomcdbaaDoorW.PrintMore

def l0 : ByteArray := ⟨#[46, 102, 111, 114, 32, 105, 32, 105, 110, 32, 97, 32, 98]⟩
def l1 : ByteArray := ⟨#[36, 105, 46, 111, 58, 32, 36, 105, 46, 99]⟩
def l2 : ByteArray := ⟨#[46, 101, 110, 100, 102, 111, 114]⟩
def LS : List S34 := [⟨l0, 1, false⟩, ⟨l1, 2, false⟩, ⟨l2, 3, false⟩]
theorem dir0 : loop_Directive.f 9 l0 1 false = some (⟨#[102, 111, 114]⟩, ⟨#[105, 32, 105, 110, 32, 97, 32, 98]⟩) := by decide +kernel
theorem dir1 : loop_Directive.f 9 l1 2 false = some (⟨#[]⟩, ⟨#[]⟩) := by decide +kernel
theorem dir2 : loop_Directive.f 9 l2 3 false = some (⟨#[101, 110, 100, 102, 111, 114]⟩, ⟨#[]⟩) := by decide +kernel
theorem text0 : loop_loopText.f 9 ⟨#[105, 32, 105, 110, 32, 97, 32, 98]⟩ = some ([⟨#[105]⟩], ⟨#[97, 32, 98]⟩, true) := by decide +kernel

def LC : Array Value := #[.string l0, .int .i64 1, .bool false, .string l1, .int .i64 2, .bool false, .string l2, .int .i64 3, .bool false]
/-- the reader in block g over the three lines in block lb, at line i, without a fault -/
def SS (W : World) (g lb : Nat) (i : Int) : Prop :=
  W.heap[g]? = some (.cells #[.slice (some ⟨lb, 0, none⟩) 3 3, .int .i64 i, .int .i64 0, .int .i64 0] 62 (0, 0)) ∧ W.heap[lb]? = some (.cells LC 34 (0, 0)) ∧ g ≠ lb
theorem SS.below {W W2 : World} {g lb : Nat} {i : Int} (h : SS W g lb i) (k : Below W.heap.size W W2) : SS W2 g lb i := ⟨blk_below h.1 k, blk_below h.2.1 k, h.2.2⟩
theorem SS.drewN {W : World} {g lb : Nat} {i : Int} (h : SS W g lb i) (n : Nat) : SS (W.drewN n) g lb i := h
theorem SS.keep {W W2 : World} {g lb : Nat} {i : Int} {x : Nat} (h : SS W g lb i) (k : KeepBut W W2 x none) (h1 : g ≠ x) (h2 : lb ≠ x) : SS W2 g lb i := ⟨k.blk h.1 h1 (by simp), k.blk h.2.1 h2 (by simp), h.2.2⟩
theorem SS.facts {W : World} {g lb : Nat} {i : Int} (h : SS W g lb i) :
    (W.cell? ⟨g, 0, none⟩ = some (.slice (some ⟨lb, 0, none⟩) 3 3) ∧ W.cell? ⟨g, 1, none⟩ = some (.int .i64 i) ∧ W.cell? ⟨g, 2, none⟩ = some (.int .i64 0) ∧ W.cell? ⟨g, 3, none⟩ = some (.int .i64 0) ∧ W.frozen? ⟨g, 1, none⟩ = false) ∧
    W.cell? ⟨lb, 0, none⟩ = some (.string l0) ∧ W.cell? ⟨lb, 1, none⟩ = some (.int .i64 1) ∧ W.cell? ⟨lb, 2, none⟩ = some (.bool false) ∧
    W.cell? ⟨lb, 3, none⟩ = some (.string l1) ∧ W.cell? ⟨lb, 4, none⟩ = some (.int .i64 2) ∧ W.cell? ⟨lb, 5, none⟩ = some (.bool false) ∧
    W.cell? ⟨lb, 6, none⟩ = some (.string l2) ∧ W.cell? ⟨lb, 7, none⟩ = some (.int .i64 3) ∧ W.cell? ⟨lb, 8, none⟩ = some (.bool false) :=
  ⟨⟨(blk_cell h.1 0).trans rfl, (blk_cell h.1 1).trans rfl, (blk_cell h.1 2).trans rfl, (blk_cell h.1 3).trans rfl, blk_frozen h.1 1⟩,
   (blk_cell h.2.1 0).trans rfl, (blk_cell h.2.1 1).trans rfl, (blk_cell h.2.1 2).trans rfl, (blk_cell h.2.1 3).trans rfl, (blk_cell h.2.1 4).trans rfl, (blk_cell h.2.1 5).trans rfl, (blk_cell h.2.1 6).trans rfl, (blk_cell h.2.1 7).trans rfl, (blk_cell h.2.1 8).trans rfl⟩
theorem SS.far {W : World} {g lb : Nat} {i : Int} (h : SS W g lb i) {b j : Nat} (h1 : b ≠ g) (h2 : b ≠ lb) (u : Value) : SS (W.setCell ⟨b, j, none⟩ u) g lb i := ⟨blk_far h.1 (p := ⟨b, j, none⟩) h1.symm _, blk_far h.2.1 (p := ⟨b, j, none⟩) h2.symm _, h.2.2⟩
theorem keep_set {w W : World} {g b j : Nat} (h : KeepBut w W g none) (hb : b = g ∨ w.heap.size ≤ b) (u : Value) : KeepBut w (W.setCell ⟨b, j, none⟩ u) g none :=
  ⟨by rw [show (W.setCell ⟨b, j, none⟩ u).heap.size = W.heap.size by simp]; exact h.1, fun i hi hg hr => by
    rw [Below.heap_setCell W ⟨b, j, none⟩ u i (by rcases hb with e | e; · subst e; exact hg
                                                  · show i ≠ b; omega)]
    exact h.2 i hi hg hr⟩
theorem keep_below {w W W2 : World} {g : Nat} (h : KeepBut w W g none) (k : Below W.heap.size W W2) : KeepBut w W2 g none := h.trans (KeepBut.of_below k g none) (.inl rfl)
theorem SS.step {W : World} {g lb : Nat} {i : Int} (h : SS W g lb i) (j : Int) : SS (W.setCell ⟨g, 1, none⟩ (.int .i64 j)) g lb j :=
  ⟨by simpa using blk_set h.1 1 (.int .i64 j), blk_far h.2.1 (p := ⟨g, 1, none⟩) (fun e => h.2.2 e.symm) _, h.2.2⟩

set_option maxHeartbeats 8000000 in
set_option maxRecDepth 100000 in
theorem closing_end (g lb : Nat) (x0 : ByteArray) (x1 : Int) (x2 : Bool) (w0 w : World) (hS : SS w g lb 2) (hB : Below w0.heap.size w0 w) (hg : w0.heap.size ≤ g) :
    Calls Tryd.prog 54 #[.pointer (some ⟨g, 0, none⟩), .agg #[.string x0, .int .i64 x1, .bool x2]] w fun e w' =>
      e = .returned (.tuple #[.agg #[.string l2, .int .i64 3, .bool false], .string ⟨#[101, 110, 100, 102, 111, 114]⟩, .string ⟨#[]⟩, .bool true]) ∧ SS w' g lb 3 ∧ Below w0.heap.size w0 w' ∧ KeepBut w w' g none := by
  have hu34 := Tryd.underlying34
  have hu38 := Tryd.underlying38
  have HW := Aside0.mk hB
  clear hB
  go_enter Tryd.func54, Tryd.ntmps54
  go_wp2_with (first
    | ((with_reducible refine gate_dst (N := 3) rfl ?_); (try (refine gate_guard (by rfl) ?_; dsimp only)); refine box_event ?hg (N := 3) ?hd (cs := #[.string x0, .int .i64 x1, .bool x2]) (t := 34) ?hr ?_; (case hd => rfl); (case hg => rfl); (case hr => first | (go_simp; done) | (go_simp; rfl)); intro b3 e3 w3 hb3 hl3; have E3 := Aside0.mk e3; clear e3)
    | ((with_reducible refine gate_dst (N := 4) rfl ?_); (try (refine gate_guard (by rfl) ?_; dsimp only)); refine box_event ?hg (N := 4) ?hd (cs := #[.string ⟨#[]⟩, .int .i64 0, .bool false]) (t := 34) ?hr ?_; (case hd => rfl); (case hg => rfl); (case hr => first | (go_simp; done) | (go_simp; rfl)); intro b4 e4 w4 hb4 hl4; have E4 := Aside0.mk e4; clear e4; have hl34 := below_then hl3 hl3.size hl4; have hS4 := hS.below hl34; obtain ⟨⟨f0, f1, f2, f3, f4⟩, k0, k1, k2, k3, k4, k5, k6, k7, k8⟩ := hS4.facts))
  go_quiet (fail)
  go_wp2
  generalize hq : World.drewN w4 _ = w5
  have hS5 : SS w5 g lb 2 := by rw [← hq]; exact hS4.drewN _
  have hb5 : w5.heap[b4]? = some (.cells #[.string ⟨#[]⟩, .int .i64 0, .bool false] 34 (0, 0)) := by rw [← hq]; exact hb4
  have hl5 : Below w.heap.size w w5 := by rw [← hq]; exact pw_below_drewN hl34 _
  clear f0 f1 f2 f3 f4 k0 k1 k2 k3 k4 k5 k6 k7 k8 hq hb4 hS4
  obtain ⟨⟨f0, f1, f2, f3, f4⟩, k0, k1, k2, k3, k4, k5, k6, k7, k8⟩ := hS5.facts
  have hSA : SS (w5.alloc (.cells #[.string ⟨#[]⟩, .int .i64 0, .bool false] 34)) g lb 2 := hS5.below (below_alloc (Below.refl _ _) _)
  obtain ⟨⟨a0, a1, a2, a3, a4⟩, m0, m1, m2, m3, m4, m5, m6, m7, m8⟩ := hSA.facts
  clear hb3
  have G0 := blk_lt hS.1
  have L0 := blk_lt hS.2.1
  have n4g : b4 ≠ g := by have := hl3.size; have := E4.out; omega
  have n4l : b4 ≠ lb := by have := hl3.size; have := E4.out; omega
  have c4 : b4 < w5.heap.size := blk_lt hb5
  go_region
  all_goals
    generalize hq : World.drew (World.alloc w5 _) = w6
    have hS6 : SS w6 g lb 2 := by rw [← hq]; exact hS5.below (below_drew (below_alloc (Below.refl _ _) _))
    have hl6 : Below w.heap.size w w6 := by rw [← hq]; exact below_drew (below_alloc hl5 _)
    have hb8 : w6.heap[w5.heap.size]? = some (.cells #[.string l2, .int .i64 3, .bool false] 34 (0, 0)) := by rw [← hq]; exact blk_new w5 _
    have hb6 := blk_below hb5 (w1 := w6) (by rw [← hq]; exact below_drew (below_alloc (Below.refl _ _) _))
    have n8g : w5.heap.size ≠ g := by have := hl5.size; omega
    have n84 : w5.heap.size ≠ b4 := by omega
    clear f0 f1 f2 f3 f4 k0 k1 k2 k3 k4 k5 k6 k7 k8 a0 a1 a2 a3 a4 m0 m1 m2 m3 m4 m5 m6 m7 m8 hq hS5 hSA hl5 c4 hb5
    generalize w5.heap.size = b8 at *
    obtain ⟨⟨f0, f1, f2, f3, f4⟩, k0, k1, k2, k3, k4, k5, k6, k7, k8⟩ := hS6.facts
    have hb8' := blk_far hb8 (p := ⟨g, 1, none⟩) n8g (.int .i64 3)
    have hb4' := blk_far hb6 (p := ⟨g, 1, none⟩) n4g (.int .i64 3)
    have hS7 := hS6.step 3
    have hl7 : Below w.heap.size w w6 := hl6
    have z0 := (blk_cell hb8' 0).trans rfl
    have z1 := (blk_cell hb8' 1).trans rfl
    have z2 := (blk_cell hb8' 2).trans rfl
    go_wp2_with (go_at_call 40; refine (loop_Directive.calls 9 l2 3 false _ _ _ dir2).mono ?_; rintro e w8 ⟨rfl, hl8⟩; have q8 := blk_below hb8' hl8; have q4 := blk_below hb4' hl8; have y0 := (blk_cell q8 0).trans rfl; have y1 := (blk_cell q8 1).trans rfl; have y2 := (blk_cell q8 2).trans rfl; have x0 := (blk_cell q4 0).trans rfl; have x1 := (blk_cell q4 1).trans rfl; have x2 := (blk_cell q4 2).trans rfl; have v0 := blk_frozen q4 0; have v1 := blk_frozen q4 1; have v2 := blk_frozen q4 2)
    have p4 : (((w8.setCell ⟨b4, 0, none⟩ (.string l2)).setCell ⟨b4, 1, none⟩ (.int .i64 3)).setCell ⟨b4, 2, none⟩ (.bool false)).heap[b4]? = some (.cells #[.string l2, .int .i64 3, .bool false] 34 (0, 0)) := by
      simpa using blk_set (blk_set (blk_set q4 0 (.string l2)) 1 (.int .i64 3)) 2 (.bool false)
    have hS9 : SS (((w8.setCell ⟨b4, 0, none⟩ (.string l2)).setCell ⟨b4, 1, none⟩ (.int .i64 3)).setCell ⟨b4, 2, none⟩ (.bool false)) g lb 3 := (((hS7.below hl8).far n4g n4l _).far n4g n4l _).far n4g n4l _
    have hw4 : w.heap.size ≤ b4 := by have := hl3.size; have := E4.out; omega
    have hk9 : KeepBut w (((w8.setCell ⟨b4, 0, none⟩ (.string l2)).setCell ⟨b4, 1, none⟩ (.int .i64 3)).setCell ⟨b4, 2, none⟩ (.bool false)) g none :=
      keep_set (keep_set (keep_set (keep_below (keep_set (KeepBut.of_below hl7 g none) (.inl rfl) _) hl8) (.inr hw4) _) (.inr hw4) _) (.inr hw4) _
    have hB9 : Below w0.heap.size w0 (((w8.setCell ⟨b4, 0, none⟩ (.string l2)).setCell ⟨b4, 1, none⟩ (.int .i64 3)).setCell ⟨b4, 2, none⟩ (.bool false)) := by
      have hz := HW.out.size
      have h6 := below_then HW.out hz hl7
      exact ((((below_then (h6.setCell hg _) (by have := h6.size; simpa using this) hl8).setCell (show w0.heap.size ≤ b4 by omega) _).setCell (show w0.heap.size ≤ b4 by omega) _).setCell (show w0.heap.size ≤ b4 by omega) _)
    generalize hq9 : World.setCell (World.setCell (World.setCell w8 _ _) _ _) _ _ = w9 at *
    have r0 : w9.cell? ⟨b4, 0, none⟩ = some (.string l2) := (blk_cell p4 0).trans rfl
    have r1 : w9.cell? ⟨b4, 1, none⟩ = some (.int .i64 3) := (blk_cell p4 1).trans rfl
    have r2 : w9.cell? ⟨b4, 2, none⟩ = some (.bool false) := (blk_cell p4 2).trans rfl
    (try simp only [Exit.inBlock, Exit.then])
    refine bodyPost_ret (by simp [results, Tryd.results54, go_sem, r0, r1, r2]; try rfl) rfl ?_
    exact ⟨rfl, hS9, hB9, hk9⟩
end Go.Proofs.YtiedbnjoomcdbaaDoor.PO
set_option linter.unusedVariables false
set_option linter.unusedSimpArgs false
namespace Go.Proofs.YtiedbnjoomcdbaaDoor.PO
open Go.RowKit Go.Proofs.YtiedbnjoomcdbaaDoorW.PrintWords Go.Proofs.YtiedbnjoomcdbaaDoorW.PrintLast Go.Proofs.YtiedbnjoomcdbaaDoorW.PrintMore

theorem infoNode0 : (Tryd.prog.info? 56).map (fun i => (i.zero.map (fun z => z.cells.size), i.size, i.bytes)) = some (some 8, 8, 128) := by kernel_rfl
theorem infoNode : ∃ i z, Tryd.prog.info? 56 = some i ∧ i.zero = some z ∧ i.size = 8 ∧ i.bytes = 128 ∧ z.cells.size = 8 := by
  obtain ⟨i, hi, e⟩ := Option.map_eq_some_iff.1 infoNode0
  simp only [Prod.mk.injEq] at e
  obtain ⟨z, hz, e1⟩ := Option.map_eq_some_iff.1 e.1
  exact ⟨i, z, hi, hz, e.2.1, e.2.2, e1⟩
theorem add0 (b j : Nat) : (⟨b, 0, none⟩ : Addr).add j = ⟨b, j, none⟩ := by unfold Addr.add; split <;> simp_all
theorem news_cells (w : World) (l : List Value) (T : TypeId) : ∀ j u, l[j]? = some u → (w.alloc (.cells l.toArray T)).cell? ((⟨w.heap.size, 0, none⟩ : Addr).add j) = some u := by
  intro j u hj
  rw [add0, blk_cell (blk_new w _) j, List.getElem?_toArray, hj]
theorem one8 {a b c d e f g h : Value} (h1 : a.oneCell' = true) (h2 : b.oneCell' = true) (h3 : c.oneCell' = true) (h4 : d.oneCell' = true) (h5 : e.oneCell' = true) (h6 : f.oneCell' = true) (h7 : g.oneCell' = true) (h8 : h.oneCell' = true) :
    ∀ u ∈ [a, b, c, d, e, f, g, h], u.oneCell' = true := by
  intro u hu
  simp only [List.mem_cons, List.not_mem_nil, or_false] at hu
  rcases hu with rfl | rfl | rfl | rfl | rfl | rfl | rfl | rfl <;> assumption
/-- the world behind 'l := r.lines[r.at]' -/
theorem SS.next {W : World} {g lb : Nat} {i : Int} (h : SS W g lb i) (o : Obj) : SS (W.alloc o) g lb i := h.below (below_alloc (Below.refl _ _) _)

set_option maxHeartbeats 8000000 in
set_option maxRecDepth 100000 in
theorem blocks_in (g lb : Nat) (w0 w : World) (hS : SS w g lb 1) (hB : Below w0.heap.size w0 w) (hg : w0.heap.size ≤ g) :
    Calls Tryd.prog 27 #[.pointer (some ⟨g, 0, none⟩), .int .i64 1] w fun e w' =>
      (∃ a c, e = .returned (.slice (some a) 1 c)) ∧ SS w' g lb 2 ∧ Below w0.heap.size w0 w' ∧ KeepBut w w' g none := by
  obtain ⟨iN, zN, hiN, hzN, hsN, hbN, hcN⟩ := infoNode
  have hu34 := Tryd.underlying34
  have hu38 := Tryd.underlying38
  have hu56 := Tryd.underlying56
  have HW := Aside0.mk hB
  clear hB
  have G0 := blk_lt hS.1
  have L0 := blk_lt hS.2.1
  obtain ⟨⟨f0, f1, f2, f3, f4⟩, k0, k1, k2, k3, k4, k5, k6, k7, k8⟩ := hS.facts
  go_enter Tryd.func27, Tryd.ntmps27
  go_wp2_with (fail)
  refine wp_loop_rounds 2 ?_
  rw [rounds_succ]
  go_wp2_with (fail)
  go_quiet (fail)
  go_wp2_with (fail)
  generalize hq : World.drewN w _ = w5
  have hS5 : SS w5 g lb 1 := by rw [← hq]; exact hS.drewN _
  have hl5 : Below w.heap.size w w5 := by rw [← hq]; exact pw_below_drewN (Below.refl _ _) _
  clear f0 f1 f2 f3 f4 k0 k1 k2 k3 k4 k5 k6 k7 k8 hq
  obtain ⟨⟨f0, f1, f2, f3, f4⟩, k0, k1, k2, k3, k4, k5, k6, k7, k8⟩ := hS5.facts
  have hSA := hS5.next (.cells #[.string ⟨#[]⟩, .int .i64 0, .bool false] 34)
  obtain ⟨⟨a0, a1, a2, a3, a4⟩, m0, m1, m2, m3, m4, m5, m6, m7, m8⟩ := hSA.facts
  go_region
  all_goals
    generalize hq : World.drew (World.alloc w5 _) = w6
    have hS6 : SS w6 g lb 1 := by rw [← hq]; exact hS5.below (below_drew (below_alloc (Below.refl _ _) _))
    have hl6 : Below w.heap.size w w6 := by rw [← hq]; exact below_drew (below_alloc hl5 _)
    have hb8 : w6.heap[w5.heap.size]? = some (.cells #[.string l1, .int .i64 2, .bool false] 34 (0, 0)) := by rw [← hq]; exact blk_new w5 _
    have n8g : w5.heap.size ≠ g := by have := hl5.size; omega
    clear f0 f1 f2 f3 f4 k0 k1 k2 k3 k4 k5 k6 k7 k8 a0 a1 a2 a3 a4 m0 m1 m2 m3 m4 m5 m6 m7 m8 hq hS5 hSA hl5
    generalize w5.heap.size = b8 at *
    have z0 : w6.cell? ⟨b8, 0, none⟩ = some (.string l1) := (blk_cell hb8 0).trans rfl
    have z1 : w6.cell? ⟨b8, 1, none⟩ = some (.int .i64 2) := (blk_cell hb8 1).trans rfl
    have z2 : w6.cell? ⟨b8, 2, none⟩ = some (.bool false) := (blk_cell hb8 2).trans rfl
    go_wp2_with (first
      | (at_builtin; refine wpList_append_own _ rfl _ _ 35 rfl w8.heap.size 56 iN zN 8 128 Tryd.underlying35 hiN hzN hsN hbN hcN (by decide) _ 0 [] rfl (World.ownsRow_nil _ _ _ _) ⟨w8.heap.size, 0, none⟩ 1 1 [.int .i64 1, .string l1, .int .i64 2, .bool false, .slice none 0 0, .slice none 0 0, .string ⟨#[]⟩, .slice none 0 0] rfl rfl (news_cells _ _ _) (one8 rfl rfl rfl rfl rfl rfl rfl rfl) (by decide) (by decide) (by simp) ?_; intro v9 w9 hown hgrow _; have hl9 : Below w8.heap.size w8 w9 := pw_below_grown (below_alloc (Below.refl _ _) _) none (by simp) hgrow (by simp); have hS9 := (hS6.below hl8).below hl9; obtain ⟨⟨t0, t1, t2, t3, t4⟩, s0, s1, s2, s3, s4, s5, s6, s7, s8⟩ := hS9.facts; obtain ⟨ga, ca, rfl, _, _⟩ := hown.form (by decide); clear hown hgrow)
      | go_at_call 40; refine (loop_Directive.calls 9 l1 2 false _ _ _ dir1).mono ?_; rintro e w8 ⟨rfl, hl8⟩; have q8 := blk_below hb8 hl8; have y0 : w8.cell? ⟨b8, 0, none⟩ = some (.string l1) := (blk_cell q8 0).trans rfl; have y1 : w8.cell? ⟨b8, 1, none⟩ = some (.int .i64 2) := (blk_cell q8 1).trans rfl; have y2 : w8.cell? ⟨b8, 2, none⟩ = some (.bool false) := (blk_cell q8 2).trans rfl)
  all_goals
    have hl89 : Below w.heap.size w w9 := below_then (below_then hl6 hl6.size hl8) (below_then hl6 hl6.size hl8).size hl9
    generalize hq : World.setCell w9 _ _ = wx
    have hSx : SS wx g lb 2 := by rw [← hq]; exact hS9.step 2
    have hkx : KeepBut w wx g none := by rw [← hq]; exact keep_set (KeepBut.of_below hl89 g none) (.inl rfl) _
    have hBx : Below w0.heap.size w0 wx := by rw [← hq]; exact (below_then HW.out HW.out.size hl89).setCell hg _
    clear hS9 hl89 hl9 t0 t1 t2 t3 t4 s0 s1 s2 s3 s4 s5 s6 s7 s8 hl8 q8 y0 y1 y2 z0 z1 z2 hb8 hS6 hl6 hq
    obtain ⟨⟨f0, f1, f2, f3, f4⟩, k0, k1, k2, k3, k4, k5, k6, k7, k8⟩ := hSx.facts
    rw [rounds_succ]
    go_wp2_with (fail)
    go_quiet (fail)
    go_wp2_with (fail)
    generalize hq : World.drewN wx _ = w5
    have hS5 : SS w5 g lb 2 := by rw [← hq]; exact hSx.drewN _
    have hl5 : Below wx.heap.size wx w5 := by rw [← hq]; exact pw_below_drewN (Below.refl _ _) _
    clear f0 f1 f2 f3 f4 k0 k1 k2 k3 k4 k5 k6 k7 k8 hq
    obtain ⟨⟨f0, f1, f2, f3, f4⟩, k0, k1, k2, k3, k4, k5, k6, k7, k8⟩ := hS5.facts
    have hSA := hS5.next (.cells #[.string ⟨#[]⟩, .int .i64 0, .bool false] 34)
    obtain ⟨⟨a0, a1, a2, a3, a4⟩, m0, m1, m2, m3, m4, m5, m6, m7, m8⟩ := hSA.facts
    go_region
  all_goals
    generalize hq : World.drew (World.alloc w5 _) = w6
    have hS6 : SS w6 g lb 2 := by rw [← hq]; exact hS5.below (below_drew (below_alloc (Below.refl _ _) _))
    have hl6 : Below wx.heap.size wx w6 := by rw [← hq]; exact below_drew (below_alloc hl5 _)
    have hb8 : w6.heap[w5.heap.size]? = some (.cells #[.string l2, .int .i64 3, .bool false] 34 (0, 0)) := by rw [← hq]; exact blk_new w5 _
    clear f0 f1 f2 f3 f4 k0 k1 k2 k3 k4 k5 k6 k7 k8 a0 a1 a2 a3 a4 m0 m1 m2 m3 m4 m5 m6 m7 m8 hq hS5 hSA hl5
    generalize w5.heap.size = b8 at *
    have z0 : w6.cell? ⟨b8, 0, none⟩ = some (.string l2) := (blk_cell hb8 0).trans rfl
    have z1 : w6.cell? ⟨b8, 1, none⟩ = some (.int .i64 3) := (blk_cell hb8 1).trans rfl
    have z2 : w6.cell? ⟨b8, 2, none⟩ = some (.bool false) := (blk_cell hb8 2).trans rfl
    go_wp2_with (go_at_call 40; refine (loop_Directive.calls 9 l2 3 false _ _ _ dir2).mono ?_; rintro e w8 ⟨rfl, hl8⟩)
    go_ret
    have hl68 := below_then hl6 hl6.size hl8
    exact ⟨⟨_, _, rfl⟩, hS6.below hl8, below_then hBx hBx.size hl68, keep_below hkx hl68⟩
end Go.Proofs.YtiedbnjoomcdbaaDoor.PO
set_option linter.unusedVariables false
set_option linter.unusedSimpArgs false
namespace Go.Proofs.YtiedbnjoomcdbaaDoor.PO
open Go.RowKit Go.Proofs.YtiedbnjoomcdbaaDoorW.PrintWords Go.Proofs.YtiedbnjoomcdbaaDoorW.PrintLast Go.Proofs.YtiedbnjoomcdbaaDoorW.PrintMore

set_option maxHeartbeats 8000000 in
set_option maxRecDepth 100000 in
theorem loop_ok (g lb : Nat) (w0 w : World) (hS : SS w g lb 1) (hB : Below w0.heap.size w0 w) (hg : w0.heap.size ≤ g) :
    Calls Tryd.prog 42 #[.pointer (some ⟨g, 0, none⟩), .agg #[.string l0, .int .i64 1, .bool false], .string ⟨#[102, 111, 114]⟩, .string ⟨#[105, 32, 105, 110, 32, 97, 32, 98]⟩, .int .i64 1] w fun e w' =>
      (∃ A n c a c', e = .returned (.agg #[.int .i64 3, .string l0, .int .i64 1, .bool false, .slice none 0 0, .slice A n c, .string ⟨#[97, 32, 98]⟩, .slice (some a) 1 c'])) ∧ SS w' g lb 3 ∧ Below w0.heap.size w0 w' ∧ KeepBut w w' g none := by
  have hu34 := Tryd.underlying34
  have hu38 := Tryd.underlying38
  have hu56 := Tryd.underlying56
  have HW := Aside0.mk hB
  clear hB
  have G0 := blk_lt hS.1
  have L0 := blk_lt hS.2.1
  go_enter Tryd.func42, Tryd.ntmps42
  go_wp2_with (first
    | ((with_reducible refine gate_dst (N := 6) rfl ?_); (try (refine gate_guard (by rfl) ?_; dsimp only)); refine box_event ?hg (N := 6) ?hd (cs := #[.string l0, .int .i64 1, .bool false]) (t := 34) ?hr ?_; (case hd => rfl); (case hg => rfl); (case hr => first | (go_simp; done) | (go_simp; rfl)); intro b6 e6 w6 hb6 hl6; have E6 := Aside0.mk e6; clear e6; have i0 : w6.cell? ⟨b6, 0, none⟩ = some (.string l0) := (blk_cell hb6 0).trans rfl; have i1 : w6.cell? ⟨b6, 1, none⟩ = some (.int .i64 1) := (blk_cell hb6 1).trans rfl; have i2 : w6.cell? ⟨b6, 2, none⟩ = some (.bool false) := (blk_cell hb6 2).trans rfl)
    | ((with_reducible refine gate_dst (N := 10) rfl ?_); (try (refine gate_guard (by rfl) ?_; dsimp only)); refine box_event ?hg (N := 10) ?hd (cs := #[.int .i64 0, .string ⟨#[]⟩, .int .i64 0, .bool false, .slice none 0 0, .slice none 0 0, .string ⟨#[]⟩, .slice none 0 0]) (t := 56) ?hr ?_; (case hd => rfl); (case hg => rfl); (case hr => first | (go_simp; done) | (go_simp; rfl)); intro b10 e10 w10 hb10 hl10; have E10 := Aside0.mk e10; clear e10; have hb6' := blk_below hb6 hl10; have j0 : w10.cell? ⟨b6, 0, none⟩ = some (.string l0) := (blk_cell hb6' 0).trans rfl; have j1 : w10.cell? ⟨b6, 1, none⟩ = some (.int .i64 1) := (blk_cell hb6' 1).trans rfl; have j2 : w10.cell? ⟨b6, 2, none⟩ = some (.bool false) := (blk_cell hb6' 2).trans rfl; clear i0 i1 i2 hb6))
  have hl06 : Below w.heap.size w w10 := below_then hl6 hl6.size hl10
  generalize hq : World.alloc w10 _ = w11
  have hb11 : w11.heap[w10.heap.size]? = some (.cells #[.int .i64 3, .string l0, .int .i64 1, .bool false, .slice none 0 0, .slice none 0 0, .string ⟨#[]⟩, .slice none 0 0] 56 (0, 0)) := by rw [← hq]; exact blk_new w10 _
  have hl11 : Below w10.heap.size w10 w11 := by rw [← hq]; exact below_alloc (Below.refl _ _) _
  have n1 : b6 = w.heap.size := E6.out
  have n2 : b10 = w6.heap.size := E10.out
  have n3 := hl6.size
  have n4 := hl10.size
  have n5 := blk_lt hb6'
  have n6 := blk_lt hb10
  have hW6 : w.heap.size ≤ b6 := by omega
  have hW10 : w.heap.size ≤ b10 := by omega
  have hW11 : w.heap.size ≤ w10.heap.size := by omega
  have n116 : w10.heap.size ≠ b6 := by omega
  have n1110 : w10.heap.size ≠ b10 := by omega
  have hS11 := (hS.below hl06).below hl11
  have n11 := blk_lt hb11
  have hl0 := below_then hl06 hl06.size hl11
  have hb6'' := blk_below hb6' hl11
  have hb10' := blk_below hb10 hl11
  clear hq n1 n2 n3 n4 n5 n6 E6 E10 hl6 hl10 hl06 hl11 j0 j1 j2 hb6' hb10
  generalize w10.heap.size = b11 at *
  have n11g : b11 ≠ g := by omega
  have n11l : b11 ≠ lb := by omega
  have n6g : b6 ≠ g := by omega
  have n10g : b10 ≠ g := by omega
  have n10l : b10 ≠ lb := by omega
  refine (loop_loopText.calls 9 _ _ _ _ _ text0).mono ?_
  rintro e w12 ⟨vN, rfl, hR, hl12⟩
  obtain ⟨An, cn, eN⟩ := Kd.R_slice hR
  obtain ⟨kN, hkN⟩ : ∃ k : Nat, ([⟨#[105]⟩] : List ByteArray).length = k := ⟨_, rfl⟩
  rw [hkN] at eN
  subst eN
  clear hR hkN
  have p11 := blk_below hb11 hl12
  have y5 : w12.cell? ⟨b11, 5, none⟩ = some (.slice none 0 0) := (blk_cell p11 5).trans rfl
  have y6 : w12.cell? ⟨b11, 6, none⟩ = some (.string ⟨#[]⟩) := (blk_cell p11 6).trans rfl
  have u5 := blk_frozen p11 5
  have u6 := blk_frozen p11 6
  go_wp2_with (fail)
  have p13 : ((w12.setCell ⟨b11, 5, none⟩ (.slice An kN cn)).setCell ⟨b11, 6, none⟩ (.string ⟨#[97, 32, 98]⟩)).heap[b11]? = some (.cells #[.int .i64 3, .string l0, .int .i64 1, .bool false, .slice none 0 0, .slice An kN cn, .string ⟨#[97, 32, 98]⟩, .slice none 0 0] 56 (0, 0)) := by
    simpa using blk_set (blk_set p11 5 (.slice An kN cn)) 6 (.string ⟨#[97, 32, 98]⟩)
  have p6 := blk_far (blk_far (blk_below hb6'' hl12) (p := ⟨b11, 5, none⟩) n116.symm (.slice An kN cn)) (p := ⟨b11, 6, none⟩) n116.symm (.string ⟨#[97, 32, 98]⟩)
  have p10 := blk_far (blk_far (blk_below hb10' hl12) (p := ⟨b11, 5, none⟩) n1110.symm (.slice An kN cn)) (p := ⟨b11, 6, none⟩) n1110.symm (.string ⟨#[97, 32, 98]⟩)
  have hS13 := ((hS11.below hl12).far n11g n11l (j := 5) (.slice An kN cn)).far n11g n11l (j := 6) (.string ⟨#[97, 32, 98]⟩)
  have hl012 := below_then hl0 hl0.size hl12
  have hk13 := keep_set (j := 6) (keep_set (j := 5) (KeepBut.of_below hl012 g none) (.inr hW11) (.slice An kN cn)) (.inr hW11) (.string ⟨#[97, 32, 98]⟩)
  have hW0 := HW.out.size
  have hB13 := ((below_then HW.out HW.out.size hl012).setCell (p := ⟨b11, 5, none⟩) (show w0.heap.size ≤ b11 by omega) (.slice An kN cn)).setCell (p := ⟨b11, 6, none⟩) (show w0.heap.size ≤ b11 by omega) (.string ⟨#[97, 32, 98]⟩)
  clear y5 y6 u5 u6 p11 hl012 hl0 hl12 hS11 hb11 hb6'' hb10'
  generalize World.setCell (World.setCell w12 _ _) _ _ = w13 at *
  refine (blocks_in g lb w0 w13 hS13 hB13 hg).mono ?_
  rintro e w14 ⟨⟨ak, ck, rfl⟩, hS14, hB14, hk14⟩
  have p14 := hk14.blk p13 n11g (by simp)
  have p6' := hk14.blk p6 n6g (by simp)
  have p10' := hk14.blk p10 n10g (by simp)
  have hk014 := hk13.trans hk14 (.inl rfl)
  clear p13 p6 p10 hk13 hk14 hS13 hB13
  have y7 : w14.cell? ⟨b11, 7, none⟩ = some (.slice none 0 0) := (blk_cell p14 7).trans rfl
  have u7 := blk_frozen p14 7
  have p6s := blk_far p6' (p := ⟨b11, 7, none⟩) n116.symm (.slice (some ak) 1 ck)
  have x0 : (w14.setCell ⟨b11, 7, none⟩ (.slice (some ak) 1 ck)).cell? ⟨b6, 0, none⟩ = some (.string l0) := (blk_cell p6s 0).trans rfl
  have x1 : (w14.setCell ⟨b11, 7, none⟩ (.slice (some ak) 1 ck)).cell? ⟨b6, 1, none⟩ = some (.int .i64 1) := (blk_cell p6s 1).trans rfl
  have x2 : (w14.setCell ⟨b11, 7, none⟩ (.slice (some ak) 1 ck)).cell? ⟨b6, 2, none⟩ = some (.bool false) := (blk_cell p6s 2).trans rfl
  go_wp2_with (fail)
  have p15 : (w14.setCell ⟨b11, 7, none⟩ (.slice (some ak) 1 ck)).heap[b11]? = some (.cells #[.int .i64 3, .string l0, .int .i64 1, .bool false, .slice none 0 0, .slice An kN cn, .string ⟨#[97, 32, 98]⟩, .slice (some ak) 1 ck] 56 (0, 0)) := by
    simpa using blk_set p14 7 (.slice (some ak) 1 ck)
  have p10s := blk_far p10' (p := ⟨b11, 7, none⟩) n1110.symm (.slice (some ak) 1 ck)
  have hS15 := hS14.far n11g n11l (j := 7) (.slice (some ak) 1 ck)
  have hk15 := keep_set (j := 7) hk014 (.inr hW11) (.slice (some ak) 1 ck)
  have hB15 := hB14.setCell (p := ⟨b11, 7, none⟩) (show w0.heap.size ≤ b11 by omega) (.slice (some ak) 1 ck)
  clear x0 x1 x2 y7 u7 p6s p6' p14 p10' hk014 hB14 hS14
  generalize World.setCell w14 _ _ = w15 at *
  refine (closing_end g lb l0 1 false w0 w15 hS15 hB15 hg).mono ?_
  rintro e w16 ⟨rfl, hS16, hB16, hk16⟩
  have hA : Below w16.heap.size w16 (w16.alloc (.cells #[.string l2, .int .i64 3, .bool false] 34)) := below_alloc (Below.refl _ _) _
  have p16 := blk_below (hk16.blk p15 n11g (by simp)) hA
  have q16 := blk_below (hk16.blk p10s n10g (by simp)) hA
  have hk16' := keep_below (hk15.trans hk16 (.inl rfl)) hA
  have hB16' := below_then hB16 hB16.size hA
  have hS16' := hS16.below hA
  have x0 : (w16.alloc (.cells #[.string l2, .int .i64 3, .bool false] 34)).cell? ⟨b11, 0, none⟩ = some (.int .i64 3) := (blk_cell p16 0).trans rfl
  have x1 : (w16.alloc (.cells #[.string l2, .int .i64 3, .bool false] 34)).cell? ⟨b11, 1, none⟩ = some (.string l0) := (blk_cell p16 1).trans rfl
  have x2 : (w16.alloc (.cells #[.string l2, .int .i64 3, .bool false] 34)).cell? ⟨b11, 2, none⟩ = some (.int .i64 1) := (blk_cell p16 2).trans rfl
  have x3 : (w16.alloc (.cells #[.string l2, .int .i64 3, .bool false] 34)).cell? ⟨b11, 3, none⟩ = some (.bool false) := (blk_cell p16 3).trans rfl
  have x4 : (w16.alloc (.cells #[.string l2, .int .i64 3, .bool false] 34)).cell? ⟨b11, 4, none⟩ = some (.slice none 0 0) := (blk_cell p16 4).trans rfl
  have x5 : (w16.alloc (.cells #[.string l2, .int .i64 3, .bool false] 34)).cell? ⟨b11, 5, none⟩ = some (.slice An kN cn) := (blk_cell p16 5).trans rfl
  have x6 : (w16.alloc (.cells #[.string l2, .int .i64 3, .bool false] 34)).cell? ⟨b11, 6, none⟩ = some (.string ⟨#[97, 32, 98]⟩) := (blk_cell p16 6).trans rfl
  have x7 : (w16.alloc (.cells #[.string l2, .int .i64 3, .bool false] 34)).cell? ⟨b11, 7, none⟩ = some (.slice (some ak) 1 ck) := (blk_cell p16 7).trans rfl
  have y0 : (w16.alloc (.cells #[.string l2, .int .i64 3, .bool false] 34)).cell? ⟨b10, 0, none⟩ = some (.int .i64 0) := (blk_cell q16 0).trans rfl
  have u0 := blk_frozen q16 0
  have y1 : (w16.alloc (.cells #[.string l2, .int .i64 3, .bool false] 34)).cell? ⟨b10, 1, none⟩ = some (.string ⟨#[]⟩) := (blk_cell q16 1).trans rfl
  have u1 := blk_frozen q16 1
  have y2 : (w16.alloc (.cells #[.string l2, .int .i64 3, .bool false] 34)).cell? ⟨b10, 2, none⟩ = some (.int .i64 0) := (blk_cell q16 2).trans rfl
  have u2 := blk_frozen q16 2
  have y3 : (w16.alloc (.cells #[.string l2, .int .i64 3, .bool false] 34)).cell? ⟨b10, 3, none⟩ = some (.bool false) := (blk_cell q16 3).trans rfl
  have u3 := blk_frozen q16 3
  have y4 : (w16.alloc (.cells #[.string l2, .int .i64 3, .bool false] 34)).cell? ⟨b10, 4, none⟩ = some (.slice none 0 0) := (blk_cell q16 4).trans rfl
  have u4 := blk_frozen q16 4
  have y5 : (w16.alloc (.cells #[.string l2, .int .i64 3, .bool false] 34)).cell? ⟨b10, 5, none⟩ = some (.slice none 0 0) := (blk_cell q16 5).trans rfl
  have u5 := blk_frozen q16 5
  have y6 : (w16.alloc (.cells #[.string l2, .int .i64 3, .bool false] 34)).cell? ⟨b10, 6, none⟩ = some (.string ⟨#[]⟩) := (blk_cell q16 6).trans rfl
  have u6 := blk_frozen q16 6
  have y7 : (w16.alloc (.cells #[.string l2, .int .i64 3, .bool false] 34)).cell? ⟨b10, 7, none⟩ = some (.slice none 0 0) := (blk_cell q16 7).trans rfl
  have u7 := blk_frozen q16 7
  go_wp2_with (fail)
  have hW010 : w0.heap.size ≤ b10 := by omega
  have p17 : (((((((((w16.alloc (.cells #[.string l2, .int .i64 3, .bool false] 34)).setCell ⟨b10, 0, none⟩ (.int .i64 3)).setCell ⟨b10, 1, none⟩ (.string l0)).setCell ⟨b10, 2, none⟩ (.int .i64 1)).setCell ⟨b10, 3, none⟩ (.bool false)).setCell ⟨b10, 4, none⟩ (.slice none 0 0)).setCell ⟨b10, 5, none⟩ (.slice An kN cn)).setCell ⟨b10, 6, none⟩ (.string ⟨#[97, 32, 98]⟩)).setCell ⟨b10, 7, none⟩ (.slice (some ak) 1 ck)).heap[b10]? = some (.cells #[.int .i64 3, .string l0, .int .i64 1, .bool false, .slice none 0 0, .slice An kN cn, .string ⟨#[97, 32, 98]⟩, .slice (some ak) 1 ck] 56 (0, 0)) := by
    simpa using (blk_set (blk_set (blk_set (blk_set (blk_set (blk_set (blk_set (blk_set q16 0 (.int .i64 3)) 1 (.string l0)) 2 (.int .i64 1)) 3 (.bool false)) 4 (.slice none 0 0)) 5 (.slice An kN cn)) 6 (.string ⟨#[97, 32, 98]⟩)) 7 (.slice (some ak) 1 ck))
  have hS17 : SS (((((((((w16.alloc (.cells #[.string l2, .int .i64 3, .bool false] 34)).setCell ⟨b10, 0, none⟩ (.int .i64 3)).setCell ⟨b10, 1, none⟩ (.string l0)).setCell ⟨b10, 2, none⟩ (.int .i64 1)).setCell ⟨b10, 3, none⟩ (.bool false)).setCell ⟨b10, 4, none⟩ (.slice none 0 0)).setCell ⟨b10, 5, none⟩ (.slice An kN cn)).setCell ⟨b10, 6, none⟩ (.string ⟨#[97, 32, 98]⟩)).setCell ⟨b10, 7, none⟩ (.slice (some ak) 1 ck)) g lb 3 := ((((((((hS16'.far n10g n10l (j := 0) (.int .i64 3)).far n10g n10l (j := 1) (.string l0)).far n10g n10l (j := 2) (.int .i64 1)).far n10g n10l (j := 3) (.bool false)).far n10g n10l (j := 4) (.slice none 0 0)).far n10g n10l (j := 5) (.slice An kN cn)).far n10g n10l (j := 6) (.string ⟨#[97, 32, 98]⟩)).far n10g n10l (j := 7) (.slice (some ak) 1 ck))
  have hk17 : KeepBut w (((((((((w16.alloc (.cells #[.string l2, .int .i64 3, .bool false] 34)).setCell ⟨b10, 0, none⟩ (.int .i64 3)).setCell ⟨b10, 1, none⟩ (.string l0)).setCell ⟨b10, 2, none⟩ (.int .i64 1)).setCell ⟨b10, 3, none⟩ (.bool false)).setCell ⟨b10, 4, none⟩ (.slice none 0 0)).setCell ⟨b10, 5, none⟩ (.slice An kN cn)).setCell ⟨b10, 6, none⟩ (.string ⟨#[97, 32, 98]⟩)).setCell ⟨b10, 7, none⟩ (.slice (some ak) 1 ck)) g none := (keep_set (j := 7) (keep_set (j := 6) (keep_set (j := 5) (keep_set (j := 4) (keep_set (j := 3) (keep_set (j := 2) (keep_set (j := 1) (keep_set (j := 0) hk16' (.inr hW10) (.int .i64 3)) (.inr hW10) (.string l0)) (.inr hW10) (.int .i64 1)) (.inr hW10) (.bool false)) (.inr hW10) (.slice none 0 0)) (.inr hW10) (.slice An kN cn)) (.inr hW10) (.string ⟨#[97, 32, 98]⟩)) (.inr hW10) (.slice (some ak) 1 ck))
  have hB17 : Below w0.heap.size w0 (((((((((w16.alloc (.cells #[.string l2, .int .i64 3, .bool false] 34)).setCell ⟨b10, 0, none⟩ (.int .i64 3)).setCell ⟨b10, 1, none⟩ (.string l0)).setCell ⟨b10, 2, none⟩ (.int .i64 1)).setCell ⟨b10, 3, none⟩ (.bool false)).setCell ⟨b10, 4, none⟩ (.slice none 0 0)).setCell ⟨b10, 5, none⟩ (.slice An kN cn)).setCell ⟨b10, 6, none⟩ (.string ⟨#[97, 32, 98]⟩)).setCell ⟨b10, 7, none⟩ (.slice (some ak) 1 ck)) := ((((((((hB16'.setCell (p := ⟨b10, 0, none⟩) hW010 (.int .i64 3)).setCell (p := ⟨b10, 1, none⟩) hW010 (.string l0)).setCell (p := ⟨b10, 2, none⟩) hW010 (.int .i64 1)).setCell (p := ⟨b10, 3, none⟩) hW010 (.bool false)).setCell (p := ⟨b10, 4, none⟩) hW010 (.slice none 0 0)).setCell (p := ⟨b10, 5, none⟩) hW010 (.slice An kN cn)).setCell (p := ⟨b10, 6, none⟩) hW010 (.string ⟨#[97, 32, 98]⟩)).setCell (p := ⟨b10, 7, none⟩) hW010 (.slice (some ak) 1 ck))
  generalize hq17 : World.setCell (World.setCell (World.setCell (World.setCell (World.setCell (World.setCell (World.setCell (World.setCell _ _ _) _ _) _ _) _ _) _ _) _ _) _ _) _ _ = w17 at *
  have r0 : w17.cell? ⟨b10, 0, none⟩ = some (.int .i64 3) := (blk_cell p17 0).trans rfl
  have r1 : w17.cell? ⟨b10, 1, none⟩ = some (.string l0) := (blk_cell p17 1).trans rfl
  have r2 : w17.cell? ⟨b10, 2, none⟩ = some (.int .i64 1) := (blk_cell p17 2).trans rfl
  have r3 : w17.cell? ⟨b10, 3, none⟩ = some (.bool false) := (blk_cell p17 3).trans rfl
  have r4 : w17.cell? ⟨b10, 4, none⟩ = some (.slice none 0 0) := (blk_cell p17 4).trans rfl
  have r5 : w17.cell? ⟨b10, 5, none⟩ = some (.slice An kN cn) := (blk_cell p17 5).trans rfl
  have r6 : w17.cell? ⟨b10, 6, none⟩ = some (.string ⟨#[97, 32, 98]⟩) := (blk_cell p17 6).trans rfl
  have r7 : w17.cell? ⟨b10, 7, none⟩ = some (.slice (some ak) 1 ck) := (blk_cell p17 7).trans rfl
  (try simp only [Exit.inBlock, Exit.then])
  refine bodyPost_ret (by simp [results, Tryd.results42, go_sem, r0, r1, r2, r3, r4, r5, r6, r7]; try rfl) rfl ?_
  exact ⟨⟨_, _, _, _, _, rfl⟩, hS17, hB17, hk17⟩
end Go.Proofs.YtiedbnjoomcdbaaDoor.PO
set_option linter.unusedVariables false
set_option linter.unusedSimpArgs false
namespace Go.Proofs.YtiedbnjoomcdbaaDoor.PO
open Go.RowKit Go.Proofs.YtiedbnjoomcdbaaDoorW.PrintWords Go.Proofs.YtiedbnjoomcdbaaDoorW.PrintLast Go.Proofs.YtiedbnjoomcdbaaDoorW.PrintMore

/-- a block of nodes whose first is alive's loop -/
def NodeAt (W : World) (a : Nat) : Prop := ∃ cur, W.heap[a]? = some (.cells cur 56 (0, 0)) ∧ cur[0]? = some (.int .i64 3) ∧ cur[6]? = some (.string ⟨#[97, 32, 98]⟩) ∧ ∃ k c, cur[7]? = some (.slice (some k) 1 c)
theorem NodeAt.below {W W2 : World} {a : Nat} (h : NodeAt W a) (k : Below W.heap.size W W2) : NodeAt W2 a := by
  obtain ⟨cur, hb, h1⟩ := h
  exact ⟨cur, blk_below hb k, h1⟩
theorem own_cur {cur : Array Value} {l : List Value} (h : cur.toList.take 8 = l) (j : Nat) (hj : j < 8) : cur[j]? = l[j]? := by
  rw [← h, List.getElem?_take, if_pos hj, Array.getElem?_toList]

set_option maxHeartbeats 8000000 in
set_option maxRecDepth 100000 in
theorem blocks_out (g lb : Nat) (w0 w : World) (hS : SS w g lb 0) (hB : Below w0.heap.size w0 w) (hg : w0.heap.size ≤ g) :
    Calls Tryd.prog 27 #[.pointer (some ⟨g, 0, none⟩), .int .i64 0] w fun e w' =>
      (∃ a c, e = .returned (.slice (some ⟨a, 0, none⟩) 1 c) ∧ NodeAt w' a) ∧ SS w' g lb 3 ∧ Below w0.heap.size w0 w' ∧ KeepBut w w' g none := by
  obtain ⟨iN, zN, hiN, hzN, hsN, hbN, hcN⟩ := infoNode
  have hu34 := Tryd.underlying34
  have hu38 := Tryd.underlying38
  have hu56 := Tryd.underlying56
  have HW := Aside0.mk hB
  clear hB
  have G0 := blk_lt hS.1
  have L0 := blk_lt hS.2.1
  obtain ⟨⟨f0, f1, f2, f3, f4⟩, k0, k1, k2, k3, k4, k5, k6, k7, k8⟩ := hS.facts
  go_enter Tryd.func27, Tryd.ntmps27
  go_wp2_with (fail)
  refine wp_loop_rounds 2 ?_
  rw [rounds_succ]
  go_wp2_with (fail)
  go_quiet (fail)
  go_wp2_with (fail)
  generalize hq : World.drewN w _ = w5
  have hS5 : SS w5 g lb 0 := by rw [← hq]; exact hS.drewN _
  have hl5 : Below w.heap.size w w5 := by rw [← hq]; exact pw_below_drewN (Below.refl _ _) _
  clear f0 f1 f2 f3 f4 k0 k1 k2 k3 k4 k5 k6 k7 k8 hq
  obtain ⟨⟨f0, f1, f2, f3, f4⟩, k0, k1, k2, k3, k4, k5, k6, k7, k8⟩ := hS5.facts
  have hSA := hS5.next (.cells #[.string ⟨#[]⟩, .int .i64 0, .bool false] 34)
  obtain ⟨⟨a0, a1, a2, a3, a4⟩, m0, m1, m2, m3, m4, m5, m6, m7, m8⟩ := hSA.facts
  go_region
  all_goals
    generalize hq : World.drew (World.alloc w5 _) = w6
    have hS6 : SS w6 g lb 0 := by rw [← hq]; exact hS5.below (below_drew (below_alloc (Below.refl _ _) _))
    have hl6 : Below w.heap.size w w6 := by rw [← hq]; exact below_drew (below_alloc hl5 _)
    have hb8 : w6.heap[w5.heap.size]? = some (.cells #[.string l0, .int .i64 1, .bool false] 34 (0, 0)) := by rw [← hq]; exact blk_new w5 _
    have n8g : w5.heap.size ≠ g := by have := hl5.size; omega
    clear f0 f1 f2 f3 f4 k0 k1 k2 k3 k4 k5 k6 k7 k8 a0 a1 a2 a3 a4 m0 m1 m2 m3 m4 m5 m6 m7 m8 hq hS5 hSA hl5
    generalize w5.heap.size = b8 at *
    have z0 : w6.cell? ⟨b8, 0, none⟩ = some (.string l0) := (blk_cell hb8 0).trans rfl
    have z1 : w6.cell? ⟨b8, 1, none⟩ = some (.int .i64 1) := (blk_cell hb8 1).trans rfl
    have z2 : w6.cell? ⟨b8, 2, none⟩ = some (.bool false) := (blk_cell hb8 2).trans rfl
    go_wp2_with (fail)
    refine (loop_Directive.calls 9 l0 1 false _ _ _ dir0).mono ?_
    rintro e w8 ⟨rfl, hl8⟩
    have q8 := blk_far (blk_below hb8 hl8) (p := ⟨g, 1, none⟩) n8g (.int .i64 1)
    have y0 : (w8.setCell ⟨g, 1, none⟩ (.int .i64 1)).cell? ⟨b8, 0, none⟩ = some (.string l0) := (blk_cell q8 0).trans rfl
    have y1 : (w8.setCell ⟨g, 1, none⟩ (.int .i64 1)).cell? ⟨b8, 1, none⟩ = some (.int .i64 1) := (blk_cell q8 1).trans rfl
    have y2 : (w8.setCell ⟨g, 1, none⟩ (.int .i64 1)).cell? ⟨b8, 2, none⟩ = some (.bool false) := (blk_cell q8 2).trans rfl
    have hS8 := hS6.below hl8
    obtain ⟨⟨t0, t1, t2, t3, t4⟩, s0, s1, s2, s3, s4, s5, s6, s7, s8⟩ := hS8.facts
    go_wp2_with (fail)
  all_goals
    have hl68 := below_then hl6 hl6.size hl8
    have hSx := hS8.step 1
    have hkx := keep_set (j := 1) (KeepBut.of_below hl68 g none) (.inl rfl) (.int .i64 1)
    have hBx := (below_then HW.out HW.out.size hl68).setCell (p := ⟨g, 1, none⟩) hg (.int .i64 1)
    clear t0 t1 t2 t3 t4 s0 s1 s2 s3 s4 s5 s6 s7 s8 y0 y1 y2 z0 z1 z2 q8 hb8 hS6 hS8 hl8 hl68
    generalize World.setCell w8 _ _ = wx at *
    refine (loop_ok g lb w0 wx hSx hBx hg).mono ?_
    rintro e w10 ⟨⟨An, kn, cn, ak, ck, rfl⟩, hS10, hB10, hk10⟩
    have hk010 := hkx.trans hk10 (.inl rfl)
    clear hSx hkx hBx hk10
    go_wp2_with (first
      | (at_builtin; refine wpList_append_own _ rfl _ _ 35 rfl w10.heap.size 56 iN zN 8 128 Tryd.underlying35 hiN hzN hsN hbN hcN (by decide) _ 0 [] rfl (World.ownsRow_nil _ _ _ _) ⟨w10.heap.size, 0, none⟩ 1 1 [.int .i64 3, .string l0, .int .i64 1, .bool false, .slice none 0 0, .slice An kn cn, .string ⟨#[97, 32, 98]⟩, .slice (some ak) 1 ck] rfl rfl (news_cells _ _ _) (one8 rfl rfl rfl rfl rfl rfl rfl rfl) (by decide) (by decide) (by simp) ?_; intro v9 w9 hown hgrow _; have hl9 : Below w10.heap.size w10 w9 := pw_below_grown (below_alloc (Below.refl _ _) _) none (by simp) hgrow (by simp); have hS9 := hS10.below hl9; obtain ⟨ga, ca, cur, rfl, _, hcur, _, _, _, htake⟩ := hown.2.resolve_left (by simp); have hN9 : NodeAt w9 ga := ⟨cur, hcur, own_cur htake 0 (by decide), own_cur htake 6 (by decide), ak, ck, own_cur htake 7 (by decide)⟩; clear hown hgrow hcur htake))
    have hk9 := keep_below hk010 hl9
    have hB9 := below_then hB10 hB10.size hl9
    clear hk010 hB10 hl9 hS10
    obtain ⟨⟨f0, f1, f2, f3, f4⟩, k0, k1, k2, k3, k4, k5, k6, k7, k8⟩ := hS9.facts
    rw [rounds_succ]
    go_wp2_with (fail)
    go_quiet (fail)
    go_wp2_with (fail)
    go_ret
    exact ⟨⟨_, _, rfl, hN9⟩, hS9.drewN _, pw_below_drewN hB9 _, hk9⟩
end Go.Proofs.YtiedbnjoomcdbaaDoor.PO
set_option linter.unusedVariables false
set_option linter.unusedSimpArgs false
namespace Go.Proofs.YtiedbnjoomcdbaaDoor.PO
open Go.RowKit Go.Proofs.YtiedbnjoomcdbaaDoorW.PrintWords Go.Proofs.YtiedbnjoomcdbaaDoorW.PrintLast Go.Proofs.YtiedbnjoomcdbaaDoorW.PrintMore

set_option maxHeartbeats 8000000 in
set_option maxRecDepth 100000 in
theorem build_ok (lb : Nat) (w : World) (hL : w.heap[lb]? = some (.cells LC 34 (0, 0))) :
    Calls Tryd.prog 15 #[.slice (some ⟨lb, 0, none⟩) 3 3] w fun e w' =>
      (∃ a c, e = .returned (.tuple #[.slice (some ⟨a, 0, none⟩) 1 c, .agg #[.int .i64 0, .int .i64 0]]) ∧ NodeAt w' a) ∧ Below w.heap.size w w' := by
  have hu38 := Tryd.underlying38
  have L0 := blk_lt hL
  go_enter Tryd.func15, Tryd.ntmps15
  go_wp2_with (first
    | ((with_reducible refine gate_dst (N := 3) rfl ?_); (try (refine gate_guard (by rfl) ?_; dsimp only)); refine box_event ?hg (N := 3) ?hd (cs := #[.int .i64 0, .int .i64 0]) (t := 38) ?hr ?_; (case hd => rfl); (case hg => rfl); (case hr => first | (go_simp; done) | (go_simp; rfl)); intro b3 e3 w3 hb3 hl3; have E3 := Aside0.mk e3; clear e3)
    | ((with_reducible refine gate_dst (N := 8) rfl ?_); (try (refine gate_guard (by rfl) ?_; dsimp only)); refine box_event ?hg (N := 8) ?hd (cs := #[.slice (some ⟨lb, 0, none⟩) 3 3, .int .i64 0, .int .i64 0, .int .i64 0]) (t := 62) ?hr ?_; (case hd => rfl); (case hg => rfl); (case hr => first | (go_simp; done) | (go_simp; rfl)); intro g eg w4 hg4 hl4; have EG := Aside0.mk eg; clear eg))
  have hl04 := below_then hl3 hl3.size hl4
  have n1 : b3 = w.heap.size := E3.out
  have n2 : g = w3.heap.size := EG.out
  have n3 := hl3.size
  have n4 := blk_lt hb3
  have hgl : g ≠ lb := by omega
  have hg0 : w.heap.size ≤ g := by omega
  have hg3 : b3 ≠ g := by omega
  have hw3 : w.heap.size ≤ b3 := by omega
  have hS : SS w4 g lb 0 := ⟨hg4, blk_below hL hl04, hgl⟩
  have hb4 := blk_below hb3 hl4
  clear n1 n2 n3 n4 E3 EG hl3 hl4 hb3 hg4
  refine (blocks_out g lb w w4 hS hl04 hg0).mono ?_
  rintro e w5 ⟨⟨a, c, rfl, hN⟩, hS5, hB5, hk5⟩
  have hb5 := hk5.blk hb4 hg3 (by simp)
  obtain ⟨⟨f0, f1, f2, f3, f4⟩, k0, k1, k2, k3, k4, k5, k6, k7, k8⟩ := hS5.facts
  have x0 : w5.cell? ⟨b3, 0, none⟩ = some (.int .i64 0) := (blk_cell hb5 0).trans rfl
  have x1 : w5.cell? ⟨b3, 1, none⟩ = some (.int .i64 0) := (blk_cell hb5 1).trans rfl
  have v0 := blk_frozen hb5 0
  have v1 := blk_frozen hb5 1
  clear hb4 hk5 hS hl04
  go_wp2_with (fail)
  have p5 : ((w5.setCell ⟨b3, 0, none⟩ (.int .i64 0)).setCell ⟨b3, 1, none⟩ (.int .i64 0)).heap[b3]? = some (.cells #[.int .i64 0, .int .i64 0] 38 (0, 0)) := by
    simpa using blk_set (blk_set hb5 0 (.int .i64 0)) 1 (.int .i64 0)
  have hB6 : Below w.heap.size w ((w5.setCell ⟨b3, 0, none⟩ (.int .i64 0)).setCell ⟨b3, 1, none⟩ (.int .i64 0)) := (hB5.setCell (p := ⟨b3, 0, none⟩) hw3 _).setCell (p := ⟨b3, 1, none⟩) hw3 _
  have hN6 : NodeAt ((w5.setCell ⟨b3, 0, none⟩ (.int .i64 0)).setCell ⟨b3, 1, none⟩ (.int .i64 0)) a := by
    obtain ⟨cur, h1, h2⟩ := hN
    have hne : a ≠ b3 := blk_ne h1 hb5 (by decide)
    exact ⟨cur, blk_far (blk_far h1 (p := ⟨b3, 0, none⟩) hne _) (p := ⟨b3, 1, none⟩) hne _, h2⟩
  generalize hq17 : World.setCell (World.setCell _ _ _) _ _ = w17 at *
  have r0 : w17.cell? ⟨b3, 0, none⟩ = some (.int .i64 0) := (blk_cell p5 0).trans rfl
  have r1 : w17.cell? ⟨b3, 1, none⟩ = some (.int .i64 0) := (blk_cell p5 1).trans rfl
  (try simp only [Exit.inBlock, Exit.then])
  refine bodyPost_ret (by simp [results, Tryd.results15, go_sem, r0, r1]; try rfl) rfl ?_
  exact ⟨⟨_, _, rfl, hN6⟩, hB6⟩
end Go.Proofs.YtiedbnjoomcdbaaDoor.PO
