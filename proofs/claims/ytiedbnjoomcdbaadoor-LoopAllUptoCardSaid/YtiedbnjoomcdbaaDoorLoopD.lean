/- (*reader).blocks at the second line of 'alive''s three, walked. -/
import Derived.Test.YtiedbnjoomcdbaaDoorLoopC
import Derived.LoopN
set_option linter.unusedVariables false
set_option linter.unusedSimpArgs false
namespace Go.Proofs.YtiedbnjoomcdbaaDoor.PO
open Go.RowKit Go.Proofs.YtiedbnjoomcdbaaDoorW.PrintWords Go.Proofs.YtiedbnjoomcdbaaDoorW.PrintLast Go.Proofs.YtiedbnjoomcdbaaDoorW.PrintMore

theorem infoNode0 : (Tryd.prog.info? 56).map (fun i => (i.zero.map (fun z => z.cells.size), i.size, i.bytes)) = some (some 8, 8, 128) := by kernel_rfl
theorem infoNode : ∃ i z, Tryd.prog.info? 56 = some i ∧ i.zero = some z ∧ i.size = 8 ∧ i.bytes = 128 ∧ z.cells.size = 8 := by
  obtain ⟨i, hi, e⟩ := Option.map_eq_some_iff.1 infoNode0
  simp only [Prod.mk.injEq] at e
  obtain ⟨z, hz, e1⟩ := Option.map_eq_some_iff.1 e.1
  exact ⟨i, z, hi, hz, e.2.1, e.2.2, e1⟩
theorem add0 (b j : Nat) : (⟨b, 0, none⟩ : Addr).add j = ⟨b, j, none⟩ := by unfold Addr.add; split <;> simp_all
theorem news_cells (w : World) (l : List Value) (T : TypeId) : ∀ j u, l[j]? = some u → (w.alloc (.cells l.toArray T)).cell? ((⟨w.heap.size, 0, none⟩ : Addr).add j) = some u := by
  intro j u hj
  rw [add0, blk_cell (blk_new w _) j, List.getElem?_toArray, hj]
theorem one8 {a b c d e f g h : Value} (h1 : a.oneCell' = true) (h2 : b.oneCell' = true) (h3 : c.oneCell' = true) (h4 : d.oneCell' = true) (h5 : e.oneCell' = true) (h6 : f.oneCell' = true) (h7 : g.oneCell' = true) (h8 : h.oneCell' = true) :
    ∀ u ∈ [a, b, c, d, e, f, g, h], u.oneCell' = true := by
  intro u hu
  simp only [List.mem_cons, List.not_mem_nil, or_false] at hu
  rcases hu with rfl | rfl | rfl | rfl | rfl | rfl | rfl | rfl <;> assumption
/-- the world behind 'l := r.lines[r.at]' -/
theorem SS.next {W : World} {g lb : Nat} {i : Int} (h : SS W g lb i) (o : Obj) : SS (W.alloc o) g lb i := h.below (below_alloc (Below.refl _ _) _)

set_option maxHeartbeats 8000000 in
set_option maxRecDepth 100000 in
theorem blocks_in (g lb : Nat) (w0 w : World) (hS : SS w g lb 1) (hB : Below w0.heap.size w0 w) (hg : w0.heap.size ≤ g) :
    Calls Tryd.prog 27 #[.pointer (some ⟨g, 0, none⟩), .int .i64 1] w fun e w' =>
      (∃ a c, e = .returned (.slice (some a) 1 c)) ∧ SS w' g lb 2 ∧ Below w0.heap.size w0 w' ∧ KeepBut w w' g none := by
  obtain ⟨iN, zN, hiN, hzN, hsN, hbN, hcN⟩ := infoNode
  have hu34 := Tryd.underlying34
  have hu38 := Tryd.underlying38
  have hu56 := Tryd.underlying56
  have HW := Aside0.mk hB
  clear hB
  have G0 := blk_lt hS.1
  have L0 := blk_lt hS.2.1
  obtain ⟨⟨f0, f1, f2, f3, f4⟩, k0, k1, k2, k3, k4, k5, k6, k7, k8⟩ := hS.facts
  go_enter Tryd.func27, Tryd.ntmps27
  go_wp2_with (fail)
  refine wp_loop_rounds 2 ?_
  rw [rounds_succ]
  go_wp2_with (fail)
  go_quiet (fail)
  go_wp2_with (fail)
  generalize hq : World.drewN w _ = w5
  have hS5 : SS w5 g lb 1 := by rw [← hq]; exact hS.drewN _
  have hl5 : Below w.heap.size w w5 := by rw [← hq]; exact pw_below_drewN (Below.refl _ _) _
  clear f0 f1 f2 f3 f4 k0 k1 k2 k3 k4 k5 k6 k7 k8 hq
  obtain ⟨⟨f0, f1, f2, f3, f4⟩, k0, k1, k2, k3, k4, k5, k6, k7, k8⟩ := hS5.facts
  have hSA := hS5.next (.cells #[.string ⟨#[]⟩, .int .i64 0, .bool false] 34)
  obtain ⟨⟨a0, a1, a2, a3, a4⟩, m0, m1, m2, m3, m4, m5, m6, m7, m8⟩ := hSA.facts
  go_region
  all_goals
    generalize hq : World.drew (World.alloc w5 _) = w6
    have hS6 : SS w6 g lb 1 := by rw [← hq]; exact hS5.below (below_drew (below_alloc (Below.refl _ _) _))
    have hl6 : Below w.heap.size w w6 := by rw [← hq]; exact below_drew (below_alloc hl5 _)
    have hb8 : w6.heap[w5.heap.size]? = some (.cells #[.string l1, .int .i64 2, .bool false] 34 (0, 0)) := by rw [← hq]; exact blk_new w5 _
    have n8g : w5.heap.size ≠ g := by have := hl5.size; omega
    clear f0 f1 f2 f3 f4 k0 k1 k2 k3 k4 k5 k6 k7 k8 a0 a1 a2 a3 a4 m0 m1 m2 m3 m4 m5 m6 m7 m8 hq hS5 hSA hl5
    generalize w5.heap.size = b8 at *
    have z0 : w6.cell? ⟨b8, 0, none⟩ = some (.string l1) := (blk_cell hb8 0).trans rfl
    have z1 : w6.cell? ⟨b8, 1, none⟩ = some (.int .i64 2) := (blk_cell hb8 1).trans rfl
    have z2 : w6.cell? ⟨b8, 2, none⟩ = some (.bool false) := (blk_cell hb8 2).trans rfl
    go_wp2_with (first
      | (at_builtin; refine wpList_append_own _ rfl _ _ 35 rfl w8.heap.size 56 iN zN 8 128 Tryd.underlying35 hiN hzN hsN hbN hcN (by decide) _ 0 [] rfl (World.ownsRow_nil _ _ _ _) ⟨w8.heap.size, 0, none⟩ 1 1 [.int .i64 1, .string l1, .int .i64 2, .bool false, .slice none 0 0, .slice none 0 0, .string ⟨#[]⟩, .slice none 0 0] rfl rfl (news_cells _ _ _) (one8 rfl rfl rfl rfl rfl rfl rfl rfl) (by decide) (by decide) (by simp) ?_; intro v9 w9 hown hgrow _; have hl9 : Below w8.heap.size w8 w9 := pw_below_grown (below_alloc (Below.refl _ _) _) none (by simp) hgrow (by simp); have hS9 := (hS6.below hl8).below hl9; obtain ⟨⟨t0, t1, t2, t3, t4⟩, s0, s1, s2, s3, s4, s5, s6, s7, s8⟩ := hS9.facts; obtain ⟨ga, ca, rfl, _, _⟩ := hown.form (by decide); clear hown hgrow)
      | go_at_call 40; refine (loop_Directive.calls 9 l1 2 false _ _ _ dir1).mono ?_; rintro e w8 ⟨rfl, hl8⟩; have q8 := blk_below hb8 hl8; have y0 : w8.cell? ⟨b8, 0, none⟩ = some (.string l1) := (blk_cell q8 0).trans rfl; have y1 : w8.cell? ⟨b8, 1, none⟩ = some (.int .i64 2) := (blk_cell q8 1).trans rfl; have y2 : w8.cell? ⟨b8, 2, none⟩ = some (.bool false) := (blk_cell q8 2).trans rfl)
  all_goals
    have hl89 : Below w.heap.size w w9 := below_then (below_then hl6 hl6.size hl8) (below_then hl6 hl6.size hl8).size hl9
    generalize hq : World.setCell w9 _ _ = wx
    have hSx : SS wx g lb 2 := by rw [← hq]; exact hS9.step 2
    have hkx : KeepBut w wx g none := by rw [← hq]; exact keep_set (KeepBut.of_below hl89 g none) (.inl rfl) _
    have hBx : Below w0.heap.size w0 wx := by rw [← hq]; exact (below_then HW.out HW.out.size hl89).setCell hg _
    clear hS9 hl89 hl9 t0 t1 t2 t3 t4 s0 s1 s2 s3 s4 s5 s6 s7 s8 hl8 q8 y0 y1 y2 z0 z1 z2 hb8 hS6 hl6 hq
    obtain ⟨⟨f0, f1, f2, f3, f4⟩, k0, k1, k2, k3, k4, k5, k6, k7, k8⟩ := hSx.facts
    rw [rounds_succ]
    go_wp2_with (fail)
    go_quiet (fail)
    go_wp2_with (fail)
    generalize hq : World.drewN wx _ = w5
    have hS5 : SS w5 g lb 2 := by rw [← hq]; exact hSx.drewN _
    have hl5 : Below wx.heap.size wx w5 := by rw [← hq]; exact pw_below_drewN (Below.refl _ _) _
    clear f0 f1 f2 f3 f4 k0 k1 k2 k3 k4 k5 k6 k7 k8 hq
    obtain ⟨⟨f0, f1, f2, f3, f4⟩, k0, k1, k2, k3, k4, k5, k6, k7, k8⟩ := hS5.facts
    have hSA := hS5.next (.cells #[.string ⟨#[]⟩, .int .i64 0, .bool false] 34)
    obtain ⟨⟨a0, a1, a2, a3, a4⟩, m0, m1, m2, m3, m4, m5, m6, m7, m8⟩ := hSA.facts
    go_region
  all_goals
    generalize hq : World.drew (World.alloc w5 _) = w6
    have hS6 : SS w6 g lb 2 := by rw [← hq]; exact hS5.below (below_drew (below_alloc (Below.refl _ _) _))
    have hl6 : Below wx.heap.size wx w6 := by rw [← hq]; exact below_drew (below_alloc hl5 _)
    have hb8 : w6.heap[w5.heap.size]? = some (.cells #[.string l2, .int .i64 3, .bool false] 34 (0, 0)) := by rw [← hq]; exact blk_new w5 _
    clear f0 f1 f2 f3 f4 k0 k1 k2 k3 k4 k5 k6 k7 k8 a0 a1 a2 a3 a4 m0 m1 m2 m3 m4 m5 m6 m7 m8 hq hS5 hSA hl5
    generalize w5.heap.size = b8 at *
    have z0 : w6.cell? ⟨b8, 0, none⟩ = some (.string l2) := (blk_cell hb8 0).trans rfl
    have z1 : w6.cell? ⟨b8, 1, none⟩ = some (.int .i64 3) := (blk_cell hb8 1).trans rfl
    have z2 : w6.cell? ⟨b8, 2, none⟩ = some (.bool false) := (blk_cell hb8 2).trans rfl
    go_wp2_with (go_at_call 40; refine (loop_Directive.calls 9 l2 3 false _ _ _ dir2).mono ?_; rintro e w8 ⟨rfl, hl8⟩)
    go_ret
    have hl68 := below_then hl6 hl6.size hl8
    exact ⟨⟨_, _, rfl⟩, hS6.below hl8, below_then hBx hBx.size hl68, keep_below hkx hl68⟩
end Go.Proofs.YtiedbnjoomcdbaaDoor.PO
