/- (*reader).blocks at 'alive''s three lines, and loop.Build, walked. -/
import Derived.Test.YtiedbnjoomcdbaaDoorLoopE
set_option linter.unusedVariables false
set_option linter.unusedSimpArgs false
namespace Go.Proofs.YtiedbnjoomcdbaaDoor.PO
open Go.RowKit Go.Proofs.YtiedbnjoomcdbaaDoorW.PrintWords Go.Proofs.YtiedbnjoomcdbaaDoorW.PrintLast Go.Proofs.YtiedbnjoomcdbaaDoorW.PrintMore

/-- a block of nodes whose first is alive's loop -/
def NodeAt (W : World) (a : Nat) : Prop := ∃ cur, W.heap[a]? = some (.cells cur 56 (0, 0)) ∧ cur[0]? = some (.int .i64 3) ∧ cur[6]? = some (.string ⟨#[97, 32, 98]⟩) ∧ ∃ k c, cur[7]? = some (.slice (some k) 1 c)
theorem NodeAt.below {W W2 : World} {a : Nat} (h : NodeAt W a) (k : Below W.heap.size W W2) : NodeAt W2 a := by
  obtain ⟨cur, hb, h1⟩ := h
  exact ⟨cur, blk_below hb k, h1⟩
theorem own_cur {cur : Array Value} {l : List Value} (h : cur.toList.take 8 = l) (j : Nat) (hj : j < 8) : cur[j]? = l[j]? := by
  rw [← h, List.getElem?_take, if_pos hj, Array.getElem?_toList]

set_option maxHeartbeats 8000000 in
set_option maxRecDepth 100000 in
theorem blocks_out (g lb : Nat) (w0 w : World) (hS : SS w g lb 0) (hB : Below w0.heap.size w0 w) (hg : w0.heap.size ≤ g) :
    Calls Tryd.prog 27 #[.pointer (some ⟨g, 0, none⟩), .int .i64 0] w fun e w' =>
      (∃ a c, e = .returned (.slice (some ⟨a, 0, none⟩) 1 c) ∧ NodeAt w' a) ∧ SS w' g lb 3 ∧ Below w0.heap.size w0 w' ∧ KeepBut w w' g none := by
  obtain ⟨iN, zN, hiN, hzN, hsN, hbN, hcN⟩ := infoNode
  have hu34 := Tryd.underlying34
  have hu38 := Tryd.underlying38
  have hu56 := Tryd.underlying56
  have HW := Aside0.mk hB
  clear hB
  have G0 := blk_lt hS.1
  have L0 := blk_lt hS.2.1
  obtain ⟨⟨f0, f1, f2, f3, f4⟩, k0, k1, k2, k3, k4, k5, k6, k7, k8⟩ := hS.facts
  go_enter Tryd.func27, Tryd.ntmps27
  go_wp2_with (fail)
  refine wp_loop_rounds 2 ?_
  rw [rounds_succ]
  go_wp2_with (fail)
  go_quiet (fail)
  go_wp2_with (fail)
  generalize hq : World.drewN w _ = w5
  have hS5 : SS w5 g lb 0 := by rw [← hq]; exact hS.drewN _
  have hl5 : Below w.heap.size w w5 := by rw [← hq]; exact pw_below_drewN (Below.refl _ _) _
  clear f0 f1 f2 f3 f4 k0 k1 k2 k3 k4 k5 k6 k7 k8 hq
  obtain ⟨⟨f0, f1, f2, f3, f4⟩, k0, k1, k2, k3, k4, k5, k6, k7, k8⟩ := hS5.facts
  have hSA := hS5.next (.cells #[.string ⟨#[]⟩, .int .i64 0, .bool false] 34)
  obtain ⟨⟨a0, a1, a2, a3, a4⟩, m0, m1, m2, m3, m4, m5, m6, m7, m8⟩ := hSA.facts
  go_region
  all_goals
    generalize hq : World.drew (World.alloc w5 _) = w6
    have hS6 : SS w6 g lb 0 := by rw [← hq]; exact hS5.below (below_drew (below_alloc (Below.refl _ _) _))
    have hl6 : Below w.heap.size w w6 := by rw [← hq]; exact below_drew (below_alloc hl5 _)
    have hb8 : w6.heap[w5.heap.size]? = some (.cells #[.string l0, .int .i64 1, .bool false] 34 (0, 0)) := by rw [← hq]; exact blk_new w5 _
    have n8g : w5.heap.size ≠ g := by have := hl5.size; omega
    clear f0 f1 f2 f3 f4 k0 k1 k2 k3 k4 k5 k6 k7 k8 a0 a1 a2 a3 a4 m0 m1 m2 m3 m4 m5 m6 m7 m8 hq hS5 hSA hl5
    generalize w5.heap.size = b8 at *
    have z0 : w6.cell? ⟨b8, 0, none⟩ = some (.string l0) := (blk_cell hb8 0).trans rfl
    have z1 : w6.cell? ⟨b8, 1, none⟩ = some (.int .i64 1) := (blk_cell hb8 1).trans rfl
    have z2 : w6.cell? ⟨b8, 2, none⟩ = some (.bool false) := (blk_cell hb8 2).trans rfl
    go_wp2_with (fail)
    refine (loop_Directive.calls 9 l0 1 false _ _ _ dir0).mono ?_
    rintro e w8 ⟨rfl, hl8⟩
    have q8 := blk_far (blk_below hb8 hl8) (p := ⟨g, 1, none⟩) n8g (.int .i64 1)
    have y0 : (w8.setCell ⟨g, 1, none⟩ (.int .i64 1)).cell? ⟨b8, 0, none⟩ = some (.string l0) := (blk_cell q8 0).trans rfl
    have y1 : (w8.setCell ⟨g, 1, none⟩ (.int .i64 1)).cell? ⟨b8, 1, none⟩ = some (.int .i64 1) := (blk_cell q8 1).trans rfl
    have y2 : (w8.setCell ⟨g, 1, none⟩ (.int .i64 1)).cell? ⟨b8, 2, none⟩ = some (.bool false) := (blk_cell q8 2).trans rfl
    have hS8 := hS6.below hl8
    obtain ⟨⟨t0, t1, t2, t3, t4⟩, s0, s1, s2, s3, s4, s5, s6, s7, s8⟩ := hS8.facts
    go_wp2_with (fail)
  all_goals
    have hl68 := below_then hl6 hl6.size hl8
    have hSx := hS8.step 1
    have hkx := keep_set (j := 1) (KeepBut.of_below hl68 g none) (.inl rfl) (.int .i64 1)
    have hBx := (below_then HW.out HW.out.size hl68).setCell (p := ⟨g, 1, none⟩) hg (.int .i64 1)
    clear t0 t1 t2 t3 t4 s0 s1 s2 s3 s4 s5 s6 s7 s8 y0 y1 y2 z0 z1 z2 q8 hb8 hS6 hS8 hl8 hl68
    generalize World.setCell w8 _ _ = wx at *
    refine (loop_ok g lb w0 wx hSx hBx hg).mono ?_
    rintro e w10 ⟨⟨An, kn, cn, ak, ck, rfl⟩, hS10, hB10, hk10⟩
    have hk010 := hkx.trans hk10 (.inl rfl)
    clear hSx hkx hBx hk10
    go_wp2_with (first
      | (at_builtin; refine wpList_append_own _ rfl _ _ 35 rfl w10.heap.size 56 iN zN 8 128 Tryd.underlying35 hiN hzN hsN hbN hcN (by decide) _ 0 [] rfl (World.ownsRow_nil _ _ _ _) ⟨w10.heap.size, 0, none⟩ 1 1 [.int .i64 3, .string l0, .int .i64 1, .bool false, .slice none 0 0, .slice An kn cn, .string ⟨#[97, 32, 98]⟩, .slice (some ak) 1 ck] rfl rfl (news_cells _ _ _) (one8 rfl rfl rfl rfl rfl rfl rfl rfl) (by decide) (by decide) (by simp) ?_; intro v9 w9 hown hgrow _; have hl9 : Below w10.heap.size w10 w9 := pw_below_grown (below_alloc (Below.refl _ _) _) none (by simp) hgrow (by simp); have hS9 := hS10.below hl9; obtain ⟨ga, ca, cur, rfl, _, hcur, _, _, _, htake⟩ := hown.2.resolve_left (by simp); have hN9 : NodeAt w9 ga := ⟨cur, hcur, own_cur htake 0 (by decide), own_cur htake 6 (by decide), ak, ck, own_cur htake 7 (by decide)⟩; clear hown hgrow hcur htake))
    have hk9 := keep_below hk010 hl9
    have hB9 := below_then hB10 hB10.size hl9
    clear hk010 hB10 hl9 hS10
    obtain ⟨⟨f0, f1, f2, f3, f4⟩, k0, k1, k2, k3, k4, k5, k6, k7, k8⟩ := hS9.facts
    rw [rounds_succ]
    go_wp2_with (fail)
    go_quiet (fail)
    go_wp2_with (fail)
    go_ret
    exact ⟨⟨_, _, rfl, hN9⟩, hS9.drewN _, pw_below_drewN hB9 _, hk9⟩
end Go.Proofs.YtiedbnjoomcdbaaDoor.PO
