/- What the laws on expressions share: long texts, Compile's two answers, boxes. -/
import Derived.Test.YtnjpdhekeffpnaaRxX
import Derived.Test.YtnjpdhekeffpnaaRxEb
import Derived.Test.YtnjpdhekeffpnaaRxRh
set_option linter.unusedVariables false
set_option linter.unusedSimpArgs false
namespace Go.Proofs.Ytnjpdhekeffpnaa.Rx
open Go.RowKit Go.Proofs.YtnjpdhekeffpnaaW.PrintWords Go.Proofs.YtnjpdhekeffpnaaW.PrintLast Go.Proofs.YtnjpdhekeffpnaaW.PrintMore

def fX : Option (Nat × Int) → Int | none => 0 | some q => (q.1 : Int)
def fY : Option (Nat × Int) → Int | none => 0 | some q => q.2
theorem findV_eq (R : Option (Nat × Int)) : findV R = .tuple #[.int .i64 (fX R), .int .i64 (fY R), .bool R.isSome] := by cases R <;> rfl
theorem tl_eq (a b : ByteArray) : (a.toList == b.toList) = decide (a = b) := by
  rw [Bool.eq_iff_iff, beq_iff_eq, decide_eq_true_iff, Lib.toList_data, Lib.toList_data]
  exact ⟨fun h => by rw [← Lib.mk_data a, h, Lib.mk_data], fun h => by rw [h]⟩
theorem farW (w : World) (a b : ByteArray) : Calls Try.prog 14 #[.string a, .string b] w fun e w' => e = .returned (.bool (decide (300 < a.size ∨ 60 < b.size))) ∧ w' = w := by
  go_enter Try.func14, Try.ntmps14
  by_cases h1 : 300 < a.size
  · have d1 : decide ((300 : Int) < (a.size : Int)) = true := decide_eq_true (by omega)
    rw [decide_eq_true (.inl h1)]
    clear h1
    go_wp2_with (fail)
    go_ret
    exact ⟨rfl, rfl⟩
  · have d1 : decide ((300 : Int) < (a.size : Int)) = false := decide_eq_false (by omega)
    by_cases h2 : 60 < b.size
    · have d2 : decide ((60 : Int) < (b.size : Int)) = true := decide_eq_true (by omega)
      rw [decide_eq_true (.inr h2)]
      clear h1 h2
      go_wp2_with (fail)
      go_ret
      exact ⟨rfl, rfl⟩
    · have d2 : decide ((60 : Int) < (b.size : Int)) = false := decide_eq_false (by omega)
      rw [decide_eq_false (by rintro (h | h); exact h1 h; exact h2 h)]
      clear h1 h2
      go_wp2_with (fail)
      go_ret
      exact ⟨rfl, rfl⟩
theorem compile_no (w : World) (s : ByteArray) (F : Nat × Nat) (hs : s.size ≤ 140737488355327) (hf : faultB s = some F) :
    Calls Try.prog 11 #[.string s] w fun e w' => e = .returned (.tuple #[.pointer none, .agg #[.int .i64 ((F.1 : Int) + 1), .int .i64 (F.2 : Int)]]) ∧ Below w.heap.size w w' := by
  refine (compileW w s hs).mono ?_
  rintro e w' ⟨h, hb⟩
  rw [hf] at h
  exact ⟨h, hb⟩
theorem pos_ne (n : Nat) : ((n : Int) + 1 == 0) = false := by
  apply beq_false_of_ne; omega
theorem boxed {w wp : World} {p : Nat} (hp : wp.heap[p]? = some (.cells #[.int .i64 0, .int .i64 0] 26 (0, 0))) (lp : Below w.heap.size w wp) (hw : w.heap.size ≤ p) (x y : Int) :
    Below w.heap.size w ((wp.setCell ⟨p, 0, none⟩ (.int .i64 x)).setCell ⟨p, 1, none⟩ (.int .i64 y)) ∧ ((wp.setCell ⟨p, 0, none⟩ (.int .i64 x)).setCell ⟨p, 1, none⟩ (.int .i64 y)).heap[p]? = some (.cells #[.int .i64 x, .int .i64 y] 26 (0, 0)) :=
  ⟨(lp.setCell (p := ⟨p, 0, none⟩) hw (.int .i64 x)).setCell (p := ⟨p, 1, none⟩) hw (.int .i64 y), blk_set (blk_set hp 0 (.int .i64 x)) 1 (.int .i64 y)⟩
/-- what Compile answers, as a pointer and two numbers -/
def CV (s : ByteArray) (B : Nat) (w : World) (v : Value) (x y : Int) : Prop := match faultB s with
  | none => ∃ r, v = .pointer (some ⟨r, 0, none⟩) ∧ x = 0 ∧ y = 0 ∧ B ≤ r ∧ w.heap[r]? = some (.cells (RgC s) TR (0, 0))
  | some F => v = .pointer none ∧ x = (F.1 : Int) + 1 ∧ y = (F.2 : Int)
theorem compile_any (w : World) (s : ByteArray) (hs : s.size ≤ 140737488355327) :
    Calls Try.prog 11 #[.string s] w fun e w' => ∃ v x y, e = .returned (.tuple #[v, .agg #[.int .i64 x, .int .i64 y]]) ∧ CV s w.heap.size w' v x y ∧ Below w.heap.size w w' := by
  refine (compileW w s hs).mono ?_
  rintro e w' ⟨h, hb⟩
  unfold CV
  cases hf : faultB s with
  | none => rw [hf] at h; obtain ⟨r, h1, h2, h3⟩ := h; exact ⟨_, 0, 0, h3, ⟨r, rfl, rfl, rfl, h1, h2⟩, hb⟩
  | some F => rw [hf] at h; exact ⟨_, _, _, h, ⟨rfl, rfl, rfl⟩, hb⟩
theorem CV.non {s : ByteArray} {B : Nat} {w : World} {v : Value} {x y : Int} (h : CV s B w v x y) (hf : faultB s = none) : ∃ r, v = .pointer (some ⟨r, 0, none⟩) ∧ x = 0 ∧ y = 0 ∧ B ≤ r ∧ w.heap[r]? = some (.cells (RgC s) TR (0, 0)) := by
  unfold CV at h; rw [hf] at h; exact h
theorem CV.som {s : ByteArray} {B : Nat} {w : World} {v : Value} {x y : Int} {F : Nat × Nat} (h : CV s B w v x y) (hf : faultB s = some F) : v = .pointer none ∧ x = (F.1 : Int) + 1 ∧ y = (F.2 : Int) := by
  unfold CV at h; rw [hf] at h; exact h
theorem CV.below {s : ByteArray} {B : Nat} {w w' : World} {v : Value} {x y : Int} (h : CV s B w v x y) (hb : Below w.heap.size w w') : CV s B w' v x y := by
  unfold CV at h ⊢
  split
  · rename_i hf
    rw [hf] at h
    obtain ⟨r, h1, h2, h3, h4, h5⟩ := h
    exact ⟨r, h1, h2, h3, h4, blk_below h5 hb⟩
  · rename_i F hf
    rw [hf] at h
    exact h
theorem CV.ne {s : ByteArray} {B : Nat} {w : World} {v : Value} {x y : Int} {F : Nat × Nat} (h : CV s B w v x y) (hf : faultB s = some F) : (x == 0) = false := by
  rw [(h.som hf).2.1]; exact pos_ne _
end Go.Proofs.Ytnjpdhekeffpnaa.Rx
set_option linter.unusedVariables false
set_option linter.unusedSimpArgs false
namespace Go.Proofs.Ytnjpdhekeffpnaa.Rx
open Go.RowKit Go.Proofs.YtnjpdhekeffpnaaW.PrintWords Go.Proofs.YtnjpdhekeffpnaaW.PrintLast Go.Proofs.YtnjpdhekeffpnaaW.PrintMore

/-- both readers' faults are one -/
theorem CV.num {s : ByteArray} {B : Nat} {w : World} {v : Value} {x y : Int} (h : CV s B w v x y) : x = eW (faultB s) ∧ y = eA (faultB s) := by
  unfold CV at h
  split at h
  · rename_i hf
    obtain ⟨r, h1, h2, h3, _⟩ := h
    rw [hf]; exact ⟨h2, h3⟩
  · rename_i F hf
    rw [hf]; exact ⟨h.2.1, h.2.2⟩
set_option maxHeartbeats 16000000 in
set_option maxRecDepth 1000000 in
theorem RxCompilesWalk (W : World) (a : ByteArray) (ha : a.size ≤ 140737488351232) :
    Calls Try.prog 3 #[.string a] W fun e W' => e = .returned (.bool true) ∧ Below W.heap.size W W' := by
  have hu26 := Try.underlying26
  have hu32 := Try.underlying32
  go_enter Try.func3, Try.ntmps3
  by_cases h1 : a.size ≤ 5000
  · have d0 : decide ((5000 : Int) < (a.size : Int)) = false := decide_eq_false (by omega)
    have HS := Aside0.mk h1
    clear h1 ha
    go_wp2_with (fail)
    refine (compile_any _ a (by have := HS.out; omega)).mono ?_
    rintro e w2 ⟨v, x, y, rfl, hv, hl2⟩
    go_wp2_with (first | (((with_reducible refine gate_dst (N := 4) rfl ?_); (try (refine gate_guard (by rfl) ?_; dsimp only)); refine box_event ?hg (N := 4) ?hd (cs := #[.int .i64 0, .int .i64 0]) (t := 26) ?hr ?_; (case hd => rfl); (case hg => rfl); (case hr => first | (go_simp; done) | (go_simp; rfl)); intro q eq wq hq lq; have Eq := Aside0.mk eq; clear eq); have vq0 : wq.cell? ⟨q, 0, none⟩ = some (.int .i64 0) := (blk_cell hq 0).trans rfl; have vq1 : wq.cell? ⟨q, 1, none⟩ = some (.int .i64 0) := (blk_cell hq 1).trans rfl; have fq0 := blk_frozen hq 0; have fq1 := blk_frozen hq 1; have Bq := boxed hq lq (by have := Eq.out; omega) x y; have uq0 := (blk_cell Bq.2 0).trans (show _ = some (Value.int .i64 x) from rfl); have uq1 := (blk_cell Bq.2 1).trans (show _ = some (Value.int .i64 y) from rfl)) | fail)
    have hl3 := below_then hl2 hl2.size Bq.1
    have hv := hv.below Bq.1
    have hkq := Bq.2
    obtain ⟨w3, hw3⟩ : ∃ w3, World.setCell (World.setCell wq ⟨q, 0, none⟩ (.int .i64 x)) ⟨q, 1, none⟩ (.int .i64 y) = w3 := ⟨_, rfl⟩
    rw [hw3] at hl3 hv hkq
    rw [hw3]
    clear hw3 Bq uq0 uq1 vq0 vq1 fq0 fq1 hq lq hl2
    refine (compR w3 a (by have := HS.out; omega)).mono ?_
    rintro e w5 ⟨k, As, ns, cs, Al, nl, cl, rfl, hl5, -⟩
    have hv := hv.below hl5
    have hkq := blk_below hkq hl5
    have hl5 := below_then hl3 hl3.size hl5
    rw [← hv.num.1, ← hv.num.2]
    clear hl3
    cases hf : faultB a with
    | none =>
      obtain ⟨r, rfl, rfl, rfl, hrw, hkr⟩ := hv.non hf
      go_wp2_with (first | ((with_reducible refine gate_dst (N := 5) rfl ?_); (try (refine gate_guard (by rfl) ?_; dsimp only)); refine box_event ?hg (N := 5) ?hd (cs := #[.int .i64 0, .slice none 0 0, .slice none 0 0]) (t := 32) ?hr ?_; (case hd => rfl); (case hg => rfl); (case hr => first | (go_simp; done) | (go_simp; rfl)); intro n en wn hn ln; have En := Aside0.mk en; clear en; have n0 : wn.cell? ⟨n, 0, none⟩ = some (.int .i64 0) := (blk_cell hn 0).trans rfl; have n1 : wn.cell? ⟨n, 1, none⟩ = some (.slice none 0 0) := (blk_cell hn 1).trans rfl; have n2 : wn.cell? ⟨n, 2, none⟩ = some (.slice none 0 0) := (blk_cell hn 2).trans rfl; have fn0 := blk_frozen hn 0; have fn1 := blk_frozen hn 1; have fn2 := blk_frozen hn 2) | (((with_reducible refine gate_dst (N := 6) rfl ?_); (try (refine gate_guard (by rfl) ?_; dsimp only)); refine box_event ?hg (N := 6) ?hd (cs := #[.int .i64 0, .int .i64 0]) (t := 26) ?hr ?_; (case hd => rfl); (case hg => rfl); (case hr => first | (go_simp; done) | (go_simp; rfl)); intro g eg wg hg lg; have Eg := Aside0.mk eg; clear eg); have hng : n ≠ g := (by have := Eg.out; have := blk_lt hn; omega); have hgn : g ≠ n := (fun e => hng e.symm); have hn2 := blk_below hn lg; have n0 := (blk_cell hn2 0).trans (show _ = some (Value.int .i64 0) from rfl); have n1 := (blk_cell hn2 1).trans (show _ = some (Value.slice none 0 0) from rfl); have n2 := (blk_cell hn2 2).trans (show _ = some (Value.slice none 0 0) from rfl); have fn0 := blk_frozen hn2 0; have fn1 := blk_frozen hn2 1; have fn2 := blk_frozen hn2 2; have y0 := (blk_cell hg 0).trans (show _ = some (Value.int .i64 0) from rfl); have y1 := (blk_cell hg 1).trans (show _ = some (Value.int .i64 0) from rfl); have fy0 := blk_frozen hg 0; have fy1 := blk_frozen hg 1; have hBn := below_then ln ln.size lg; have hnw : w5.heap.size ≤ n := (by have := En.out; omega); have hgw : w5.heap.size ≤ g := (by have := Eg.out; have := ln.size; omega); have hr := comp_ret (w := w5) (base := wg.heap.size) hn2 hg hng hnw hgw (blk_lt hn2) (blk_lt hg) hBn hBn.size k (.slice As ns cs) (.slice Al nl cl) 0 0; obtain ⟨w9, hw9⟩ : ∃ w9, ((((wg.setCell ⟨n, 0, none⟩ (.int .i64 k)).setCell ⟨n, 1, none⟩ (.slice As ns cs)).setCell ⟨n, 2, none⟩ (.slice Al nl cl)).setCell ⟨g, 0, none⟩ (.int .i64 0)).setCell ⟨g, 1, none⟩ (.int .i64 0) = w9 := ⟨_, rfl⟩; obtain ⟨c0, c1, c2, c3, c4, hBel, hMM⟩ := hr w9 hw9; have k0 := (blk_cell (blk_below hkq hBel) 0).trans (show _ = some (Value.int .i64 0) from rfl); have k1 := (blk_cell (blk_below hkq hBel) 1).trans (show _ = some (Value.int .i64 0) from rfl); clear hr) | fail)
      have hT := textW w9 r a (.inl (blk_below hkr hBel))
      have hA := aliveW w9
      have hl9 := below_then hl5 hl5.size hBel
      clear k0 k1 c0 c1 c2 c3 c4 hMM hw9 hkr hkq
      refine hT.mono ?_
      rintro e w10 ⟨rfl, e10⟩
      subst e10
      go_wp2_with (first | (go_at_call 10; refine hA.mono ?_; rintro e w20 ⟨rfl, hl20⟩) | fail)
      go_ret
      exact ⟨rfl, below_then hl9 hl9.size hl20⟩
    | some F =>
      have e0 := hv.ne hf
      obtain ⟨rfl, -, -⟩ := hv.som hf
      go_wp2_with (first | ((with_reducible refine gate_dst (N := 5) rfl ?_); (try (refine gate_guard (by rfl) ?_; dsimp only)); refine box_event ?hg (N := 5) ?hd (cs := #[.int .i64 0, .slice none 0 0, .slice none 0 0]) (t := 32) ?hr ?_; (case hd => rfl); (case hg => rfl); (case hr => first | (go_simp; done) | (go_simp; rfl)); intro n en wn hn ln; have En := Aside0.mk en; clear en; have n0 : wn.cell? ⟨n, 0, none⟩ = some (.int .i64 0) := (blk_cell hn 0).trans rfl; have n1 : wn.cell? ⟨n, 1, none⟩ = some (.slice none 0 0) := (blk_cell hn 1).trans rfl; have n2 : wn.cell? ⟨n, 2, none⟩ = some (.slice none 0 0) := (blk_cell hn 2).trans rfl; have fn0 := blk_frozen hn 0; have fn1 := blk_frozen hn 1; have fn2 := blk_frozen hn 2) | ((((with_reducible refine gate_dst (N := 6) rfl ?_); (try (refine gate_guard (by rfl) ?_; dsimp only)); refine box_event ?hg (N := 6) ?hd (cs := #[.int .i64 0, .int .i64 0]) (t := 26) ?hr ?_; (case hd => rfl); (case hg => rfl); (case hr => first | (go_simp; done) | (go_simp; rfl)); intro g eg wg hg lg; have Eg := Aside0.mk eg; clear eg); have hng : n ≠ g := (by have := Eg.out; have := blk_lt hn; omega); have hgn : g ≠ n := (fun e => hng e.symm); have hn2 := blk_below hn lg; have n0 := (blk_cell hn2 0).trans (show _ = some (Value.int .i64 0) from rfl); have n1 := (blk_cell hn2 1).trans (show _ = some (Value.slice none 0 0) from rfl); have n2 := (blk_cell hn2 2).trans (show _ = some (Value.slice none 0 0) from rfl); have fn0 := blk_frozen hn2 0; have fn1 := blk_frozen hn2 1; have fn2 := blk_frozen hn2 2; have y0 := (blk_cell hg 0).trans (show _ = some (Value.int .i64 0) from rfl); have y1 := (blk_cell hg 1).trans (show _ = some (Value.int .i64 0) from rfl); have fy0 := blk_frozen hg 0; have fy1 := blk_frozen hg 1; have hBn := below_then ln ln.size lg; have hnw : w5.heap.size ≤ n := (by have := En.out; omega); have hgw : w5.heap.size ≤ g := (by have := Eg.out; have := ln.size; omega); have hr := comp_ret (w := w5) (base := wg.heap.size) hn2 hg hng hnw hgw (blk_lt hn2) (blk_lt hg) hBn hBn.size k (.slice As ns cs) (.slice Al nl cl) x y; obtain ⟨w9, hw9⟩ : ∃ w9, ((((wg.setCell ⟨n, 0, none⟩ (.int .i64 k)).setCell ⟨n, 1, none⟩ (.slice As ns cs)).setCell ⟨n, 2, none⟩ (.slice Al nl cl)).setCell ⟨g, 0, none⟩ (.int .i64 x)).setCell ⟨g, 1, none⟩ (.int .i64 y) = w9 := ⟨_, rfl⟩; obtain ⟨c0, c1, c2, c3, c4, hBel, hMM⟩ := hr w9 hw9; have k0 := (blk_cell (blk_below hkq hBel) 0).trans (show _ = some (Value.int .i64 x) from rfl); have k1 := (blk_cell (blk_below hkq hBel) 1).trans (show _ = some (Value.int .i64 y) from rfl); clear hr); have hA := aliveW w9; have hl9 := below_then hl5 hl5.size hBel) | (go_at_call 10; refine hA.mono ?_; rintro e w20 ⟨rfl, hl20⟩) | fail)
      go_ret
      exact ⟨rfl, below_then hl9 hl9.size hl20⟩
  · have d0 : decide ((5000 : Int) < (a.size : Int)) = true := decide_eq_true (by omega)
    go_wp2_with (fail)
    refine (aliveW _).mono ?_
    rintro e w9 ⟨rfl, hl9⟩
    go_wp2_with (fail)
    go_ret
    exact ⟨rfl, hl9⟩
end Go.Proofs.Ytnjpdhekeffpnaa.Rx
