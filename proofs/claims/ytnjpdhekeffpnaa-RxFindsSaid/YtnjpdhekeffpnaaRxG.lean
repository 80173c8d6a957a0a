/- The reader of expressions: parts of one step, walked. -/
import Derived.Test.YtnjpdhekeffpnaaRxS
set_option linter.unusedVariables false
set_option linter.unusedSimpArgs false
namespace Go.Proofs.Ytnjpdhekeffpnaa.Rx
open Go.RowKit Go.Proofs.YtnjpdhekeffpnaaW.PrintWords Go.Proofs.YtnjpdhekeffpnaaW.PrintLast Go.Proofs.YtnjpdhekeffpnaaW.PrintMore

/-- what a call of the reader's answers: a part, and the reader behind it -/
def PartAt (w w' : World) (base b : Nat) (s : ByteArray) (R : Part × BS) (r : Ending) : Prop :=
  ∃ v, r = .returned (.agg #[.int .i64 (R.1.1 : Int), v]) ∧ OutsAt w' w.heap.size v R.1.2 ∧ BAt w' base b s R.2 ∧ Fr base b none w w'
theorem infoI : (Try.prog.info? 3).map (fun i => (i.zero, i.size, i.bytes)) = some (some (.int .i64 0), 1, 8) := by kernel_rfl
abbrev TP : Nat := 72
/-- the answer where a row that was handed in may be written -/
def PartX (w w' : World) (base base2 b : Nat) (O : Option Nat) (s : ByteArray) (R : Part × BS) (r : Ending) : Prop :=
  ∃ v, r = .returned (.agg #[.int .i64 (R.1.1 : Int), v]) ∧ OutsAt w' base2 v R.1.2 ∧ BAt w' base b s R.2 ∧ Fr base b O w w'
/-- a part is stored into the cell of the answer -/
theorem ret_partX {w w6 : World} {base base2 b : Nat} {O : Option Nat} {s : ByteArray} {S : BS} {p : Nat} {x y : Value} (hb : base ≤ w.heap.size) (hp : w6.heap[p]? = some (.cells #[x, y] TP (0, 0))) (hpw : w.heap.size ≤ p) (hpb : p ≠ b)
    (hB : BAt w6 base b s S) (hF : Fr base b O w w6) (n : Nat) (v : Value) (outs : List Nat) (hO : OutsAt w6 base2 v outs) :
    ((w6.setCell ⟨p, 0, none⟩ (.int .i64 (n : Int))).setCell ⟨p, 1, none⟩ v).heap[p]? = some (.cells #[.int .i64 (n : Int), v] TP (0, 0)) ∧
      PartX w ((w6.setCell ⟨p, 0, none⟩ (.int .i64 (n : Int))).setCell ⟨p, 1, none⟩ v) base base2 b O s ((n, outs), S) (.returned (.agg #[.int .i64 (n : Int), v])) := by
  have hq2 := blk_set hp 0 (.int .i64 (n : Int))
  have hq3 := blk_set hq2 1 v
  refine ⟨by simpa using hq3, v, rfl, ?_, ?_, ?_⟩
  · exact (hO.other hp (by decide) 0 _).other hq2 (by decide) 1 _
  · exact (hB.other hp (by decide) hpb 0 _).other hq2 (by decide) hpb 1 _
  · exact (hF.new hb hpw 0 _).new hb hpw 1 _
theorem ret_part {w w6 : World} {base b : Nat} {s : ByteArray} {S : BS} {p : Nat} {x y : Value} (hb : base ≤ w.heap.size) (hp : w6.heap[p]? = some (.cells #[x, y] TP (0, 0))) (hpw : w.heap.size ≤ p) (hpb : p ≠ b)
    (hB : BAt w6 base b s S) (hF : Fr base b none w w6) (n : Nat) (v : Value) (outs : List Nat) (hO : OutsAt w6 w.heap.size v outs) :
    ((w6.setCell ⟨p, 0, none⟩ (.int .i64 (n : Int))).setCell ⟨p, 1, none⟩ v).heap[p]? = some (.cells #[.int .i64 (n : Int), v] TP (0, 0)) ∧
      PartAt w ((w6.setCell ⟨p, 0, none⟩ (.int .i64 (n : Int))).setCell ⟨p, 1, none⟩ v) base b s ((n, outs), S) (.returned (.agg #[.int .i64 (n : Int), v])) :=
  ret_partX hb hp hpw hpb hB hF n v outs hO
/-- steps are passed by -/
theorem BAt.inc {w : World} {base b : Nat} {s : ByteArray} {S : BS} (h : BAt w base b s S) (k : Nat) (z : Int) (hz : z = (S.at_ : Int) + k) : BAt (w.setCell ⟨b, 1, none⟩ (.int .i64 z)) base b s (skip S k) ∧ Fr base b none w (w.setCell ⟨b, 1, none⟩ (.int .i64 z)) := by
  have := h.setAt (S.at_ + k)
  rw [show ((S.at_ + k : Nat) : Int) = z by rw [hz]; simp] at this
  exact this
theorem stpV_two (n m : Nat) : stpV ⟨1, 0, n, m⟩ = .agg #[.int .i64 1, .int .u64 0, .int .u64 0, .int .u64 0, .int .u64 0, .int .i64 (n : Int), .int .i64 (m : Int)] := by simp [stpV, wd]
/-- a row of ways out is written: the reader stays -/
theorem BAt.grownO {w w' : World} {base base2 b : Nat} {s : ByteArray} {S : BS} {v : Value} {outs : List Nat} (h : BAt w base b s S) (hO : OutsAt w base2 v outs) (hg : ∀ k, k < w.heap.size → some k ≠ v.ownBlock → w'.heap[k]? = w.heap[k]?) : BAt w' base b s S := by
  obtain ⟨h1, u, h2, h3⟩ := h
  have hne := Kd.R_ne hO h2 (by decide)
  refine ⟨h1, u, (hg b (blk_lt h2) hne).trans h2, Kd.R_mono (Kd.R_move (Kd.R_bound h3) (fun k hk => hg k hk.2.2.1 (fun e => ?_))) (fun _ _ => trivial)⟩
  obtain ⟨_, _, hlt, q, hq, cells, hc⟩ := hk
  obtain ⟨_, inner, ho, _⟩ := hO
  obtain ⟨cells', hc'⟩ := own_typed ho k e.symm
  rw [hc] at hc'
  injection hc' with hc'
  injection hc' with _ hc'
  rcases List.mem_cons.1 hq with rfl | hq
  · cases hc'
  · cases hq
theorem Fr.grownO {base b : Nat} {O : Option Nat} {w w1 w2 : World} (h : Fr base b O w w1) (hB : Below base w1 w2) (hg : ∀ k, k < w1.heap.size → some k ≠ O → w2.heap[k]? = w1.heap[k]?) : Fr base b O w w2 :=
  ⟨h.below.trans hB, fun k hk h1 h2 h3 => (hg k (Nat.lt_of_lt_of_le hk h.below.size) h2).trans (h.keep k hk h1 h2 h3)⟩
theorem OutsAt.lower {w : World} {base base' : Nat} {v : Value} {outs : List Nat} (h : OutsAt w base v outs) (hb : base' ≤ base) : OutsAt w base' v outs := Kd.R_lower h hb
section
variable {ops : Array Oper} {rest : List Oper} {o : Oper} {a : Act} {Q : Exit → Act → World → Prop}
theorem outs_event {W : World} (hgd : o.guard = none) {N : Tmp} (_hd : o.dst = some N) (outs : List Nat) {n : Nat} (hn : outs.length = n) (hm : n ≤ 9223372036854775807)
    (hrun : (execOp a.eval o).run Try.prog W = .ok (.value (.slice (some ⟨W.heap.size, 0, none⟩) n n)) (W.alloc (.cells (nums .i64 (outs.map fun (o : Nat) => (o : Int))).toArray TI)))
    (h : ∀ g, W.heap.size = g → ∀ w1, OutsAt w1 W.heap.size (.slice (some ⟨g, 0, none⟩) n n) outs → Below W.heap.size W w1 → wpList Try.prog ops Q rest (a.put o.dst (.slice (some ⟨g, 0, none⟩) n n)) w1) : wpList Try.prog ops Q (o :: rest) a W := by
  subst hn
  refine Kd.event_run hgd hrun (h _ rfl _ ?_ (below_alloc (Below.refl _ _) _))
  have h := own_lit W W.heap.size TI .i64 (outs.map fun (o : Nat) => (o : Int)) (Nat.le_refl _) (by rw [List.length_map]; exact hm)
  rw [List.length_map] at h
  exact Kd.R_of_own (enc := Value.int .i64) (h1 := fun _ => rfl) (by rw [List.length_map]; exact h) (fun k hk => trivial)
end
set_option maxHeartbeats 8000000 in
set_option maxRecDepth 100000 in
theorem singleW (w : World) (base b : Nat) (s : ByteArray) (S : BS) (x : Stp) (h : BAt w base b s S) (hl : S.st.length ≤ 1000000) :
    Calls Try.prog 59 #[.pointer (some ⟨b, 0, none⟩), stpV x] w fun r w' => PartAt w w' base b s (single x S) r := by
  have hu100 := Try.underlying100
  have hu72 := Try.underlying72
  have HS := Aside0.mk h
  have ihA := fun W (hb : Below w.heap.size w W) => addW W base b s S x (h.below hb) hl
  clear h
  obtain ⟨xk, xm, xn, xo⟩ := x
  unfold stpV at ihA ⊢
  dsimp only at ihA ⊢
  obtain ⟨a1, ha1⟩ : ∃ a, wd xm 0 = a := ⟨_, rfl⟩
  obtain ⟨a2, ha2⟩ : ∃ a, wd xm 1 = a := ⟨_, rfl⟩
  obtain ⟨a3, ha3⟩ : ∃ a, wd xm 2 = a := ⟨_, rfl⟩
  obtain ⟨a4, ha4⟩ : ∃ a, wd xm 3 = a := ⟨_, rfl⟩
  rw [ha1, ha2, ha3, ha4] at ihA ⊢
  clear ha1 ha2 ha3 ha4
  have HL := Aside0.mk hl
  go_enter Try.func59, Try.ntmps59
  go_wp2_with (first | ((with_reducible refine gate_dst (N := 3) rfl ?_); (try (refine gate_guard (by rfl) ?_; dsimp only)); refine box_event ?hg (N := 3) ?hd (cs := #[.int .i64 xk, .int .u64 a1, .int .u64 a2, .int .u64 a3, .int .u64 a4, .int .i64 xn, .int .i64 xo]) (t := 100) ?hr ?_; (case hd => rfl); (case hg => rfl); (case hr => first | (go_simp; done) | (go_simp; rfl)); intro q eq wq hq lq; have Eq := Aside0.mk eq; clear eq) | (((with_reducible refine gate_dst (N := 4) rfl ?_); (try (refine gate_guard (by rfl) ?_; dsimp only)); refine box_event ?hg (N := 4) ?hd (cs := #[.int .i64 0, .slice none 0 0]) (t := 72) ?hr ?_; (case hd => rfl); (case hg => rfl); (case hr => first | (go_simp; done) | (go_simp; rfl)); intro p ep wp hp lp; have Ep := Aside0.mk ep; clear ep; have p0 : wp.cell? ⟨p, 0, none⟩ = some (.int .i64 0) := (blk_cell hp 0).trans rfl; have p1 : wp.cell? ⟨p, 1, none⟩ = some (.slice none 0 0) := (blk_cell hp 1).trans rfl; have fp0 := blk_frozen hp 0; have fp1 := blk_frozen hp 1); have hq := blk_below hq lp; have y0 : wp.cell? ⟨q, 0, none⟩ = some (.int .i64 xk) := (blk_cell hq 0).trans rfl; have y1 : wp.cell? ⟨q, 1, none⟩ = some (.int .u64 a1) := (blk_cell hq 1).trans rfl; have y2 : wp.cell? ⟨q, 2, none⟩ = some (.int .u64 a2) := (blk_cell hq 2).trans rfl; have y3 : wp.cell? ⟨q, 3, none⟩ = some (.int .u64 a3) := (blk_cell hq 3).trans rfl; have y4 : wp.cell? ⟨q, 4, none⟩ = some (.int .u64 a4) := (blk_cell hq 4).trans rfl; have y5 : wp.cell? ⟨q, 5, none⟩ = some (.int .i64 xn) := (blk_cell hq 5).trans rfl; have y6 : wp.cell? ⟨q, 6, none⟩ = some (.int .i64 xo) := (blk_cell hq 6).trans rfl) | fail)
  refine (ihA wp (below_then lq lq.size lp)).mono ?_
  rintro e w5 ⟨rfl, hB5, hF5⟩
  have hpb : p ≠ b := by have := Eq.out; have := Ep.out; have := HS.out.lt; have := lq.size; omega
  have HP := Aside0.mk (show w.heap.size ≤ p by have := Eq.out; have := Ep.out; have := lq.size; omega)
  have hp := hF5.blk hp hpb (by simp) (by decide)
  have HF5 := Aside0.mk ((Fr.of (b := b) (O := none) HS.out.base_le (below_then lq lq.size lp)).trans hF5)
  have HB5 := Aside0.mk hB5
  clear hB5 hF5 y0 y1 y2 y3 y4 y5 y6 p0 p1 fp0 fp1 hq lp lq
  have w1' : IntKind.i64.wrap (2 * (S.st.length : Int)) = ((2 * S.st.length : Nat) : Int) := by have := HL.out; rw [wraps_i64 _ (by omega) (by omega)]; omega
  go_wp2_with (first | (((with_reducible refine gate_dst (N := 12) rfl ?_); refine outs_event ?hg (N := 12) ?hd [2 * S.st.length] rfl (by simp) ?hr ?_; (case hd => rfl); (case hg => rfl); (case hr => first | (go_simp; done) | (go_simp; rfl)); intro g eg wg hg lg; have Eg := Aside0.mk eg; clear eg); have hp := blk_below hp lg; have p0 : wg.cell? ⟨p, 0, none⟩ = some (.int .i64 0) := (blk_cell hp 0).trans rfl; have p1 : wg.cell? ⟨p, 1, none⟩ = some (.slice none 0 0) := (blk_cell hp 1).trans rfl; have fp0 := blk_frozen hp 0; have fp1 := blk_frozen hp 1) | fail)
  have hr := ret_part HS.out.base_le hp HP.out hpb (HB5.out.below lg) (HF5.out.trans (Fr.of HB5.out.base_le lg)) S.st.length (.slice (some ⟨g, 0, none⟩) 1 1) [2 * S.st.length] (hg.lower HF5.out.grow)
  generalize World.setCell (World.setCell wg ⟨p, 0, none⟩ (.int .i64 (S.st.length : Int))) ⟨p, 1, none⟩ (.slice (some ⟨g, 0, none⟩) 1 1) = w7 at *
  have c0 : w7.cell? ⟨p, 0, none⟩ = some (.int .i64 (S.st.length : Int)) := (blk_cell hr.1 0).trans rfl
  have c1 : w7.cell? ⟨p, 1, none⟩ = some (.slice (some ⟨g, 0, none⟩) 1 1) := (blk_cell hr.1 1).trans rfl
  refine bodyPost_ret (by simp [results, Try.results59, go_sem, c0, c1, hu72]; try rfl) rfl ?_
  exact hr.2
end Go.Proofs.Ytnjpdhekeffpnaa.Rx
