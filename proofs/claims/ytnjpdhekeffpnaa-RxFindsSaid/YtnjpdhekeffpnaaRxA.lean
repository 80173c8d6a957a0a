/- The reader of expressions: a step added, ways out laid, walked. -/
import Derived.Test.YtnjpdhekeffpnaaRxW
set_option linter.unusedVariables false
set_option linter.unusedSimpArgs false
namespace Go.Proofs.Ytnjpdhekeffpnaa.Rx
open Go.RowKit Go.Proofs.YtnjpdhekeffpnaaW.PrintWords Go.Proofs.YtnjpdhekeffpnaaW.PrintLast Go.Proofs.YtnjpdhekeffpnaaW.PrintMore

theorem infoT : (Try.prog.info? 100).map (fun i => (i.zero, i.size, i.bytes)) = some (some (.agg #[.int .i64 0, .int .u64 0, .int .u64 0, .int .u64 0, .int .u64 0, .int .i64 0, .int .i64 0]), 7, 56) := by kernel_rfl
def stpV (x : Stp) : Value := .agg #[.int .i64 x.k, .int .u64 (wd x.m 0), .int .u64 (wd x.m 1), .int .u64 (wd x.m 2), .int .u64 (wd x.m 3), .int .i64 x.nx, .int .i64 x.ot]
set_option maxHeartbeats 8000000 in
set_option maxRecDepth 100000 in
theorem addW (w : World) (base b : Nat) (s : ByteArray) (S : BS) (x : Stp) (h : BAt w base b s S) (hl : S.st.length ≤ 1000000) :
    Calls Try.prog 40 #[.pointer (some ⟨b, 0, none⟩), stpV x] w fun r w' => r = .returned (.int .i64 (S.st.length : Int)) ∧ BAt w' base b s (addB x S) ∧ Fr base b none w w' := by
  have hu69 := Try.underlying69
  have hu100 := Try.underlying100
  have HS := Aside0.mk h
  obtain ⟨xk, xm, xn, xo⟩ := x
  unfold stpV
  dsimp only
  obtain ⟨a1, ha1⟩ : ∃ a, wd xm 0 = a := ⟨_, rfl⟩
  obtain ⟨a2, ha2⟩ : ∃ a, wd xm 1 = a := ⟨_, rfl⟩
  obtain ⟨a3, ha3⟩ : ∃ a, wd xm 2 = a := ⟨_, rfl⟩
  obtain ⟨a4, ha4⟩ : ∃ a, wd xm 3 = a := ⟨_, rfl⟩
  have HA := Aside0.mk (show stpC ⟨xk, xm, xn, xo⟩ = [.int .i64 xk, .int .u64 a1, .int .u64 a2, .int .u64 a3, .int .u64 a4, .int .i64 xn, .int .i64 xo] by rw [stpC, ha1, ha2, ha3, ha4])
  rw [ha1, ha2, ha3, ha4]
  clear ha1 ha2 ha3 ha4
  go_enter Try.func40, Try.ntmps40
  go_wp2_with (first | ((with_reducible refine gate_dst (N := 3) rfl ?_); (try (refine gate_guard (by rfl) ?_; dsimp only)); refine box_event ?hg (N := 3) ?hd (cs := #[.int .i64 xk, .int .u64 a1, .int .u64 a2, .int .u64 a3, .int .u64 a4, .int .i64 xn, .int .i64 xo]) (t := 100) ?hr ?_; (case hd => rfl); (case hg => rfl); (case hr => first | (go_simp; done) | (go_simp; rfl)); intro q eq wq hq lq; have Eq := Aside0.mk eq; clear eq))
  obtain ⟨h1, v, h2, h3⟩ := HS.out.below lq
  obtain ⟨A0, c0, rfl⟩ := Kd.R_slice h3
  have x5 : wq.cell? ⟨b, 5, none⟩ = some (.slice A0 S.st.length c0) := (blk_cell h2 5).trans rfl
  have f5 := blk_frozen h2 5
  have hbw := blk_lt h2
  have hbs : base ≤ wq.heap.size := by omega
  have y0 : wq.cell? ⟨q, 0, none⟩ = some (.int .i64 xk) := (blk_cell hq 0).trans rfl
  have y1 : wq.cell? ⟨q, 1, none⟩ = some (.int .u64 a1) := (blk_cell hq 1).trans rfl
  have y2 : wq.cell? ⟨q, 2, none⟩ = some (.int .u64 a2) := (blk_cell hq 2).trans rfl
  have y3 : wq.cell? ⟨q, 3, none⟩ = some (.int .u64 a3) := (blk_cell hq 3).trans rfl
  have y4 : wq.cell? ⟨q, 4, none⟩ = some (.int .u64 a4) := (blk_cell hq 4).trans rfl
  have y5 : wq.cell? ⟨q, 5, none⟩ = some (.int .i64 xn) := (blk_cell hq 5).trans rfl
  have y6 : wq.cell? ⟨q, 6, none⟩ = some (.int .i64 xo) := (blk_cell hq 6).trans rfl
  have hR := Aside0.mk h3
  have hQ := Aside0.mk h2
  have HL := Aside0.mk lq
  clear h3 h2 h1 h lq
  go_region_law (first | (refine Kd.R_append_step kst (w0 := wq) base (by rfl) (.tmp 9) (.tmp 11) 56 100 (.agg #[.int .i64 0, .int .u64 0, .int .u64 0, .int .u64 0, .int .u64 0, .int .i64 0, .int .i64 0]) 56 (by rfl) Try.underlying56 infoT (by rfl) (by decide) (by decide) (.slice A0 S.st.length c0) S.st ⟨xk, xm, xn, xo⟩ [.int .i64 xk, .int .u64 a1, .int .u64 a2, .int .u64 a3, .int .u64 a4, .int .i64 xn, .int .i64 xo] (fun _ => True) (fun _ => False) (by rfl) (by rfl) (by rw [← HA.out]; exact kst_mkM _ _ _ _) (fun _ hk => hk.elim) (fun _ _ => trivial) (Kd.R_below hR.out (below_drew (Below.refl _ _))) (below_drew (Below.refl _ _)) (by exact hbs) (by omega) ?_; intro v5 w5 hR5 hB5 hg5 hat5; obtain ⟨A5, c5, e5⟩ := Kd.R_slice hR5; subst e5; have hk5 : w5.heap[b]? = some (.cells (bC s S (.slice A0 S.st.length c0)) TB (0, 0)) := (hg5.block b (by exact hbw) (Kd.R_ne hR.out hQ.out (by decide))).trans hQ.out; have z5 : w5.cell? ⟨b, 5, none⟩ = some (.slice A0 S.st.length c0) := (blk_cell hk5 5).trans rfl; have g5 := blk_frozen hk5 5) | fail)
  all_goals
    have hS6 := BAt.setSt (HS.out.below HL.out) (hk5.trans hQ.out.symm) hR5
    rw [List.length_append, List.length_singleton] at hS6
    have hF6 := ((Fr.of (b := b) (O := none) HS.out.base_le HL.out).trans (Fr.grown hR.out hB5 (fun k hk hne => hg5.block k hk hne))).set HS.out.1 5 (.slice A5 (S.st.length + 1) c5)
    go_wp2_with (fail)
    go_ret
    exact ⟨rfl, hS6, hF6⟩
end Go.Proofs.Ytnjpdhekeffpnaa.Rx
