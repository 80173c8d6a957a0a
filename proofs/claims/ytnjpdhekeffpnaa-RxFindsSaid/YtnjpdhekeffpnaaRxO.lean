/- An expression's steps found, the first time it is asked; walked. -/
import Derived.Test.YtnjpdhekeffpnaaRxC
import Derived.Test.YtnjpdhekeffpnaaRxM
set_option linter.unusedVariables false
set_option linter.unusedSimpArgs false
namespace Go.Proofs.Ytnjpdhekeffpnaa.Rx
open Go.RowKit Go.Proofs.YtnjpdhekeffpnaaW.PrintWords Go.Proofs.YtnjpdhekeffpnaaW.PrintLast Go.Proofs.YtnjpdhekeffpnaaW.PrintMore

theorem readB_gr (s : ByteArray) : Gr 1 ⟨0, none, []⟩ (readB s) := waysB_gr s 16 _
theorem readB_up (s : ByteArray) : (readB s).2.at_ ≤ s.size + 18 := waysB_up s 16 _ (by show 0 ≤ _; omega)
/-- the cells of an expression while its steps are being found -/
def RgL (s : ByteArray) (v : Value) (first : Int) : Array Value := #[.string s, .bool true, .int .u32 0, .int .i32 1, .int .u32 0, v, .int .i64 first]
theorem stpV_done : stpV ⟨4, 0, 0, 0⟩ = .agg #[.int .i64 4, .int .u64 0, .int .u64 0, .int .u64 0, .int .u64 0, .int .i64 0, .int .i64 0] := by simp [stpV, wd]
set_option maxHeartbeats 8000000 in
set_option maxRecDepth 100000 in
theorem buildW (w : World) (r : Nat) (s : ByteArray) (hs : s.size ≤ 200) (h : w.heap[r]? = some (.cells (RgL s (.slice none 0 0) 0) TR (0, 0))) :
    Calls Try.prog 43 #[.pointer (some ⟨r, 0, none⟩)] w fun e w' => e = .returned (.tuple #[]) ∧ (∃ v, w'.heap[r]? = some (.cells (RgL s v (firstB s : Int)) TR (0, 0)) ∧ Kd.R kst TS w' 0 (fun _ => True) v (stepsB s)) ∧ Mk r w w' := by
  have hu72 := Try.underlying72
  have hu69 := Try.underlying69
  have hu100 := Try.underlying100
  have hu58 := Try.underlying58
  have HR := Aside0.mk h
  have HH := Aside0.mk hs
  have x0 : w.cell? ⟨r, 0, none⟩ = some (.string s) := (blk_cell h 0).trans rfl
  clear h hs
  go_enter Try.func43, Try.ntmps43
  go_wp2_with (first
    | ((with_reducible refine gate_dst (N := 9) rfl ?_); (try (refine gate_guard (by rfl) ?_; dsimp only)); refine box_event ?hg (N := 9) ?hd (cs := #[.string s, .int .i64 0, .int .i64 0, .int .i64 0, .int .i64 0, .slice none 0 0]) (t := 69) ?hr ?_; (case hd => rfl); (case hg => rfl); (case hr => first | (go_simp; done) | (go_simp; rfl)); intro b eb wb hb lb; have Eb := Aside0.mk eb; clear eb)
    | fail)
  have hB0 : BAt wb w.heap.size b s ⟨0, none, []⟩ := ⟨by have := Eb.out; omega, _, hb, Kd.R_nil _ _ _ _ _⟩
  have ih := waysTop w.heap.size b s HH.out wb _ hB0 (by show 0 ≤ _; omega) (by show 0 ≤ _; omega)
  have hE : waysB s 16 ⟨0, none, []⟩ = readB s := rfl
  rw [hE] at ih
  have hgr := readB_gr s
  have hup := readB_up s
  have hst : stepsB s = (patchB (readB s).1.2 (readB s).2.st.length (addB ⟨4, 0, 0, 0⟩ (readB s).2)).st := rfl
  have hfi : firstB s = (readB s).1.1 := rfl
  obtain ⟨K, hK⟩ : ∃ K, readB s = K := ⟨_, rfl⟩
  rw [hK] at ih hgr hup hst hfi
  have HG := Aside0.mk (⟨hgr, hup, hst, hfi⟩ : Gr 1 ⟨0, none, []⟩ K ∧ K.2.at_ ≤ s.size + 18 ∧ stepsB s = (patchB K.1.2 K.2.st.length (addB ⟨4, 0, 0, 0⟩ K.2)).st ∧ firstB s = K.1.1)
  refine ih.mono ?_
  rintro e w2 ⟨v2, rfl, hO2, hB2, hF2⟩
  obtain ⟨A2, c2, rfl⟩ := hO2.slice
  have HB2 := Aside0.mk hB2
  have HO2 := Aside0.mk (hO2.lower lb.size)
  have HF2 := Aside0.mk ((Fr.of (b := b) (O := none) (Nat.le_refl _) lb).trans hF2)
  clear ih hE hgr hup hst hfi hK hB2 hO2 hF2 hB0 hb lb x0
  go_wp2_with (first | (((with_reducible refine gate_dst (N := 3) rfl ?_); (try (refine gate_guard (by rfl) ?_; dsimp only)); refine box_event ?hg (N := 3) ?hd (cs := #[.int .i64 0, .slice none 0 0]) (t := 72) ?hr ?_; (case hd => rfl); (case hg => rfl); (case hr => first | (go_simp; done) | (go_simp; rfl)); intro q eq wq hq lq; have Eq := Aside0.mk eq; clear eq); have q0 : wq.cell? ⟨q, 0, none⟩ = some (.int .i64 0) := (blk_cell hq 0).trans rfl; have q1 : wq.cell? ⟨q, 1, none⟩ = some (.slice none 0 0) := (blk_cell hq 1).trans rfl; have fq0 := blk_frozen hq 0; have fq1 := blk_frozen hq 1; have HLq := Aside0.mk lq; clear lq) | fail)
  have hqb : q ≠ b := by have := Eq.out; have := HB2.out.lt; omega
  have hqw : w.heap.size ≤ q := by have := Eq.out; have := HF2.out.grow; omega
  have hr := ret_partX (w := w) (O := none) (base2 := w.heap.size) (Nat.le_refl _) hq hqw hqb (HB2.out.below HLq.out) (HF2.out.trans (Fr.of HB2.out.base_le HLq.out)) K.1.1 (.slice A2 K.1.2.length c2) K.1.2 (HO2.out.below HLq.out)
  obtain ⟨w4, hw4⟩ : ∃ w4, World.setCell (World.setCell wq ⟨q, 0, none⟩ (.int .i64 (K.1.1 : Int))) ⟨q, 1, none⟩ (.slice A2 K.1.2.length c2) = w4 := ⟨_, rfl⟩
  rw [hw4] at hr
  rw [hw4]
  obtain ⟨hq4, v4, e4, hT4, hB4, hF4⟩ := hr
  obtain rfl := part_eq e4
  have ihA := fun W (hb : Below w4.heap.size w4 W) => addW W w.heap.size b s K.2 ⟨4, 0, 0, 0⟩ (hB4.below hb) (by have := HG.out.1.up; have := HG.out.2.1; have := HH.out; have e0 : (⟨0, none, []⟩ : BS).at_ = 0 := rfl; have e1 : (⟨0, none, []⟩ : BS).st.length = 0 := rfl; omega)
  simp only [stpV_done] at ihA
  have y0 : w4.cell? ⟨q, 0, none⟩ = some (.int .i64 (K.1.1 : Int)) := (blk_cell hq4 0).trans rfl
  have y1 : w4.cell? ⟨q, 1, none⟩ = some (.slice A2 K.1.2.length c2) := (blk_cell hq4 1).trans rfl
  have HQ4 := Aside0.mk hq4
  have HT4 := Aside0.mk hT4
  have HB4 := Aside0.mk hB4
  have HF4 := Aside0.mk hF4
  clear e4 hw4 q0 q1 fq0 fq1 hq HB2 HF2 HO2 hq4 hT4 hB4 hF4
  go_region_with (first
    | (go_at_call 40; (with_reducible refine (ihA _ ?hA).mono ?_); (case hA => exact below_drew (Below.refl _ _)); rintro e w5 ⟨rfl, hB5, hF5⟩; have hq5 := hF5.blk (show w4.drew.heap[q]? = _ from HQ4.out) hqb (by simp) (by decide); have hT5 := OutsAt.fr (show OutsAt w4.drew w.heap.size (.slice A2 K.1.2.length c2) K.1.2 from HT4.out.below (below_drew (Below.refl _ _))) hF5 ⟨_, HB4.out.2.choose_spec.1⟩ (fun _ _ => by simp); have z0 : w5.cell? ⟨q, 0, none⟩ = some (.int .i64 (K.1.1 : Int)) := (blk_cell hq5 0).trans rfl; have z1 : w5.cell? ⟨q, 1, none⟩ = some (.slice A2 K.1.2.length c2) := (blk_cell hq5 1).trans rfl)
    | (go_at_call 52; refine (patchW w5 w.heap.size w.heap.size b s (addB ⟨4, 0, 0, 0⟩ K.2) K.1.1 (.slice A2 K.1.2.length c2) K.1.2 K.2.st.length (by exact hB5) (by exact hT5) (by exact fun o ho => by have := HG.out.1.outs o ho; rw [addB_len]; omega) (by exact (by have := HG.out.1.up; have := HG.out.2.1; have := HH.out; have e0 : (⟨0, none, []⟩ : BS).at_ = 0 := rfl; have e1 : (⟨0, none, []⟩ : BS).st.length = 0 := rfl; rw [addB_len]; omega))).mono ?_; rintro e w6 ⟨rfl, hB6, hF6⟩)
    | fail)
  all_goals
    have hBW : Below w.heap.size w w6 := ((below_drew HF4.out.below).trans hF5.below).trans hF6.below
    have hq6 := hF6.blk hq5 hqb (by simp) (by decide)
    obtain ⟨hb1, vb, hb2, hRb⟩ := hB6
    obtain ⟨Ab, cb, rfl⟩ := Kd.R_slice hRb
    have hr6 := (hBW.block r (blk_lt HR.out)).trans HR.out
    have k5 : w6.cell? ⟨b, 5, none⟩ = some (.slice Ab (patchB K.1.2 K.2.st.length (addB ⟨4, 0, 0, 0⟩ K.2)).st.length cb) := (blk_cell hb2 5).trans rfl
    have k0 : w6.cell? ⟨q, 0, none⟩ = some (.int .i64 (K.1.1 : Int)) := (blk_cell hq6 0).trans rfl
    have r5 : w6.cell? ⟨r, 5, none⟩ = some (.slice none 0 0) := (blk_cell hr6 5).trans rfl
    have r6 : w6.cell? ⟨r, 6, none⟩ = some (.int .i64 0) := (blk_cell hr6 6).trans rfl
    have fr5 := blk_frozen hr6 5
    have fr6 := blk_frozen hr6 6
    have HRb := Aside0.mk hRb
    have HR6 := Aside0.mk hr6
    have HBW := Aside0.mk hBW
    obtain ⟨ln, hln⟩ : ∃ ln, (patchB K.1.2 K.2.st.length (addB ⟨4, 0, 0, 0⟩ K.2)).st.length = ln := ⟨_, rfl⟩
    rw [hln] at k5 HRb
    have nrb : r ≠ b := by have := Eb.out; have := blk_lt HR.out; omega
    have nrq : r ≠ q := by have := blk_lt HR.out; omega
    clear hBW hq6 hb1 hb2 hRb hr6 hF5 hF6 hq5 hT5 z0 z1 hln hB5 ihA y0 y1
    go_wp2_with (fail)
    go_region
    all_goals
      (try go_wp2_with (fail))
      (try go_end0)
      refine ⟨rfl, ⟨.slice Ab ln cb, ?_, ?_⟩, ?_⟩
      · have := blk_set (blk_set HR6.out 5 (.slice Ab ln cb)) 6 (.int .i64 (K.1.1 : Int))
        rw [HG.out.2.2.2]
        have h9 : (World.setCell (World.setCell w6 ⟨r, 5, none⟩ (.slice Ab ln cb)) ⟨r, 6, none⟩ (.int .i64 (K.1.1 : Int))).heap[r]? = some (.cells (RgL s (.slice Ab ln cb) (K.1.1 : Int)) TR (0, 0)) := by simpa [RgL] using this
        exact h9
      · rw [HG.out.2.2.1]
        have h1 := Kd.R_lower (Kd.R_mono (Kd.R_far (p := ⟨r, 5, none⟩) (Kd.R_types HRb.out HR6.out (by decide)) (fun k hk => hk.2) (.slice Ab ln cb)) (fun _ _ => trivial) : Kd.R kst TS _ w.heap.size (fun _ => True) _ _) (Nat.zero_le _)
        have h2 := blk_set HR6.out 5 (.slice Ab ln cb)
        exact Kd.R_mono (Kd.R_far (p := ⟨r, 6, none⟩) (Kd.R_types h1 h2 (by decide)) (fun k hk => hk.2) (.int .i64 (K.1.1 : Int))) (fun _ _ => trivial)
      · refine ⟨fun B h1 h2 => ?_, fun k hk hne => ?_⟩
        · exact below_drew (((Below.lower HBW.out h2).setCell (p := ⟨r, 5, none⟩) h1 _).setCell (p := ⟨r, 6, none⟩) h1 _)
        · exact ((Below.heap_setCell _ ⟨r, 6, none⟩ _ k hne).trans (Below.heap_setCell w6 ⟨r, 5, none⟩ _ k hne)).trans (HBW.out.block k hk)
end Go.Proofs.Ytnjpdhekeffpnaa.Rx
