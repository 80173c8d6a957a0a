/- The reader of expressions: what stands behind a thing, walked. -/
import Derived.Test.YtnjpdhekeffpnaaRxW
set_option linter.unusedVariables false
set_option linter.unusedSimpArgs false
namespace Go.Proofs.Ytnjpdhekeffpnaa.Rx
open Go.RowKit Go.Proofs.YtnjpdhekeffpnaaW.PrintWords Go.Proofs.YtnjpdhekeffpnaaW.PrintLast Go.Proofs.YtnjpdhekeffpnaaW.PrintMore

theorem addSk (w : World) (base b : Nat) (s : ByteArray) (S : BS) (n1 n2 : Nat) (h : BAt w base b s S) (hl : S.st.length ≤ 1000000) :
    Calls Try.prog 40 #[.pointer (some ⟨b, 0, none⟩), .agg #[.int .i64 1, .int .u64 0, .int .u64 0, .int .u64 0, .int .u64 0, .int .i64 (n1 : Int), .int .i64 (n2 : Int)]] w fun r w' => r = .returned (.int .i64 (S.st.length : Int)) ∧ BAt w' base b s (addB ⟨1, 0, n1, n2⟩ S) ∧ Fr base b none w w' := by
  rw [← stpV_two]
  exact addW w base b s S ⟨1, 0, n1, n2⟩ h hl
theorem OutsAt.append {w : World} {base : Nat} {v : Value} {a b : List Nat} (h : Kd.R (Kd.int .i64) TI w base (fun _ => True) v ((a.map fun (o : Nat) => (o : Int)) ++ (b.map fun (o : Nat) => (o : Int)))) : OutsAt w base v (a ++ b) := by
  unfold OutsAt
  rw [List.map_append]; exact h
theorem Below.lower {B B' : Nat} {w w' : World} (h : Below B w w') (hb : B' ≤ B) : Below B' w w' := ⟨h.os, h.tape, h.output, h.size, fun i hi => h.block i (Nat.lt_of_lt_of_le hi hb)⟩
theorem ix3 (c : Int) (h0 : 0 ≤ c) (h1 : c ≤ 255) : Lib.indexByte [42, 43, 63] c.toNat.toUInt8 = if c = 42 then 0 else if c = 43 then 1 else if c = 63 then 2 else -1 := by
  have h : ∀ k : Fin 256, Lib.indexByte [42, 43, 63] (k.val).toUInt8 = if (k.val : Int) = 42 then 0 else if (k.val : Int) = 43 then 1 else if (k.val : Int) = 63 then 2 else -1 := by decide +kernel
  have := h ⟨c.toNat, by omega⟩
  rw [show ((c.toNat : Nat) : Int) = c by omega] at this
  exact this
theorem ixW (c r : Int) (h : Lib.indexByte [42, 43, 63] c.toNat.toUInt8 = r) (W : World) : Calls Try.prog 36 #[.string ⟨#[42, 43, 63]⟩, .int .u8 c] W fun e w' => e = .returned (.int .i64 r) ∧ w' = W := by
  have := Try.strings_IndexByte ⟨#[42, 43, 63]⟩ c W
  rw [show (⟨#[42, 43, 63]⟩ : ByteArray).data.toList = [42, 43, 63] from rfl, h] at this
  exact this
set_option maxHeartbeats 8000000 in
set_option maxRecDepth 100000 in
theorem repeatW (w : World) (base base2 b : Nat) (s : ByteArray) (S : BS) (q : Part) (v : Value) (h : BAt w base b s S) (hO : OutsAt w base2 v q.2) (hb2 : base ≤ base2 ∧ base2 ≤ w.heap.size) (hl : S.st.length ≤ 900000) (hs : s.size ≤ 200) (hm : q.2.length ≤ 1000000) (hv : ∀ o ∈ q.2, o / 2 < S.st.length) (hq1 : q.1 < S.st.length) :
    Calls Try.prog 50 #[.pointer (some ⟨b, 0, none⟩), .agg #[.int .i64 (q.1 : Int), v]] w fun r w' => PartX w w' base base2 b v.ownBlock s (repB s q S) r := by
  have hu100 := Try.underlying100
  have hu72 := Try.underlying72
  have hu69 := Try.underlying69
  have HS := Aside0.mk h
  have HO := Aside0.mk hO
  have HM := Aside0.mk (⟨hl, hs, hm, hv, hb2⟩ : S.st.length ≤ 900000 ∧ s.size ≤ 200 ∧ q.2.length ≤ 1000000 ∧ (∀ o ∈ q.2, o / 2 < S.st.length) ∧ base ≤ base2 ∧ base2 ≤ w.heap.size)
  obtain ⟨Ao, co, rfl⟩ := hO.slice
  clear h hO hl hs hm hv hb2
  go_enter Try.func50, Try.ntmps50
  go_wp2_with (first | ((with_reducible refine gate_dst (N := 3) rfl ?_); (try (refine gate_guard (by rfl) ?_; dsimp only)); refine box_event ?hg (N := 3) ?hd (cs := #[.int .i64 (q.1 : Int), .slice Ao q.2.length co]) (t := 72) ?hr ?_; (case hd => rfl); (case hg => rfl); (case hr => first | (go_simp; done) | (go_simp; rfl)); intro u eu wu hu lu; have Eu := Aside0.mk eu; clear eu) | ((with_reducible refine gate_dst (N := 4) rfl ?_); (try (refine gate_guard (by rfl) ?_; dsimp only)); refine box_event ?hg (N := 4) ?hd (cs := #[.int .i64 0, .slice none 0 0]) (t := 72) ?hr ?_; (case hd => rfl); (case hg => rfl); (case hr => first | (go_simp; done) | (go_simp; rfl)); intro p ep wp hp lp; have Ep := Aside0.mk ep; clear ep) | fail)
  have hlp := below_then lu lu.size lp
  have hbs := HS.out.base_le
  have HW := Aside0.mk (⟨by have := Eu.out; have := Ep.out; have := lu.size; omega, by have := Eu.out; have := Ep.out; have := lu.size; have := HS.out.lt; omega, by have := Eu.out; omega, by have := Eu.out; have := HS.out.lt; omega⟩ : w.heap.size ≤ p ∧ p ≠ b ∧ w.heap.size ≤ u ∧ u ≠ b)
  refine (peekW wp base b s S (HS.out.below hlp)).mono ?_
  rintro e w3 ⟨rfl, hb3⟩
  have HB3 := Aside0.mk ((HS.out.below hlp).below hb3)
  have HO3 := Aside0.mk ((HO.out.below hlp).below hb3)
  have HF3 := Aside0.mk (Fr.of (b := b) (O := (Value.slice Ao q.2.length co).ownBlock) hbs (below_then hlp hlp.size hb3))
  have HP := Aside0.mk (blk_below hp hb3)
  have HU := Aside0.mk (blk_below (blk_below hu lp) hb3)
  clear hlp hbs hp hu lp lu hb3
  obtain ⟨c, hc⟩ : ∃ c, peekB s S = c := ⟨_, rfl⟩
  rw [hc]
  have HC := Aside0.mk hc
  cases c with
  | none =>
    have eR : repB s q S = (q, S) := by rw [repB, hc]
    have HE := Aside0.mk eR
    clear hc eR
    have hu := HU.out
    have hp := HP.out
    have u0 : w3.cell? ⟨u, 0, none⟩ = some (.int .i64 (q.1 : Int)) := (blk_cell hu 0).trans rfl; have u1 : w3.cell? ⟨u, 1, none⟩ = some (.slice Ao q.2.length co) := (blk_cell hu 1).trans rfl; have fu0 := blk_frozen hu 0; have fu1 := blk_frozen hu 1
    have p0 : w3.cell? ⟨p, 0, none⟩ = some (.int .i64 0) := (blk_cell hp 0).trans rfl; have p1 : w3.cell? ⟨p, 1, none⟩ = some (.slice none 0 0) := (blk_cell hp 1).trans rfl; have fp0 := blk_frozen hp 0; have fp1 := blk_frozen hp 1
    go_wp2_with (fail)
    have hr := ret_partX HS.out.base_le hp HW.out.1 HW.out.2.1 HB3.out HF3.out q.1 (.slice Ao q.2.length co) q.2 HO3.out
    (obtain ⟨w9, hw9⟩ : ∃ w9, World.setCell (World.setCell w3 ⟨p, 0, none⟩ (.int .i64 (q.1 : Int))) ⟨p, 1, none⟩ (.slice Ao q.2.length co) = w9 := ⟨_, rfl⟩; rw [hw9] at hr; rw [hw9]; clear hw9; have c0 : w9.cell? ⟨p, 0, none⟩ = some (.int .i64 (q.1 : Int)) := (blk_cell hr.1 0).trans rfl; have c1 : w9.cell? ⟨p, 1, none⟩ = some (.slice Ao q.2.length co) := (blk_cell hr.1 1).trans rfl; refine bodyPost_ret (by simp [results, Try.results50, go_sem, c0, c1, hu72]; try rfl) rfl ?_)
    rw [HE.out]
    exact hr.2
  | some c =>
    have hbr := bt_range s S.at_
    have hcl := peek_lt hc
    have hc0 : 0 ≤ c ∧ c ≤ 255 := by rw [hcl.2.2]; exact hbr
    have hix := ix3 c hc0.1 hc0.2
    have hu := HU.out
    have hp := HP.out
    have u0 : w3.cell? ⟨u, 0, none⟩ = some (.int .i64 (q.1 : Int)) := (blk_cell hu 0).trans rfl; have u1 : w3.cell? ⟨u, 1, none⟩ = some (.slice Ao q.2.length co) := (blk_cell hu 1).trans rfl; have fu0 := blk_frozen hu 0; have fu1 := blk_frozen hu 1
    have p0 : w3.cell? ⟨p, 0, none⟩ = some (.int .i64 0) := (blk_cell hp 0).trans rfl; have p1 : w3.cell? ⟨p, 1, none⟩ = some (.slice none 0 0) := (blk_cell hp 1).trans rfl; have fp0 := blk_frozen hp 0; have fp1 := blk_frozen hp 1
    by_cases h3 : c = 42 ∨ c = 43 ∨ c = 63
    · have hcl' : (S.at_ : Int) + 1 < 9223372036854775808 := by have := HM.out.2.1; omega
      have hnn : (0 : Int) ≤ (S.st.length : Int) := Int.natCast_nonneg _
      have hll : (S.st.length : Int) ≤ 900000 := by have := HM.out.1; omega
      obtain ⟨hb1, vs, hb2, hR2⟩ := HB3.out
      have x1 : w3.cell? ⟨b, 1, none⟩ = some (.int .i64 S.at_) := (blk_cell hb2 1).trans rfl
      have f1 := blk_frozen hb2 1
      have HB3b := Aside0.mk hb2
      clear hb2 hR2 hb1 hbr
      rcases h3 with rfl | rfl | rfl
      · have eR : repB s q S = ((S.st.length, [2 * S.st.length + 1]), patchB q.2 S.st.length (addB ⟨1, 0, q.1, 0⟩ (skip S 1))) := by rw [repB, hc]; rfl
        have HE := Aside0.mk eR
        rw [if_pos rfl] at hix
        clear hc eR hcl
        go_wp2_with (first | (go_at_call 36; refine (ixW _ _ hix _).mono ?_; rintro e w3 ⟨rfl, rfl⟩) | fail)
        have hinc := HB3.out.inc 1 ((S.at_ : Int) + 1) (by simp)
        generalize World.setCell w3 ⟨b, 1, none⟩ (.int .i64 ((S.at_ : Int) + 1)) = w4 at *
        have ihA : Calls Try.prog 40 #[.pointer (some ⟨b, 0, none⟩), .agg #[.int .i64 1, .int .u64 0, .int .u64 0, .int .u64 0, .int .u64 0, .int .i64 (q.1 : Int), .int .i64 0]] w4 (fun r w' => r = .returned (.int .i64 (S.st.length : Int)) ∧ BAt w' base b s (addB ⟨1, 0, q.1, 0⟩ (skip S 1)) ∧ Fr base b none w4 w') := addSk w4 base b s (skip S 1) q.1 0 hinc.1 (Nat.le_trans HM.out.1 (by decide))
        refine ihA.mono ?_
        rintro e w5 ⟨rfl, hB5, hF5⟩
        have hF35 := hinc.2.trans hF5
        have hp := hF35.blk hp HW.out.2.1 (by simp) (by decide)
        have hu := hF35.blk hu HW.out.2.2.2 (by simp) (by decide)
        have HO5 := Aside0.mk (HO3.out.fr hF35 ⟨_, HB3b.out⟩ (fun _ _ => by simp))
        have HF5 := Aside0.mk (HF3.out.trans (hF35.wide (Value.slice Ao q.2.length co).ownBlock))
        have HB5 := Aside0.mk hB5
        clear hinc ihA hB5 hF5 hF35 u0 u1 fu0 fu1 p0 p1 fp0 fp1 x1 f1 hix
        have u0 : w5.cell? ⟨u, 0, none⟩ = some (.int .i64 (q.1 : Int)) := (blk_cell hu 0).trans rfl; have u1 : w5.cell? ⟨u, 1, none⟩ = some (.slice Ao q.2.length co) := (blk_cell hu 1).trans rfl; have fu0 := blk_frozen hu 0; have fu1 := blk_frozen hu 1
        have p0 : w5.cell? ⟨p, 0, none⟩ = some (.int .i64 0) := (blk_cell hp 0).trans rfl; have p1 : w5.cell? ⟨p, 1, none⟩ = some (.slice none 0 0) := (blk_cell hp 1).trans rfl; have fp0 := blk_frozen hp 0; have fp1 := blk_frozen hp 1
        go_wp2_with (fail)
        refine (patchW w5 base base2 b s _ q.1 (.slice Ao q.2.length co) q.2 S.st.length HB5.out HO5.out (fun o ho => by have := HM.out.2.2.2.1 o ho; rw [addB_len]; show _ < S.st.length + 1; omega) (by rw [addB_len]; have := HM.out.1; show S.st.length + 1 ≤ 1000000; omega)).mono ?_
        rintro e w6 ⟨rfl, hB6, hF6⟩
        have hp := hF6.blk hp HW.out.2.1 (by simp) (by decide)
        have hu := hF6.blk hu HW.out.2.2.2 (by simp) (by decide)
        have HF6 := Aside0.mk (HF5.out.trans (hF6.wide (Value.slice Ao q.2.length co).ownBlock))
        have HB6 := Aside0.mk hB6
        clear hB6 hF6 u0 u1 fu0 fu1 p0 p1 fp0 fp1 HF5 HB5 HO5
        have u0 : w6.cell? ⟨u, 0, none⟩ = some (.int .i64 (q.1 : Int)) := (blk_cell hu 0).trans rfl; have u1 : w6.cell? ⟨u, 1, none⟩ = some (.slice Ao q.2.length co) := (blk_cell hu 1).trans rfl; have fu0 := blk_frozen hu 0; have fu1 := blk_frozen hu 1
        go_wp2_with (first | (((with_reducible refine gate_dst (N := 66) rfl ?_); refine outs_event ?hg (N := 66) ?hd [2 * S.st.length + 1] rfl (by simp) ?hr ?_; (case hd => rfl); (case hg => rfl); (case hr => first | (go_simp; done) | (go_simp; rfl)); intro g eg wg hg lg; have Eg := Aside0.mk eg; clear eg); have hp := blk_below hp lg; have p0 : wg.cell? ⟨p, 0, none⟩ = some (.int .i64 0) := (blk_cell hp 0).trans rfl; have p1 : wg.cell? ⟨p, 1, none⟩ = some (.slice none 0 0) := (blk_cell hp 1).trans rfl; have fp0 := blk_frozen hp 0; have fp1 := blk_frozen hp 1) | fail)
        have hr := ret_partX HS.out.base_le hp HW.out.1 HW.out.2.1 (HB6.out.below lg) (HF6.out.trans (Fr.of HB6.out.base_le lg)) S.st.length (.slice (some ⟨g, 0, none⟩) 1 1) [2 * S.st.length + 1] (hg.lower (Nat.le_trans HM.out.2.2.2.2.2 HF6.out.grow))
        (obtain ⟨w9, hw9⟩ : ∃ w9, World.setCell (World.setCell wg ⟨p, 0, none⟩ (.int .i64 (S.st.length : Int))) ⟨p, 1, none⟩ (.slice (some ⟨g, 0, none⟩) 1 1) = w9 := ⟨_, rfl⟩; rw [hw9] at hr; rw [hw9]; clear hw9; have c0 : w9.cell? ⟨p, 0, none⟩ = some (.int .i64 (S.st.length : Int)) := (blk_cell hr.1 0).trans rfl; have c1 : w9.cell? ⟨p, 1, none⟩ = some (.slice (some ⟨g, 0, none⟩) 1 1) := (blk_cell hr.1 1).trans rfl; refine bodyPost_ret (by simp [results, Try.results50, go_sem, c0, c1, hu72]; try rfl) rfl ?_)
        rw [HE.out]
        exact hr.2
      · have eR : repB s q S = ((q.1, [2 * S.st.length + 1]), patchB q.2 S.st.length (addB ⟨1, 0, q.1, 0⟩ (skip S 1))) := by rw [repB, hc]; rfl
        have HE := Aside0.mk eR
        rw [if_neg (by decide), if_pos rfl] at hix
        clear hc eR hcl
        go_wp2_with (first | (go_at_call 36; refine (ixW _ _ hix _).mono ?_; rintro e w3 ⟨rfl, rfl⟩) | fail)
        have hinc := HB3.out.inc 1 ((S.at_ : Int) + 1) (by simp)
        generalize World.setCell w3 ⟨b, 1, none⟩ (.int .i64 ((S.at_ : Int) + 1)) = w4 at *
        have ihA : Calls Try.prog 40 #[.pointer (some ⟨b, 0, none⟩), .agg #[.int .i64 1, .int .u64 0, .int .u64 0, .int .u64 0, .int .u64 0, .int .i64 (q.1 : Int), .int .i64 0]] w4 (fun r w' => r = .returned (.int .i64 (S.st.length : Int)) ∧ BAt w' base b s (addB ⟨1, 0, q.1, 0⟩ (skip S 1)) ∧ Fr base b none w4 w') := addSk w4 base b s (skip S 1) q.1 0 hinc.1 (Nat.le_trans HM.out.1 (by decide))
        refine ihA.mono ?_
        rintro e w5 ⟨rfl, hB5, hF5⟩
        have hF35 := hinc.2.trans hF5
        have hp := hF35.blk hp HW.out.2.1 (by simp) (by decide)
        have hu := hF35.blk hu HW.out.2.2.2 (by simp) (by decide)
        have HO5 := Aside0.mk (HO3.out.fr hF35 ⟨_, HB3b.out⟩ (fun _ _ => by simp))
        have HF5 := Aside0.mk (HF3.out.trans (hF35.wide (Value.slice Ao q.2.length co).ownBlock))
        have HB5 := Aside0.mk hB5
        clear hinc ihA hB5 hF5 hF35 u0 u1 fu0 fu1 p0 p1 fp0 fp1 x1 f1 hix
        have u0 : w5.cell? ⟨u, 0, none⟩ = some (.int .i64 (q.1 : Int)) := (blk_cell hu 0).trans rfl; have u1 : w5.cell? ⟨u, 1, none⟩ = some (.slice Ao q.2.length co) := (blk_cell hu 1).trans rfl; have fu0 := blk_frozen hu 0; have fu1 := blk_frozen hu 1
        have p0 : w5.cell? ⟨p, 0, none⟩ = some (.int .i64 0) := (blk_cell hp 0).trans rfl; have p1 : w5.cell? ⟨p, 1, none⟩ = some (.slice none 0 0) := (blk_cell hp 1).trans rfl; have fp0 := blk_frozen hp 0; have fp1 := blk_frozen hp 1
        go_wp2_with (fail)
        refine (patchW w5 base base2 b s _ q.1 (.slice Ao q.2.length co) q.2 S.st.length HB5.out HO5.out (fun o ho => by have := HM.out.2.2.2.1 o ho; rw [addB_len]; show _ < S.st.length + 1; omega) (by rw [addB_len]; have := HM.out.1; show S.st.length + 1 ≤ 1000000; omega)).mono ?_
        rintro e w6 ⟨rfl, hB6, hF6⟩
        have hp := hF6.blk hp HW.out.2.1 (by simp) (by decide)
        have hu := hF6.blk hu HW.out.2.2.2 (by simp) (by decide)
        have HF6 := Aside0.mk (HF5.out.trans (hF6.wide (Value.slice Ao q.2.length co).ownBlock))
        have HB6 := Aside0.mk hB6
        clear hB6 hF6 u0 u1 fu0 fu1 p0 p1 fp0 fp1 HF5 HB5 HO5
        have u0 : w6.cell? ⟨u, 0, none⟩ = some (.int .i64 (q.1 : Int)) := (blk_cell hu 0).trans rfl; have u1 : w6.cell? ⟨u, 1, none⟩ = some (.slice Ao q.2.length co) := (blk_cell hu 1).trans rfl; have fu0 := blk_frozen hu 0; have fu1 := blk_frozen hu 1
        go_wp2_with (first | (((with_reducible refine gate_dst (N := 56) rfl ?_); refine outs_event ?hg (N := 56) ?hd [2 * S.st.length + 1] rfl (by simp) ?hr ?_; (case hd => rfl); (case hg => rfl); (case hr => first | (go_simp; done) | (go_simp; rfl)); intro g eg wg hg lg; have Eg := Aside0.mk eg; clear eg); have hp := blk_below hp lg; have p0 : wg.cell? ⟨p, 0, none⟩ = some (.int .i64 0) := (blk_cell hp 0).trans rfl; have p1 : wg.cell? ⟨p, 1, none⟩ = some (.slice none 0 0) := (blk_cell hp 1).trans rfl; have fp0 := blk_frozen hp 0; have fp1 := blk_frozen hp 1) | fail)
        have hr := ret_partX HS.out.base_le hp HW.out.1 HW.out.2.1 (HB6.out.below lg) (HF6.out.trans (Fr.of HB6.out.base_le lg)) q.1 (.slice (some ⟨g, 0, none⟩) 1 1) [2 * S.st.length + 1] (hg.lower (Nat.le_trans HM.out.2.2.2.2.2 HF6.out.grow))
        (obtain ⟨w9, hw9⟩ : ∃ w9, World.setCell (World.setCell wg ⟨p, 0, none⟩ (.int .i64 (q.1 : Int))) ⟨p, 1, none⟩ (.slice (some ⟨g, 0, none⟩) 1 1) = w9 := ⟨_, rfl⟩; rw [hw9] at hr; rw [hw9]; clear hw9; have c0 : w9.cell? ⟨p, 0, none⟩ = some (.int .i64 (q.1 : Int)) := (blk_cell hr.1 0).trans rfl; have c1 : w9.cell? ⟨p, 1, none⟩ = some (.slice (some ⟨g, 0, none⟩) 1 1) := (blk_cell hr.1 1).trans rfl; refine bodyPost_ret (by simp [results, Try.results50, go_sem, c0, c1, hu72]; try rfl) rfl ?_)
        rw [HE.out]
        exact hr.2
      · have eR : repB s q S = ((S.st.length, q.2 ++ [2 * S.st.length + 1]), addB ⟨1, 0, q.1, 0⟩ (skip S 1)) := by rw [repB, hc]; rfl
        have HE := Aside0.mk eR
        rw [if_neg (by decide), if_neg (by decide), if_pos rfl] at hix
        clear hc eR hcl
        go_wp2_with (first | (go_at_call 36; refine (ixW _ _ hix _).mono ?_; rintro e w3 ⟨rfl, rfl⟩) | fail)
        have hinc := HB3.out.inc 1 ((S.at_ : Int) + 1) (by simp)
        generalize World.setCell w3 ⟨b, 1, none⟩ (.int .i64 ((S.at_ : Int) + 1)) = w4 at *
        have ihA : Calls Try.prog 40 #[.pointer (some ⟨b, 0, none⟩), .agg #[.int .i64 1, .int .u64 0, .int .u64 0, .int .u64 0, .int .u64 0, .int .i64 (q.1 : Int), .int .i64 0]] w4 (fun r w' => r = .returned (.int .i64 (S.st.length : Int)) ∧ BAt w' base b s (addB ⟨1, 0, q.1, 0⟩ (skip S 1)) ∧ Fr base b none w4 w') := addSk w4 base b s (skip S 1) q.1 0 hinc.1 (Nat.le_trans HM.out.1 (by decide))
        refine ihA.mono ?_
        rintro e w5 ⟨rfl, hB5, hF5⟩
        have hF35 := hinc.2.trans hF5
        have hp := hF35.blk hp HW.out.2.1 (by simp) (by decide)
        have hu := hF35.blk hu HW.out.2.2.2 (by simp) (by decide)
        have HO5 := Aside0.mk (HO3.out.fr hF35 ⟨_, HB3b.out⟩ (fun _ _ => by simp))
        have HF5 := Aside0.mk (HF3.out.trans (hF35.wide (Value.slice Ao q.2.length co).ownBlock))
        have HB5 := Aside0.mk hB5
        clear hinc ihA hB5 hF5 hF35 u0 u1 fu0 fu1 p0 p1 fp0 fp1 x1 f1 hix
        have u0 : w5.cell? ⟨u, 0, none⟩ = some (.int .i64 (q.1 : Int)) := (blk_cell hu 0).trans rfl; have u1 : w5.cell? ⟨u, 1, none⟩ = some (.slice Ao q.2.length co) := (blk_cell hu 1).trans rfl; have fu0 := blk_frozen hu 0; have fu1 := blk_frozen hu 1
        have p0 : w5.cell? ⟨p, 0, none⟩ = some (.int .i64 0) := (blk_cell hp 0).trans rfl; have p1 : w5.cell? ⟨p, 1, none⟩ = some (.slice none 0 0) := (blk_cell hp 1).trans rfl; have fp0 := blk_frozen hp 0; have fp1 := blk_frozen hp 1
        have HPx := Aside0.mk hp
        go_wp2_with (first
          | (((with_reducible refine gate_dst (N := 42) rfl ?_); refine outs_event ?hg (N := 42) ?hd [2 * S.st.length + 1] rfl (by simp) ?hr ?_; (case hd => rfl); (case hg => rfl); (case hr => first | (go_simp; done) | (go_simp; rfl)); intro g eg wg hg lg; have Eg := Aside0.mk eg; clear eg); have hp := blk_below hp lg; have HG := Aside0.mk hg; have HLg := Aside0.mk lg; clear hg lg)
          | ((with_reducible refine gate_builtin (b := .append) (xs := #[.tmp 38, .tmp 42]) rfl ?_); at_builtin; refine Kd.R_append_row (Value.int .i64) (0 : Int) (h1 := fun _ => rfl) (w0 := wg) base2 rfl (.tmp 38) (.tmp 42) 70 3 (.int .i64 0) 8 rfl Try.underlying70 infoI rfl (by decide) (.slice Ao q.2.length co) (q.2.map fun (o : Nat) => (o : Int)) ([2 * S.st.length + 1].map fun (o : Nat) => (o : Int)) (some ⟨g, 0, none⟩) 1 1 (fun _ => True) rfl rfl (fun _ _ => trivial) ?aO ?aR ?aB ?aS ?aL ?_; (case aO => exact HO5.out.below HLg.out); (case aR => exact (Kd.R_reads' HG.out).2.2); (case aB => exact Below.refl _ _); (case aS => exact Nat.le_trans HM.out.2.2.2.2.2 (Nat.le_trans HF5.out.grow HLg.out.size)); (case aL => have := HM.out.2.2.1; rw [List.length_map]; omega); intro v6 w6 hR6 hB6 hg6 hat6; have HA6 := Aside0.mk (OutsAt.append hR6); obtain ⟨A6, c6, e6⟩ := HA6.out.slice; subst e6; have hk6 := (hg6.block p (blk_lt hp) (Kd.R_ne (HO5.out.below HLg.out) hp (by decide))).trans hp; have y0 : w6.cell? ⟨p, 0, none⟩ = some (.int .i64 0) := (blk_cell hk6 0).trans rfl; have y1 : w6.cell? ⟨p, 1, none⟩ = some (.slice none 0 0) := (blk_cell hk6 1).trans rfl; have g0 := blk_frozen hk6 0; have g1 := blk_frozen hk6 1)
          | fail)
        have hr := ret_partX HS.out.base_le hk6 HW.out.1 HW.out.2.1 ((HB5.out.below HLg.out).grownO (HO5.out.below HLg.out) (fun k hk hne => hg6.block k hk hne)) ((HF5.out.trans (Fr.of HB5.out.base_le HLg.out)).grownO (Below.lower hB6 HM.out.2.2.2.2.1) (fun k hk hne => hg6.block k hk hne)) S.st.length (.slice A6 (q.2 ++ [2 * S.st.length + 1]).length c6) (q.2 ++ [2 * S.st.length + 1]) HA6.out
        rw [show (q.2 ++ [2 * S.st.length + 1]).length = q.2.length + 1 by simp] at hr
        (obtain ⟨w9, hw9⟩ : ∃ w9, World.setCell (World.setCell w6 ⟨p, 0, none⟩ (.int .i64 (S.st.length : Int))) ⟨p, 1, none⟩ (.slice A6 (q.2.length + 1) c6) = w9 := ⟨_, rfl⟩; rw [hw9] at hr; rw [hw9]; clear hw9; have c0 : w9.cell? ⟨p, 0, none⟩ = some (.int .i64 (S.st.length : Int)) := (blk_cell hr.1 0).trans rfl; have c1 : w9.cell? ⟨p, 1, none⟩ = some (.slice A6 (q.2.length + 1) c6) := (blk_cell hr.1 1).trans rfl; refine bodyPost_ret (by simp [results, Try.results50, go_sem, c0, c1, hu72]; try rfl) rfl ?_)
        rw [HE.out]
        exact hr.2
    · have eR : repB s q S = (q, S) := by rw [repB, hc]; simp only [if_neg (show ¬ c = 63 by omega), if_neg (show ¬ c = 43 by omega), if_neg (show ¬ c = 42 by omega)]
      have HE := Aside0.mk eR
      rw [if_neg (by omega), if_neg (by omega), if_neg (by omega)] at hix
      clear hc eR h3 hcl hbr
      go_wp2_with (first | (go_at_call 36; refine (ixW _ _ hix _).mono ?_; rintro e w3 ⟨rfl, rfl⟩) | fail)
      have hr := ret_partX HS.out.base_le hp HW.out.1 HW.out.2.1 HB3.out HF3.out q.1 (.slice Ao q.2.length co) q.2 HO3.out
      (obtain ⟨w9, hw9⟩ : ∃ w9, World.setCell (World.setCell w3 ⟨p, 0, none⟩ (.int .i64 (q.1 : Int))) ⟨p, 1, none⟩ (.slice Ao q.2.length co) = w9 := ⟨_, rfl⟩; rw [hw9] at hr; rw [hw9]; clear hw9; have c0 : w9.cell? ⟨p, 0, none⟩ = some (.int .i64 (q.1 : Int)) := (blk_cell hr.1 0).trans rfl; have c1 : w9.cell? ⟨p, 1, none⟩ = some (.slice Ao q.2.length co) := (blk_cell hr.1 1).trans rfl; refine bodyPost_ret (by simp [results, Try.results50, go_sem, c0, c1, hu72]; try rfl) rfl ?_)
      rw [HE.out]
      exact hr.2
end Go.Proofs.Ytnjpdhekeffpnaa.Rx
set_option linter.unusedVariables false
set_option linter.unusedSimpArgs false
namespace Go.Proofs.Ytnjpdhekeffpnaa.Rx
open Go.RowKit Go.Proofs.YtnjpdhekeffpnaaW.PrintWords Go.Proofs.YtnjpdhekeffpnaaW.PrintLast Go.Proofs.YtnjpdhekeffpnaaW.PrintMore

/-- a thing's walk, told -/
def ThOk (base b : Nat) (s : ByteArray) (deep : Nat) (th : BS → Part × BS) : Prop := ∀ W S, BAt W base b s S → 0 < S.st.length → S.at_ < s.size → S.st.length ≤ 4 * S.at_ + 3 →
  Calls Try.prog 51 #[.pointer (some ⟨b, 0, none⟩), .int .i64 (deep : Int)] W fun r W' => PartAt W W' base b s (th S) r
theorem wayL_stop (th : BS → Part × BS) (s : ByteArray) (n : Nat) (p : Part) (S : BS) (h : ∀ c, peekB s S = some c → c = 124 ∨ c = 41) : wayL th s n p S = (p, S) := by
  cases n with
  | zero => rfl
  | succ n =>
    rw [wayL]
    cases hc : peekB s S with
    | none => rfl
    | some c => simp only [if_pos (h c hc)]
theorem wayL_go (th : BS → Part × BS) (s : ByteArray) (n : Nat) (p : Part) (S : BS) (c : Int) (h : peekB s S = some c) (h2 : ¬ (c = 124 ∨ c = 41)) : wayL th s (n + 1) p S = wayL th s n (p.1, (repB s (th S).1 (th S).2).1.2) (patchB p.2 (repB s (th S).1 (th S).2).1.1 (repB s (th S).1 (th S).2).2) := by
  rw [wayL, h]
  simp only [if_neg h2]
theorem wayB_start (th : BS → Part × BS) (s : ByteArray) (S : BS) : wayL th s (s.size + 1) (S.st.length, [2 * S.st.length, 2 * S.st.length + 1]) (addB ⟨1, 0, 0, 0⟩ S) = wayB th s S := rfl
theorem rep_le (s : ByteArray) (p : Part) (S : BS) : S.at_ ≤ (repB s p S).2.at_ := by
  unfold repB
  split
  · exact Nat.le_refl _
  · split
    · exact Nat.le_succ _
    · split
      · exact Nat.le_succ _
      · split
        · exact Nat.le_succ _
        · exact Nat.le_refl _
theorem own_new {w : World} {base : Nat} {v : Value} {outs : List Nat} (h : OutsAt w base v outs) : ∀ k, v.ownBlock = some k → base ≤ k := fun k hk => by
  obtain ⟨_, inner, ho, _⟩ := h
  exact own_base ho k hk
set_option maxHeartbeats 16000000 in
set_option maxRecDepth 100000 in
theorem wayW (base b : Nat) (s : ByteArray) (deep : Nat) (th : BS → Part × BS) (hs : s.size ≤ 200) (hth : ThOk base b s deep th) (hgr : ∀ S, 0 < S.st.length → Gr 0 S (th S)) (hup : ∀ S, S.at_ < s.size → (th S).2.at_ ≤ s.size + 20) (hps : ∀ S, S.at_ + 1 ≤ (th S).2.at_)
    (w : World) (S : BS) (h : BAt w base b s S) (ha : S.at_ ≤ s.size + 20) (hl : S.st.length ≤ 4 * S.at_ + 2) :
    Calls Try.prog 38 #[.pointer (some ⟨b, 0, none⟩), .int .i64 (deep : Int)] w fun r w' => PartAt w w' base b s (wayB th s S) r := by
  have hu100 := Try.underlying100
  have hu72 := Try.underlying72
  have hu69 := Try.underlying69
  have HS := Aside0.mk h
  have HT := Aside0.mk (⟨hs, hth, hgr, hup⟩ : s.size ≤ 200 ∧ ThOk base b s deep th ∧ (∀ S, 0 < S.st.length → Gr 0 S (th S)) ∧ (∀ S, S.at_ < s.size → (th S).2.at_ ≤ s.size + 20))
  have HPS := Aside0.mk hps
  have HA := Aside0.mk (⟨ha, hl⟩ : S.at_ ≤ s.size + 20 ∧ S.st.length ≤ 4 * S.at_ + 2)
  have hll : (S.st.length : Int) ≤ 900000 := by omega
  have hnn : (0 : Int) ≤ (S.st.length : Int) := Int.natCast_nonneg _
  clear h ha hl hs hth hgr hup hps
  go_enter Try.func38, Try.ntmps38
  go_wp2_with (first | ((with_reducible refine gate_dst (N := 4) rfl ?_); (try (refine gate_guard (by rfl) ?_; dsimp only)); refine box_event ?hg (N := 4) ?hd (cs := #[.int .i64 0, .slice none 0 0]) (t := 72) ?hr ?_; (case hd => rfl); (case hg => rfl); (case hr => first | (go_simp; done) | (go_simp; rfl)); intro p ep wp hp lp; have Ep := Aside0.mk ep; clear ep) | fail)
  have hbs := HS.out.base_le
  have HW := Aside0.mk (⟨by have := Ep.out; omega, by have := Ep.out; have := HS.out.lt; omega, hbs⟩ : w.heap.size ≤ p ∧ p ≠ b ∧ base ≤ w.heap.size)
  have ihA : Calls Try.prog 40 #[.pointer (some ⟨b, 0, none⟩), .agg #[.int .i64 1, .int .u64 0, .int .u64 0, .int .u64 0, .int .u64 0, .int .i64 0, .int .i64 0]] wp (fun r w' => r = .returned (.int .i64 (S.st.length : Int)) ∧ BAt w' base b s (addB ⟨1, 0, 0, 0⟩ S) ∧ Fr base b none wp w') := addSk wp base b s S 0 0 (HS.out.below lp) (by have := HA.out; have := HT.out.1; omega)
  refine ihA.mono ?_
  rintro e w5 ⟨rfl, hB5, hF5⟩
  have hp := hF5.blk hp HW.out.2.1 (by simp) (by decide)
  have HF5 := Aside0.mk ((Fr.of (b := b) (O := none) hbs lp).trans hF5)
  have HB5 := Aside0.mk hB5
  have HP5 := Aside0.mk (blk_lt hp)
  clear hB5 hF5 lp ihA hbs
  go_wp2_with (first
    | (((with_reducible refine gate_dst (N := 19) rfl ?_); refine outs_event ?hg (N := 19) ?hd [2 * S.st.length, 2 * S.st.length + 1] rfl (by simp) ?hr ?_; (case hd => rfl); (case hg => rfl); (case hr => first | (go_simp; done) | (go_simp; rfl)); intro g eg wg hg lg; have Eg := Aside0.mk eg; clear eg); have hp := blk_below hp lg; have HG := Aside0.mk hg; have HLg := Aside0.mk lg; clear hg lg)
    | (((with_reducible refine gate_dst (N := 6) rfl ?_); (try (refine gate_guard (by rfl) ?_; dsimp only)); refine box_event ?hg (N := 6) ?hd (cs := #[.int .i64 0, .slice none 0 0]) (t := 72) ?hr ?_; (case hd => rfl); (case hg => rfl); (case hr => first | (go_simp; done) | (go_simp; rfl)); intro u eu wu hu lu; have Eu := Aside0.mk eu; clear eu); have hp := blk_below hp lu; have HLu := Aside0.mk lu; have u0 : wu.cell? ⟨u, 0, none⟩ = some (.int .i64 0) := (blk_cell hu 0).trans rfl; have u1 : wu.cell? ⟨u, 1, none⟩ = some (.slice none 0 0) := (blk_cell hu 1).trans rfl; have fu0 := blk_frozen hu 0; have fu1 := blk_frozen hu 1)
    | fail)
  have hub : u ≠ b := by have := Eu.out; have := HB5.out.lt; have := HLg.out.size; omega
  have hub2 : wg.heap.size ≤ u := by have := Eu.out; omega
  have hup : u ≠ p := by have := Eu.out; have := HP5.out; have := HLg.out.size; omega
  have hwu : w.heap.size ≤ u := by have := HF5.out.grow; have := HLg.out.size; omega
  have HU := Aside0.mk (⟨hub, hup, hwu⟩ : u ≠ b ∧ u ≠ p ∧ w.heap.size ≤ u)
  have hr := ret_partX (O := none) (base2 := w.heap.size) HW.out.2.2 hu hwu hub ((HB5.out.below HLg.out).below HLu.out) ((HF5.out.trans (Fr.of HB5.out.base_le HLg.out)).trans (Fr.of (HB5.out.below HLg.out).base_le HLu.out)) S.st.length (.slice (some ⟨g, 0, none⟩) 2 2) [2 * S.st.length, 2 * S.st.length + 1] ((HG.out.below HLu.out).lower (by have := HF5.out.grow; omega))
  have hp7 := ((Below.heap_setCell (World.setCell wu ⟨u, 0, none⟩ (.int .i64 (S.st.length : Int))) ⟨u, 1, none⟩ (.slice (some ⟨g, 0, none⟩) 2 2) p (fun e => hup e.symm)).trans (Below.heap_setCell wu ⟨u, 0, none⟩ (.int .i64 (S.st.length : Int)) p (fun e => hup e.symm))).trans hp
  obtain ⟨w7, hw7⟩ : ∃ w7, World.setCell (World.setCell wu ⟨u, 0, none⟩ (.int .i64 (S.st.length : Int))) ⟨u, 1, none⟩ (.slice (some ⟨g, 0, none⟩) 2 2) = w7 := ⟨_, rfl⟩
  rw [hw7] at hr hp7
  rw [hw7]
  obtain ⟨huu, v7, e7, hO7, hB7, hF7⟩ := hr
  have hst := wayB_start th s S
  obtain ⟨zf, hp1⟩ : ∃ zf, S.st.length = zf := ⟨_, rfl⟩
  obtain ⟨N, hN⟩ : ∃ N, s.size + 1 = N := ⟨_, rfl⟩
  have hgs := way_start S
  rw [hp1] at huu
  have e7' : v7 = .slice (some ⟨g, 0, none⟩) 2 2 := by injection e7 with e7; injection e7 with e7; have := congrArg (fun a : Array Value => a[1]?) e7; simpa using this.symm
  subst e7'
  rw [hN] at hst
  have HP7 := Aside0.mk hp7
  have HU7 := Aside0.mk huu
  have HO7 := Aside0.mk hO7
  have HB7 := Aside0.mk hB7
  have HF7 := Aside0.mk hF7
  have HG7 := Aside0.mk hgs
  have HS7 := Aside0.mk hst
  have HN7 := Aside0.mk hN
  clear hp7 huu hO7 hB7 hF7 hgs hst hN e7 hw7 hp hu hub hub2 hup hwu u0 u1 fu0 fu1 HF5 HB5 HP5 HG HLg HLu
  have HZ := Aside0.mk hp1
  clear hp1
  go_loopg [7] (N + 1) (fun kq v7 wr => ∃ (n : Nat) (v : Value) (outs : List Nat) (S' : BS), v7 = v7 ∧ Aside0 (n + 1 = kq ∧ s.size < S'.at_ + n ∧ wayL th s n (zf, outs) S' = wayB th s S ∧ Gr 1 S ((zf, outs), S') ∧ S'.at_ ≤ s.size + 20) ∧ Aside0 (BAt wr base b s S') ∧ Aside0 (OutsAt wr w.heap.size v outs) ∧ Aside0 (wr.heap[u]? = some (.cells #[.int .i64 (zf : Int), v] TP (0, 0))) ∧ Aside0 (wr.heap[p]? = some (.cells #[.int .i64 0, .slice none 0 0] TP (0, 0))) ∧ Aside0 (Fr base b none w wr))
  case atStart =>
    exact ⟨N, _, [2 * S.st.length, 2 * S.st.length + 1], addB ⟨1, 0, 0, 0⟩ S, rfl, ⟨rfl, by have := HN7.out; show _ < S.at_ + N; omega, by rw [← HZ.out]; exact HS7.out, by rw [← HZ.out]; exact HG7.out, HA.out.1⟩, HB7, HO7, HU7, HP7, HF7⟩
  case round =>
    obtain ⟨n, v, outs, S', -, HI, HB, HO, HU', HP', HF⟩ := hrel
    obtain ⟨A0, cv0, rfl⟩ := HO.out.slice
    have ihP := peekW wr base b s S' HB.out
    obtain ⟨c, hc⟩ : ∃ c, peekB s S' = c := ⟨_, rfl⟩
    rw [hc] at ihP
    have HC := Aside0.mk hc
    clear hc
    by_cases hcs : ∀ c', c = some c' → c' = 124 ∨ c' = 41
    · have eR := wayL_stop th s n (zf, outs) S' (fun c' hc' => hcs c' (HC.out.symm.trans hc'))
      have HE := Aside0.mk (eR.symm.trans HI.out.2.2.1)
      clear eR
      have hgo : ∀ (wx : World) (_ : Below wr.heap.size wr wx), wx.heap[u]? = some (.cells #[.int .i64 (zf : Int), .slice A0 outs.length cv0] TP (0, 0)) ∧ wx.heap[p]? = some (.cells #[.int .i64 0, .slice none 0 0] TP (0, 0)) := fun wx hx => ⟨blk_below HU'.out hx, blk_below HP'.out hx⟩
      have hcc : c = none ∨ c = some 124 ∨ c = some 41 := by
        cases c with
        | none => exact .inl rfl
        | some c' => rcases hcs c' rfl with rfl | rfl; exact .inr (.inl rfl); exact .inr (.inr rfl)
      clear hcs
      rcases hcc with rfl | rfl | rfl
      all_goals
        go_wp2_with (fail)
        refine ihP.mono ?_
        rintro e wx ⟨rfl, hbx⟩
        obtain ⟨hu, hp⟩ := hgo wx hbx
        have u0 : wx.cell? ⟨u, 0, none⟩ = some (.int .i64 (zf : Int)) := (blk_cell hu 0).trans rfl; have u1 : wx.cell? ⟨u, 1, none⟩ = some (.slice A0 outs.length cv0) := (blk_cell hu 1).trans rfl; have fu0 := blk_frozen hu 0; have fu1 := blk_frozen hu 1
        have p0 : wx.cell? ⟨p, 0, none⟩ = some (.int .i64 0) := (blk_cell hp 0).trans rfl; have p1 : wx.cell? ⟨p, 1, none⟩ = some (.slice none 0 0) := (blk_cell hp 1).trans rfl; have fp0 := blk_frozen hp 0; have fp1 := blk_frozen hp 1
        go_wp2_with (fail)
        have hr := ret_partX (O := none) (base2 := w.heap.size) HW.out.2.2 hp HW.out.1 HW.out.2.1 (HB.out.below hbx) (HF.out.trans (Fr.of HB.out.base_le hbx)) zf (.slice A0 outs.length cv0) outs (HO.out.below hbx)
        (obtain ⟨w9, hw9⟩ : ∃ w9, World.setCell (World.setCell wx ⟨p, 0, none⟩ (.int .i64 (zf : Int))) ⟨p, 1, none⟩ (.slice A0 outs.length cv0) = w9 := ⟨_, rfl⟩; rw [hw9] at hr; rw [hw9]; clear hw9; have c0 : w9.cell? ⟨p, 0, none⟩ = some (.int .i64 (zf : Int)) := (blk_cell hr.1 0).trans rfl; have c1 : w9.cell? ⟨p, 1, none⟩ = some (.slice A0 outs.length cv0) := (blk_cell hr.1 1).trans rfl; refine bodyPost_ret (by simp [results, Try.results38, go_sem, c0, c1, hu72]; try rfl) rfl ?_)
        rw [← HE.out]
        exact hr.2
    · obtain ⟨c1, rfl, hc1⟩ : ∃ c1, c = some c1 ∧ ¬ (c1 = 124 ∨ c1 = 41) := by
        cases c with
        | none => exact absurd (fun c' h => by cases h) hcs
        | some c' => exact ⟨c', rfl, fun h => hcs (fun c'' h2 => by injection h2 with h2; rw [← h2]; exact h)⟩
      clear hcs
      have hcl := peek_lt HC.out
      obtain ⟨m, rfl⟩ : ∃ m, n = m + 1 := ⟨n - 1, by have := HI.out.2.1; omega⟩
      obtain ⟨k1, rfl⟩ : ∃ k1, gk = k1 + 1 := ⟨gk - 1, by have := HI.out; omega⟩
      have eR := wayL_go th s m (zf, outs) S' c1 HC.out hc1
      have hG := HI.out.2.2.2.1
      have hst := HI.out.2.2.1
      rw [eR] at hst
      have hS0 : 0 < S'.st.length := by have := hG.first; dsimp only at this; omega
      have hgt := HT.out.2.2.1 S' hS0
      have hut := HT.out.2.2.2 S' hcl.1
      have hT := HT.out.2.1
      obtain ⟨T, hTT⟩ : ∃ T, th S' = T := ⟨_, rfl⟩
      rw [hTT] at hst hgt hut
      have hgr := rep_gr s hgt
      have hur := rep_up s T.1 T.2 20 hut
      obtain ⟨Q, hQ⟩ : ∃ Q, repB s T.1 T.2 = Q := ⟨_, rfl⟩
      rw [hQ] at hst hgr hur
      have g1 := hG.up
      have g3 := hG.at_
      dsimp only at g1 g3
      have g2 := hgt.up
      have HQ := Aside0.mk (⟨hst, hgt, hgr, hur, hQ, hTT, hS0⟩ : wayL th s m (zf, Q.1.2) (patchB outs Q.1.1 Q.2) = wayB th s S ∧ Gr 0 S' T ∧ Gr 0 S' Q ∧ Q.2.at_ ≤ s.size + 20 ∧ repB s T.1 T.2 = Q ∧ th S' = T ∧ 0 < S'.st.length)
      have n1 : (c1 == 124) = false := beq_false_of_ne (fun e => hc1 (.inl e))
      have n2 : (c1 == 41) = false := beq_false_of_ne (fun e => hc1 (.inr e))
      have hlT : T.2.st.length ≤ 900000 := by have := HA.out; have := HT.out.1; have := hgt.at_; omega
      have hb4 : S'.st.length ≤ 4 * S'.at_ + 3 := by have := HA.out; omega
      have HL4 := Aside0.mk (⟨hlT, hb4, hcl.1⟩ : T.2.st.length ≤ 900000 ∧ S'.st.length ≤ 4 * S'.at_ + 3 ∧ S'.at_ < s.size)
      clear hst hG hgt hgr hur hQ hut eR hc1 hcl g1 g2 g3 hlT hb4 hS0
      go_wp2_with (fail)
      refine ihP.mono ?_
      rintro e wx ⟨rfl, hbx⟩
      have HBx := Aside0.mk (HB.out.below hbx)
      have HOx := Aside0.mk (HO.out.below hbx)
      have HUx := Aside0.mk (blk_below HU'.out hbx)
      have HPx := Aside0.mk (blk_below HP'.out hbx)
      have HFx := Aside0.mk (HF.out.trans (Fr.of HB.out.base_le hbx))
      clear hbx ihP HB HO HU' HP' HF
      go_wp2_with (fail)
      have ihT := hT wx S' HBx.out HQ.out.2.2.2.2.2.2 HL4.out.2.2 HL4.out.2.1
      rw [hTT] at ihT
      refine ihT.mono ?_
      rintro e w2 ⟨v2, rfl, hO2, hB2, hF2⟩
      clear ihT hT
      have HO2 := Aside0.mk (HOx.out.fr hF2 ⟨_, HBx.out.2.choose_spec.1⟩ (fun _ _ => by simp))
      have HU2 := Aside0.mk (hF2.blk HUx.out HU.out.1 (by simp) (by decide))
      have HP2 := Aside0.mk (hF2.blk HPx.out HW.out.2.1 (by simp) (by decide))
      have HF2 := Aside0.mk hF2
      obtain ⟨A2, c2, rfl⟩ := hO2.slice
      have HT2 := Aside0.mk hO2
      have HB2 := Aside0.mk hB2
      clear hO2 hB2 hF2
      go_wp2_with (fail)
      refine (repeatW w2 base wx.heap.size b s T.2 T.1 (.slice A2 T.1.2.length c2) HB2.out HT2.out ⟨HBx.out.base_le, HF2.out.grow⟩ HL4.out.1 HT.out.1 (by have := HQ.out.2.1.many; have := HQ.out.2.2.2.1; have := HQ.out.2.2.1.at_; have := HT.out.1; have := rep_le s T.1 T.2; rw [HQ.out.2.2.2.2.1] at this; omega) HQ.out.2.1.outs HQ.out.2.1.first).mono ?_
      rintro e w3 ⟨v3, rfl, hO3, hB3, hF3⟩
      rw [HQ.out.2.2.2.2.1] at hO3 hB3 ⊢
      have hxb : ∀ k, (Value.slice A2 T.1.2.length c2).ownBlock = some k → wx.heap.size ≤ k := own_new HT2.out
      have hF23 := HF2.out.narrow hF3 hxb
      have HO3 := Aside0.mk (HOx.out.fr hF23 ⟨_, HBx.out.2.choose_spec.1⟩ (fun _ _ => by simp))
      have HU3 := Aside0.mk (hF23.blk HUx.out HU.out.1 (by simp) (by decide))
      have HP3 := Aside0.mk (hF23.blk HPx.out HW.out.2.1 (by simp) (by decide))
      have HF3 := Aside0.mk (HFx.out.trans hF23)
      obtain ⟨A3, c3, rfl⟩ := hO3.slice
      have HT3 := Aside0.mk hO3
      have HB3 := Aside0.mk hB3
      have HX3 := Aside0.mk hF23.grow
      clear hO3 hB3 hF3 hF23 hxb HO2 HU2 HP2 HF2 HT2 HB2
      go_wp2_with (first | (((with_reducible refine gate_dst (N := 9) rfl ?_); (try (refine gate_guard (by rfl) ?_; dsimp only)); refine box_event ?hg (N := 9) ?hd (cs := #[.int .i64 0, .slice none 0 0]) (t := 72) ?hr ?_; (case hd => rfl); (case hg => rfl); (case hr => first | (go_simp; done) | (go_simp; rfl)); intro q eq wq hq lq; have Eq := Aside0.mk eq; clear eq); have q0 : wq.cell? ⟨q, 0, none⟩ = some (.int .i64 0) := (blk_cell hq 0).trans rfl; have q1 : wq.cell? ⟨q, 1, none⟩ = some (.slice none 0 0) := (blk_cell hq 1).trans rfl; have fq0 := blk_frozen hq 0; have fq1 := blk_frozen hq 1; have hu := blk_below HU3.out lq; have u0 : wq.cell? ⟨u, 0, none⟩ = some (.int .i64 (zf : Int)) := (blk_cell hu 0).trans rfl; have u1 : wq.cell? ⟨u, 1, none⟩ = some (.slice A0 outs.length cv0) := (blk_cell hu 1).trans rfl; have fu0 := blk_frozen hu 0; have fu1 := blk_frozen hu 1; have hqu : q ≠ u := (fun e => by have := Eq.out; have := blk_lt HU3.out; omega); have huq : u ≠ q := fun e => hqu e.symm; have HLq := Aside0.mk lq; clear lq) | fail)
      have hqb : q ≠ b := by have := Eq.out; have := HB3.out.lt; omega
      have hqw : w.heap.size ≤ q := by have := Eq.out; have := HF3.out.grow; omega
      have hqp : q ≠ p := by have := Eq.out; have := blk_lt HP3.out; omega
      have hr := ret_partX (O := none) (base2 := wx.heap.size) HW.out.2.2 hq hqw hqb (HB3.out.below HLq.out) (HF3.out.trans (Fr.of HB3.out.base_le HLq.out)) Q.1.1 (.slice A3 Q.1.2.length c3) Q.1.2 (HT3.out.below HLq.out)
      have hO4 := ((HO3.out.below HLq.out).other hq (by decide) 0 (.int .i64 (Q.1.1 : Int))).other (blk_set hq 0 (.int .i64 (Q.1.1 : Int))) (by decide) 1 (.slice A3 Q.1.2.length c3)
      have far : ∀ k, k ≠ q → (World.setCell (World.setCell wq ⟨q, 0, none⟩ (.int .i64 (Q.1.1 : Int))) ⟨q, 1, none⟩ (.slice A3 Q.1.2.length c3)).heap[k]? = wq.heap[k]? := fun k hk => (Below.heap_setCell _ ⟨q, 1, none⟩ _ k hk).trans (Below.heap_setCell wq ⟨q, 0, none⟩ _ k hk)
      have hu4 := (far u huq).trans hu
      have hp4 := (far p (fun e => hqp e.symm)).trans (blk_below HP3.out HLq.out)
      obtain ⟨w4, hw4⟩ : ∃ w4, World.setCell (World.setCell wq ⟨q, 0, none⟩ (.int .i64 (Q.1.1 : Int))) ⟨q, 1, none⟩ (.slice A3 Q.1.2.length c3) = w4 := ⟨_, rfl⟩
      rw [hw4] at hr hO4 hu4 hp4
      rw [hw4]
      obtain ⟨hq4, v4, e4, hT4, hB4, hF4⟩ := hr
      have e4' : v4 = .slice A3 Q.1.2.length c3 := by injection e4 with e4; injection e4 with e4; have := congrArg (fun a : Array Value => a[1]?) e4; simpa using this.symm
      subst e4'
      clear e4 hw4 far q0 q1 fq0 fq1 u0 u1 fu0 fu1 hu hq HB3 HF3 HU3 HP3 HT3 HO3
      have hbk := hB4.2.choose_spec.1
      refine (patchW w4 base w.heap.size b s Q.2 zf (.slice A0 outs.length cv0) outs Q.1.1 hB4 hO4 (fun o ho => Nat.lt_of_lt_of_le (HI.out.2.2.2.1.outs o ho) HQ.out.2.2.1.le) (by have := HQ.out.2.2.1.up; have := HL4.out; have := HT.out.1; have := HQ.out.2.2.2.1; dsimp only at *; omega)).mono ?_
      rintro e w5 ⟨rfl, hB5, hF5⟩
      have hu := hF5.blk hu4 HU.out.1 (by simp) (by decide)
      have hq := hF5.blk hq4 hqb (by simp) (by decide)
      have HP5 := Aside0.mk (hF5.blk hp4 HW.out.2.1 (by simp) (by decide))
      have HT5 := Aside0.mk (hT4.fr hF5 ⟨_, hbk⟩ (fun _ _ => by simp))
      have HF5 := Aside0.mk (hF4.trans hF5)
      have HB5 := Aside0.mk hB5
      clear hB5 hF5 hT4 hF4 hB4 hO4 hu4 hp4 hq4 hbk
      have u0 : w5.cell? ⟨u, 0, none⟩ = some (.int .i64 (zf : Int)) := (blk_cell hu 0).trans rfl; have u1 : w5.cell? ⟨u, 1, none⟩ = some (.slice A0 outs.length cv0) := (blk_cell hu 1).trans rfl; have fu0 := blk_frozen hu 0; have fu1 := blk_frozen hu 1
      have q0 : w5.cell? ⟨q, 0, none⟩ = some (.int .i64 (Q.1.1 : Int)) := (blk_cell hq 0).trans rfl; have q1 : w5.cell? ⟨q, 1, none⟩ = some (.slice A3 Q.1.2.length c3) := (blk_cell hq 1).trans rfl; have fq0 := blk_frozen hq 0; have fq1 := blk_frozen hq 1
      go_wp2_with (fail)
      have hB6 := HB5.out.other hu (by decide) HU.out.1 1 (.slice A3 Q.1.2.length c3)
      have hT6 := HT5.out.other hu (by decide) 1 (.slice A3 Q.1.2.length c3)
      have hu6 := blk_set hu 1 (.slice A3 Q.1.2.length c3)
      have hp6 := (Below.heap_setCell w5 ⟨u, 1, none⟩ (.slice A3 Q.1.2.length c3) p (fun e => HU.out.2.1 e.symm)).trans HP5.out
      have hF6 := HF5.out.new HW.out.2.2 HU.out.2.2 1 (.slice A3 Q.1.2.length c3)
      go_roundg k1
      case measure => have := HI.out; omega
      case rel =>
        have hpos := (HT.out.2.2.1 S' HQ.out.2.2.2.2.2.2)
        have hG := HI.out.2.2.2.1
        have g1 := hG.at_
        have g2 := hG.le
        have g3 := hG.up
        have g4 := hG.first
        have g5 := HQ.out.2.2.1.at_
        have g6 := HQ.out.2.2.1.le
        have g7 := HQ.out.2.2.1.up
        have g8 := HQ.out.2.2.1.many
        dsimp only at g1 g2 g3 g4
        have g9 := HPS.out S'
        have g0 := rep_le s T.1 T.2
        rw [HQ.out.2.2.2.2.1] at g0
        rw [HQ.out.2.2.2.2.2.1] at g9
        refine ⟨m, _, Q.1.2, patchB outs Q.1.1 Q.2, trivial, ⟨by have := HI.out; omega, ?_, HQ.out.1, ⟨?_, ?_, ?_, ?_, ?_, ?_⟩, HQ.out.2.2.2.1⟩, ⟨hB6⟩, ⟨hT6.lower (Nat.le_trans HFx.out.grow (Nat.le_refl _))⟩, ⟨?_⟩, ⟨hp6⟩, ⟨hF6⟩⟩
        · show s.size < Q.2.at_ + m; have := HI.out.2.1; omega
        · show S.at_ ≤ Q.2.at_; omega
        · rw [patchB_len]; omega
        · rw [patchB_len]; show Q.2.st.length ≤ S.st.length + 2 * (Q.2.at_ - S.at_) + 1; omega
        · rw [patchB_len]; show zf < Q.2.st.length; omega
        · intro o ho; rw [patchB_len]; exact HQ.out.2.2.1.outs o ho
        · show Q.1.2.length ≤ 2 * (Q.2.at_ - S.at_) + 2 * 1; omega
        · simpa using hu6
end Go.Proofs.Ytnjpdhekeffpnaa.Rx
set_option linter.unusedVariables false
set_option linter.unusedSimpArgs false
namespace Go.Proofs.Ytnjpdhekeffpnaa.Rx
open Go.RowKit Go.Proofs.YtnjpdhekeffpnaaW.PrintWords Go.Proofs.YtnjpdhekeffpnaaW.PrintLast Go.Proofs.YtnjpdhekeffpnaaW.PrintMore

theorem waysL_stop (th : BS → Part × BS) (s : ByteArray) (n : Nat) (p : Part) (S : BS) (h : peekB s S ≠ some 124) : waysL th s n p S = (p, S) := by
  cases n with
  | zero => rfl
  | succ n => rw [waysL, if_neg h]
theorem waysL_go (th : BS → Part × BS) (s : ByteArray) (n : Nat) (p : Part) (S : BS) (h : peekB s S = some 124) : waysL th s (n + 1) p S = waysL th s n ((wayB th s (skip S 1)).2.st.length, p.2 ++ (wayB th s (skip S 1)).1.2) (addB ⟨1, 0, p.1, (wayB th s (skip S 1)).1.1⟩ (wayB th s (skip S 1)).2) := by
  rw [waysL, if_pos h]
theorem part_eq {A : Value} {n : Nat} {v : Value} (e : Ending.returned (.agg #[.int .i64 (n : Int), A]) = .returned (.agg #[.int .i64 (n : Int), v])) : v = A := by
  injection e with e
  injection e with e
  have := congrArg (fun a : Array Value => a[1]?) e
  simpa using this.symm
set_option maxHeartbeats 16000000 in
set_option maxRecDepth 100000 in
theorem waysW (base b : Nat) (s : ByteArray) (deep : Nat) (th : BS → Part × BS) (hs : s.size ≤ 200) (hth : ThOk base b s deep th) (hgr : ∀ S, 0 < S.st.length → Gr 0 S (th S)) (hup : ∀ S, S.at_ < s.size → (th S).2.at_ ≤ s.size + 20) (hps : ∀ S, S.at_ + 1 ≤ (th S).2.at_)
    (w : World) (S : BS) (h : BAt w base b s S) (ha : S.at_ ≤ s.size + 20) (hl : S.st.length ≤ 4 * S.at_ + 2) :
    Calls Try.prog 23 #[.pointer (some ⟨b, 0, none⟩), .int .i64 (deep : Int)] w fun r w' => PartAt w w' base b s (waysF th s S) r := by
  have hu100 := Try.underlying100
  have hu72 := Try.underlying72
  have hu69 := Try.underlying69
  have HS := Aside0.mk h
  have HY := Aside0.mk (fun (W : World) (S : BS) (h : BAt W base b s S) (ha : S.at_ ≤ s.size + 20) (hl : S.st.length ≤ 4 * S.at_ + 2) => wayW base b s deep th hs hth hgr hup hps W S h ha hl)
  have HT := Aside0.mk (⟨hs, fun S => wayB_gr s hgr S, fun S (h : S.at_ ≤ s.size + 20) => wayB_up s 20 hup S h⟩ : s.size ≤ 200 ∧ (∀ S, Gr 1 S (wayB th s S)) ∧ (∀ S, S.at_ ≤ s.size + 20 → (wayB th s S).2.at_ ≤ s.size + 20))
  have HA := Aside0.mk (⟨ha, hl⟩ : S.at_ ≤ s.size + 20 ∧ S.st.length ≤ 4 * S.at_ + 2)
  clear h ha hl hs hth hgr hup hps
  go_enter Try.func23, Try.ntmps23
  go_wp2_with (first | ((with_reducible refine gate_dst (N := 4) rfl ?_); (try (refine gate_guard (by rfl) ?_; dsimp only)); refine box_event ?hg (N := 4) ?hd (cs := #[.int .i64 0, .slice none 0 0]) (t := 72) ?hr ?_; (case hd => rfl); (case hg => rfl); (case hr => first | (go_simp; done) | (go_simp; rfl)); intro p ep wp hp lp; have Ep := Aside0.mk ep; clear ep) | fail)
  have hbs := HS.out.base_le
  have HW := Aside0.mk (⟨by have := Ep.out; omega, by have := Ep.out; have := HS.out.lt; omega, hbs⟩ : w.heap.size ≤ p ∧ p ≠ b ∧ base ≤ w.heap.size)
  refine (HY.out wp S (HS.out.below lp) HA.out.1 HA.out.2).mono ?_
  rintro e w5 ⟨v5, rfl, hO5, hB5, hF5⟩
  have hG5 := HT.out.2.1 S
  have hU5 := HT.out.2.2 S HA.out.1
  obtain ⟨R, hR⟩ : ∃ R, wayB th s S = R := ⟨_, rfl⟩
  have hF : waysF th s S = waysL th s (s.size + 1) R.1 R.2 := by rw [waysF, hR]
  rw [hR] at hO5 hB5 hG5 hU5
  rw [hR]
  obtain ⟨A5, cv5, rfl⟩ := hO5.slice
  have hp := hF5.blk hp HW.out.2.1 (by simp) (by decide)
  have HP5 := Aside0.mk (blk_lt hp)
  have HF5 := Aside0.mk ((Fr.of (b := b) (O := none) hbs lp).trans hF5)
  have HB5 := Aside0.mk hB5
  have HO5 := Aside0.mk (hO5.lower lp.size)
  have HG5 := Aside0.mk (⟨hG5, hU5, hF⟩ : Gr 1 S R ∧ R.2.at_ ≤ s.size + 20 ∧ waysF th s S = waysL th s (s.size + 1) R.1 R.2)
  clear hB5 hF5 hO5 hG5 hU5 hF hR lp hbs
  go_wp2_with (first
    | (((with_reducible refine gate_dst (N := 5) rfl ?_); (try (refine gate_guard (by rfl) ?_; dsimp only)); refine box_event ?hg (N := 5) ?hd (cs := #[.int .i64 0, .slice none 0 0]) (t := 72) ?hr ?_; (case hd => rfl); (case hg => rfl); (case hr => first | (go_simp; done) | (go_simp; rfl)); intro u eu wu hu lu; have Eu := Aside0.mk eu; clear eu); have hp := blk_below hp lu; have HLu := Aside0.mk lu; clear lu; have u0 : wu.cell? ⟨u, 0, none⟩ = some (.int .i64 0) := (blk_cell hu 0).trans rfl; have u1 : wu.cell? ⟨u, 1, none⟩ = some (.slice none 0 0) := (blk_cell hu 1).trans rfl; have fu0 := blk_frozen hu 0; have fu1 := blk_frozen hu 1)
    | fail)
  have hub : u ≠ b := by have := Eu.out; have := HB5.out.lt; omega
  have hup : u ≠ p := by have := Eu.out; have := HP5.out; omega
  have hwu : w.heap.size ≤ u := by have := HF5.out.grow; have := Eu.out; omega
  have HU := Aside0.mk (⟨hub, hup, hwu⟩ : u ≠ b ∧ u ≠ p ∧ w.heap.size ≤ u)
  have hr := ret_partX (O := none) (base2 := w.heap.size) HW.out.2.2 hu hwu hub (HB5.out.below HLu.out) (HF5.out.trans (Fr.of HB5.out.base_le HLu.out)) R.1.1 (.slice A5 R.1.2.length cv5) R.1.2 (HO5.out.below HLu.out)
  have hp7 := ((Below.heap_setCell (World.setCell wu ⟨u, 0, none⟩ (.int .i64 (R.1.1 : Int))) ⟨u, 1, none⟩ (.slice A5 R.1.2.length cv5) p (fun e => hup e.symm)).trans (Below.heap_setCell wu ⟨u, 0, none⟩ (.int .i64 (R.1.1 : Int)) p (fun e => hup e.symm))).trans hp
  obtain ⟨w7, hw7⟩ : ∃ w7, World.setCell (World.setCell wu ⟨u, 0, none⟩ (.int .i64 (R.1.1 : Int))) ⟨u, 1, none⟩ (.slice A5 R.1.2.length cv5) = w7 := ⟨_, rfl⟩
  rw [hw7] at hr hp7
  rw [hw7]
  obtain ⟨huu, v7, e7, hO7, hB7, hF7⟩ := hr
  obtain rfl := part_eq e7
  obtain ⟨N, hN⟩ : ∃ N, s.size + 1 = N := ⟨_, rfl⟩
  have HP7 := Aside0.mk hp7
  have HU7 := Aside0.mk huu
  have HO7 := Aside0.mk hO7
  have HB7 := Aside0.mk hB7
  have HF7 := Aside0.mk hF7
  have HN7 := Aside0.mk hN
  clear hp7 huu hO7 hB7 hF7 hN e7 hw7 hp hu hub hup hwu u0 u1 fu0 fu1 HF5 HB5 HP5 HO5 HLu
  go_loopg [6] (N + 1) (fun kq v7 wr => ∃ (n zf : Nat) (v : Value) (outs : List Nat) (S' : BS), v7 = v7 ∧ Aside0 (n + 1 = kq ∧ s.size < S'.at_ + n ∧ waysL th s n (zf, outs) S' = waysF th s S ∧ Gr 1 S ((zf, outs), S') ∧ S'.at_ ≤ s.size + 20) ∧ Aside0 (BAt wr base b s S') ∧ Aside0 (OutsAt wr w.heap.size v outs) ∧ Aside0 (wr.heap[u]? = some (.cells #[.int .i64 (zf : Int), v] TP (0, 0))) ∧ Aside0 (wr.heap[p]? = some (.cells #[.int .i64 0, .slice none 0 0] TP (0, 0))) ∧ Aside0 (Fr base b none w wr))
  case atStart =>
    exact ⟨N, R.1.1, _, R.1.2, R.2, rfl, ⟨rfl, by have := HN7.out; omega, by rw [← HN7.out]; exact HG5.out.2.2.symm, HG5.out.1, HG5.out.2.1⟩, HB7, HO7, HU7, HP7, HF7⟩
  case round =>
    clear HG5 HB7 HO7 HU7 HP7 HF7
    obtain ⟨n, zf, v, outs, S', -, HI, HB, HO, HU', HP', HF⟩ := hrel
    obtain ⟨A0, cv0, rfl⟩ := HO.out.slice
    have ihP := peekW wr base b s S' HB.out
    obtain ⟨c, hc⟩ : ∃ c, peekB s S' = c := ⟨_, rfl⟩
    rw [hc] at ihP
    have HC := Aside0.mk hc
    clear hc
    by_cases hcs : c = some 124
    · subst hcs
      have hcl := peek_lt HC.out
      obtain ⟨m, rfl⟩ : ∃ m, n = m + 1 := ⟨n - 1, by have := HI.out.2.1; omega⟩
      obtain ⟨k1, rfl⟩ : ∃ k1, gk = k1 + 1 := ⟨gk - 1, by have := HI.out; omega⟩
      have hst := HI.out.2.2.1
      rw [waysL_go th s m (zf, outs) S' HC.out] at hst
      have hG := HI.out.2.2.2.1
      have hgr := HT.out.2.1 (skip S' 1)
      have hur := HT.out.2.2 (skip S' 1) (by rw [skip_at]; omega)
      have g1 := hG.up
      have g3 := hG.at_
      dsimp only at g1 g3
      have hs0 := HT.out.1
      have ha0 := HA.out
      have hY := fun (W : World) (h : BAt W base b s (skip S' 1)) => HY.out W (skip S' 1) h (by rw [skip_at]; omega) (by rw [skip_at, skip_st]; omega)
      obtain ⟨Q, hQ⟩ : ∃ Q, wayB th s (skip S' 1) = Q := ⟨_, rfl⟩
      rw [hQ] at hst hgr hur hY
      have hlQ : Q.2.st.length ≤ 900000 := by have := hgr.up; rw [skip_at, skip_st] at this; omega
      have hat : (S'.at_ : Int) + 1 < 9223372036854775808 := by omega
      have HQ := Aside0.mk (⟨hst, hgr, hur, hlQ, hcl.1⟩ : waysL th s m (Q.2.st.length, outs ++ Q.1.2) (addB ⟨1, 0, zf, Q.1.1⟩ Q.2) = waysF th s S ∧ Gr 1 (skip S' 1) Q ∧ Q.2.at_ ≤ s.size + 20 ∧ Q.2.st.length ≤ 900000 ∧ S'.at_ < s.size)
      have hml : outs.length ≤ 900000 ∧ Q.1.2.length ≤ 900000 := by
        have h1 := hG.many; have h2 := hgr.many; rw [skip_at] at h2; dsimp only at h1; omega
      have HML := Aside0.mk hml
      clear hst hG hgr hur hQ g1 g3 hs0 ha0 hlQ hcl hml
      go_wp2_with (fail)
      refine ihP.mono ?_
      rintro e wx ⟨rfl, hbx⟩
      have hBx := HB.out.below hbx
      have HOx := Aside0.mk (HO.out.below hbx)
      have HUx := Aside0.mk (blk_below HU'.out hbx)
      have HPx := Aside0.mk (blk_below HP'.out hbx)
      have HFx := Aside0.mk (HF.out.trans (Fr.of HB.out.base_le hbx))
      have hbk := hBx.2.choose_spec.1
      have x1 : wx.cell? ⟨b, 1, none⟩ = some (.int .i64 S'.at_) := (blk_cell hbk 1).trans rfl
      have f1 := blk_frozen hbk 1
      have HBx := Aside0.mk hBx
      clear hbx ihP HB HO HU' HP' HF hBx hbk
      go_wp2_with (fail)
      have hinc := HBx.out.inc 1 ((S'.at_ : Int) + 1) (by simp)
      obtain ⟨w1, hw1⟩ : ∃ w1, World.setCell wx ⟨b, 1, none⟩ (.int .i64 ((S'.at_ : Int) + 1)) = w1 := ⟨_, rfl⟩
      rw [hw1] at hinc
      rw [hw1]
      refine (hY w1 hinc.1).mono ?_
      rintro e w2 ⟨v2, rfl, hO2, hB2, hF2⟩
      have hF12 := hinc.2.trans hF2
      have HO2 := Aside0.mk (HOx.out.fr hF12 ⟨_, HBx.out.2.choose_spec.1⟩ (fun _ _ => by simp))
      have HU2 := Aside0.mk (hF12.blk HUx.out HU.out.1 (by simp) (by decide))
      have HP2 := Aside0.mk (hF12.blk HPx.out HW.out.2.1 (by simp) (by decide))
      have HF2 := Aside0.mk (HFx.out.trans hF12)
      obtain ⟨A2, c2, rfl⟩ := hO2.slice
      have HG2 := Aside0.mk (Nat.le_trans HFx.out.grow hinc.2.grow)
      have HT2 := Aside0.mk (hO2.lower HG2.out)
      have HB2 := Aside0.mk hB2
      clear hO2 hB2 hF2 hinc hw1 hF12 hY x1 f1
      go_wp2_with (first | (((with_reducible refine gate_dst (N := 8) rfl ?_); (try (refine gate_guard (by rfl) ?_; dsimp only)); refine box_event ?hg (N := 8) ?hd (cs := #[.int .i64 0, .slice none 0 0]) (t := 72) ?hr ?_; (case hd => rfl); (case hg => rfl); (case hr => first | (go_simp; done) | (go_simp; rfl)); intro q eq wq hq lq; have Eq := Aside0.mk eq; clear eq); have q0 : wq.cell? ⟨q, 0, none⟩ = some (.int .i64 0) := (blk_cell hq 0).trans rfl; have q1 : wq.cell? ⟨q, 1, none⟩ = some (.slice none 0 0) := (blk_cell hq 1).trans rfl; have fq0 := blk_frozen hq 0; have fq1 := blk_frozen hq 1; have hu := blk_below HU2.out lq; have u0 : wq.cell? ⟨u, 0, none⟩ = some (.int .i64 (zf : Int)) := (blk_cell hu 0).trans rfl; have u1 : wq.cell? ⟨u, 1, none⟩ = some (.slice A0 outs.length cv0) := (blk_cell hu 1).trans rfl; have fu0 := blk_frozen hu 0; have fu1 := blk_frozen hu 1; have hqu : q ≠ u := (fun e => by have := Eq.out; have := blk_lt HU2.out; omega); have huq : u ≠ q := fun e => hqu e.symm; have HLq := Aside0.mk lq; clear lq) | fail)
      have hqb : q ≠ b := by have := Eq.out; have := HB2.out.lt; omega
      have hqw : w.heap.size ≤ q := by have := Eq.out; have := HF2.out.grow; omega
      have hqp : q ≠ p := by have := Eq.out; have := blk_lt HP2.out; omega
      have hr := ret_partX (O := none) (base2 := w.heap.size) HW.out.2.2 hq hqw hqb (HB2.out.below HLq.out) (HF2.out.trans (Fr.of HB2.out.base_le HLq.out)) Q.1.1 (.slice A2 Q.1.2.length c2) Q.1.2 (HT2.out.below HLq.out)
      have hO4 := ((HO2.out.below HLq.out).other hq (by decide) 0 (.int .i64 (Q.1.1 : Int))).other (blk_set hq 0 (.int .i64 (Q.1.1 : Int))) (by decide) 1 (.slice A2 Q.1.2.length c2)
      have far : ∀ k, k ≠ q → (World.setCell (World.setCell wq ⟨q, 0, none⟩ (.int .i64 (Q.1.1 : Int))) ⟨q, 1, none⟩ (.slice A2 Q.1.2.length c2)).heap[k]? = wq.heap[k]? := fun k hk => (Below.heap_setCell _ ⟨q, 1, none⟩ _ k hk).trans (Below.heap_setCell wq ⟨q, 0, none⟩ _ k hk)
      have hu4 := (far u huq).trans hu
      have hp4 := (far p (fun e => hqp e.symm)).trans (blk_below HP2.out HLq.out)
      obtain ⟨w4, hw4⟩ : ∃ w4, World.setCell (World.setCell wq ⟨q, 0, none⟩ (.int .i64 (Q.1.1 : Int))) ⟨q, 1, none⟩ (.slice A2 Q.1.2.length c2) = w4 := ⟨_, rfl⟩
      rw [hw4] at hr hO4 hu4 hp4
      rw [hw4]
      obtain ⟨hq4, v4, e4, hT4, hB4, hF4⟩ := hr
      obtain rfl := part_eq e4
      clear e4 hw4 far q0 q1 fq0 fq1 u0 u1 fu0 fu1 hu hq HB2 HF2 HU2 HP2 HT2 HO2
      have hbk := hB4.2.choose_spec.1
      refine (addSk w4 base b s Q.2 zf Q.1.1 hB4 (Nat.le_trans HQ.out.2.2.2.1 (by decide))).mono ?_
      rintro e w5 ⟨rfl, hB5, hF5⟩
      have hu := hF5.blk hu4 HU.out.1 (by simp) (by decide)
      have hq := hF5.blk hq4 hqb (by simp) (by decide)
      have HP5 := Aside0.mk (hF5.blk hp4 HW.out.2.1 (by simp) (by decide))
      have HT5 := Aside0.mk (hT4.fr hF5 ⟨_, hbk⟩ (fun _ _ => by simp))
      have HO5 := Aside0.mk (hO4.fr hF5 ⟨_, hbk⟩ (fun _ _ => by simp))
      have HF5 := Aside0.mk (hF4.trans hF5)
      have HB5 := Aside0.mk hB5
      clear hB5 hF5 hT4 hO4 hF4 hB4 hu4 hp4 hq4 hbk
      have u0 : w5.cell? ⟨u, 0, none⟩ = some (.int .i64 (zf : Int)) := (blk_cell hu 0).trans rfl; have u1 : w5.cell? ⟨u, 1, none⟩ = some (.slice A0 outs.length cv0) := (blk_cell hu 1).trans rfl; have fu0 := blk_frozen hu 0; have fu1 := blk_frozen hu 1
      have q0 : w5.cell? ⟨q, 0, none⟩ = some (.int .i64 (Q.1.1 : Int)) := (blk_cell hq 0).trans rfl; have q1 : w5.cell? ⟨q, 1, none⟩ = some (.slice A2 Q.1.2.length c2) := (blk_cell hq 1).trans rfl; have fq0 := blk_frozen hq 0; have fq1 := blk_frozen hq 1
      go_wp2_with (first
        | ((with_reducible refine gate_builtin (b := .append) (xs := #[.tmp 44, .tmp 46]) rfl ?_); at_builtin; refine Kd.R_append_row (Value.int .i64) (0 : Int) (h1 := fun _ => rfl) (w0 := w5) w.heap.size rfl (.tmp 44) (.tmp 46) 70 3 (.int .i64 0) 8 rfl Try.underlying70 infoI rfl (by decide) (.slice A0 outs.length cv0) (outs.map fun (o : Nat) => (o : Int)) (Q.1.2.map fun (o : Nat) => (o : Int)) A2 Q.1.2.length c2 (fun _ => True) rfl rfl (fun _ _ => trivial) ?aO ?aR ?aB ?aS ?aL ?_; (case aO => exact HO5.out); (case aR => have h := (Kd.R_reads' HT5.out).2.2; rw [List.length_map] at h; exact h); (case aB => exact Below.refl _ _); (case aS => exact HF5.out.grow); (case aL => have := HML.out; rw [List.length_map]; omega); intro v6 w6 hR6 hB6 hg6 hat6; have HA6 := Aside0.mk (OutsAt.append hR6); obtain ⟨A6, c6, e6⟩ := HA6.out.slice; subst e6; have hk6 := (hg6.block u (blk_lt hu) (Kd.R_ne HO5.out hu (by decide))).trans hu; have y0 : w6.cell? ⟨u, 0, none⟩ = some (.int .i64 (zf : Int)) := (blk_cell hk6 0).trans rfl; have y1 : w6.cell? ⟨u, 1, none⟩ = some (.slice A0 outs.length cv0) := (blk_cell hk6 1).trans rfl; have g0 := blk_frozen hk6 0; have g1 := blk_frozen hk6 1)
        | fail)
      have hr := ret_partX (O := none) (base2 := w.heap.size) HW.out.2.2 hk6 HU.out.2.2 HU.out.1 (HB5.out.grownO HO5.out (fun k hk hne => hg6.block k hk hne)) (Fr.narrow HF5.out (Fr.grownO (Fr.refl base b (Value.slice A0 outs.length cv0).ownBlock w5) (Below.lower hB6 HW.out.2.2) (fun k hk hne => hg6.block k hk hne)) (own_new HO5.out)) Q.2.st.length (.slice A6 (outs ++ Q.1.2).length c6) (outs ++ Q.1.2) HA6.out
      have hp6 := (hg6.block p (blk_lt HP5.out) (Kd.R_ne HO5.out HP5.out (by decide))).trans HP5.out
      have hp7 := ((Below.heap_setCell (World.setCell w6 ⟨u, 0, none⟩ (.int .i64 (Q.2.st.length : Int))) ⟨u, 1, none⟩ (.slice A6 (outs ++ Q.1.2).length c6) p (fun e => HU.out.2.1 e.symm)).trans (Below.heap_setCell w6 ⟨u, 0, none⟩ (.int .i64 (Q.2.st.length : Int)) p (fun e => HU.out.2.1 e.symm))).trans hp6
      rw [List.length_append] at hr hp7
      clear hR6 hB6 hg6 hat6 y0 y1 g0 g1 hk6 hu hq u0 u1 fu0 fu1 q0 q1 fq0 fq1 hp6
      generalize World.setCell (World.setCell w6 ⟨u, 0, none⟩ (.int .i64 (Q.2.st.length : Int))) ⟨u, 1, none⟩ (.slice A6 (outs.length + Q.1.2.length) c6) = w7 at *
      obtain ⟨huu, v7, e7, hO7, hB7, hF7⟩ := hr
      obtain rfl := part_eq e7
      clear e7
      go_roundg k1
      case measure => have := HI.out; omega
      case rel =>
        have hG := HI.out.2.2.2.1
        have g1 := hG.at_
        have g2 := hG.le
        have g3 := hG.up
        have g4 := hG.outs
        have g5 := HQ.out.2.1.at_
        have g6 := HQ.out.2.1.le
        have g7 := HQ.out.2.1.up
        have g8 := HQ.out.2.1.many
        have g9 := hG.many
        rw [skip_at] at g5 g7 g8
        rw [skip_st] at g6 g7
        dsimp only at g1 g2 g3 g4 g9
        refine ⟨m, Q.2.st.length, _, outs ++ Q.1.2, addB ⟨1, 0, zf, Q.1.1⟩ Q.2, trivial, ⟨by have := HI.out; omega, ?_, HQ.out.1, ⟨?_, ?_, ?_, ?_, ?_, ?_⟩, HQ.out.2.2.1⟩, ⟨hB7⟩, ⟨hO7⟩, ⟨huu⟩, ⟨hp7⟩, ⟨hF7⟩⟩
        · show s.size < Q.2.at_ + m; have := HI.out.2.1; omega
        · show S.at_ ≤ Q.2.at_; omega
        · rw [addB_len]; omega
        · rw [addB_len]; show Q.2.st.length + 1 ≤ S.st.length + 2 * (Q.2.at_ - S.at_) + 1; omega
        · rw [addB_len]; exact Nat.lt_succ_self _
        · intro o ho
          rw [addB_len]
          rcases List.mem_append.1 ho with ho | ho
          · have := g4 o ho; omega
          · have := HQ.out.2.1.outs o ho; omega
        · show (outs ++ Q.1.2).length ≤ 2 * (Q.2.at_ - S.at_) + 2 * 1; rw [List.length_append]; omega
    · have eR := waysL_stop th s n (zf, outs) S' (fun h => hcs (HC.out.symm.trans h))
      have HE := Aside0.mk (eR.symm.trans HI.out.2.2.1)
      clear eR
      have hgo : ∀ (wx : World) (_ : Below wr.heap.size wr wx), wx.heap[u]? = some (.cells #[.int .i64 (zf : Int), .slice A0 outs.length cv0] TP (0, 0)) ∧ wx.heap[p]? = some (.cells #[.int .i64 0, .slice none 0 0] TP (0, 0)) := fun wx hx => ⟨blk_below HU'.out hx, blk_below HP'.out hx⟩
      rcases (show c = none ∨ ∃ c1, c = some c1 ∧ (c1 == 124) = false by
        cases c with
        | none => exact .inl rfl
        | some c1 => exact .inr ⟨c1, rfl, beq_false_of_ne (fun e => hcs (by rw [e]))⟩) with rfl | ⟨c1, rfl, hc1⟩
      all_goals
        clear hcs
        go_wp2_with (fail)
        refine ihP.mono ?_
        rintro e wx ⟨rfl, hbx⟩
        obtain ⟨hu, hp⟩ := hgo wx hbx
        have u0 : wx.cell? ⟨u, 0, none⟩ = some (.int .i64 (zf : Int)) := (blk_cell hu 0).trans rfl; have u1 : wx.cell? ⟨u, 1, none⟩ = some (.slice A0 outs.length cv0) := (blk_cell hu 1).trans rfl; have fu0 := blk_frozen hu 0; have fu1 := blk_frozen hu 1
        have p0 : wx.cell? ⟨p, 0, none⟩ = some (.int .i64 0) := (blk_cell hp 0).trans rfl; have p1 : wx.cell? ⟨p, 1, none⟩ = some (.slice none 0 0) := (blk_cell hp 1).trans rfl; have fp0 := blk_frozen hp 0; have fp1 := blk_frozen hp 1
        go_wp2_with (fail)
        have hr := ret_partX (O := none) (base2 := w.heap.size) HW.out.2.2 hp HW.out.1 HW.out.2.1 (HB.out.below hbx) (HF.out.trans (Fr.of HB.out.base_le hbx)) zf (.slice A0 outs.length cv0) outs (HO.out.below hbx)
        (obtain ⟨w9, hw9⟩ : ∃ w9, World.setCell (World.setCell wx ⟨p, 0, none⟩ (.int .i64 (zf : Int))) ⟨p, 1, none⟩ (.slice A0 outs.length cv0) = w9 := ⟨_, rfl⟩; rw [hw9] at hr; rw [hw9]; clear hw9; have c0 : w9.cell? ⟨p, 0, none⟩ = some (.int .i64 (zf : Int)) := (blk_cell hr.1 0).trans rfl; have c1 : w9.cell? ⟨p, 1, none⟩ = some (.slice A0 outs.length cv0) := (blk_cell hr.1 1).trans rfl; refine bodyPost_ret (by simp [results, Try.results23, go_sem, c0, c1, hu72]; try rfl) rfl ?_)
        rw [← HE.out]
        exact hr.2
end Go.Proofs.Ytnjpdhekeffpnaa.Rx
