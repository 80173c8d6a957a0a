/- The reader of expressions: what stands behind a thing, walked. -/
import Derived.Test.YtnjpdhekeffpnaaRxH
set_option linter.unusedVariables false
set_option linter.unusedSimpArgs false
namespace Go.Proofs.Ytnjpdhekeffpnaa.Rx
open Go.RowKit Go.Proofs.YtnjpdhekeffpnaaW.PrintWords Go.Proofs.YtnjpdhekeffpnaaW.PrintLast Go.Proofs.YtnjpdhekeffpnaaW.PrintMore

theorem addSk (w : World) (base b : Nat) (s : ByteArray) (S : BS) (n1 n2 : Nat) (h : BAt w base b s S) (hl : S.st.length ≤ 1000000) :
    Calls Try.prog 40 #[.pointer (some ⟨b, 0, none⟩), .agg #[.int .i64 1, .int .u64 0, .int .u64 0, .int .u64 0, .int .u64 0, .int .i64 (n1 : Int), .int .i64 (n2 : Int)]] w fun r w' => r = .returned (.int .i64 (S.st.length : Int)) ∧ BAt w' base b s (addB ⟨1, 0, n1, n2⟩ S) ∧ Fr base b none w w' := by
  rw [← stpV_two]
  exact addW w base b s S ⟨1, 0, n1, n2⟩ h hl
theorem OutsAt.append {w : World} {base : Nat} {v : Value} {a b : List Nat} (h : Kd.R (Kd.int .i64) TI w base (fun _ => True) v ((a.map fun (o : Nat) => (o : Int)) ++ (b.map fun (o : Nat) => (o : Int)))) : OutsAt w base v (a ++ b) := by
  unfold OutsAt
  rw [List.map_append]; exact h
theorem Below.lower {B B' : Nat} {w w' : World} (h : Below B w w') (hb : B' ≤ B) : Below B' w w' := ⟨h.os, h.tape, h.output, h.size, fun i hi => h.block i (Nat.lt_of_lt_of_le hi hb)⟩
theorem ix3 (c : Int) (h0 : 0 ≤ c) (h1 : c ≤ 255) : Lib.indexByte [42, 43, 63] c.toNat.toUInt8 = if c = 42 then 0 else if c = 43 then 1 else if c = 63 then 2 else -1 := by
  have h : ∀ k : Fin 256, Lib.indexByte [42, 43, 63] (k.val).toUInt8 = if (k.val : Int) = 42 then 0 else if (k.val : Int) = 43 then 1 else if (k.val : Int) = 63 then 2 else -1 := by decide +kernel
  have := h ⟨c.toNat, by omega⟩
  rw [show ((c.toNat : Nat) : Int) = c by omega] at this
  exact this
theorem ixW (c r : Int) (h : Lib.indexByte [42, 43, 63] c.toNat.toUInt8 = r) (W : World) : Calls Try.prog 36 #[.string ⟨#[42, 43, 63]⟩, .int .u8 c] W fun e w' => e = .returned (.int .i64 r) ∧ w' = W := by
  have := Try.strings_IndexByte ⟨#[42, 43, 63]⟩ c W
  rw [show (⟨#[42, 43, 63]⟩ : ByteArray).data.toList = [42, 43, 63] from rfl, h] at this
  exact this
set_option maxHeartbeats 8000000 in
set_option maxRecDepth 100000 in
theorem repeatW (w : World) (base base2 b : Nat) (s : ByteArray) (S : BS) (q : Part) (v : Value) (h : BAt w base b s S) (hO : OutsAt w base2 v q.2) (hb2 : base ≤ base2 ∧ base2 ≤ w.heap.size) (hl : S.st.length ≤ 900000) (hs : s.size ≤ 200) (hm : q.2.length ≤ 1000000) (hv : ∀ o ∈ q.2, o / 2 < S.st.length) (hq1 : q.1 < S.st.length) :
    Calls Try.prog 50 #[.pointer (some ⟨b, 0, none⟩), .agg #[.int .i64 (q.1 : Int), v]] w fun r w' => PartX w w' base base2 b v.ownBlock s (repB s q S) r := by
  have hu100 := Try.underlying100
  have hu72 := Try.underlying72
  have hu69 := Try.underlying69
  have HS := Aside0.mk h
  have HO := Aside0.mk hO
  have HM := Aside0.mk (⟨hl, hs, hm, hv, hb2⟩ : S.st.length ≤ 900000 ∧ s.size ≤ 200 ∧ q.2.length ≤ 1000000 ∧ (∀ o ∈ q.2, o / 2 < S.st.length) ∧ base ≤ base2 ∧ base2 ≤ w.heap.size)
  obtain ⟨Ao, co, rfl⟩ := hO.slice
  clear h hO hl hs hm hv hb2
  go_enter Try.func50, Try.ntmps50
  go_wp2_with (first | ((with_reducible refine gate_dst (N := 3) rfl ?_); (try (refine gate_guard (by rfl) ?_; dsimp only)); refine box_event ?hg (N := 3) ?hd (cs := #[.int .i64 (q.1 : Int), .slice Ao q.2.length co]) (t := 72) ?hr ?_; (case hd => rfl); (case hg => rfl); (case hr => first | (go_simp; done) | (go_simp; rfl)); intro u eu wu hu lu; have Eu := Aside0.mk eu; clear eu) | ((with_reducible refine gate_dst (N := 4) rfl ?_); (try (refine gate_guard (by rfl) ?_; dsimp only)); refine box_event ?hg (N := 4) ?hd (cs := #[.int .i64 0, .slice none 0 0]) (t := 72) ?hr ?_; (case hd => rfl); (case hg => rfl); (case hr => first | (go_simp; done) | (go_simp; rfl)); intro p ep wp hp lp; have Ep := Aside0.mk ep; clear ep) | fail)
  have hlp := below_then lu lu.size lp
  have hbs := HS.out.base_le
  have HW := Aside0.mk (⟨by have := Eu.out; have := Ep.out; have := lu.size; omega, by have := Eu.out; have := Ep.out; have := lu.size; have := HS.out.lt; omega, by have := Eu.out; omega, by have := Eu.out; have := HS.out.lt; omega⟩ : w.heap.size ≤ p ∧ p ≠ b ∧ w.heap.size ≤ u ∧ u ≠ b)
  refine (peekW wp base b s S (HS.out.below hlp)).mono ?_
  rintro e w3 ⟨rfl, hb3⟩
  have HB3 := Aside0.mk ((HS.out.below hlp).below hb3)
  have HO3 := Aside0.mk ((HO.out.below hlp).below hb3)
  have HF3 := Aside0.mk (Fr.of (b := b) (O := (Value.slice Ao q.2.length co).ownBlock) hbs (below_then hlp hlp.size hb3))
  have HP := Aside0.mk (blk_below hp hb3)
  have HU := Aside0.mk (blk_below (blk_below hu lp) hb3)
  clear hlp hbs hp hu lp lu hb3
  obtain ⟨c, hc⟩ : ∃ c, peekB s S = c := ⟨_, rfl⟩
  rw [hc]
  have HC := Aside0.mk hc
  cases c with
  | none =>
    have eR : repB s q S = (q, S) := by rw [repB, hc]
    have HE := Aside0.mk eR
    clear hc eR
    have hu := HU.out
    have hp := HP.out
    have u0 : w3.cell? ⟨u, 0, none⟩ = some (.int .i64 (q.1 : Int)) := (blk_cell hu 0).trans rfl; have u1 : w3.cell? ⟨u, 1, none⟩ = some (.slice Ao q.2.length co) := (blk_cell hu 1).trans rfl; have fu0 := blk_frozen hu 0; have fu1 := blk_frozen hu 1
    have p0 : w3.cell? ⟨p, 0, none⟩ = some (.int .i64 0) := (blk_cell hp 0).trans rfl; have p1 : w3.cell? ⟨p, 1, none⟩ = some (.slice none 0 0) := (blk_cell hp 1).trans rfl; have fp0 := blk_frozen hp 0; have fp1 := blk_frozen hp 1
    go_wp2_with (fail)
    have hr := ret_partX HS.out.base_le hp HW.out.1 HW.out.2.1 HB3.out HF3.out q.1 (.slice Ao q.2.length co) q.2 HO3.out
    (obtain ⟨w9, hw9⟩ : ∃ w9, World.setCell (World.setCell w3 ⟨p, 0, none⟩ (.int .i64 (q.1 : Int))) ⟨p, 1, none⟩ (.slice Ao q.2.length co) = w9 := ⟨_, rfl⟩; rw [hw9] at hr; rw [hw9]; clear hw9; have c0 : w9.cell? ⟨p, 0, none⟩ = some (.int .i64 (q.1 : Int)) := (blk_cell hr.1 0).trans rfl; have c1 : w9.cell? ⟨p, 1, none⟩ = some (.slice Ao q.2.length co) := (blk_cell hr.1 1).trans rfl; refine bodyPost_ret (by simp [results, Try.results50, go_sem, c0, c1, hu72]; try rfl) rfl ?_)
    rw [HE.out]
    exact hr.2
  | some c =>
    have hbr := bt_range s S.at_
    have hcl := peek_lt hc
    have hc0 : 0 ≤ c ∧ c ≤ 255 := by rw [hcl.2.2]; exact hbr
    have hix := ix3 c hc0.1 hc0.2
    have hu := HU.out
    have hp := HP.out
    have u0 : w3.cell? ⟨u, 0, none⟩ = some (.int .i64 (q.1 : Int)) := (blk_cell hu 0).trans rfl; have u1 : w3.cell? ⟨u, 1, none⟩ = some (.slice Ao q.2.length co) := (blk_cell hu 1).trans rfl; have fu0 := blk_frozen hu 0; have fu1 := blk_frozen hu 1
    have p0 : w3.cell? ⟨p, 0, none⟩ = some (.int .i64 0) := (blk_cell hp 0).trans rfl; have p1 : w3.cell? ⟨p, 1, none⟩ = some (.slice none 0 0) := (blk_cell hp 1).trans rfl; have fp0 := blk_frozen hp 0; have fp1 := blk_frozen hp 1
    by_cases h3 : c = 42 ∨ c = 43 ∨ c = 63
    · have hcl' : (S.at_ : Int) + 1 < 9223372036854775808 := by have := HM.out.2.1; omega
      have hnn : (0 : Int) ≤ (S.st.length : Int) := Int.natCast_nonneg _
      have hll : (S.st.length : Int) ≤ 900000 := by have := HM.out.1; omega
      obtain ⟨hb1, vs, hb2, hR2⟩ := HB3.out
      have x1 : w3.cell? ⟨b, 1, none⟩ = some (.int .i64 S.at_) := (blk_cell hb2 1).trans rfl
      have f1 := blk_frozen hb2 1
      have HB3b := Aside0.mk hb2
      clear hb2 hR2 hb1 hbr
      rcases h3 with rfl | rfl | rfl
      · have eR : repB s q S = ((S.st.length, [2 * S.st.length + 1]), patchB q.2 S.st.length (addB ⟨1, 0, q.1, 0⟩ (skip S 1))) := by rw [repB, hc]; rfl
        have HE := Aside0.mk eR
        rw [if_pos rfl] at hix
        clear hc eR hcl
        go_wp2_with (first | (go_at_call 36; refine (ixW _ _ hix _).mono ?_; rintro e w3 ⟨rfl, rfl⟩) | fail)
        have hinc := HB3.out.inc 1 ((S.at_ : Int) + 1) (by simp)
        generalize World.setCell w3 ⟨b, 1, none⟩ (.int .i64 ((S.at_ : Int) + 1)) = w4 at *
        have ihA : Calls Try.prog 40 #[.pointer (some ⟨b, 0, none⟩), .agg #[.int .i64 1, .int .u64 0, .int .u64 0, .int .u64 0, .int .u64 0, .int .i64 (q.1 : Int), .int .i64 0]] w4 (fun r w' => r = .returned (.int .i64 (S.st.length : Int)) ∧ BAt w' base b s (addB ⟨1, 0, q.1, 0⟩ (skip S 1)) ∧ Fr base b none w4 w') := addSk w4 base b s (skip S 1) q.1 0 hinc.1 (Nat.le_trans HM.out.1 (by decide))
        refine ihA.mono ?_
        rintro e w5 ⟨rfl, hB5, hF5⟩
        have hF35 := hinc.2.trans hF5
        have hp := hF35.blk hp HW.out.2.1 (by simp) (by decide)
        have hu := hF35.blk hu HW.out.2.2.2 (by simp) (by decide)
        have HO5 := Aside0.mk (HO3.out.fr hF35 ⟨_, HB3b.out⟩ (fun _ _ => by simp))
        have HF5 := Aside0.mk (HF3.out.trans (hF35.wide (Value.slice Ao q.2.length co).ownBlock))
        have HB5 := Aside0.mk hB5
        clear hinc ihA hB5 hF5 hF35 u0 u1 fu0 fu1 p0 p1 fp0 fp1 x1 f1 hix
        have u0 : w5.cell? ⟨u, 0, none⟩ = some (.int .i64 (q.1 : Int)) := (blk_cell hu 0).trans rfl; have u1 : w5.cell? ⟨u, 1, none⟩ = some (.slice Ao q.2.length co) := (blk_cell hu 1).trans rfl; have fu0 := blk_frozen hu 0; have fu1 := blk_frozen hu 1
        have p0 : w5.cell? ⟨p, 0, none⟩ = some (.int .i64 0) := (blk_cell hp 0).trans rfl; have p1 : w5.cell? ⟨p, 1, none⟩ = some (.slice none 0 0) := (blk_cell hp 1).trans rfl; have fp0 := blk_frozen hp 0; have fp1 := blk_frozen hp 1
        go_wp2_with (fail)
        refine (patchW w5 base base2 b s _ q.1 (.slice Ao q.2.length co) q.2 S.st.length HB5.out HO5.out (fun o ho => by have := HM.out.2.2.2.1 o ho; rw [addB_len]; show _ < S.st.length + 1; omega) (by rw [addB_len]; have := HM.out.1; show S.st.length + 1 ≤ 1000000; omega)).mono ?_
        rintro e w6 ⟨rfl, hB6, hF6⟩
        have hp := hF6.blk hp HW.out.2.1 (by simp) (by decide)
        have hu := hF6.blk hu HW.out.2.2.2 (by simp) (by decide)
        have HF6 := Aside0.mk (HF5.out.trans (hF6.wide (Value.slice Ao q.2.length co).ownBlock))
        have HB6 := Aside0.mk hB6
        clear hB6 hF6 u0 u1 fu0 fu1 p0 p1 fp0 fp1 HF5 HB5 HO5
        have u0 : w6.cell? ⟨u, 0, none⟩ = some (.int .i64 (q.1 : Int)) := (blk_cell hu 0).trans rfl; have u1 : w6.cell? ⟨u, 1, none⟩ = some (.slice Ao q.2.length co) := (blk_cell hu 1).trans rfl; have fu0 := blk_frozen hu 0; have fu1 := blk_frozen hu 1
        go_wp2_with (first | (((with_reducible refine gate_dst (N := 66) rfl ?_); refine outs_event ?hg (N := 66) ?hd [2 * S.st.length + 1] rfl (by simp) ?hr ?_; (case hd => rfl); (case hg => rfl); (case hr => first | (go_simp; done) | (go_simp; rfl)); intro g eg wg hg lg; have Eg := Aside0.mk eg; clear eg); have hp := blk_below hp lg; have p0 : wg.cell? ⟨p, 0, none⟩ = some (.int .i64 0) := (blk_cell hp 0).trans rfl; have p1 : wg.cell? ⟨p, 1, none⟩ = some (.slice none 0 0) := (blk_cell hp 1).trans rfl; have fp0 := blk_frozen hp 0; have fp1 := blk_frozen hp 1) | fail)
        have hr := ret_partX HS.out.base_le hp HW.out.1 HW.out.2.1 (HB6.out.below lg) (HF6.out.trans (Fr.of HB6.out.base_le lg)) S.st.length (.slice (some ⟨g, 0, none⟩) 1 1) [2 * S.st.length + 1] (hg.lower (Nat.le_trans HM.out.2.2.2.2.2 HF6.out.grow))
        (obtain ⟨w9, hw9⟩ : ∃ w9, World.setCell (World.setCell wg ⟨p, 0, none⟩ (.int .i64 (S.st.length : Int))) ⟨p, 1, none⟩ (.slice (some ⟨g, 0, none⟩) 1 1) = w9 := ⟨_, rfl⟩; rw [hw9] at hr; rw [hw9]; clear hw9; have c0 : w9.cell? ⟨p, 0, none⟩ = some (.int .i64 (S.st.length : Int)) := (blk_cell hr.1 0).trans rfl; have c1 : w9.cell? ⟨p, 1, none⟩ = some (.slice (some ⟨g, 0, none⟩) 1 1) := (blk_cell hr.1 1).trans rfl; refine bodyPost_ret (by simp [results, Try.results50, go_sem, c0, c1, hu72]; try rfl) rfl ?_)
        rw [HE.out]
        exact hr.2
      · have eR : repB s q S = ((q.1, [2 * S.st.length + 1]), patchB q.2 S.st.length (addB ⟨1, 0, q.1, 0⟩ (skip S 1))) := by rw [repB, hc]; rfl
        have HE := Aside0.mk eR
        rw [if_neg (by decide), if_pos rfl] at hix
        clear hc eR hcl
        go_wp2_with (first | (go_at_call 36; refine (ixW _ _ hix _).mono ?_; rintro e w3 ⟨rfl, rfl⟩) | fail)
        have hinc := HB3.out.inc 1 ((S.at_ : Int) + 1) (by simp)
        generalize World.setCell w3 ⟨b, 1, none⟩ (.int .i64 ((S.at_ : Int) + 1)) = w4 at *
        have ihA : Calls Try.prog 40 #[.pointer (some ⟨b, 0, none⟩), .agg #[.int .i64 1, .int .u64 0, .int .u64 0, .int .u64 0, .int .u64 0, .int .i64 (q.1 : Int), .int .i64 0]] w4 (fun r w' => r = .returned (.int .i64 (S.st.length : Int)) ∧ BAt w' base b s (addB ⟨1, 0, q.1, 0⟩ (skip S 1)) ∧ Fr base b none w4 w') := addSk w4 base b s (skip S 1) q.1 0 hinc.1 (Nat.le_trans HM.out.1 (by decide))
        refine ihA.mono ?_
        rintro e w5 ⟨rfl, hB5, hF5⟩
        have hF35 := hinc.2.trans hF5
        have hp := hF35.blk hp HW.out.2.1 (by simp) (by decide)
        have hu := hF35.blk hu HW.out.2.2.2 (by simp) (by decide)
        have HO5 := Aside0.mk (HO3.out.fr hF35 ⟨_, HB3b.out⟩ (fun _ _ => by simp))
        have HF5 := Aside0.mk (HF3.out.trans (hF35.wide (Value.slice Ao q.2.length co).ownBlock))
        have HB5 := Aside0.mk hB5
        clear hinc ihA hB5 hF5 hF35 u0 u1 fu0 fu1 p0 p1 fp0 fp1 x1 f1 hix
        have u0 : w5.cell? ⟨u, 0, none⟩ = some (.int .i64 (q.1 : Int)) := (blk_cell hu 0).trans rfl; have u1 : w5.cell? ⟨u, 1, none⟩ = some (.slice Ao q.2.length co) := (blk_cell hu 1).trans rfl; have fu0 := blk_frozen hu 0; have fu1 := blk_frozen hu 1
        have p0 : w5.cell? ⟨p, 0, none⟩ = some (.int .i64 0) := (blk_cell hp 0).trans rfl; have p1 : w5.cell? ⟨p, 1, none⟩ = some (.slice none 0 0) := (blk_cell hp 1).trans rfl; have fp0 := blk_frozen hp 0; have fp1 := blk_frozen hp 1
        go_wp2_with (fail)
        refine (patchW w5 base base2 b s _ q.1 (.slice Ao q.2.length co) q.2 S.st.length HB5.out HO5.out (fun o ho => by have := HM.out.2.2.2.1 o ho; rw [addB_len]; show _ < S.st.length + 1; omega) (by rw [addB_len]; have := HM.out.1; show S.st.length + 1 ≤ 1000000; omega)).mono ?_
        rintro e w6 ⟨rfl, hB6, hF6⟩
        have hp := hF6.blk hp HW.out.2.1 (by simp) (by decide)
        have hu := hF6.blk hu HW.out.2.2.2 (by simp) (by decide)
        have HF6 := Aside0.mk (HF5.out.trans (hF6.wide (Value.slice Ao q.2.length co).ownBlock))
        have HB6 := Aside0.mk hB6
        clear hB6 hF6 u0 u1 fu0 fu1 p0 p1 fp0 fp1 HF5 HB5 HO5
        have u0 : w6.cell? ⟨u, 0, none⟩ = some (.int .i64 (q.1 : Int)) := (blk_cell hu 0).trans rfl; have u1 : w6.cell? ⟨u, 1, none⟩ = some (.slice Ao q.2.length co) := (blk_cell hu 1).trans rfl; have fu0 := blk_frozen hu 0; have fu1 := blk_frozen hu 1
        go_wp2_with (first | (((with_reducible refine gate_dst (N := 56) rfl ?_); refine outs_event ?hg (N := 56) ?hd [2 * S.st.length + 1] rfl (by simp) ?hr ?_; (case hd => rfl); (case hg => rfl); (case hr => first | (go_simp; done) | (go_simp; rfl)); intro g eg wg hg lg; have Eg := Aside0.mk eg; clear eg); have hp := blk_below hp lg; have p0 : wg.cell? ⟨p, 0, none⟩ = some (.int .i64 0) := (blk_cell hp 0).trans rfl; have p1 : wg.cell? ⟨p, 1, none⟩ = some (.slice none 0 0) := (blk_cell hp 1).trans rfl; have fp0 := blk_frozen hp 0; have fp1 := blk_frozen hp 1) | fail)
        have hr := ret_partX HS.out.base_le hp HW.out.1 HW.out.2.1 (HB6.out.below lg) (HF6.out.trans (Fr.of HB6.out.base_le lg)) q.1 (.slice (some ⟨g, 0, none⟩) 1 1) [2 * S.st.length + 1] (hg.lower (Nat.le_trans HM.out.2.2.2.2.2 HF6.out.grow))
        (obtain ⟨w9, hw9⟩ : ∃ w9, World.setCell (World.setCell wg ⟨p, 0, none⟩ (.int .i64 (q.1 : Int))) ⟨p, 1, none⟩ (.slice (some ⟨g, 0, none⟩) 1 1) = w9 := ⟨_, rfl⟩; rw [hw9] at hr; rw [hw9]; clear hw9; have c0 : w9.cell? ⟨p, 0, none⟩ = some (.int .i64 (q.1 : Int)) := (blk_cell hr.1 0).trans rfl; have c1 : w9.cell? ⟨p, 1, none⟩ = some (.slice (some ⟨g, 0, none⟩) 1 1) := (blk_cell hr.1 1).trans rfl; refine bodyPost_ret (by simp [results, Try.results50, go_sem, c0, c1, hu72]; try rfl) rfl ?_)
        rw [HE.out]
        exact hr.2
      · have eR : repB s q S = ((S.st.length, q.2 ++ [2 * S.st.length + 1]), addB ⟨1, 0, q.1, 0⟩ (skip S 1)) := by rw [repB, hc]; rfl
        have HE := Aside0.mk eR
        rw [if_neg (by decide), if_neg (by decide), if_pos rfl] at hix
        clear hc eR hcl
        go_wp2_with (first | (go_at_call 36; refine (ixW _ _ hix _).mono ?_; rintro e w3 ⟨rfl, rfl⟩) | fail)
        have hinc := HB3.out.inc 1 ((S.at_ : Int) + 1) (by simp)
        generalize World.setCell w3 ⟨b, 1, none⟩ (.int .i64 ((S.at_ : Int) + 1)) = w4 at *
        have ihA : Calls Try.prog 40 #[.pointer (some ⟨b, 0, none⟩), .agg #[.int .i64 1, .int .u64 0, .int .u64 0, .int .u64 0, .int .u64 0, .int .i64 (q.1 : Int), .int .i64 0]] w4 (fun r w' => r = .returned (.int .i64 (S.st.length : Int)) ∧ BAt w' base b s (addB ⟨1, 0, q.1, 0⟩ (skip S 1)) ∧ Fr base b none w4 w') := addSk w4 base b s (skip S 1) q.1 0 hinc.1 (Nat.le_trans HM.out.1 (by decide))
        refine ihA.mono ?_
        rintro e w5 ⟨rfl, hB5, hF5⟩
        have hF35 := hinc.2.trans hF5
        have hp := hF35.blk hp HW.out.2.1 (by simp) (by decide)
        have hu := hF35.blk hu HW.out.2.2.2 (by simp) (by decide)
        have HO5 := Aside0.mk (HO3.out.fr hF35 ⟨_, HB3b.out⟩ (fun _ _ => by simp))
        have HF5 := Aside0.mk (HF3.out.trans (hF35.wide (Value.slice Ao q.2.length co).ownBlock))
        have HB5 := Aside0.mk hB5
        clear hinc ihA hB5 hF5 hF35 u0 u1 fu0 fu1 p0 p1 fp0 fp1 x1 f1 hix
        have u0 : w5.cell? ⟨u, 0, none⟩ = some (.int .i64 (q.1 : Int)) := (blk_cell hu 0).trans rfl; have u1 : w5.cell? ⟨u, 1, none⟩ = some (.slice Ao q.2.length co) := (blk_cell hu 1).trans rfl; have fu0 := blk_frozen hu 0; have fu1 := blk_frozen hu 1
        have p0 : w5.cell? ⟨p, 0, none⟩ = some (.int .i64 0) := (blk_cell hp 0).trans rfl; have p1 : w5.cell? ⟨p, 1, none⟩ = some (.slice none 0 0) := (blk_cell hp 1).trans rfl; have fp0 := blk_frozen hp 0; have fp1 := blk_frozen hp 1
        have HPx := Aside0.mk hp
        go_wp2_with (first
          | (((with_reducible refine gate_dst (N := 42) rfl ?_); refine outs_event ?hg (N := 42) ?hd [2 * S.st.length + 1] rfl (by simp) ?hr ?_; (case hd => rfl); (case hg => rfl); (case hr => first | (go_simp; done) | (go_simp; rfl)); intro g eg wg hg lg; have Eg := Aside0.mk eg; clear eg); have hp := blk_below hp lg; have HG := Aside0.mk hg; have HLg := Aside0.mk lg; clear hg lg)
          | ((with_reducible refine gate_builtin (b := .append) (xs := #[.tmp 38, .tmp 42]) rfl ?_); at_builtin; refine Kd.R_append_row (Value.int .i64) (0 : Int) (h1 := fun _ => rfl) (w0 := wg) base2 rfl (.tmp 38) (.tmp 42) 70 3 (.int .i64 0) 8 rfl Try.underlying70 infoI rfl (by decide) (.slice Ao q.2.length co) (q.2.map fun (o : Nat) => (o : Int)) ([2 * S.st.length + 1].map fun (o : Nat) => (o : Int)) (some ⟨g, 0, none⟩) 1 1 (fun _ => True) rfl rfl (fun _ _ => trivial) ?aO ?aR ?aB ?aS ?aL ?_; (case aO => exact HO5.out.below HLg.out); (case aR => exact (Kd.R_reads' HG.out).2.2); (case aB => exact Below.refl _ _); (case aS => exact Nat.le_trans HM.out.2.2.2.2.2 (Nat.le_trans HF5.out.grow HLg.out.size)); (case aL => have := HM.out.2.2.1; rw [List.length_map]; omega); intro v6 w6 hR6 hB6 hg6 hat6; have HA6 := Aside0.mk (OutsAt.append hR6); obtain ⟨A6, c6, e6⟩ := HA6.out.slice; subst e6; have hk6 := (hg6.block p (blk_lt hp) (Kd.R_ne (HO5.out.below HLg.out) hp (by decide))).trans hp; have y0 : w6.cell? ⟨p, 0, none⟩ = some (.int .i64 0) := (blk_cell hk6 0).trans rfl; have y1 : w6.cell? ⟨p, 1, none⟩ = some (.slice none 0 0) := (blk_cell hk6 1).trans rfl; have g0 := blk_frozen hk6 0; have g1 := blk_frozen hk6 1)
          | fail)
        have hr := ret_partX HS.out.base_le hk6 HW.out.1 HW.out.2.1 ((HB5.out.below HLg.out).grownO (HO5.out.below HLg.out) (fun k hk hne => hg6.block k hk hne)) ((HF5.out.trans (Fr.of HB5.out.base_le HLg.out)).grownO (Below.lower hB6 HM.out.2.2.2.2.1) (fun k hk hne => hg6.block k hk hne)) S.st.length (.slice A6 (q.2 ++ [2 * S.st.length + 1]).length c6) (q.2 ++ [2 * S.st.length + 1]) HA6.out
        rw [show (q.2 ++ [2 * S.st.length + 1]).length = q.2.length + 1 by simp] at hr
        (obtain ⟨w9, hw9⟩ : ∃ w9, World.setCell (World.setCell w6 ⟨p, 0, none⟩ (.int .i64 (S.st.length : Int))) ⟨p, 1, none⟩ (.slice A6 (q.2.length + 1) c6) = w9 := ⟨_, rfl⟩; rw [hw9] at hr; rw [hw9]; clear hw9; have c0 : w9.cell? ⟨p, 0, none⟩ = some (.int .i64 (S.st.length : Int)) := (blk_cell hr.1 0).trans rfl; have c1 : w9.cell? ⟨p, 1, none⟩ = some (.slice A6 (q.2.length + 1) c6) := (blk_cell hr.1 1).trans rfl; refine bodyPost_ret (by simp [results, Try.results50, go_sem, c0, c1, hu72]; try rfl) rfl ?_)
        rw [HE.out]
        exact hr.2
    · have eR : repB s q S = (q, S) := by rw [repB, hc]; simp only [if_neg (show ¬ c = 63 by omega), if_neg (show ¬ c = 43 by omega), if_neg (show ¬ c = 42 by omega)]
      have HE := Aside0.mk eR
      rw [if_neg (by omega), if_neg (by omega), if_neg (by omega)] at hix
      clear hc eR h3 hcl hbr
      go_wp2_with (first | (go_at_call 36; refine (ixW _ _ hix _).mono ?_; rintro e w3 ⟨rfl, rfl⟩) | fail)
      have hr := ret_partX HS.out.base_le hp HW.out.1 HW.out.2.1 HB3.out HF3.out q.1 (.slice Ao q.2.length co) q.2 HO3.out
      (obtain ⟨w9, hw9⟩ : ∃ w9, World.setCell (World.setCell w3 ⟨p, 0, none⟩ (.int .i64 (q.1 : Int))) ⟨p, 1, none⟩ (.slice Ao q.2.length co) = w9 := ⟨_, rfl⟩; rw [hw9] at hr; rw [hw9]; clear hw9; have c0 : w9.cell? ⟨p, 0, none⟩ = some (.int .i64 (q.1 : Int)) := (blk_cell hr.1 0).trans rfl; have c1 : w9.cell? ⟨p, 1, none⟩ = some (.slice Ao q.2.length co) := (blk_cell hr.1 1).trans rfl; refine bodyPost_ret (by simp [results, Try.results50, go_sem, c0, c1, hu72]; try rfl) rfl ?_)
      rw [HE.out]
      exact hr.2
end Go.Proofs.Ytnjpdhekeffpnaa.Rx
