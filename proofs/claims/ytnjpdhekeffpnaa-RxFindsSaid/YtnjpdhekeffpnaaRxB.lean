/- The reader of expressions: ways out laid, walked. -/
import Derived.Test.YtnjpdhekeffpnaaRxA
import Derived.Laws.BitsLemmas
set_option linter.unusedVariables false
set_option linter.unusedSimpArgs false
namespace Go.Proofs.Ytnjpdhekeffpnaa.Rx
open Go.RowKit Go.Proofs.YtnjpdhekeffpnaaW.PrintWords Go.Proofs.YtnjpdhekeffpnaaW.PrintLast Go.Proofs.YtnjpdhekeffpnaaW.PrintMore

theorem wraps_i64 (n : Int) (h₀ : 0 ≤ n) (h₁ : n < 2 ^ 62) : IntKind.i64.wrap n = n := by rw [IntKind.wrap_i64]; omega
theorem i64_and1 (x : Nat) (h : x < 2 ^ 62) : bits .and .i64 (x : Int) 1 = ((x % 2 : Nat) : Int) := by
  have := bits_mask .i64 62 (by decide) wraps_i64 1 (by decide) (x : Int) (by omega) (by omega)
  rw [show ((2 : Int) ^ 1 - 1) = 1 by decide] at this
  rw [this]; omega
theorem kst_cells {w : World} {g n : Nat} {l : List Stp} (h : Kd.C kst w (some ⟨g, 0, none⟩) n l) (j : Nat) (hj : j < l.length) : ∀ q u, (stpC l[j])[q]? = some u → w.cell? ⟨g, (j : Int).toNat * kst.sz + q, none⟩ = some u := by
  have hn := h.1
  obtain ⟨ad, e, hc⟩ := h.2.2 (by omega)
  obtain ⟨c, _, hk, hcell⟩ := hc j l[j] (List.getElem?_eq_getElem hj)
  injection e with e
  subst e
  rw [kst_open hk] at hcell
  intro q u hq
  have := hcell q u hq
  rw [Int.toNat_natCast]
  rw [add_plain] at this
  exact this
theorem kst_M5 (w : World) (base : Nat) (ok : Nat → Prop) (x : Stp) (n : Nat) : kst.M w base ok (⟨x.k, x.m, n, x.ot⟩ : Stp) ((stpC x).take 5 ++ [.int .i64 (n : Int)] ++ (stpC x).drop (5 + [Value.int .i64 (n : Int)].length)) := kst_mkM w base ok (⟨x.k, x.m, n, x.ot⟩ : Stp)
theorem kst_M6 (w : World) (base : Nat) (ok : Nat → Prop) (x : Stp) (n : Nat) : kst.M w base ok (⟨x.k, x.m, x.nx, n⟩ : Stp) ((stpC x).take 6 ++ [.int .i64 (n : Int)] ++ (stpC x).drop (6 + [Value.int .i64 (n : Int)].length)) := kst_mkM w base ok (⟨x.k, x.m, x.nx, n⟩ : Stp)
theorem kst_sz : kst.sz = 7 := rfl
theorem kst_le5 (n : Int) : 5 + [Value.int .i64 n].length ≤ kst.sz := by rw [kst_sz]; simp
theorem kst_le6 (n : Int) : 6 + [Value.int .i64 n].length ≤ kst.sz := by rw [kst_sz]; simp
theorem kst_off (j m : Nat) : j * 7 + m = (j : Int).toNat * kst.sz + m := by rw [Int.toNat_natCast, kst_sz]
theorem kst_cl (x : Stp) : (stpC x).length = kst.sz := rfl
theorem set1_0 (o j next : Nat) (st : List Stp) (hj : j < st.length) (ho : o = 2 * j + 0) : st.set j ⟨st[j].k, st[j].m, next, st[j].ot⟩ = set1 st o next := by
  unfold set1
  have e1 : o / 2 = j := by omega
  have e2 : ¬ o % 2 = 1 := by omega
  simp only [if_neg e2, e1]
  apply List.ext_getElem (by simp)
  intro i h1 h2
  rw [List.getElem_set, List.getElem_modify]
  by_cases h : j = i
  · subst h; simp
  · rw [if_neg h, if_neg h]
theorem set1_1 (o j next : Nat) (st : List Stp) (hj : j < st.length) (ho : o = 2 * j + 1) : st.set j ⟨st[j].k, st[j].m, st[j].nx, next⟩ = set1 st o next := by
  unfold set1
  have e1 : o / 2 = j := by omega
  have e2 : o % 2 = 1 := by omega
  simp only [if_pos e2, e1]
  apply List.ext_getElem (by simp)
  intro i h1 h2
  rw [List.getElem_set, List.getElem_modify]
  by_cases h : j = i
  · subst h; simp
  · rw [if_neg h, if_neg h]
theorem patch_step {wr w6 : World} {base b : Nat} {s : ByteArray} {S : BS} {st st' : List Stp} {v : Value} {g5 : Nat} {outs0 : List Nat} {next0 : Nat} (hB : BAt wr base b s (patchB outs0 next0 S)) (hb : wr.heap[b]? = some (.cells (bC s (patchB outs0 next0 S) v) TB (0, 0))) (hR : Kd.R kst TS wr base (fun _ => True) v st) (hR6 : Kd.R kst TS w6 base (fun _ => True) v st') (hB6 : Below base wr w6) (hg : wr.grownBy w6 (some g5)) (outs : List Nat) (next : Nat) (e : st' = patchL outs next S.st) (hv : v.ownBlock = some g5) :
    BAt w6 base b s (patchB outs next S) ∧ Fr base b none wr w6 := by
  have hne := Kd.R_ne hR hb (by decide)
  rw [hv] at hne
  have hk := hg.block b (blk_lt hb) hne
  refine ⟨⟨hB.1, v, ?_, ?_⟩, Fr.grown hR hB6 (fun k hk1 hk2 => hg.block k hk1 (by rw [hv] at hk2; exact hk2))⟩
  · rw [hk]; exact hb
  · show Kd.R kst TS w6 base (fun _ => True) v (patchL outs next S.st)
    rw [← e]; exact hR6
set_option maxHeartbeats 8000000 in
set_option maxRecDepth 100000 in
theorem patchW (w : World) (base base2 b : Nat) (s : ByteArray) (S : BS) (p0 : Nat) (vo : Value) (outs : List Nat) (next : Nat) (h : BAt w base b s S) (ho : OutsAt w base2 vo outs) (hv : ∀ o ∈ outs, o / 2 < S.st.length) (hl : S.st.length ≤ 1000000) :
    Calls Try.prog 52 #[.pointer (some ⟨b, 0, none⟩), .agg #[.int .i64 (p0 : Int), vo], .int .i64 (next : Int)] w fun r w' => r = .returned (.tuple #[]) ∧ BAt w' base b s (patchB outs next S) ∧ Fr base b none w w' := by
  have hu69 := Try.underlying69
  have hu100 := Try.underlying100
  have hu72 := Try.underlying72
  have HS := Aside0.mk h
  have HO := Aside0.mk ho
  have HV := Aside0.mk hv
  obtain ⟨Ao, co, rfl⟩ := Kd.R_slice ho
  rw [List.length_map] at HO ⊢
  obtain ⟨n, hn⟩ : ∃ n, outs.length = n := ⟨_, rfl⟩
  rw [hn] at HO ⊢
  clear h ho hv
  go_enter Try.func52, Try.ntmps52
  go_wp2_with (first | ((with_reducible refine gate_dst (N := 4) rfl ?_); (try (refine gate_guard (by rfl) ?_; dsimp only)); refine box_event ?hg (N := 4) ?hd (cs := #[.int .i64 (p0 : Int), .slice Ao n co]) (t := 72) ?hr ?_; (case hd => rfl); (case hg => rfl); (case hr => first | (go_simp; done) | (go_simp; rfl)); intro q eq wq hq lq; have Eq := Aside0.mk eq; clear eq; have q0 : wq.cell? ⟨q, 0, none⟩ = some (.int .i64 (p0 : Int)) := (blk_cell hq 0).trans rfl; have q1 : wq.cell? ⟨q, 1, none⟩ = some (.slice Ao n co) := (blk_cell hq 1).trans rfl; have fq0 := blk_frozen hq 0; have fq1 := blk_frozen hq 1) | fail)
  have HB1 := Aside0.mk (HS.out.below lq)
  have HF1 := Aside0.mk (Fr.of (b := b) (O := none) HS.out.base_le lq)
  have HO1 := Aside0.mk (HO.out.below lq)
  have hnn : n ≤ 9223372036854775807 := by have := (Kd.R_reads' HO.out).2.2.2.1; rw [List.length_map] at this; omega
  have HN := Aside0.mk hn
  clear lq hq q0 q1 fq0 fq1 HO HS hn
  go_loopg [12] (n + 1) (fun kq v12 wr => ∃ (i : Nat), v12 = .int .i64 (i : Int) ∧ Aside0 (i + kq = n + 1) ∧ Aside0 (BAt wr base b s (patchB (outs.take i) next S)) ∧ Aside0 (Fr base b none w wr) ∧ Aside0 (OutsAt wr base2 (.slice Ao n co) outs))
  case atStart => exact ⟨0, rfl, ⟨by omega⟩, HB1, HF1, HO1⟩
  case round =>
    obtain ⟨i, rfl, HI, HB, HF, HO⟩ := hrel
    by_cases hi : i < n
    · obtain ⟨k1, rfl⟩ : ∃ k1, gk = k1 + 1 := ⟨gk - 1, by have := HI.out; omega⟩
      have d0 : decide ((i : Int) < (n : Int)) = true := decide_eq_true (by omega)
      have d1 : decide ((0 : Int) ≤ (i : Int)) = true := decide_eq_true (by omega)
      have hio : i < outs.length := by have := HN.out; omega
      obtain ⟨-, -, hC⟩ := Kd.R_reads' HO.out
      obtain ⟨ad, eA, hcells⟩ := hC.2.2 (by simp; omega)
      obtain ⟨cc, _, hk, hcell⟩ := hcells i (outs[i] : Int) (by rw [List.getElem?_map, List.getElem?_eq_getElem hio]; rfl)
      have hcj := hcell 0 (.int .i64 (outs[i] : Int)) (by rw [show cc = [.int .i64 (outs[i] : Int)] from hk]; rfl)
      have hcj2 : World.cell? wr (ad.add i) = some (.int .i64 (outs[i] : Int)) := by simpa [Kd.int, Kd.scalar] using hcj
      have hvo := HV.out outs[i] (List.getElem_mem hio)
      have etk : outs.take (i + 1) = outs.take i ++ [outs[i]] := List.take_succ_eq_append_getElem hio
      have ePL : patchL (outs.take (i + 1)) next S.st = set1 (patchL (outs.take i) next S.st) outs[i] next := by rw [etk, patchL, List.foldl_append]; rfl
      have hlen := patchL_len (outs.take i) next S.st
      obtain ⟨o, hoo⟩ : ∃ o, outs[i] = o := ⟨_, rfl⟩
      rw [hoo] at hcj2 hvo ePL
      obtain ⟨hb1, v, hb2, hR⟩ := HB.out
      change Kd.R kst TS wr base (fun _ => True) v (patchL (outs.take i) next S.st) at hR
      obtain ⟨st, hst⟩ : ∃ st, patchL (outs.take i) next S.st = st := ⟨_, rfl⟩
      rw [hst] at hR ePL hlen
      have hpos : 0 < st.length := by omega
      obtain ⟨g5, c5, e5, -⟩ := Kd.R_form hR hpos
      subst e5
      have x5 : wr.cell? ⟨b, 5, none⟩ = some (.slice (some ⟨g5, 0, none⟩) st.length c5) := (blk_cell hb2 5).trans (by rfl)
      obtain ⟨j, r, hr2, ej⟩ : ∃ j r, r < 2 ∧ o = 2 * j + r := ⟨o / 2, o % 2, by omega, by omega⟩
      have hjl : j < st.length := by omega
      subst eA
      have k1' : (o : Int) / 2 = (j : Int) := by omega
      have k2' : bits .and .i64 (o : Int) 1 = (r : Int) := by rw [i64_and1 o (by omega)]; omega
      have hji : (j : Int) < (st.length : Int) := by omega
      have hj0 : (0 : Int) ≤ (j : Int) := by omega
      have HQ := Aside0.mk (⟨ePL, ej, hjl, hlen⟩ : patchL (outs.take (i + 1)) next S.st = set1 st o next ∧ o = 2 * j + r ∧ ∃ _ : j < st.length, st.length = S.st.length)
      have HR := Aside0.mk hR
      have HB2 := Aside0.mk hb2
      clear hcj hk hcells hC hcell hoo etk hst hR hb2 hvo ePL ej hlen hpos
      rcases (show r = 0 ∨ r = 1 by omega) with rfl | rfl
      · go_wp2_with (first | ((with_reducible refine gate_store (p := 33) rfl ?_); refine Kd.R_store kst (w0 := wr) base rfl rfl 3 (.tmp 33) (.tmp 31) rfl 100 (g := g5) (n := st.length) (cap := c5) (j : Int) 5 st (⟨st[j].k, st[j].m, next, st[j].ot⟩ : Stp) (.int .i64 (next : Int)) [.int .i64 (next : Int)] (stpC st[j]) (fun _ => True) (fun _ => False) rfl ?sB rfl rfl ?sT ?s1 ?sO (Int.natCast_nonneg _) ?sI (kst_cl _) ?sC (kst_le5 _) ?sM (fun _ hk => hk.elim) ?sW ?_; (case sB => exact kst_off j 5); (case sT => kernel_rfl); (case s1 => simp [Value.oneCell']); (case sO => exact HR.out); (case sI => exact hji); (case sC => exact kst_cells (Kd.R_reads' HR.out).2.2 j hjl); (case sM => exact kst_M5 _ _ _ _ _); (case sW => exact Below.refl _ _); intro w6 hR6 hB6 hg6; rw [Int.toNat_natCast] at hR6) | fail)
        have hP := patch_step HB.out HB2.out HR.out hR6 hB6 hg6 (outs.take (i + 1)) next (by rw [HQ.out.1]; exact set1_0 o j next st hjl HQ.out.2.1) rfl
        have HO6 := Aside0.mk (HO.out.fr hP.2 ⟨_, HB2.out⟩ (fun _ _ => by simp))
        have HB6 := Aside0.mk hP.1
        have HF6 := Aside0.mk (HF.out.trans hP.2)
        clear hP hR6 hB6 hg6 x5 hcj2
        go_roundg k1
        case measure => have := HI.out; omega
        case rel => exact ⟨i + 1, by first | rfl | simp, ⟨by have := HI.out; omega⟩, HB6, HF6, HO6⟩
      · go_wp2_with (first | ((with_reducible refine gate_store (p := 29) rfl ?_); refine Kd.R_store kst (w0 := wr) base rfl rfl 3 (.tmp 29) (.tmp 27) rfl 100 (g := g5) (n := st.length) (cap := c5) (j : Int) 6 st (⟨st[j].k, st[j].m, st[j].nx, next⟩ : Stp) (.int .i64 (next : Int)) [.int .i64 (next : Int)] (stpC st[j]) (fun _ => True) (fun _ => False) rfl ?sB rfl rfl ?sT ?s1 ?sO (Int.natCast_nonneg _) ?sI (kst_cl _) ?sC (kst_le6 _) ?sM (fun _ hk => hk.elim) ?sW ?_; (case sB => exact kst_off j 6); (case sT => kernel_rfl); (case s1 => simp [Value.oneCell']); (case sO => exact HR.out); (case sI => exact hji); (case sC => exact kst_cells (Kd.R_reads' HR.out).2.2 j hjl); (case sM => exact kst_M6 _ _ _ _ _); (case sW => exact Below.refl _ _); intro w6 hR6 hB6 hg6; rw [Int.toNat_natCast] at hR6) | fail)
        have hP := patch_step HB.out HB2.out HR.out hR6 hB6 hg6 (outs.take (i + 1)) next (by rw [HQ.out.1]; exact set1_1 o j next st hjl HQ.out.2.1) rfl
        have HO6 := Aside0.mk (HO.out.fr hP.2 ⟨_, HB2.out⟩ (fun _ _ => by simp))
        have HB6 := Aside0.mk hP.1
        have HF6 := Aside0.mk (HF.out.trans hP.2)
        clear hP hR6 hB6 hg6 x5 hcj2
        go_roundg k1
        case measure => have := HI.out; omega
        case rel => exact ⟨i + 1, by first | rfl | simp, ⟨by have := HI.out; omega⟩, HB6, HF6, HO6⟩
    · have d0 : decide ((i : Int) < (n : Int)) = false := decide_eq_false (by omega)
      have hB := HB.out
      rw [List.take_of_length_le (by have := HN.out; omega)] at hB
      have HB7 := Aside0.mk hB
      clear hB
      go_wp2_with (fail)
      (try go_end0)
      exact ⟨rfl, HB7.out, HF.out⟩
end Go.Proofs.Ytnjpdhekeffpnaa.Rx
