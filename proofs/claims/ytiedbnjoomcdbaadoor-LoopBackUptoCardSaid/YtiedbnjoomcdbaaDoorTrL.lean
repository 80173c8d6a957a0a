/- A loop's reader, walked. -/
import Derived.Test.YtiedbnjoomcdbaaDoorTrC
set_option linter.unusedVariables false
set_option linter.unusedSimpArgs false
namespace Go.Proofs.YtiedbnjoomcdbaaDoor.Tr
open Go.RowKit Go.Proofs.YtiedbnjoomcdbaaDoorW.PrintWords Go.Proofs.YtiedbnjoomcdbaaDoorW.PrintLast Go.Proofs.YtiedbnjoomcdbaaDoorW.PrintMore

/-- the loop's own cells -/
structure LA (w : World) (b6 b10 b11 : Nat) (l0 : GL) (vN : Value) (li : ByteArray) (vk : Value) : Prop where
  c6 : w.heap[b6]? = some (.cells #[.string l0.f0, .int .i64 l0.f1, .bool l0.f2] TL (0, 0))
  c10 : w.heap[b10]? = some (.cells #[.int .i64 0, .string ⟨#[]⟩, .int .i64 0, .bool false, .slice none 0 0, .slice none 0 0, .string ⟨#[]⟩, .slice none 0 0] TG (0, 0))
  c11 : w.heap[b11]? = some (.cells #[.int .i64 3, .string l0.f0, .int .i64 l0.f1, .bool l0.f2, .slice none 0 0, vN, .string li, vk] TG (0, 0))
theorem LA.below {w w1 : World} {b6 b10 b11 : Nat} {l0 : GL} {vN vk : Value} {li : ByteArray} (h : LA w b6 b10 b11 l0 vN li vk) (hb : Below w.heap.size w w1) : LA w1 b6 b10 b11 l0 vN li vk :=
  ⟨blk_below h.c6 hb, blk_below h.c10 hb, blk_below h.c11 hb⟩
theorem LA.keep {w w1 : World} {b6 b10 b11 g : Nat} {l0 : GL} {vN vk : Value} {li : ByteArray} (h : LA w b6 b10 b11 l0 vN li vk) (hk : KeepBut w w1 g none) (h6 : b6 ≠ g) (h10 : b10 ≠ g) (h11 : b11 ≠ g) : LA w1 b6 b10 b11 l0 vN li vk :=
  ⟨hk.blk h.c6 h6 (by simp), hk.blk h.c10 h10 (by simp), hk.blk h.c11 h11 (by simp)⟩
theorem LA.set {w : World} {b6 b10 b11 j : Nat} {l0 : GL} {vN vk vN' vk' : Value} {li li' : ByteArray} (u : Value) (h : LA w b6 b10 b11 l0 vN li vk) (h6 : b6 ≠ b11) (h10 : b10 ≠ b11)
    (hj : (w.setCell ⟨b11, j, none⟩ u).heap[b11]? = some (.cells #[.int .i64 3, .string l0.f0, .int .i64 l0.f1, .bool l0.f2, .slice none 0 0, vN', .string li', vk'] TG (0, 0))) : LA (w.setCell ⟨b11, j, none⟩ u) b6 b10 b11 l0 vN' li' vk' :=
  ⟨blk_far h.c6 (p := ⟨b11, j, none⟩) h6 _, blk_far h.c10 (p := ⟨b11, j, none⟩) h10 _, hj⟩
/-- what a reader of a block gives back -/
def NdAt (W w0 : World) (g : Nat) (ls : List GL) (r : Nd × St) (e : Ending) (w' : World) : Prop :=
  ∃ (vB vN vK : Value), e = .returned (.agg #[.int .i64 (ndF r.1).1, .string (ndF r.1).2.1, .int .i64 (ndF r.1).2.2.1, .bool (ndF r.1).2.2.2.1, vB, vN, .string (ndF r.1).2.2.2.2.2.2.1, vK]) ∧
    Kd.R kB TGb w' W.heap.size (fun _ => True) vB (ndF r.1).2.2.2.2.1 ∧ Kd.R Kd.string TStr w' W.heap.size (fun _ => True) vN (ndF r.1).2.2.2.2.2.1 ∧ Kd.R kN TG w' W.heap.size (fun _ => True) vK (ndF r.1).2.2.2.2.2.2.2 ∧ RA w0 w' g ls r.2 ∧ KeepBut W w' g none
set_option maxHeartbeats 8000000 in
set_option maxRecDepth 100000 in
theorem loopW (w0 W : World) (g : Nat) (ls : List GL) (s : St) (l0 : GL) (wd td : ByteArray) (deep : Int) (bl : St → List Nd × St) (hR : RA w0 W g ls s) (hls : LsOk ls) (hi : s.i ≤ ls.length) (hbl : BlkOk w0 ls deep bl) (hfw : Fwd ls bl) (htd : td.size ≤ 1000000) :
    Calls Tryd.prog 42 #[.pointer (some ⟨g, 0, none⟩), .agg #[.string l0.f0, .int .i64 l0.f1, .bool l0.f2], .string wd, .string td, .int .i64 deep] W (NdAt W w0 g ls (lopP ls bl l0 (wd, td) s)) := by
  have hu34 := Tryd.underlying34
  have hu38 := Tryd.underlying38
  have hu56 := Tryd.underlying56
  have HR := Aside0.mk hR
  have HLS := Aside0.mk hls
  have HBL := Aside0.mk hbl
  have HFW := Aside0.mk hfw
  have HI := Aside0.mk hi
  have HG0 := Aside0.mk (And.intro hR.lt (And.intro hR.ge hR.bel.size))
  obtain ⟨kf, hkf⟩ := forW td htd
  have HKF := Aside0.mk (hkf kf (Nat.le_refl _))
  clear hR hls hbl hfw hi hkf htd
  obtain ⟨R, hRR⟩ : ∃ R, lopP ls bl l0 (wd, td) s = R := ⟨_, rfl⟩
  rw [hRR]
  have HRR := Aside0.mk hRR
  clear hRR
  obtain ⟨⟨names, li, okf⟩, hf⟩ : ∃ x, forP td = x := ⟨_, rfl⟩
  rw [hf] at HKF
  have HF := Aside0.mk hf
  clear hf
  go_enter Tryd.func42, Tryd.ntmps42
  go_wp2_with (first
    | (((with_reducible refine gate_dst (N := 6) rfl ?_); (try (refine gate_guard (by rfl) ?_; dsimp only)); refine box_event ?hg (N := 6) ?hd (cs := #[.string l0.f0, .int .i64 l0.f1, .bool l0.f2]) (t := TL) ?hr ?_; (case hd => rfl); (case hg => rfl); (case hr => first | (go_simp; done) | (go_simp; rfl)); intro b6 eb6 wb6 hb6 lb6; have Eb6 := Aside0.mk eb6; clear eb6); have i0 : wb6.cell? ⟨b6, 0, none⟩ = some (.string l0.f0) := (blk_cell hb6 0).trans rfl; have i1 : wb6.cell? ⟨b6, 1, none⟩ = some (.int .i64 l0.f1) := (blk_cell hb6 1).trans rfl; have i2 : wb6.cell? ⟨b6, 2, none⟩ = some (.bool l0.f2) := (blk_cell hb6 2).trans rfl)
    | (((with_reducible refine gate_dst (N := 10) rfl ?_); (try (refine gate_guard (by rfl) ?_; dsimp only)); refine box_event ?hg (N := 10) ?hd (cs := #[.int .i64 0, .string ⟨#[]⟩, .int .i64 0, .bool false, .slice none 0 0, .slice none 0 0, .string ⟨#[]⟩, .slice none 0 0]) (t := TG) ?hr ?_; (case hd => rfl); (case hg => rfl); (case hr => first | (go_simp; done) | (go_simp; rfl)); intro b10 eb10 wb10 hb10 lb10; have Eb10 := Aside0.mk eb10; clear eb10); have hb6' := blk_below hb6 lb10; have j0 : wb10.cell? ⟨b6, 0, none⟩ = some (.string l0.f0) := (blk_cell hb6' 0).trans rfl; have j1 : wb10.cell? ⟨b6, 1, none⟩ = some (.int .i64 l0.f1) := (blk_cell hb6' 1).trans rfl; have j2 : wb10.cell? ⟨b6, 2, none⟩ = some (.bool l0.f2) := (blk_cell hb6' 2).trans rfl; have Hb6 := Aside0.mk (blk_lt hb6); clear i0 i1 i2 hb6))
  obtain ⟨b11, hb11⟩ : ∃ b, wb10.heap.size = b := ⟨_, rfl⟩
  obtain ⟨WL, hq⟩ : ∃ WL, wb10.alloc (Obj.cells #[.int .i64 3, .string l0.f0, .int .i64 l0.f1, .bool l0.f2, .slice none 0 0, .slice none 0 0, .string ⟨#[]⟩, .slice none 0 0] TG) = WL := ⟨_, rfl⟩
  have hbW := below_then lb6 lb6.size lb10
  have hbL := below_alloc (Below.refl wb10.heap.size wb10) (Obj.cells #[.int .i64 3, .string l0.f0, .int .i64 l0.f1, .bool l0.f2, .slice none 0 0, .slice none 0 0, .string ⟨#[]⟩, .slice none 0 0] TG)
  have h11 := heap_alloc_new wb10 (Obj.cells #[.int .i64 3, .string l0.f0, .int .i64 l0.f1, .bool l0.f2, .slice none 0 0, .slice none 0 0, .string ⟨#[]⟩, .slice none 0 0] TG)
  rw [hq] at hbL h11
  rw [hb11] at h11
  simp only [hb11]
  rw [hq]
  have HCA := Aside0.mk (show LA WL b6 b10 b11 l0 (.slice none 0 0) ⟨#[]⟩ (.slice none 0 0) from ⟨blk_below hb6' hbL, blk_below hb10 hbL, h11⟩)
  have hbWL := below_then hbW hbW.size hbL
  have HRL := Aside0.mk (HR.out.below hbWL)
  have HKL := Aside0.mk (KeepBut.of_below hbWL g none)
  have n6 : W.heap.size ≤ b6 := by have := Eb6.out; omega
  have n10 : b6 < b10 := by have h1 := Eb10.out; have h2 := lb6.size; have h3 := Eb6.out; have h4 := Hb6.out; omega
  have n11 : b10 < b11 := by have := blk_lt hb10; omega
  have nB : b11 < WL.heap.size := blk_lt h11
  have ng := HG0.out.1
  have n0 := HG0.out.2.1
  have n00 := HG0.out.2.2
  clear hq hbW hbL h11 hbWL hb11 j0 j1 j2 hb6' hb10
  refine (PT.loop_loopText.calls kf td names li okf WL HKF.out).mono ?_
  rintro e w12 ⟨vN, rfl, hRN, hl12⟩
  obtain ⟨An, cn, eN⟩ := Kd.R_slice hRN
  obtain ⟨kn, hkn⟩ : ∃ k, names.length = k := ⟨_, rfl⟩
  rw [hkn] at eN
  subst eN
  have HC12 := Aside0.mk (HCA.out.below hl12)
  have HA12 := Aside0.mk (HRL.out.below hl12)
  have HK12 := Aside0.mk (keep_below HKL.out hl12)
  have HS12 := Aside0.mk hl12.size
  have y5 : w12.cell? ⟨b11, 5, none⟩ = some (.slice none 0 0) := (blk_cell HC12.out.c11 5).trans rfl
  have y6 : w12.cell? ⟨b11, 6, none⟩ = some (.string ⟨#[]⟩) := (blk_cell HC12.out.c11 6).trans rfl
  have u5 := blk_frozen HC12.out.c11 5
  have u6 := blk_frozen HC12.out.c11 6
  clear hkn HCA HRL HKL hl12
  obtain ⟨B, hB⟩ : ∃ B, WL.heap.size = B := ⟨_, rfl⟩
  rw [hB] at hRN nB HS12
  have HRN := Aside0.mk hRN
  clear hRN hB
  obtain ⟨wS, hwS⟩ : ∃ wS, (w12.setCell ⟨b11, 5, none⟩ (.slice An kn cn)).setCell ⟨b11, 6, none⟩ (.string li) = wS := ⟨_, rfl⟩
  have HCS := Aside0.mk (show LA wS b6 b10 b11 l0 (.slice An kn cn) li (.slice none 0 0) by
    rw [← hwS]
    have h5 : LA (w12.setCell ⟨b11, 5, none⟩ (.slice An kn cn)) b6 b10 b11 l0 (.slice An kn cn) ⟨#[]⟩ (.slice none 0 0) := HC12.out.set _ (by omega) (by omega) (by simpa using blk_set HC12.out.c11 5 (.slice An kn cn))
    exact h5.set _ (by omega) (by omega) (by simpa using blk_set h5.c11 6 (.string li)))
  have HAS := Aside0.mk (show RA w0 wS g ls s by rw [← hwS]; exact (HA12.out.far (by omega) (by omega) _).far (by omega) (by omega) _)
  have HKS := Aside0.mk (show KeepBut W wS g none by rw [← hwS]; exact keep_set (keep_set HK12.out (.inr (by omega)) _) (.inr (by omega)) _)
  have HNS := Aside0.mk (show Kd.R Kd.string TStr wS B (fun _ => True) (.slice An kn cn) names by rw [← hwS]; exact rows_far (rows_far HRN.out nB) nB)
  have HSS := Aside0.mk (show B ≤ wS.heap.size by rw [← hwS]; simpa using HS12.out)
  have i1 : wS.cell? ⟨b6, 1, none⟩ = some (.int .i64 l0.f1) := (blk_cell HCS.out.c6 1).trans rfl
  clear HC12 HA12 HK12 HS12 HRN
  cases okf with
  | false =>
    go_wp2_with (fail)
    refine (wrongW w0 wS g ls s 3 l0.f1 HAS.out).mono ?_
    rintro e w10 ⟨rfl, hR10, hK10⟩
    have HC10 := Aside0.mk (HCS.out.keep hK10 (by omega) (by omega) (by omega))
    have HN10 := Aside0.mk (rows_keep HNS.out hK10 (by omega))
    have HA10 := Aside0.mk hR10
    have HK10 := Aside0.mk (HKS.out.trans hK10 (.inl rfl))
    clear hR10 hK10 i1
    have e0 := (blk_cell HC10.out.c11 0).trans rfl; have e1 := (blk_cell HC10.out.c11 1).trans rfl; have e2 := (blk_cell HC10.out.c11 2).trans rfl; have e3 := (blk_cell HC10.out.c11 3).trans rfl; have e4 := (blk_cell HC10.out.c11 4).trans rfl; have e5 := (blk_cell HC10.out.c11 5).trans rfl; have e6 := (blk_cell HC10.out.c11 6).trans rfl; have e7 := (blk_cell HC10.out.c11 7).trans rfl
    have f0 := (blk_cell HC10.out.c10 0).trans rfl; have f1 := (blk_cell HC10.out.c10 1).trans rfl; have f2 := (blk_cell HC10.out.c10 2).trans rfl; have f3 := (blk_cell HC10.out.c10 3).trans rfl; have f4 := (blk_cell HC10.out.c10 4).trans rfl; have f5 := (blk_cell HC10.out.c10 5).trans rfl; have f6 := (blk_cell HC10.out.c10 6).trans rfl; have f7 := (blk_cell HC10.out.c10 7).trans rfl
    have h0 := blk_frozen HC10.out.c10 0; have h1 := blk_frozen HC10.out.c10 1; have h2 := blk_frozen HC10.out.c10 2; have h3 := blk_frozen HC10.out.c10 3; have h4 := blk_frozen HC10.out.c10 4; have h5 := blk_frozen HC10.out.c10 5; have h6 := blk_frozen HC10.out.c10 6; have h7 := blk_frozen HC10.out.c10 7
    go_wp2_with (fail)
    have p10 := set8 (.int .i64 3) (.string l0.f0) (.int .i64 l0.f1) (.bool l0.f2) (.slice none 0 0) (.slice An kn cn) (.string li) (.slice none 0 0) HC10.out.c10
    have k10 := set8_keep (w10) b10 (.int .i64 3) (.string l0.f0) (.int .i64 l0.f1) (.bool l0.f2) (.slice none 0 0) (.slice An kn cn) (.string li) (.slice none 0 0)
    have b10' := set8_below (w10) b10 w0.heap.size (by omega) (.int .i64 3) (.string l0.f0) (.int .i64 l0.f1) (.bool l0.f2) (.slice none 0 0) (.slice An kn cn) (.string li) (.slice none 0 0)
    obtain ⟨w9, hw9⟩ : ∃ w9, (((((((((w10).setCell ⟨b10, 0, none⟩ (.int .i64 3)).setCell ⟨b10, 1, none⟩ (.string l0.f0)).setCell ⟨b10, 2, none⟩ (.int .i64 l0.f1)).setCell ⟨b10, 3, none⟩ (.bool l0.f2)).setCell ⟨b10, 4, none⟩ (.slice none 0 0)).setCell ⟨b10, 5, none⟩ (.slice An kn cn)).setCell ⟨b10, 6, none⟩ (.string li)).setCell ⟨b10, 7, none⟩ (.slice none 0 0)) = w9 := ⟨_, rfl⟩
    rw [hw9] at p10 k10 b10' ⊢
    have r0 := (blk_cell p10 0).trans rfl; have r1 := (blk_cell p10 1).trans rfl; have r2 := (blk_cell p10 2).trans rfl; have r3 := (blk_cell p10 3).trans rfl; have r4 := (blk_cell p10 4).trans rfl; have r5 := (blk_cell p10 5).trans rfl; have r6 := (blk_cell p10 6).trans rfl; have r7 := (blk_cell p10 7).trans rfl
    (try simp only [Exit.inBlock, Exit.then])
    refine bodyPost_ret (by simp [results, Tryd.results42, go_sem, r0, r1, r2, r3, r4, r5, r6, r7]; try rfl) rfl ?_
    have hRf := HRR.out
    unfold lopP at hRf
    rw [HF.out, if_neg (by simp)] at hRf
    rw [← hRf]
    exact ⟨_, _, _, rfl, Kd.R_nil _ _ _ _ _, Kd.R_lower (rows_keep (HN10.out) k10 (by omega)) (by omega), Kd.R_nil _ _ _ _ _, (HA10.out).own k10 (by omega) b10', keep_own (HK10.out) k10 (by omega)⟩
  | true =>
    have ihB := HBL.out wS g s HAS.out HI.out
    have hFw := HFW.out s HI.out
    obtain ⟨X, hX⟩ : ∃ x, bl s = x := ⟨_, rfl⟩
    have HX := Aside0.mk hX
    rw [hX] at ihB hFw
    obtain ⟨kids, s1⟩ := X
    dsimp only at ihB hFw
    have HS1 := Aside0.mk hFw
    clear hX hFw i1
    go_wp2_with (fail)
    refine ihB.mono ?_
    rintro e wA ⟨vk, rfl, hRk, hRA, hKA⟩
    obtain ⟨Ak, ck, ek⟩ := Kd.R_slice hRk
    obtain ⟨kk, hkk⟩ : ∃ k, kids.length = k := ⟨_, rfl⟩
    rw [hkk] at ek
    subst ek
    have HC1 := Aside0.mk (HCS.out.keep hKA (by omega) (by omega) (by omega))
    have HN1 := Aside0.mk (rows_keep HNS.out hKA (by omega))
    have HK1 := Aside0.mk (HKS.out.trans hKA (.inl rfl))
    have HRk := Aside0.mk hRk
    have HA1 := Aside0.mk hRA
    have HSA := Aside0.mk hKA.1
    have y7 : wA.cell? ⟨b11, 7, none⟩ = some (.slice none 0 0) := (blk_cell HC1.out.c11 7).trans rfl
    have u7 := blk_frozen HC1.out.c11 7
    clear hRk hRA hKA ihB hkk HCS HNS HKS HAS
    obtain ⟨w7, hw7⟩ : ∃ w7, wA.setCell ⟨b11, 7, none⟩ (.slice Ak kk ck) = w7 := ⟨_, rfl⟩
    have HC7 := Aside0.mk (show LA w7 b6 b10 b11 l0 (.slice An kn cn) li (.slice Ak kk ck) by
      rw [← hw7]
      exact HC1.out.set _ (by omega) (by omega) (by simpa using blk_set HC1.out.c11 7 (.slice Ak kk ck)))
    have HN7 := Aside0.mk (show Kd.R Kd.string TStr w7 B (fun _ => True) (.slice An kn cn) names by rw [← hw7]; exact rows_far HN1.out nB)
    have HQ7 := Aside0.mk (show Kd.R kN TG w7 B (fun _ => True) (.slice Ak kk ck) kids by rw [← hw7]; exact Kd.R_lower (rows_far HRk.out (by have := HSS.out; omega)) HSS.out)
    have HA7 := Aside0.mk (show RA w0 w7 g ls s1 by rw [← hw7]; exact HA1.out.far (by omega) (by omega) _)
    have HK7 := Aside0.mk (show KeepBut W w7 g none by rw [← hw7]; exact keep_set HK1.out (.inr (by omega)) _)
    have i0 : w7.cell? ⟨b6, 0, none⟩ = some (.string l0.f0) := (blk_cell HC7.out.c6 0).trans rfl
    have i1 : w7.cell? ⟨b6, 1, none⟩ = some (.int .i64 l0.f1) := (blk_cell HC7.out.c6 1).trans rfl
    have i2 : w7.cell? ⟨b6, 2, none⟩ = some (.bool l0.f2) := (blk_cell HC7.out.c6 2).trans rfl
    clear HC1 HN1 HRk HA1 HK1
    go_wp2_with (fail)
    refine (closingW w0 w7 g ls s1 l0 HA7.out HLS.out HS1.out.2).mono ?_
    rintro e w8 ⟨rfl, hR8, hK8⟩
    obtain ⟨X, hX⟩ : ∃ X, cloP ls l0 s1 = X := ⟨_, rfl⟩
    have HCX := Aside0.mk hX
    rw [hX] at hR8 ⊢
    clear hX
    obtain ⟨cl, cw, ct, cok, cs⟩ := X
    dsimp only at hR8 ⊢
    have hbA := below_alloc (Below.refl w8.heap.size w8) (Obj.cells #[.string cl.f0, .int .i64 cl.f1, .bool cl.f2] TL)
    have hb13 := heap_alloc_new w8 (Obj.cells #[.string cl.f0, .int .i64 cl.f1, .bool cl.f2] TL)
    have HC8 := Aside0.mk ((HC7.out.keep hK8 (by omega) (by omega) (by omega)).below hbA)
    have HN8 := Aside0.mk (Kd.R_below (rows_keep HN7.out hK8 (by omega)) hbA)
    have HQ8 := Aside0.mk (Kd.R_below (rows_keep HQ7.out hK8 (by omega)) hbA)
    have HA8 := Aside0.mk (hR8.below hbA)
    have HK8 := Aside0.mk (keep_below (HK7.out.trans hK8 (.inl rfl)) hbA)
    have s1' : (w8.alloc (Obj.cells #[.string cl.f0, .int .i64 cl.f1, .bool cl.f2] TL)).cell? ⟨w8.heap.size, 1, none⟩ = some (.int .i64 cl.f1) := (blk_cell hb13 1).trans rfl
    clear HC7 HN7 HQ7 HA7 HK7 hR8 hK8 hb13 hbA i0 i1 i2 hw7 y7 u7
    have e0 := (blk_cell HC8.out.c11 0).trans rfl; have e1 := (blk_cell HC8.out.c11 1).trans rfl; have e2 := (blk_cell HC8.out.c11 2).trans rfl; have e3 := (blk_cell HC8.out.c11 3).trans rfl; have e4 := (blk_cell HC8.out.c11 4).trans rfl; have e5 := (blk_cell HC8.out.c11 5).trans rfl; have e6 := (blk_cell HC8.out.c11 6).trans rfl; have e7 := (blk_cell HC8.out.c11 7).trans rfl
    have f0 := (blk_cell HC8.out.c10 0).trans rfl; have f1 := (blk_cell HC8.out.c10 1).trans rfl; have f2 := (blk_cell HC8.out.c10 2).trans rfl; have f3 := (blk_cell HC8.out.c10 3).trans rfl; have f4 := (blk_cell HC8.out.c10 4).trans rfl; have f5 := (blk_cell HC8.out.c10 5).trans rfl; have f6 := (blk_cell HC8.out.c10 6).trans rfl; have f7 := (blk_cell HC8.out.c10 7).trans rfl
    have h0 := blk_frozen HC8.out.c10 0; have h1 := blk_frozen HC8.out.c10 1; have h2 := blk_frozen HC8.out.c10 2; have h3 := blk_frozen HC8.out.c10 3; have h4 := blk_frozen HC8.out.c10 4; have h5 := blk_frozen HC8.out.c10 5; have h6 := blk_frozen HC8.out.c10 6; have h7 := blk_frozen HC8.out.c10 7
    cases cok with
    | false =>
      go_wp2_with (fail)
      have p10 := set8 (.int .i64 3) (.string l0.f0) (.int .i64 l0.f1) (.bool l0.f2) (.slice none 0 0) (.slice An kn cn) (.string li) (.slice Ak kk ck) HC8.out.c10
      have k10 := set8_keep (w8.alloc (Obj.cells #[.string cl.f0, .int .i64 cl.f1, .bool cl.f2] TL)) b10 (.int .i64 3) (.string l0.f0) (.int .i64 l0.f1) (.bool l0.f2) (.slice none 0 0) (.slice An kn cn) (.string li) (.slice Ak kk ck)
      have b10' := set8_below (w8.alloc (Obj.cells #[.string cl.f0, .int .i64 cl.f1, .bool cl.f2] TL)) b10 w0.heap.size (by omega) (.int .i64 3) (.string l0.f0) (.int .i64 l0.f1) (.bool l0.f2) (.slice none 0 0) (.slice An kn cn) (.string li) (.slice Ak kk ck)
      obtain ⟨w9, hw9⟩ : ∃ w9, (((((((((w8.alloc (Obj.cells #[.string cl.f0, .int .i64 cl.f1, .bool cl.f2] TL)).setCell ⟨b10, 0, none⟩ (.int .i64 3)).setCell ⟨b10, 1, none⟩ (.string l0.f0)).setCell ⟨b10, 2, none⟩ (.int .i64 l0.f1)).setCell ⟨b10, 3, none⟩ (.bool l0.f2)).setCell ⟨b10, 4, none⟩ (.slice none 0 0)).setCell ⟨b10, 5, none⟩ (.slice An kn cn)).setCell ⟨b10, 6, none⟩ (.string li)).setCell ⟨b10, 7, none⟩ (.slice Ak kk ck)) = w9 := ⟨_, rfl⟩
      rw [hw9] at p10 k10 b10' ⊢
      have r0 := (blk_cell p10 0).trans rfl; have r1 := (blk_cell p10 1).trans rfl; have r2 := (blk_cell p10 2).trans rfl; have r3 := (blk_cell p10 3).trans rfl; have r4 := (blk_cell p10 4).trans rfl; have r5 := (blk_cell p10 5).trans rfl; have r6 := (blk_cell p10 6).trans rfl; have r7 := (blk_cell p10 7).trans rfl
      (try simp only [Exit.inBlock, Exit.then])
      refine bodyPost_ret (by simp [results, Tryd.results42, go_sem, r0, r1, r2, r3, r4, r5, r6, r7]; try rfl) rfl ?_
      have hRf := HRR.out
      unfold lopP at hRf
      rw [HF.out, if_pos (by simp), HX.out, HCX.out, if_neg (by simp)] at hRf
      rw [← hRf]
      exact ⟨_, _, _, rfl, Kd.R_nil _ _ _ _ _, Kd.R_lower (rows_keep (HN8.out) k10 (by omega)) (by omega), Kd.R_lower (rows_keep (HQ8.out) k10 (by omega)) (by omega), (HA8.out).own k10 (by omega) b10', keep_own (HK8.out) k10 (by omega)⟩
    | true =>
      by_cases hw1 : cw = wEndfor
      · subst hw1
        unfold wEndfor at *
        go_wp2_with (fail)
        have p10 := set8 (.int .i64 3) (.string l0.f0) (.int .i64 l0.f1) (.bool l0.f2) (.slice none 0 0) (.slice An kn cn) (.string li) (.slice Ak kk ck) HC8.out.c10
        have k10 := set8_keep (w8.alloc (Obj.cells #[.string cl.f0, .int .i64 cl.f1, .bool cl.f2] TL)) b10 (.int .i64 3) (.string l0.f0) (.int .i64 l0.f1) (.bool l0.f2) (.slice none 0 0) (.slice An kn cn) (.string li) (.slice Ak kk ck)
        have b10' := set8_below (w8.alloc (Obj.cells #[.string cl.f0, .int .i64 cl.f1, .bool cl.f2] TL)) b10 w0.heap.size (by omega) (.int .i64 3) (.string l0.f0) (.int .i64 l0.f1) (.bool l0.f2) (.slice none 0 0) (.slice An kn cn) (.string li) (.slice Ak kk ck)
        obtain ⟨w9, hw9⟩ : ∃ w9, (((((((((w8.alloc (Obj.cells #[.string cl.f0, .int .i64 cl.f1, .bool cl.f2] TL)).setCell ⟨b10, 0, none⟩ (.int .i64 3)).setCell ⟨b10, 1, none⟩ (.string l0.f0)).setCell ⟨b10, 2, none⟩ (.int .i64 l0.f1)).setCell ⟨b10, 3, none⟩ (.bool l0.f2)).setCell ⟨b10, 4, none⟩ (.slice none 0 0)).setCell ⟨b10, 5, none⟩ (.slice An kn cn)).setCell ⟨b10, 6, none⟩ (.string li)).setCell ⟨b10, 7, none⟩ (.slice Ak kk ck)) = w9 := ⟨_, rfl⟩
        rw [hw9] at p10 k10 b10' ⊢
        have r0 := (blk_cell p10 0).trans rfl; have r1 := (blk_cell p10 1).trans rfl; have r2 := (blk_cell p10 2).trans rfl; have r3 := (blk_cell p10 3).trans rfl; have r4 := (blk_cell p10 4).trans rfl; have r5 := (blk_cell p10 5).trans rfl; have r6 := (blk_cell p10 6).trans rfl; have r7 := (blk_cell p10 7).trans rfl
        (try simp only [Exit.inBlock, Exit.then])
        refine bodyPost_ret (by simp [results, Tryd.results42, go_sem, r0, r1, r2, r3, r4, r5, r6, r7]; try rfl) rfl ?_
        have hRf := HRR.out
        unfold lopP at hRf
        rw [HF.out, if_pos (by simp), HX.out, HCX.out, if_neg (by simp [wEndfor])] at hRf
        rw [← hRf]
        exact ⟨_, _, _, rfl, Kd.R_nil _ _ _ _ _, Kd.R_lower (rows_keep (HN8.out) k10 (by omega)) (by omega), Kd.R_lower (rows_keep (HQ8.out) k10 (by omega)) (by omega), (HA8.out).own k10 (by omega) b10', keep_own (HK8.out) k10 (by omega)⟩
      · have s1a := neq_l (l := [101, 110, 100, 102, 111, 114]) hw1; have s1b : ((cw).toList == ([101, 110, 100, 102, 111, 114] : List UInt8)) = false := (by simpa using s1a); have s1c : decide ((cw).toList = ([101, 110, 100, 102, 111, 114] : List UInt8)) = false := decide_eq_false s1a
        go_wp2_with (fail)
        refine (wrongW w0 _ g ls cs 3 cl.f1 HA8.out).mono ?_
        rintro e w10 ⟨rfl, hR10, hK10⟩
        have HC10 := Aside0.mk (HC8.out.keep hK10 (by omega) (by omega) (by omega))
        have HN10 := Aside0.mk (rows_keep HN8.out hK10 (by omega))
        have HQ10 := Aside0.mk (rows_keep HQ8.out hK10 (by omega))
        have HA10 := Aside0.mk hR10
        have HK10 := Aside0.mk (HK8.out.trans hK10 (.inl rfl))
        clear hR10 hK10 HC8 HN8 HQ8 HA8 HK8 e0 e1 e2 e3 e4 e5 e6 e7 f0 f1 f2 f3 f4 f5 f6 f7 h0 h1 h2 h3 h4 h5 h6 h7
        have e0 := (blk_cell HC10.out.c11 0).trans rfl; have e1 := (blk_cell HC10.out.c11 1).trans rfl; have e2 := (blk_cell HC10.out.c11 2).trans rfl; have e3 := (blk_cell HC10.out.c11 3).trans rfl; have e4 := (blk_cell HC10.out.c11 4).trans rfl; have e5 := (blk_cell HC10.out.c11 5).trans rfl; have e6 := (blk_cell HC10.out.c11 6).trans rfl; have e7 := (blk_cell HC10.out.c11 7).trans rfl
        have f0 := (blk_cell HC10.out.c10 0).trans rfl; have f1 := (blk_cell HC10.out.c10 1).trans rfl; have f2 := (blk_cell HC10.out.c10 2).trans rfl; have f3 := (blk_cell HC10.out.c10 3).trans rfl; have f4 := (blk_cell HC10.out.c10 4).trans rfl; have f5 := (blk_cell HC10.out.c10 5).trans rfl; have f6 := (blk_cell HC10.out.c10 6).trans rfl; have f7 := (blk_cell HC10.out.c10 7).trans rfl
        have h0 := blk_frozen HC10.out.c10 0; have h1 := blk_frozen HC10.out.c10 1; have h2 := blk_frozen HC10.out.c10 2; have h3 := blk_frozen HC10.out.c10 3; have h4 := blk_frozen HC10.out.c10 4; have h5 := blk_frozen HC10.out.c10 5; have h6 := blk_frozen HC10.out.c10 6; have h7 := blk_frozen HC10.out.c10 7
        go_wp2_with (fail)
        have p10 := set8 (.int .i64 3) (.string l0.f0) (.int .i64 l0.f1) (.bool l0.f2) (.slice none 0 0) (.slice An kn cn) (.string li) (.slice Ak kk ck) HC10.out.c10
        have k10 := set8_keep (w10) b10 (.int .i64 3) (.string l0.f0) (.int .i64 l0.f1) (.bool l0.f2) (.slice none 0 0) (.slice An kn cn) (.string li) (.slice Ak kk ck)
        have b10' := set8_below (w10) b10 w0.heap.size (by omega) (.int .i64 3) (.string l0.f0) (.int .i64 l0.f1) (.bool l0.f2) (.slice none 0 0) (.slice An kn cn) (.string li) (.slice Ak kk ck)
        obtain ⟨w9, hw9⟩ : ∃ w9, (((((((((w10).setCell ⟨b10, 0, none⟩ (.int .i64 3)).setCell ⟨b10, 1, none⟩ (.string l0.f0)).setCell ⟨b10, 2, none⟩ (.int .i64 l0.f1)).setCell ⟨b10, 3, none⟩ (.bool l0.f2)).setCell ⟨b10, 4, none⟩ (.slice none 0 0)).setCell ⟨b10, 5, none⟩ (.slice An kn cn)).setCell ⟨b10, 6, none⟩ (.string li)).setCell ⟨b10, 7, none⟩ (.slice Ak kk ck)) = w9 := ⟨_, rfl⟩
        rw [hw9] at p10 k10 b10' ⊢
        have r0 := (blk_cell p10 0).trans rfl; have r1 := (blk_cell p10 1).trans rfl; have r2 := (blk_cell p10 2).trans rfl; have r3 := (blk_cell p10 3).trans rfl; have r4 := (blk_cell p10 4).trans rfl; have r5 := (blk_cell p10 5).trans rfl; have r6 := (blk_cell p10 6).trans rfl; have r7 := (blk_cell p10 7).trans rfl
        (try simp only [Exit.inBlock, Exit.then])
        refine bodyPost_ret (by simp [results, Tryd.results42, go_sem, r0, r1, r2, r3, r4, r5, r6, r7]; try rfl) rfl ?_
        have hRf := HRR.out
        unfold lopP at hRf
        rw [HF.out, if_pos (by simp), HX.out, HCX.out, if_pos (by simp [hw1])] at hRf
        rw [← hRf]
        exact ⟨_, _, _, rfl, Kd.R_nil _ _ _ _ _, Kd.R_lower (rows_keep (HN10.out) k10 (by omega)) (by omega), Kd.R_lower (rows_keep (HQ10.out) k10 (by omega)) (by omega), (HA10.out).own k10 (by omega) b10', keep_own (HK10.out) k10 (by omega)⟩
end Go.Proofs.YtiedbnjoomcdbaaDoor.Tr
