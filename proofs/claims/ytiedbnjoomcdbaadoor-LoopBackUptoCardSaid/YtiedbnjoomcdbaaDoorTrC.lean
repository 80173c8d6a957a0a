/- A condition's reader, walked. -/
import Derived.Test.YtiedbnjoomcdbaaDoorTrW
set_option linter.unusedVariables false
set_option linter.unusedSimpArgs false
namespace Go.Proofs.YtiedbnjoomcdbaaDoor.Tr
open Go.RowKit Go.Proofs.YtiedbnjoomcdbaaDoorW.PrintWords Go.Proofs.YtiedbnjoomcdbaaDoorW.PrintLast Go.Proofs.YtiedbnjoomcdbaaDoorW.PrintMore

theorem rows_keep {α : Type} {d : Kd α} {e base g : Nat} {ok : Nat → Prop} {w w1 : World} {v : Value} {xs : List α} (h : d.R e w base ok v xs) (hk : KeepBut w w1 g none) (hg : g < base) : d.R e w1 base ok v xs :=
  Kd.R_mono (Kd.R_step (Kd.R_bound h) (fun k hk2 hlt => hk.2 k hlt (by have := hk2.2.1; omega) (by simp))) (fun _ hk2 => hk2.1)
theorem rows_far {α : Type} {d : Kd α} {e base b j : Nat} {ok : Nat → Prop} {w : World} {v u : Value} {xs : List α} (h : d.R e w base ok v xs) (hb : b < base) : d.R e (w.setCell ⟨b, j, none⟩ u) base ok v xs :=
  Kd.R_mono (Kd.R_step (Kd.R_bound h) (fun k hk2 _ => Below.heap_setCell w ⟨b, j, none⟩ u k (by have := hk2.2.1; show k ≠ b; omega))) (fun _ hk2 => hk2.1)
/-- what reads the blocks inside -/
def BlkOk (w0 : World) (ls : List GL) (deep : Int) (bl : St → List Nd × St) : Prop :=
  ∀ (w : World) (g : Nat) (s : St), RA w0 w g ls s → s.i ≤ ls.length → Calls Tryd.prog 27 #[.pointer (some ⟨g, 0, none⟩), .int .i64 deep] w fun e w' =>
    ∃ v, e = .returned v ∧ Kd.R kN TG w' w.heap.size (fun _ => True) v (bl s).1 ∧ RA w0 w' g ls (bl s).2 ∧ KeepBut w w' g none
theorem infoB : (Tryd.prog.info? 73).map (fun i => (i.zero, i.size, i.bytes)) = some (some (.agg #[.string ⟨#[]⟩, .string ⟨#[]⟩, .int .i64 0, .slice none 0 0]), 4, 64) := by kernel_rfl
theorem infoG : (Tryd.prog.info? 56).map (fun i => (i.zero, i.size, i.bytes)) = some (some (.agg #[.int .i64 0, .string ⟨#[]⟩, .int .i64 0, .bool false, .slice none 0 0, .slice none 0 0, .string ⟨#[]⟩, .slice none 0 0]), 8, 128) := by kernel_rfl
/-- the condition's own cells -/
structure CA (w : World) (b6 b10 b11 b12 : Nat) (l0 : GL) (v : Value) (wd td : ByteArray) (ad : Int) (vk : Value) : Prop where
  c6 : w.heap[b6]? = some (.cells #[.string l0.f0, .int .i64 l0.f1, .bool l0.f2] TL (0, 0))
  c10 : w.heap[b10]? = some (.cells #[.int .i64 0, .string ⟨#[]⟩, .int .i64 0, .bool false, .slice none 0 0, .slice none 0 0, .string ⟨#[]⟩, .slice none 0 0] TG (0, 0))
  c11 : w.heap[b11]? = some (.cells #[.int .i64 2, .string l0.f0, .int .i64 l0.f1, .bool l0.f2, v, .slice none 0 0, .string ⟨#[]⟩, .slice none 0 0] TG (0, 0))
  c12 : w.heap[b12]? = some (.cells #[.string wd, .string td, .int .i64 ad, vk] TGb (0, 0))
theorem CA.below {w w1 : World} {b6 b10 b11 b12 : Nat} {l0 : GL} {v : Value} {wd td : ByteArray} {ad : Int} {vk : Value} (h : CA w b6 b10 b11 b12 l0 v wd td ad vk) (hb : Below w.heap.size w w1) : CA w1 b6 b10 b11 b12 l0 v wd td ad vk :=
  ⟨blk_below h.c6 hb, blk_below h.c10 hb, blk_below h.c11 hb, blk_below h.c12 hb⟩
theorem CA.keep {w w1 : World} {b6 b10 b11 b12 g : Nat} {l0 : GL} {v : Value} {wd td : ByteArray} {ad : Int} {vk : Value} (h : CA w b6 b10 b11 b12 l0 v wd td ad vk) (hk : KeepBut w w1 g none) (h6 : b6 ≠ g) (h10 : b10 ≠ g) (h11 : b11 ≠ g) (h12 : b12 ≠ g) : CA w1 b6 b10 b11 b12 l0 v wd td ad vk :=
  ⟨hk.blk h.c6 h6 (by simp), hk.blk h.c10 h10 (by simp), hk.blk h.c11 h11 (by simp), hk.blk h.c12 h12 (by simp)⟩
/-- where the blocks lie -/
structure Lay (W w0 : World) (g b6 b10 b11 b12 B : Nat) : Prop where
  g0 : w0.heap.size ≤ g
  gW : g < W.heap.size
  h0 : w0.heap.size ≤ W.heap.size
  h6 : W.heap.size ≤ b6
  h10 : b6 < b10
  h11 : b10 < b11
  h12 : b11 < b12
  hB : b12 < B
theorem keep_own {W w w1 : World} {g b : Nat} (h : KeepBut W w g none) (k : KeepBut w w1 b none) (hb : W.heap.size ≤ b) : KeepBut W w1 g none :=
  ⟨Nat.le_trans h.1 k.1, fun i hi hg hr => (k.2 i (Nat.lt_of_lt_of_le hi h.1) (by omega) (by simp)).trans (h.2 i hi hg hr)⟩
theorem keep_base {W w w1 : World} {g B : Nat} (h : KeepBut W w g none) (k : Below B w w1) (hb : W.heap.size ≤ B) : KeepBut W w1 g none :=
  ⟨Nat.le_trans h.1 k.size, fun i hi hg hr => (k.block i (by omega)).trans (h.2 i hi hg hr)⟩
theorem RA.base {w0 w w1 : World} {g B : Nat} {ls : List GL} {s : St} (h : RA w0 w g ls s) (k : Below B w w1) (hg : g < B) (h0 : w0.heap.size ≤ B) : RA w0 w1 g ls s := by
  obtain ⟨⟨A, c, h1, h2, h3⟩, hb⟩ := h
  exact ⟨⟨A, c, (k.block g hg).trans h1, h2, h3⟩, hb.trans (k.mono h0)⟩
theorem RA.own {w0 w w1 : World} {g b : Nat} {ls : List GL} {s : St} (h : RA w0 w g ls s) (k : KeepBut w w1 b none) (hg : g ≠ b) (hb : Below w0.heap.size w w1) : RA w0 w1 g ls s := by
  have hlt := h.lt
  obtain ⟨⟨A, c, h1, h2, h3⟩, hb0⟩ := h
  exact ⟨⟨A, c, k.blk h1 hg (by simp), h2, h3⟩, hb0.trans hb⟩
theorem CA.base {w w1 : World} {b6 b10 b11 b12 B : Nat} {l0 : GL} {v : Value} {wd td : ByteArray} {ad : Int} {vk : Value} (h : CA w b6 b10 b11 b12 l0 v wd td ad vk) (k : Below B w w1) (h6 : b6 < B) (h10 : b10 < B) (h11 : b11 < B) (h12 : b12 < B) : CA w1 b6 b10 b11 b12 l0 v wd td ad vk :=
  ⟨(k.block _ h6).trans h.c6, (k.block _ h10).trans h.c10, (k.block _ h11).trans h.c11, (k.block _ h12).trans h.c12⟩
/-- the result's cells, stored -/
theorem set8 {w : World} {b : Nat} {a0 a1 a2 a3 a4 a5 a6 a7 : Value} (v0 v1 v2 v3 v4 v5 v6 v7 : Value) (h : w.heap[b]? = some (.cells #[a0, a1, a2, a3, a4, a5, a6, a7] TG (0, 0))) :
    ((((((((w.setCell ⟨b, 0, none⟩ v0).setCell ⟨b, 1, none⟩ v1).setCell ⟨b, 2, none⟩ v2).setCell ⟨b, 3, none⟩ v3).setCell ⟨b, 4, none⟩ v4).setCell ⟨b, 5, none⟩ v5).setCell ⟨b, 6, none⟩ v6).setCell ⟨b, 7, none⟩ v7).heap[b]? = some (.cells #[v0, v1, v2, v3, v4, v5, v6, v7] TG (0, 0)) := by
  simpa using blk_set (blk_set (blk_set (blk_set (blk_set (blk_set (blk_set (blk_set h 0 v0) 1 v1) 2 v2) 3 v3) 4 v4) 5 v5) 6 v6) 7 v7
theorem set8_keep (w : World) (b : Nat) (v0 v1 v2 v3 v4 v5 v6 v7 : Value) :
    KeepBut w ((((((((w.setCell ⟨b, 0, none⟩ v0).setCell ⟨b, 1, none⟩ v1).setCell ⟨b, 2, none⟩ v2).setCell ⟨b, 3, none⟩ v3).setCell ⟨b, 4, none⟩ v4).setCell ⟨b, 5, none⟩ v5).setCell ⟨b, 6, none⟩ v6).setCell ⟨b, 7, none⟩ v7) b none :=
  keep_set (keep_set (keep_set (keep_set (keep_set (keep_set (keep_set (keep_set (KeepBut.refl w b none) (.inl rfl) _) (.inl rfl) _) (.inl rfl) _) (.inl rfl) _) (.inl rfl) _) (.inl rfl) _) (.inl rfl) _) (.inl rfl) _
theorem set8_below (w : World) (b n : Nat) (hn : n ≤ b) (v0 v1 v2 v3 v4 v5 v6 v7 : Value) :
    Below n w ((((((((w.setCell ⟨b, 0, none⟩ v0).setCell ⟨b, 1, none⟩ v1).setCell ⟨b, 2, none⟩ v2).setCell ⟨b, 3, none⟩ v3).setCell ⟨b, 4, none⟩ v4).setCell ⟨b, 5, none⟩ v5).setCell ⟨b, 6, none⟩ v6).setCell ⟨b, 7, none⟩ v7) :=
  ((((((((Below.refl n w).setCell (p := ⟨b, 0, none⟩) hn _).setCell (p := ⟨b, 1, none⟩) hn _).setCell (p := ⟨b, 2, none⟩) hn _).setCell (p := ⟨b, 3, none⟩) hn _).setCell (p := ⟨b, 4, none⟩) hn _).setCell (p := ⟨b, 5, none⟩) hn _).setCell (p := ⟨b, 6, none⟩) hn _).setCell (p := ⟨b, 7, none⟩) hn _
set_option maxHeartbeats 8000000 in
set_option maxRecDepth 100000 in
theorem condW (w0 W : World) (g : Nat) (ls : List GL) (s : St) (l0 : GL) (wd td : ByteArray) (deep : Int) (bl : St → List Nd × St) (hR : RA w0 W g ls s) (hls : LsOk ls) (hi : s.i ≤ ls.length) (hbl : BlkOk w0 ls deep bl) (hfw : Fwd ls bl) :
    Calls Tryd.prog 41 #[.pointer (some ⟨g, 0, none⟩), .agg #[.string l0.f0, .int .i64 l0.f1, .bool l0.f2], .string wd, .string td, .int .i64 deep] W fun e w' =>
      ∃ v, e = .returned (.agg #[.int .i64 2, .string l0.f0, .int .i64 l0.f1, .bool l0.f2, v, .slice none 0 0, .string ⟨#[]⟩, .slice none 0 0]) ∧ Kd.R kB TGb w' W.heap.size (fun _ => True) v (cndL ls bl l0 (ls.length + 2) wd td l0.f1 [] s).1 ∧ RA w0 w' g ls (cndL ls bl l0 (ls.length + 2) wd td l0.f1 [] s).2 ∧ KeepBut W w' g none := by
  have hu34 := Tryd.underlying34
  have hu38 := Tryd.underlying38
  have hu56 := Tryd.underlying56
  have hu73 := Tryd.underlying73
  have HR := Aside0.mk hR
  have HLS := Aside0.mk hls
  have HBL := Aside0.mk hbl
  have HFW := Aside0.mk hfw
  have HI := Aside0.mk hi
  have HG0 := Aside0.mk (And.intro hR.lt (And.intro hR.ge hR.bel.size))
  clear hR hls hbl hfw hi
  obtain ⟨R, hRR⟩ : ∃ R, cndL ls bl l0 (ls.length + 2) wd td l0.f1 [] s = R := ⟨_, rfl⟩
  rw [hRR]
  have HRR := Aside0.mk hRR
  clear hRR
  go_enter Tryd.func41, Tryd.ntmps41
  go_wp2_with (first
    | (((with_reducible refine gate_dst (N := 6) rfl ?_); (try (refine gate_guard (by rfl) ?_; dsimp only)); refine box_event ?hg (N := 6) ?hd (cs := #[.string l0.f0, .int .i64 l0.f1, .bool l0.f2]) (t := TL) ?hr ?_; (case hd => rfl); (case hg => rfl); (case hr => first | (go_simp; done) | (go_simp; rfl)); intro b6 eb6 wb6 hb6 lb6; have Eb6 := Aside0.mk eb6; clear eb6); have i0 : wb6.cell? ⟨b6, 0, none⟩ = some (.string l0.f0) := (blk_cell hb6 0).trans rfl; have i1 : wb6.cell? ⟨b6, 1, none⟩ = some (.int .i64 l0.f1) := (blk_cell hb6 1).trans rfl; have i2 : wb6.cell? ⟨b6, 2, none⟩ = some (.bool l0.f2) := (blk_cell hb6 2).trans rfl)
    | (((with_reducible refine gate_dst (N := 10) rfl ?_); (try (refine gate_guard (by rfl) ?_; dsimp only)); refine box_event ?hg (N := 10) ?hd (cs := #[.int .i64 0, .string ⟨#[]⟩, .int .i64 0, .bool false, .slice none 0 0, .slice none 0 0, .string ⟨#[]⟩, .slice none 0 0]) (t := TG) ?hr ?_; (case hd => rfl); (case hg => rfl); (case hr => first | (go_simp; done) | (go_simp; rfl)); intro b10 eb10 wb10 hb10 lb10; have Eb10 := Aside0.mk eb10; clear eb10); have hb6' := blk_below hb6 lb10; have j0 : wb10.cell? ⟨b6, 0, none⟩ = some (.string l0.f0) := (blk_cell hb6' 0).trans rfl; have j1 : wb10.cell? ⟨b6, 1, none⟩ = some (.int .i64 l0.f1) := (blk_cell hb6' 1).trans rfl; have j2 : wb10.cell? ⟨b6, 2, none⟩ = some (.bool l0.f2) := (blk_cell hb6' 2).trans rfl; have k1 : ∀ o : Obj, (wb10.alloc o).cell? ⟨b6, 1, none⟩ = some (.int .i64 l0.f1) := fun o => (blk_cell (blk_alloc hb6' o) 1).trans rfl; have Hb6 := Aside0.mk (blk_lt hb6); clear i0 i1 i2 hb6))
  obtain ⟨b11, hb11⟩ : ∃ b, wb10.heap.size = b := ⟨_, rfl⟩
  have e12 : ∀ o : Obj, (wb10.alloc o).heap.size = b11 + 1 := fun o => by rw [← hb11]; simp
  have p11 : ∀ o o' : Obj, ((wb10.alloc o).alloc o').heap[b11]? = some o := fun o o' => by rw [← hb11]; exact blk_alloc (heap_alloc_new wb10 o) o'
  have p12 : ∀ o o' : Obj, ((wb10.alloc o).alloc o').heap[b11 + 1]? = some o' := fun o o' => by rw [← e12 o]; exact heap_alloc_new _ o'
  have pB : ∀ o o' : Obj, Below wb10.heap.size wb10 ((wb10.alloc o).alloc o') := fun o o' => below_alloc (below_alloc (Below.refl _ _) o) o'
  have pS : ∀ o o' : Obj, ((wb10.alloc o).alloc o').heap.size = b11 + 2 := fun o o' => by simp [← hb11]
  simp only [hb11]
  obtain ⟨WL, hq⟩ : ∃ WL, (wb10.alloc (Obj.cells #[.int .i64 2, .string l0.f0, .int .i64 l0.f1, .bool l0.f2, .slice none 0 0, .slice none 0 0, .string ⟨#[]⟩, .slice none 0 0] TG)).alloc (Obj.cells #[.string wd, .string td, .int .i64 l0.f1, .slice none 0 0] TGb) = WL := ⟨_, rfl⟩
  have hbW := below_then lb6 lb6.size lb10
  have hbL := pB (Obj.cells #[.int .i64 2, .string l0.f0, .int .i64 l0.f1, .bool l0.f2, .slice none 0 0, .slice none 0 0, .string ⟨#[]⟩, .slice none 0 0] TG) (Obj.cells #[.string wd, .string td, .int .i64 l0.f1, .slice none 0 0] TGb)
  have hS := pS (Obj.cells #[.int .i64 2, .string l0.f0, .int .i64 l0.f1, .bool l0.f2, .slice none 0 0, .slice none 0 0, .string ⟨#[]⟩, .slice none 0 0] TG) (Obj.cells #[.string wd, .string td, .int .i64 l0.f1, .slice none 0 0] TGb)
  have h11 := p11 (Obj.cells #[.int .i64 2, .string l0.f0, .int .i64 l0.f1, .bool l0.f2, .slice none 0 0, .slice none 0 0, .string ⟨#[]⟩, .slice none 0 0] TG) (Obj.cells #[.string wd, .string td, .int .i64 l0.f1, .slice none 0 0] TGb)
  have h12 := p12 (Obj.cells #[.int .i64 2, .string l0.f0, .int .i64 l0.f1, .bool l0.f2, .slice none 0 0, .slice none 0 0, .string ⟨#[]⟩, .slice none 0 0] TG) (Obj.cells #[.string wd, .string td, .int .i64 l0.f1, .slice none 0 0] TGb)
  rw [hq] at hbL hS h11 h12
  rw [hq]
  have HCA := Aside0.mk (show CA WL b6 b10 b11 (b11 + 1) l0 (.slice none 0 0) wd td l0.f1 (.slice none 0 0) from ⟨blk_below hb6' hbL, blk_below hb10 hbL, h11, h12⟩)
  have hbWL := below_then hbW hbW.size hbL
  have HRL := Aside0.mk (HR.out.below hbWL)
  have HKL := Aside0.mk (KeepBut.of_below hbWL g none)
  have HL := Aside0.mk (show Lay W w0 g b6 b10 b11 (b11 + 1) WL.heap.size from ⟨HG0.out.2.1, HG0.out.1, HG0.out.2.2, by have := Eb6.out; omega, by have h1 := Eb10.out; have h2 := lb6.size; have h3 := Eb6.out; have h4 := Hb6.out; omega, by have := blk_lt hb10; omega, by omega, by omega⟩)
  clear hq hbW hbL hS h11 h12 p11 p12 pB pS e12 hb11 hbWL j0 j1 j2 k1 hb6' hb10
  generalize b11 + 1 = b12 at *
  obtain ⟨B, hB⟩ : ∃ B, WL.heap.size = B := ⟨_, rfl⟩
  rw [hB] at HL
  have HBs := Aside0.mk (show B ≤ WL.heap.size by omega)
  have HRB := Aside0.mk (Kd.R_nil kB TGb WL B (fun _ => True))
  have HN := Aside0.mk HLS.out.n
  clear hB
  go_loopg [16] (ls.length + 3) (fun kq v16 wr => ∃ (n : Nat) (s' : St) (wd' td' : ByteArray) (ad' : Int) (out : List Br) (v : Value), v16 = v16 ∧ Aside0 (n + 1 = kq ∧ ls.length < s'.i + n ∧ s'.i ≤ ls.length ∧ cndL ls bl l0 n wd' td' ad' out s' = R ∧ out.length + n = ls.length + 2) ∧ Aside0 (RA w0 wr g ls s') ∧ Aside0 (CA wr b6 b10 b11 b12 l0 v wd' td' ad' (.slice none 0 0)) ∧ Aside0 (Kd.R kB TGb wr B (fun _ => True) v out) ∧ Aside0 (KeepBut W wr g none) ∧ Aside0 (B ≤ wr.heap.size))
  case atStart => exact ⟨ls.length + 2, s, wd, td, l0.f1, [], _, rfl, ⟨rfl, by omega, HI.out, HRR.out, by simp⟩, HRL, HCA, HRB, HKL, HBs⟩
  case round =>
    clear HRL HCA HRB HKL HBs
    obtain ⟨n, s', wd', td', ad', out, v, -, HI', HA, HC, HO, HK, HBz⟩ := hrel
    obtain ⟨m, rfl⟩ : ∃ m, n = m + 1 := ⟨n - 1, by have := HI'.out; omega⟩
    obtain ⟨k1, rfl⟩ : ∃ k1, gk = k1 + 1 := ⟨gk - 1, by have := HI'.out; omega⟩
    have hQ := HI'.out.2.2.2.1
    rw [cndL] at hQ
    have ihB := HBL.out wr g s' HA.out HI'.out.2.2.1
    have hFw := HFW.out s' HI'.out.2.2.1
    obtain ⟨X, hX⟩ : ∃ x, bl s' = x := ⟨_, rfl⟩
    rw [hX] at hQ ihB hFw
    obtain ⟨kids, s1⟩ := X
    dsimp only at hQ ihB hFw
    have hci := clo_i ls (l0 := l0) hFw.2
    have HS1 := Aside0.mk hFw
    have HQ := Aside0.mk hQ
    have HCI := Aside0.mk hci
    obtain ⟨A0, c0, rfl⟩ := Kd.R_slice HO.out
    clear hX hFw hQ hci
    go_wp2_with (fail)
    refine ihB.mono ?_
    rintro e wA ⟨vk, rfl, hRk, hRA, hKA⟩
    obtain ⟨Ak, ck, rfl⟩ := Kd.R_slice hRk
    have hl := HL.out
    have HC1 := Aside0.mk (HC.out.keep hKA (by have := hl.h6; have := hl.gW; omega) (by have := hl.h6; have := hl.h10; have := hl.gW; omega) (by have := hl.h6; have := hl.h10; have := hl.h11; have := hl.gW; omega) (by have := hl.h6; have := hl.h10; have := hl.h11; have := hl.h12; have := hl.gW; omega))
    have HO1 := Aside0.mk (rows_keep HO.out hKA (by have := hl.h6; have := hl.h10; have := hl.h11; have := hl.h12; have := hl.gW; have := hl.hB; omega))
    have HK1 := Aside0.mk (HK.out.trans hKA (.inl rfl))
    have HSZ := Aside0.mk hKA.1
    have HRk := Aside0.mk hRk
    have HA1 := Aside0.mk hRA
    have h12w := Aside0.mk (blk_lt HC.out.c12)
    have HOW := Aside0.mk (Kd.R_lt HO.out)
    clear hRk hRA hKA hl HC HO HK HA ihB
    have x3 : wA.cell? ⟨b12, 3, none⟩ = some (.slice none 0 0) := (blk_cell HC1.out.c12 3).trans rfl
    have v3 := blk_frozen HC1.out.c12 3
    obtain ⟨wS, hwS⟩ : ∃ wS, wA.setCell ⟨b12, 3, none⟩ (.slice Ak kids.length ck) = wS := ⟨_, rfl⟩
    have q12 : wS.heap[b12]? = some (.cells #[.string wd', .string td', .int .i64 ad', .slice Ak kids.length ck] TGb (0, 0)) := by
      rw [← hwS]; simpa using blk_set HC1.out.c12 3 (.slice Ak kids.length ck)
    have hl := HL.out
    have HC2 := Aside0.mk (show CA wS b6 b10 b11 b12 l0 (.slice A0 out.length c0) wd' td' ad' (.slice Ak kids.length ck) from
      ⟨by rw [← hwS]; exact blk_far HC1.out.c6 (p := ⟨b12, 3, none⟩) (by have := hl.h10; have := hl.h11; have := hl.h12; show b6 ≠ b12; omega) _, by rw [← hwS]; exact blk_far HC1.out.c10 (p := ⟨b12, 3, none⟩) (by have := hl.h11; have := hl.h12; show b10 ≠ b12; omega) _, by rw [← hwS]; exact blk_far HC1.out.c11 (p := ⟨b12, 3, none⟩) (by have := hl.h12; show b11 ≠ b12; omega) _, q12⟩)
    have HO2 := Aside0.mk (show Kd.R kB TGb wS B (fun _ => True) (.slice A0 out.length c0) out by rw [← hwS]; exact rows_far HO1.out hl.hB)
    have HRk2 := Aside0.mk (show Kd.R kN TG wS wr.heap.size (fun _ => True) (.slice Ak kids.length ck) kids by rw [← hwS]; exact rows_far HRk.out h12w.out)
    have HA2 := Aside0.mk (show RA w0 wS g ls s1 by rw [← hwS]; exact HA1.out.far (by have := hl.h0; have := hl.h6; have := hl.h10; have := hl.h11; have := hl.h12; omega) (by have := hl.gW; have := hl.h6; have := hl.h10; have := hl.h11; have := hl.h12; omega) _)
    have HK2 := Aside0.mk (show KeepBut W wS g none by rw [← hwS]; exact keep_set HK1.out (.inr (by have := hl.h6; have := hl.h10; have := hl.h11; have := hl.h12; omega)) _)
    have HS2 := Aside0.mk (show wS.heap.size = wA.heap.size by rw [← hwS]; simp)
    have y4 : wS.cell? ⟨b11, 4, none⟩ = some (.slice A0 out.length c0) := (blk_cell HC2.out.c11 4).trans rfl
    have z0 : wS.cell? ⟨b12, 0, none⟩ = some (.string wd') := (blk_cell q12 0).trans rfl
    have z1 : wS.cell? ⟨b12, 1, none⟩ = some (.string td') := (blk_cell q12 1).trans rfl
    have z2 : wS.cell? ⟨b12, 2, none⟩ = some (.int .i64 ad') := (blk_cell q12 2).trans rfl
    have z3 : wS.cell? ⟨b12, 3, none⟩ = some (.slice Ak kids.length ck) := (blk_cell q12 3).trans rfl
    clear HC1 HO1 HRk HA1 HK1 hl q12
    go_wp2_with (((with_reducible refine gate_builtin (b := .append) (xs := #[.tmp 29, .tmp 31]) rfl ?_); at_builtin; refine Kd.R_append kB (w0 := wS) B rfl (.tmp 29) (.tmp 31) 53 TGb (.agg #[.string ⟨#[]⟩, .string ⟨#[]⟩, .int .i64 0, .slice none 0 0]) 64 rfl Tryd.underlying53 infoB rfl (by decide) (by decide) (.slice A0 out.length c0) out (.mk wd' td' ad' kids) [.string wd', .string td', .int .i64 ad', .slice Ak kids.length ck] (fun _ => True) (fun k => wr.heap.size ≤ k) rfl rfl ?aP ?aF ?aN ?aO ?aB ?aS ?aL ?_))
    case aP => exact kbr_mk (Kd.R_lower (Kd.R_mono (Kd.R_bound HRk2.out) (fun k hk => hk.2.1)) HBz.out)
    case aF => exact fun k hk => ⟨trivial, fun e => by have := HOW.out k e.symm; omega⟩
    case aN => exact fun _ _ => trivial
    case aO => exact HO2.out
    case aB => exact Below.refl _ _
    case aS => have h1 := HBz.out; have h2 := HSZ.out; have h3 := HS2.out; omega
    case aL => have h1 := HI'.out.2.2.2.2; have h2 := HN.out; omega
    intro v6 w6 hR6 hB6 hg6 hat6
    obtain ⟨A6, c6, e6⟩ := Kd.R_slice hR6
    obtain ⟨k6, hk6⟩ : ∃ k, (out ++ [Br.mk wd' td' ad' kids]).length = k := ⟨_, rfl⟩
    rw [hk6] at e6
    subst e6
    have hl := HL.out
    have l1 := hl.h6
    have l2 := hl.h10
    have l3 := hl.h11
    have l4 := hl.h12
    have l5 := hl.hB
    have l6 := hl.gW
    have l7 := hl.h0
    have HC6 := Aside0.mk (HC2.out.base hB6 (by omega) (by omega) (by omega) (by omega))
    have HA6 := Aside0.mk (HA2.out.base hB6 (by omega) (by omega))
    have HK6 := Aside0.mk (keep_base HK2.out hB6 (by omega))
    have HS6 := Aside0.mk (show B ≤ w6.heap.size by have h1 := HBz.out; have h2 := HSZ.out; have h3 := HS2.out; have h4 := hB6.size; omega)
    have HR6 := Aside0.mk hR6
    clear hR6 hB6 hg6 hat6 HC2 HO2 HRk2 HA2 HK2 HOW y4 z0 z1 z2 z3 hk6
    have x4 : w6.cell? ⟨b11, 4, none⟩ = some (.slice A0 out.length c0) := (blk_cell HC6.out.c11 4).trans rfl
    have v4 := blk_frozen HC6.out.c11 4
    obtain ⟨w7, hw7⟩ : ∃ w7, w6.setCell ⟨b11, 4, none⟩ (.slice A6 k6 c6) = w7 := ⟨_, rfl⟩
    have HC7 := Aside0.mk (show CA w7 b6 b10 b11 b12 l0 (.slice A6 k6 c6) wd' td' ad' (.slice Ak kids.length ck) from
      ⟨by rw [← hw7]; exact blk_far HC6.out.c6 (p := ⟨b11, 4, none⟩) (by show b6 ≠ b11; omega) _, by rw [← hw7]; exact blk_far HC6.out.c10 (p := ⟨b11, 4, none⟩) (by show b10 ≠ b11; omega) _, by rw [← hw7]; simpa using blk_set HC6.out.c11 4 (.slice A6 k6 c6), by rw [← hw7]; exact blk_far HC6.out.c12 (p := ⟨b11, 4, none⟩) (by show b12 ≠ b11; omega) _⟩)
    have HR7 := Aside0.mk (show Kd.R kB TGb w7 B (fun _ => True) (.slice A6 k6 c6) (out ++ [Br.mk wd' td' ad' kids]) by rw [← hw7]; exact rows_far HR6.out (by omega))
    have HA7 := Aside0.mk (show RA w0 w7 g ls s1 by rw [← hw7]; exact HA6.out.far (by omega) (by omega) _)
    have HK7 := Aside0.mk (show KeepBut W w7 g none by rw [← hw7]; exact keep_set HK6.out (.inr (by omega)) _)
    have HS7 := Aside0.mk (show B ≤ w7.heap.size by rw [← hw7]; simpa using HS6.out)
    have i0 : w7.cell? ⟨b6, 0, none⟩ = some (.string l0.f0) := (blk_cell HC7.out.c6 0).trans rfl
    have i1 : w7.cell? ⟨b6, 1, none⟩ = some (.int .i64 l0.f1) := (blk_cell HC7.out.c6 1).trans rfl
    have i2 : w7.cell? ⟨b6, 2, none⟩ = some (.bool l0.f2) := (blk_cell HC7.out.c6 2).trans rfl
    clear HC6 HA6 HK6 HS6 HR6
    go_wp2_with (fail)
    refine (closingW w0 w7 g ls s1 l0 HA7.out HLS.out HS1.out.2).mono ?_
    rintro e w8 ⟨rfl, hR8, hK8⟩
    obtain ⟨X, hX⟩ : ∃ X, cloP ls l0 s1 = X := ⟨_, rfl⟩
    rw [hX] at hR8 HQ HCI ⊢
    clear hX
    obtain ⟨cl, cw, ct, cok, cs⟩ := X
    dsimp only at hR8 HQ HCI ⊢
    have hbA := below_alloc (Below.refl w8.heap.size w8) (Obj.cells #[.string cl.f0, .int .i64 cl.f1, .bool cl.f2] TL)
    have hb13 := heap_alloc_new w8 (Obj.cells #[.string cl.f0, .int .i64 cl.f1, .bool cl.f2] TL)
    have HC8 := Aside0.mk ((HC7.out.keep hK8 (by omega) (by omega) (by omega) (by omega)).below hbA)
    have HR8 := Aside0.mk (Kd.R_below (rows_keep HR7.out hK8 (by omega)) hbA)
    have HA8 := Aside0.mk (hR8.below hbA)
    have HK8 := Aside0.mk (keep_below (HK7.out.trans hK8 (.inl rfl)) hbA)
    have HS8 := Aside0.mk (show B ≤ (w8.alloc (Obj.cells #[.string cl.f0, .int .i64 cl.f1, .bool cl.f2] TL)).heap.size by have h1 := HS7.out; have h2 := hK8.1; have h3 := hbA.size; omega)
    have n13 : B ≤ w8.heap.size := by have h1 := HS7.out; have h2 := hK8.1; omega
    have s1' : (w8.alloc (Obj.cells #[.string cl.f0, .int .i64 cl.f1, .bool cl.f2] TL)).cell? ⟨w8.heap.size, 1, none⟩ = some (.int .i64 cl.f1) := (blk_cell hb13 1).trans rfl
    have HB13 := Aside0.mk hb13
    clear HC7 HR7 HA7 HK7 HS7 hR8 hK8 hb13 hbA i0 i1 i2 hw7 x4 v4
    have c120 : (w8.alloc (Obj.cells #[.string cl.f0, .int .i64 cl.f1, .bool cl.f2] TL)).cell? ⟨b12, 0, none⟩ = some (.string wd') := (blk_cell HC8.out.c12 0).trans rfl
    have e0 := (blk_cell HC8.out.c11 0).trans rfl; have e1 := (blk_cell HC8.out.c11 1).trans rfl; have e2 := (blk_cell HC8.out.c11 2).trans rfl; have e3 := (blk_cell HC8.out.c11 3).trans rfl; have e4 := (blk_cell HC8.out.c11 4).trans rfl; have e5 := (blk_cell HC8.out.c11 5).trans rfl; have e6 := (blk_cell HC8.out.c11 6).trans rfl; have e7 := (blk_cell HC8.out.c11 7).trans rfl
    have f0 := (blk_cell HC8.out.c10 0).trans rfl; have f1 := (blk_cell HC8.out.c10 1).trans rfl; have f2 := (blk_cell HC8.out.c10 2).trans rfl; have f3 := (blk_cell HC8.out.c10 3).trans rfl; have f4 := (blk_cell HC8.out.c10 4).trans rfl; have f5 := (blk_cell HC8.out.c10 5).trans rfl; have f6 := (blk_cell HC8.out.c10 6).trans rfl; have f7 := (blk_cell HC8.out.c10 7).trans rfl
    have h0 := blk_frozen HC8.out.c10 0; have h1 := blk_frozen HC8.out.c10 1; have h2 := blk_frozen HC8.out.c10 2; have h3 := blk_frozen HC8.out.c10 3; have h4 := blk_frozen HC8.out.c10 4; have h5 := blk_frozen HC8.out.c10 5; have h6 := blk_frozen HC8.out.c10 6; have h7 := blk_frozen HC8.out.c10 7
    cases cok with
    | false =>
      go_wp2_with (fail)
      have p10 := set8 (.int .i64 2) (.string l0.f0) (.int .i64 l0.f1) (.bool l0.f2) (.slice A6 k6 c6) (.slice none 0 0) (.string ⟨#[]⟩) (.slice none 0 0) HC8.out.c10
      have k10 := set8_keep (w8.alloc (Obj.cells #[.string cl.f0, .int .i64 cl.f1, .bool cl.f2] TL)) b10 (.int .i64 2) (.string l0.f0) (.int .i64 l0.f1) (.bool l0.f2) (.slice A6 k6 c6) (.slice none 0 0) (.string ⟨#[]⟩) (.slice none 0 0)
      have b10' := set8_below (w8.alloc (Obj.cells #[.string cl.f0, .int .i64 cl.f1, .bool cl.f2] TL)) b10 w0.heap.size (by have := HL.out.h0; have := HL.out.h6; have := HL.out.h10; omega) (.int .i64 2) (.string l0.f0) (.int .i64 l0.f1) (.bool l0.f2) (.slice A6 k6 c6) (.slice none 0 0) (.string ⟨#[]⟩) (.slice none 0 0)
      obtain ⟨w9, hw9⟩ : ∃ w9, (((((((((w8.alloc (Obj.cells #[.string cl.f0, .int .i64 cl.f1, .bool cl.f2] TL)).setCell ⟨b10, 0, none⟩ (.int .i64 2)).setCell ⟨b10, 1, none⟩ (.string l0.f0)).setCell ⟨b10, 2, none⟩ (.int .i64 l0.f1)).setCell ⟨b10, 3, none⟩ (.bool l0.f2)).setCell ⟨b10, 4, none⟩ (.slice A6 k6 c6)).setCell ⟨b10, 5, none⟩ (.slice none 0 0)).setCell ⟨b10, 6, none⟩ (.string ⟨#[]⟩)).setCell ⟨b10, 7, none⟩ (.slice none 0 0)) = w9 := ⟨_, rfl⟩
      rw [hw9] at p10 k10 b10' ⊢
      have r0 := (blk_cell p10 0).trans rfl; have r1 := (blk_cell p10 1).trans rfl; have r2 := (blk_cell p10 2).trans rfl; have r3 := (blk_cell p10 3).trans rfl; have r4 := (blk_cell p10 4).trans rfl; have r5 := (blk_cell p10 5).trans rfl; have r6 := (blk_cell p10 6).trans rfl; have r7 := (blk_cell p10 7).trans rfl
      (try simp only [Exit.inBlock, Exit.then])
      refine bodyPost_ret (by simp [results, Tryd.results41, go_sem, r0, r1, r2, r3, r4, r5, r6, r7]; try rfl) rfl ?_
      have hRf := HQ.out
      rw [if_pos (by simp)] at hRf
      rw [← hRf]
      exact ⟨_, rfl, Kd.R_lower (rows_keep (HR8.out) k10 (by have := HL.out.h11; have := HL.out.h12; have := HL.out.hB; omega)) (by have := HL.out.h6; have := HL.out.h10; have := HL.out.h11; have := HL.out.h12; have := HL.out.hB; omega), (HA8.out).own k10 (by have := HL.out.gW; have := HL.out.h6; have := HL.out.h10; omega) b10', keep_own (HK8.out) k10 (by have := HL.out.h6; have := HL.out.h10; omega)⟩
    | true =>
      by_cases hw1 : cw = wEndif
      · subst hw1
        unfold wEndif at *
        go_wp2_with (fail)
        have p10 := set8 (.int .i64 2) (.string l0.f0) (.int .i64 l0.f1) (.bool l0.f2) (.slice A6 k6 c6) (.slice none 0 0) (.string ⟨#[]⟩) (.slice none 0 0) HC8.out.c10
        have k10 := set8_keep (w8.alloc (Obj.cells #[.string cl.f0, .int .i64 cl.f1, .bool cl.f2] TL)) b10 (.int .i64 2) (.string l0.f0) (.int .i64 l0.f1) (.bool l0.f2) (.slice A6 k6 c6) (.slice none 0 0) (.string ⟨#[]⟩) (.slice none 0 0)
        have b10' := set8_below (w8.alloc (Obj.cells #[.string cl.f0, .int .i64 cl.f1, .bool cl.f2] TL)) b10 w0.heap.size (by have := HL.out.h0; have := HL.out.h6; have := HL.out.h10; omega) (.int .i64 2) (.string l0.f0) (.int .i64 l0.f1) (.bool l0.f2) (.slice A6 k6 c6) (.slice none 0 0) (.string ⟨#[]⟩) (.slice none 0 0)
        obtain ⟨w9, hw9⟩ : ∃ w9, (((((((((w8.alloc (Obj.cells #[.string cl.f0, .int .i64 cl.f1, .bool cl.f2] TL)).setCell ⟨b10, 0, none⟩ (.int .i64 2)).setCell ⟨b10, 1, none⟩ (.string l0.f0)).setCell ⟨b10, 2, none⟩ (.int .i64 l0.f1)).setCell ⟨b10, 3, none⟩ (.bool l0.f2)).setCell ⟨b10, 4, none⟩ (.slice A6 k6 c6)).setCell ⟨b10, 5, none⟩ (.slice none 0 0)).setCell ⟨b10, 6, none⟩ (.string ⟨#[]⟩)).setCell ⟨b10, 7, none⟩ (.slice none 0 0)) = w9 := ⟨_, rfl⟩
        rw [hw9] at p10 k10 b10' ⊢
        have r0 := (blk_cell p10 0).trans rfl; have r1 := (blk_cell p10 1).trans rfl; have r2 := (blk_cell p10 2).trans rfl; have r3 := (blk_cell p10 3).trans rfl; have r4 := (blk_cell p10 4).trans rfl; have r5 := (blk_cell p10 5).trans rfl; have r6 := (blk_cell p10 6).trans rfl; have r7 := (blk_cell p10 7).trans rfl
        (try simp only [Exit.inBlock, Exit.then])
        refine bodyPost_ret (by simp [results, Tryd.results41, go_sem, r0, r1, r2, r3, r4, r5, r6, r7]; try rfl) rfl ?_
        have hRf := HQ.out
        rw [if_pos (by simp [wEndif])] at hRf
        rw [← hRf]
        exact ⟨_, rfl, Kd.R_lower (rows_keep (HR8.out) k10 (by have := HL.out.h11; have := HL.out.h12; have := HL.out.hB; omega)) (by have := HL.out.h6; have := HL.out.h10; have := HL.out.h11; have := HL.out.h12; have := HL.out.hB; omega), (HA8.out).own k10 (by have := HL.out.gW; have := HL.out.h6; have := HL.out.h10; omega) b10', keep_own (HK8.out) k10 (by have := HL.out.h6; have := HL.out.h10; omega)⟩
      · have s1a := neq_l (l := [101, 110, 100, 105, 102]) hw1; have s1b : ((cw).toList == ([101, 110, 100, 105, 102] : List UInt8)) = false := (by simpa using s1a); have s1c : decide ((cw).toList = ([101, 110, 100, 105, 102] : List UInt8)) = false := decide_eq_false s1a
        have HQ2 := HQ
        by_cases hw2 : cw = wEndfor
        · subst hw2
          unfold wEndfor at *
          go_wp2_with (fail)
          refine (wrongW w0 _ g ls cs 3 cl.f1 HA8.out).mono ?_
          rintro e w10 ⟨rfl, hR10, hK10⟩
          have HC10 := Aside0.mk (HC8.out.keep hK10 (by omega) (by omega) (by omega) (by omega))
          have HR10 := Aside0.mk (rows_keep HR8.out hK10 (by omega))
          have HA10 := Aside0.mk hR10
          have HK10 := Aside0.mk (HK8.out.trans hK10 (.inl rfl))
          clear hR10 hK10 HC8 HR8 HA8 HK8 e0 e1 e2 e3 e4 e5 e6 e7 f0 f1 f2 f3 f4 f5 f6 f7 h0 h1 h2 h3 h4 h5 h6 h7
          have e0 := (blk_cell HC10.out.c11 0).trans rfl; have e1 := (blk_cell HC10.out.c11 1).trans rfl; have e2 := (blk_cell HC10.out.c11 2).trans rfl; have e3 := (blk_cell HC10.out.c11 3).trans rfl; have e4 := (blk_cell HC10.out.c11 4).trans rfl; have e5 := (blk_cell HC10.out.c11 5).trans rfl; have e6 := (blk_cell HC10.out.c11 6).trans rfl; have e7 := (blk_cell HC10.out.c11 7).trans rfl
          have f0 := (blk_cell HC10.out.c10 0).trans rfl; have f1 := (blk_cell HC10.out.c10 1).trans rfl; have f2 := (blk_cell HC10.out.c10 2).trans rfl; have f3 := (blk_cell HC10.out.c10 3).trans rfl; have f4 := (blk_cell HC10.out.c10 4).trans rfl; have f5 := (blk_cell HC10.out.c10 5).trans rfl; have f6 := (blk_cell HC10.out.c10 6).trans rfl; have f7 := (blk_cell HC10.out.c10 7).trans rfl
          have h0 := blk_frozen HC10.out.c10 0; have h1 := blk_frozen HC10.out.c10 1; have h2 := blk_frozen HC10.out.c10 2; have h3 := blk_frozen HC10.out.c10 3; have h4 := blk_frozen HC10.out.c10 4; have h5 := blk_frozen HC10.out.c10 5; have h6 := blk_frozen HC10.out.c10 6; have h7 := blk_frozen HC10.out.c10 7
          go_wp2_with (fail)
          have p10 := set8 (.int .i64 2) (.string l0.f0) (.int .i64 l0.f1) (.bool l0.f2) (.slice A6 k6 c6) (.slice none 0 0) (.string ⟨#[]⟩) (.slice none 0 0) HC10.out.c10
          have k10 := set8_keep (w10) b10 (.int .i64 2) (.string l0.f0) (.int .i64 l0.f1) (.bool l0.f2) (.slice A6 k6 c6) (.slice none 0 0) (.string ⟨#[]⟩) (.slice none 0 0)
          have b10' := set8_below (w10) b10 w0.heap.size (by have := HL.out.h0; have := HL.out.h6; have := HL.out.h10; omega) (.int .i64 2) (.string l0.f0) (.int .i64 l0.f1) (.bool l0.f2) (.slice A6 k6 c6) (.slice none 0 0) (.string ⟨#[]⟩) (.slice none 0 0)
          obtain ⟨w9, hw9⟩ : ∃ w9, (((((((((w10).setCell ⟨b10, 0, none⟩ (.int .i64 2)).setCell ⟨b10, 1, none⟩ (.string l0.f0)).setCell ⟨b10, 2, none⟩ (.int .i64 l0.f1)).setCell ⟨b10, 3, none⟩ (.bool l0.f2)).setCell ⟨b10, 4, none⟩ (.slice A6 k6 c6)).setCell ⟨b10, 5, none⟩ (.slice none 0 0)).setCell ⟨b10, 6, none⟩ (.string ⟨#[]⟩)).setCell ⟨b10, 7, none⟩ (.slice none 0 0)) = w9 := ⟨_, rfl⟩
          rw [hw9] at p10 k10 b10' ⊢
          have r0 := (blk_cell p10 0).trans rfl; have r1 := (blk_cell p10 1).trans rfl; have r2 := (blk_cell p10 2).trans rfl; have r3 := (blk_cell p10 3).trans rfl; have r4 := (blk_cell p10 4).trans rfl; have r5 := (blk_cell p10 5).trans rfl; have r6 := (blk_cell p10 6).trans rfl; have r7 := (blk_cell p10 7).trans rfl
          (try simp only [Exit.inBlock, Exit.then])
          refine bodyPost_ret (by simp [results, Tryd.results41, go_sem, r0, r1, r2, r3, r4, r5, r6, r7]; try rfl) rfl ?_
          have hRf := HQ.out
          rw [if_neg (by simp [hw1]), if_pos (by simp [wEndfor])] at hRf
          rw [← hRf]
          exact ⟨_, rfl, Kd.R_lower (rows_keep (HR10.out) k10 (by have := HL.out.h11; have := HL.out.h12; have := HL.out.hB; omega)) (by have := HL.out.h6; have := HL.out.h10; have := HL.out.h11; have := HL.out.h12; have := HL.out.hB; omega), (HA10.out).own k10 (by have := HL.out.gW; have := HL.out.h6; have := HL.out.h10; omega) b10', keep_own (HK10.out) k10 (by have := HL.out.h6; have := HL.out.h10; omega)⟩
        · have s2a := neq_l (l := [101, 110, 100, 102, 111, 114]) hw2; have s2b : ((cw).toList == ([101, 110, 100, 102, 111, 114] : List UInt8)) = false := (by simpa using s2a); have s2c : decide ((cw).toList = ([101, 110, 100, 102, 111, 114] : List UInt8)) = false := decide_eq_false s2a
          by_cases hw3 : wd' = wElse
          · subst hw3
            unfold wElse at *
            go_wp2_with (fail)
            refine (wrongW w0 _ g ls cs 3 cl.f1 HA8.out).mono ?_
            rintro e w10 ⟨rfl, hR10, hK10⟩
            have HC10 := Aside0.mk (HC8.out.keep hK10 (by omega) (by omega) (by omega) (by omega))
            have HR10 := Aside0.mk (rows_keep HR8.out hK10 (by omega))
            have HA10 := Aside0.mk hR10
            have HK10 := Aside0.mk (HK8.out.trans hK10 (.inl rfl))
            clear hR10 hK10 HC8 HR8 HA8 HK8 e0 e1 e2 e3 e4 e5 e6 e7 f0 f1 f2 f3 f4 f5 f6 f7 h0 h1 h2 h3 h4 h5 h6 h7
            have e0 := (blk_cell HC10.out.c11 0).trans rfl; have e1 := (blk_cell HC10.out.c11 1).trans rfl; have e2 := (blk_cell HC10.out.c11 2).trans rfl; have e3 := (blk_cell HC10.out.c11 3).trans rfl; have e4 := (blk_cell HC10.out.c11 4).trans rfl; have e5 := (blk_cell HC10.out.c11 5).trans rfl; have e6 := (blk_cell HC10.out.c11 6).trans rfl; have e7 := (blk_cell HC10.out.c11 7).trans rfl
            have f0 := (blk_cell HC10.out.c10 0).trans rfl; have f1 := (blk_cell HC10.out.c10 1).trans rfl; have f2 := (blk_cell HC10.out.c10 2).trans rfl; have f3 := (blk_cell HC10.out.c10 3).trans rfl; have f4 := (blk_cell HC10.out.c10 4).trans rfl; have f5 := (blk_cell HC10.out.c10 5).trans rfl; have f6 := (blk_cell HC10.out.c10 6).trans rfl; have f7 := (blk_cell HC10.out.c10 7).trans rfl
            have h0 := blk_frozen HC10.out.c10 0; have h1 := blk_frozen HC10.out.c10 1; have h2 := blk_frozen HC10.out.c10 2; have h3 := blk_frozen HC10.out.c10 3; have h4 := blk_frozen HC10.out.c10 4; have h5 := blk_frozen HC10.out.c10 5; have h6 := blk_frozen HC10.out.c10 6; have h7 := blk_frozen HC10.out.c10 7
            go_wp2_with (fail)
            have p10 := set8 (.int .i64 2) (.string l0.f0) (.int .i64 l0.f1) (.bool l0.f2) (.slice A6 k6 c6) (.slice none 0 0) (.string ⟨#[]⟩) (.slice none 0 0) HC10.out.c10
            have k10 := set8_keep (w10) b10 (.int .i64 2) (.string l0.f0) (.int .i64 l0.f1) (.bool l0.f2) (.slice A6 k6 c6) (.slice none 0 0) (.string ⟨#[]⟩) (.slice none 0 0)
            have b10' := set8_below (w10) b10 w0.heap.size (by have := HL.out.h0; have := HL.out.h6; have := HL.out.h10; omega) (.int .i64 2) (.string l0.f0) (.int .i64 l0.f1) (.bool l0.f2) (.slice A6 k6 c6) (.slice none 0 0) (.string ⟨#[]⟩) (.slice none 0 0)
            obtain ⟨w9, hw9⟩ : ∃ w9, (((((((((w10).setCell ⟨b10, 0, none⟩ (.int .i64 2)).setCell ⟨b10, 1, none⟩ (.string l0.f0)).setCell ⟨b10, 2, none⟩ (.int .i64 l0.f1)).setCell ⟨b10, 3, none⟩ (.bool l0.f2)).setCell ⟨b10, 4, none⟩ (.slice A6 k6 c6)).setCell ⟨b10, 5, none⟩ (.slice none 0 0)).setCell ⟨b10, 6, none⟩ (.string ⟨#[]⟩)).setCell ⟨b10, 7, none⟩ (.slice none 0 0)) = w9 := ⟨_, rfl⟩
            rw [hw9] at p10 k10 b10' ⊢
            have r0 := (blk_cell p10 0).trans rfl; have r1 := (blk_cell p10 1).trans rfl; have r2 := (blk_cell p10 2).trans rfl; have r3 := (blk_cell p10 3).trans rfl; have r4 := (blk_cell p10 4).trans rfl; have r5 := (blk_cell p10 5).trans rfl; have r6 := (blk_cell p10 6).trans rfl; have r7 := (blk_cell p10 7).trans rfl
            (try simp only [Exit.inBlock, Exit.then])
            refine bodyPost_ret (by simp [results, Tryd.results41, go_sem, r0, r1, r2, r3, r4, r5, r6, r7]; try rfl) rfl ?_
            have hRf := HQ.out
            rw [if_neg (by simp [hw1]), if_pos (by simp [wElse])] at hRf
            rw [← hRf]
            exact ⟨_, rfl, Kd.R_lower (rows_keep (HR10.out) k10 (by have := HL.out.h11; have := HL.out.h12; have := HL.out.hB; omega)) (by have := HL.out.h6; have := HL.out.h10; have := HL.out.h11; have := HL.out.h12; have := HL.out.hB; omega), (HA10.out).own k10 (by have := HL.out.gW; have := HL.out.h6; have := HL.out.h10; omega) b10', keep_own (HK10.out) k10 (by have := HL.out.h6; have := HL.out.h10; omega)⟩
          · have s3a := neq_l (l := [101, 108, 115, 101]) hw3; have s3b : ((wd').toList == ([101, 108, 115, 101] : List UInt8)) = false := (by simpa using s3a); have s3c : decide ((wd').toList = ([101, 108, 115, 101] : List UInt8)) = false := decide_eq_false s3a
            have c121 : (w8.alloc (Obj.cells #[.string cl.f0, .int .i64 cl.f1, .bool cl.f2] TL)).cell? ⟨b12, 1, none⟩ = some (.string td') := (blk_cell HC8.out.c12 1).trans rfl
            have c122 : (w8.alloc (Obj.cells #[.string cl.f0, .int .i64 cl.f1, .bool cl.f2] TL)).cell? ⟨b12, 2, none⟩ = some (.int .i64 ad') := (blk_cell HC8.out.c12 2).trans rfl
            have c123 : (w8.alloc (Obj.cells #[.string cl.f0, .int .i64 cl.f1, .bool cl.f2] TL)).cell? ⟨b12, 3, none⟩ = some (.slice Ak kids.length ck) := (blk_cell HC8.out.c12 3).trans rfl
            have g0 := blk_frozen HC8.out.c12 0
            have g1 := blk_frozen HC8.out.c12 1
            have g2 := blk_frozen HC8.out.c12 2
            have g3 := blk_frozen HC8.out.c12 3
            go_wp2_with (fail)
            have q12 : (((((w8.alloc (Obj.cells #[.string cl.f0, .int .i64 cl.f1, .bool cl.f2] TL)).setCell ⟨b12, 0, none⟩ (.string cw)).setCell ⟨b12, 1, none⟩ (.string ct)).setCell ⟨b12, 2, none⟩ (.int .i64 cl.f1)).setCell ⟨b12, 3, none⟩ (.slice none 0 0)).heap[b12]? = some (.cells #[.string cw, .string ct, .int .i64 cl.f1, .slice none 0 0] TGb (0, 0)) := by
              simpa using blk_set (blk_set (blk_set (blk_set HC8.out.c12 0 (.string cw)) 1 (.string ct)) 2 (.int .i64 cl.f1)) 3 (.slice none 0 0)
            have k12 : KeepBut (w8.alloc (Obj.cells #[.string cl.f0, .int .i64 cl.f1, .bool cl.f2] TL)) (((((w8.alloc (Obj.cells #[.string cl.f0, .int .i64 cl.f1, .bool cl.f2] TL)).setCell ⟨b12, 0, none⟩ (.string cw)).setCell ⟨b12, 1, none⟩ (.string ct)).setCell ⟨b12, 2, none⟩ (.int .i64 cl.f1)).setCell ⟨b12, 3, none⟩ (.slice none 0 0)) b12 none := keep_set (keep_set (keep_set (keep_set (KeepBut.refl _ b12 none) (.inl rfl) _) (.inl rfl) _) (.inl rfl) _) (.inl rfl) _
            have b12' : Below w0.heap.size (w8.alloc (Obj.cells #[.string cl.f0, .int .i64 cl.f1, .bool cl.f2] TL)) (((((w8.alloc (Obj.cells #[.string cl.f0, .int .i64 cl.f1, .bool cl.f2] TL)).setCell ⟨b12, 0, none⟩ (.string cw)).setCell ⟨b12, 1, none⟩ (.string ct)).setCell ⟨b12, 2, none⟩ (.int .i64 cl.f1)).setCell ⟨b12, 3, none⟩ (.slice none 0 0)) := ((((Below.refl _ _).setCell (p := ⟨b12, 0, none⟩) (by show w0.heap.size ≤ b12; omega) _).setCell (p := ⟨b12, 1, none⟩) (by show w0.heap.size ≤ b12; omega) _).setCell (p := ⟨b12, 2, none⟩) (by show w0.heap.size ≤ b12; omega) _).setCell (p := ⟨b12, 3, none⟩) (by show w0.heap.size ≤ b12; omega) _
            obtain ⟨w11, hw11⟩ : ∃ w11, ((((w8.alloc (Obj.cells #[.string cl.f0, .int .i64 cl.f1, .bool cl.f2] TL)).setCell ⟨b12, 0, none⟩ (.string cw)).setCell ⟨b12, 1, none⟩ (.string ct)).setCell ⟨b12, 2, none⟩ (.int .i64 cl.f1)).setCell ⟨b12, 3, none⟩ (.slice none 0 0) = w11 := ⟨_, rfl⟩
            rw [hw11] at q12 k12 b12' ⊢
            have hQ3 := HQ.out
            rw [if_neg (by simp [hw1]), if_neg (by simp [hw2, hw3])] at hQ3
            have hci := HCI.out
            go_roundg (m + 1)
            case measure => have := HI'.out; omega
            case rel => exact ⟨m, cs, cw, ct, cl.f1, out ++ [Br.mk wd' td' ad' kids], .slice A6 k6 c6, by simp, ⟨rfl, by have h1 := hci.2.2 (by simp); have h2 := HS1.out.1; have h3 := HI'.out.2.1; omega, hci.2.1, hQ3, by have := HI'.out.2.2.2.2; simp; omega⟩, ⟨HA8.out.own k12 (by omega) b12'⟩, ⟨⟨k12.blk HC8.out.c6 (by omega) (by simp), k12.blk HC8.out.c10 (by omega) (by simp), k12.blk HC8.out.c11 (by omega) (by simp), q12⟩⟩, ⟨rows_keep HR8.out k12 (by omega)⟩, ⟨keep_own HK8.out k12 (by omega)⟩, ⟨Nat.le_trans HS8.out k12.1⟩⟩
end Go.Proofs.YtiedbnjoomcdbaaDoor.Tr
