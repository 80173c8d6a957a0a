/- Steps gone through in memory: marks; walked. -/
import Derived.Test.YtnjpdhekeffpnaaRxN
import Derived.Test.YtnjpdhekeffpnaaRxS
set_option linter.unusedVariables false
set_option linter.unusedSimpArgs false
namespace Go.Proofs.Ytnjpdhekeffpnaa.Rx
open Go.RowKit Go.Proofs.YtnjpdhekeffpnaaW.PrintWords Go.Proofs.YtnjpdhekeffpnaaW.PrintLast Go.Proofs.YtnjpdhekeffpnaaW.PrintMore

abbrev TR : Nat := 58
abbrev TO : Nat := 4
/-- an expression whose steps are found: its cells -/
def RgB (s : ByteArray) (v : Value) (first : Nat) : Array Value := #[.string s, .bool true, .int .u32 1, .int .i32 0, .int .u32 0, v, .int .i64 (first : Int)]
def RgAt (w : World) (r : Nat) (s : ByteArray) (st : List Stp) (first : Nat) : Prop := ∃ v, w.heap[r]? = some (.cells (RgB s v first) TR (0, 0)) ∧ Kd.R kst TS w 0 (fun _ => True) v st
def MarkAt (w : World) (g c : Nat) (m : List Bool) : Prop := Kd.R Kd.bool TO w 0 (fun _ => True) (.slice (some ⟨g, 0, none⟩) m.length c) m
/-- all that was there stays, but one block -/
structure Mk (g : Nat) (w w' : World) : Prop where
  below : ∀ B, B ≤ g → B ≤ w.heap.size → Below B w w'
  keep : ∀ k, k < w.heap.size → k ≠ g → w'.heap[k]? = w.heap[k]?
theorem Mk.refl (g : Nat) (w : World) : Mk g w w := ⟨fun _ _ _ => Below.refl _ _, fun _ _ _ => rfl⟩
theorem Mk.size {g : Nat} {w w' : World} (h : Mk g w w') : w.heap.size ≤ w'.heap.size := (h.below 0 (Nat.zero_le _) (Nat.zero_le _)).size
theorem Mk.trans {g : Nat} {a b c : World} (h : Mk g a b) (k : Mk g b c) : Mk g a c :=
  ⟨fun B h1 h2 => (h.below B h1 h2).trans (k.below B h1 (Nat.le_trans h2 h.size)), fun q h1 h2 => (k.keep q (Nat.lt_of_lt_of_le h1 h.size) h2).trans (h.keep q h1 h2)⟩
theorem Mk.of {g : Nat} {w w' : World} (h : Below w.heap.size w w') : Mk g w w' := ⟨fun B _ h2 => below_then (Below.refl _ _) h2 h, fun k hk _ => h.block k hk⟩
theorem Mk.new {g x : Nat} {w w' : World} (h : Mk g w w') (hx : w.heap.size ≤ x) (j : Nat) (u : Value) : Mk g w (w'.setCell ⟨x, j, none⟩ u) :=
  ⟨fun B h1 h2 => (h.below B h1 h2).setCell (p := ⟨x, j, none⟩) (Nat.le_trans h2 hx) u, fun k hk hne => (Below.heap_setCell w' ⟨x, j, none⟩ u k (by show k ≠ x; omega)).trans (h.keep k hk hne)⟩
theorem RgAt.mk {w w' : World} {r g : Nat} {s : ByteArray} {st : List Stp} {first : Nat} (h : RgAt w r s st first) (k : Mk g w w') (hg : ∃ cs, w.heap[g]? = some (.cells cs TO (0, 0))) : RgAt w' r s st first := by
  obtain ⟨v, h1, h2⟩ := h
  obtain ⟨cs, hg⟩ := hg
  have hrg : r ≠ g := by rintro rfl; rw [hg] at h1; injection h1 with h1; injection h1 with _ h1; cases h1
  exact ⟨v, (k.keep r (blk_lt h1) hrg).trans h1, Kd.R_mono (Kd.R_step (Kd.R_types h2 hg (fun q hq => by rcases List.mem_cons.1 hq with rfl | hq; (· decide); (· cases hq))) (fun q ho hq => k.keep q hq ho.2)) (fun _ _ => trivial)⟩
theorem RgAt.below {w w' : World} {r : Nat} {s : ByteArray} {st : List Stp} {first : Nat} (h : RgAt w r s st first) (hb : Below w.heap.size w w') : RgAt w' r s st first := by
  obtain ⟨v, h1, h2⟩ := h
  exact ⟨v, blk_below h1 hb, Kd.R_below h2 hb⟩
theorem MarkAt.blk {w : World} {g c : Nat} {m : List Bool} (h : MarkAt w g c m) : ∃ cs, w.heap[g]? = some (.cells cs TO (0, 0)) := by
  obtain ⟨_, inner, ho, _⟩ := h
  exact own_typed ho g rfl
theorem MarkAt.at {w : World} {g c : Nat} {m : List Bool} (h : MarkAt w g c m) (n : Nat) (hn : n < m.length) : w.cell? ⟨g, n, none⟩ = some (.bool (m.getD n true)) := by
  obtain ⟨_, _, hC⟩ := Kd.R_reads' h
  obtain ⟨ad, e, hc⟩ := hC.2.2 (by omega)
  obtain ⟨cc, _, hk, hcell⟩ := hc n m[n] (List.getElem?_eq_getElem hn)
  injection e with e
  subst e
  have := hcell 0 (.bool m[n]) (by rw [show cc = [.bool m[n]] from hk]; rfl)
  rw [add_plain] at this
  simpa [Kd.bool, Kd.scalar, List.getD_eq_getElem?_getD, List.getElem?_eq_getElem hn] using this
theorem MarkAt.set {w : World} {g c : Nat} {m : List Bool} (h : MarkAt w g c m) (n : Nat) : MarkAt (w.setCell ⟨g, n, none⟩ (.bool true)) g c (m.set n true) := by
  have ho := Kd.own_of_R (enc := Value.bool) (h1 := fun _ => rfl) h
  have hs := (ho.stored n (.bool true)).1
  have he : (encs Value.bool m).set n (.bool true) = encs Value.bool (m.set n true) := by simp [encs, List.map_set]
  rw [he] at hs
  have hl : (m.set n true).length = m.length := List.length_set
  unfold MarkAt
  rw [hl]
  refine Kd.R_of_own (enc := Value.bool) (h1 := fun _ => rfl) ?_ (fun k hk => trivial)
  rw [hl]; exact hs
theorem set7 {wx : World} {x : Nat} {cs : Array Value} (hx : wx.heap[x]? = some (.cells cs 100 (0, 0))) (c0 c1 c2 c3 c4 c5 c6 : Value) (hc : cs = #[.int .i64 0, .int .u64 0, .int .u64 0, .int .u64 0, .int .u64 0, .int .i64 0, .int .i64 0] := by rfl) :
    (((((((wx.setCell ⟨x, 0, none⟩ c0).setCell ⟨x, 1, none⟩ c1).setCell ⟨x, 2, none⟩ c2).setCell ⟨x, 3, none⟩ c3).setCell ⟨x, 4, none⟩ c4).setCell ⟨x, 5, none⟩ c5).setCell ⟨x, 6, none⟩ c6).heap[x]? = some (.cells #[c0, c1, c2, c3, c4, c5, c6] 100 (0, 0)) := by
  subst hc
  have := blk_set (blk_set (blk_set (blk_set (blk_set (blk_set (blk_set hx 0 c0) 1 c1) 2 c2) 3 c3) 4 c4) 5 c5) 6 c6
  simpa using this
theorem MarkAt.mkO {w w' : World} {g c : Nat} {m : List Bool} (h : MarkAt w g c m) (hb : Below w.heap.size w w') : MarkAt w' g c m := Kd.R_below h hb
theorem Mk.set {g : Nat} {w w' : World} (h : Mk g w w') (j : Nat) (u : Value) : Mk g w (w'.setCell ⟨g, j, none⟩ u) :=
  ⟨fun B h1 h2 => (h.below B h1 h2).setCell (p := ⟨g, j, none⟩) h1 u, fun k hk hne => (Below.heap_setCell w' ⟨g, j, none⟩ u k hne).trans (h.keep k hk hne)⟩
set_option maxHeartbeats 16000000 in
set_option maxRecDepth 100000 in
theorem walkRW (r : Nat) (s : ByteArray) (st : List Stp) (first : Nat) (b e : Bool) (hwf : WfS st) (hl : st.length ≤ 1000000) (g c : Nat) : ∀ (k : Nat) (w : World) (m : List Bool) (n : Nat), free m < k → n < st.length → m.length = st.length → RgAt w r s st first → MarkAt w g c m →
    Calls Try.prog 44 #[.pointer (some ⟨r, 0, none⟩), .slice (some ⟨g, 0, none⟩) m.length c, .int .i64 (n : Int), .bool b, .bool e] w fun x w' => x = .returned (.tuple #[]) ∧ MarkAt w' g c (walkP st b e k m n) ∧ Mk g w w'
  | 0, w, m, n, hk, _, _, _, _ => by omega
  | k + 1, w, m, n, hk, hn, hm, hR, hM => by
    have hu58 := Try.underlying58
    have hu100 := Try.underlying100
    have ih := walkRW r s st first b e hwf hl g c k
    have HI := Aside0.mk ih
    have HH := Aside0.mk (⟨hk, hn, hm, hwf, hl⟩ : free m < k + 1 ∧ n < st.length ∧ m.length = st.length ∧ WfS st ∧ st.length ≤ 1000000)
    obtain ⟨z, hz⟩ : ∃ z : Int, (n : Int) = z := ⟨_, rfl⟩
    obtain ⟨L, hL⟩ : ∃ L : Int, (st.length : Int) = L := ⟨_, rfl⟩
    have z0 : 0 ≤ z := by omega
    have z1 : z < L := by omega
    have zn : z.toNat = n := by omega
    have x0 : w.cell? ⟨g, n, none⟩ = some (.bool (m.getD n true)) := hM.at n (by omega)
    obtain ⟨csg, hcg⟩ := hM.blk
    have f0 := blk_frozen hcg n
    have HR := Aside0.mk hR
    have HM := Aside0.mk hM
    have HZ := Aside0.mk (⟨hz, hL⟩ : (n : Int) = z ∧ (st.length : Int) = L)
    rw [hz]
    have hmL : (m.length : Int) = L := by omega
    clear ih hk hn hR hM hcg hz hL hwf hl
    go_enter Try.func44, Try.ntmps44
    cases hb : m.getD n true with
    | true =>
      rw [hb] at x0
      have HE := Aside0.mk (show walkP st b e (k + 1) m n = m by rw [walkP, if_pos hb])
      clear hm hb
      go_wp2_with (fail)
      (try go_wp2_with (fail))
      refine bodyPost_ret (results_none rfl _ _ _) rfl ?_
      exact ⟨rfl, by rw [HE.out]; exact HM.out, Mk.refl _ _⟩
    | false =>
      rw [hb] at x0
      have hM1 := HM.out.set n
      have hK1 := (Mk.refl g w).set n (.bool true)
      have hR1 := HR.out.mk hK1 HM.out.blk
      have hfr := free_set m n hb
      have HF := Aside0.mk (show free (m.set n true) < k by have := HH.out.1; omega)
      obtain ⟨S1, hS1⟩ : ∃ x, stp st n = x := ⟨_, rfl⟩
      have hmem : st[n]'HH.out.2.1 = S1 := by rw [← hS1]; simp [stp, List.getD_eq_getElem?_getD, List.getElem?_eq_getElem HH.out.2.1]
      have hW1 := HH.out.2.2.2.1 (st[n]'HH.out.2.1) (List.getElem_mem _)
      rw [hmem] at hW1
      have HS1 := Aside0.mk (⟨hb, hS1, hW1⟩ : m.getD n true = false ∧ stp st n = S1 ∧ S1.nx < st.length ∧ S1.ot < st.length)
      obtain ⟨vst, hrc, hRs⟩ := HR.out
      obtain ⟨a, ca, rfl, -⟩ := Kd.R_form hRs (by have := HH.out.2.1; omega)
      have hcs := kst_cells (Kd.R_reads' hRs).2.2 n HH.out.2.1
      rw [hmem, Int.toNat_natCast, kst_sz] at hcs
      obtain ⟨csg, hcg⟩ := HM.out.blk
      have nrg : r ≠ g := by rintro rfl; rw [hcg] at hrc; injection hrc with hrc; injection hrc with _ hrc; cases hrc
      have nag : a ≠ g := fun e => Kd.R_ne hRs hcg (by decide) (by rw [← e]; rfl)
      have y5 : w.cell? ⟨r, 5, none⟩ = some (.slice (some ⟨a, 0, none⟩) st.length ca) := (blk_cell hrc 5).trans rfl
      obtain ⟨a1, ha1⟩ : ∃ x, wd S1.m 0 = x := ⟨_, rfl⟩
      obtain ⟨a2, ha2⟩ : ∃ x, wd S1.m 1 = x := ⟨_, rfl⟩
      obtain ⟨a3, ha3⟩ : ∃ x, wd S1.m 2 = x := ⟨_, rfl⟩
      obtain ⟨a4, ha4⟩ : ∃ x, wd S1.m 3 = x := ⟨_, rfl⟩
      have q0 : w.cell? ⟨a, n * 7, none⟩ = some (.int .i64 (S1.k : Int)) := hcs 0 _ rfl
      have q1 : w.cell? ⟨a, n * 7 + 1, none⟩ = some (.int .u64 a1) := by rw [← ha1]; exact hcs 1 _ rfl
      have q2 : w.cell? ⟨a, n * 7 + 2, none⟩ = some (.int .u64 a2) := by rw [← ha2]; exact hcs 2 _ rfl
      have q3 : w.cell? ⟨a, n * 7 + 3, none⟩ = some (.int .u64 a3) := by rw [← ha3]; exact hcs 3 _ rfl
      have q4 : w.cell? ⟨a, n * 7 + 4, none⟩ = some (.int .u64 a4) := by rw [← ha4]; exact hcs 4 _ rfl
      have q5 : w.cell? ⟨a, n * 7 + 5, none⟩ = some (.int .i64 (S1.nx : Int)) := hcs 5 _ rfl
      have q6 : w.cell? ⟨a, n * 7 + 6, none⟩ = some (.int .i64 (S1.ot : Int)) := hcs 6 _ rfl
      have HM1 := Aside0.mk hM1
      have HK1 := Aside0.mk hK1
      have HR1 := Aside0.mk hR1
      have hsl : (st.length : Int) = L := HZ.out.2
      clear hM1 hK1 hfr hmem hW1 hb hrc hRs hcs hS1 hcg ha1 ha2 ha3 ha4 hR1
      by_cases k1 : S1.k = 1
      · have hE : walkP st b e (k + 1) m n = walkP st b e k (walkP st b e k (m.set n true) S1.nx) S1.ot := by rw [walkP, if_neg (by rw [HS1.out.1]; simp), HS1.out.2.1, if_pos k1]
        have HE := Aside0.mk hE
        rw [k1] at q0
        clear hE k1
        go_wp2_with (first | (((with_reducible refine gate_dst (N := 10) rfl ?_); (try (refine gate_guard (by rfl) ?_; dsimp only)); refine box_event ?hg (N := 10) ?hd (cs := #[.int .i64 0, .int .u64 0, .int .u64 0, .int .u64 0, .int .u64 0, .int .i64 0, .int .i64 0]) (t := 100) ?hr ?_; (case hd => rfl); (case hg => rfl); (case hr => first | (go_simp; done) | (go_simp; rfl)); intro x ex wx hx lx; have Ex := Aside0.mk ex; clear ex); have z0' : wx.cell? ⟨x, 0, none⟩ = some (.int .i64 0) := (blk_cell hx 0).trans rfl; have z1' : wx.cell? ⟨x, 1, none⟩ = some (.int .u64 0) := (blk_cell hx 1).trans rfl; have z2' : wx.cell? ⟨x, 2, none⟩ = some (.int .u64 0) := (blk_cell hx 2).trans rfl; have z3' : wx.cell? ⟨x, 3, none⟩ = some (.int .u64 0) := (blk_cell hx 3).trans rfl; have z4' : wx.cell? ⟨x, 4, none⟩ = some (.int .u64 0) := (blk_cell hx 4).trans rfl; have z5' : wx.cell? ⟨x, 5, none⟩ = some (.int .i64 0) := (blk_cell hx 5).trans rfl; have z6' : wx.cell? ⟨x, 6, none⟩ = some (.int .i64 0) := (blk_cell hx 6).trans rfl; have fz0 := blk_frozen hx 0; have fz1 := blk_frozen hx 1; have fz2 := blk_frozen hx 2; have fz3 := blk_frozen hx 3; have fz4 := blk_frozen hx 4; have fz5 := blk_frozen hx 5; have fz6 := blk_frozen hx 6) | fail)
        have hxw : (w.setCell ⟨g, n, none⟩ (.bool true)).heap.size ≤ x := by have := Ex.out; omega
        have hB2 := ((((((lx.setCell (p := ⟨x, 0, none⟩) hxw (.int .i64 1)).setCell (p := ⟨x, 1, none⟩) hxw (.int .u64 a1)).setCell (p := ⟨x, 2, none⟩) hxw (.int .u64 a2)).setCell (p := ⟨x, 3, none⟩) hxw (.int .u64 a3)).setCell (p := ⟨x, 4, none⟩) hxw (.int .u64 a4)).setCell (p := ⟨x, 5, none⟩) hxw (.int .i64 (S1.nx : Int))).setCell (p := ⟨x, 6, none⟩) hxw (.int .i64 (S1.ot : Int))
        have hx7 := set7 hx (.int .i64 1) (.int .u64 a1) (.int .u64 a2) (.int .u64 a3) (.int .u64 a4) (.int .i64 (S1.nx : Int)) (.int .i64 (S1.ot : Int))
        obtain ⟨w2, hw2⟩ : ∃ w2, World.setCell (World.setCell (World.setCell (World.setCell (World.setCell (World.setCell (World.setCell wx ⟨x, 0, none⟩ (.int .i64 1)) ⟨x, 1, none⟩ (.int .u64 a1)) ⟨x, 2, none⟩ (.int .u64 a2)) ⟨x, 3, none⟩ (.int .u64 a3)) ⟨x, 4, none⟩ (.int .u64 a4)) ⟨x, 5, none⟩ (.int .i64 (S1.nx : Int))) ⟨x, 6, none⟩ (.int .i64 (S1.ot : Int)) = w2 := ⟨_, rfl⟩
        rw [hw2] at hB2 hx7
        rw [hw2]
        have HM2 := Aside0.mk (HM1.out.mkO hB2)
        have HR2 := Aside0.mk (HR1.out.below hB2)
        have HK2 := Aside0.mk (HK1.out.trans (Mk.of hB2))
        have hxg : x ≠ g := by obtain ⟨cs, hc⟩ := HM1.out.blk; have := blk_lt hc; omega
        clear hB2 hw2 z0' z1' z2' z3' z4' z5' z6' fz0 fz1 fz2 fz3 fz4 fz5 fz6 q0 q1 q2 q3 q4 q5 q6 y5 x0 f0 hx lx
        have ihc := HI.out w2 (m.set n true) S1.nx HF.out HS1.out.2.2.1 (by rw [List.length_set]; exact HH.out.2.2.1) HR2.out HM2.out
        rw [List.length_set, HH.out.2.2.1] at ihc
        refine ihc.mono ?_
        rintro y w3 ⟨rfl, hM3, hK3⟩
        have hx3 := (hK3.keep x (blk_lt hx7) hxg).trans hx7
        have v6 : w3.cell? ⟨x, 6, none⟩ = some (.int .i64 (S1.ot : Int)) := (blk_cell hx3 6).trans rfl
        have HR3 := Aside0.mk (HR2.out.mk hK3 HM2.out.blk)
        have HM3 := Aside0.mk hM3
        have HK3 := Aside0.mk (HK2.out.trans hK3)
        clear ihc hM3 hK3 hx3 hx7
        go_wp2_with (fail)
        have ihd := HI.out w3 (walkP st b e k (m.set n true) S1.nx) S1.ot (Nat.lt_of_le_of_lt (free_le _ _ _ _ _ _) HF.out) HS1.out.2.2.2 (by rw [walkP_len, List.length_set]; exact HH.out.2.2.1) HR3.out HM3.out
        rw [walkP_len, List.length_set, HH.out.2.2.1] at ihd
        refine ihd.mono ?_
        rintro y w4 ⟨rfl, hM4, hK4⟩
        have HM4 := Aside0.mk hM4
        have HK4 := Aside0.mk (HK3.out.trans hK4)
        clear ihd hM4 hK4
        go_wp2_with (fail)
        (try go_end0)
        exact ⟨rfl, by rw [HE.out]; exact HM4.out, HK4.out⟩
      · by_cases k2 : S1.k = 2
        · rw [k2] at q0
          have hE : walkP st b e (k + 1) m n = if b = true then walkP st b e k (m.set n true) S1.nx else m.set n true := by rw [walkP, if_neg (by rw [HS1.out.1]; simp), HS1.out.2.1, if_neg k1, if_pos k2]
          have HE := Aside0.mk hE
          clear hE k1 k2
          cases b with
          | true =>
            go_wp2_with (first | (((with_reducible refine gate_dst (N := 10) rfl ?_); (try (refine gate_guard (by rfl) ?_; dsimp only)); refine box_event ?hg (N := 10) ?hd (cs := #[.int .i64 0, .int .u64 0, .int .u64 0, .int .u64 0, .int .u64 0, .int .i64 0, .int .i64 0]) (t := 100) ?hr ?_; (case hd => rfl); (case hg => rfl); (case hr => first | (go_simp; done) | (go_simp; rfl)); intro x ex wx hx lx; have Ex := Aside0.mk ex; clear ex); have z0' : wx.cell? ⟨x, 0, none⟩ = some (.int .i64 0) := (blk_cell hx 0).trans rfl; have z1' : wx.cell? ⟨x, 1, none⟩ = some (.int .u64 0) := (blk_cell hx 1).trans rfl; have z2' : wx.cell? ⟨x, 2, none⟩ = some (.int .u64 0) := (blk_cell hx 2).trans rfl; have z3' : wx.cell? ⟨x, 3, none⟩ = some (.int .u64 0) := (blk_cell hx 3).trans rfl; have z4' : wx.cell? ⟨x, 4, none⟩ = some (.int .u64 0) := (blk_cell hx 4).trans rfl; have z5' : wx.cell? ⟨x, 5, none⟩ = some (.int .i64 0) := (blk_cell hx 5).trans rfl; have z6' : wx.cell? ⟨x, 6, none⟩ = some (.int .i64 0) := (blk_cell hx 6).trans rfl; have fz0 := blk_frozen hx 0; have fz1 := blk_frozen hx 1; have fz2 := blk_frozen hx 2; have fz3 := blk_frozen hx 3; have fz4 := blk_frozen hx 4; have fz5 := blk_frozen hx 5; have fz6 := blk_frozen hx 6) | fail)
            have hxw : (w.setCell ⟨g, n, none⟩ (.bool true)).heap.size ≤ x := by have := Ex.out; omega
            have hB2 := ((((((lx.setCell (p := ⟨x, 0, none⟩) hxw (.int .i64 2)).setCell (p := ⟨x, 1, none⟩) hxw (.int .u64 a1)).setCell (p := ⟨x, 2, none⟩) hxw (.int .u64 a2)).setCell (p := ⟨x, 3, none⟩) hxw (.int .u64 a3)).setCell (p := ⟨x, 4, none⟩) hxw (.int .u64 a4)).setCell (p := ⟨x, 5, none⟩) hxw (.int .i64 (S1.nx : Int))).setCell (p := ⟨x, 6, none⟩) hxw (.int .i64 (S1.ot : Int))
            have hx7 := set7 hx (.int .i64 2) (.int .u64 a1) (.int .u64 a2) (.int .u64 a3) (.int .u64 a4) (.int .i64 (S1.nx : Int)) (.int .i64 (S1.ot : Int))
            obtain ⟨w2, hw2⟩ : ∃ w2, World.setCell (World.setCell (World.setCell (World.setCell (World.setCell (World.setCell (World.setCell wx ⟨x, 0, none⟩ (.int .i64 2)) ⟨x, 1, none⟩ (.int .u64 a1)) ⟨x, 2, none⟩ (.int .u64 a2)) ⟨x, 3, none⟩ (.int .u64 a3)) ⟨x, 4, none⟩ (.int .u64 a4)) ⟨x, 5, none⟩ (.int .i64 (S1.nx : Int))) ⟨x, 6, none⟩ (.int .i64 (S1.ot : Int)) = w2 := ⟨_, rfl⟩
            rw [hw2] at hB2 hx7
            rw [hw2]
            have HM2 := Aside0.mk (HM1.out.mkO hB2)
            have HR2 := Aside0.mk (HR1.out.below hB2)
            have HK2 := Aside0.mk (HK1.out.trans (Mk.of hB2))
            have hxg : x ≠ g := by obtain ⟨cs, hc⟩ := HM1.out.blk; have := blk_lt hc; omega
            clear hB2 hw2 z0' z1' z2' z3' z4' z5' z6' fz0 fz1 fz2 fz3 fz4 fz5 fz6 q0 q1 q2 q3 q4 q5 q6 y5 x0 f0 hx lx
            have ihc := HI.out w2 (m.set n true) S1.nx HF.out HS1.out.2.2.1 (by rw [List.length_set]; exact HH.out.2.2.1) HR2.out HM2.out
            rw [List.length_set, HH.out.2.2.1] at ihc
            refine ihc.mono ?_
            rintro y w3 ⟨rfl, hM3, hK3⟩
            have HM3 := Aside0.mk hM3
            have HK3 := Aside0.mk (HK2.out.trans hK3)
            clear ihc hM3 hK3 hx7
            go_wp2_with (fail)
            (try go_end0)
            exact ⟨rfl, by rw [HE.out]; exact HM3.out, HK3.out⟩
          | false =>
            go_wp2_with (first | (((with_reducible refine gate_dst (N := 10) rfl ?_); (try (refine gate_guard (by rfl) ?_; dsimp only)); refine box_event ?hg (N := 10) ?hd (cs := #[.int .i64 0, .int .u64 0, .int .u64 0, .int .u64 0, .int .u64 0, .int .i64 0, .int .i64 0]) (t := 100) ?hr ?_; (case hd => rfl); (case hg => rfl); (case hr => first | (go_simp; done) | (go_simp; rfl)); intro x ex wx hx lx; have Ex := Aside0.mk ex; clear ex); have z0' : wx.cell? ⟨x, 0, none⟩ = some (.int .i64 0) := (blk_cell hx 0).trans rfl; have z1' : wx.cell? ⟨x, 1, none⟩ = some (.int .u64 0) := (blk_cell hx 1).trans rfl; have z2' : wx.cell? ⟨x, 2, none⟩ = some (.int .u64 0) := (blk_cell hx 2).trans rfl; have z3' : wx.cell? ⟨x, 3, none⟩ = some (.int .u64 0) := (blk_cell hx 3).trans rfl; have z4' : wx.cell? ⟨x, 4, none⟩ = some (.int .u64 0) := (blk_cell hx 4).trans rfl; have z5' : wx.cell? ⟨x, 5, none⟩ = some (.int .i64 0) := (blk_cell hx 5).trans rfl; have z6' : wx.cell? ⟨x, 6, none⟩ = some (.int .i64 0) := (blk_cell hx 6).trans rfl; have fz0 := blk_frozen hx 0; have fz1 := blk_frozen hx 1; have fz2 := blk_frozen hx 2; have fz3 := blk_frozen hx 3; have fz4 := blk_frozen hx 4; have fz5 := blk_frozen hx 5; have fz6 := blk_frozen hx 6) | fail)
            have hxw : (w.setCell ⟨g, n, none⟩ (.bool true)).heap.size ≤ x := by have := Ex.out; omega
            have hB2 := ((((((lx.setCell (p := ⟨x, 0, none⟩) hxw (.int .i64 2)).setCell (p := ⟨x, 1, none⟩) hxw (.int .u64 a1)).setCell (p := ⟨x, 2, none⟩) hxw (.int .u64 a2)).setCell (p := ⟨x, 3, none⟩) hxw (.int .u64 a3)).setCell (p := ⟨x, 4, none⟩) hxw (.int .u64 a4)).setCell (p := ⟨x, 5, none⟩) hxw (.int .i64 (S1.nx : Int))).setCell (p := ⟨x, 6, none⟩) hxw (.int .i64 (S1.ot : Int))
            have hx7 := set7 hx (.int .i64 2) (.int .u64 a1) (.int .u64 a2) (.int .u64 a3) (.int .u64 a4) (.int .i64 (S1.nx : Int)) (.int .i64 (S1.ot : Int))
            obtain ⟨w2, hw2⟩ : ∃ w2, World.setCell (World.setCell (World.setCell (World.setCell (World.setCell (World.setCell (World.setCell wx ⟨x, 0, none⟩ (.int .i64 2)) ⟨x, 1, none⟩ (.int .u64 a1)) ⟨x, 2, none⟩ (.int .u64 a2)) ⟨x, 3, none⟩ (.int .u64 a3)) ⟨x, 4, none⟩ (.int .u64 a4)) ⟨x, 5, none⟩ (.int .i64 (S1.nx : Int))) ⟨x, 6, none⟩ (.int .i64 (S1.ot : Int)) = w2 := ⟨_, rfl⟩
            rw [hw2] at hB2 hx7
            rw [hw2]
            have HM2 := Aside0.mk (HM1.out.mkO hB2)
            have HR2 := Aside0.mk (HR1.out.below hB2)
            have HK2 := Aside0.mk (HK1.out.trans (Mk.of hB2))
            have hxg : x ≠ g := by obtain ⟨cs, hc⟩ := HM1.out.blk; have := blk_lt hc; omega
            clear hB2 hw2 z0' z1' z2' z3' z4' z5' z6' fz0 fz1 fz2 fz3 fz4 fz5 fz6 q0 q1 q2 q3 q4 q5 q6 y5 x0 f0 hx lx
            (try go_end0)
            exact ⟨rfl, by rw [HE.out]; exact HM2.out, HK2.out⟩
        · by_cases k3 : S1.k = 3
          · rw [k3] at q0
            have hE : walkP st b e (k + 1) m n = if e = true then walkP st b e k (m.set n true) S1.nx else m.set n true := by rw [walkP, if_neg (by rw [HS1.out.1]; simp), HS1.out.2.1, if_neg k1, if_neg k2, if_pos k3]
            have HE := Aside0.mk hE
            clear hE k1 k2 k3
            cases e with
            | true =>
              go_wp2_with (first | (((with_reducible refine gate_dst (N := 10) rfl ?_); (try (refine gate_guard (by rfl) ?_; dsimp only)); refine box_event ?hg (N := 10) ?hd (cs := #[.int .i64 0, .int .u64 0, .int .u64 0, .int .u64 0, .int .u64 0, .int .i64 0, .int .i64 0]) (t := 100) ?hr ?_; (case hd => rfl); (case hg => rfl); (case hr => first | (go_simp; done) | (go_simp; rfl)); intro x ex wx hx lx; have Ex := Aside0.mk ex; clear ex); have z0' : wx.cell? ⟨x, 0, none⟩ = some (.int .i64 0) := (blk_cell hx 0).trans rfl; have z1' : wx.cell? ⟨x, 1, none⟩ = some (.int .u64 0) := (blk_cell hx 1).trans rfl; have z2' : wx.cell? ⟨x, 2, none⟩ = some (.int .u64 0) := (blk_cell hx 2).trans rfl; have z3' : wx.cell? ⟨x, 3, none⟩ = some (.int .u64 0) := (blk_cell hx 3).trans rfl; have z4' : wx.cell? ⟨x, 4, none⟩ = some (.int .u64 0) := (blk_cell hx 4).trans rfl; have z5' : wx.cell? ⟨x, 5, none⟩ = some (.int .i64 0) := (blk_cell hx 5).trans rfl; have z6' : wx.cell? ⟨x, 6, none⟩ = some (.int .i64 0) := (blk_cell hx 6).trans rfl; have fz0 := blk_frozen hx 0; have fz1 := blk_frozen hx 1; have fz2 := blk_frozen hx 2; have fz3 := blk_frozen hx 3; have fz4 := blk_frozen hx 4; have fz5 := blk_frozen hx 5; have fz6 := blk_frozen hx 6) | fail)
              have hxw : (w.setCell ⟨g, n, none⟩ (.bool true)).heap.size ≤ x := by have := Ex.out; omega
              have hB2 := ((((((lx.setCell (p := ⟨x, 0, none⟩) hxw (.int .i64 3)).setCell (p := ⟨x, 1, none⟩) hxw (.int .u64 a1)).setCell (p := ⟨x, 2, none⟩) hxw (.int .u64 a2)).setCell (p := ⟨x, 3, none⟩) hxw (.int .u64 a3)).setCell (p := ⟨x, 4, none⟩) hxw (.int .u64 a4)).setCell (p := ⟨x, 5, none⟩) hxw (.int .i64 (S1.nx : Int))).setCell (p := ⟨x, 6, none⟩) hxw (.int .i64 (S1.ot : Int))
              have hx7 := set7 hx (.int .i64 3) (.int .u64 a1) (.int .u64 a2) (.int .u64 a3) (.int .u64 a4) (.int .i64 (S1.nx : Int)) (.int .i64 (S1.ot : Int))
              obtain ⟨w2, hw2⟩ : ∃ w2, World.setCell (World.setCell (World.setCell (World.setCell (World.setCell (World.setCell (World.setCell wx ⟨x, 0, none⟩ (.int .i64 3)) ⟨x, 1, none⟩ (.int .u64 a1)) ⟨x, 2, none⟩ (.int .u64 a2)) ⟨x, 3, none⟩ (.int .u64 a3)) ⟨x, 4, none⟩ (.int .u64 a4)) ⟨x, 5, none⟩ (.int .i64 (S1.nx : Int))) ⟨x, 6, none⟩ (.int .i64 (S1.ot : Int)) = w2 := ⟨_, rfl⟩
              rw [hw2] at hB2 hx7
              rw [hw2]
              have HM2 := Aside0.mk (HM1.out.mkO hB2)
              have HR2 := Aside0.mk (HR1.out.below hB2)
              have HK2 := Aside0.mk (HK1.out.trans (Mk.of hB2))
              have hxg : x ≠ g := by obtain ⟨cs, hc⟩ := HM1.out.blk; have := blk_lt hc; omega
              clear hB2 hw2 z0' z1' z2' z3' z4' z5' z6' fz0 fz1 fz2 fz3 fz4 fz5 fz6 q0 q1 q2 q3 q4 q5 q6 y5 x0 f0 hx lx
              have ihc := HI.out w2 (m.set n true) S1.nx HF.out HS1.out.2.2.1 (by rw [List.length_set]; exact HH.out.2.2.1) HR2.out HM2.out
              rw [List.length_set, HH.out.2.2.1] at ihc
              refine ihc.mono ?_
              rintro y w3 ⟨rfl, hM3, hK3⟩
              have HM3 := Aside0.mk hM3
              have HK3 := Aside0.mk (HK2.out.trans hK3)
              clear ihc hM3 hK3 hx7
              go_wp2_with (fail)
              (try go_end0)
              exact ⟨rfl, by rw [HE.out]; exact HM3.out, HK3.out⟩
            | false =>
              go_wp2_with (first | (((with_reducible refine gate_dst (N := 10) rfl ?_); (try (refine gate_guard (by rfl) ?_; dsimp only)); refine box_event ?hg (N := 10) ?hd (cs := #[.int .i64 0, .int .u64 0, .int .u64 0, .int .u64 0, .int .u64 0, .int .i64 0, .int .i64 0]) (t := 100) ?hr ?_; (case hd => rfl); (case hg => rfl); (case hr => first | (go_simp; done) | (go_simp; rfl)); intro x ex wx hx lx; have Ex := Aside0.mk ex; clear ex); have z0' : wx.cell? ⟨x, 0, none⟩ = some (.int .i64 0) := (blk_cell hx 0).trans rfl; have z1' : wx.cell? ⟨x, 1, none⟩ = some (.int .u64 0) := (blk_cell hx 1).trans rfl; have z2' : wx.cell? ⟨x, 2, none⟩ = some (.int .u64 0) := (blk_cell hx 2).trans rfl; have z3' : wx.cell? ⟨x, 3, none⟩ = some (.int .u64 0) := (blk_cell hx 3).trans rfl; have z4' : wx.cell? ⟨x, 4, none⟩ = some (.int .u64 0) := (blk_cell hx 4).trans rfl; have z5' : wx.cell? ⟨x, 5, none⟩ = some (.int .i64 0) := (blk_cell hx 5).trans rfl; have z6' : wx.cell? ⟨x, 6, none⟩ = some (.int .i64 0) := (blk_cell hx 6).trans rfl; have fz0 := blk_frozen hx 0; have fz1 := blk_frozen hx 1; have fz2 := blk_frozen hx 2; have fz3 := blk_frozen hx 3; have fz4 := blk_frozen hx 4; have fz5 := blk_frozen hx 5; have fz6 := blk_frozen hx 6) | fail)
              have hxw : (w.setCell ⟨g, n, none⟩ (.bool true)).heap.size ≤ x := by have := Ex.out; omega
              have hB2 := ((((((lx.setCell (p := ⟨x, 0, none⟩) hxw (.int .i64 3)).setCell (p := ⟨x, 1, none⟩) hxw (.int .u64 a1)).setCell (p := ⟨x, 2, none⟩) hxw (.int .u64 a2)).setCell (p := ⟨x, 3, none⟩) hxw (.int .u64 a3)).setCell (p := ⟨x, 4, none⟩) hxw (.int .u64 a4)).setCell (p := ⟨x, 5, none⟩) hxw (.int .i64 (S1.nx : Int))).setCell (p := ⟨x, 6, none⟩) hxw (.int .i64 (S1.ot : Int))
              have hx7 := set7 hx (.int .i64 3) (.int .u64 a1) (.int .u64 a2) (.int .u64 a3) (.int .u64 a4) (.int .i64 (S1.nx : Int)) (.int .i64 (S1.ot : Int))
              obtain ⟨w2, hw2⟩ : ∃ w2, World.setCell (World.setCell (World.setCell (World.setCell (World.setCell (World.setCell (World.setCell wx ⟨x, 0, none⟩ (.int .i64 3)) ⟨x, 1, none⟩ (.int .u64 a1)) ⟨x, 2, none⟩ (.int .u64 a2)) ⟨x, 3, none⟩ (.int .u64 a3)) ⟨x, 4, none⟩ (.int .u64 a4)) ⟨x, 5, none⟩ (.int .i64 (S1.nx : Int))) ⟨x, 6, none⟩ (.int .i64 (S1.ot : Int)) = w2 := ⟨_, rfl⟩
              rw [hw2] at hB2 hx7
              rw [hw2]
              have HM2 := Aside0.mk (HM1.out.mkO hB2)
              have HR2 := Aside0.mk (HR1.out.below hB2)
              have HK2 := Aside0.mk (HK1.out.trans (Mk.of hB2))
              have hxg : x ≠ g := by obtain ⟨cs, hc⟩ := HM1.out.blk; have := blk_lt hc; omega
              clear hB2 hw2 z0' z1' z2' z3' z4' z5' z6' fz0 fz1 fz2 fz3 fz4 fz5 fz6 q0 q1 q2 q3 q4 q5 q6 y5 x0 f0 hx lx
              (try go_end0)
              exact ⟨rfl, by rw [HE.out]; exact HM2.out, HK2.out⟩
          · have hE : walkP st b e (k + 1) m n = m.set n true := by rw [walkP, if_neg (by rw [HS1.out.1]; simp), HS1.out.2.1, if_neg k1, if_neg k2, if_neg k3]
            have HE := Aside0.mk hE
            obtain ⟨kz, hkz⟩ : ∃ kz : Int, (S1.k : Int) = kz := ⟨_, rfl⟩
            rw [hkz] at q0
            have e1 : (kz == 1) = false := beq_false_of_ne (by omega)
            have e2 : (kz == 2) = false := beq_false_of_ne (by omega)
            have e3 : (kz == 3) = false := beq_false_of_ne (by omega)
            clear hE k1 k2 k3 hkz
            go_wp2_with (first | (((with_reducible refine gate_dst (N := 10) rfl ?_); (try (refine gate_guard (by rfl) ?_; dsimp only)); refine box_event ?hg (N := 10) ?hd (cs := #[.int .i64 0, .int .u64 0, .int .u64 0, .int .u64 0, .int .u64 0, .int .i64 0, .int .i64 0]) (t := 100) ?hr ?_; (case hd => rfl); (case hg => rfl); (case hr => first | (go_simp; done) | (go_simp; rfl)); intro x ex wx hx lx; have Ex := Aside0.mk ex; clear ex); have z0' : wx.cell? ⟨x, 0, none⟩ = some (.int .i64 0) := (blk_cell hx 0).trans rfl; have z1' : wx.cell? ⟨x, 1, none⟩ = some (.int .u64 0) := (blk_cell hx 1).trans rfl; have z2' : wx.cell? ⟨x, 2, none⟩ = some (.int .u64 0) := (blk_cell hx 2).trans rfl; have z3' : wx.cell? ⟨x, 3, none⟩ = some (.int .u64 0) := (blk_cell hx 3).trans rfl; have z4' : wx.cell? ⟨x, 4, none⟩ = some (.int .u64 0) := (blk_cell hx 4).trans rfl; have z5' : wx.cell? ⟨x, 5, none⟩ = some (.int .i64 0) := (blk_cell hx 5).trans rfl; have z6' : wx.cell? ⟨x, 6, none⟩ = some (.int .i64 0) := (blk_cell hx 6).trans rfl; have fz0 := blk_frozen hx 0; have fz1 := blk_frozen hx 1; have fz2 := blk_frozen hx 2; have fz3 := blk_frozen hx 3; have fz4 := blk_frozen hx 4; have fz5 := blk_frozen hx 5; have fz6 := blk_frozen hx 6) | fail)
            have hxw : (w.setCell ⟨g, n, none⟩ (.bool true)).heap.size ≤ x := by have := Ex.out; omega
            have hB2 := ((((((lx.setCell (p := ⟨x, 0, none⟩) hxw (.int .i64 kz)).setCell (p := ⟨x, 1, none⟩) hxw (.int .u64 a1)).setCell (p := ⟨x, 2, none⟩) hxw (.int .u64 a2)).setCell (p := ⟨x, 3, none⟩) hxw (.int .u64 a3)).setCell (p := ⟨x, 4, none⟩) hxw (.int .u64 a4)).setCell (p := ⟨x, 5, none⟩) hxw (.int .i64 (S1.nx : Int))).setCell (p := ⟨x, 6, none⟩) hxw (.int .i64 (S1.ot : Int))
            have hx7 := set7 hx (.int .i64 kz) (.int .u64 a1) (.int .u64 a2) (.int .u64 a3) (.int .u64 a4) (.int .i64 (S1.nx : Int)) (.int .i64 (S1.ot : Int))
            obtain ⟨w2, hw2⟩ : ∃ w2, World.setCell (World.setCell (World.setCell (World.setCell (World.setCell (World.setCell (World.setCell wx ⟨x, 0, none⟩ (.int .i64 kz)) ⟨x, 1, none⟩ (.int .u64 a1)) ⟨x, 2, none⟩ (.int .u64 a2)) ⟨x, 3, none⟩ (.int .u64 a3)) ⟨x, 4, none⟩ (.int .u64 a4)) ⟨x, 5, none⟩ (.int .i64 (S1.nx : Int))) ⟨x, 6, none⟩ (.int .i64 (S1.ot : Int)) = w2 := ⟨_, rfl⟩
            rw [hw2] at hB2 hx7
            rw [hw2]
            have HM2 := Aside0.mk (HM1.out.mkO hB2)
            have HR2 := Aside0.mk (HR1.out.below hB2)
            have HK2 := Aside0.mk (HK1.out.trans (Mk.of hB2))
            have hxg : x ≠ g := by obtain ⟨cs, hc⟩ := HM1.out.blk; have := blk_lt hc; omega
            clear hB2 hw2 z0' z1' z2' z3' z4' z5' z6' fz0 fz1 fz2 fz3 fz4 fz5 fz6 q0 q1 q2 q3 q4 q5 q6 y5 x0 f0 hx lx
            (try go_end0)
            exact ⟨rfl, by rw [HE.out]; exact HM2.out, HK2.out⟩
end Go.Proofs.Ytnjpdhekeffpnaa.Rx
