/- Steps gone through in memory: marks; walked. -/
import Derived.Test.YtnjpdhekeffpnaaRxP
import Derived.Test.YtnjpdhekeffpnaaRxW
import Derived.Test.YtnjpdhekeffpnaaRxT
import Derived.Tactics
import Derived.Tactics2
import Derived.Defers
import Derived.Laws.Pointers
import Derived.Laws.LoneSync
import Derived.RegionTactic
import Derived.RegionCalls
import Derived.ChangeAlike
set_option linter.unusedVariables false
set_option linter.unusedSimpArgs false
namespace Go.Proofs.Ytnjpdhekeffpnaa.Rx
open Go.RowKit Go.Proofs.YtnjpdhekeffpnaaW.PrintWords Go.Proofs.YtnjpdhekeffpnaaW.PrintLast Go.Proofs.YtnjpdhekeffpnaaW.PrintMore

abbrev TR : Nat := 58
abbrev TO : Nat := 4
/-- an expression whose steps are found: its cells -/
def RgB (s : ByteArray) (v : Value) (first : Nat) : Array Value := #[.string s, .bool true, .int .u32 1, .int .i32 0, .int .u32 0, v, .int .i64 (first : Int)]
def RgAt (w : World) (r : Nat) (s : ByteArray) (st : List Stp) (first : Nat) : Prop := ∃ v, w.heap[r]? = some (.cells (RgB s v first) TR (0, 0)) ∧ Kd.R kst TS w 0 (fun _ => True) v st
def MarkAt (w : World) (g c : Nat) (m : List Bool) : Prop := Kd.R Kd.bool TO w 0 (fun _ => True) (.slice (some ⟨g, 0, none⟩) m.length c) m
/-- all that was there stays, but one block -/
structure Mk (g : Nat) (w w' : World) : Prop where
  below : ∀ B, B ≤ g → B ≤ w.heap.size → Below B w w'
  keep : ∀ k, k < w.heap.size → k ≠ g → w'.heap[k]? = w.heap[k]?
theorem Mk.refl (g : Nat) (w : World) : Mk g w w := ⟨fun _ _ _ => Below.refl _ _, fun _ _ _ => rfl⟩
theorem Mk.size {g : Nat} {w w' : World} (h : Mk g w w') : w.heap.size ≤ w'.heap.size := (h.below 0 (Nat.zero_le _) (Nat.zero_le _)).size
theorem Mk.trans {g : Nat} {a b c : World} (h : Mk g a b) (k : Mk g b c) : Mk g a c :=
  ⟨fun B h1 h2 => (h.below B h1 h2).trans (k.below B h1 (Nat.le_trans h2 h.size)), fun q h1 h2 => (k.keep q (Nat.lt_of_lt_of_le h1 h.size) h2).trans (h.keep q h1 h2)⟩
theorem Mk.of {g : Nat} {w w' : World} (h : Below w.heap.size w w') : Mk g w w' := ⟨fun B _ h2 => below_then (Below.refl _ _) h2 h, fun k hk _ => h.block k hk⟩
theorem Mk.new {g x : Nat} {w w' : World} (h : Mk g w w') (hx : w.heap.size ≤ x) (j : Nat) (u : Value) : Mk g w (w'.setCell ⟨x, j, none⟩ u) :=
  ⟨fun B h1 h2 => (h.below B h1 h2).setCell (p := ⟨x, j, none⟩) (Nat.le_trans h2 hx) u, fun k hk hne => (Below.heap_setCell w' ⟨x, j, none⟩ u k (by show k ≠ x; omega)).trans (h.keep k hk hne)⟩
theorem RgAt.mk {w w' : World} {r g : Nat} {s : ByteArray} {st : List Stp} {first : Nat} (h : RgAt w r s st first) (k : Mk g w w') (hg : ∃ cs, w.heap[g]? = some (.cells cs TO (0, 0))) : RgAt w' r s st first := by
  obtain ⟨v, h1, h2⟩ := h
  obtain ⟨cs, hg⟩ := hg
  have hrg : r ≠ g := by rintro rfl; rw [hg] at h1; injection h1 with h1; injection h1 with _ h1; cases h1
  exact ⟨v, (k.keep r (blk_lt h1) hrg).trans h1, Kd.R_mono (Kd.R_step (Kd.R_types h2 hg (fun q hq => by rcases List.mem_cons.1 hq with rfl | hq; (· decide); (· cases hq))) (fun q ho hq => k.keep q hq ho.2)) (fun _ _ => trivial)⟩
theorem RgAt.below {w w' : World} {r : Nat} {s : ByteArray} {st : List Stp} {first : Nat} (h : RgAt w r s st first) (hb : Below w.heap.size w w') : RgAt w' r s st first := by
  obtain ⟨v, h1, h2⟩ := h
  exact ⟨v, blk_below h1 hb, Kd.R_below h2 hb⟩
theorem MarkAt.blk {w : World} {g c : Nat} {m : List Bool} (h : MarkAt w g c m) : ∃ cs, w.heap[g]? = some (.cells cs TO (0, 0)) := by
  obtain ⟨_, inner, ho, _⟩ := h
  exact own_typed ho g rfl
theorem MarkAt.at {w : World} {g c : Nat} {m : List Bool} (h : MarkAt w g c m) (n : Nat) (hn : n < m.length) : w.cell? ⟨g, n, none⟩ = some (.bool (m.getD n true)) := by
  obtain ⟨_, _, hC⟩ := Kd.R_reads' h
  obtain ⟨ad, e, hc⟩ := hC.2.2 (by omega)
  obtain ⟨cc, _, hk, hcell⟩ := hc n m[n] (List.getElem?_eq_getElem hn)
  injection e with e
  subst e
  have := hcell 0 (.bool m[n]) (by rw [show cc = [.bool m[n]] from hk]; rfl)
  rw [add_plain] at this
  simpa [Kd.bool, Kd.scalar, List.getD_eq_getElem?_getD, List.getElem?_eq_getElem hn] using this
theorem MarkAt.set {w : World} {g c : Nat} {m : List Bool} (h : MarkAt w g c m) (n : Nat) : MarkAt (w.setCell ⟨g, n, none⟩ (.bool true)) g c (m.set n true) := by
  have ho := Kd.own_of_R (enc := Value.bool) (h1 := fun _ => rfl) h
  have hs := (ho.stored n (.bool true)).1
  have he : (encs Value.bool m).set n (.bool true) = encs Value.bool (m.set n true) := by simp [encs, List.map_set]
  rw [he] at hs
  have hl : (m.set n true).length = m.length := List.length_set
  unfold MarkAt
  rw [hl]
  refine Kd.R_of_own (enc := Value.bool) (h1 := fun _ => rfl) ?_ (fun k hk => trivial)
  rw [hl]; exact hs
theorem set7 {wx : World} {x : Nat} {cs : Array Value} (hx : wx.heap[x]? = some (.cells cs 100 (0, 0))) (c0 c1 c2 c3 c4 c5 c6 : Value) (hc : cs = #[.int .i64 0, .int .u64 0, .int .u64 0, .int .u64 0, .int .u64 0, .int .i64 0, .int .i64 0] := by rfl) :
    (((((((wx.setCell ⟨x, 0, none⟩ c0).setCell ⟨x, 1, none⟩ c1).setCell ⟨x, 2, none⟩ c2).setCell ⟨x, 3, none⟩ c3).setCell ⟨x, 4, none⟩ c4).setCell ⟨x, 5, none⟩ c5).setCell ⟨x, 6, none⟩ c6).heap[x]? = some (.cells #[c0, c1, c2, c3, c4, c5, c6] 100 (0, 0)) := by
  subst hc
  have := blk_set (blk_set (blk_set (blk_set (blk_set (blk_set (blk_set hx 0 c0) 1 c1) 2 c2) 3 c3) 4 c4) 5 c5) 6 c6
  simpa using this
theorem MarkAt.mkO {w w' : World} {g c : Nat} {m : List Bool} (h : MarkAt w g c m) (hb : Below w.heap.size w w') : MarkAt w' g c m := Kd.R_below h hb
theorem Mk.set {g : Nat} {w w' : World} (h : Mk g w w') (j : Nat) (u : Value) : Mk g w (w'.setCell ⟨g, j, none⟩ u) :=
  ⟨fun B h1 h2 => (h.below B h1 h2).setCell (p := ⟨g, j, none⟩) h1 u, fun k hk hne => (Below.heap_setCell w' ⟨g, j, none⟩ u k hne).trans (h.keep k hk hne)⟩
set_option maxHeartbeats 16000000 in
set_option maxRecDepth 100000 in
theorem walkRW (r : Nat) (s : ByteArray) (st : List Stp) (first : Nat) (b e : Bool) (hwf : WfS st) (hl : st.length ≤ 1000000) (g c : Nat) : ∀ (k : Nat) (w : World) (m : List Bool) (n : Nat), free m < k → n < st.length → m.length = st.length → RgAt w r s st first → MarkAt w g c m →
    Calls Try.prog 44 #[.pointer (some ⟨r, 0, none⟩), .slice (some ⟨g, 0, none⟩) m.length c, .int .i64 (n : Int), .bool b, .bool e] w fun x w' => x = .returned (.tuple #[]) ∧ MarkAt w' g c (walkP st b e k m n) ∧ Mk g w w'
  | 0, w, m, n, hk, _, _, _, _ => by omega
  | k + 1, w, m, n, hk, hn, hm, hR, hM => by
    have hu58 := Try.underlying58
    have hu100 := Try.underlying100
    have ih := walkRW r s st first b e hwf hl g c k
    have HI := Aside0.mk ih
    have HH := Aside0.mk (⟨hk, hn, hm, hwf, hl⟩ : free m < k + 1 ∧ n < st.length ∧ m.length = st.length ∧ WfS st ∧ st.length ≤ 1000000)
    obtain ⟨z, hz⟩ : ∃ z : Int, (n : Int) = z := ⟨_, rfl⟩
    obtain ⟨L, hL⟩ : ∃ L : Int, (st.length : Int) = L := ⟨_, rfl⟩
    have z0 : 0 ≤ z := by omega
    have z1 : z < L := by omega
    have zn : z.toNat = n := by omega
    have x0 : w.cell? ⟨g, n, none⟩ = some (.bool (m.getD n true)) := hM.at n (by omega)
    obtain ⟨csg, hcg⟩ := hM.blk
    have f0 := blk_frozen hcg n
    have HR := Aside0.mk hR
    have HM := Aside0.mk hM
    have HZ := Aside0.mk (⟨hz, hL⟩ : (n : Int) = z ∧ (st.length : Int) = L)
    rw [hz]
    have hmL : (m.length : Int) = L := by omega
    clear ih hk hn hR hM hcg hz hL hwf hl
    go_enter Try.func44, Try.ntmps44
    cases hb : m.getD n true with
    | true =>
      rw [hb] at x0
      have HE := Aside0.mk (show walkP st b e (k + 1) m n = m by rw [walkP, if_pos hb])
      clear hm hb
      go_wp2_with (fail)
      (try go_wp2_with (fail))
      refine bodyPost_ret (results_none rfl _ _ _) rfl ?_
      exact ⟨rfl, by rw [HE.out]; exact HM.out, Mk.refl _ _⟩
    | false =>
      rw [hb] at x0
      have hM1 := HM.out.set n
      have hK1 := (Mk.refl g w).set n (.bool true)
      have hR1 := HR.out.mk hK1 HM.out.blk
      have hfr := free_set m n hb
      have HF := Aside0.mk (show free (m.set n true) < k by have := HH.out.1; omega)
      obtain ⟨S1, hS1⟩ : ∃ x, stp st n = x := ⟨_, rfl⟩
      have hmem : st[n]'HH.out.2.1 = S1 := by rw [← hS1]; simp [stp, List.getD_eq_getElem?_getD, List.getElem?_eq_getElem HH.out.2.1]
      have hW1 := HH.out.2.2.2.1 (st[n]'HH.out.2.1) (List.getElem_mem _)
      rw [hmem] at hW1
      have HS1 := Aside0.mk (⟨hb, hS1, hW1⟩ : m.getD n true = false ∧ stp st n = S1 ∧ S1.nx < st.length ∧ S1.ot < st.length)
      obtain ⟨vst, hrc, hRs⟩ := HR.out
      obtain ⟨a, ca, rfl, -⟩ := Kd.R_form hRs (by have := HH.out.2.1; omega)
      have hcs := kst_cells (Kd.R_reads' hRs).2.2 n HH.out.2.1
      rw [hmem, Int.toNat_natCast, kst_sz] at hcs
      obtain ⟨csg, hcg⟩ := HM.out.blk
      have nrg : r ≠ g := by rintro rfl; rw [hcg] at hrc; injection hrc with hrc; injection hrc with _ hrc; cases hrc
      have nag : a ≠ g := fun e => Kd.R_ne hRs hcg (by decide) (by rw [← e]; rfl)
      have y5 : w.cell? ⟨r, 5, none⟩ = some (.slice (some ⟨a, 0, none⟩) st.length ca) := (blk_cell hrc 5).trans rfl
      obtain ⟨a1, ha1⟩ : ∃ x, wd S1.m 0 = x := ⟨_, rfl⟩
      obtain ⟨a2, ha2⟩ : ∃ x, wd S1.m 1 = x := ⟨_, rfl⟩
      obtain ⟨a3, ha3⟩ : ∃ x, wd S1.m 2 = x := ⟨_, rfl⟩
      obtain ⟨a4, ha4⟩ : ∃ x, wd S1.m 3 = x := ⟨_, rfl⟩
      have q0 : w.cell? ⟨a, n * 7, none⟩ = some (.int .i64 (S1.k : Int)) := hcs 0 _ rfl
      have q1 : w.cell? ⟨a, n * 7 + 1, none⟩ = some (.int .u64 a1) := by rw [← ha1]; exact hcs 1 _ rfl
      have q2 : w.cell? ⟨a, n * 7 + 2, none⟩ = some (.int .u64 a2) := by rw [← ha2]; exact hcs 2 _ rfl
      have q3 : w.cell? ⟨a, n * 7 + 3, none⟩ = some (.int .u64 a3) := by rw [← ha3]; exact hcs 3 _ rfl
      have q4 : w.cell? ⟨a, n * 7 + 4, none⟩ = some (.int .u64 a4) := by rw [← ha4]; exact hcs 4 _ rfl
      have q5 : w.cell? ⟨a, n * 7 + 5, none⟩ = some (.int .i64 (S1.nx : Int)) := hcs 5 _ rfl
      have q6 : w.cell? ⟨a, n * 7 + 6, none⟩ = some (.int .i64 (S1.ot : Int)) := hcs 6 _ rfl
      have HM1 := Aside0.mk hM1
      have HK1 := Aside0.mk hK1
      have HR1 := Aside0.mk hR1
      have hsl : (st.length : Int) = L := HZ.out.2
      clear hM1 hK1 hfr hmem hW1 hb hrc hRs hcs hS1 hcg ha1 ha2 ha3 ha4 hR1
      by_cases k1 : S1.k = 1
      · have hE : walkP st b e (k + 1) m n = walkP st b e k (walkP st b e k (m.set n true) S1.nx) S1.ot := by rw [walkP, if_neg (by rw [HS1.out.1]; simp), HS1.out.2.1, if_pos k1]
        have HE := Aside0.mk hE
        rw [k1] at q0
        clear hE k1
        go_wp2_with (first | (((with_reducible refine gate_dst (N := 10) rfl ?_); (try (refine gate_guard (by rfl) ?_; dsimp only)); refine box_event ?hg (N := 10) ?hd (cs := #[.int .i64 0, .int .u64 0, .int .u64 0, .int .u64 0, .int .u64 0, .int .i64 0, .int .i64 0]) (t := 100) ?hr ?_; (case hd => rfl); (case hg => rfl); (case hr => first | (go_simp; done) | (go_simp; rfl)); intro x ex wx hx lx; have Ex := Aside0.mk ex; clear ex); have z0' : wx.cell? ⟨x, 0, none⟩ = some (.int .i64 0) := (blk_cell hx 0).trans rfl; have z1' : wx.cell? ⟨x, 1, none⟩ = some (.int .u64 0) := (blk_cell hx 1).trans rfl; have z2' : wx.cell? ⟨x, 2, none⟩ = some (.int .u64 0) := (blk_cell hx 2).trans rfl; have z3' : wx.cell? ⟨x, 3, none⟩ = some (.int .u64 0) := (blk_cell hx 3).trans rfl; have z4' : wx.cell? ⟨x, 4, none⟩ = some (.int .u64 0) := (blk_cell hx 4).trans rfl; have z5' : wx.cell? ⟨x, 5, none⟩ = some (.int .i64 0) := (blk_cell hx 5).trans rfl; have z6' : wx.cell? ⟨x, 6, none⟩ = some (.int .i64 0) := (blk_cell hx 6).trans rfl; have fz0 := blk_frozen hx 0; have fz1 := blk_frozen hx 1; have fz2 := blk_frozen hx 2; have fz3 := blk_frozen hx 3; have fz4 := blk_frozen hx 4; have fz5 := blk_frozen hx 5; have fz6 := blk_frozen hx 6) | fail)
        have hxw : (w.setCell ⟨g, n, none⟩ (.bool true)).heap.size ≤ x := by have := Ex.out; omega
        have hB2 := ((((((lx.setCell (p := ⟨x, 0, none⟩) hxw (.int .i64 1)).setCell (p := ⟨x, 1, none⟩) hxw (.int .u64 a1)).setCell (p := ⟨x, 2, none⟩) hxw (.int .u64 a2)).setCell (p := ⟨x, 3, none⟩) hxw (.int .u64 a3)).setCell (p := ⟨x, 4, none⟩) hxw (.int .u64 a4)).setCell (p := ⟨x, 5, none⟩) hxw (.int .i64 (S1.nx : Int))).setCell (p := ⟨x, 6, none⟩) hxw (.int .i64 (S1.ot : Int))
        have hx7 := set7 hx (.int .i64 1) (.int .u64 a1) (.int .u64 a2) (.int .u64 a3) (.int .u64 a4) (.int .i64 (S1.nx : Int)) (.int .i64 (S1.ot : Int))
        obtain ⟨w2, hw2⟩ : ∃ w2, World.setCell (World.setCell (World.setCell (World.setCell (World.setCell (World.setCell (World.setCell wx ⟨x, 0, none⟩ (.int .i64 1)) ⟨x, 1, none⟩ (.int .u64 a1)) ⟨x, 2, none⟩ (.int .u64 a2)) ⟨x, 3, none⟩ (.int .u64 a3)) ⟨x, 4, none⟩ (.int .u64 a4)) ⟨x, 5, none⟩ (.int .i64 (S1.nx : Int))) ⟨x, 6, none⟩ (.int .i64 (S1.ot : Int)) = w2 := ⟨_, rfl⟩
        rw [hw2] at hB2 hx7
        rw [hw2]
        have HM2 := Aside0.mk (HM1.out.mkO hB2)
        have HR2 := Aside0.mk (HR1.out.below hB2)
        have HK2 := Aside0.mk (HK1.out.trans (Mk.of hB2))
        have hxg : x ≠ g := by obtain ⟨cs, hc⟩ := HM1.out.blk; have := blk_lt hc; omega
        clear hB2 hw2 z0' z1' z2' z3' z4' z5' z6' fz0 fz1 fz2 fz3 fz4 fz5 fz6 q0 q1 q2 q3 q4 q5 q6 y5 x0 f0 hx lx
        have ihc := HI.out w2 (m.set n true) S1.nx HF.out HS1.out.2.2.1 (by rw [List.length_set]; exact HH.out.2.2.1) HR2.out HM2.out
        rw [List.length_set, HH.out.2.2.1] at ihc
        refine ihc.mono ?_
        rintro y w3 ⟨rfl, hM3, hK3⟩
        have hx3 := (hK3.keep x (blk_lt hx7) hxg).trans hx7
        have v6 : w3.cell? ⟨x, 6, none⟩ = some (.int .i64 (S1.ot : Int)) := (blk_cell hx3 6).trans rfl
        have HR3 := Aside0.mk (HR2.out.mk hK3 HM2.out.blk)
        have HM3 := Aside0.mk hM3
        have HK3 := Aside0.mk (HK2.out.trans hK3)
        clear ihc hM3 hK3 hx3 hx7
        go_wp2_with (fail)
        have ihd := HI.out w3 (walkP st b e k (m.set n true) S1.nx) S1.ot (Nat.lt_of_le_of_lt (free_le _ _ _ _ _ _) HF.out) HS1.out.2.2.2 (by rw [walkP_len, List.length_set]; exact HH.out.2.2.1) HR3.out HM3.out
        rw [walkP_len, List.length_set, HH.out.2.2.1] at ihd
        refine ihd.mono ?_
        rintro y w4 ⟨rfl, hM4, hK4⟩
        have HM4 := Aside0.mk hM4
        have HK4 := Aside0.mk (HK3.out.trans hK4)
        clear ihd hM4 hK4
        go_wp2_with (fail)
        (try go_end0)
        exact ⟨rfl, by rw [HE.out]; exact HM4.out, HK4.out⟩
      · by_cases k2 : S1.k = 2
        · rw [k2] at q0
          have hE : walkP st b e (k + 1) m n = if b = true then walkP st b e k (m.set n true) S1.nx else m.set n true := by rw [walkP, if_neg (by rw [HS1.out.1]; simp), HS1.out.2.1, if_neg k1, if_pos k2]
          have HE := Aside0.mk hE
          clear hE k1 k2
          cases b with
          | true =>
            go_wp2_with (first | (((with_reducible refine gate_dst (N := 10) rfl ?_); (try (refine gate_guard (by rfl) ?_; dsimp only)); refine box_event ?hg (N := 10) ?hd (cs := #[.int .i64 0, .int .u64 0, .int .u64 0, .int .u64 0, .int .u64 0, .int .i64 0, .int .i64 0]) (t := 100) ?hr ?_; (case hd => rfl); (case hg => rfl); (case hr => first | (go_simp; done) | (go_simp; rfl)); intro x ex wx hx lx; have Ex := Aside0.mk ex; clear ex); have z0' : wx.cell? ⟨x, 0, none⟩ = some (.int .i64 0) := (blk_cell hx 0).trans rfl; have z1' : wx.cell? ⟨x, 1, none⟩ = some (.int .u64 0) := (blk_cell hx 1).trans rfl; have z2' : wx.cell? ⟨x, 2, none⟩ = some (.int .u64 0) := (blk_cell hx 2).trans rfl; have z3' : wx.cell? ⟨x, 3, none⟩ = some (.int .u64 0) := (blk_cell hx 3).trans rfl; have z4' : wx.cell? ⟨x, 4, none⟩ = some (.int .u64 0) := (blk_cell hx 4).trans rfl; have z5' : wx.cell? ⟨x, 5, none⟩ = some (.int .i64 0) := (blk_cell hx 5).trans rfl; have z6' : wx.cell? ⟨x, 6, none⟩ = some (.int .i64 0) := (blk_cell hx 6).trans rfl; have fz0 := blk_frozen hx 0; have fz1 := blk_frozen hx 1; have fz2 := blk_frozen hx 2; have fz3 := blk_frozen hx 3; have fz4 := blk_frozen hx 4; have fz5 := blk_frozen hx 5; have fz6 := blk_frozen hx 6) | fail)
            have hxw : (w.setCell ⟨g, n, none⟩ (.bool true)).heap.size ≤ x := by have := Ex.out; omega
            have hB2 := ((((((lx.setCell (p := ⟨x, 0, none⟩) hxw (.int .i64 2)).setCell (p := ⟨x, 1, none⟩) hxw (.int .u64 a1)).setCell (p := ⟨x, 2, none⟩) hxw (.int .u64 a2)).setCell (p := ⟨x, 3, none⟩) hxw (.int .u64 a3)).setCell (p := ⟨x, 4, none⟩) hxw (.int .u64 a4)).setCell (p := ⟨x, 5, none⟩) hxw (.int .i64 (S1.nx : Int))).setCell (p := ⟨x, 6, none⟩) hxw (.int .i64 (S1.ot : Int))
            have hx7 := set7 hx (.int .i64 2) (.int .u64 a1) (.int .u64 a2) (.int .u64 a3) (.int .u64 a4) (.int .i64 (S1.nx : Int)) (.int .i64 (S1.ot : Int))
            obtain ⟨w2, hw2⟩ : ∃ w2, World.setCell (World.setCell (World.setCell (World.setCell (World.setCell (World.setCell (World.setCell wx ⟨x, 0, none⟩ (.int .i64 2)) ⟨x, 1, none⟩ (.int .u64 a1)) ⟨x, 2, none⟩ (.int .u64 a2)) ⟨x, 3, none⟩ (.int .u64 a3)) ⟨x, 4, none⟩ (.int .u64 a4)) ⟨x, 5, none⟩ (.int .i64 (S1.nx : Int))) ⟨x, 6, none⟩ (.int .i64 (S1.ot : Int)) = w2 := ⟨_, rfl⟩
            rw [hw2] at hB2 hx7
            rw [hw2]
            have HM2 := Aside0.mk (HM1.out.mkO hB2)
            have HR2 := Aside0.mk (HR1.out.below hB2)
            have HK2 := Aside0.mk (HK1.out.trans (Mk.of hB2))
            have hxg : x ≠ g := by obtain ⟨cs, hc⟩ := HM1.out.blk; have := blk_lt hc; omega
            clear hB2 hw2 z0' z1' z2' z3' z4' z5' z6' fz0 fz1 fz2 fz3 fz4 fz5 fz6 q0 q1 q2 q3 q4 q5 q6 y5 x0 f0 hx lx
            have ihc := HI.out w2 (m.set n true) S1.nx HF.out HS1.out.2.2.1 (by rw [List.length_set]; exact HH.out.2.2.1) HR2.out HM2.out
            rw [List.length_set, HH.out.2.2.1] at ihc
            refine ihc.mono ?_
            rintro y w3 ⟨rfl, hM3, hK3⟩
            have HM3 := Aside0.mk hM3
            have HK3 := Aside0.mk (HK2.out.trans hK3)
            clear ihc hM3 hK3 hx7
            go_wp2_with (fail)
            (try go_end0)
            exact ⟨rfl, by rw [HE.out]; exact HM3.out, HK3.out⟩
          | false =>
            go_wp2_with (first | (((with_reducible refine gate_dst (N := 10) rfl ?_); (try (refine gate_guard (by rfl) ?_; dsimp only)); refine box_event ?hg (N := 10) ?hd (cs := #[.int .i64 0, .int .u64 0, .int .u64 0, .int .u64 0, .int .u64 0, .int .i64 0, .int .i64 0]) (t := 100) ?hr ?_; (case hd => rfl); (case hg => rfl); (case hr => first | (go_simp; done) | (go_simp; rfl)); intro x ex wx hx lx; have Ex := Aside0.mk ex; clear ex); have z0' : wx.cell? ⟨x, 0, none⟩ = some (.int .i64 0) := (blk_cell hx 0).trans rfl; have z1' : wx.cell? ⟨x, 1, none⟩ = some (.int .u64 0) := (blk_cell hx 1).trans rfl; have z2' : wx.cell? ⟨x, 2, none⟩ = some (.int .u64 0) := (blk_cell hx 2).trans rfl; have z3' : wx.cell? ⟨x, 3, none⟩ = some (.int .u64 0) := (blk_cell hx 3).trans rfl; have z4' : wx.cell? ⟨x, 4, none⟩ = some (.int .u64 0) := (blk_cell hx 4).trans rfl; have z5' : wx.cell? ⟨x, 5, none⟩ = some (.int .i64 0) := (blk_cell hx 5).trans rfl; have z6' : wx.cell? ⟨x, 6, none⟩ = some (.int .i64 0) := (blk_cell hx 6).trans rfl; have fz0 := blk_frozen hx 0; have fz1 := blk_frozen hx 1; have fz2 := blk_frozen hx 2; have fz3 := blk_frozen hx 3; have fz4 := blk_frozen hx 4; have fz5 := blk_frozen hx 5; have fz6 := blk_frozen hx 6) | fail)
            have hxw : (w.setCell ⟨g, n, none⟩ (.bool true)).heap.size ≤ x := by have := Ex.out; omega
            have hB2 := ((((((lx.setCell (p := ⟨x, 0, none⟩) hxw (.int .i64 2)).setCell (p := ⟨x, 1, none⟩) hxw (.int .u64 a1)).setCell (p := ⟨x, 2, none⟩) hxw (.int .u64 a2)).setCell (p := ⟨x, 3, none⟩) hxw (.int .u64 a3)).setCell (p := ⟨x, 4, none⟩) hxw (.int .u64 a4)).setCell (p := ⟨x, 5, none⟩) hxw (.int .i64 (S1.nx : Int))).setCell (p := ⟨x, 6, none⟩) hxw (.int .i64 (S1.ot : Int))
            have hx7 := set7 hx (.int .i64 2) (.int .u64 a1) (.int .u64 a2) (.int .u64 a3) (.int .u64 a4) (.int .i64 (S1.nx : Int)) (.int .i64 (S1.ot : Int))
            obtain ⟨w2, hw2⟩ : ∃ w2, World.setCell (World.setCell (World.setCell (World.setCell (World.setCell (World.setCell (World.setCell wx ⟨x, 0, none⟩ (.int .i64 2)) ⟨x, 1, none⟩ (.int .u64 a1)) ⟨x, 2, none⟩ (.int .u64 a2)) ⟨x, 3, none⟩ (.int .u64 a3)) ⟨x, 4, none⟩ (.int .u64 a4)) ⟨x, 5, none⟩ (.int .i64 (S1.nx : Int))) ⟨x, 6, none⟩ (.int .i64 (S1.ot : Int)) = w2 := ⟨_, rfl⟩
            rw [hw2] at hB2 hx7
            rw [hw2]
            have HM2 := Aside0.mk (HM1.out.mkO hB2)
            have HR2 := Aside0.mk (HR1.out.below hB2)
            have HK2 := Aside0.mk (HK1.out.trans (Mk.of hB2))
            have hxg : x ≠ g := by obtain ⟨cs, hc⟩ := HM1.out.blk; have := blk_lt hc; omega
            clear hB2 hw2 z0' z1' z2' z3' z4' z5' z6' fz0 fz1 fz2 fz3 fz4 fz5 fz6 q0 q1 q2 q3 q4 q5 q6 y5 x0 f0 hx lx
            (try go_end0)
            exact ⟨rfl, by rw [HE.out]; exact HM2.out, HK2.out⟩
        · by_cases k3 : S1.k = 3
          · rw [k3] at q0
            have hE : walkP st b e (k + 1) m n = if e = true then walkP st b e k (m.set n true) S1.nx else m.set n true := by rw [walkP, if_neg (by rw [HS1.out.1]; simp), HS1.out.2.1, if_neg k1, if_neg k2, if_pos k3]
            have HE := Aside0.mk hE
            clear hE k1 k2 k3
            cases e with
            | true =>
              go_wp2_with (first | (((with_reducible refine gate_dst (N := 10) rfl ?_); (try (refine gate_guard (by rfl) ?_; dsimp only)); refine box_event ?hg (N := 10) ?hd (cs := #[.int .i64 0, .int .u64 0, .int .u64 0, .int .u64 0, .int .u64 0, .int .i64 0, .int .i64 0]) (t := 100) ?hr ?_; (case hd => rfl); (case hg => rfl); (case hr => first | (go_simp; done) | (go_simp; rfl)); intro x ex wx hx lx; have Ex := Aside0.mk ex; clear ex); have z0' : wx.cell? ⟨x, 0, none⟩ = some (.int .i64 0) := (blk_cell hx 0).trans rfl; have z1' : wx.cell? ⟨x, 1, none⟩ = some (.int .u64 0) := (blk_cell hx 1).trans rfl; have z2' : wx.cell? ⟨x, 2, none⟩ = some (.int .u64 0) := (blk_cell hx 2).trans rfl; have z3' : wx.cell? ⟨x, 3, none⟩ = some (.int .u64 0) := (blk_cell hx 3).trans rfl; have z4' : wx.cell? ⟨x, 4, none⟩ = some (.int .u64 0) := (blk_cell hx 4).trans rfl; have z5' : wx.cell? ⟨x, 5, none⟩ = some (.int .i64 0) := (blk_cell hx 5).trans rfl; have z6' : wx.cell? ⟨x, 6, none⟩ = some (.int .i64 0) := (blk_cell hx 6).trans rfl; have fz0 := blk_frozen hx 0; have fz1 := blk_frozen hx 1; have fz2 := blk_frozen hx 2; have fz3 := blk_frozen hx 3; have fz4 := blk_frozen hx 4; have fz5 := blk_frozen hx 5; have fz6 := blk_frozen hx 6) | fail)
              have hxw : (w.setCell ⟨g, n, none⟩ (.bool true)).heap.size ≤ x := by have := Ex.out; omega
              have hB2 := ((((((lx.setCell (p := ⟨x, 0, none⟩) hxw (.int .i64 3)).setCell (p := ⟨x, 1, none⟩) hxw (.int .u64 a1)).setCell (p := ⟨x, 2, none⟩) hxw (.int .u64 a2)).setCell (p := ⟨x, 3, none⟩) hxw (.int .u64 a3)).setCell (p := ⟨x, 4, none⟩) hxw (.int .u64 a4)).setCell (p := ⟨x, 5, none⟩) hxw (.int .i64 (S1.nx : Int))).setCell (p := ⟨x, 6, none⟩) hxw (.int .i64 (S1.ot : Int))
              have hx7 := set7 hx (.int .i64 3) (.int .u64 a1) (.int .u64 a2) (.int .u64 a3) (.int .u64 a4) (.int .i64 (S1.nx : Int)) (.int .i64 (S1.ot : Int))
              obtain ⟨w2, hw2⟩ : ∃ w2, World.setCell (World.setCell (World.setCell (World.setCell (World.setCell (World.setCell (World.setCell wx ⟨x, 0, none⟩ (.int .i64 3)) ⟨x, 1, none⟩ (.int .u64 a1)) ⟨x, 2, none⟩ (.int .u64 a2)) ⟨x, 3, none⟩ (.int .u64 a3)) ⟨x, 4, none⟩ (.int .u64 a4)) ⟨x, 5, none⟩ (.int .i64 (S1.nx : Int))) ⟨x, 6, none⟩ (.int .i64 (S1.ot : Int)) = w2 := ⟨_, rfl⟩
              rw [hw2] at hB2 hx7
              rw [hw2]
              have HM2 := Aside0.mk (HM1.out.mkO hB2)
              have HR2 := Aside0.mk (HR1.out.below hB2)
              have HK2 := Aside0.mk (HK1.out.trans (Mk.of hB2))
              have hxg : x ≠ g := by obtain ⟨cs, hc⟩ := HM1.out.blk; have := blk_lt hc; omega
              clear hB2 hw2 z0' z1' z2' z3' z4' z5' z6' fz0 fz1 fz2 fz3 fz4 fz5 fz6 q0 q1 q2 q3 q4 q5 q6 y5 x0 f0 hx lx
              have ihc := HI.out w2 (m.set n true) S1.nx HF.out HS1.out.2.2.1 (by rw [List.length_set]; exact HH.out.2.2.1) HR2.out HM2.out
              rw [List.length_set, HH.out.2.2.1] at ihc
              refine ihc.mono ?_
              rintro y w3 ⟨rfl, hM3, hK3⟩
              have HM3 := Aside0.mk hM3
              have HK3 := Aside0.mk (HK2.out.trans hK3)
              clear ihc hM3 hK3 hx7
              go_wp2_with (fail)
              (try go_end0)
              exact ⟨rfl, by rw [HE.out]; exact HM3.out, HK3.out⟩
            | false =>
              go_wp2_with (first | (((with_reducible refine gate_dst (N := 10) rfl ?_); (try (refine gate_guard (by rfl) ?_; dsimp only)); refine box_event ?hg (N := 10) ?hd (cs := #[.int .i64 0, .int .u64 0, .int .u64 0, .int .u64 0, .int .u64 0, .int .i64 0, .int .i64 0]) (t := 100) ?hr ?_; (case hd => rfl); (case hg => rfl); (case hr => first | (go_simp; done) | (go_simp; rfl)); intro x ex wx hx lx; have Ex := Aside0.mk ex; clear ex); have z0' : wx.cell? ⟨x, 0, none⟩ = some (.int .i64 0) := (blk_cell hx 0).trans rfl; have z1' : wx.cell? ⟨x, 1, none⟩ = some (.int .u64 0) := (blk_cell hx 1).trans rfl; have z2' : wx.cell? ⟨x, 2, none⟩ = some (.int .u64 0) := (blk_cell hx 2).trans rfl; have z3' : wx.cell? ⟨x, 3, none⟩ = some (.int .u64 0) := (blk_cell hx 3).trans rfl; have z4' : wx.cell? ⟨x, 4, none⟩ = some (.int .u64 0) := (blk_cell hx 4).trans rfl; have z5' : wx.cell? ⟨x, 5, none⟩ = some (.int .i64 0) := (blk_cell hx 5).trans rfl; have z6' : wx.cell? ⟨x, 6, none⟩ = some (.int .i64 0) := (blk_cell hx 6).trans rfl; have fz0 := blk_frozen hx 0; have fz1 := blk_frozen hx 1; have fz2 := blk_frozen hx 2; have fz3 := blk_frozen hx 3; have fz4 := blk_frozen hx 4; have fz5 := blk_frozen hx 5; have fz6 := blk_frozen hx 6) | fail)
              have hxw : (w.setCell ⟨g, n, none⟩ (.bool true)).heap.size ≤ x := by have := Ex.out; omega
              have hB2 := ((((((lx.setCell (p := ⟨x, 0, none⟩) hxw (.int .i64 3)).setCell (p := ⟨x, 1, none⟩) hxw (.int .u64 a1)).setCell (p := ⟨x, 2, none⟩) hxw (.int .u64 a2)).setCell (p := ⟨x, 3, none⟩) hxw (.int .u64 a3)).setCell (p := ⟨x, 4, none⟩) hxw (.int .u64 a4)).setCell (p := ⟨x, 5, none⟩) hxw (.int .i64 (S1.nx : Int))).setCell (p := ⟨x, 6, none⟩) hxw (.int .i64 (S1.ot : Int))
              have hx7 := set7 hx (.int .i64 3) (.int .u64 a1) (.int .u64 a2) (.int .u64 a3) (.int .u64 a4) (.int .i64 (S1.nx : Int)) (.int .i64 (S1.ot : Int))
              obtain ⟨w2, hw2⟩ : ∃ w2, World.setCell (World.setCell (World.setCell (World.setCell (World.setCell (World.setCell (World.setCell wx ⟨x, 0, none⟩ (.int .i64 3)) ⟨x, 1, none⟩ (.int .u64 a1)) ⟨x, 2, none⟩ (.int .u64 a2)) ⟨x, 3, none⟩ (.int .u64 a3)) ⟨x, 4, none⟩ (.int .u64 a4)) ⟨x, 5, none⟩ (.int .i64 (S1.nx : Int))) ⟨x, 6, none⟩ (.int .i64 (S1.ot : Int)) = w2 := ⟨_, rfl⟩
              rw [hw2] at hB2 hx7
              rw [hw2]
              have HM2 := Aside0.mk (HM1.out.mkO hB2)
              have HR2 := Aside0.mk (HR1.out.below hB2)
              have HK2 := Aside0.mk (HK1.out.trans (Mk.of hB2))
              have hxg : x ≠ g := by obtain ⟨cs, hc⟩ := HM1.out.blk; have := blk_lt hc; omega
              clear hB2 hw2 z0' z1' z2' z3' z4' z5' z6' fz0 fz1 fz2 fz3 fz4 fz5 fz6 q0 q1 q2 q3 q4 q5 q6 y5 x0 f0 hx lx
              (try go_end0)
              exact ⟨rfl, by rw [HE.out]; exact HM2.out, HK2.out⟩
          · have hE : walkP st b e (k + 1) m n = m.set n true := by rw [walkP, if_neg (by rw [HS1.out.1]; simp), HS1.out.2.1, if_neg k1, if_neg k2, if_neg k3]
            have HE := Aside0.mk hE
            obtain ⟨kz, hkz⟩ : ∃ kz : Int, (S1.k : Int) = kz := ⟨_, rfl⟩
            rw [hkz] at q0
            have e1 : (kz == 1) = false := beq_false_of_ne (by omega)
            have e2 : (kz == 2) = false := beq_false_of_ne (by omega)
            have e3 : (kz == 3) = false := beq_false_of_ne (by omega)
            clear hE k1 k2 k3 hkz
            go_wp2_with (first | (((with_reducible refine gate_dst (N := 10) rfl ?_); (try (refine gate_guard (by rfl) ?_; dsimp only)); refine box_event ?hg (N := 10) ?hd (cs := #[.int .i64 0, .int .u64 0, .int .u64 0, .int .u64 0, .int .u64 0, .int .i64 0, .int .i64 0]) (t := 100) ?hr ?_; (case hd => rfl); (case hg => rfl); (case hr => first | (go_simp; done) | (go_simp; rfl)); intro x ex wx hx lx; have Ex := Aside0.mk ex; clear ex); have z0' : wx.cell? ⟨x, 0, none⟩ = some (.int .i64 0) := (blk_cell hx 0).trans rfl; have z1' : wx.cell? ⟨x, 1, none⟩ = some (.int .u64 0) := (blk_cell hx 1).trans rfl; have z2' : wx.cell? ⟨x, 2, none⟩ = some (.int .u64 0) := (blk_cell hx 2).trans rfl; have z3' : wx.cell? ⟨x, 3, none⟩ = some (.int .u64 0) := (blk_cell hx 3).trans rfl; have z4' : wx.cell? ⟨x, 4, none⟩ = some (.int .u64 0) := (blk_cell hx 4).trans rfl; have z5' : wx.cell? ⟨x, 5, none⟩ = some (.int .i64 0) := (blk_cell hx 5).trans rfl; have z6' : wx.cell? ⟨x, 6, none⟩ = some (.int .i64 0) := (blk_cell hx 6).trans rfl; have fz0 := blk_frozen hx 0; have fz1 := blk_frozen hx 1; have fz2 := blk_frozen hx 2; have fz3 := blk_frozen hx 3; have fz4 := blk_frozen hx 4; have fz5 := blk_frozen hx 5; have fz6 := blk_frozen hx 6) | fail)
            have hxw : (w.setCell ⟨g, n, none⟩ (.bool true)).heap.size ≤ x := by have := Ex.out; omega
            have hB2 := ((((((lx.setCell (p := ⟨x, 0, none⟩) hxw (.int .i64 kz)).setCell (p := ⟨x, 1, none⟩) hxw (.int .u64 a1)).setCell (p := ⟨x, 2, none⟩) hxw (.int .u64 a2)).setCell (p := ⟨x, 3, none⟩) hxw (.int .u64 a3)).setCell (p := ⟨x, 4, none⟩) hxw (.int .u64 a4)).setCell (p := ⟨x, 5, none⟩) hxw (.int .i64 (S1.nx : Int))).setCell (p := ⟨x, 6, none⟩) hxw (.int .i64 (S1.ot : Int))
            have hx7 := set7 hx (.int .i64 kz) (.int .u64 a1) (.int .u64 a2) (.int .u64 a3) (.int .u64 a4) (.int .i64 (S1.nx : Int)) (.int .i64 (S1.ot : Int))
            obtain ⟨w2, hw2⟩ : ∃ w2, World.setCell (World.setCell (World.setCell (World.setCell (World.setCell (World.setCell (World.setCell wx ⟨x, 0, none⟩ (.int .i64 kz)) ⟨x, 1, none⟩ (.int .u64 a1)) ⟨x, 2, none⟩ (.int .u64 a2)) ⟨x, 3, none⟩ (.int .u64 a3)) ⟨x, 4, none⟩ (.int .u64 a4)) ⟨x, 5, none⟩ (.int .i64 (S1.nx : Int))) ⟨x, 6, none⟩ (.int .i64 (S1.ot : Int)) = w2 := ⟨_, rfl⟩
            rw [hw2] at hB2 hx7
            rw [hw2]
            have HM2 := Aside0.mk (HM1.out.mkO hB2)
            have HR2 := Aside0.mk (HR1.out.below hB2)
            have HK2 := Aside0.mk (HK1.out.trans (Mk.of hB2))
            have hxg : x ≠ g := by obtain ⟨cs, hc⟩ := HM1.out.blk; have := blk_lt hc; omega
            clear hB2 hw2 z0' z1' z2' z3' z4' z5' z6' fz0 fz1 fz2 fz3 fz4 fz5 fz6 q0 q1 q2 q3 q4 q5 q6 y5 x0 f0 hx lx
            (try go_end0)
            exact ⟨rfl, by rw [HE.out]; exact HM2.out, HK2.out⟩
end Go.Proofs.Ytnjpdhekeffpnaa.Rx
set_option linter.unusedVariables false
set_option linter.unusedSimpArgs false
namespace Go.Proofs.Ytnjpdhekeffpnaa.Rx
open Go.RowKit Go.Proofs.YtnjpdhekeffpnaaW.PrintWords Go.Proofs.YtnjpdhekeffpnaaW.PrintLast Go.Proofs.YtnjpdhekeffpnaaW.PrintMore

theorem thOk (base b : Nat) (s : ByteArray) (hs : s.size ≤ 200) : ∀ (d : Nat), d ≤ 16 → ThOk base b s (16 - d) (thB s d)
  | 0, _ => fun W S h h0 ha hl => thingW base b s 16 _ hs (fun W S at_ h _ _ => groupW0 W base b s S at_ h) W S h h0 ha hl
  | d + 1, hd => by
    have ih := thOk base b s hs d (by omega)
    have hw : WysOk base b s (16 - (d + 1) + 1) (waysB s d) := by
      intro W S h ha hl
      rw [show 16 - (d + 1) + 1 = 16 - d by omega, waysB_eq]
      exact waysW base b s (16 - d) (thB s d) hs ih (thB_gr s d) (fun S h => Nat.le_trans (thB_up s d S h) (by omega)) (thB_pos s d) W S h ha hl
    intro W S h h0 ha hl
    exact thingW base b s (16 - (d + 1)) (grpF (waysB s d) s) hs (fun W S at_ h ha hl => groupW1 base b s (16 - (d + 1)) (waysB s d) (by omega) hs hw (fun S h => Nat.le_trans (waysB_up s d S (by omega)) (by omega)) W S at_ h ha hl) W S h h0 ha hl
theorem waysTop (base b : Nat) (s : ByteArray) (hs : s.size ≤ 200) (W : World) (S : BS) (h : BAt W base b s S) (ha : S.at_ ≤ s.size + 20) (hl : S.st.length ≤ 4 * S.at_ + 2) :
    Calls Try.prog 23 #[.pointer (some ⟨b, 0, none⟩), .int .i64 0] W fun r W' => PartAt W W' base b s (waysB s 16 S) r := by
  rw [waysB_eq]
  exact waysW base b s 0 (thB s 16) hs (thOk base b s hs 16 (by omega)) (thB_gr s 16) (fun S h => Nat.le_trans (thB_up s 16 S h) (by omega)) (thB_pos s 16) W S h ha hl
/-- an expression that nobody has asked yet, in block r -/
def RgC (s : ByteArray) : Array Value := #[.string s, .bool true, .int .u32 0, .int .i32 0, .int .u32 0, .slice none 0 0, .int .i64 0]
/-- a fault's numbers -/
def fV (F : Option (Nat × Nat)) : Value := .agg #[.int .i64 (eW F), .int .i64 (eA F)]
theorem ret_fault {w w6 : World} {p : Nat} {x y : Value} (hp : w6.heap[p]? = some (.cells #[x, y] 26 (0, 0))) (hpw : w.heap.size ≤ p) (hF : Below w.heap.size w w6) (a c : Int) :
    ∀ w7, w7 = (w6.setCell ⟨p, 0, none⟩ (.int .i64 a)).setCell ⟨p, 1, none⟩ (.int .i64 c) → w7.cell? ⟨p, 0, none⟩ = some (.int .i64 a) ∧ w7.cell? ⟨p, 1, none⟩ = some (.int .i64 c) ∧ Below w.heap.size w w7 := by
  rintro w7 rfl
  have h1 := blk_set hp 0 (.int .i64 a)
  have h2 := blk_set h1 1 (.int .i64 c)
  have e : ((#[x, y] : Array Value).setIfInBounds 0 (.int .i64 a)).setIfInBounds 1 (.int .i64 c) = #[.int .i64 a, .int .i64 c] := by simp
  rw [e] at h2
  exact ⟨(blk_cell h2 0).trans rfl, (blk_cell h2 1).trans rfl, (hF.setCell (p := ⟨p, 0, none⟩) hpw _).setCell (p := ⟨p, 1, none⟩) hpw _⟩
/-- what Compile answers -/
def CompPost (w w' : World) (s : ByteArray) (e : Ending) : Prop :=
  (match faultB s with
    | some F => e = .returned (.tuple #[.pointer none, fV (some F)])
    | none => ∃ r, w.heap.size ≤ r ∧ w'.heap[r]? = some (.cells (RgC s) TR (0, 0)) ∧ e = .returned (.tuple #[.pointer (some ⟨r, 0, none⟩), fV none])) ∧ Below w.heap.size w w'
set_option maxHeartbeats 8000000 in
set_option maxRecDepth 100000 in
theorem compileW (w : World) (s : ByteArray) (hsz : s.size ≤ 140737488355327) : Calls Try.prog 11 #[.string s] w fun e w' => CompPost w w' s e := by
  have hu26 := Try.underlying26
  have hu69 := Try.underlying69
  have hu58 := Try.underlying58
  have HSZ := Aside0.mk hsz
  clear hsz
  go_enter Try.func11, Try.ntmps11
  by_cases hs : s.size ≤ 200
  · have d0 : decide ((200 : Int) < (s.size : Int)) = false := decide_eq_false (by omega)
    have HH := Aside0.mk hs
    clear hs
    go_wp2_with (first
      | ((with_reducible refine gate_dst (N := 3) rfl ?_); (try (refine gate_guard (by rfl) ?_; dsimp only)); refine box_event ?hg (N := 3) ?hd (cs := #[.int .i64 0, .int .i64 0]) (t := 26) ?hr ?_; (case hd => rfl); (case hg => rfl); (case hr => first | (go_simp; done) | (go_simp; rfl)); intro p ep wp hp lp; have Ep := Aside0.mk ep; clear ep)
      | ((with_reducible refine gate_dst (N := 11) rfl ?_); (try (refine gate_guard (by rfl) ?_; dsimp only)); refine box_event ?hg (N := 11) ?hd (cs := #[.string s, .int .i64 0, .int .i64 0, .int .i64 0, .int .i64 0, .slice none 0 0]) (t := 69) ?hr ?_; (case hd => rfl); (case hg => rfl); (case hr => first | (go_simp; done) | (go_simp; rfl)); intro b eb wb hb lb; have Eb := Aside0.mk eb; clear eb)
      | fail)
    have hB0 : BAt wb w.heap.size b s ⟨0, none, []⟩ := ⟨by have := Eb.out; have := lp.size; omega, _, hb, Kd.R_nil _ _ _ _ _⟩
    have HPB := Aside0.mk (⟨by have := Eb.out; have := blk_lt hp; omega, by have := Ep.out; omega⟩ : p ≠ b ∧ w.heap.size ≤ p)
    have HBw := Aside0.mk (below_then lp lp.size lb)
    have ih := waysTop w.heap.size b s HH.out wb _ hB0 (by show 0 ≤ _; omega) (by show 0 ≤ _; omega)
    have hE : waysB s 16 ⟨0, none, []⟩ = readB s := rfl
    rw [hE] at ih
    clear hE
    obtain ⟨K, hK⟩ : ∃ K, readB s = K := ⟨_, rfl⟩
    rw [hK] at ih
    refine ih.mono ?_
    rintro e w2 ⟨v2, rfl, -, hB2, hF2⟩
    have HP2 := Aside0.mk (hF2.blk (blk_below hp lb) HPB.out.1 (by simp) (by decide))
    have HF2 := Aside0.mk (HBw.out.trans hF2.below)
    have hFB : faultB s = (if K.2.at_ < s.size then wrongB 2 K.2.at_ K.2 else K.2).F := by rw [faultB, if_neg (by have := HH.out; omega), hK]
    obtain ⟨k0, k2⟩ := K
    obtain ⟨za, zF, zst⟩ := k2
    dsimp only at hFB hB2
    have HB2 := Aside0.mk hB2
    have hbk := hB2.2.choose_spec.1
    have x1 : w2.cell? ⟨b, 1, none⟩ = some (.int .i64 za) := (blk_cell hbk 1).trans rfl
    have x3 : w2.cell? ⟨b, 3, none⟩ = some (.int .i64 (eW zF)) := (blk_cell hbk 3).trans rfl
    have x4 : w2.cell? ⟨b, 4, none⟩ = some (.int .i64 (eA zF)) := (blk_cell hbk 4).trans rfl
    have hp := HP2.out
    have p0 : w2.cell? ⟨p, 0, none⟩ = some (.int .i64 0) := (blk_cell hp 0).trans rfl
    have p1 : w2.cell? ⟨p, 1, none⟩ = some (.int .i64 0) := (blk_cell hp 1).trans rfl
    have f0 := blk_frozen hp 0
    have f1 := blk_frozen hp 1
    clear hbk hB2 hF2 hB0 hK hb lp lb ih hp
    cases zF with
    | some f =>
      obtain ⟨f1', f2'⟩ := f
      have hFB2 : faultB s = some (f1', f2') := by
        rw [hFB]; split
        · rfl
        · rfl
      have HFB := Aside0.mk hFB2
      have e3 : ((f1' : Int) + 1 == 0) = false := beq_false_of_ne (by omega)
      change w2.cell? ⟨b, 3, none⟩ = some (.int .i64 ((f1' : Int) + 1)) at x3
      change w2.cell? ⟨b, 4, none⟩ = some (.int .i64 (f2' : Int)) at x4
      clear hFB hFB2
      go_wp2_with (fail)
      go_region
      all_goals
        have hr := ret_fault HP2.out HPB.out.2 HF2.out ((f1' : Int) + 1) (f2' : Int) _ rfl
        (obtain ⟨w9, hw9⟩ : ∃ w9, World.setCell (World.setCell w2 ⟨p, 0, none⟩ (.int .i64 ((f1' : Int) + 1))) ⟨p, 1, none⟩ (.int .i64 ((f2' : Int))) = w9 := ⟨_, rfl⟩; (try go_wp2_with (fail)); (try simp only [Exit.inBlock, Exit.then]); rw [hw9] at hr; (try rw [hw9]); obtain ⟨c0, c1, hFr⟩ := hr; refine bodyPost_ret (by simp [results, Try.results11, go_sem, c0, c1, hu26]; try rfl) rfl ?_)
        rw [CompPost, HFB.out]
        exact ⟨rfl, by first | exact hFr | exact below_drew hFr⟩
    | none =>
      change w2.cell? ⟨b, 3, none⟩ = some (.int .i64 0) at x3
      change w2.cell? ⟨b, 4, none⟩ = some (.int .i64 0) at x4
      by_cases hat : za < s.size
      · rw [if_pos hat] at hFB
        have HFB := Aside0.mk (show faultB s = some (2, za) from hFB)
        have hww := wrongW w2 w.heap.size b s ⟨za, none, zst⟩ 2 za HB2.out
        obtain ⟨z, hz⟩ : ∃ z : Int, (za : Int) = z := ⟨_, rfl⟩
        rw [hz] at x1 hww
        have d1 : decide (z < (s.size : Int)) = true := decide_eq_true (by omega)
        have HZ := Aside0.mk hz
        clear hFB hat hz
        go_wp2_with (fail)
        refine hww.mono ?_
        rintro e w3 ⟨rfl, hB3, hF3⟩
        have HP3 := Aside0.mk (hF3.blk HP2.out HPB.out.1 (by simp) (by decide))
        have HF3 := Aside0.mk (HF2.out.trans hF3.below)
        have hbk := hB3.2.choose_spec.1
        clear x3 x4 p0 p1 f0 f1 x1
        have x3 : w3.cell? ⟨b, 3, none⟩ = some (.int .i64 3) := (blk_cell hbk 3).trans rfl
        have x4 : w3.cell? ⟨b, 4, none⟩ = some (.int .i64 z) := by rw [← HZ.out]; exact (blk_cell hbk 4).trans rfl
        have hp := HP3.out
        have p0 : w3.cell? ⟨p, 0, none⟩ = some (.int .i64 0) := (blk_cell hp 0).trans rfl
        have p1 : w3.cell? ⟨p, 1, none⟩ = some (.int .i64 0) := (blk_cell hp 1).trans rfl
        have f0 := blk_frozen hp 0
        have f1 := blk_frozen hp 1
        clear hbk hB3 hF3 hp
        go_wp2_with (fail)
        go_region
        all_goals
          have hr := ret_fault HP3.out HPB.out.2 HF3.out 3 z _ rfl
          (obtain ⟨w9, hw9⟩ : ∃ w9, World.setCell (World.setCell w3 ⟨p, 0, none⟩ (.int .i64 (3))) ⟨p, 1, none⟩ (.int .i64 (z)) = w9 := ⟨_, rfl⟩; (try go_wp2_with (fail)); (try simp only [Exit.inBlock, Exit.then]); rw [hw9] at hr; (try rw [hw9]); obtain ⟨c0, c1, hFr⟩ := hr; refine bodyPost_ret (by simp [results, Try.results11, go_sem, c0, c1, hu26]; try rfl) rfl ?_)
          rw [CompPost, HFB.out]
          refine ⟨?_, by first | exact hFr | exact below_drew hFr⟩
          rw [← HZ.out]
          rfl
      · rw [if_neg hat] at hFB
        have HFB := Aside0.mk (show faultB s = none from hFB)
        obtain ⟨z, hz⟩ : ∃ z : Int, (za : Int) = z := ⟨_, rfl⟩
        rw [hz] at x1
        have d1 : decide (z < (s.size : Int)) = false := decide_eq_false (by omega)
        clear hFB hat hz
        go_wp2_with (first
          | (((with_reducible refine gate_dst (N := 47) rfl ?_); (try (refine gate_guard (by rfl) ?_; dsimp only)); refine box_event ?hg (N := 47) ?hd (cs := #[.string s, .bool true, .int .u32 0, .int .i32 0, .int .u32 0, .slice none 0 0, .int .i64 0]) (t := 58) ?hr ?_; (case hd => rfl); (case hg => rfl); (case hr => first | (go_simp; done) | (go_simp; rfl)); intro r er wr hr lr; have Er := Aside0.mk er; clear er); have hp := blk_below HP2.out lr; have p0 : wr.cell? ⟨p, 0, none⟩ = some (.int .i64 0) := (blk_cell hp 0).trans rfl; have p1 : wr.cell? ⟨p, 1, none⟩ = some (.int .i64 0) := (blk_cell hp 1).trans rfl; have f0 := blk_frozen hp 0; have f1 := blk_frozen hp 1)
          | fail)
        have hrp : r ≠ p := by have := Er.out; have := blk_lt HP2.out; omega
        have hr2 := ((Below.heap_setCell (World.setCell wr ⟨p, 0, none⟩ (.int .i64 0)) ⟨p, 1, none⟩ (.int .i64 0) r hrp).trans (Below.heap_setCell wr ⟨p, 0, none⟩ (.int .i64 0) r hrp)).trans hr
        have hrw : w.heap.size ≤ r := by have := Er.out; have := HF2.out.size; omega
        have hr := ret_fault hp HPB.out.2 (below_then HF2.out HF2.out.size lr) 0 0 _ rfl
        obtain ⟨w9, hw9⟩ : ∃ w9, World.setCell (World.setCell wr ⟨p, 0, none⟩ (.int .i64 0)) ⟨p, 1, none⟩ (.int .i64 0) = w9 := ⟨_, rfl⟩
        rw [hw9] at hr hr2
        rw [hw9]
        obtain ⟨c0, c1, hFr⟩ := hr
        (try simp only [Exit.inBlock, Exit.then])
        refine bodyPost_ret (by simp [results, Try.results11, go_sem, c0, c1, hu26]; try rfl) rfl ?_
        rw [CompPost, HFB.out]
        exact ⟨⟨r, hrw, hr2, rfl⟩, hFr⟩
  · have d0 : decide ((200 : Int) < (s.size : Int)) = true := decide_eq_true (by omega)
    have HH := Aside0.mk hs
    clear hs
    go_wp2_with (first
      | (((with_reducible refine gate_dst (N := 3) rfl ?_); (try (refine gate_guard (by rfl) ?_; dsimp only)); refine box_event ?hg (N := 3) ?hd (cs := #[.int .i64 0, .int .i64 0]) (t := 26) ?hr ?_; (case hd => rfl); (case hg => rfl); (case hr => first | (go_simp; done) | (go_simp; rfl)); intro p ep wp hp lp; have Ep := Aside0.mk ep; clear ep); have p0 : wp.cell? ⟨p, 0, none⟩ = some (.int .i64 0) := (blk_cell hp 0).trans rfl; have p1 : wp.cell? ⟨p, 1, none⟩ = some (.int .i64 0) := (blk_cell hp 1).trans rfl; have f0 := blk_frozen hp 0; have f1 := blk_frozen hp 1)
      | fail)
    have hr := ret_fault hp (by have := Ep.out; omega) lp 5 0 _ rfl
    (obtain ⟨w9, hw9⟩ : ∃ w9, World.setCell (World.setCell wp ⟨p, 0, none⟩ (.int .i64 (5))) ⟨p, 1, none⟩ (.int .i64 (0)) = w9 := ⟨_, rfl⟩; (try go_wp2_with (fail)); (try simp only [Exit.inBlock, Exit.then]); rw [hw9] at hr; (try rw [hw9]); obtain ⟨c0, c1, hFr⟩ := hr; refine bodyPost_ret (by simp [results, Try.results11, go_sem, c0, c1, hu26]; try rfl) rfl ?_)
    rw [CompPost, faultB, if_pos (by have := HH.out; omega)]
    exact ⟨rfl, hFr⟩
end Go.Proofs.Ytnjpdhekeffpnaa.Rx
set_option linter.unusedVariables false
set_option linter.unusedSimpArgs false
namespace Go.Proofs.Ytnjpdhekeffpnaa.Rx
open Go.RowKit Go.Proofs.YtnjpdhekeffpnaaW.PrintWords Go.Proofs.YtnjpdhekeffpnaaW.PrintLast Go.Proofs.YtnjpdhekeffpnaaW.PrintMore

theorem readB_gr (s : ByteArray) : Gr 1 ⟨0, none, []⟩ (readB s) := waysB_gr s 16 _
theorem readB_up (s : ByteArray) : (readB s).2.at_ ≤ s.size + 18 := waysB_up s 16 _ (by show 0 ≤ _; omega)
/-- the cells of an expression while its steps are being found -/
def RgL (s : ByteArray) (v : Value) (first : Int) : Array Value := #[.string s, .bool true, .int .u32 0, .int .i32 1, .int .u32 0, v, .int .i64 first]
theorem stpV_done : stpV ⟨4, 0, 0, 0⟩ = .agg #[.int .i64 4, .int .u64 0, .int .u64 0, .int .u64 0, .int .u64 0, .int .i64 0, .int .i64 0] := by simp [stpV, wd]
set_option maxHeartbeats 8000000 in
set_option maxRecDepth 100000 in
theorem buildW (w : World) (r : Nat) (s : ByteArray) (hs : s.size ≤ 200) (h : w.heap[r]? = some (.cells (RgL s (.slice none 0 0) 0) TR (0, 0))) :
    Calls Try.prog 43 #[.pointer (some ⟨r, 0, none⟩)] w fun e w' => e = .returned (.tuple #[]) ∧ (∃ v, w'.heap[r]? = some (.cells (RgL s v (firstB s : Int)) TR (0, 0)) ∧ Kd.R kst TS w' 0 (fun _ => True) v (stepsB s)) ∧ Mk r w w' := by
  have hu72 := Try.underlying72
  have hu69 := Try.underlying69
  have hu100 := Try.underlying100
  have hu58 := Try.underlying58
  have HR := Aside0.mk h
  have HH := Aside0.mk hs
  have x0 : w.cell? ⟨r, 0, none⟩ = some (.string s) := (blk_cell h 0).trans rfl
  clear h hs
  go_enter Try.func43, Try.ntmps43
  go_wp2_with (first
    | ((with_reducible refine gate_dst (N := 9) rfl ?_); (try (refine gate_guard (by rfl) ?_; dsimp only)); refine box_event ?hg (N := 9) ?hd (cs := #[.string s, .int .i64 0, .int .i64 0, .int .i64 0, .int .i64 0, .slice none 0 0]) (t := 69) ?hr ?_; (case hd => rfl); (case hg => rfl); (case hr => first | (go_simp; done) | (go_simp; rfl)); intro b eb wb hb lb; have Eb := Aside0.mk eb; clear eb)
    | fail)
  have hB0 : BAt wb w.heap.size b s ⟨0, none, []⟩ := ⟨by have := Eb.out; omega, _, hb, Kd.R_nil _ _ _ _ _⟩
  have ih := waysTop w.heap.size b s HH.out wb _ hB0 (by show 0 ≤ _; omega) (by show 0 ≤ _; omega)
  have hE : waysB s 16 ⟨0, none, []⟩ = readB s := rfl
  rw [hE] at ih
  have hgr := readB_gr s
  have hup := readB_up s
  have hst : stepsB s = (patchB (readB s).1.2 (readB s).2.st.length (addB ⟨4, 0, 0, 0⟩ (readB s).2)).st := rfl
  have hfi : firstB s = (readB s).1.1 := rfl
  obtain ⟨K, hK⟩ : ∃ K, readB s = K := ⟨_, rfl⟩
  rw [hK] at ih hgr hup hst hfi
  have HG := Aside0.mk (⟨hgr, hup, hst, hfi⟩ : Gr 1 ⟨0, none, []⟩ K ∧ K.2.at_ ≤ s.size + 18 ∧ stepsB s = (patchB K.1.2 K.2.st.length (addB ⟨4, 0, 0, 0⟩ K.2)).st ∧ firstB s = K.1.1)
  refine ih.mono ?_
  rintro e w2 ⟨v2, rfl, hO2, hB2, hF2⟩
  obtain ⟨A2, c2, rfl⟩ := hO2.slice
  have HB2 := Aside0.mk hB2
  have HO2 := Aside0.mk (hO2.lower lb.size)
  have HF2 := Aside0.mk ((Fr.of (b := b) (O := none) (Nat.le_refl _) lb).trans hF2)
  clear ih hE hgr hup hst hfi hK hB2 hO2 hF2 hB0 hb lb x0
  go_wp2_with (first | (((with_reducible refine gate_dst (N := 3) rfl ?_); (try (refine gate_guard (by rfl) ?_; dsimp only)); refine box_event ?hg (N := 3) ?hd (cs := #[.int .i64 0, .slice none 0 0]) (t := 72) ?hr ?_; (case hd => rfl); (case hg => rfl); (case hr => first | (go_simp; done) | (go_simp; rfl)); intro q eq wq hq lq; have Eq := Aside0.mk eq; clear eq); have q0 : wq.cell? ⟨q, 0, none⟩ = some (.int .i64 0) := (blk_cell hq 0).trans rfl; have q1 : wq.cell? ⟨q, 1, none⟩ = some (.slice none 0 0) := (blk_cell hq 1).trans rfl; have fq0 := blk_frozen hq 0; have fq1 := blk_frozen hq 1; have HLq := Aside0.mk lq; clear lq) | fail)
  have hqb : q ≠ b := by have := Eq.out; have := HB2.out.lt; omega
  have hqw : w.heap.size ≤ q := by have := Eq.out; have := HF2.out.grow; omega
  have hr := ret_partX (w := w) (O := none) (base2 := w.heap.size) (Nat.le_refl _) hq hqw hqb (HB2.out.below HLq.out) (HF2.out.trans (Fr.of HB2.out.base_le HLq.out)) K.1.1 (.slice A2 K.1.2.length c2) K.1.2 (HO2.out.below HLq.out)
  obtain ⟨w4, hw4⟩ : ∃ w4, World.setCell (World.setCell wq ⟨q, 0, none⟩ (.int .i64 (K.1.1 : Int))) ⟨q, 1, none⟩ (.slice A2 K.1.2.length c2) = w4 := ⟨_, rfl⟩
  rw [hw4] at hr
  rw [hw4]
  obtain ⟨hq4, v4, e4, hT4, hB4, hF4⟩ := hr
  obtain rfl := part_eq e4
  have ihA := fun W (hb : Below w4.heap.size w4 W) => addW W w.heap.size b s K.2 ⟨4, 0, 0, 0⟩ (hB4.below hb) (by have := HG.out.1.up; have := HG.out.2.1; have := HH.out; have e0 : (⟨0, none, []⟩ : BS).at_ = 0 := rfl; have e1 : (⟨0, none, []⟩ : BS).st.length = 0 := rfl; omega)
  simp only [stpV_done] at ihA
  have y0 : w4.cell? ⟨q, 0, none⟩ = some (.int .i64 (K.1.1 : Int)) := (blk_cell hq4 0).trans rfl
  have y1 : w4.cell? ⟨q, 1, none⟩ = some (.slice A2 K.1.2.length c2) := (blk_cell hq4 1).trans rfl
  have HQ4 := Aside0.mk hq4
  have HT4 := Aside0.mk hT4
  have HB4 := Aside0.mk hB4
  have HF4 := Aside0.mk hF4
  clear e4 hw4 q0 q1 fq0 fq1 hq HB2 HF2 HO2 hq4 hT4 hB4 hF4
  go_region_with (first
    | (go_at_call 40; (with_reducible refine (ihA _ ?hA).mono ?_); (case hA => exact below_drew (Below.refl _ _)); rintro e w5 ⟨rfl, hB5, hF5⟩; have hq5 := hF5.blk (show w4.drew.heap[q]? = _ from HQ4.out) hqb (by simp) (by decide); have hT5 := OutsAt.fr (show OutsAt w4.drew w.heap.size (.slice A2 K.1.2.length c2) K.1.2 from HT4.out.below (below_drew (Below.refl _ _))) hF5 ⟨_, HB4.out.2.choose_spec.1⟩ (fun _ _ => by simp); have z0 : w5.cell? ⟨q, 0, none⟩ = some (.int .i64 (K.1.1 : Int)) := (blk_cell hq5 0).trans rfl; have z1 : w5.cell? ⟨q, 1, none⟩ = some (.slice A2 K.1.2.length c2) := (blk_cell hq5 1).trans rfl)
    | (go_at_call 52; refine (patchW w5 w.heap.size w.heap.size b s (addB ⟨4, 0, 0, 0⟩ K.2) K.1.1 (.slice A2 K.1.2.length c2) K.1.2 K.2.st.length (by exact hB5) (by exact hT5) (by exact fun o ho => by have := HG.out.1.outs o ho; rw [addB_len]; omega) (by exact (by have := HG.out.1.up; have := HG.out.2.1; have := HH.out; have e0 : (⟨0, none, []⟩ : BS).at_ = 0 := rfl; have e1 : (⟨0, none, []⟩ : BS).st.length = 0 := rfl; rw [addB_len]; omega))).mono ?_; rintro e w6 ⟨rfl, hB6, hF6⟩)
    | fail)
  all_goals
    have hBW : Below w.heap.size w w6 := ((below_drew HF4.out.below).trans hF5.below).trans hF6.below
    have hq6 := hF6.blk hq5 hqb (by simp) (by decide)
    obtain ⟨hb1, vb, hb2, hRb⟩ := hB6
    obtain ⟨Ab, cb, rfl⟩ := Kd.R_slice hRb
    have hr6 := (hBW.block r (blk_lt HR.out)).trans HR.out
    have k5 : w6.cell? ⟨b, 5, none⟩ = some (.slice Ab (patchB K.1.2 K.2.st.length (addB ⟨4, 0, 0, 0⟩ K.2)).st.length cb) := (blk_cell hb2 5).trans rfl
    have k0 : w6.cell? ⟨q, 0, none⟩ = some (.int .i64 (K.1.1 : Int)) := (blk_cell hq6 0).trans rfl
    have r5 : w6.cell? ⟨r, 5, none⟩ = some (.slice none 0 0) := (blk_cell hr6 5).trans rfl
    have r6 : w6.cell? ⟨r, 6, none⟩ = some (.int .i64 0) := (blk_cell hr6 6).trans rfl
    have fr5 := blk_frozen hr6 5
    have fr6 := blk_frozen hr6 6
    have HRb := Aside0.mk hRb
    have HR6 := Aside0.mk hr6
    have HBW := Aside0.mk hBW
    obtain ⟨ln, hln⟩ : ∃ ln, (patchB K.1.2 K.2.st.length (addB ⟨4, 0, 0, 0⟩ K.2)).st.length = ln := ⟨_, rfl⟩
    rw [hln] at k5 HRb
    have nrb : r ≠ b := by have := Eb.out; have := blk_lt HR.out; omega
    have nrq : r ≠ q := by have := blk_lt HR.out; omega
    clear hBW hq6 hb1 hb2 hRb hr6 hF5 hF6 hq5 hT5 z0 z1 hln hB5 ihA y0 y1
    go_wp2_with (fail)
    go_region
    all_goals
      (try go_wp2_with (fail))
      (try go_end0)
      refine ⟨rfl, ⟨.slice Ab ln cb, ?_, ?_⟩, ?_⟩
      · have := blk_set (blk_set HR6.out 5 (.slice Ab ln cb)) 6 (.int .i64 (K.1.1 : Int))
        rw [HG.out.2.2.2]
        have h9 : (World.setCell (World.setCell w6 ⟨r, 5, none⟩ (.slice Ab ln cb)) ⟨r, 6, none⟩ (.int .i64 (K.1.1 : Int))).heap[r]? = some (.cells (RgL s (.slice Ab ln cb) (K.1.1 : Int)) TR (0, 0)) := by simpa [RgL] using this
        exact h9
      · rw [HG.out.2.2.1]
        have h1 := Kd.R_lower (Kd.R_mono (Kd.R_far (p := ⟨r, 5, none⟩) (Kd.R_types HRb.out HR6.out (by decide)) (fun k hk => hk.2) (.slice Ab ln cb)) (fun _ _ => trivial) : Kd.R kst TS _ w.heap.size (fun _ => True) _ _) (Nat.zero_le _)
        have h2 := blk_set HR6.out 5 (.slice Ab ln cb)
        exact Kd.R_mono (Kd.R_far (p := ⟨r, 6, none⟩) (Kd.R_types h1 h2 (by decide)) (fun k hk => hk.2) (.int .i64 (K.1.1 : Int))) (fun _ _ => trivial)
      · refine ⟨fun B h1 h2 => ?_, fun k hk hne => ?_⟩
        · exact below_drew (((Below.lower HBW.out h2).setCell (p := ⟨r, 5, none⟩) h1 _).setCell (p := ⟨r, 6, none⟩) h1 _)
        · exact ((Below.heap_setCell _ ⟨r, 6, none⟩ _ k hne).trans (Below.heap_setCell w6 ⟨r, 5, none⟩ _ k hne)).trans (HBW.out.block k hk)
end Go.Proofs.Ytnjpdhekeffpnaa.Rx
set_option linter.unusedVariables false
set_option linter.unusedSimpArgs false
namespace Go.Proofs.Ytnjpdhekeffpnaa.Rx
open Go.RowKit Go.Proofs.YtnjpdhekeffpnaaW.PrintWords Go.Proofs.YtnjpdhekeffpnaaW.PrintLast Go.Proofs.YtnjpdhekeffpnaaW.PrintMore

theorem disable (w : World) : (callFunc 75 #[]).run Try.prog w = .ok (.value (.tuple #[])) w := run_call_mark0 Try.func75 (by kernel_rfl) (by kernel_rfl) (by kernel_rfl) .disable (by kernel_rfl) w
theorem enable (w : World) : (callFunc 77 #[]).run Try.prog w = .ok (.value (.tuple #[])) w := run_call_mark0 Try.func77 (by kernel_rfl) (by kernel_rfl) (by kernel_rfl) .enable (by kernel_rfl) w
theorem acquire (a : Addr) (w : World) : (callFunc 78 #[.pointer (some a)]).run Try.prog w = .ok (.value (.tuple #[])) w := run_call_marked Try.func78 (by kernel_rfl) (by kernel_rfl) (by kernel_rfl) .acquire (by kernel_rfl) a w
theorem releaseMerge (a : Addr) (w : World) : (callFunc 80 #[.pointer (some a)]).run Try.prog w = .ok (.value (.tuple #[])) w := run_call_marked Try.func80 (by kernel_rfl) (by kernel_rfl) (by kernel_rfl) .releaseMerge (by kernel_rfl) a w
theorem store_deferred (a : Addr) (x : Value) (u : FrameMode) (w : World) (hc : w.cell? a = some x) (hz : w.frozen? a = false) :
    CallsD Try.prog 70 #[.pointer (some a), .bool true] u w fun e u' w' => u' = u ∧ (e = .returned (.tuple #[]) ∧ w' = w.drew.setCell a (.int .u32 1)) := by
  have hc' : w.drew.cell? a = some x := by go_simp
  have hz' : w.drew.frozen? a = false := by go_simp
  have hst := run_call_store (P := Try.prog) Try.func73 (by kernel_rfl) (by kernel_rfl) (by kernel_rfl) (by kernel_rfl) (k := .u32) (y := 1) hc' hz'
  go_enter_d Try.func70, Try.ntmps70
  go_wp2
  go_region_calls
  all_goals (go_end0; exact ⟨rfl, rfl⟩)
set_option maxRecDepth 100000 in
set_option maxHeartbeats 4000000 in
theorem unlock_deferred (a : Addr) (u : FrameMode) (w : World) (hc : w.cell? a = some (.int .i32 1)) (hz : w.frozen? a = false) :
    CallsD Try.prog 69 #[.pointer (some a)] u w fun e u' w' => u' = u ∧ (e = .returned (.tuple #[]) ∧ w' = w.setCell a (.int .i32 0)) := by
  have hd := disable
  have he := enable
  have hr := releaseMerge
  have hadd := run_call_add (P := Try.prog) Try.func81 (by kernel_rfl) (by kernel_rfl) (by kernel_rfl) .i32 (by kernel_rfl) (y := -1) (s := 0) hc hz (by simp [go_sem]; rfl)
  have hcv := run_convert_to_unsafe (P := Try.prog) (src := 130) (dst := 112) Try.underlying130 Try.underlying112 (by kernel_rfl) hc
  go_enter_d Try.func69, Try.ntmps69
  go_wp2
  go_end0
  go_wp2
  go_end0
  exact ⟨rfl, rfl⟩
set_option maxRecDepth 100000 in
set_option maxHeartbeats 4000000 in
theorem lock_free (a : Addr) (w : World) (hc : w.cell? a = some (.int .i32 0)) (hz : w.frozen? a = false) :
    Calls Try.prog 68 #[.pointer (some a)] w fun e w' => e = .returned (.tuple #[]) ∧ w' = w.setCell a (.int .i32 1) := by
  have hd := disable
  have he := enable
  have ha := acquire
  have hcas := run_call_cas_hit (P := Try.prog) Try.func76 (by kernel_rfl) (by kernel_rfl) (by kernel_rfl) .i32 (by kernel_rfl) (y := 1) hc hz
  have hc' : (w.setCell a (.int .i32 1)).cell? a = some (.int .i32 1) := World.cell?_setCell_same w a _ hc
  have hcv := run_convert_to_unsafe (P := Try.prog) (src := 130) (dst := 112) Try.underlying130 Try.underlying112 (by kernel_rfl) hc'
  go_enter Try.func68, Try.ntmps68
  go_wp2
  first | go_end0 | (simp only [Exit.inBlock, Exit.then]; refine bodyPost_ret (results_none rfl _ _ _) rfl ?_) | refine bodyPost_ret (results_none rfl _ _ _) rfl ?_
  go_wp2
  go_end0
  exact ⟨rfl, rfl⟩
theorem load_word (a : Addr) (d : Int) (w : World) (h0 : w.cell? a = some (.int .u32 d)) :
    Calls Try.prog 54 #[.pointer (some a)] w fun e w' => e = .returned (.bool (d != 0)) ∧ w' = w := by
  have hl := run_call_load (P := Try.prog) Try.func67 (by kernel_rfl) (by kernel_rfl) (by kernel_rfl) .u32 (by kernel_rfl) h0
  go_enter Try.func54, Try.ntmps54
  go_wp2
  go_ret
  exact ⟨rfl, rfl⟩
set_option maxRecDepth 100000 in
set_option maxHeartbeats 4000000 in
theorem slowW (w : World) (r : Nat) (s : ByteArray) (hs : s.size ≤ 200) (h : w.heap[r]? = some (.cells (RgC s) TR (0, 0))) :
    Calls Try.prog 55 #[.pointer (some ⟨r, 2, none⟩), .func (.func 43) #[.pointer (some ⟨r, 0, none⟩)] #[]] w fun e w' => e = .returned (.tuple #[]) ∧ RgAt w' r s (stepsB s) (firstB s) ∧ Mk r w w' := by
  have hc2 : w.cell? ⟨r, 2, none⟩ = some (.int .u32 0) := (blk_cell h 2).trans rfl
  have hc3 : w.cell? ⟨r, 3, none⟩ = some (.int .i32 0) := (blk_cell h 3).trans rfl
  have f3 := blk_frozen h 3
  have hb : (w.setCell ⟨r, 3, none⟩ (.int .i32 1)).heap[r]? = some (.cells (RgL s (.slice none 0 0) 0) TR (0, 0)) := by simpa [RgC, RgL] using blk_set h 3 (.int .i32 1)
  have hl2 : (w.setCell ⟨r, 3, none⟩ (.int .i32 1)).cell? ⟨r, 2, none⟩ = some (.int .u32 0) := (blk_cell hb 2).trans rfl
  have hB := buildW _ r s hs hb
  have K1 := (Mk.refl r w).set 3 (.int .i32 1)
  have hnot : ∀ (x : Bool) (w : World), (Op.unary .not (.bool x)).run Try.prog w = .ok (.bool (!x)) w := fun _ _ => rfl
  go_enter_defers Try.func55, Try.ntmps55
  go_wp2_with (first
    | (go_at_call 68; refine (lock_free ⟨r, 3, none⟩ _ hc3 f3).mono ?_; rintro e w' ⟨rfl, rfl⟩)
    | (go_at_call 54; refine (load_word ⟨r, 2, none⟩ 0 _ hl2).mono ?_; rintro e w' ⟨rfl, rfl⟩)
    | (go_at_call 43; refine hB.mono ?_; rintro e w2 ⟨rfl, hv, hK⟩)
    | fail)
  obtain ⟨v, hv1, hv2⟩ := hv
  have e2 : w2.cell? ⟨r, 2, none⟩ = some (.int .u32 0) := (blk_cell hv1 2).trans rfl
  have g2 := blk_frozen hv1 2
  have hv3 : (w2.drew.setCell ⟨r, 2, none⟩ (.int .u32 1)).heap[r]? = _ := blk_set (w := w2.drew) hv1 2 (.int .u32 1)
  have e3 : (w2.drew.setCell ⟨r, 2, none⟩ (.int .u32 1)).cell? ⟨r, 3, none⟩ = some (.int .i32 1) := (blk_cell hv3 3).trans (by rfl)
  have g3 := blk_frozen hv3 3
  (try go_end0)
  refine leaves_cons (f := 70) (args := #[.pointer (some ⟨r, 2, none⟩), .bool true]) (by simp) (by simp [go_sem]) ?_
  refine (store_deferred ⟨r, 2, none⟩ (.int .u32 0) .returning _ e2 g2).mono ?_
  rintro e u' w'' ⟨rfl, rfl, rfl⟩
  refine leaves_cons (f := 69) (args := #[.pointer (some ⟨r, 3, none⟩)]) (by simp [settle]) (by simp [go_sem]) ?_
  refine (unlock_deferred ⟨r, 3, none⟩ _ _ e3 g3).mono ?_
  rintro e u' w'' ⟨rfl, rfl, rfl⟩
  have hv4 := blk_set hv3 3 (.int .i32 0)
  have hK4 : Mk r w ((w2.drew.setCell ⟨r, 2, none⟩ (.int .u32 1)).setCell ⟨r, 3, none⟩ (.int .i32 0)) := ((K1.trans hK).trans (Mk.of (below_drew (Below.refl _ _)) : Mk r w2 w2.drew)).set 2 _ |>.set 3 _
  have hR4 : RgAt ((w2.drew.setCell ⟨r, 2, none⟩ (.int .u32 1)).setCell ⟨r, 3, none⟩ (.int .i32 0)) r s (stepsB s) (firstB s) := by
    refine ⟨v, by simpa [RgL, RgB] using hv4, ?_⟩
    have h1 := Kd.R_mono (Kd.R_far (p := ⟨r, 2, none⟩) (Kd.R_types (Kd.R_below hv2 (below_drew (Below.refl _ _)) : Kd.R kst TS w2.drew 0 (fun _ => True) v _) hv1 (by decide)) (fun k hk => hk.2) (.int .u32 1)) (fun _ _ => trivial)
    exact Kd.R_mono (Kd.R_far (p := ⟨r, 3, none⟩) (Kd.R_types h1 hv3 (by decide)) (fun k hk => hk.2) (.int .i32 0)) (fun _ _ => trivial)
  simp [Leaves, settle, results, Try.results55]
  exact ⟨hR4, hK4⟩
/-- the steps are there, or may be found: an expression in block r -/
def RgX (w : World) (r : Nat) (s : ByteArray) : Prop := w.heap[r]? = some (.cells (RgC s) TR (0, 0)) ∨ RgAt w r s (stepsB s) (firstB s)
set_option maxRecDepth 100000 in
set_option maxHeartbeats 4000000 in
theorem doW (w : World) (r : Nat) (s : ByteArray) (hs : s.size ≤ 200) (h : RgX w r s) :
    Calls Try.prog 42 #[.pointer (some ⟨r, 2, none⟩), .func (.func 43) #[.pointer (some ⟨r, 0, none⟩)] #[]] w fun e w' => e = .returned (.tuple #[]) ∧ RgAt w' r s (stepsB s) (firstB s) ∧ Mk r w w' := by
  have hnot : ∀ (x : Bool) (w : World), (Op.unary .not (.bool x)).run Try.prog w = .ok (.bool (!x)) w := fun _ _ => rfl
  rcases h with h | h
  · have hc2 : w.cell? ⟨r, 2, none⟩ = some (.int .u32 0) := (blk_cell h 2).trans rfl
    have hS := slowW w r s hs h
    go_enter Try.func42, Try.ntmps42
    go_wp2_with (first
      | (go_at_call 54; refine (load_word ⟨r, 2, none⟩ 0 _ hc2).mono ?_; rintro e w' ⟨rfl, rfl⟩)
      | (go_at_call 55; refine hS.mono ?_; rintro e w2 ⟨rfl, hR, hK⟩)
      | fail)
    (try go_end0)
    exact ⟨rfl, hR, hK⟩
  · have hc2 : w.cell? ⟨r, 2, none⟩ = some (.int .u32 1) := by
      obtain ⟨v, h1, h2⟩ := h
      exact (blk_cell h1 2).trans rfl
    go_enter Try.func42, Try.ntmps42
    go_wp2_with (first
      | (go_at_call 54; refine (load_word ⟨r, 2, none⟩ 1 _ hc2).mono ?_; rintro e w' ⟨rfl, rfl⟩)
      | fail)
    (try go_end0)
    exact ⟨rfl, h, Mk.refl _ _⟩
end Go.Proofs.Ytnjpdhekeffpnaa.Rx
set_option linter.unusedVariables false
set_option linter.unusedSimpArgs false
namespace Go.Proofs.Ytnjpdhekeffpnaa.Rx
open Go.RowKit Go.Proofs.YtnjpdhekeffpnaaW.PrintWords Go.Proofs.YtnjpdhekeffpnaaW.PrintLast Go.Proofs.YtnjpdhekeffpnaaW.PrintMore

theorem infoO : (Try.prog.info? 4).map (fun i => (i.zero, i.size, i.bytes)) = some (some (.bool false), 1, 1) := by kernel_rfl
set_option maxHeartbeats 8000000 in
set_option maxRecDepth 100000 in
theorem setHasW2 (w : World) (x m c : Nat) (k nx ot : Value) (h : w.heap[x]? = some (.cells #[k, .int .u64 (wd m 0), .int .u64 (wd m 1), .int .u64 (wd m 2), .int .u64 (wd m 3), nx, ot] TS (0, 0))) (h1 : c < 256) :
    Calls Try.prog 45 #[.pointer (some ⟨x, 1, none⟩), .int .u8 (c : Int)] w fun r w' => r = .returned (.bool (m.testBit c)) ∧ w' = w := by
  have hu98 := Try.underlying98
  obtain ⟨d, hd⟩ : ∃ d, c / 64 = d := ⟨_, rfl⟩
  obtain ⟨r, hr⟩ : ∃ r, c % 64 = r := ⟨_, rfl⟩
  have e1 : (c : Int) / 64 = (d : Int) := by omega
  have e2 : bits .and .u8 (c : Int) 63 = (r : Int) := by rw [u8_and63' c h1, hr]
  have x0 : w.cell? ⟨x, 1 + d, none⟩ = some (.int .u64 (wd m d)) := by
    rw [blk_cell h]
    rcases (show d = 0 ∨ d = 1 ∨ d = 2 ∨ d = 3 by omega) with rfl | rfl | rfl | rfl <;> rfl
  have hd4 : (d : Int) < 4 := by omega
  have hd0 : (0 : Int) ≤ (d : Int) := by omega
  have hr0 : (0 : Int) ≤ (r : Int) := by omega
  have hr4 : (r : Int) ≤ 64 := by omega
  have HD := Aside0.mk (⟨hd, hr⟩ : c / 64 = d ∧ c % 64 = r)
  clear hd hr h
  go_enter Try.func45, Try.ntmps45
  go_wp2_with (fail)
  go_ret
  refine ⟨?_, rfl⟩
  rw [has_bit m d r (by have := HD.out.2; omega), show 64 * d + r = c by have := HD.out; omega]
  rfl
theorem Mk.push {r g : Nat} {w a b : World} (h : Mk r w a) (k : Mk g a b) (hg : w.heap.size ≤ g) : Mk r w b :=
  ⟨fun B h1 h2 => (h.below B h1 h2).trans (k.below B (Nat.le_trans h2 hg) (Nat.le_trans h2 h.size)), fun q h1 h2 => (k.keep q (Nat.lt_of_lt_of_le h1 h.size) (by omega)).trans (h.keep q h1 h2)⟩
theorem free_rep (n : Nat) : free (List.replicate n false) = n := by unfold free; simp [List.countP_replicate]
theorem MarkAt.mk {w w' : World} {g g2 c : Nat} {m : List Bool} (h : MarkAt w g c m) (k : Mk g2 w w') (hne : g ≠ g2) : MarkAt w' g c m := by
  refine Kd.R_of_own (enc := Value.bool) (h1 := fun _ => rfl) (own_move (Kd.own_of_R (enc := Value.bool) (h1 := fun _ => rfl) h) (fun q hq => ?_)) (fun _ _ => trivial)
  have hq' : g = q := by simpa [Value.ownBlock] using hq
  subst hq'
  obtain ⟨cs, hc⟩ := h.blk
  exact k.keep g (blk_lt hc) hne
theorem new_le {w w1 : World} {g n c : Nat} (h : w.heap.size ≤ w1.heap.size) (k : ∃ b, (Value.slice (some ⟨g, 0, none⟩) n c).ownBlock = some b ∧ w1.heap.size ≤ b) : w.heap.size ≤ g := by
  obtain ⟨b, h1, h2⟩ := k
  have e : g = b := by simpa [Value.ownBlock] using h1
  omega
theorem stepL_end (s : ByteArray) (st : List Stp) (a : Nat) (m : List Bool) (k n : Nat) (nx : List Bool) (sm : Bool) (la : Int) (h : ¬ n < m.length) : stepL s st a m k n nx sm la = (nx, sm, la) := by
  cases k with
  | zero => rfl
  | succ k => rw [stepL, if_neg h]
theorem free_len (m : List Bool) : free m ≤ m.length := List.countP_le_length
theorem grown_below {w w' : World} (h : w.grownBy w' none) : Below w.heap.size w w' := ⟨h.os, h.tape, h.output, h.size, fun k hk => h.block k hk (by simp)⟩
set_option maxHeartbeats 16000000 in
set_option maxRecDepth 100000 in
theorem longestW (w : World) (r : Nat) (p s : ByteArray) (at_ : Nat) (hs : p.size ≤ 200) (hz : s.size ≤ 1000000000) (ha : at_ ≤ s.size) (h : RgX w r p) :
    Calls Try.prog 29 #[.pointer (some ⟨r, 0, none⟩), .string s, .int .i64 (at_ : Int)] w fun e w' => e = .returned (.int .i64 (longP s (stepsB p) (firstB p) at_)) ∧ RgAt w' r p (stepsB p) (firstB p) ∧ Mk r w w' := by
  have hmf : ∀ (fn : Fn) (first cap : Array Value) (w : World), (Instr.makeFunc fn first cap).run Try.prog w = .ok (.func fn first cap) w := fun _ _ _ _ => rfl
  have hu58 := Try.underlying58
  have hu100 := Try.underlying100
  have hdo := doW w r p hs h
  have hwf := wf_steps p
  obtain ⟨st, hst⟩ : ∃ st, stepsB p = st := ⟨_, rfl⟩
  obtain ⟨fi, hfi⟩ : ∃ fi, firstB p = fi := ⟨_, rfl⟩
  rw [hst, hfi] at hdo hwf ⊢
  have HH := Aside0.mk (⟨by omega, by omega, hwf.2.1, hwf.1, hz, ha⟩ : st.length ≤ 1000 ∧ 0 < st.length ∧ fi < st.length ∧ WfS st ∧ s.size ≤ 1000000000 ∧ at_ ≤ s.size)
  obtain ⟨za, hza⟩ : ∃ za : Int, (at_ : Int) = za := ⟨_, rfl⟩
  have HZ := Aside0.mk hza
  rw [hza]
  clear hwf hst hfi hs hz ha h hza
  go_enter Try.func29, Try.ntmps29
  go_wp2_with (fail)
  refine hdo.mono ?_
  rintro e w1 ⟨rfl, hR1, hK1⟩
  obtain ⟨vs, hr1, hRs1⟩ := hR1
  obtain ⟨As, cs, rfl⟩ := Kd.R_slice hRs1
  have x5 : w1.cell? ⟨r, 5, none⟩ = some (.slice As st.length cs) := (blk_cell hr1 5).trans rfl
  have x6 : w1.cell? ⟨r, 6, none⟩ = some (.int .i64 (fi : Int)) := (blk_cell hr1 6).trans rfl
  have HR1 := Aside0.mk (show RgAt w1 r p st fi from ⟨_, hr1, hRs1⟩)
  have HK1 := Aside0.mk hK1
  have e0 : (za == 0) = decide (at_ = 0) := by rw [← HZ.out]; by_cases h : at_ = 0 <;> simp [h]
  have e1 : (za == (s.size : Int)) = decide (at_ = s.size) := by rw [← HZ.out]; by_cases h : at_ = s.size <;> simp [h]; omega
  clear hr1 hRs1 hK1 hdo
  go_wp2_with (first | (((with_reducible refine gate_dst (N := 25) rfl ?_); refine Kd.R_make Kd.bool (w0 := w1) 0 TO rfl (N := 25) rfl 29 (.tmp 24) (.tmp 24) rfl (st.length : Int) rfl rfl Try.underlying29 (.bool false) 1 infoO rfl (by decide) (by decide) false (ok := fun _ => True) (okp := fun _ => True) rfl (fun _ _ => trivial) trivial (Int.natCast_nonneg _) ?mL ?mB (Nat.zero_le _) ?_; (case mL => rw [Int.toNat_natCast]; have := HH.out.1; omega); (case mB => exact Below.refl _ _); intro v25 w25 hR25 hB25 hg25 hat25; rw [Int.toNat_natCast] at hR25; obtain ⟨g25, c25, e25, -⟩ := Kd.R_form hR25 (by rw [List.length_replicate]; have := HH.out.2.1; omega); rw [List.length_replicate] at e25; subst e25); have hl25 := grown_below hg25; obtain ⟨vs2, hr2, hRs2⟩ := HR1.out.below hl25; obtain ⟨As2, cs2, rfl⟩ := Kd.R_slice hRs2; have y5 : w25.cell? ⟨r, 5, none⟩ = some (.slice As2 st.length cs2) := (blk_cell hr2 5).trans rfl; have y6 : w25.cell? ⟨r, 6, none⟩ = some (.int .i64 (fi : Int)) := (blk_cell hr2 6).trans rfl; have HR2 := Aside0.mk (show RgAt w25 r p st fi from ⟨_, hr2, hRs2⟩)) | fail)
  have hM2 : MarkAt w25 g25 c25 (List.replicate st.length false) := by unfold MarkAt; rw [List.length_replicate]; exact hR25
  have hK2 := (HK1.out.push (Mk.of hl25 : Mk g25 w1 w25) (new_le HK1.out.size hat25))
  have hgw : w.heap.size ≤ g25 := new_le HK1.out.size hat25
  have ihw := walkRW r p st fi (decide (at_ = 0)) (decide (at_ = s.size)) HH.out.2.2.2.1 (by have := HH.out.1; omega) g25 c25 (st.length + 1) w25 (List.replicate st.length false) fi (by rw [free_rep]; omega) HH.out.2.2.1 (List.length_replicate) HR2.out hM2
  rw [List.length_replicate] at ihw
  refine ihw.mono ?_
  rintro e w3 ⟨rfl, hM3, hK3⟩
  have HR3 := Aside0.mk (HR2.out.mk hK3 hM2.blk)
  have HM3 := Aside0.mk hM3
  have HK3 := Aside0.mk (hK2.push hK3 hgw)
  have HGW := Aside0.mk hgw
  have hml : (walkP st (decide (at_ = 0)) (decide (at_ = s.size)) (st.length + 1) (List.replicate st.length false) fi).length = st.length := by rw [walkP_len, List.length_replicate]
  have hlp : longP s st fi at_ = longL s st (s.size + 2) at_ (walkP st (decide (at_ = 0)) (decide (at_ = s.size)) (st.length + 1) (List.replicate st.length false) fi) (-1) := rfl
  obtain ⟨m0, hm0⟩ : ∃ m0, walkP st (decide (at_ = 0)) (decide (at_ = s.size)) (st.length + 1) (List.replicate st.length false) fi = m0 := ⟨_, rfl⟩
  rw [hm0] at HM3 hml hlp
  obtain ⟨RR, hRR⟩ : ∃ RR, longP s st fi at_ = RR := ⟨_, rfl⟩
  have HLP := Aside0.mk (⟨hlp.symm.trans hRR, hml⟩ : longL s st (s.size + 2) at_ m0 (-1) = RR ∧ m0.length = st.length)
  have HRR := Aside0.mk hRR
  clear ihw hM2 hK2 hM3 hK3 hgw hml hlp hm0 hRR hR25 hB25 hg25 hat25 hl25 hr2 hRs2 y5 y6 x5 x6 e0 e1
  obtain ⟨N, hN⟩ : ∃ N, s.size + 2 = N := ⟨_, rfl⟩
  have HN := Aside0.mk hN
  clear hN
  go_wp2_with (fail)
  go_loopg [2, 7, 8] (N + 1) (fun kq v2 v7 v8 wr => ∃ (n a g c : Nat) (last : Int) (m : List Bool), v2 = .int .i64 (a : Int) ∧ v7 = .int .i64 last ∧ v8 = .slice (some ⟨g, 0, none⟩) st.length c ∧ Aside0 (n + 1 = kq ∧ s.size < a + n ∧ a ≤ s.size ∧ longL s st n a m last = RR ∧ m.length = st.length ∧ w.heap.size ≤ g) ∧ Aside0 (RgAt wr r p st fi) ∧ Aside0 (MarkAt wr g c m) ∧ Aside0 (Mk r w wr))
  case atStart =>
    exact ⟨N, at_, g25, c25, -1, m0, by rw [HZ.out], rfl, rfl, ⟨rfl, by have := HN.out; omega, HH.out.2.2.2.2.2, by rw [← HN.out]; exact HLP.out.1, HLP.out.2, HGW.out⟩, HR3, HM3, HK3⟩
  case round =>
    clear HR3 HM3 HK3 HGW HLP
    obtain ⟨n, a, g, c, last, m, rfl, rfl, rfl, HI, HR, HM, HK⟩ := hrel
    obtain ⟨l, rfl⟩ : ∃ l, n = l + 1 := ⟨n - 1, by have := HI.out; omega⟩
    obtain ⟨az, haz⟩ : ∃ az : Int, (a : Int) = az := ⟨_, rfl⟩
    rw [haz]
    have HAZ := Aside0.mk haz
    clear haz
    obtain ⟨ko, rfl⟩ : ∃ ko, gk = ko + 1 := ⟨gk - 1, by have := HI.out; omega⟩
    obtain ⟨vs, hr1, hRs1⟩ := HR.out
    obtain ⟨As4, cs4, rfl⟩ := Kd.R_slice hRs1
    have x5 : wr.cell? ⟨r, 5, none⟩ = some (.slice As4 st.length cs4) := (blk_cell hr1 5).trans rfl
    clear hr1 hRs1
    go_wp2_with (first | (((with_reducible refine gate_dst (N := 44) rfl ?_); refine Kd.R_make Kd.bool (w0 := wr) 0 TO rfl (N := 44) rfl 29 (.tmp 43) (.tmp 43) rfl (st.length : Int) rfl rfl Try.underlying29 (.bool false) 1 infoO rfl (by decide) (by decide) false (ok := fun _ => True) (okp := fun _ => True) rfl (fun _ _ => trivial) trivial (Int.natCast_nonneg _) ?mL ?mB (Nat.zero_le _) ?_; (case mL => rw [Int.toNat_natCast]; have := HH.out.1; omega); (case mB => exact Below.refl _ _); intro v44 w44 hR44 hB44 hg44 hat44; rw [Int.toNat_natCast] at hR44; obtain ⟨g44, c44, e44, -⟩ := Kd.R_form hR44 (by rw [List.length_replicate]; have := HH.out.2.1; omega); rw [List.length_replicate] at e44; subst e44); have hl44 := grown_below hg44) | fail)
    have hM44 : MarkAt w44 g44 c44 (List.replicate st.length false) := by unfold MarkAt; rw [List.length_replicate]; exact hR44
    have hg44w : w.heap.size ≤ g44 := new_le HK.out.size hat44
    have hgg : wr.heap.size ≤ g44 := new_le (Nat.le_refl _) hat44
    obtain ⟨csg, hcg⟩ := HM.out.blk
    have hgne : g ≠ g44 := by have := blk_lt hcg; omega
    have HR4 := Aside0.mk (HR.out.below hl44)
    have HM4 := Aside0.mk (HM.out.mkO hl44)
    have HN4 := Aside0.mk hM44
    have HK4 := Aside0.mk (HK.out.push (Mk.of hl44 : Mk g44 wr w44) hg44w)
    have HG4 := Aside0.mk (⟨hgne, hg44w⟩ : g ≠ g44 ∧ w.heap.size ≤ g44)
    obtain ⟨TT, hTT⟩ : ∃ TT, stepL s st a m (m.length + 1) 0 (List.replicate st.length false) false last = TT := ⟨_, rfl⟩
    have hlo := HI.out.2.2.2.1
    rw [longL, hTT] at hlo
    have HLO := Aside0.mk hlo
    have HTT := Aside0.mk hTT
    obtain ⟨M, hM⟩ : ∃ M, m.length + 1 = M := ⟨_, rfl⟩
    have HMM := Aside0.mk hM
    clear hR44 hB44 hg44 hat44 hl44 hM44 hg44w hgg hcg hgne x5 hTT hlo hM HR HM HK
    go_loopg [7, 10, 47] (M + 1) (fun kq v7 v10 v47 wi => ∃ (i k : Nat) (sm : Bool) (la : Int) (nx : List Bool), v7 = .int .i64 la ∧ v10 = .bool sm ∧ v47 = .int .i64 (i : Int) ∧ Aside0 (k + 1 = kq ∧ k + i = M ∧ i ≤ m.length ∧ stepL s st a m k i nx sm la = TT ∧ nx.length = st.length ∧ (sm = true → a < s.size)) ∧ Aside0 (RgAt wi r p st fi) ∧ Aside0 (MarkAt wi g c m) ∧ Aside0 (MarkAt wi g44 c44 nx) ∧ Aside0 (Mk r w wi))
    case atStart =>
      exact ⟨0, M, false, last, _, rfl, rfl, rfl, ⟨rfl, by omega, Nat.zero_le _, by rw [← HMM.out]; exact HTT.out, List.length_replicate, fun h => by cases h⟩, HR4, HM4, HN4, HK4⟩
    case round =>
      clear HR4 HM4 HN4 HK4
      obtain ⟨i, k, sm, la, nx, rfl, rfl, rfl, HI2, HR, HM, HX, HK⟩ := hrel
      by_cases hi : i < st.length
      · obtain ⟨k1, rfl⟩ : ∃ k1, gk = k1 + 1 := ⟨gk - 1, by have := HI2.out; omega⟩
        obtain ⟨k2, rfl⟩ : ∃ k2, k = k2 + 1 := ⟨k - 1, by have := HI2.out; have := HMM.out; have := HI.out; omega⟩
        have d0 : decide ((i : Int) < (st.length : Int)) = true := decide_eq_true (by omega)
        have d1 : (0 : Int) ≤ (i : Int) := by omega
        have d2 : (i : Int) < (st.length : Int) := by omega
        have hile : i ≤ st.length := by omega
        clear hile
        have d3 : (i : Int) + 1 < 9223372036854775808 := by have := HH.out; omega
        have hml := HI.out.2.2.2.2.1
        have m0 : wr.cell? ⟨g, i, none⟩ = some (.bool (m.getD i true)) := HM.out.at i (by omega)
        have hst := HI2.out.2.2.2.1
        rw [stepL, if_pos (show i < m.length by omega)] at hst
        have hgd : m.getD i true = m.getD i false := by simp [List.getD_eq_getElem?_getD, List.getElem?_eq_getElem (show i < m.length by omega)]
        cases hb : m.getD i false with
        | false =>
          rw [hgd, hb] at m0
          rw [if_pos hb] at hst
          have HST := Aside0.mk hst
          clear hst hgd hb hml
          go_wp2_with (fail)
          go_roundg k1
          case measure => have := HI2.out; omega
          case rel => exact ⟨i + 1, k2, sm, la, nx, rfl, rfl, by first | rfl | simp, ⟨by have := HI2.out; omega, by have := HI2.out; omega, by have := HI.out; omega, HST.out, HI2.out.2.2.2.2.1, HI2.out.2.2.2.2.2⟩, HR, HM, HX, HK⟩
        | true =>
          rw [hgd, hb] at m0
          rw [if_neg (by rw [hb]; simp)] at hst
          have HST := Aside0.mk hst
          clear hst hgd hb hml
          obtain ⟨S1, hS1⟩ : ∃ x, stp st i = x := ⟨_, rfl⟩
          have hmem : st[i]'hi = S1 := by rw [← hS1]; simp [stp, List.getD_eq_getElem?_getD, List.getElem?_eq_getElem hi]
          have hW1 := HH.out.2.2.2.1 (st[i]'hi) (List.getElem_mem _)
          rw [hmem] at hW1
          rw [hS1] at HST
          have HS1 := Aside0.mk hW1
          obtain ⟨vst, hrc, hRs⟩ := HR.out
          obtain ⟨ab, ca, rfl, -⟩ := Kd.R_form hRs (by have := HH.out.2.1; omega)
          have hcs := kst_cells (Kd.R_reads' hRs).2.2 i hi
          rw [hmem, Int.toNat_natCast, kst_sz] at hcs
          have y5 : wr.cell? ⟨r, 5, none⟩ = some (.slice (some ⟨ab, 0, none⟩) st.length ca) := (blk_cell hrc 5).trans rfl
          obtain ⟨a1, ha1⟩ : ∃ x, wd S1.m 0 = x := ⟨_, rfl⟩
          obtain ⟨a2, ha2⟩ : ∃ x, wd S1.m 1 = x := ⟨_, rfl⟩
          obtain ⟨a3, ha3⟩ : ∃ x, wd S1.m 2 = x := ⟨_, rfl⟩
          obtain ⟨a4, ha4⟩ : ∃ x, wd S1.m 3 = x := ⟨_, rfl⟩
          obtain ⟨kz, hkz⟩ : ∃ kz : Int, (S1.k : Int) = kz := ⟨_, rfl⟩
          have q0 : wr.cell? ⟨ab, i * 7, none⟩ = some (.int .i64 kz) := by rw [← hkz]; exact hcs 0 _ rfl
          have q1 : wr.cell? ⟨ab, i * 7 + 1, none⟩ = some (.int .u64 a1) := by rw [← ha1]; exact hcs 1 _ rfl
          have q2 : wr.cell? ⟨ab, i * 7 + 2, none⟩ = some (.int .u64 a2) := by rw [← ha2]; exact hcs 2 _ rfl
          have q3 : wr.cell? ⟨ab, i * 7 + 3, none⟩ = some (.int .u64 a3) := by rw [← ha3]; exact hcs 3 _ rfl
          have q4 : wr.cell? ⟨ab, i * 7 + 4, none⟩ = some (.int .u64 a4) := by rw [← ha4]; exact hcs 4 _ rfl
          have q5 : wr.cell? ⟨ab, i * 7 + 5, none⟩ = some (.int .i64 (S1.nx : Int)) := hcs 5 _ rfl
          have q6 : wr.cell? ⟨ab, i * 7 + 6, none⟩ = some (.int .i64 (S1.ot : Int)) := hcs 6 _ rfl
          have HKZ := Aside0.mk (⟨hkz, ha1, ha2, ha3, ha4⟩ : (S1.k : Int) = kz ∧ wd S1.m 0 = a1 ∧ wd S1.m 1 = a2 ∧ wd S1.m 2 = a3 ∧ wd S1.m 3 = a4)
          clear hmem hW1 hrc hRs hcs hS1 ha1 ha2 ha3 ha4 hkz
          have d4 : (0 : Int) ≤ az := by rw [← HAZ.out]; exact Int.natCast_nonneg _
          by_cases k4 : S1.k = 4
          · have hst := HST.out
            rw [if_pos k4, HAZ.out] at hst
            have HST2 := Aside0.mk hst
            have e4 : kz = 4 := by rw [← HKZ.out.1, k4]; rfl
            rw [e4] at q0
            clear hst k4 e4
            go_wp2_with (first | (((with_reducible refine gate_dst (N := 13) rfl ?_); (try (refine gate_guard (by rfl) ?_; dsimp only)); refine box_event ?hg (N := 13) ?hd (cs := #[.int .i64 0, .int .u64 0, .int .u64 0, .int .u64 0, .int .u64 0, .int .i64 0, .int .i64 0]) (t := 100) ?hr ?_; (case hd => rfl); (case hg => rfl); (case hr => first | (go_simp; done) | (go_simp; rfl)); intro x ex wx hx lx; have Ex := Aside0.mk ex; clear ex); have z0' : wx.cell? ⟨x, 0, none⟩ = some (.int .i64 0) := (blk_cell hx 0).trans rfl; have z1' : wx.cell? ⟨x, 1, none⟩ = some (.int .u64 0) := (blk_cell hx 1).trans rfl; have z2' : wx.cell? ⟨x, 2, none⟩ = some (.int .u64 0) := (blk_cell hx 2).trans rfl; have z3' : wx.cell? ⟨x, 3, none⟩ = some (.int .u64 0) := (blk_cell hx 3).trans rfl; have z4' : wx.cell? ⟨x, 4, none⟩ = some (.int .u64 0) := (blk_cell hx 4).trans rfl; have z5' : wx.cell? ⟨x, 5, none⟩ = some (.int .i64 0) := (blk_cell hx 5).trans rfl; have z6' : wx.cell? ⟨x, 6, none⟩ = some (.int .i64 0) := (blk_cell hx 6).trans rfl; have fz0 := blk_frozen hx 0; have fz1 := blk_frozen hx 1; have fz2 := blk_frozen hx 2; have fz3 := blk_frozen hx 3; have fz4 := blk_frozen hx 4; have fz5 := blk_frozen hx 5; have fz6 := blk_frozen hx 6) | fail)
            have hxw : wr.heap.size ≤ x := by have := Ex.out; omega
            have hB2 := ((((((lx.setCell (p := ⟨x, 0, none⟩) hxw (.int .i64 4)).setCell (p := ⟨x, 1, none⟩) hxw (.int .u64 a1)).setCell (p := ⟨x, 2, none⟩) hxw (.int .u64 a2)).setCell (p := ⟨x, 3, none⟩) hxw (.int .u64 a3)).setCell (p := ⟨x, 4, none⟩) hxw (.int .u64 a4)).setCell (p := ⟨x, 5, none⟩) hxw (.int .i64 (S1.nx : Int))).setCell (p := ⟨x, 6, none⟩) hxw (.int .i64 (S1.ot : Int))
            have hx7 := set7 hx (.int .i64 4) (.int .u64 a1) (.int .u64 a2) (.int .u64 a3) (.int .u64 a4) (.int .i64 (S1.nx : Int)) (.int .i64 (S1.ot : Int))
            obtain ⟨w2, hw2⟩ : ∃ w2, World.setCell (World.setCell (World.setCell (World.setCell (World.setCell (World.setCell (World.setCell wx ⟨x, 0, none⟩ (.int .i64 4)) ⟨x, 1, none⟩ (.int .u64 a1)) ⟨x, 2, none⟩ (.int .u64 a2)) ⟨x, 3, none⟩ (.int .u64 a3)) ⟨x, 4, none⟩ (.int .u64 a4)) ⟨x, 5, none⟩ (.int .i64 (S1.nx : Int))) ⟨x, 6, none⟩ (.int .i64 (S1.ot : Int)) = w2 := ⟨_, rfl⟩
            rw [hw2] at hB2 hx7
            rw [hw2]
            have HM2 := Aside0.mk (HM.out.mkO hB2)
            have HX2 := Aside0.mk (HX.out.mkO hB2)
            have HR2 := Aside0.mk (HR.out.below hB2)
            have HK2 := Aside0.mk (HK.out.push (Mk.of hB2 : Mk g44 wr w2) HG4.out.2)
            have hxg : x ≠ g44 := by obtain ⟨cs, hc⟩ := HX.out.blk; have := blk_lt hc; omega
            clear hB2 hw2 z0' z1' z2' z3' z4' z5' z6' fz0 fz1 fz2 fz3 fz4 fz5 fz6 q0 q1 q2 q3 q4 q5 q6 y5 hx lx
            go_roundg k1
            case measure => have := HI2.out; omega
            case rel => exact ⟨i + 1, k2, sm, az, nx, rfl, rfl, by first | rfl | simp, ⟨by have := HI2.out; omega, by have := HI2.out; omega, by have := HI.out; omega, HST2.out, HI2.out.2.2.2.2.1, HI2.out.2.2.2.2.2⟩, HR2, HM2, HX2, HK2⟩
          · have hst := HST.out
            rw [if_neg k4] at hst
            have e4 : (kz == 4) = false := beq_false_of_ne (fun e => k4 (by have := HKZ.out.1; omega))
            by_cases k0 : S1.k = 0
            · have e0 : kz = 0 := by rw [← HKZ.out.1, k0]; rfl
              rw [e0] at q0
              by_cases ha : a < s.size
              · have d5 : az < (s.size : Int) := by rw [← HAZ.out]; omega
                have d6 : decide (az < (s.size : Int)) = true := decide_eq_true d5
                have hat : az.toNat < s.size := by omega
                obtain ⟨cb, hcb⟩ : ∃ cb, (s[az.toNat]'hat).toNat = cb := ⟨_, rfl⟩
                have hcb2 : (bt s (a : Int)).toNat = cb := by rw [HAZ.out, ← bt_at s az hat, hcb]; rfl
                have hcl : cb < 256 := by rw [← hcb]; exact (s[az.toNat]'hat).toNat_lt
                rw [hcb2] at hst
                have HCB := Aside0.mk (⟨hcb, hcl, ha, k0⟩ : (s[az.toNat]'hat).toNat = cb ∧ cb < 256 ∧ a < s.size ∧ S1.k = 0)
                have HST := Aside0.mk hst
                clear hst hcb hcb2 hcl k0 k4 e0 e4 d6
                go_wp2_with (first | (((with_reducible refine gate_dst (N := 13) rfl ?_); (try (refine gate_guard (by rfl) ?_; dsimp only)); refine box_event ?hg (N := 13) ?hd (cs := #[.int .i64 0, .int .u64 0, .int .u64 0, .int .u64 0, .int .u64 0, .int .i64 0, .int .i64 0]) (t := 100) ?hr ?_; (case hd => rfl); (case hg => rfl); (case hr => first | (go_simp; done) | (go_simp; rfl)); intro x ex wx hx lx; have Ex := Aside0.mk ex; clear ex); have z0' : wx.cell? ⟨x, 0, none⟩ = some (.int .i64 0) := (blk_cell hx 0).trans rfl; have z1' : wx.cell? ⟨x, 1, none⟩ = some (.int .u64 0) := (blk_cell hx 1).trans rfl; have z2' : wx.cell? ⟨x, 2, none⟩ = some (.int .u64 0) := (blk_cell hx 2).trans rfl; have z3' : wx.cell? ⟨x, 3, none⟩ = some (.int .u64 0) := (blk_cell hx 3).trans rfl; have z4' : wx.cell? ⟨x, 4, none⟩ = some (.int .u64 0) := (blk_cell hx 4).trans rfl; have z5' : wx.cell? ⟨x, 5, none⟩ = some (.int .i64 0) := (blk_cell hx 5).trans rfl; have z6' : wx.cell? ⟨x, 6, none⟩ = some (.int .i64 0) := (blk_cell hx 6).trans rfl; have fz0 := blk_frozen hx 0; have fz1 := blk_frozen hx 1; have fz2 := blk_frozen hx 2; have fz3 := blk_frozen hx 3; have fz4 := blk_frozen hx 4; have fz5 := blk_frozen hx 5; have fz6 := blk_frozen hx 6) | fail)
                have hxw : wr.heap.size ≤ x := by have := Ex.out; omega
                have hB2 := ((((((lx.setCell (p := ⟨x, 0, none⟩) hxw (.int .i64 0)).setCell (p := ⟨x, 1, none⟩) hxw (.int .u64 a1)).setCell (p := ⟨x, 2, none⟩) hxw (.int .u64 a2)).setCell (p := ⟨x, 3, none⟩) hxw (.int .u64 a3)).setCell (p := ⟨x, 4, none⟩) hxw (.int .u64 a4)).setCell (p := ⟨x, 5, none⟩) hxw (.int .i64 (S1.nx : Int))).setCell (p := ⟨x, 6, none⟩) hxw (.int .i64 (S1.ot : Int))
                have hx7 := set7 hx (.int .i64 0) (.int .u64 a1) (.int .u64 a2) (.int .u64 a3) (.int .u64 a4) (.int .i64 (S1.nx : Int)) (.int .i64 (S1.ot : Int))
                obtain ⟨w2, hw2⟩ : ∃ w2, World.setCell (World.setCell (World.setCell (World.setCell (World.setCell (World.setCell (World.setCell wx ⟨x, 0, none⟩ (.int .i64 0)) ⟨x, 1, none⟩ (.int .u64 a1)) ⟨x, 2, none⟩ (.int .u64 a2)) ⟨x, 3, none⟩ (.int .u64 a3)) ⟨x, 4, none⟩ (.int .u64 a4)) ⟨x, 5, none⟩ (.int .i64 (S1.nx : Int))) ⟨x, 6, none⟩ (.int .i64 (S1.ot : Int)) = w2 := ⟨_, rfl⟩
                rw [hw2] at hB2 hx7
                rw [hw2]
                have HM2 := Aside0.mk (HM.out.mkO hB2)
                have HX2 := Aside0.mk (HX.out.mkO hB2)
                have HR2 := Aside0.mk (HR.out.below hB2)
                have HK2 := Aside0.mk (HK.out.push (Mk.of hB2 : Mk g44 wr w2) HG4.out.2)
                have hxg : x ≠ g44 := by obtain ⟨cs, hc⟩ := HX.out.blk; have := blk_lt hc; omega
                clear hB2 hw2 z0' z1' z2' z3' z4' z5' z6' fz0 fz1 fz2 fz3 fz4 fz5 fz6 q0 q1 q2 q3 q4 q5 q6 y5 hx lx
                have hx8 := hx7
                rw [← HKZ.out.2.1, ← HKZ.out.2.2.1, ← HKZ.out.2.2.2.1, ← HKZ.out.2.2.2.2] at hx8
                have hh := setHasW2 w2 x S1.m (s[az.toNat]'hat).toNat _ _ _ hx8 (s[az.toNat]'hat).toNat_lt
                rw [show S1.m.testBit (s[az.toNat]'hat).toNat = S1.m.testBit cb by rw [HCB.out.1]] at hh
                cases ht : S1.m.testBit cb with
                | true =>
                  rw [ht] at hh
                  have hst := HST.out
                  rw [if_pos ⟨HCB.out.2.2.2, HCB.out.2.2.1, ht⟩] at hst
                  have HST2 := Aside0.mk hst
                  have e6 : (az + 1 == (s.size : Int)) = decide (a + 1 = s.size) := by
                    rw [← HAZ.out]
                    by_cases h : a + 1 = s.size
                    · rw [decide_eq_true h]; exact beq_iff_eq.2 (by omega)
                    · rw [decide_eq_false h]; exact beq_false_of_ne (by omega)
                  have d7 : az + 1 < 9223372036854775808 := by have := HH.out; have := HCB.out; rw [← HAZ.out]; omega
                  have v5 : w2.cell? ⟨x, 5, none⟩ = some (.int .i64 (S1.nx : Int)) := (blk_cell hx7 5).trans rfl
                  have hfr : free nx < st.length + 1 := by have := free_len nx; have := HI2.out.2.2.2.2.1; omega
                  have ihw := walkRW r p st fi false (decide (a + 1 = s.size)) HH.out.2.2.2.1 (by have := HH.out.1; omega) g44 c44 (st.length + 1) w2 nx S1.nx hfr HS1.out.1 HI2.out.2.2.2.2.1 HR2.out HX2.out
                  rw [HI2.out.2.2.2.2.1] at ihw
                  clear hst hx8 hx7 hfr
                  refine hh.mono ?_
                  rintro e wh ⟨rfl, ewh⟩
                  subst ewh
                  go_wp2_with (fail)
                  refine ihw.mono ?_
                  rintro e w3 ⟨rfl, hM3, hK3⟩
                  have HR3 := Aside0.mk (HR2.out.mk hK3 HX2.out.blk)
                  have HM3 := Aside0.mk (HM2.out.mk hK3 HG4.out.1)
                  have HX3 := Aside0.mk hM3
                  have HK3 := Aside0.mk (HK2.out.push hK3 HG4.out.2)
                  clear ihw hM3 hK3 hh e6 v5
                  go_wp2_with (fail)
                  go_roundg k1
                  case measure => have := HI2.out; omega
                  case rel => exact ⟨i + 1, k2, true, la, _, rfl, rfl, by first | rfl | simp, ⟨by have := HI2.out; omega, by have := HI2.out; omega, by have := HI.out; omega, HST2.out, (by rw [walkP_len]; exact HI2.out.2.2.2.2.1), (fun _ => HCB.out.2.2.1)⟩, HR3, HM3, HX3, HK3⟩
                | false =>
                  rw [ht] at hh
                  have hst := HST.out
                  rw [if_neg (fun e => by rw [ht] at e; exact absurd e.2.2 (by simp))] at hst
                  have HST2 := Aside0.mk hst
                  clear hst hx8 hx7
                  refine hh.mono ?_
                  rintro e wh ⟨rfl, ewh⟩
                  subst ewh
                  clear hh
                  go_wp2_with (fail)
                  go_roundg k1
                  case measure => have := HI2.out; omega
                  case rel => exact ⟨i + 1, k2, sm, la, nx, rfl, rfl, by first | rfl | simp, ⟨by have := HI2.out; omega, by have := HI2.out; omega, by have := HI.out; omega, HST2.out, HI2.out.2.2.2.2.1, HI2.out.2.2.2.2.2⟩, HR2, HM2, HX2, HK2⟩
              · have d6 : decide (az < (s.size : Int)) = false := decide_eq_false (by rw [← HAZ.out]; omega)
                rw [if_neg (fun e => ha e.2.1)] at hst
                have HST2 := Aside0.mk hst
                clear hst k0 k4 e0 ha
                go_wp2_with (first | (((with_reducible refine gate_dst (N := 13) rfl ?_); (try (refine gate_guard (by rfl) ?_; dsimp only)); refine box_event ?hg (N := 13) ?hd (cs := #[.int .i64 0, .int .u64 0, .int .u64 0, .int .u64 0, .int .u64 0, .int .i64 0, .int .i64 0]) (t := 100) ?hr ?_; (case hd => rfl); (case hg => rfl); (case hr => first | (go_simp; done) | (go_simp; rfl)); intro x ex wx hx lx; have Ex := Aside0.mk ex; clear ex); have z0' : wx.cell? ⟨x, 0, none⟩ = some (.int .i64 0) := (blk_cell hx 0).trans rfl; have z1' : wx.cell? ⟨x, 1, none⟩ = some (.int .u64 0) := (blk_cell hx 1).trans rfl; have z2' : wx.cell? ⟨x, 2, none⟩ = some (.int .u64 0) := (blk_cell hx 2).trans rfl; have z3' : wx.cell? ⟨x, 3, none⟩ = some (.int .u64 0) := (blk_cell hx 3).trans rfl; have z4' : wx.cell? ⟨x, 4, none⟩ = some (.int .u64 0) := (blk_cell hx 4).trans rfl; have z5' : wx.cell? ⟨x, 5, none⟩ = some (.int .i64 0) := (blk_cell hx 5).trans rfl; have z6' : wx.cell? ⟨x, 6, none⟩ = some (.int .i64 0) := (blk_cell hx 6).trans rfl; have fz0 := blk_frozen hx 0; have fz1 := blk_frozen hx 1; have fz2 := blk_frozen hx 2; have fz3 := blk_frozen hx 3; have fz4 := blk_frozen hx 4; have fz5 := blk_frozen hx 5; have fz6 := blk_frozen hx 6) | fail)
                have hxw : wr.heap.size ≤ x := by have := Ex.out; omega
                have hB2 := ((((((lx.setCell (p := ⟨x, 0, none⟩) hxw (.int .i64 0)).setCell (p := ⟨x, 1, none⟩) hxw (.int .u64 a1)).setCell (p := ⟨x, 2, none⟩) hxw (.int .u64 a2)).setCell (p := ⟨x, 3, none⟩) hxw (.int .u64 a3)).setCell (p := ⟨x, 4, none⟩) hxw (.int .u64 a4)).setCell (p := ⟨x, 5, none⟩) hxw (.int .i64 (S1.nx : Int))).setCell (p := ⟨x, 6, none⟩) hxw (.int .i64 (S1.ot : Int))
                have hx7 := set7 hx (.int .i64 0) (.int .u64 a1) (.int .u64 a2) (.int .u64 a3) (.int .u64 a4) (.int .i64 (S1.nx : Int)) (.int .i64 (S1.ot : Int))
                obtain ⟨w2, hw2⟩ : ∃ w2, World.setCell (World.setCell (World.setCell (World.setCell (World.setCell (World.setCell (World.setCell wx ⟨x, 0, none⟩ (.int .i64 0)) ⟨x, 1, none⟩ (.int .u64 a1)) ⟨x, 2, none⟩ (.int .u64 a2)) ⟨x, 3, none⟩ (.int .u64 a3)) ⟨x, 4, none⟩ (.int .u64 a4)) ⟨x, 5, none⟩ (.int .i64 (S1.nx : Int))) ⟨x, 6, none⟩ (.int .i64 (S1.ot : Int)) = w2 := ⟨_, rfl⟩
                rw [hw2] at hB2 hx7
                rw [hw2]
                have HM2 := Aside0.mk (HM.out.mkO hB2)
                have HX2 := Aside0.mk (HX.out.mkO hB2)
                have HR2 := Aside0.mk (HR.out.below hB2)
                have HK2 := Aside0.mk (HK.out.push (Mk.of hB2 : Mk g44 wr w2) HG4.out.2)
                have hxg : x ≠ g44 := by obtain ⟨cs, hc⟩ := HX.out.blk; have := blk_lt hc; omega
                clear hB2 hw2 z0' z1' z2' z3' z4' z5' z6' fz0 fz1 fz2 fz3 fz4 fz5 fz6 q0 q1 q2 q3 q4 q5 q6 y5 hx lx
                go_roundg k1
                case measure => have := HI2.out; omega
                case rel => exact ⟨i + 1, k2, sm, la, nx, rfl, rfl, by first | rfl | simp, ⟨by have := HI2.out; omega, by have := HI2.out; omega, by have := HI.out; omega, HST2.out, HI2.out.2.2.2.2.1, HI2.out.2.2.2.2.2⟩, HR2, HM2, HX2, HK2⟩
            · have hst2 := hst
              rw [if_neg (fun e => k0 e.1)] at hst2
              have HST2 := Aside0.mk hst2
              have e0 : (kz == 0) = false := beq_false_of_ne (fun e => k0 (by have := HKZ.out.1; omega))
              clear hst hst2 k0 k4
              go_wp2_with (first | (((with_reducible refine gate_dst (N := 13) rfl ?_); (try (refine gate_guard (by rfl) ?_; dsimp only)); refine box_event ?hg (N := 13) ?hd (cs := #[.int .i64 0, .int .u64 0, .int .u64 0, .int .u64 0, .int .u64 0, .int .i64 0, .int .i64 0]) (t := 100) ?hr ?_; (case hd => rfl); (case hg => rfl); (case hr => first | (go_simp; done) | (go_simp; rfl)); intro x ex wx hx lx; have Ex := Aside0.mk ex; clear ex); have z0' : wx.cell? ⟨x, 0, none⟩ = some (.int .i64 0) := (blk_cell hx 0).trans rfl; have z1' : wx.cell? ⟨x, 1, none⟩ = some (.int .u64 0) := (blk_cell hx 1).trans rfl; have z2' : wx.cell? ⟨x, 2, none⟩ = some (.int .u64 0) := (blk_cell hx 2).trans rfl; have z3' : wx.cell? ⟨x, 3, none⟩ = some (.int .u64 0) := (blk_cell hx 3).trans rfl; have z4' : wx.cell? ⟨x, 4, none⟩ = some (.int .u64 0) := (blk_cell hx 4).trans rfl; have z5' : wx.cell? ⟨x, 5, none⟩ = some (.int .i64 0) := (blk_cell hx 5).trans rfl; have z6' : wx.cell? ⟨x, 6, none⟩ = some (.int .i64 0) := (blk_cell hx 6).trans rfl; have fz0 := blk_frozen hx 0; have fz1 := blk_frozen hx 1; have fz2 := blk_frozen hx 2; have fz3 := blk_frozen hx 3; have fz4 := blk_frozen hx 4; have fz5 := blk_frozen hx 5; have fz6 := blk_frozen hx 6) | fail)
              have hxw : wr.heap.size ≤ x := by have := Ex.out; omega
              have hB2 := ((((((lx.setCell (p := ⟨x, 0, none⟩) hxw (.int .i64 kz)).setCell (p := ⟨x, 1, none⟩) hxw (.int .u64 a1)).setCell (p := ⟨x, 2, none⟩) hxw (.int .u64 a2)).setCell (p := ⟨x, 3, none⟩) hxw (.int .u64 a3)).setCell (p := ⟨x, 4, none⟩) hxw (.int .u64 a4)).setCell (p := ⟨x, 5, none⟩) hxw (.int .i64 (S1.nx : Int))).setCell (p := ⟨x, 6, none⟩) hxw (.int .i64 (S1.ot : Int))
              have hx7 := set7 hx (.int .i64 kz) (.int .u64 a1) (.int .u64 a2) (.int .u64 a3) (.int .u64 a4) (.int .i64 (S1.nx : Int)) (.int .i64 (S1.ot : Int))
              obtain ⟨w2, hw2⟩ : ∃ w2, World.setCell (World.setCell (World.setCell (World.setCell (World.setCell (World.setCell (World.setCell wx ⟨x, 0, none⟩ (.int .i64 kz)) ⟨x, 1, none⟩ (.int .u64 a1)) ⟨x, 2, none⟩ (.int .u64 a2)) ⟨x, 3, none⟩ (.int .u64 a3)) ⟨x, 4, none⟩ (.int .u64 a4)) ⟨x, 5, none⟩ (.int .i64 (S1.nx : Int))) ⟨x, 6, none⟩ (.int .i64 (S1.ot : Int)) = w2 := ⟨_, rfl⟩
              rw [hw2] at hB2 hx7
              rw [hw2]
              have HM2 := Aside0.mk (HM.out.mkO hB2)
              have HX2 := Aside0.mk (HX.out.mkO hB2)
              have HR2 := Aside0.mk (HR.out.below hB2)
              have HK2 := Aside0.mk (HK.out.push (Mk.of hB2 : Mk g44 wr w2) HG4.out.2)
              have hxg : x ≠ g44 := by obtain ⟨cs, hc⟩ := HX.out.blk; have := blk_lt hc; omega
              clear hB2 hw2 z0' z1' z2' z3' z4' z5' z6' fz0 fz1 fz2 fz3 fz4 fz5 fz6 q0 q1 q2 q3 q4 q5 q6 y5 hx lx
              go_roundg k1
              case measure => have := HI2.out; omega
              case rel => exact ⟨i + 1, k2, sm, la, nx, rfl, rfl, by first | rfl | simp, ⟨by have := HI2.out; omega, by have := HI2.out; omega, by have := HI.out; omega, HST2.out, HI2.out.2.2.2.2.1, HI2.out.2.2.2.2.2⟩, HR2, HM2, HX2, HK2⟩
      · have d0 : decide ((i : Int) < (st.length : Int)) = false := decide_eq_false (by omega)
        have hst := HI2.out.2.2.2.1
        rw [stepL_end s st a m k i nx sm la (by have := HI.out.2.2.2.2.1; omega)] at hst
        have hlo := HLO.out
        rw [← hst] at hlo
        dsimp only at hlo
        cases sm with
        | true =>
          rw [if_pos rfl] at hlo
          have HLO2 := Aside0.mk hlo
          have has := HI2.out.2.2.2.2.2 rfl
          have d7 : az + 1 < 9223372036854775808 := by have := HH.out; rw [← HAZ.out]; omega
          have d4 : (0 : Int) ≤ az := by rw [← HAZ.out]; exact Int.natCast_nonneg _
          have HAS := Aside0.mk has
          clear hst hlo has
          go_wp2_with (fail)
          go_roundg ko
          case measure => have := HI.out; omega
          case rel => exact ⟨l, a + 1, g44, c44, la, nx, by rw [← HAZ.out]; rfl, rfl, rfl, ⟨by have := HI.out; omega, by have := HI.out; omega, HAS.out, HLO2.out, HI2.out.2.2.2.2.1, HG4.out.2⟩, HR, HX, HK⟩
        | false =>
          rw [if_neg (by simp)] at hlo
          have HLO2 := Aside0.mk hlo
          clear hst hlo
          go_wp2_with (fail)
          go_ret
          exact ⟨by rw [HRR.out, ← HLO2.out]; rfl, HR.out, HK.out⟩
end Go.Proofs.Ytnjpdhekeffpnaa.Rx
set_option linter.unusedVariables false
set_option linter.unusedSimpArgs false
namespace Go.Proofs.Ytnjpdhekeffpnaa.Rx
open Go.RowKit Go.Proofs.YtnjpdhekeffpnaaW.PrintWords Go.Proofs.YtnjpdhekeffpnaaW.PrintLast Go.Proofs.YtnjpdhekeffpnaaW.PrintMore

theorem RgX.c0 {w : World} {r : Nat} {p : ByteArray} (h : RgX w r p) : w.cell? ⟨r, 0, none⟩ = some (.string p) := by
  rcases h with h | h
  · exact (blk_cell h 0).trans rfl
  · obtain ⟨v, h1, h2⟩ := h
    exact (blk_cell h1 0).trans rfl
theorem RgX.c1 {w : World} {r : Nat} {p : ByteArray} (h : RgX w r p) : w.cell? ⟨r, 1, none⟩ = some (.bool true) := by
  rcases h with h | h
  · exact (blk_cell h 1).trans rfl
  · obtain ⟨v, h1, h2⟩ := h
    exact (blk_cell h1 1).trans rfl
theorem okNil (w : World) : Calls Try.prog 28 #[.pointer none] w fun e w' => e = .returned (.bool false) ∧ w' = w := by
  go_enter Try.func28, Try.ntmps28
  go_wp2_with (fail)
  go_ret
  exact ⟨rfl, rfl⟩
theorem okW (w : World) (r : Nat) (b : Bool) (h : w.cell? ⟨r, 1, none⟩ = some (.bool b)) : Calls Try.prog 28 #[.pointer (some ⟨r, 0, none⟩)] w fun e w' => e = .returned (.bool b) ∧ w' = w := by
  have hu58 := Try.underlying58
  go_enter Try.func28, Try.ntmps28
  go_wp2_with (fail)
  go_ret
  exact ⟨rfl, rfl⟩
theorem textW (w : World) (r : Nat) (p : ByteArray) (h : RgX w r p) : Calls Try.prog 13 #[.pointer (some ⟨r, 0, none⟩)] w fun e w' => e = .returned (.string p) ∧ w' = w := by
  have hu58 := Try.underlying58
  have hok := okW w r true h.c1
  have h0 := h.c0
  clear h
  go_enter Try.func13, Try.ntmps13
  go_wp2_with (first | (go_at_call 28; refine hok.mono ?_; rintro e w ⟨rfl, rfl⟩) | fail)
  go_ret
  exact ⟨rfl, rfl⟩
def isP (s : ByteArray) (st : List Stp) (first : Nat) : Bool := longP s st first 0 == (s.size : Int)
set_option maxHeartbeats 4000000 in
set_option maxRecDepth 100000 in
theorem isW (w : World) (r : Nat) (p s : ByteArray) (hs : p.size ≤ 200) (hz : s.size ≤ 1000000000) (h : RgX w r p) :
    Calls Try.prog 17 #[.pointer (some ⟨r, 0, none⟩), .string s] w fun e w' => e = .returned (.bool (isP s (stepsB p) (firstB p))) ∧ RgX w' r p ∧ Mk r w w' := by
  have hok := okW w r true h.c1
  have hlo := longestW w r p s 0 hs hz (Nat.zero_le _) h
  unfold isP
  obtain ⟨L, hL⟩ : ∃ L, longP s (stepsB p) (firstB p) 0 = L := ⟨_, rfl⟩
  rw [hL] at hlo ⊢
  clear h hL
  go_enter Try.func17, Try.ntmps17
  go_wp2_with (first | (go_at_call 28; refine hok.mono ?_; rintro e w ⟨rfl, rfl⟩) | (go_at_call 29; refine hlo.mono ?_; rintro e w2 ⟨rfl, hR, hK⟩) | fail)
  go_ret
  exact ⟨rfl, Or.inr hR, hK⟩
def findV : Option (Nat × Int) → Value
  | none => .tuple #[.int .i64 0, .int .i64 0, .bool false]
  | some (i, k) => .tuple #[.int .i64 (i : Int), .int .i64 k, .bool true]
set_option maxHeartbeats 8000000 in
set_option maxRecDepth 100000 in
theorem findW (w : World) (r : Nat) (p s : ByteArray) (z : Int) (hs : p.size ≤ 200) (hz : s.size ≤ 1000000000) (h : RgX w r p) :
    Calls Try.prog 15 #[.pointer (some ⟨r, 0, none⟩), .string s, .int .i64 z] w fun e w' => e = .returned (findV (findP s (stepsB p) (firstB p) z)) ∧ RgX w' r p ∧ Mk r w w' := by
  have hok := okW w r true h.c1
  obtain ⟨R, hR⟩ : ∃ R, findP s (stepsB p) (firstB p) z = R := ⟨_, rfl⟩
  rw [hR]
  by_cases hn : z < 0
  · have d0 : decide (z < 0) = true := decide_eq_true hn
    rw [findP, if_pos hn] at hR
    have HR := Aside0.mk (⟨hR, h⟩ : none = R ∧ RgX w r p)
    clear hR hn h
    go_enter Try.func15, Try.ntmps15
    go_wp2_with (first | (go_at_call 28; refine hok.mono ?_; rintro e w ⟨rfl, rfl⟩) | fail)
    refine bodyPost_ret (by simp [results, Try.results15, go_sem]; try rfl) rfl ?_
    exact ⟨by rw [← HR.out.1]; rfl, HR.out.2, Mk.refl _ _⟩
  · have d0 : decide (z < 0) = false := decide_eq_false hn
    rw [findP, if_neg hn] at hR
    have hz0 : ((z.toNat : Nat) : Int) = z := by omega
    have HR := Aside0.mk (⟨hR, h, hz0, hz⟩ : findL s (stepsB p) (firstB p) (s.size + 2) z.toNat = R ∧ RgX w r p ∧ ((z.toNat : Nat) : Int) = z ∧ s.size ≤ 1000000000)
    clear hR h hz0 hn
    have HSZ := Aside0.mk hs
    clear hz hs
    obtain ⟨N, hN⟩ : ∃ N, s.size + 2 = N := ⟨_, rfl⟩
    have HN := Aside0.mk hN
    clear hN
    go_enter Try.func15, Try.ntmps15
    go_wp2_with (first | (go_at_call 28; refine hok.mono ?_; rintro e w ⟨rfl, rfl⟩) | fail)
    go_loopg [9] (N + 1) (fun kq v9 wr => ∃ (n i : Nat), v9 = .int .i64 (i : Int) ∧ Aside0 (n + 1 = kq ∧ s.size + 2 ≤ n + i ∧ findL s (stepsB p) (firstB p) n i = R) ∧ Aside0 (RgX wr r p) ∧ Aside0 (Mk r w wr))
    case atStart =>
      exact ⟨N, z.toNat, by rw [HR.out.2.2.1], ⟨rfl, by have := HN.out; omega, by rw [← HN.out]; exact HR.out.1⟩, ⟨HR.out.2.1⟩, ⟨Mk.refl _ _⟩⟩
    case round =>
      obtain ⟨n, i, rfl, HI, HX, HK⟩ := hrel
      obtain ⟨az, haz⟩ : ∃ az : Int, (i : Int) = az := ⟨_, rfl⟩
      rw [haz]
      have HAZ := Aside0.mk haz
      by_cases hi : i ≤ s.size
      · have d1 : decide (az ≤ (s.size : Int)) = true := decide_eq_true (by omega)
        have d2 : az + 1 < 9223372036854775808 := by have := HR.out; omega
        have d3 : 0 ≤ az := by omega
        obtain ⟨l, rfl⟩ : ∃ l, n = l + 1 := ⟨n - 1, by have := HI.out; omega⟩
        obtain ⟨ko, rfl⟩ : ∃ ko, gk = ko + 1 := ⟨gk - 1, by have := HI.out; omega⟩
        have hlo := longestW wr r p s i HSZ.out HR.out.2.2.2 hi HX.out
        rw [haz] at hlo
        have hst := HI.out.2.2
        rw [findL, if_neg (by omega)] at hst
        obtain ⟨L, hL⟩ : ∃ L, longP s (stepsB p) (firstB p) i = L := ⟨_, rfl⟩
        rw [hL] at hlo hst
        have HST := Aside0.mk hst
        clear hst hL hi haz
        by_cases hl : 0 ≤ L
        · have d4 : decide (L ≥ 0) = true := decide_eq_true hl
          have hst := HST.out
          rw [if_pos hl] at hst
          have HST2 := Aside0.mk hst
          clear hst HST
          go_wp2_with (first | (go_at_call 29; refine hlo.mono ?_; rintro e w2 ⟨rfl, hR, hK⟩) | fail)
          refine bodyPost_ret (by simp [results, Try.results15, go_sem]; try rfl) rfl ?_
          exact ⟨by rw [← HST2.out, ← HAZ.out]; rfl, Or.inr hR, HK.out.trans hK⟩
        · have d4 : decide (L ≥ 0) = false := decide_eq_false hl
          have hst := HST.out
          rw [if_neg hl] at hst
          have HST2 := Aside0.mk hst
          clear hst HST hl
          go_wp2_with (first | (go_at_call 29; refine hlo.mono ?_; rintro e w2 ⟨rfl, hR, hK⟩) | fail)
          go_roundg ko
          case measure => have := HI.out; omega
          case rel => exact ⟨l, i + 1, by rw [← HAZ.out]; rfl, ⟨by have := HI.out; omega, by have := HI.out; omega, HST2.out⟩, ⟨Or.inr hR⟩, ⟨HK.out.trans hK⟩⟩
      · have d1 : decide (az ≤ (s.size : Int)) = false := decide_eq_false (by omega)
        have hst : none = R := by
          have := HI.out.2.2
          cases n with
          | zero => exact this
          | succ n => rw [findL, if_pos (by omega)] at this; exact this
        have HST := Aside0.mk hst
        clear hst hi haz
        go_wp2_with (fail)
        refine bodyPost_ret (by simp [results, Try.results15, go_sem]; try rfl) rfl ?_
        exact ⟨by rw [← HST.out]; rfl, HX.out, HK.out⟩
end Go.Proofs.Ytnjpdhekeffpnaa.Rx
