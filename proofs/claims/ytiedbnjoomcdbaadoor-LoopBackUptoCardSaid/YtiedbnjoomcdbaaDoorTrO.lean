/- The law's 'blocks', walked: the blocks that were made, laid out anew. -/
import Derived.Test.YtiedbnjoomcdbaaDoorTrN
import Derived.Deep.RegionHeld3
set_option linter.unusedVariables false
set_option linter.unusedSimpArgs false
namespace Go.Proofs.YtiedbnjoomcdbaaDoor.Tr
open Go.RowKit Go.Proofs.YtiedbnjoomcdbaaDoorW.PrintWords Go.Proofs.YtiedbnjoomcdbaaDoorW.PrintLast Go.Proofs.YtiedbnjoomcdbaaDoorW.PrintMore

/-- rows that are not too long -/
def Small : Nat → List Nd → Prop
  | 0, _ => True
  | d + 1, l => l.length ≤ 1000000 ∧ ∀ x ∈ l, (brsN x).length ≤ 1000000 ∧ (∀ b ∈ brsN x, Small d (kidsB b)) ∧ Small d (kidsN x)
theorem rbr_at {w0 w : World} {base : Nat} {ok : Nat → Prop} {b : Br} {vk : Value} (h : Kd.R (rN w0) TRn w base ok vk (brF b).2.2.2) : (rB w0).M w base ok b [.string (brF b).1, .string (brF b).2.1, .int .i64 (brF b).2.2.1, vk] := by
  cases b
  exact rbr_mk h
theorem rnd_at {w0 w : World} {base nn cn : Nat} {ok : Nat → Prop} {x : Nd} {vb vk : Value} {An : Option Addr} (hb : Kd.R (rB w0) TRb w base ok vb (ndF x).2.2.2.2.1) (hl : nn ≤ cn) (hn : Kd.C Kd.string w0 An nn (ndF x).2.2.2.2.2.1) (hnn : (ndF x).2.2.2.2.2.1.length = nn) (hk : Kd.R (rN w0) TRn w base ok vk (ndF x).2.2.2.2.2.2.2) :
    (rN w0).M w base ok x [.int .i64 (ndF x).1, .string (ndF x).2.1, .int .i64 (ndF x).2.2.1, .bool (ndF x).2.2.2.1, vb, .slice An nn cn, .string (ndF x).2.2.2.2.2.2.1, vk] := by
  subst hnn
  cases x
  exact rnd_mk hb hl hn hk
/-- what the law's blocks is asked -/
def LyOk (w0 : World) (d : Nat) : Prop := ∀ (l : List Nd) (left : Int), Dep d l → (d : Int) ≤ left → left ≤ 40 → Small d l → ∀ (A : Option Addr) (c : Nat), Kd.C kN w0 A l.length l → l.length ≤ c → ∀ w : World, Below w0.heap.size w0 w → Calls Tryd.prog 18 #[.slice A l.length c, .int .i64 left] w fun e w' => ∃ v, e = .returned v ∧ Kd.R (rN w0) TRn w' w.heap.size (fun _ => True) v l ∧ Below w.heap.size w w'
set_option maxHeartbeats 8000000 in
set_option maxRecDepth 100000 in
theorem lay0 (w0 : World) : LyOk w0 0 := by
  intro l left hd hl hl2 hn A c hC hc w hb
  subst hd
  go_enter Tryd.func18, Tryd.ntmps18
  go_wp2_with (fail)
  refine wp_loop_rounds 1 ?_
  rw [rounds_succ]
  go_wp2_with (fail)
  go_ret
  exact ⟨_, rfl, Kd.R_nil _ _ _ _ _, Below.refl _ _⟩
theorem below_step {w0 w w1 : World} (h : Below w0.heap.size w0 w) (k : Below w.heap.size w w1) : Below w0.heap.size w0 w1 := below_then h h.size k
theorem below_drew1 {w0 w : World} (h : Below w0.heap.size w0 w) : Below w0.heap.size w0 w.drew := below_drew h
theorem nb_of {W w' : World} {g : Nat} {o : Obj} (hb : Below W.heap.size W w') (h : W.heap[g]? = some o) : w'.heap[g]? = some o := blk_below h hb
theorem nb_ofD {W w' : World} {g : Nat} {o : Obj} (hb : Below W.drew.heap.size W.drew w') (h : W.heap[g]? = some o) : w'.heap[g]? = some o := blk_below (w := W.drew) h hb
theorem keepD7 {w : World} {b : Nat} {x0 x1 x2 x3 x5 x6 x7 : Value} (h : w.cell? ⟨b, 0, none⟩ = some x0 ∧ w.cell? ⟨b, 1, none⟩ = some x1 ∧ w.cell? ⟨b, 2, none⟩ = some x2 ∧ w.cell? ⟨b, 3, none⟩ = some x3 ∧ w.cell? ⟨b, 5, none⟩ = some x5 ∧ w.cell? ⟨b, 6, none⟩ = some x6 ∧ w.cell? ⟨b, 7, none⟩ = some x7) :
    w.drew.cell? ⟨b, 0, none⟩ = some x0 ∧ w.drew.cell? ⟨b, 1, none⟩ = some x1 ∧ w.drew.cell? ⟨b, 2, none⟩ = some x2 ∧ w.drew.cell? ⟨b, 3, none⟩ = some x3 ∧ w.drew.cell? ⟨b, 5, none⟩ = some x5 ∧ w.drew.cell? ⟨b, 6, none⟩ = some x6 ∧ w.drew.cell? ⟨b, 7, none⟩ = some x7 := h
/-- the node that is laid out, behind its first region -/
structure XL (w0 W7 wx : World) (b8 : Nat) (x : Nd) (An : Option Addr) (nn cn : Nat) (vK : Value) : Prop where
  blk : wx.heap[b8]? = some (.cells #[.int .i64 (ndF x).1, .string (ndF x).2.1, .int .i64 (ndF x).2.2.1, .bool (ndF x).2.2.2.1, .slice none 0 0, .slice An nn cn, .string (ndF x).2.2.2.2.2.2.1, vK] TRn (0, 0))
  ge : W7.heap.size ≤ b8
  bel : Below W7.heap.size W7 wx
  row : Kd.R (rN w0) TRn wx W7.heap.size (fun k => k ≠ b8) vK (ndF x).2.2.2.2.2.2.2
theorem far1 {w : World} {g b : Nat} (h : b ≠ g) (i j : Nat) (v : Value) : (w.setCell ⟨g, i, none⟩ v).cell? ⟨b, j, none⟩ = w.cell? ⟨b, j, none⟩ := by
  have e := Below.heap_setCell w ⟨g, i, none⟩ v b h
  simp [World.cell?, e]
theorem far8 {w : World} {g b : Nat} (h : b ≠ g) {x0 x1 x2 x3 x5 x6 x7 : Value} (hs : w.cell? ⟨b, 0, none⟩ = some x0 ∧ w.cell? ⟨b, 1, none⟩ = some x1 ∧ w.cell? ⟨b, 2, none⟩ = some x2 ∧ w.cell? ⟨b, 3, none⟩ = some x3 ∧ w.cell? ⟨b, 5, none⟩ = some x5 ∧ w.cell? ⟨b, 6, none⟩ = some x6 ∧ w.cell? ⟨b, 7, none⟩ = some x7) (v0 v1 v2 v3 v4 v5 v6 v7 : Value) :
    ((((((((w.setCell ⟨g, 0, none⟩ v0).setCell ⟨g, 1, none⟩ v1).setCell ⟨g, 2, none⟩ v2).setCell ⟨g, 3, none⟩ v3).setCell ⟨g, 4, none⟩ v4).setCell ⟨g, 5, none⟩ v5).setCell ⟨g, 6, none⟩ v6).setCell ⟨g, 7, none⟩ v7).cell? ⟨b, 0, none⟩ = some x0 ∧ ((((((((w.setCell ⟨g, 0, none⟩ v0).setCell ⟨g, 1, none⟩ v1).setCell ⟨g, 2, none⟩ v2).setCell ⟨g, 3, none⟩ v3).setCell ⟨g, 4, none⟩ v4).setCell ⟨g, 5, none⟩ v5).setCell ⟨g, 6, none⟩ v6).setCell ⟨g, 7, none⟩ v7).cell? ⟨b, 1, none⟩ = some x1 ∧ ((((((((w.setCell ⟨g, 0, none⟩ v0).setCell ⟨g, 1, none⟩ v1).setCell ⟨g, 2, none⟩ v2).setCell ⟨g, 3, none⟩ v3).setCell ⟨g, 4, none⟩ v4).setCell ⟨g, 5, none⟩ v5).setCell ⟨g, 6, none⟩ v6).setCell ⟨g, 7, none⟩ v7).cell? ⟨b, 2, none⟩ = some x2 ∧ ((((((((w.setCell ⟨g, 0, none⟩ v0).setCell ⟨g, 1, none⟩ v1).setCell ⟨g, 2, none⟩ v2).setCell ⟨g, 3, none⟩ v3).setCell ⟨g, 4, none⟩ v4).setCell ⟨g, 5, none⟩ v5).setCell ⟨g, 6, none⟩ v6).setCell ⟨g, 7, none⟩ v7).cell? ⟨b, 3, none⟩ = some x3 ∧ ((((((((w.setCell ⟨g, 0, none⟩ v0).setCell ⟨g, 1, none⟩ v1).setCell ⟨g, 2, none⟩ v2).setCell ⟨g, 3, none⟩ v3).setCell ⟨g, 4, none⟩ v4).setCell ⟨g, 5, none⟩ v5).setCell ⟨g, 6, none⟩ v6).setCell ⟨g, 7, none⟩ v7).cell? ⟨b, 5, none⟩ = some x5 ∧ ((((((((w.setCell ⟨g, 0, none⟩ v0).setCell ⟨g, 1, none⟩ v1).setCell ⟨g, 2, none⟩ v2).setCell ⟨g, 3, none⟩ v3).setCell ⟨g, 4, none⟩ v4).setCell ⟨g, 5, none⟩ v5).setCell ⟨g, 6, none⟩ v6).setCell ⟨g, 7, none⟩ v7).cell? ⟨b, 6, none⟩ = some x6 ∧ ((((((((w.setCell ⟨g, 0, none⟩ v0).setCell ⟨g, 1, none⟩ v1).setCell ⟨g, 2, none⟩ v2).setCell ⟨g, 3, none⟩ v3).setCell ⟨g, 4, none⟩ v4).setCell ⟨g, 5, none⟩ v5).setCell ⟨g, 6, none⟩ v6).setCell ⟨g, 7, none⟩ v7).cell? ⟨b, 7, none⟩ = some x7 := by
  simp only [far1 h]
  exact hs
theorem set8R {w : World} {b : Nat} {a0 a1 a2 a3 a4 a5 a6 a7 : Value} (v0 v1 v2 v3 v4 v5 v6 v7 : Value) (h : w.heap[b]? = some (.cells #[a0, a1, a2, a3, a4, a5, a6, a7] TRn (0, 0))) :
    ((((((((w.setCell ⟨b, 0, none⟩ v0).setCell ⟨b, 1, none⟩ v1).setCell ⟨b, 2, none⟩ v2).setCell ⟨b, 3, none⟩ v3).setCell ⟨b, 4, none⟩ v4).setCell ⟨b, 5, none⟩ v5).setCell ⟨b, 6, none⟩ v6).setCell ⟨b, 7, none⟩ v7).heap[b]? = some (.cells #[v0, v1, v2, v3, v4, v5, v6, v7] TRn (0, 0)) := by
  simpa using blk_set (blk_set (blk_set (blk_set (blk_set (blk_set (blk_set (blk_set h 0 v0) 1 v1) 2 v2) 3 v3) 4 v4) 5 v5) 6 v6) 7 v7
theorem keepD4 {w : World} {b : Nat} {x0 x1 x2 x3 : Value} (h : w.cell? ⟨b, 0, none⟩ = some x0 ∧ w.cell? ⟨b, 1, none⟩ = some x1 ∧ w.cell? ⟨b, 2, none⟩ = some x2 ∧ w.cell? ⟨b, 3, none⟩ = some x3) :
    w.drew.cell? ⟨b, 0, none⟩ = some x0 ∧ w.drew.cell? ⟨b, 1, none⟩ = some x1 ∧ w.drew.cell? ⟨b, 2, none⟩ = some x2 ∧ w.drew.cell? ⟨b, 3, none⟩ = some x3 := h
theorem far4 {w : World} {g b : Nat} (h : b ≠ g) {x0 x1 x2 x3 : Value} (hs : w.cell? ⟨b, 0, none⟩ = some x0 ∧ w.cell? ⟨b, 1, none⟩ = some x1 ∧ w.cell? ⟨b, 2, none⟩ = some x2 ∧ w.cell? ⟨b, 3, none⟩ = some x3) (v : Value) :
    (w.setCell ⟨g, 4, none⟩ v).cell? ⟨b, 0, none⟩ = some x0 ∧ (w.setCell ⟨g, 4, none⟩ v).cell? ⟨b, 1, none⟩ = some x1 ∧ (w.setCell ⟨g, 4, none⟩ v).cell? ⟨b, 2, none⟩ = some x2 ∧ (w.setCell ⟨g, 4, none⟩ v).cell? ⟨b, 3, none⟩ = some x3 := by
  simp only [far1 h]
  exact hs
/-- Go's orders of the region: the new node's block is made before the call, or behind it. -/
theorem xl_new {w0 W7 w6 : World} {x : Nd} {An : Option Addr} {nn cn p : Nat} {vK : Value} (hz : Below W7.heap.size W7 w6) (hp : W7.heap.size ≤ p) (hR : Kd.R (rN w0) TRn w6 p (fun _ => True) vK (ndF x).2.2.2.2.2.2.2) :
    XL w0 W7 (w6.alloc (.cells #[.int .i64 (ndF x).1, .string (ndF x).2.1, .int .i64 (ndF x).2.2.1, .bool (ndF x).2.2.2.1, .slice none 0 0, .slice An nn cn, .string (ndF x).2.2.2.2.2.2.1, vK] TRn)) w6.heap.size x An nn cn vK :=
  ⟨heap_alloc_new w6 _, hz.size, below_step hz (below_alloc (Below.refl _ _) _), Kd.R_lower (Kd.R_mono (Kd.R_below (Kd.R_bound hR) (below_alloc (Below.refl _ _) _)) (fun k hk => by have := hk.2.2.1; omega)) hp⟩
theorem xl_old {w0 W7 w6 : World} {b8 : Nat} {x : Nd} {An : Option Addr} {nn cn p : Nat} {vK : Value} (hz : Below W7.heap.size W7 w6) (hp : W7.heap.size ≤ p) (hR : Kd.R (rN w0) TRn w6 p (fun _ => True) vK (ndF x).2.2.2.2.2.2.2) (h8 : W7.heap.size ≤ b8) (h8p : b8 < p)
    (hx : w6.heap[b8]? = some (.cells #[.int .i64 0, .string ⟨#[]⟩, .int .i64 0, .bool false, .slice none 0 0, .slice none 0 0, .string ⟨#[]⟩, .slice none 0 0] TRn (0, 0))) :
    XL w0 W7 ((((((((w6.setCell ⟨b8, 0, none⟩ (.int .i64 (ndF x).1)).setCell ⟨b8, 1, none⟩ (.string (ndF x).2.1)).setCell ⟨b8, 2, none⟩ (.int .i64 (ndF x).2.2.1)).setCell ⟨b8, 3, none⟩ (.bool (ndF x).2.2.2.1)).setCell ⟨b8, 4, none⟩ (.slice none 0 0)).setCell ⟨b8, 5, none⟩ (.slice An nn cn)).setCell ⟨b8, 6, none⟩ (.string (ndF x).2.2.2.2.2.2.1)).setCell ⟨b8, 7, none⟩ vK) b8 x An nn cn vK := by
  have hs := set8R (.int .i64 (ndF x).1) (.string (ndF x).2.1) (.int .i64 (ndF x).2.2.1) (.bool (ndF x).2.2.2.1) (.slice none 0 0) (.slice An nn cn) (.string (ndF x).2.2.2.2.2.2.1) vK hx
  refine ⟨hs, h8, hz.trans (set8_below w6 b8 W7.heap.size h8 _ _ _ _ _ _ _ _), Kd.R_lower (Kd.R_mono (rows_keep (g := b8) (Kd.R_bound hR) (set8_keep w6 b8 _ _ _ _ _ _ _ _) h8p) (fun k hk => by have := hk.2.1; omega)) hp⟩
theorem infoRn : (Tryd.prog.info? 69).map (fun i => (i.zero, i.size, i.bytes)) = some (some (.agg #[.int .i64 0, .string ⟨#[]⟩, .int .i64 0, .bool false, .slice none 0 0, .slice none 0 0, .string ⟨#[]⟩, .slice none 0 0]), 8, 128) := by kernel_rfl
theorem infoRb : (Tryd.prog.info? 71).map (fun i => (i.zero, i.size, i.bytes)) = some (some (.agg #[.string ⟨#[]⟩, .string ⟨#[]⟩, .int .i64 0, .slice none 0 0]), 4, 64) := by kernel_rfl
set_option maxHeartbeats 16000000 in
set_option maxRecDepth 100000 in
theorem layS (w0 : World) (d : Nat) (ih : LyOk w0 d)   : LyOk w0 (d + 1) := by
  intro l left hd hl hl2 hn A c hC hc w hb
  have hu33 := Tryd.underlying33
  have hu34 := Tryd.underlying34
  have hu56 := Tryd.underlying56
  have hu69 := Tryd.underlying69
  have hu71 := Tryd.underlying71
  have hu73 := Tryd.underlying73
  have IH := Aside0.mk ih
  have HD := Aside0.mk hd
  have HC := Aside0.mk hC
  have HLF := Aside0.mk (And.intro hl hl2)
  have HB00 := Aside0.mk hb
  have HSS := Aside0.mk hn
  clear ih hd hC hc hl hl2 hb hn
  obtain ⟨B, hB⟩ : ∃ B, w.heap.size = B := ⟨_, rfl⟩
  have HB := Aside0.mk hB
  have HB0 := Aside0.mk (show Below B w w from Below.refl _ _)
  have HR0 := Aside0.mk (Kd.R_nil (rN w0) TRn w B (fun _ => True))
  rw [hB]
  clear hB
  go_enter Tryd.func18, Tryd.ntmps18
  go_wp2_with (fail)
  go_loopw [5, 13] (fun v5 v13 wr => ∃ i : Int, v13 = .int .i64 i ∧ 0 ≤ i ∧ i ≤ l.length ∧ Aside0 (Below B w wr) ∧ Aside0 (Kd.R (rN w0) TRn wr B (fun _ => True) v5 (l.take i.toNat))) (fun _ v13 _ => l.length - (intOf v13).toNat)
  case atStart => exact ⟨0, rfl, by omega, by omega, HB0, HR0⟩
  case round =>
    clear HB0 HR0
    obtain ⟨i, rfl, hi0, hi1, HBr, HRr⟩ := hrel
    by_cases hlt : i < l.length
    · have d0 : decide (i < (l.length : Int)) = true := decide_eq_true hlt
      have HII := Aside0.mk (And.intro hi0 hlt)
      have hwi : wrap64 (i + 1) = i + 1 := by have := HSS.out.1; unfold wrap64; omega
      have hb0r : Below w0.heap.size w0 wr := HB00.out.trans (HBr.out.mono (by have h1 := HB00.out.size; have h2 := HB.out; omega))
      obtain ⟨ad, cs, e, hcl, hK, hcc⟩ := Kd.C_get HC.out zN i hi0 hlt
      subst e
      have HDx := Aside0.mk (HD.out (l.getD i.toNat zN) (mem_getD l i.toNat zN (by omega)))
      have HSM := Aside0.mk (HSS.out.2 (l.getD i.toNat zN) (mem_getD l i.toNat zN (by omega)))
      have HTK := Aside0.mk (show l.take (i.toNat + 1) = l.take i.toNat ++ [l.getD i.toNat zN] by
        rw [List.take_add_one, List.getElem?_eq_getElem (show i.toNat < l.length by omega), List.getD_eq_getElem?_getD, List.getElem?_eq_getElem (show i.toNat < l.length by omega)]; rfl)
      generalize l.getD i.toNat zN = x at hK HDx HTK HSM
      obtain ⟨Ab, cb, An, cn, Ak, ck, rfl, ⟨hb1, hn1, hk1⟩, hCb, hCn, hCk⟩ := knd_open hK
      have hcc : ∀ j u, ([.int .i64 (ndF x).1, .string (ndF x).2.1, .int .i64 (ndF x).2.2.1, .bool (ndF x).2.2.2.1, .slice Ab (ndF x).2.2.2.2.1.length cb, .slice An (ndF x).2.2.2.2.2.1.length cn, .string (ndF x).2.2.2.2.2.2.1, .slice Ak (ndF x).2.2.2.2.2.2.2.length ck] : List Value)[j]? = some u → wr.cell? (ad.add (i.toNat * 8 + j)) = some u := fun j u h => pw_cell_below hb0r (hcc j u h)
      obtain ⟨nb, hnb⟩ : ∃ k, (ndF x).2.2.2.2.1.length = k := ⟨_, rfl⟩
      obtain ⟨nn, hnn⟩ : ∃ k, (ndF x).2.2.2.2.2.1.length = k := ⟨_, rfl⟩
      obtain ⟨nk, hnk⟩ : ∃ k, (ndF x).2.2.2.2.2.2.2.length = k := ⟨_, rfl⟩
      rw [hnb, hnn, hnk] at hcc
      rw [hnb] at hb1 hCb
      rw [hnn] at hn1 hCn
      rw [hnk] at hk1 hCk
      have x0 := hcc 0 _ rfl
      have x1 := hcc 1 _ rfl
      have x2 := hcc 2 _ rfl
      have x3 := hcc 3 _ rfl
      have x4 := hcc 4 _ rfl
      have x5 := hcc 5 _ rfl
      have x6 := hcc 6 _ rfl
      have x7 := hcc 7 _ rfl
      rw [Nat.add_zero] at x0
      rw [add_field _ _ 1 (by omega)] at x1
      rw [add_field _ _ 2 (by omega)] at x2
      rw [add_field _ _ 3 (by omega)] at x3
      rw [add_field _ _ 4 (by omega)] at x4
      rw [add_field _ _ 5 (by omega)] at x5
      rw [add_field _ _ 6 (by omega)] at x6
      rw [add_field _ _ 7 (by omega)] at x7
      have HCb := Aside0.mk hCb
      have HCn := Aside0.mk hCn
      have HCk := Aside0.mk hCk
      have HNB := Aside0.mk hnb
      have HNN := Aside0.mk hnn
      have HNK := Aside0.mk hnk
      have HLE := Aside0.mk (And.intro hb1 (And.intro hn1 hk1))
      clear hcl hcc hCb hCn hCk hnb hnn hnk hb1 hn1 hk1 hK
      have hbe := below_alloc (Below.refl wr.heap.size wr) (Obj.cells #[.int .i64 (ndF x).1, .string (ndF x).2.1, .int .i64 (ndF x).2.2.1, .bool (ndF x).2.2.2.1, .slice Ab nb cb, .slice An nn cn, .string (ndF x).2.2.2.2.2.2.1, .slice Ak nk ck] TG)
      have hk7 := heap_alloc_new wr (Obj.cells #[.int .i64 (ndF x).1, .string (ndF x).2.1, .int .i64 (ndF x).2.2.1, .bool (ndF x).2.2.2.1, .slice Ab nb cb, .slice An nn cn, .string (ndF x).2.2.2.2.2.2.1, .slice Ak nk ck] TG)
      obtain ⟨b7, hb7⟩ : ∃ b, wr.heap.size = b := ⟨_, rfl⟩
      rw [hb7] at hk7
      have HK7 := Aside0.mk hk7
      have HB7 := Aside0.mk (show Below w0.heap.size w0 (wr.alloc (Obj.cells #[.int .i64 (ndF x).1, .string (ndF x).2.1, .int .i64 (ndF x).2.2.1, .bool (ndF x).2.2.2.1, .slice Ab nb cb, .slice An nn cn, .string (ndF x).2.2.2.2.2.2.1, .slice Ak nk ck] TG)) from below_then hb0r hb0r.size hbe)
      have HBw7 := Aside0.mk (show Below B w (wr.alloc (Obj.cells #[.int .i64 (ndF x).1, .string (ndF x).2.1, .int .i64 (ndF x).2.2.1, .bool (ndF x).2.2.2.1, .slice Ab nb cb, .slice An nn cn, .string (ndF x).2.2.2.2.2.2.1, .slice Ak nk ck] TG)) from HBr.out.trans (hbe.mono (by have h1 := HBr.out.size; have h2 := HB.out; omega)))
      have HR7 := Aside0.mk (Kd.R_below HRr.out hbe)
      have HSz := Aside0.mk (show B ≤ (wr.alloc (Obj.cells #[.int .i64 (ndF x).1, .string (ndF x).2.1, .int .i64 (ndF x).2.2.1, .bool (ndF x).2.2.2.1, .slice Ab nb cb, .slice An nn cn, .string (ndF x).2.2.2.2.2.2.1, .slice Ak nk ck] TG)).heap.size by have h1 := HBr.out.size; have h2 := HB.out; have h3 := hbe.size; omega)
      clear hbe hk7 hb0r
      go_upto_region 5 with (fail)
      (try simp only [hb7])
      clear x0 x1 x2 x3 x4 x5 x6 x7
      generalize wr.alloc (Obj.cells #[.int .i64 (ndF x).1, .string (ndF x).2.1, .int .i64 (ndF x).2.2.1, .bool (ndF x).2.2.2.1, .slice Ab nb cb, .slice An nn cn, .string (ndF x).2.2.2.2.2.2.1, .slice Ak nk ck] TG) = W7 at *
      have hl0 : (left == 0) = false := beq_false_of_ne (by have := HLF.out.1; omega)
      have hwl : wrap64 (left - 1) = left - 1 := by have := HLF.out; unfold wrap64; omega
      go_upto_region 7 with (fail)
      have HKB := Aside0.mk (show ∀ w' : World, Below w0.heap.size w0 w' → Calls Tryd.prog 18 #[.slice Ak nk ck, .int .i64 (IntKind.i64.wrap (left - 1))] w' fun e w'' => ∃ v, e = .returned v ∧ Kd.R (rN w0) TRn w'' w'.heap.size (fun _ => True) v (ndF x).2.2.2.2.2.2.2 ∧ Below w'.heap.size w' w'' from fun w' hw' => by
        rw [show IntKind.i64.wrap (left - 1) = left - 1 by rw [IntKind.wrap_i64]; have := HLF.out; omega]
        have h := IH.out (ndF x).2.2.2.2.2.2.2 (left - 1) HDx.out.2 (by have := HLF.out.1; omega) (by have := HLF.out.2; omega) HSM.out.2.2 Ak ck (by rw [HNK.out]; exact HCk.out) (by rw [HNK.out]; exact HLE.out.2.2) w' hw'
        rw [HNK.out] at h
        exact h)
      have HONE := Aside0.mk (show PT.bobstaylaw12_one.f (ndF x).2.1 (ndF x).2.2.1 (ndF x).2.2.2.1 = some ((ndF x).2.1, (ndF x).2.2.1, (ndF x).2.2.2.1) from rfl)
      have HZ := Aside0.mk (Below.refl W7.heap.size W7)
      go_cut [8] (fun s8 wx => ∃ b8 vK, s8 = .pointer (some ⟨b8, 0, none⟩) ∧ Aside0 (XL w0 W7 wx b8 x An nn cn vK))
      case first =>
        have HKn := HK7
        have H7 := blk_lt HK7.out
        have s0 : W7.cell? ⟨b7, 0, none⟩ = some (.int .i64 (ndF x).1) := (blk_cell HKn.out 0).trans rfl; have s1 : W7.cell? ⟨b7, 1, none⟩ = some (.string (ndF x).2.1) := (blk_cell HKn.out 1).trans rfl; have s2 : W7.cell? ⟨b7, 2, none⟩ = some (.int .i64 (ndF x).2.2.1) := (blk_cell HKn.out 2).trans rfl; have s3 : W7.cell? ⟨b7, 3, none⟩ = some (.bool (ndF x).2.2.2.1) := (blk_cell HKn.out 3).trans rfl; have s5 : W7.cell? ⟨b7, 5, none⟩ = some (.slice An nn cn) := (blk_cell HKn.out 5).trans rfl; have s6 : W7.cell? ⟨b7, 6, none⟩ = some (.string (ndF x).2.2.2.2.2.2.1) := (blk_cell HKn.out 6).trans rfl; have s7 : W7.cell? ⟨b7, 7, none⟩ = some (.slice Ak nk ck) := (blk_cell HKn.out 7).trans rfl; have sA0 : ∀ o : Obj, (W7.alloc o).cell? ⟨b7, 0, none⟩ = some (.int .i64 (ndF x).1) := fun o => (blk_cell (blk_alloc HKn.out o) 0).trans rfl; have sA1 : ∀ o : Obj, (W7.alloc o).cell? ⟨b7, 1, none⟩ = some (.string (ndF x).2.1) := fun o => (blk_cell (blk_alloc HKn.out o) 1).trans rfl; have sA2 : ∀ o : Obj, (W7.alloc o).cell? ⟨b7, 2, none⟩ = some (.int .i64 (ndF x).2.2.1) := fun o => (blk_cell (blk_alloc HKn.out o) 2).trans rfl; have sA3 : ∀ o : Obj, (W7.alloc o).cell? ⟨b7, 3, none⟩ = some (.bool (ndF x).2.2.2.1) := fun o => (blk_cell (blk_alloc HKn.out o) 3).trans rfl; have sA5 : ∀ o : Obj, (W7.alloc o).cell? ⟨b7, 5, none⟩ = some (.slice An nn cn) := fun o => (blk_cell (blk_alloc HKn.out o) 5).trans rfl; have sA6 : ∀ o : Obj, (W7.alloc o).cell? ⟨b7, 6, none⟩ = some (.string (ndF x).2.2.2.2.2.2.1) := fun o => (blk_cell (blk_alloc HKn.out o) 6).trans rfl; have sA7 : ∀ o : Obj, (W7.alloc o).cell? ⟨b7, 7, none⟩ = some (.slice Ak nk ck) := fun o => (blk_cell (blk_alloc HKn.out o) 7).trans rfl
        clear HKn
        go_region_held3 (fun w' => w'.cell? ⟨b7, 0, none⟩ = some (.int .i64 (ndF x).1) ∧ w'.cell? ⟨b7, 1, none⟩ = some (.string (ndF x).2.1) ∧ w'.cell? ⟨b7, 2, none⟩ = some (.int .i64 (ndF x).2.2.1) ∧ w'.cell? ⟨b7, 3, none⟩ = some (.bool (ndF x).2.2.2.1) ∧ w'.cell? ⟨b7, 5, none⟩ = some (.slice An nn cn) ∧ w'.cell? ⟨b7, 6, none⟩ = some (.string (ndF x).2.2.2.2.2.2.1) ∧ w'.cell? ⟨b7, 7, none⟩ = some (.slice Ak nk ck)) (first | (with_reducible exact ⟨s0, s1, s2, s3, s5, s6, s7⟩) | (with_reducible exact ⟨sA0 _, sA1 _, sA2 _, sA3 _, sA5 _, sA6 _, sA7 _⟩) | (with_reducible exact keepD7 ⟨s0, s1, s2, s3, s5, s6, s7⟩) | (with_reducible exact keepD7 ⟨sA0 _, sA1 _, sA2 _, sA3 _, sA5 _, sA6 _, sA7 _⟩) | (with_reducible exact far8 hq ⟨s0, s1, s2, s3, s5, s6, s7⟩ _ _ _ _ _ _ _ _))
          (first
          | (go_at_call 23; (with_reducible refine (PT.bobstaylaw12_one.calls (ndF x).2.1 (ndF x).2.2.1 (ndF x).2.2.2.1 (ndF x).2.1 (ndF x).2.2.1 (ndF x).2.2.2.1 _ HONE.out).mono ?_); rintro e w5 ⟨rfl, hb5⟩; have HZn : Aside0 (Below W7.heap.size W7 w5) := Aside0.mk (below_step (by with_reducible repeat (first | exact HZ.out | apply below_alloc | apply pw_below_drewN | apply below_drew1)) hb5); clear HZ; have HZ := HZn; clear HZn; have hzw5 := HZ.out.size; have HKn := Aside0.mk (blk_below HK7.out HZ.out); have s0 : w5.cell? ⟨b7, 0, none⟩ = some (.int .i64 (ndF x).1) := (blk_cell HKn.out 0).trans rfl; have s1 : w5.cell? ⟨b7, 1, none⟩ = some (.string (ndF x).2.1) := (blk_cell HKn.out 1).trans rfl; have s2 : w5.cell? ⟨b7, 2, none⟩ = some (.int .i64 (ndF x).2.2.1) := (blk_cell HKn.out 2).trans rfl; have s3 : w5.cell? ⟨b7, 3, none⟩ = some (.bool (ndF x).2.2.2.1) := (blk_cell HKn.out 3).trans rfl; have s5 : w5.cell? ⟨b7, 5, none⟩ = some (.slice An nn cn) := (blk_cell HKn.out 5).trans rfl; have s6 : w5.cell? ⟨b7, 6, none⟩ = some (.string (ndF x).2.2.2.2.2.2.1) := (blk_cell HKn.out 6).trans rfl; have s7 : w5.cell? ⟨b7, 7, none⟩ = some (.slice Ak nk ck) := (blk_cell HKn.out 7).trans rfl; have sA0 : ∀ o : Obj, (w5.alloc o).cell? ⟨b7, 0, none⟩ = some (.int .i64 (ndF x).1) := fun o => (blk_cell (blk_alloc HKn.out o) 0).trans rfl; have sA1 : ∀ o : Obj, (w5.alloc o).cell? ⟨b7, 1, none⟩ = some (.string (ndF x).2.1) := fun o => (blk_cell (blk_alloc HKn.out o) 1).trans rfl; have sA2 : ∀ o : Obj, (w5.alloc o).cell? ⟨b7, 2, none⟩ = some (.int .i64 (ndF x).2.2.1) := fun o => (blk_cell (blk_alloc HKn.out o) 2).trans rfl; have sA3 : ∀ o : Obj, (w5.alloc o).cell? ⟨b7, 3, none⟩ = some (.bool (ndF x).2.2.2.1) := fun o => (blk_cell (blk_alloc HKn.out o) 3).trans rfl; have sA5 : ∀ o : Obj, (w5.alloc o).cell? ⟨b7, 5, none⟩ = some (.slice An nn cn) := fun o => (blk_cell (blk_alloc HKn.out o) 5).trans rfl; have sA6 : ∀ o : Obj, (w5.alloc o).cell? ⟨b7, 6, none⟩ = some (.string (ndF x).2.2.2.2.2.2.1) := fun o => (blk_cell (blk_alloc HKn.out o) 6).trans rfl; have sA7 : ∀ o : Obj, (w5.alloc o).cell? ⟨b7, 7, none⟩ = some (.slice Ak nk ck) := fun o => (blk_cell (blk_alloc HKn.out o) 7).trans rfl; clear HKn; (try ((with_reducible have nb : Aside0 (w5.heap[W7.heap.size]? = some (.cells #[.int .i64 0, .string ⟨#[]⟩, .int .i64 0, .bool false, .slice none 0 0, .slice none 0 0, .string ⟨#[]⟩, .slice none 0 0] TRn (0, 0))) := ⟨nb_ofD hb5 (heap_alloc_new W7 (.cells #[.int .i64 0, .string ⟨#[]⟩, .int .i64 0, .bool false, .slice none 0 0, .slice none 0 0, .string ⟨#[]⟩, .slice none 0 0] TRn))⟩); have z0 := (blk_cell nb.out 0).trans rfl; have z1 := (blk_cell nb.out 1).trans rfl; have z2 := (blk_cell nb.out 2).trans rfl; have z3 := (blk_cell nb.out 3).trans rfl; have z4 := (blk_cell nb.out 4).trans rfl; have z5 := (blk_cell nb.out 5).trans rfl; have z6 := (blk_cell nb.out 6).trans rfl; have z7 := (blk_cell nb.out 7).trans rfl; have y0 := blk_frozen nb.out 0; have y1 := blk_frozen nb.out 1; have y2 := blk_frozen nb.out 2; have y3 := blk_frozen nb.out 3; have y4 := blk_frozen nb.out 4; have y5 := blk_frozen nb.out 5; have y6 := blk_frozen nb.out 6; have y7 := blk_frozen nb.out 7; have hq : b7 ≠ W7.heap.size := Nat.ne_of_lt (Nat.lt_of_lt_of_le H7 (Nat.le_refl _)))))
          | (go_at_call 18; (with_reducible refine (HKB.out _ ?hA).mono ?_); (case hA => exact below_step HB7.out (by with_reducible repeat (first | exact HZ.out | apply below_alloc | apply pw_below_drewN | apply below_drew1))); rintro e w6 ⟨v6, rfl, hR6, hb6⟩; obtain ⟨A6, c6, rfl⟩ := Kd.R_slice hR6; have HZn : Aside0 (Below W7.heap.size W7 w6) := Aside0.mk (below_step (by with_reducible repeat (first | exact HZ.out | apply below_alloc | apply pw_below_drewN | apply below_drew1)) hb6); clear HZ; have HZ := HZn; clear HZn; have hzw6 := HZ.out.size; have HKn := Aside0.mk (blk_below HK7.out HZ.out); have s0 : w6.cell? ⟨b7, 0, none⟩ = some (.int .i64 (ndF x).1) := (blk_cell HKn.out 0).trans rfl; have s1 : w6.cell? ⟨b7, 1, none⟩ = some (.string (ndF x).2.1) := (blk_cell HKn.out 1).trans rfl; have s2 : w6.cell? ⟨b7, 2, none⟩ = some (.int .i64 (ndF x).2.2.1) := (blk_cell HKn.out 2).trans rfl; have s3 : w6.cell? ⟨b7, 3, none⟩ = some (.bool (ndF x).2.2.2.1) := (blk_cell HKn.out 3).trans rfl; have s5 : w6.cell? ⟨b7, 5, none⟩ = some (.slice An nn cn) := (blk_cell HKn.out 5).trans rfl; have s6 : w6.cell? ⟨b7, 6, none⟩ = some (.string (ndF x).2.2.2.2.2.2.1) := (blk_cell HKn.out 6).trans rfl; have s7 : w6.cell? ⟨b7, 7, none⟩ = some (.slice Ak nk ck) := (blk_cell HKn.out 7).trans rfl; have sA0 : ∀ o : Obj, (w6.alloc o).cell? ⟨b7, 0, none⟩ = some (.int .i64 (ndF x).1) := fun o => (blk_cell (blk_alloc HKn.out o) 0).trans rfl; have sA1 : ∀ o : Obj, (w6.alloc o).cell? ⟨b7, 1, none⟩ = some (.string (ndF x).2.1) := fun o => (blk_cell (blk_alloc HKn.out o) 1).trans rfl; have sA2 : ∀ o : Obj, (w6.alloc o).cell? ⟨b7, 2, none⟩ = some (.int .i64 (ndF x).2.2.1) := fun o => (blk_cell (blk_alloc HKn.out o) 2).trans rfl; have sA3 : ∀ o : Obj, (w6.alloc o).cell? ⟨b7, 3, none⟩ = some (.bool (ndF x).2.2.2.1) := fun o => (blk_cell (blk_alloc HKn.out o) 3).trans rfl; have sA5 : ∀ o : Obj, (w6.alloc o).cell? ⟨b7, 5, none⟩ = some (.slice An nn cn) := fun o => (blk_cell (blk_alloc HKn.out o) 5).trans rfl; have sA6 : ∀ o : Obj, (w6.alloc o).cell? ⟨b7, 6, none⟩ = some (.string (ndF x).2.2.2.2.2.2.1) := fun o => (blk_cell (blk_alloc HKn.out o) 6).trans rfl; have sA7 : ∀ o : Obj, (w6.alloc o).cell? ⟨b7, 7, none⟩ = some (.slice Ak nk ck) := fun o => (blk_cell (blk_alloc HKn.out o) 7).trans rfl; clear HKn; (try ((with_reducible have nb : Aside0 (w6.heap[W7.heap.size]? = some (.cells #[.int .i64 0, .string ⟨#[]⟩, .int .i64 0, .bool false, .slice none 0 0, .slice none 0 0, .string ⟨#[]⟩, .slice none 0 0] TRn (0, 0))) := ⟨nb_of hb6 nb.out⟩); have z0 := (blk_cell nb.out 0).trans rfl; have z1 := (blk_cell nb.out 1).trans rfl; have z2 := (blk_cell nb.out 2).trans rfl; have z3 := (blk_cell nb.out 3).trans rfl; have z4 := (blk_cell nb.out 4).trans rfl; have z5 := (blk_cell nb.out 5).trans rfl; have z6 := (blk_cell nb.out 6).trans rfl; have z7 := (blk_cell nb.out 7).trans rfl; have y0 := blk_frozen nb.out 0; have y1 := blk_frozen nb.out 1; have y2 := blk_frozen nb.out 2; have y3 := blk_frozen nb.out 3; have y4 := blk_frozen nb.out 4; have y5 := blk_frozen nb.out 5; have y6 := blk_frozen nb.out 6; have y7 := blk_frozen nb.out 7; have hq : b7 ≠ W7.heap.size := Nat.ne_of_lt (Nat.lt_of_lt_of_le H7 (Nat.le_refl _)))); (try ((with_reducible have nb : Aside0 (w6.heap[w5.heap.size]? = some (.cells #[.int .i64 0, .string ⟨#[]⟩, .int .i64 0, .bool false, .slice none 0 0, .slice none 0 0, .string ⟨#[]⟩, .slice none 0 0] TRn (0, 0))) := ⟨nb_of hb6 (heap_alloc_new w5 (.cells #[.int .i64 0, .string ⟨#[]⟩, .int .i64 0, .bool false, .slice none 0 0, .slice none 0 0, .string ⟨#[]⟩, .slice none 0 0] TRn))⟩); have z0 := (blk_cell nb.out 0).trans rfl; have z1 := (blk_cell nb.out 1).trans rfl; have z2 := (blk_cell nb.out 2).trans rfl; have z3 := (blk_cell nb.out 3).trans rfl; have z4 := (blk_cell nb.out 4).trans rfl; have z5 := (blk_cell nb.out 5).trans rfl; have z6 := (blk_cell nb.out 6).trans rfl; have z7 := (blk_cell nb.out 7).trans rfl; have y0 := blk_frozen nb.out 0; have y1 := blk_frozen nb.out 1; have y2 := blk_frozen nb.out 2; have y3 := blk_frozen nb.out 3; have y4 := blk_frozen nb.out 4; have y5 := blk_frozen nb.out 5; have y6 := blk_frozen nb.out 6; have y7 := blk_frozen nb.out 7; have hq : b7 ≠ w5.heap.size := Nat.ne_of_lt (Nat.lt_of_lt_of_le H7 hzw5)))))
        all_goals (go_wp2_with (fail); go_meet)
        · exact ⟨_, _, rfl, ⟨xl_new HZ.out hzw5 hR6⟩⟩
        · exact ⟨_, _, rfl, ⟨xl_old HZ.out (Nat.le_trans hzw5 (by simp)) hR6 hzw5 (by simp) nb.out⟩⟩
        · exact ⟨_, _, rfl, ⟨xl_old HZ.out hzw5 hR6 (Nat.le_refl _) (Nat.lt_of_lt_of_le (by simp) hb5.size) nb.out⟩⟩
      case rest =>
        obtain ⟨b8, vK, rfl, HX⟩ := hcut
        clear HZ HONE HKB
        have hx8 := HX.out.ge
        have h78 := blk_lt HK7.out
        have HXb := Aside0.mk HX.out.blk
        have HXr := Aside0.mk HX.out.row
        have HXz := Aside0.mk HX.out.bel
        have HX7 := Aside0.mk (blk_below HK7.out HX.out.bel)
        obtain ⟨S0, hS0⟩ : ∃ S0, wc.heap.size = S0 := ⟨_, rfl⟩
        have HS0 := Aside0.mk (show S0 ≤ wc.heap.size by omega)
        have h8S : b8 < S0 := by have := blk_lt HX.out.blk; omega
        have HXr := Aside0.mk (Kd.R_mono (Kd.R_bound HXr.out) (fun k hk => (⟨hk.1, by have := hk.2.2.1; omega⟩ : k ≠ b8 ∧ k < S0)))
        have HV0 := Aside0.mk (Kd.R_nil (rB w0) TRb wc W7.heap.size (fun k => k ≠ b8 ∧ S0 ≤ k))
        have H7S : W7.heap.size ≤ S0 := by have := HX.out.bel.size; omega
        clear hS0
        have y4 : wc.cell? ⟨b7, 4, none⟩ = some (.slice Ab nb cb) := (blk_cell HX7.out 4).trans rfl
        obtain ⟨Ax, cx, ex⟩ := Kd.R_slice HXr.out
        obtain ⟨nx, hnx⟩ : ∃ k, (ndF x).2.2.2.2.2.2.2.length = k := ⟨_, rfl⟩
        rw [hnx] at ex
        subst ex
        clear HX hnx
        go_wp2_with (fail)
        clear y4
        go_loopw [37] (fun v37 wq => ∃ (j : Int) (v : Value), v37 = .int .i64 j ∧ 0 ≤ j ∧ j ≤ nb ∧ Aside0 (Below W7.heap.size W7 wq) ∧ Aside0 (wq.heap[b8]? = some (.cells #[.int .i64 (ndF x).1, .string (ndF x).2.1, .int .i64 (ndF x).2.2.1, .bool (ndF x).2.2.2.1, v, .slice An nn cn, .string (ndF x).2.2.2.2.2.2.1, .slice Ax nx cx] TRn (0, 0))) ∧ Aside0 (Kd.R (rB w0) TRb wq W7.heap.size (fun k => k ≠ b8 ∧ S0 ≤ k) v ((ndF x).2.2.2.2.1.take j.toNat)) ∧ Aside0 (Kd.R (rN w0) TRn wq W7.heap.size (fun k => k ≠ b8 ∧ k < S0) (.slice Ax nx cx) (ndF x).2.2.2.2.2.2.2) ∧ Aside0 (S0 ≤ wq.heap.size)) (fun v37 _ => nb - (intOf v37).toNat)
        case atStart => exact ⟨0, _, rfl, by omega, by omega, HXz, HXb, HV0, HXr, HS0⟩
        case round =>
          clear HXz HXb HV0 HXr HX7 HS0
          obtain ⟨j, v, rfl, hj0, hj1, HZq, HXq, HVq, HKq, HSq⟩ := hrel
          have HX7q := Aside0.mk (blk_below HK7.out HZq.out)
          by_cases hjt : j < nb
          · have d2 : decide (j < (nb : Int)) = true := decide_eq_true hjt
            have HJJ := Aside0.mk (And.intro hj0 hjt)
            have hjl : j.toNat < (ndF x).2.2.2.2.1.length := by rw [HNB.out]; omega
            have hwj : wrap64 (j + 1) = j + 1 := by have := HCb.out.2.1; unfold wrap64; omega
            have hb0q : Below w0.heap.size w0 wr := below_step HB7.out HZq.out
            obtain ⟨ae, cse, ee, hcl, hKb, hcb⟩ := Kd.C_get HCb.out zB j hj0 hjt
            have HSB := Aside0.mk (HSM.out.2.1 ((ndF x).2.2.2.2.1.getD j.toNat zB) (mem_getD _ j.toNat zB hjl))
            have HDb := Aside0.mk (HDx.out.1 ((ndF x).2.2.2.2.1.getD j.toNat zB) (mem_getD _ j.toNat zB hjl))
            have HTK2 := Aside0.mk (show (ndF x).2.2.2.2.1.take (j.toNat + 1) = (ndF x).2.2.2.2.1.take j.toNat ++ [(ndF x).2.2.2.2.1.getD j.toNat zB] by
              rw [List.take_add_one, List.getElem?_eq_getElem hjl, List.getD_eq_getElem?_getD, List.getElem?_eq_getElem hjl]; rfl)
            generalize (ndF x).2.2.2.2.1.getD j.toNat zB = b at hKb HDb HTK2 HSB
            obtain ⟨Aq, cq, rfl, hq1, hCq⟩ := kbr_open hKb
            have hcb : ∀ k u, ([.string (brF b).1, .string (brF b).2.1, .int .i64 (brF b).2.2.1, .slice Aq (brF b).2.2.2.length cq] : List Value)[k]? = some u → wr.cell? (ae.add (j.toNat * 4 + k)) = some u := fun k u h => pw_cell_below hb0q (hcb k u h)
            obtain ⟨nq, hnq⟩ : ∃ k, (brF b).2.2.2.length = k := ⟨_, rfl⟩
            rw [hnq] at hcb hq1 hCq
            have z0 := hcb 0 _ rfl
            have z1 := hcb 1 _ rfl
            have z2 := hcb 2 _ rfl
            have z3 := hcb 3 _ rfl
            rw [Nat.add_zero] at z0
            rw [add_field _ _ 1 (by omega)] at z1
            rw [add_field _ _ 2 (by omega)] at z2
            rw [add_field _ _ 3 (by omega)] at z3
            have HCq := Aside0.mk hCq
            have HNq := Aside0.mk hnq
            have HQ1 := Aside0.mk hq1
            clear hcl hcb hCq hnq hq1 hKb hb0q
            subst ee
            obtain ⟨b10, hb10⟩ : ∃ b, wr.heap.size = b := ⟨_, rfl⟩
            have hbe := below_alloc (Below.refl wr.heap.size wr) (Obj.cells #[.string (brF b).1, .string (brF b).2.1, .int .i64 (brF b).2.2.1, .slice Aq nq cq] TGb)
            have hk10 := heap_alloc_new wr (Obj.cells #[.string (brF b).1, .string (brF b).2.1, .int .i64 (brF b).2.2.1, .slice Aq nq cq] TGb)
            rw [hb10] at hk10
            have HK10 := Aside0.mk hk10
            have HZ10 := Aside0.mk (below_step HZq.out hbe)
            have HX10 := Aside0.mk (blk_below HXq.out hbe)
            have HV10 := Aside0.mk (Kd.R_below HVq.out hbe)
            have HK8' := Aside0.mk (Kd.R_below HKq.out hbe)
            have HSY := Aside0.mk hbe.size
            have HS10 := Aside0.mk (show S0 ≤ b10 by have := HSq.out; omega)
            clear hbe hk10 HZq HXq HVq HKq HX7q
            obtain ⟨A0, c0, e0⟩ := Kd.R_slice HV10.out
            obtain ⟨kv, hkv⟩ : ∃ k, ((ndF x).2.2.2.2.1.take j.toNat).length = k := ⟨_, rfl⟩
            rw [hkv] at e0
            subst e0
            have HKV := Aside0.mk hkv
            have HLN := Aside0.mk (show (((ndF x).2.2.2.2.1.take j.toNat).length + 1) * 64 ≤ 140737488355328 by rw [List.length_take]; have := HSM.out.1; unfold brsN at this; omega)
            clear hkv
            go_upto_region 11 with (fail)
            (try simp only [hb10])
            clear z0 z1 z2 z3
            generalize wr.alloc (Obj.cells #[.string (brF b).1, .string (brF b).2.1, .int .i64 (brF b).2.2.1, .slice Aq nq cq] TGb) = WX at *
            have HSX := Aside0.mk (show S0 ≤ WX.heap.size from by have h1 := HSq.out; have h2 := HSY.out; omega)
            have HKB2 := Aside0.mk (show ∀ w' : World, Below w0.heap.size w0 w' → Calls Tryd.prog 18 #[.slice Aq nq cq, .int .i64 (IntKind.i64.wrap (left - 1))] w' fun e w'' => ∃ v, e = .returned v ∧ Kd.R (rN w0) TRn w'' w'.heap.size (fun _ => True) v (brF b).2.2.2 ∧ Below w'.heap.size w' w'' from fun w' hw' => by
              rw [show IntKind.i64.wrap (left - 1) = left - 1 by rw [IntKind.wrap_i64]; have := HLF.out; omega]
              have h := IH.out (brF b).2.2.2 (left - 1) HDb.out (by have := HLF.out.1; omega) (by have := HLF.out.2; omega) HSB.out Aq cq (by rw [HNq.out]; exact HCq.out) (by rw [HNq.out]; exact HQ1.out) w' hw'
              rw [HNq.out] at h
              exact h)
            have y4 : WX.cell? ⟨b8, 4, none⟩ = some (.slice A0 kv c0) := (blk_cell HX10.out 4).trans rfl
            have t0 : WX.cell? ⟨b10, 0, none⟩ = some (.string (brF b).1) := (blk_cell HK10.out 0).trans rfl
            have t1 : WX.cell? ⟨b10, 1, none⟩ = some (.string (brF b).2.1) := (blk_cell HK10.out 1).trans rfl
            have t2 : WX.cell? ⟨b10, 2, none⟩ = some (.int .i64 (brF b).2.2.1) := (blk_cell HK10.out 2).trans rfl
            have t3 : WX.cell? ⟨b10, 3, none⟩ = some (.slice Aq nq cq) := (blk_cell HK10.out 3).trans rfl
            have HOW := Aside0.mk (Kd.R_lt HV10.out)
            have HL8 := Aside0.mk (blk_lt HX10.out)
            clear HSq
            have tA0 : ∀ o : Obj, (WX.alloc o).cell? ⟨b10, 0, none⟩ = some (.string (brF b).1) := fun o => (blk_cell (blk_alloc HK10.out o) 0).trans rfl
            have tA1 : ∀ o : Obj, (WX.alloc o).cell? ⟨b10, 1, none⟩ = some (.string (brF b).2.1) := fun o => (blk_cell (blk_alloc HK10.out o) 1).trans rfl
            have tA2 : ∀ o : Obj, (WX.alloc o).cell? ⟨b10, 2, none⟩ = some (.int .i64 (brF b).2.2.1) := fun o => (blk_cell (blk_alloc HK10.out o) 2).trans rfl
            have tA3 : ∀ o : Obj, (WX.alloc o).cell? ⟨b10, 3, none⟩ = some (.slice Aq nq cq) := fun o => (blk_cell (blk_alloc HK10.out o) 3).trans rfl
            have hq : b10 ≠ b8 := by have h1 := h8S; have h2 := HS10.out; omega
            refine wp_region_held_drew (S := fun w' => w'.cell? ⟨b10, 0, none⟩ = some (.string (brF b).1) ∧ w'.cell? ⟨b10, 1, none⟩ = some (.string (brF b).2.1) ∧ w'.cell? ⟨b10, 2, none⟩ = some (.int .i64 (brF b).2.2.1) ∧ w'.cell? ⟨b10, 3, none⟩ = some (.slice Aq nq cq)) (by kernel_rfl) ⟨t0, t1, t2, t3⟩ (fun hHeld => ?_)
            refine wpAnyH_take (i := 0) (v := ?_) rfl (by kernel_rfl) (by kernel_rfl) (by kernel_rfl) (fun _ _ _ h => h) (Or.inl ⟨by rfl, ?_⟩) (by assumption) ?_
            rotate_left
            · (intro w hSw; (try dsimp only at hSw); go_simp; (try with_reducible rfl))
            (try simp only [Act.put, List.setIfInBounds_toArray, List.set_cons_zero, List.set_cons_succ])
            refine wpAnyH_take (i := 2) (v := ?_) rfl (by kernel_rfl) (by kernel_rfl) (by kernel_rfl) (fun _ _ _ h => h) (Or.inl ⟨by rfl, ?_⟩) (by assumption) ?_
            rotate_left
            · (intro w hSw; (try dsimp only at hSw); go_simp; (try with_reducible rfl))
            (try simp only [Act.put, List.setIfInBounds_toArray, List.set_cons_zero, List.set_cons_succ])
            refine wpAnyH_take (i := 3) (v := ?_) rfl (by kernel_rfl) (by kernel_rfl) (by kernel_rfl) (fun _ _ _ h => h) (Or.inl ⟨by rfl, ?_⟩) (by assumption) ?_
            rotate_left
            · (intro w hSw; (try dsimp only at hSw); go_simp; (try with_reducible rfl))
            (try simp only [Act.put, List.setIfInBounds_toArray, List.set_cons_zero, List.set_cons_succ])
            refine wpAnyH_take (i := 4) (v := ?_) rfl (by kernel_rfl) (by kernel_rfl) (by kernel_rfl) (fun _ _ _ h => h) (Or.inl ⟨by rfl, ?_⟩) (by assumption) ?_
            rotate_left
            · (intro w hSw; (try dsimp only at hSw); go_simp; (try with_reducible rfl))
            (try simp only [Act.put, List.setIfInBounds_toArray, List.set_cons_zero, List.set_cons_succ])
            refine wpAnyH_take (i := 5) (v := ?_) rfl (by kernel_rfl) (by kernel_rfl) (by kernel_rfl) (fun _ _ _ h => h) (Or.inl ⟨by rfl, ?_⟩) (by assumption) ?_
            rotate_left
            · (intro w hSw; (try dsimp only at hSw); go_simp; (try with_reducible rfl))
            (try simp only [Act.put, List.setIfInBounds_toArray, List.set_cons_zero, List.set_cons_succ])
            refine wpAnyH_take (i := 6) (v := ?_) rfl (by kernel_rfl) (by kernel_rfl) (by kernel_rfl) (fun _ _ _ h => h) (Or.inl ⟨by rfl, ?_⟩) (by assumption) ?_
            rotate_left
            · (intro w hSw; (try dsimp only at hSw); go_simp; (try with_reducible rfl))
            (try simp only [Act.put, List.setIfInBounds_toArray, List.set_cons_zero, List.set_cons_succ])
            refine wpAnyH_take (i := 7) (v := ?_) rfl (by kernel_rfl) (by kernel_rfl) (by kernel_rfl) (fun _ _ _ h => h) (Or.inl ⟨by rfl, ?_⟩) (by assumption) ?_
            rotate_left
            · (intro w hSw; (try dsimp only at hSw); go_simp; (try with_reducible rfl))
            (try simp only [Act.put, List.setIfInBounds_toArray, List.set_cons_zero, List.set_cons_succ])
            refine wpAnyH_take (i := 8) (v := ?_) rfl (by kernel_rfl) (by kernel_rfl) (by kernel_rfl) (fun _ _ _ h => h) (Or.inl ⟨by rfl, ?_⟩) (by assumption) ?_
            rotate_left
            · (intro w hSw; (try dsimp only at hSw); go_simp; (try with_reducible rfl))
            (try simp only [Act.put, List.setIfInBounds_toArray, List.set_cons_zero, List.set_cons_succ])
            refine wpAnyH_take (i := 9) (v := ?_) rfl (by kernel_rfl) (by kernel_rfl) (by kernel_rfl) (fun _ _ _ h => h) (Or.inl ⟨by rfl, ?_⟩) (by assumption) ?_
            rotate_left
            · (intro w hSw; (try dsimp only at hSw); go_simp; (try with_reducible rfl))
            (try simp only [Act.put, List.setIfInBounds_toArray, List.set_cons_zero, List.set_cons_succ])
            refine wpAnyH_take (i := 10) (v := ?_) rfl (by kernel_rfl) (by kernel_rfl) (by kernel_rfl) (fun _ _ _ h => h) (Or.inl ⟨by rfl, ?_⟩) (by assumption) ?_
            rotate_left
            · (intro w hSw; (try dsimp only at hSw); go_simp; (try with_reducible rfl))
            (try simp only [Act.put, List.setIfInBounds_toArray, List.set_cons_zero, List.set_cons_succ])
            refine wpAnyH_take (i := 11) (v := ?_) rfl (by kernel_rfl) (by kernel_rfl) (by kernel_rfl) (fun _ _ _ h => h) (Or.inl ⟨by rfl, ?_⟩) (by assumption) ?_
            rotate_left
            · (intro w hSw; (try dsimp only at hSw); go_simp; (try with_reducible rfl))
            (try simp only [Act.put, List.setIfInBounds_toArray, List.set_cons_zero, List.set_cons_succ])
            refine wpAnyH_ready (rs := [1, 12]) (by kernel_rfl) (by simp) (AllReadyH.cons rfl (fun K hK => ?_) (AllReadyH.cons rfl (fun K hK => ?_) AllReadyH.nil))
            · go_simp
              refine hK.out _ _ ?_ (fun hHeld => ?_)
              · (first | (with_reducible exact ⟨t0, t1, t2, t3⟩) | (with_reducible exact ⟨tA0 _, tA1 _, tA2 _, tA3 _⟩) | (with_reducible exact keepD4 ⟨t0, t1, t2, t3⟩) | (with_reducible exact far4 hq ⟨t0, t1, t2, t3⟩ _))
              clear hK K
              (try simp only [Act.put, List.setIfInBounds_toArray, List.set_cons_zero, List.set_cons_succ])
              refine wpAnyH_ready (rs := [12]) (by kernel_rfl) (by simp) (AllReadyH.cons rfl (fun K hK => ?_) AllReadyH.nil)
              (go_simp; go_at_call 18; (with_reducible refine (HKB2.out _ ?hA).mono ?_); (case hA => exact below_drew (below_step HB7.out HZ10.out)); rintro e w11 ⟨v11, rfl, hR11, hB11⟩; obtain ⟨A11, c11, e11⟩ := Kd.R_slice hR11; rw [HNq.out] at e11; subst e11; have hBd : Below WX.heap.size WX w11 := below_step (below_drew (Below.refl _ _)) hB11; have HX11 := Aside0.mk (blk_below HX10.out hBd); have HV11 := Aside0.mk (Kd.R_below HV10.out hBd); have HKK11 := Aside0.mk (Kd.R_below HK8'.out hBd); have HK11 := Aside0.mk (blk_below HK10.out hBd); have HZ11 := Aside0.mk (below_step HZ10.out hBd); have HBS := Aside0.mk (HZ11.out.size); have w4 := (blk_cell HX11.out 4).trans (show _ = some (Value.slice A0 kv c0) from rfl); have w4a : ∀ ob : Obj, (w11.alloc ob).cell? ⟨b8, 4, none⟩ = some (.slice A0 kv c0) := (fun ob => (blk_cell (blk_alloc HX11.out ob) 4).trans (show _ = some (Value.slice A0 kv c0) from rfl)); have t0 := (blk_cell HK11.out 0).trans (show _ = some (Value.string (brF b).1) from rfl); have t1 := (blk_cell HK11.out 1).trans (show _ = some (Value.string (brF b).2.1) from rfl); have t2 := (blk_cell HK11.out 2).trans (show _ = some (Value.int .i64 (brF b).2.2.1) from rfl); have t3 := (blk_cell HK11.out 3).trans (show _ = some (Value.slice Aq nq cq) from rfl); have tA0 : ∀ o : Obj, (w11.alloc o).cell? ⟨b10, 0, none⟩ = some (.string (brF b).1) := (fun o => (blk_cell (blk_alloc HK11.out o) 0).trans rfl); have tA1 : ∀ o : Obj, (w11.alloc o).cell? ⟨b10, 1, none⟩ = some (.string (brF b).2.1) := (fun o => (blk_cell (blk_alloc HK11.out o) 1).trans rfl); have tA2 : ∀ o : Obj, (w11.alloc o).cell? ⟨b10, 2, none⟩ = some (.int .i64 (brF b).2.2.1) := (fun o => (blk_cell (blk_alloc HK11.out o) 2).trans rfl); have tA3 : ∀ o : Obj, (w11.alloc o).cell? ⟨b10, 3, none⟩ = some (.slice Aq nq cq) := (fun o => (blk_cell (blk_alloc HK11.out o) 3).trans rfl); have HUK := Aside0.mk (apart_tyN HV11.out HK11.out (by decide)); have HND := Aside0.mk (show (rB w0).M w11 W7.heap.size (fun k => WX.heap.size ≤ k) b [.string (brF b).1, .string (brF b).2.1, .int .i64 (brF b).2.2.1, .slice A11 nq c11] from rbr_at (b := b) (Kd.R_lower (Kd.R_mono (Kd.R_bound hR11) (fun k hk => (hk.2.1 : WX.heap.size ≤ k))) (show W7.heap.size ≤ WX.heap.size from HZ10.out.size))); have HOK := Aside0.mk (show ∀ k, WX.heap.size ≤ k → (k ≠ b8 ∧ S0 ≤ k) ∧ some k ≠ (Value.slice A0 kv c0).ownBlock from fun k hk => ⟨⟨by have := HL8.out; omega, by have := HSX.out; omega⟩, fun e => by have := HOW.out k e.symm; omega⟩); have HFR := Aside0.mk (show ∀ k, w11.heap.size ≤ k → (k ≠ b8 ∧ S0 ≤ k) from fun k hk => ⟨by have := blk_lt HX11.out; omega, by have h1 := HSX.out; have h2 := hBd.size; omega⟩); have HUN := Aside0.mk (show some b8 ≠ (Value.slice A0 kv c0).ownBlock from fun e => (HV11.out.1 b8 e.symm).1 rfl); have HS11 := Aside0.mk (show S0 ≤ w11.heap.size by have h1 := HSX.out; have h2 := hBd.size; omega); clear hR11 hB11 hBd)
              go_wp2_with (fail)
              refine hK.out _ _ ?_ (fun hHeld => ?_)
              · (first | (with_reducible exact ⟨t0, t1, t2, t3⟩) | (with_reducible exact ⟨tA0 _, tA1 _, tA2 _, tA3 _⟩) | (with_reducible exact keepD4 ⟨t0, t1, t2, t3⟩) | (with_reducible exact far4 hq ⟨t0, t1, t2, t3⟩ _))
              clear hK K
              (try simp only [Act.put, List.setIfInBounds_toArray, List.set_cons_zero, List.set_cons_succ])
              refine wpAnyH_take (i := 13) (v := ?_) rfl (by kernel_rfl) (by kernel_rfl) (by kernel_rfl) (fun _ _ _ h => h) (Or.inl ⟨by rfl, ?_⟩) (by assumption) ?_
              rotate_left
              · (intro w hSw; (try dsimp only at hSw); go_simp; (try with_reducible rfl))
              (try simp only [Act.put, List.setIfInBounds_toArray, List.set_cons_zero, List.set_cons_succ])
              refine wpAnyH_ready (rs := [14]) (by kernel_rfl) (by simp) (AllReadyH.cons rfl (fun K hK => ?_) AllReadyH.nil)
              go_simp
              refine hK.out _ _ ?_ (fun hHeld => ?_)
              · (first | (with_reducible exact ⟨t0, t1, t2, t3⟩) | (with_reducible exact ⟨tA0 _, tA1 _, tA2 _, tA3 _⟩) | (with_reducible exact keepD4 ⟨t0, t1, t2, t3⟩) | (with_reducible exact far4 hq ⟨t0, t1, t2, t3⟩ _))
              clear hK K
              (try simp only [Act.put, List.setIfInBounds_toArray, List.set_cons_zero, List.set_cons_succ])
              refine wpAnyH_ready (rs := [15]) (by kernel_rfl) (by simp) (AllReadyH.cons rfl (fun K hK => ?_) AllReadyH.nil)
              (refine Kd.R_append_step (rB w0) (w0 := w11) W7.heap.size (by rfl) (.tmp 42) (.tmp 55) 67 TRb (.agg #[.string ⟨#[]⟩, .string ⟨#[]⟩, .int .i64 0, .slice none 0 0]) 64 (by rfl) Tryd.underlying67 infoRb (by rfl) (Nat.succ_pos 3) (by decide) (.slice A0 kv c0) ((ndF x).2.2.2.2.1.take j.toNat) b [.string (brF b).1, .string (brF b).2.1, .int .i64 (brF b).2.2.1, .slice A11 nq c11] (fun k => k ≠ b8 ∧ S0 ≤ k) (fun k => WX.heap.size ≤ k) (by rfl) (by rfl) (by exact HND.out) (by exact HOK.out) (by exact HFR.out) (by exact HV11.out) (Below.refl _ _) (by exact HBS.out) (by exact HLN.out) ?_; intro v12 w12 hR12 hB12 hg12 hat12; obtain ⟨A12, c12, e12⟩ := Kd.R_slice hR12; obtain ⟨k12, hk12⟩ : ∃ k, ((ndF x).2.2.2.2.1.take j.toNat ++ [b]).length = k := ⟨_, rfl⟩; rw [hk12] at e12; subst e12; have hu12 := (hg12.block b8 (blk_lt HX11.out) HUN.out).trans HX11.out; have q4 := (blk_cell hu12 4).trans (show _ = some (Value.slice A0 kv c0) from rfl); have g4 := blk_frozen hu12 4; have hk12' := (hg12.block b10 (blk_lt HK11.out) HUK.out).trans HK11.out; have t0 := (blk_cell hk12' 0).trans (show _ = some (Value.string (brF b).1) from rfl); have t1 := (blk_cell hk12' 1).trans (show _ = some (Value.string (brF b).2.1) from rfl); have t2 := (blk_cell hk12' 2).trans (show _ = some (Value.int .i64 (brF b).2.2.1) from rfl); have t3 := (blk_cell hk12' 3).trans (show _ = some (Value.slice Aq nq cq) from rfl))
              refine hK.out _ _ ?_ (fun hHeld => ?_)
              · (first | (with_reducible exact ⟨t0, t1, t2, t3⟩) | (with_reducible exact ⟨tA0 _, tA1 _, tA2 _, tA3 _⟩) | (with_reducible exact keepD4 ⟨t0, t1, t2, t3⟩) | (with_reducible exact far4 hq ⟨t0, t1, t2, t3⟩ _))
              clear hK K
              (try simp only [Act.put, List.setIfInBounds_toArray, List.set_cons_zero, List.set_cons_succ])
              refine wpAnyH_take (i := 16) (v := ?_) rfl (by kernel_rfl) (by kernel_rfl) (by kernel_rfl) (fun _ _ _ h => h) (Or.inl ⟨by rfl, ?_⟩) (by assumption) ?_
              rotate_left
              · (intro w hSw; (try dsimp only at hSw); go_simp; (try with_reducible rfl))
              (try simp only [Act.put, List.setIfInBounds_toArray, List.set_cons_zero, List.set_cons_succ])
              refine wpAnyH_ready (rs := [17]) (by kernel_rfl) (by simp) (AllReadyH.cons rfl (fun K hK => ?_) AllReadyH.nil)
              go_simp
              refine hK.out _ _ ?_ (fun hHeld => ?_)
              · (first | (with_reducible exact ⟨t0, t1, t2, t3⟩) | (with_reducible exact ⟨tA0 _, tA1 _, tA2 _, tA3 _⟩) | (with_reducible exact keepD4 ⟨t0, t1, t2, t3⟩) | (with_reducible exact far4 hq ⟨t0, t1, t2, t3⟩ _))
              clear hK K
              (try simp only [Act.put, List.setIfInBounds_toArray, List.set_cons_zero, List.set_cons_succ])
              refine wpAnyH_done (by kernel_rfl) ?_ _
              have HR12 := Aside0.mk (show Kd.R (rB w0) TRb w12 W7.heap.size (fun k => k ≠ b8 ∧ S0 ≤ k) (.slice A12 k12 c12) ((ndF x).2.2.2.2.1.take (j + 1).toNat) by
                rw [show (j + 1).toNat = j.toNat + 1 by have := HJJ.out.1; omega, HTK2.out]; exact hR12)
              have HK12 := Aside0.mk (Kd.R_grown HKK11.out hg12 (fun k hk e => by have := (HV11.out.1 k e.symm).2; omega))
              have HU12 := Aside0.mk hu12
              have HB12 := Aside0.mk (HZ11.out.trans hB12)
              have HS12 := Aside0.mk (Nat.le_trans HS11.out hg12.size)
              clear hR12 hB12 hg12 hat12 hu12 q4 g4 y4 t0 t1 t2 t3
              (try simp only [Exit.inBlock, Exit.then])
              (try go_wp2_with (fail))
              go_roundw
              case measure => rw [hwj]; exact msrN HJJ.out.1 HJJ.out.2
              case rel => exact ⟨j + 1, .slice A12 k12 c12, by go_num, (nxtN HJJ.out.1 HJJ.out.2).1, (nxtN HJJ.out.1 HJJ.out.2).2, ⟨HB12.out.setCell (p := ⟨b8, 4, none⟩) hx8 _⟩, ⟨(blk_set HU12.out 4 _).trans (by simp)⟩, ⟨Kd.R_far (p := ⟨b8, 4, none⟩) HR12.out (fun _ hk => hk.1) _⟩, ⟨Kd.R_far (p := ⟨b8, 4, none⟩) HK12.out (fun _ hk => hk.1) _⟩, ⟨by simpa using HS12.out⟩⟩
            · (go_simp; go_at_call 18; (with_reducible refine (HKB2.out _ ?hA).mono ?_); (case hA => exact below_drew (below_step HB7.out HZ10.out)); rintro e w11 ⟨v11, rfl, hR11, hB11⟩; obtain ⟨A11, c11, e11⟩ := Kd.R_slice hR11; rw [HNq.out] at e11; subst e11; have hBd : Below WX.heap.size WX w11 := below_step (below_drew (Below.refl _ _)) hB11; have HX11 := Aside0.mk (blk_below HX10.out hBd); have HV11 := Aside0.mk (Kd.R_below HV10.out hBd); have HKK11 := Aside0.mk (Kd.R_below HK8'.out hBd); have HK11 := Aside0.mk (blk_below HK10.out hBd); have HZ11 := Aside0.mk (below_step HZ10.out hBd); have HBS := Aside0.mk (HZ11.out.size); have w4 := (blk_cell HX11.out 4).trans (show _ = some (Value.slice A0 kv c0) from rfl); have w4a : ∀ ob : Obj, (w11.alloc ob).cell? ⟨b8, 4, none⟩ = some (.slice A0 kv c0) := (fun ob => (blk_cell (blk_alloc HX11.out ob) 4).trans (show _ = some (Value.slice A0 kv c0) from rfl)); have t0 := (blk_cell HK11.out 0).trans (show _ = some (Value.string (brF b).1) from rfl); have t1 := (blk_cell HK11.out 1).trans (show _ = some (Value.string (brF b).2.1) from rfl); have t2 := (blk_cell HK11.out 2).trans (show _ = some (Value.int .i64 (brF b).2.2.1) from rfl); have t3 := (blk_cell HK11.out 3).trans (show _ = some (Value.slice Aq nq cq) from rfl); have tA0 : ∀ o : Obj, (w11.alloc o).cell? ⟨b10, 0, none⟩ = some (.string (brF b).1) := (fun o => (blk_cell (blk_alloc HK11.out o) 0).trans rfl); have tA1 : ∀ o : Obj, (w11.alloc o).cell? ⟨b10, 1, none⟩ = some (.string (brF b).2.1) := (fun o => (blk_cell (blk_alloc HK11.out o) 1).trans rfl); have tA2 : ∀ o : Obj, (w11.alloc o).cell? ⟨b10, 2, none⟩ = some (.int .i64 (brF b).2.2.1) := (fun o => (blk_cell (blk_alloc HK11.out o) 2).trans rfl); have tA3 : ∀ o : Obj, (w11.alloc o).cell? ⟨b10, 3, none⟩ = some (.slice Aq nq cq) := (fun o => (blk_cell (blk_alloc HK11.out o) 3).trans rfl); have HUK := Aside0.mk (apart_tyN HV11.out HK11.out (by decide)); have HND := Aside0.mk (show (rB w0).M w11 W7.heap.size (fun k => WX.heap.size ≤ k) b [.string (brF b).1, .string (brF b).2.1, .int .i64 (brF b).2.2.1, .slice A11 nq c11] from rbr_at (b := b) (Kd.R_lower (Kd.R_mono (Kd.R_bound hR11) (fun k hk => (hk.2.1 : WX.heap.size ≤ k))) (show W7.heap.size ≤ WX.heap.size from HZ10.out.size))); have HOK := Aside0.mk (show ∀ k, WX.heap.size ≤ k → (k ≠ b8 ∧ S0 ≤ k) ∧ some k ≠ (Value.slice A0 kv c0).ownBlock from fun k hk => ⟨⟨by have := HL8.out; omega, by have := HSX.out; omega⟩, fun e => by have := HOW.out k e.symm; omega⟩); have HFR := Aside0.mk (show ∀ k, w11.heap.size ≤ k → (k ≠ b8 ∧ S0 ≤ k) from fun k hk => ⟨by have := blk_lt HX11.out; omega, by have h1 := HSX.out; have h2 := hBd.size; omega⟩); have HUN := Aside0.mk (show some b8 ≠ (Value.slice A0 kv c0).ownBlock from fun e => (HV11.out.1 b8 e.symm).1 rfl); have HS11 := Aside0.mk (show S0 ≤ w11.heap.size by have h1 := HSX.out; have h2 := hBd.size; omega); clear hR11 hB11 hBd)
              go_wp2_with (fail)
              refine hK.out _ _ ?_ (fun hHeld => ?_)
              · (first | (with_reducible exact ⟨t0, t1, t2, t3⟩) | (with_reducible exact ⟨tA0 _, tA1 _, tA2 _, tA3 _⟩) | (with_reducible exact keepD4 ⟨t0, t1, t2, t3⟩) | (with_reducible exact far4 hq ⟨t0, t1, t2, t3⟩ _))
              clear hK K
              (try simp only [Act.put, List.setIfInBounds_toArray, List.set_cons_zero, List.set_cons_succ])
              refine wpAnyH_take (i := 13) (v := ?_) rfl (by kernel_rfl) (by kernel_rfl) (by kernel_rfl) (fun _ _ _ h => h) (Or.inl ⟨by rfl, ?_⟩) (by assumption) ?_
              rotate_left
              · (intro w hSw; (try dsimp only at hSw); go_simp; (try with_reducible rfl))
              (try simp only [Act.put, List.setIfInBounds_toArray, List.set_cons_zero, List.set_cons_succ])
              refine wpAnyH_ready (rs := [1, 14]) (by kernel_rfl) (by simp) (AllReadyH.cons rfl (fun K hK => ?_) (AllReadyH.cons rfl (fun K hK => ?_) AllReadyH.nil))
              · go_simp
                refine hK.out _ _ ?_ (fun hHeld => ?_)
                · (first | (with_reducible exact ⟨t0, t1, t2, t3⟩) | (with_reducible exact ⟨tA0 _, tA1 _, tA2 _, tA3 _⟩) | (with_reducible exact keepD4 ⟨t0, t1, t2, t3⟩) | (with_reducible exact far4 hq ⟨t0, t1, t2, t3⟩ _))
                clear hK K
                (try simp only [Act.put, List.setIfInBounds_toArray, List.set_cons_zero, List.set_cons_succ])
                refine wpAnyH_ready (rs := [14]) (by kernel_rfl) (by simp) (AllReadyH.cons rfl (fun K hK => ?_) AllReadyH.nil)
                go_simp
                refine hK.out _ _ ?_ (fun hHeld => ?_)
                · (first | (with_reducible exact ⟨t0, t1, t2, t3⟩) | (with_reducible exact ⟨tA0 _, tA1 _, tA2 _, tA3 _⟩) | (with_reducible exact keepD4 ⟨t0, t1, t2, t3⟩) | (with_reducible exact far4 hq ⟨t0, t1, t2, t3⟩ _))
                clear hK K
                (try simp only [Act.put, List.setIfInBounds_toArray, List.set_cons_zero, List.set_cons_succ])
                refine wpAnyH_ready (rs := [15]) (by kernel_rfl) (by simp) (AllReadyH.cons rfl (fun K hK => ?_) AllReadyH.nil)
                (refine Kd.R_append_step (rB w0) (w0 := w11) W7.heap.size (by rfl) (.tmp 42) (.tmp 55) 67 TRb (.agg #[.string ⟨#[]⟩, .string ⟨#[]⟩, .int .i64 0, .slice none 0 0]) 64 (by rfl) Tryd.underlying67 infoRb (by rfl) (Nat.succ_pos 3) (by decide) (.slice A0 kv c0) ((ndF x).2.2.2.2.1.take j.toNat) b [.string (brF b).1, .string (brF b).2.1, .int .i64 (brF b).2.2.1, .slice A11 nq c11] (fun k => k ≠ b8 ∧ S0 ≤ k) (fun k => WX.heap.size ≤ k) (by rfl) (by rfl) (by exact HND.out) (by exact HOK.out) (by exact HFR.out) (by exact HV11.out) (Below.refl _ _) (by exact HBS.out) (by exact HLN.out) ?_; intro v12 w12 hR12 hB12 hg12 hat12; obtain ⟨A12, c12, e12⟩ := Kd.R_slice hR12; obtain ⟨k12, hk12⟩ : ∃ k, ((ndF x).2.2.2.2.1.take j.toNat ++ [b]).length = k := ⟨_, rfl⟩; rw [hk12] at e12; subst e12; have hu12 := (hg12.block b8 (blk_lt HX11.out) HUN.out).trans HX11.out; have q4 := (blk_cell hu12 4).trans (show _ = some (Value.slice A0 kv c0) from rfl); have g4 := blk_frozen hu12 4; have hk12' := (hg12.block b10 (blk_lt HK11.out) HUK.out).trans HK11.out; have t0 := (blk_cell hk12' 0).trans (show _ = some (Value.string (brF b).1) from rfl); have t1 := (blk_cell hk12' 1).trans (show _ = some (Value.string (brF b).2.1) from rfl); have t2 := (blk_cell hk12' 2).trans (show _ = some (Value.int .i64 (brF b).2.2.1) from rfl); have t3 := (blk_cell hk12' 3).trans (show _ = some (Value.slice Aq nq cq) from rfl))
                refine hK.out _ _ ?_ (fun hHeld => ?_)
                · (first | (with_reducible exact ⟨t0, t1, t2, t3⟩) | (with_reducible exact ⟨tA0 _, tA1 _, tA2 _, tA3 _⟩) | (with_reducible exact keepD4 ⟨t0, t1, t2, t3⟩) | (with_reducible exact far4 hq ⟨t0, t1, t2, t3⟩ _))
                clear hK K
                (try simp only [Act.put, List.setIfInBounds_toArray, List.set_cons_zero, List.set_cons_succ])
                refine wpAnyH_take (i := 16) (v := ?_) rfl (by kernel_rfl) (by kernel_rfl) (by kernel_rfl) (fun _ _ _ h => h) (Or.inl ⟨by rfl, ?_⟩) (by assumption) ?_
                rotate_left
                · (intro w hSw; (try dsimp only at hSw); go_simp; (try with_reducible rfl))
                (try simp only [Act.put, List.setIfInBounds_toArray, List.set_cons_zero, List.set_cons_succ])
                refine wpAnyH_ready (rs := [17]) (by kernel_rfl) (by simp) (AllReadyH.cons rfl (fun K hK => ?_) AllReadyH.nil)
                go_simp
                refine hK.out _ _ ?_ (fun hHeld => ?_)
                · (first | (with_reducible exact ⟨t0, t1, t2, t3⟩) | (with_reducible exact ⟨tA0 _, tA1 _, tA2 _, tA3 _⟩) | (with_reducible exact keepD4 ⟨t0, t1, t2, t3⟩) | (with_reducible exact far4 hq ⟨t0, t1, t2, t3⟩ _))
                clear hK K
                (try simp only [Act.put, List.setIfInBounds_toArray, List.set_cons_zero, List.set_cons_succ])
                refine wpAnyH_done (by kernel_rfl) ?_ _
                have HR12 := Aside0.mk (show Kd.R (rB w0) TRb w12 W7.heap.size (fun k => k ≠ b8 ∧ S0 ≤ k) (.slice A12 k12 c12) ((ndF x).2.2.2.2.1.take (j + 1).toNat) by
                  rw [show (j + 1).toNat = j.toNat + 1 by have := HJJ.out.1; omega, HTK2.out]; exact hR12)
                have HK12 := Aside0.mk (Kd.R_grown HKK11.out hg12 (fun k hk e => by have := (HV11.out.1 k e.symm).2; omega))
                have HU12 := Aside0.mk hu12
                have HB12 := Aside0.mk (HZ11.out.trans hB12)
                have HS12 := Aside0.mk (Nat.le_trans HS11.out hg12.size)
                clear hR12 hB12 hg12 hat12 hu12 q4 g4 y4 t0 t1 t2 t3
                (try simp only [Exit.inBlock, Exit.then])
                (try go_wp2_with (fail))
                go_roundw
                case measure => rw [hwj]; exact msrN HJJ.out.1 HJJ.out.2
                case rel => exact ⟨j + 1, .slice A12 k12 c12, by go_num, (nxtN HJJ.out.1 HJJ.out.2).1, (nxtN HJJ.out.1 HJJ.out.2).2, ⟨HB12.out.setCell (p := ⟨b8, 4, none⟩) hx8 _⟩, ⟨(blk_set HU12.out 4 _).trans (by simp)⟩, ⟨Kd.R_far (p := ⟨b8, 4, none⟩) HR12.out (fun _ hk => hk.1) _⟩, ⟨Kd.R_far (p := ⟨b8, 4, none⟩) HK12.out (fun _ hk => hk.1) _⟩, ⟨by simpa using HS12.out⟩⟩
              · go_simp
                refine hK.out _ _ ?_ (fun hHeld => ?_)
                · (first | (with_reducible exact ⟨t0, t1, t2, t3⟩) | (with_reducible exact ⟨tA0 _, tA1 _, tA2 _, tA3 _⟩) | (with_reducible exact keepD4 ⟨t0, t1, t2, t3⟩) | (with_reducible exact far4 hq ⟨t0, t1, t2, t3⟩ _))
                clear hK K
                (try simp only [Act.put, List.setIfInBounds_toArray, List.set_cons_zero, List.set_cons_succ])
                refine wpAnyH_ready (rs := [1]) (by kernel_rfl) (by simp) (AllReadyH.cons rfl (fun K hK => ?_) AllReadyH.nil)
                go_simp
                refine hK.out _ _ ?_ (fun hHeld => ?_)
                · (first | (with_reducible exact ⟨t0, t1, t2, t3⟩) | (with_reducible exact ⟨tA0 _, tA1 _, tA2 _, tA3 _⟩) | (with_reducible exact keepD4 ⟨t0, t1, t2, t3⟩) | (with_reducible exact far4 hq ⟨t0, t1, t2, t3⟩ _))
                clear hK K
                (try simp only [Act.put, List.setIfInBounds_toArray, List.set_cons_zero, List.set_cons_succ])
                refine wpAnyH_ready (rs := [15]) (by kernel_rfl) (by simp) (AllReadyH.cons rfl (fun K hK => ?_) AllReadyH.nil)
                (refine Kd.R_append_step (rB w0) (w0 := w11) W7.heap.size (by rfl) (.tmp 42) (.tmp 55) 67 TRb (.agg #[.string ⟨#[]⟩, .string ⟨#[]⟩, .int .i64 0, .slice none 0 0]) 64 (by rfl) Tryd.underlying67 infoRb (by rfl) (Nat.succ_pos 3) (by decide) (.slice A0 kv c0) ((ndF x).2.2.2.2.1.take j.toNat) b [.string (brF b).1, .string (brF b).2.1, .int .i64 (brF b).2.2.1, .slice A11 nq c11] (fun k => k ≠ b8 ∧ S0 ≤ k) (fun k => WX.heap.size ≤ k) (by rfl) (by rfl) (by exact HND.out) (by exact HOK.out) (by exact HFR.out) (by exact HV11.out) (Below.refl _ _) (by exact HBS.out) (by exact HLN.out) ?_; intro v12 w12 hR12 hB12 hg12 hat12; obtain ⟨A12, c12, e12⟩ := Kd.R_slice hR12; obtain ⟨k12, hk12⟩ : ∃ k, ((ndF x).2.2.2.2.1.take j.toNat ++ [b]).length = k := ⟨_, rfl⟩; rw [hk12] at e12; subst e12; have hu12 := (hg12.block b8 (blk_lt HX11.out) HUN.out).trans HX11.out; have q4 := (blk_cell hu12 4).trans (show _ = some (Value.slice A0 kv c0) from rfl); have g4 := blk_frozen hu12 4; have hk12' := (hg12.block b10 (blk_lt HK11.out) HUK.out).trans HK11.out; have t0 := (blk_cell hk12' 0).trans (show _ = some (Value.string (brF b).1) from rfl); have t1 := (blk_cell hk12' 1).trans (show _ = some (Value.string (brF b).2.1) from rfl); have t2 := (blk_cell hk12' 2).trans (show _ = some (Value.int .i64 (brF b).2.2.1) from rfl); have t3 := (blk_cell hk12' 3).trans (show _ = some (Value.slice Aq nq cq) from rfl))
                refine hK.out _ _ ?_ (fun hHeld => ?_)
                · (first | (with_reducible exact ⟨t0, t1, t2, t3⟩) | (with_reducible exact ⟨tA0 _, tA1 _, tA2 _, tA3 _⟩) | (with_reducible exact keepD4 ⟨t0, t1, t2, t3⟩) | (with_reducible exact far4 hq ⟨t0, t1, t2, t3⟩ _))
                clear hK K
                (try simp only [Act.put, List.setIfInBounds_toArray, List.set_cons_zero, List.set_cons_succ])
                refine wpAnyH_take (i := 16) (v := ?_) rfl (by kernel_rfl) (by kernel_rfl) (by kernel_rfl) (fun _ _ _ h => h) (Or.inl ⟨by rfl, ?_⟩) (by assumption) ?_
                rotate_left
                · (intro w hSw; (try dsimp only at hSw); go_simp; (try with_reducible rfl))
                (try simp only [Act.put, List.setIfInBounds_toArray, List.set_cons_zero, List.set_cons_succ])
                refine wpAnyH_ready (rs := [17]) (by kernel_rfl) (by simp) (AllReadyH.cons rfl (fun K hK => ?_) AllReadyH.nil)
                go_simp
                refine hK.out _ _ ?_ (fun hHeld => ?_)
                · (first | (with_reducible exact ⟨t0, t1, t2, t3⟩) | (with_reducible exact ⟨tA0 _, tA1 _, tA2 _, tA3 _⟩) | (with_reducible exact keepD4 ⟨t0, t1, t2, t3⟩) | (with_reducible exact far4 hq ⟨t0, t1, t2, t3⟩ _))
                clear hK K
                (try simp only [Act.put, List.setIfInBounds_toArray, List.set_cons_zero, List.set_cons_succ])
                refine wpAnyH_done (by kernel_rfl) ?_ _
                have HR12 := Aside0.mk (show Kd.R (rB w0) TRb w12 W7.heap.size (fun k => k ≠ b8 ∧ S0 ≤ k) (.slice A12 k12 c12) ((ndF x).2.2.2.2.1.take (j + 1).toNat) by
                  rw [show (j + 1).toNat = j.toNat + 1 by have := HJJ.out.1; omega, HTK2.out]; exact hR12)
                have HK12 := Aside0.mk (Kd.R_grown HKK11.out hg12 (fun k hk e => by have := (HV11.out.1 k e.symm).2; omega))
                have HU12 := Aside0.mk hu12
                have HB12 := Aside0.mk (HZ11.out.trans hB12)
                have HS12 := Aside0.mk (Nat.le_trans HS11.out hg12.size)
                clear hR12 hB12 hg12 hat12 hu12 q4 g4 y4 t0 t1 t2 t3
                (try simp only [Exit.inBlock, Exit.then])
                (try go_wp2_with (fail))
                go_roundw
                case measure => rw [hwj]; exact msrN HJJ.out.1 HJJ.out.2
                case rel => exact ⟨j + 1, .slice A12 k12 c12, by go_num, (nxtN HJJ.out.1 HJJ.out.2).1, (nxtN HJJ.out.1 HJJ.out.2).2, ⟨HB12.out.setCell (p := ⟨b8, 4, none⟩) hx8 _⟩, ⟨(blk_set HU12.out 4 _).trans (by simp)⟩, ⟨Kd.R_far (p := ⟨b8, 4, none⟩) HR12.out (fun _ hk => hk.1) _⟩, ⟨Kd.R_far (p := ⟨b8, 4, none⟩) HK12.out (fun _ hk => hk.1) _⟩, ⟨by simpa using HS12.out⟩⟩
          · have d2 : decide (j < (nb : Int)) = false := decide_eq_false hjt
            rw [show (ndF x).2.2.2.2.1.take j.toNat = (ndF x).2.2.2.2.1 from List.take_of_length_le (by rw [HNB.out]; omega)] at HVq
            obtain ⟨A0, c0, e0⟩ := Kd.R_slice HVq.out
            rw [HNB.out] at e0
            subst e0
            have y0 := (blk_cell HXq.out 0).trans rfl; have y1 := (blk_cell HXq.out 1).trans rfl; have y2 := (blk_cell HXq.out 2).trans rfl; have y3 := (blk_cell HXq.out 3).trans rfl; have y4 := (blk_cell HXq.out 4).trans rfl; have y5 := (blk_cell HXq.out 5).trans rfl; have y6 := (blk_cell HXq.out 6).trans rfl; have y7 := (blk_cell HXq.out 7).trans rfl
            have HO := Aside0.mk (Kd.R_below HR7.out HZq.out)
            have HOW := Aside0.mk (Kd.R_lt HR7.out)
            have HBQ := Aside0.mk (HBw7.out.trans (HZq.out.mono HSz.out))
            have HSQ := Aside0.mk (show B ≤ wr.heap.size by have h1 := HSq.out; have h2 := HSz.out; omega)
            have HPP := Aside0.mk (show (rN w0).M wr B (fun k => W7.heap.size ≤ k) x [.int .i64 (ndF x).1, .string (ndF x).2.1, .int .i64 (ndF x).2.2.1, .bool (ndF x).2.2.2.1, .slice A0 nb c0, .slice An nn cn, .string (ndF x).2.2.2.2.2.2.1, .slice Ax nx cx] from rnd_at (Kd.R_lower (Kd.R_mono (Kd.R_bound HVq.out) (fun k hk => hk.2.1)) HSz.out) HLE.out.2.1 HCn.out HNN.out (Kd.R_lower (Kd.R_mono (Kd.R_bound HKq.out) (fun k hk => hk.2.1)) HSz.out))
            clear HVq HKq HZq HXq HSq HX7q
            go_wp2_with ((with_reducible refine gate_builtin (b := .append) (xs := #[.tmp 59, .tmp 61]) rfl ?_); at_builtin; refine Kd.R_append (rN w0) (w0 := w) B rfl (.tmp 59) (.tmp 61) 44 TRn (.agg #[.int .i64 0, .string ⟨#[]⟩, .int .i64 0, .bool false, .slice none 0 0, .slice none 0 0, .string ⟨#[]⟩, .slice none 0 0]) 128 rfl Tryd.underlying44 infoRn rfl (Nat.succ_pos 7) (by decide) u5 (l.take i.toNat) x [.int .i64 (ndF x).1, .string (ndF x).2.1, .int .i64 (ndF x).2.2.1, .bool (ndF x).2.2.2.1, .slice A0 nb c0, .slice An nn cn, .string (ndF x).2.2.2.2.2.2.1, .slice Ax nx cx] (fun _ => True) (fun k => W7.heap.size ≤ k) rfl rfl ?aP ?aF ?aN ?aO ?aB ?aS ?aL ?_)
            case aP => exact HPP.out
            case aF => exact fun k hk e => by have := HOW.out k e.symm; omega
            case aO => exact HO.out
            case aB => exact HBQ.out
            case aS => exact HSQ.out
            case aL => have := HSS.out.1; have := HII.out; omega
            intro v12 w12 hR12 hB12 hg12 hat12
            have HB12 := Aside0.mk hB12
            have HR12 := Aside0.mk (show Kd.R (rN w0) TRn w12 B (fun _ => True) v12 (l.take (i + 1).toNat) by
              rw [show (i + 1).toNat = i.toNat + 1 by have := HII.out.1; omega, HTK.out]; exact hR12)
            clear hR12 hB12 hg12 hat12 y0 y1 y2 y3 y4 y5 y6 y7
            go_wp2_with (fail)
            go_roundw
            case measure => rw [hwi]; exact msrN HII.out.1 HII.out.2
            case rel => exact ⟨i + 1, by go_num, (nxtN HII.out.1 HII.out.2).1, (nxtN HII.out.1 HII.out.2).2, HB12, HR12⟩
    · have d0 : decide (i < (l.length : Int)) = false := decide_eq_false hlt
      rw [show l.take i.toNat = l from List.take_of_length_le (by omega)] at HRr
      go_wp2_with (fail)
      go_ret
      exact ⟨_, rfl, HRr.out, by rw [← HB.out]; exact (by rw [HB.out]; exact HBr.out)⟩
end Go.Proofs.YtiedbnjoomcdbaaDoor.Tr
