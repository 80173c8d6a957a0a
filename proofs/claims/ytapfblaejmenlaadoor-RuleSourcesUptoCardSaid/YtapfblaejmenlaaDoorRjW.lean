/- rule.Join, walked. -/
import Derived.Test.YtapfblaejmenlaaDoorRjK
import Derived.Deep.LoopGhost
import Derived.Deep.QuietTactic
import Derived.BigQuiet
import Derived.Deep.RegionHeld3
import Derived.Deep.DeepCutAuto
set_option linter.unusedVariables false
set_option linter.unusedSimpArgs false
namespace Go.Proofs.YtapfblaejmenlaaDoor.Rj
open Go.RowKit Go.Proofs.YtapfblaejmenlaaDoorW.PrintWords Go.Proofs.YtapfblaejmenlaaDoorW.PrintLast Go.Proofs.YtapfblaejmenlaaDoorW.PrintMore

abbrev FB : Obj := .cells #[.int .i64 0, .int .i64 0] 27 (0, 0)
/-- what the rounds keep -/
theorem far1 {w : World} {g b : Nat} (h : b ≠ g) (i j : Nat) (v : Value) : (w.setCell ⟨g, i, none⟩ v).cell? ⟨b, j, none⟩ = w.cell? ⟨b, j, none⟩ := by
  have e := Below.heap_setCell w ⟨g, i, none⟩ v b h
  simp [World.cell?, e]
theorem far5 {w : World} {g b : Nat} (h : b ≠ g) {x1 x2 x3 x4 : Value} (s1 : w.cell? ⟨b, 1, none⟩ = some x1) (s2 : w.cell? ⟨b, 2, none⟩ = some x2) (s3 : w.cell? ⟨b, 3, none⟩ = some x3) (s4 : w.cell? ⟨b, 4, none⟩ = some x4) (v0 v1 v2 v3 v4 : Value) :
    (((((w.setCell ⟨g, 0, none⟩ v0).setCell ⟨g, 1, none⟩ v1).setCell ⟨g, 2, none⟩ v2).setCell ⟨g, 3, none⟩ v3).setCell ⟨g, 4, none⟩ v4).cell? ⟨b, 1, none⟩ = some x1 ∧ (((((w.setCell ⟨g, 0, none⟩ v0).setCell ⟨g, 1, none⟩ v1).setCell ⟨g, 2, none⟩ v2).setCell ⟨g, 3, none⟩ v3).setCell ⟨g, 4, none⟩ v4).cell? ⟨b, 2, none⟩ = some x2 ∧ (((((w.setCell ⟨g, 0, none⟩ v0).setCell ⟨g, 1, none⟩ v1).setCell ⟨g, 2, none⟩ v2).setCell ⟨g, 3, none⟩ v3).setCell ⟨g, 4, none⟩ v4).cell? ⟨b, 3, none⟩ = some x3 ∧ (((((w.setCell ⟨g, 0, none⟩ v0).setCell ⟨g, 1, none⟩ v1).setCell ⟨g, 2, none⟩ v2).setCell ⟨g, 3, none⟩ v3).setCell ⟨g, 4, none⟩ v4).cell? ⟨b, 4, none⟩ = some x4 := by
  simp only [far1 h]
  exact ⟨s1, s2, s3, s4⟩
theorem nb_of {W w' : World} {g : Nat} {o : Obj} (hb : Below W.heap.size W w') (h : W.heap[g]? = some o) : w'.heap[g]? = some o := blk_below h hb
theorem keepD {w : World} {b : Nat} {x1 x2 x3 x4 : Value} (h : w.cell? ⟨b, 1, none⟩ = some x1 ∧ w.cell? ⟨b, 2, none⟩ = some x2 ∧ w.cell? ⟨b, 3, none⟩ = some x3 ∧ w.cell? ⟨b, 4, none⟩ = some x4) :
    w.drew.cell? ⟨b, 1, none⟩ = some x1 ∧ w.drew.cell? ⟨b, 2, none⟩ = some x2 ∧ w.drew.cell? ⟨b, 3, none⟩ = some x3 ∧ w.drew.cell? ⟨b, 4, none⟩ = some x4 := h
theorem far_2 {w : World} {g b : Nat} (h : b ≠ g) {x : Value} (s : w.cell? ⟨b, 4, none⟩ = some x) (v0 v1 : Value) : ((w.setCell ⟨g, 0, none⟩ v0).setCell ⟨g, 1, none⟩ v1).cell? ⟨b, 4, none⟩ = some x := by
  rw [far1 h, far1 h]; exact s
theorem nb_ofD {W w' : World} {g : Nat} {o : Obj} (hb : Below W.drew.heap.size W.drew w') (h : W.heap[g]? = some o) : w'.heap[g]? = some o := blk_below (w := W.drew) h hb
theorem blk_new2 (w : World) (o o' : Obj) : ((w.alloc o).alloc o').heap[w.heap.size + 1]? = some o' := by
  have := heap_alloc_new (w.alloc o) o'
  simpa using this
theorem bcell {W w1 : World} (hb : Below W.heap.size W w1) : (∀ b o, b < W.heap.size → w1.cell? ⟨b, o, none⟩ = W.cell? ⟨b, o, none⟩) ∧ (∀ b o, b < W.heap.size → w1.frozen? ⟨b, o, none⟩ = W.frozen? ⟨b, o, none⟩) :=
  ⟨fun b o h => hb.cell (p := ⟨b, o, none⟩) h, fun b o h => hb.frozen (p := ⟨b, o, none⟩) h⟩
structure JS (B : Nat) (w0 w : World) (ok : Nat → Prop) (v : Value) (out : List Rl) (D : DataW Unit) : Prop where
  row : Kd.S kR TR w B ok v out
  map : MI.Mp w (B + 1) D
  is : ∀ s, MI.look D s = (find out s).map Int.ofNat
  cnt : Maps.size D ≤ out.length
  fb : w.heap[B]? = some FB
  bel : Below B w0 w
def bound : Nat := 100000000000
def answer (w0 : World) (r : List Rl ⊕ Int) (e : Ending) (w' : World) : Prop :=
  match r with
  | .inl out => ∃ v, e = .returned (.tuple #[v, .agg #[.int .i64 0, .int .i64 0]]) ∧ Kd.R kR TR w' w0.heap.size (fun _ => True) v out ∧ Below w0.heap.size w0 w'
  | .inr a => e = .returned (.tuple #[.slice none 0 0, .agg #[.int .i64 14, .int .i64 a]]) ∧ Below w0.heap.size w0 w'
theorem JS.below {B : Nat} {w0 w w' : World} {ok : Nat → Prop} {v : Value} {out : List Rl} {D : DataW Unit} (h : JS B w0 w ok v out D) (hB : w0.heap.size = B) (hb : Below w.heap.size w w') : JS B w0 w' ok v out D :=
  ⟨Kd.S_below h.row hb, h.map.below hb, h.is, h.cnt, (hb.block B (blk_lt h.fb)).trans h.fb, by subst hB; exact below_then h.bel h.bel.size hb⟩
/-- a block that is new is none of theirs -/
theorem JS.new {B : Nat} {w0 w w' : World} {ok : Nat → Prop} {v : Value} {out : List Rl} {D : DataW Unit} (h : JS B w0 w ok v out D) (hB : w0.heap.size = B) (hb : Below w.heap.size w w') (b : Nat) (hk : w.heap.size ≤ b) : JS B w0 w' (fun k => k ≠ b) v out D :=
  (⟨Kd.S_mono (Kd.S_bound h.row) (fun k hk2 => by have := hk2.2.2.1; omega), h.map, h.is, h.cnt, h.fb, h.bel⟩ : JS B w0 w (fun k => k ≠ b) v out D).below hB hb
/-- what a new rule's making leaves -/
structure XB (w wx : World) (g : Nat) (r : Rl) (t : ByteArray) (v0 v2 v3 : Value) : Prop where
  blk : wx.heap[g]? = some (.cells #[v0, .int .i64 r.k, v2, v3, .int .i64 r.a] TR (0, 0))
  ge : w.heap.size ≤ g
  bel : Below w.heap.size w wx
  r0 : Kd.string.R TS wx w.heap.size (fun k => some k ≠ v2.ownBlock ∧ some k ≠ v3.ownBlock) v0 [t]
  r2 : Kd.string.R TS wx w.heap.size (fun k => some k ≠ v0.ownBlock ∧ some k ≠ v3.ownBlock) v2 r.s
  r3 : Kd.string.R TS wx w.heap.size (fun k => some k ≠ v0.ownBlock ∧ some k ≠ v2.ownBlock) v3 r.c
theorem R_iv {w w' wb : World} {v : Value} {xs : List ByteArray} (h : Kd.string.R TS w' w.heap.size (fun _ => True) v xs) (hb : wb.heap.size ≤ w.heap.size) (lo hi : Nat) (h1 : lo ≤ w.heap.size) (h2 : w'.heap.size ≤ hi) : Kd.string.R TS w' wb.heap.size (fun k => lo ≤ k ∧ k < hi) v xs :=
  Kd.R_lower (Kd.R_mono (Kd.R_bound h) (fun k hk => ⟨by have := hk.2.1; omega, by have := hk.2.2.1; omega⟩)) hb
abbrev ZC : Array Value := #[.slice none 0 0, .int .i64 0, .slice none 0 0, .slice none 0 0, .int .i64 0]
theorem put5 {w : World} {g : Nat} (h : w.heap[g]? = some (.cells ZC TR (0, 0))) (v0 v1 v2 v3 v4 : Value) :
    (((((w.setCell ⟨g, 0, none⟩ v0).setCell ⟨g, 1, none⟩ v1).setCell ⟨g, 2, none⟩ v2).setCell ⟨g, 3, none⟩ v3).setCell ⟨g, 4, none⟩ v4).heap[g]? = some (.cells #[v0, v1, v2, v3, v4] TR (0, 0)) := by
  have h1 := (blk_set h 0 v0).trans rfl
  have h2 := (blk_set h1 1 v1).trans rfl
  have h3 := (blk_set h2 2 v2).trans rfl
  have h4 := (blk_set h3 3 v3).trans rfl
  exact (blk_set h4 4 v4).trans rfl
theorem far5b {w : World} {g : Nat} (h : w.heap[g]? = some (.cells ZC TR (0, 0))) (v0 v1 v2 v3 v4 : Value) (k : Nat) (cs : Array Value) (hk : w.heap[k]? = some (.cells cs TS (0, 0))) :
    (((((w.setCell ⟨g, 0, none⟩ v0).setCell ⟨g, 1, none⟩ v1).setCell ⟨g, 2, none⟩ v2).setCell ⟨g, 3, none⟩ v3).setCell ⟨g, 4, none⟩ v4).heap[k]? = w.heap[k]? := by
  have hne : k ≠ g := by
    rintro rfl
    rw [h] at hk
    injection hk with hk
    injection hk with _ hk
    exact absurd hk (by decide)
  iterate 5 rw [Below.heap_setCell _ _ _ k (by exact hne)]
theorem below5 {w0 w : World} (hb : Below w0.heap.size w0 w) {g : Nat} (hg : w0.heap.size ≤ g) (v0 v1 v2 v3 v4 : Value) :
    Below w0.heap.size w0 (((((w.setCell ⟨g, 0, none⟩ v0).setCell ⟨g, 1, none⟩ v1).setCell ⟨g, 2, none⟩ v2).setCell ⟨g, 3, none⟩ v3).setCell ⟨g, 4, none⟩ v4) :=
  ((((hb.setCell hg _).setCell hg _).setCell hg _).setCell hg _).setCell hg _
theorem R_keepT {w w' : World} {base : Nat} {ok : Nat → Prop} {v : Value} {xs : List ByteArray} (h : Kd.string.R TS w base ok v xs) (hK : ∀ (k : Nat) (cs : Array Value), w.heap[k]? = some (.cells cs TS (0, 0)) → w'.heap[k]? = w.heap[k]?) : Kd.string.R TS w' base ok v xs :=
  Kd.R_mono (Kd.R_move (Kd.R_bound h) (fun k hk => by
    obtain ⟨_, _, _, q, hq, cs, hc⟩ := hk
    have e : q = TS := by simpa [Kd.string, Kd.scalar] using hq
    subst e
    exact hK k cs hc)) (fun _ hk => hk.1)
theorem fin {wr W1 w5 W2 w6 Wz Wf : World} {r : Rl} {tg : ByteArray} {v2 v3 : Value} {t g : Nat} (b1 : Below wr.heap.size wr W1) (hb5 : Below W1.heap.size W1 w5) (b2 : Below w5.heap.size w5 W2) (hb6 : Below W2.heap.size W2 w6) (b3 : Below w6.heap.size w6 Wz)
    (hR2 : Kd.string.R TS w5 W1.heap.size (fun _ => True) v2 r.s) (hR3 : Kd.string.R TS w6 W2.heap.size (fun _ => True) v3 r.c)
    (ht : Wz.heap[t]? = some (.cells #[.string tg] TS (0, 0))) (htp : (wr.heap.size ≤ t ∧ t < W1.heap.size) ∨ (w5.heap.size ≤ t ∧ t < W2.heap.size) ∨ w6.heap.size ≤ t)
    (hf : Wf.heap[g]? = some (.cells #[.slice (some ⟨t, 0, none⟩) 1 1, .int .i64 r.k, v2, v3, .int .i64 r.a] TR (0, 0))) (hK : ∀ (k : Nat) (cs : Array Value), Wz.heap[k]? = some (.cells cs TS (0, 0)) → Wf.heap[k]? = Wz.heap[k]?) (hbf : Below wr.heap.size wr Wf) (hg : wr.heap.size ≤ g) :
    XB wr Wf g r tg (.slice (some ⟨t, 0, none⟩) 1 1) v2 v3 := by
  have z1 := b1.size
  have z2 := hb5.size
  have z3 := b2.size
  have z4 := hb6.size
  have htr : wr.heap.size ≤ t := by omega
  have n2 := R_keepT (Kd.R_below (Kd.R_below (Kd.R_below (R_iv hR2 (wb := wr) z1 W1.heap.size w5.heap.size (Nat.le_refl _) (Nat.le_refl _)) b2) hb6) b3) hK
  have n3 := R_keepT (Kd.R_below (R_iv hR3 (wb := wr) (by omega) W2.heap.size w6.heap.size (Nat.le_refl _) (Nat.le_refl _)) b3) hK
  have o2 : ∀ k, some k = v2.ownBlock → W1.heap.size ≤ k ∧ k < w5.heap.size := fun k e => n2.1 k e.symm
  have o3 : ∀ k, some k = v3.ownBlock → W2.heap.size ≤ k ∧ k < w6.heap.size := fun k e => n3.1 k e.symm
  have ht2 : Wf.heap[t]? = some (.cells #[.string tg] TS (0, 0)) := (hK t _ ht).trans ht
  have eo : (Value.slice (some ⟨t, 0, none⟩) 1 1).ownBlock = some t := by simp [Value.ownBlock]
  refine ⟨hf, hg, hbf, ?_, ?_, ?_⟩
  · refine ⟨fun k hk => ?_, [.string tg], ?_, ?_⟩
    · rw [eo] at hk
      injection hk with hk
      subst hk
      exact ⟨fun e => by have := o2 _ e; omega, fun e => by have := o3 _ e; omega⟩
    · exact ⟨by simp [Kd.string, Kd.scalar], .inr ⟨t, 1, #[.string tg], rfl, htr, ht2, by simp, by simp [maxLen], by simp [Kd.string, Kd.scalar], by simp [Kd.string, Kd.scalar]⟩⟩
    · refine ⟨rfl, fun j p hj => ?_⟩
      cases j with
      | zero =>
        simp only [List.getElem?_cons_zero, Option.some.injEq] at hj
        subst hj
        rfl
      | succ j => simp at hj
  · exact Kd.R_mono n2 (fun k hk => ⟨fun e => by rw [eo] at e; injection e with e; omega, fun e => by have := o3 _ e; omega⟩)
  · exact Kd.R_mono n3 (fun k hk => ⟨fun e => by rw [eo] at e; injection e with e; omega, fun e => by have := o2 _ e; omega⟩)
theorem msr {n : Nat} {j : Int} (h0 : 0 ≤ j) (h1 : j < n) : n - (j + 1).toNat < n - j.toNat := by omega
theorem stp {n : Nat} {j : Int} (h0 : 0 ≤ j) (h1 : j < n) (w : Nat) : (n - j.toNat) * w = (n - (j + 1).toNat) * w + w := by
  rw [show n - j.toNat = (n - (j + 1).toNat) + 1 by omega, Nat.succ_mul]
theorem nxt {n : Nat} {j : Int} (h0 : 0 ≤ j) (h1 : j < n) : 0 ≤ j + 1 ∧ j + 1 ≤ n := by omega
theorem XB.below {wr wx w' : World} {g : Nat} {r : Rl} {t : ByteArray} {v0 v2 v3 : Value} (h : XB wr wx g r t v0 v2 v3) (hb : Below wx.heap.size wx w') : XB wr w' g r t v0 v2 v3 :=
  ⟨blk_below h.blk hb, h.ge, below_then h.bel h.bel.size hb, Kd.R_below h.r0 hb, Kd.R_below h.r2 hb, Kd.R_below h.r3 hb⟩
def tw (r y : Rl) (t : ByteArray) : Bool := decide (0 < r.c.length ∧ 0 < y.c.length ∧ cls t = true)
def okF (B b7 lo hi : Nat) (k : Nat) : Prop := k ≠ b7 ∧ k ≠ B ∧ k ≠ B + 1 ∧ ¬ (lo ≤ k ∧ k < hi)
theorem okF_not {B b7 lo hi k : Nat} (h : k = b7 ∨ k = B ∨ k = B + 1 ∨ (lo ≤ k ∧ k < hi)) : ¬ okF B b7 lo hi k := by unfold okF; omega
theorem cell_same {w w' : World} {g : Nat} (h : w'.heap[g]? = w.heap[g]?) (j : Nat) : w'.cell? ⟨g, j, none⟩ = w.cell? ⟨g, j, none⟩ := by
  simp [World.cell?, h]
theorem frozen_same {w w' : World} {g : Nat} (h : w'.heap[g]? = w.heap[g]?) (j : Nat) : w'.frozen? ⟨g, j, none⟩ = w.frozen? ⟨g, j, none⟩ := by
  simp [World.frozen?, h]
/-- a rule of the row, lent: its cells, its rows, what stays -/
structure LE (B b7 lo hi : Nat) (w wc W : World) (g4 n cap : Nat) (o2 : List Rl) (zi : Int) (oki : Nat → Prop) (y : Rl) (u0 v2 v3 : Value) : Prop where
  H : Kd.H kR TR W B (okF B b7 lo hi) (.slice (some ⟨g4, 0, none⟩) n cap) o2 zi oki [u0, .int .i64 y.k, v2, v3, .int .i64 y.a]
  r0 : Kd.string.R TS W B (fun k => oki k ∧ some k ≠ v2.ownBlock ∧ some k ≠ v3.ownBlock) u0 y.t
  r2 : Kd.string.R TS W B (fun k => oki k ∧ some k ≠ u0.ownBlock ∧ some k ≠ v3.ownBlock) v2 y.s
  r3 : Kd.string.R TS W B (fun k => oki k ∧ some k ≠ u0.ownBlock ∧ some k ≠ v2.ownBlock) v3 y.c
  new : ∀ k, W.heap.size ≤ k → oki k
  ne : ∀ k, oki k → k ≠ g4 ∧ okF B b7 lo hi k
  ne4 : okF B b7 lo hi g4
  fr : ∀ k, ¬ okF B b7 lo hi k → W.heap[k]? = wc.heap[k]?
  ex : ∀ k, ¬ okF B b7 lo hi k → ∃ o, wc.heap[k]? = some o
  bel : Below B w W
  ge : B ≤ g4
  lt : g4 < W.heap.size
theorem setCells1 (W : World) (g o : Nat) (u : Value) : W.setCells g o [u] = W.setCell ⟨g, o, none⟩ u := rfl
theorem H_cell {B g4 n cap : Nat} {W : World} {ok oki : Nat → Prop} {xs : List Rl} {i : Int} {c : List Value} (h : Kd.H kR TR W B ok (.slice (some ⟨g4, 0, none⟩) n cap) xs i oki c) (h0 : 0 ≤ i) (h1 : i < n) (j : Nat) (hj : j < 5) (u : Value) (hu : u.oneCell' = true) :
    Kd.H kR TR (W.setCell ⟨g4, i.toNat * 5 + j, none⟩ u) B ok (.slice (some ⟨g4, 0, none⟩) n cap) xs i oki (c.take j ++ [u] ++ c.drop (j + 1)) := by
  have := (Kd.H_seg h h0 h1 (seg := [u]) (j := j) (by show j + 1 ≤ 5; omega) (by simpa using hu)).1
  rw [setCells1] at this
  exact this
theorem LE.frame {B b7 lo hi : Nat} {w wc W W5 : World} {g4 n cap : Nat} {o2 : List Rl} {zi : Int} {oki : Nat → Prop} {y : Rl} {u0 v2 v3 : Value} (h : LE B b7 lo hi w wc W g4 n cap o2 zi oki y u0 v2 v3) {row : Option Nat} (hg : W.grownBy W5 row) (hr : ∀ k, row = some k → oki k) (k : Nat) (hk : ¬ okF B b7 lo hi k) : W5.heap[k]? = wc.heap[k]? := by
  obtain ⟨o, ho⟩ := h.ex k hk
  exact (hg.block k (blk_lt ((h.fr k hk).trans ho)) (fun e => hk (h.ne k (hr k e.symm)).2)).trans (h.fr k hk)
theorem LE.write2 {B b7 lo hi : Nat} {w wc W W5 : World} {g4 n cap : Nat} {o2 : List Rl} {zi : Int} {oki : Nat → Prop} {y : Rl} {u0 v2 v3 v5 : Value} {ys : List ByteArray} (h : LE B b7 lo hi w wc W g4 n cap o2 zi oki y u0 v2 v3) (h0 : 0 ≤ zi) (h1 : zi < n)
    (hR : Kd.string.R TS W5 B (fun k => oki k ∧ some k ≠ u0.ownBlock ∧ some k ≠ v3.ownBlock) v5 (y.s ++ ys)) (hb : Below B w W5) (hg : W.grownBy W5 v2.ownBlock) (hat : v5.ownBlock = v2.ownBlock ∨ ∃ b, v5.ownBlock = some b ∧ W.heap.size ≤ b) :
    LE B b7 lo hi w wc (W5.setCell ⟨g4, zi.toNat * 5 + 2, none⟩ v5) g4 n cap o2 zi oki ⟨y.t, y.k, y.s ++ ys, y.c, y.a⟩ u0 v5 v3 := by
  have hrow : ∀ k, v2.ownBlock = some k → oki k := fun k e => (h.r2.1 k e).1
  have hfar : ∀ k, oki k → k ≠ g4 := fun k hk => (h.ne k hk).1
  refine ⟨H_cell (Kd.H_grown h.H hg hrow) h0 h1 2 (by omega) v5 (Kd.R_val hR).2, ?_, ?_, ?_, fun k hk => h.new k (Nat.le_trans hg.size (by simpa using hk)), h.ne, h.ne4, fun k hk => ?_, h.ex, hb.setCell h.ge _, h.ge, Nat.lt_of_lt_of_le h.lt (by simpa using hg.size)⟩
  · exact Kd.R_mono (Kd.R_far (p := ⟨g4, zi.toNat * 5 + 2, none⟩) (Kd.R_after (v := v2) (Kd.R_mono h.r0 (ok' := fun k => (oki k ∧ some k ≠ v3.ownBlock) ∧ some k ≠ v2.ownBlock) (fun k hk => ⟨⟨hk.1, hk.2.2⟩, hk.2.1⟩)) hg hat) (fun k hk => hfar k hk.1.1) v5) (fun k hk => ⟨hk.1.1, hk.2, hk.1.2⟩)
  · exact Kd.R_far (p := ⟨g4, zi.toNat * 5 + 2, none⟩) hR (fun k hk => hfar k hk.1) v5
  · exact Kd.R_mono (Kd.R_far (p := ⟨g4, zi.toNat * 5 + 2, none⟩) (Kd.R_after (v := v2) (Kd.R_mono h.r3 (ok' := fun k => (oki k ∧ some k ≠ u0.ownBlock) ∧ some k ≠ v2.ownBlock) (fun k hk => ⟨⟨hk.1, hk.2.1⟩, hk.2.2⟩)) hg hat) (fun k hk => hfar k hk.1.1) v5) (fun k hk => ⟨hk.1.1, hk.1.2, hk.2⟩)
  · exact (Below.heap_setCell _ ⟨g4, zi.toNat * 5 + 2, none⟩ v5 k (fun e => hk (e ▸ h.ne4))).trans (h.frame hg hrow k hk)
theorem LE.write3 {B b7 lo hi : Nat} {w wc W W5 : World} {g4 n cap : Nat} {o2 : List Rl} {zi : Int} {oki : Nat → Prop} {y : Rl} {u0 v2 v3 v5 : Value} {ys : List ByteArray} (h : LE B b7 lo hi w wc W g4 n cap o2 zi oki y u0 v2 v3) (h0 : 0 ≤ zi) (h1 : zi < n)
    (hR : Kd.string.R TS W5 B (fun k => oki k ∧ some k ≠ u0.ownBlock ∧ some k ≠ v2.ownBlock) v5 (y.c ++ ys)) (hb : Below B w W5) (hg : W.grownBy W5 v3.ownBlock) (hat : v5.ownBlock = v3.ownBlock ∨ ∃ b, v5.ownBlock = some b ∧ W.heap.size ≤ b) :
    LE B b7 lo hi w wc (W5.setCell ⟨g4, zi.toNat * 5 + 3, none⟩ v5) g4 n cap o2 zi oki ⟨y.t, y.k, y.s, y.c ++ ys, y.a⟩ u0 v2 v5 := by
  have hrow : ∀ k, v3.ownBlock = some k → oki k := fun k e => (h.r3.1 k e).1
  have hfar : ∀ k, oki k → k ≠ g4 := fun k hk => (h.ne k hk).1
  refine ⟨H_cell (Kd.H_grown h.H hg hrow) h0 h1 3 (by omega) v5 (Kd.R_val hR).2, ?_, ?_, ?_, fun k hk => h.new k (Nat.le_trans hg.size (by simpa using hk)), h.ne, h.ne4, fun k hk => ?_, h.ex, hb.setCell h.ge _, h.ge, Nat.lt_of_lt_of_le h.lt (by simpa using hg.size)⟩
  · exact Kd.R_mono (Kd.R_far (p := ⟨g4, zi.toNat * 5 + 3, none⟩) (Kd.R_after (v := v3) (Kd.R_mono h.r0 (ok' := fun k => (oki k ∧ some k ≠ v2.ownBlock) ∧ some k ≠ v3.ownBlock) (fun k hk => ⟨⟨hk.1, hk.2.1⟩, hk.2.2⟩)) hg hat) (fun k hk => hfar k hk.1.1) v5) (fun k hk => ⟨hk.1.1, hk.1.2, hk.2⟩)
  · exact Kd.R_mono (Kd.R_far (p := ⟨g4, zi.toNat * 5 + 3, none⟩) (Kd.R_after (v := v3) (Kd.R_mono h.r2 (ok' := fun k => (oki k ∧ some k ≠ u0.ownBlock) ∧ some k ≠ v3.ownBlock) (fun k hk => ⟨⟨hk.1, hk.2.1⟩, hk.2.2⟩)) hg hat) (fun k hk => hfar k hk.1.1) v5) (fun k hk => ⟨hk.1.1, hk.1.2, hk.2⟩)
  · exact Kd.R_far (p := ⟨g4, zi.toNat * 5 + 3, none⟩) hR (fun k hk => hfar k hk.1) v5
  · exact (Below.heap_setCell _ ⟨g4, zi.toNat * 5 + 3, none⟩ v5 k (fun e => hk (e ▸ h.ne4))).trans (h.frame hg hrow k hk)
theorem LE.write1 {B b7 lo hi : Nat} {w wc W : World} {g4 n cap : Nat} {o2 : List Rl} {zi : Int} {oki : Nat → Prop} {y : Rl} {u0 v2 v3 : Value} (h : LE B b7 lo hi w wc W g4 n cap o2 zi oki y u0 v2 v3) (h0 : 0 ≤ zi) (h1 : zi < n) (z : Int) :
    LE B b7 lo hi w wc (W.setCell ⟨g4, zi.toNat * 5 + 1, none⟩ (.int .i64 z)) g4 n cap o2 zi oki ⟨y.t, z, y.s, y.c, y.a⟩ u0 v2 v3 := by
  have hfar : ∀ k, oki k → k ≠ g4 := fun k hk => (h.ne k hk).1
  refine ⟨H_cell h.H h0 h1 1 (by omega) _ rfl, ?_, ?_, ?_, fun k hk => h.new k (by simpa using hk), h.ne, h.ne4, fun k hk => ?_, h.ex, h.bel.setCell h.ge _, h.ge, by simpa using h.lt⟩
  · exact Kd.R_far (p := ⟨g4, zi.toNat * 5 + 1, none⟩) h.r0 (fun k hk => hfar k hk.1) _
  · exact Kd.R_far (p := ⟨g4, zi.toNat * 5 + 1, none⟩) h.r2 (fun k hk => hfar k hk.1) _
  · exact Kd.R_far (p := ⟨g4, zi.toNat * 5 + 1, none⟩) h.r3 (fun k hk => hfar k hk.1) _
  · exact (Below.heap_setCell _ ⟨g4, zi.toNat * 5 + 1, none⟩ _ k (fun e => hk (e ▸ h.ne4))).trans (h.fr k hk)
theorem LE.close {B b7 lo hi : Nat} {w wc W : World} {g4 n cap : Nat} {o2 : List Rl} {zi : Int} {oki : Nat → Prop} {y : Rl} {u0 v2 v3 : Value} (h : LE B b7 lo hi w wc W g4 n cap o2 zi oki y u0 v2 v3) : Kd.S kR TR W B (okF B b7 lo hi) (.slice (some ⟨g4, 0, none⟩) n cap) (o2.set zi.toNat y) :=
  Kd.H_back h.H (okp := oki) ⟨u0, v2, v3, rfl, h.r0, h.r2, h.r3⟩ (fun _ hk => hk)
theorem LE.cells {B b7 lo hi : Nat} {w wc W : World} {g4 n cap : Nat} {o2 : List Rl} {zi : Int} {oki : Nat → Prop} {y : Rl} {u0 v2 v3 : Value} (h : LE B b7 lo hi w wc W g4 n cap o2 zi oki y u0 v2 v3) (h0 : 0 ≤ zi) (h1 : zi < n) :
    W.cell? ⟨g4, zi.toNat * 5 + 1, none⟩ = some (.int .i64 y.k) ∧ W.cell? ⟨g4, zi.toNat * 5 + 2, none⟩ = some v2 ∧ W.cell? ⟨g4, zi.toNat * 5 + 3, none⟩ = some v3 := by
  obtain ⟨rows, _, _, _, _, hcc, _⟩ := Kd.H_raw h.H h0 h1
  exact ⟨hcc 1 _ rfl, hcc 2 _ rfl, hcc 3 _ rfl⟩
theorem LE.frozen {B b7 lo hi : Nat} {w wc W : World} {g4 n cap : Nat} {o2 : List Rl} {zi : Int} {oki : Nat → Prop} {y : Rl} {u0 v2 v3 : Value} (h : LE B b7 lo hi w wc W g4 n cap o2 zi oki y u0 v2 v3) (j : Nat) : W.frozen? ⟨g4, j, none⟩ = false := by
  obtain ⟨_, f, hR⟩ := h.H
  obtain ⟨cells, hc⟩ := Kd.R_typed hR g4 (by simp [Value.ownBlock])
  exact blk_frozen hc j
theorem LE.drew {B b7 lo hi : Nat} {w wc W : World} {g4 n cap : Nat} {o2 : List Rl} {zi : Int} {oki : Nat → Prop} {y : Rl} {u0 v2 v3 : Value} (h : LE B b7 lo hi w wc W g4 n cap o2 zi oki y u0 v2 v3) : LE B b7 lo hi w wc W.drew g4 n cap o2 zi oki y u0 v2 v3 :=
  ⟨Kd.H_drew h.H, Kd.R_below h.r0 (below_drew (Below.refl _ _)), Kd.R_below h.r2 (below_drew (Below.refl _ _)), Kd.R_below h.r3 (below_drew (Below.refl _ _)), h.new, h.ne, h.ne4, h.fr, h.ex, below_drew h.bel, h.ge, h.lt⟩
theorem LE.fresh2 {B b7 lo hi : Nat} {w wc W : World} {g4 n cap : Nat} {o2 : List Rl} {zi : Int} {oki : Nat → Prop} {y : Rl} {u0 v2 v3 : Value} (h : LE B b7 lo hi w wc W g4 n cap o2 zi oki y u0 v2 v3) (k : Nat) (hk : W.heap.size ≤ k) : oki k ∧ some k ≠ u0.ownBlock ∧ some k ≠ v3.ownBlock :=
  ⟨h.new k hk, fun e => by have := Kd.R_lt h.r0 k e.symm; omega, fun e => by have := Kd.R_lt h.r3 k e.symm; omega⟩
theorem LE.fresh3 {B b7 lo hi : Nat} {w wc W : World} {g4 n cap : Nat} {o2 : List Rl} {zi : Int} {oki : Nat → Prop} {y : Rl} {u0 v2 v3 : Value} (h : LE B b7 lo hi w wc W g4 n cap o2 zi oki y u0 v2 v3) (k : Nat) (hk : W.heap.size ≤ k) : oki k ∧ some k ≠ u0.ownBlock ∧ some k ≠ v2.ownBlock :=
  ⟨h.new k hk, fun e => by have := Kd.R_lt h.r0 k e.symm; omega, fun e => by have := Kd.R_lt h.r2 k e.symm; omega⟩
theorem LE.size {B b7 lo hi : Nat} {w wc W : World} {g4 n cap : Nat} {o2 : List Rl} {zi : Int} {oki : Nat → Prop} {y : Rl} {u0 v2 v3 : Value} (h : LE B b7 lo hi w wc W g4 n cap o2 zi oki y u0 v2 v3) : B ≤ W.heap.size := Nat.le_of_lt (Nat.lt_of_le_of_lt h.ge h.lt)
/-- rows that were made between lo and hi stay -/
theorem LE.row {B b7 : Nat} {w wr wc W : World} {g4 n cap : Nat} {o2 : List Rl} {zi : Int} {oki ok : Nat → Prop} {y : Rl} {u0 v2 v3 v : Value} {xs : List ByteArray} (h : LE B b7 wr.heap.size wc.heap.size w wc W g4 n cap o2 zi oki y u0 v2 v3) (hR : Kd.string.R TS wc wr.heap.size ok v xs) : Kd.string.R TS W wr.heap.size ok v xs :=
  Kd.R_mono (Kd.R_move (Kd.R_bound hR) (fun k hk => h.fr k (okF_not (.inr (.inr (.inr ⟨hk.2.1, hk.2.2.1⟩)))))) (fun _ hk => hk.1)
theorem LE.open_ {B b7 : Nat} {w wr wc : World} {g4 n cap : Nat} {o2 : List Rl} {zi : Int} {D : DataW Unit} (hS : Kd.S kR TR wc B (fun k => k ≠ b7 ∧ ¬ wr.heap.size ≤ k) (.slice (some ⟨g4, 0, none⟩) n cap) o2) (hfb : wc.heap[B]? = some FB) (hm : MI.Mp wc (B + 1) D) (h7 : ∃ o, wc.heap[b7]? = some o) (bel : Below B w wc) (h0 : 0 ≤ zi) (h1 : zi < n) :
    ∃ oki u0 v2 v3, LE B b7 wr.heap.size wc.heap.size w wc wc g4 n cap o2 zi oki (o2.getD zi.toNat nil) u0 v2 v3 := by
  have S2 : Kd.S kR TR wc B (okF B b7 wr.heap.size wc.heap.size) (.slice (some ⟨g4, 0, none⟩) n cap) o2 := Kd.S_mono (Kd.S_bound hS) (fun k hk => by
    obtain ⟨⟨n1, n2⟩, n3, n4, q, hq, cs, hc⟩ := hk
    have hq2 : q = TR ∨ q = TS := by simpa [kR] using hq
    refine ⟨n1, ?_, ?_, fun e => n2 e.1⟩
    · rintro rfl
      rw [hfb] at hc
      injection hc with hc
      injection hc with _ hc
      rcases hq2 with rfl | rfl <;> exact absurd hc (by decide)
    · rintro rfl
      obtain ⟨es, c, hm2⟩ := hm.obj
      rw [hm2] at hc
      cases hc)
  obtain ⟨oki, cl, hcl, hM, hcc, hfr, hoki, hH⟩ := Kd.S_elem S2 nil zi h0 h1
  obtain ⟨u0, u2, u3, rfl, q0, q2, q3⟩ := hM
  have hlb := blk_lt hfb
  have hlm := hm.lt
  obtain ⟨o7, h7⟩ := h7
  have hl7 := blk_lt h7
  have hown : okF B b7 wr.heap.size wc.heap.size g4 := by
    obtain ⟨f, hf0, _⟩ := S2
    exact hf0 g4 (by simp [Value.ownBlock])
  have hg4 := Kd.S_lt S2 g4 (by simp [Value.ownBlock])
  have hb4 := Kd.S_base S2 g4 (by simp [Value.ownBlock])
  refine ⟨fun k => oki k ∨ okF B b7 wr.heap.size wc.heap.size k ∧ wc.heap.size ≤ k, u0, u2, u3, Kd.H_widen hH, Kd.R_mono q0 (fun k hk => ⟨.inl hk.1, hk.2⟩), Kd.R_mono q2 (fun k hk => ⟨.inl hk.1, hk.2⟩), Kd.R_mono q3 (fun k hk => ⟨.inl hk.1, hk.2⟩), fun k hk => .inr ⟨⟨by omega, by omega, by omega, by omega⟩, hk⟩, fun k hk => ?_, hown, fun _ _ => rfl, fun k hk => ?_, bel, hb4, hg4⟩
  · rcases hk with hk | hk
    · exact ⟨(hoki k hk).2, (hoki k hk).1⟩
    · exact ⟨by omega, hk.1⟩
  · have : k < wc.heap.size := by unfold okF at hk; omega
    exact ⟨_, Array.getElem?_eq_getElem this⟩
theorem put_some {o2 : List Rl} {r y : Rl} {tg : ByteArray} {i : Nat} (hf : find o2 tg = some i) (hy : o2.getD i nil = y) : putJ o2 r tg = if r.k = 3 then (if y.k = 3 then some (o2 ++ [one r tg]) else none) else if y.k = 3 then none else if tw r y tg = true then none else some (o2.set i (mrg r y)) := by
  unfold putJ tw
  rw [hf]
  simp only [hy, decide_eq_true_eq]
theorem LE.joined {B b7 lo hi : Nat} {w wc W : World} {g4 n cap : Nat} {o2 : List Rl} {zi : Int} {oki : Nat → Prop} {y x : Rl} {u0 v2 v3 : Value} {D : DataW Unit} {v : Value} {ok : Nat → Prop} (h : LE B b7 lo hi w wc W g4 n cap o2 zi oki x u0 v2 v3) (hJ : JS B w wc ok v o2 D) {r : Rl} (hx : x = mrg r y) (hy : o2.getD zi.toNat nil = y) (hil : zi.toNat < o2.length) :
    JS B w W (fun k => k ≠ b7) (.slice (some ⟨g4, 0, none⟩) n cap) (o2.set zi.toNat (mrg r y)) D := by
  subst hx
  refine ⟨Kd.S_mono h.close (fun k hk => hk.1), hJ.map.same (h.fr _ (okF_not (.inr (.inr (.inl rfl))))), fun s => ?_, by rw [List.length_set]; exact hJ.cnt, (h.fr _ (okF_not (.inr (.inl rfl)))).trans hJ.fb, h.bel⟩
  rw [← hy, find_set hil, hJ.is s]
theorem LE.joinedB {B b7 lo hi : Nat} {w wc W : World} {g4 n cap : Nat} {o2 : List Rl} {zi : Int} {oki : Nat → Prop} {y r : Rl} {u0 v2 v3 : Value} {D : DataW Unit} {v : Value} {ok : Nat → Prop} {o7 : Obj} (h : LE B b7 lo hi w wc W g4 n cap o2 zi oki ⟨y.t, y.k, y.s ++ r.s, y.c ++ r.c, y.a⟩ u0 v2 v3) (hJ : JS B w wc ok v o2 D) (hy : o2.getD zi.toNat nil = y) (hil : zi.toNat < o2.length) (hk : ¬ r.k = 2) (h7 : wc.heap[b7]? = some o7) :
    JS B w W (fun k => k ≠ b7) (.slice (some ⟨g4, 0, none⟩) n cap) (o2.set zi.toNat (mrg r y)) D ∧ W.heap[b7]? = some o7 := by
  have e : (⟨y.t, y.k, y.s ++ r.s, y.c ++ r.c, y.a⟩ : Rl) = mrg r y := by simp only [mrg, if_neg hk]
  exact ⟨h.joined hJ e hy hil, (h.fr b7 (okF_not (.inl rfl))).trans h7⟩
theorem LE.joinedA {B b7 lo hi : Nat} {w wc W : World} {g4 n cap : Nat} {o2 : List Rl} {zi : Int} {oki : Nat → Prop} {y r : Rl} {u0 v2 v3 : Value} {D : DataW Unit} {v : Value} {ok : Nat → Prop} {o7 : Obj} (h : LE B b7 lo hi w wc W g4 n cap o2 zi oki ⟨y.t, y.k, y.s ++ r.s, y.c ++ r.c, y.a⟩ u0 v2 v3) (h0 : 0 ≤ zi) (h1 : zi < n) (hJ : JS B w wc ok v o2 D) (hy : o2.getD zi.toNat nil = y) (hil : zi.toNat < o2.length) (hk : r.k = 2) (h7 : wc.heap[b7]? = some o7) :
    JS B w (W.setCell ⟨g4, zi.toNat * 5 + 1, none⟩ (.int .i64 2)) (fun k => k ≠ b7) (.slice (some ⟨g4, 0, none⟩) n cap) (o2.set zi.toNat (mrg r y)) D ∧ (W.setCell ⟨g4, zi.toNat * 5 + 1, none⟩ (.int .i64 2)).heap[b7]? = some o7 := by
  have hw : LE B b7 lo hi w wc (W.setCell ⟨g4, zi.toNat * 5 + 1, none⟩ (.int .i64 2)) g4 n cap o2 zi oki ⟨y.t, 2, y.s ++ r.s, y.c ++ r.c, y.a⟩ u0 v2 v3 := h.write1 h0 h1 2
  have e : (⟨y.t, 2, y.s ++ r.s, y.c ++ r.c, y.a⟩ : Rl) = mrg r y := by simp only [mrg, if_pos hk]
  exact ⟨hw.joined hJ e hy hil, (hw.fr b7 (okF_not (.inl rfl))).trans h7⟩
theorem pre_total (s p : ByteArray) : ∃ b, PK.strings_HasPrefix.f s p = some b := by
  unfold PK.strings_HasPrefix.f PK.stringslite_HasPrefix.f
  by_cases h : (s.size : Int) ≥ (p.size : Int)
  · rw [if_pos h, if_pos (by omega), if_pos (by omega)]
    exact ⟨_, rfl⟩
  · rw [if_neg h]
    exact ⟨_, rfl⟩
theorem ite_total {c : Prop} [Decidable c] {x : Int} {e : Option Int} (h : ∃ z, e = some z) : ∃ z, (if c then some x else e) = some z := by
  split
  · exact ⟨_, rfl⟩
  · exact h
theorem cls_total (t : ByteArray) (h : t.size ≤ 1000000000) : ∃ z, PK.rule_Class.f t = some z := by
  unfold PK.rule_Class.f
  iterate 16 refine ite_total ?_
  rw [if_pos (by omega)]
  obtain ⟨b, hb⟩ := pre_total (t ++ (⟨#[46]⟩ : ByteArray)) (⟨#[46, 80, 65, 84, 72, 46]⟩ : ByteArray)
  rw [hb, Option.bind_some]
  exact ite_total ⟨_, rfl⟩
theorem wf_nat (n : Nat) (h : n ≤ 100000000000) : (Lit.int .i64 (n : Int)).wf = true := by
  simp [Lit.wf, IntKind.min, IntKind.max, IntKind.bits, IntKind.signed]
  omega
theorem turned_keep {W W3 : World} {m k : Nat} {cs : Array Value} {q : TypeId} (ht : W.mapTurned W3 m) (hk : W.heap[k]? = some (.cells cs q (0, 0))) : W3.heap[k]? = W.heap[k]? := by
  have hne : k ≠ m := by
    rintro rfl
    obtain ⟨es, c, es', c', hb, _⟩ := ht
    rw [hb] at hk
    cases hk
  exact ht.grown.block k (blk_lt hk) (by simpa using hne)
theorem JS.own_ne {B : Nat} {w0 w : World} {ok : Nat → Prop} {v : Value} {out : List Rl} {D : DataW Unit} (h : JS B w0 w ok v out D) : some B ≠ v.ownBlock ∧ some (B + 1) ≠ v.ownBlock := by
  refine ⟨fun e => ?_, fun e => ?_⟩
  · obtain ⟨cells, hc⟩ := Kd.S_typed h.row B e.symm
    rw [h.fb] at hc
    injection hc with hc
    injection hc with _ hc
    exact absurd hc (by decide)
  · obtain ⟨cells, hc⟩ := Kd.S_typed h.row (B + 1) e.symm
    obtain ⟨es, c, hm⟩ := h.map.obj
    rw [hm] at hc
    cases hc
/-- the row, behind a map's turn -/
theorem JS.rowW {B b7 : Nat} {w0 wr wx W3 : World} {v : Value} {out : List Rl} {D : DataW Unit} (h : JS B w0 wr (fun k => k ≠ b7) v out D) (hb : Below wr.heap.size wr wx) (hK : ∀ (k : Nat) (cs : Array Value) (q : TypeId), wx.heap[k]? = some (.cells cs q (0, 0)) → W3.heap[k]? = wx.heap[k]?) :
    Kd.S kR TR W3 B (fun k => k ≠ b7 ∧ ¬ wr.heap.size ≤ k) v out := by
  have h1 : Kd.S kR TR wr B (fun k => k ≠ b7 ∧ ¬ wr.heap.size ≤ k) v out := Kd.S_mono (Kd.S_bound h.row) (fun k hk => ⟨hk.1, by have := hk.2.2.1; omega⟩)
  have h2 := Kd.S_below h1 hb
  exact Kd.S_mono (Kd.S_move (Kd.S_bound h2) (fun k hk => by
    obtain ⟨_, _, _, q, _, cs, hc⟩ := hk
    exact hK k cs q hc)) (fun _ hk => hk.1)
theorem XB.M {wr wx W3 : World} {g B : Nat} {r : Rl} {t : ByteArray} {v0 v2 v3 : Value} (h : XB wr wx g r t v0 v2 v3) (hB : B ≤ wr.heap.size) (hK : ∀ (k : Nat) (cs : Array Value) (q : TypeId), wx.heap[k]? = some (.cells cs q (0, 0)) → W3.heap[k]? = wx.heap[k]?) :
    kR.M W3 B (fun k => wr.heap.size ≤ k) (one r t) [v0, .int .i64 r.k, v2, v3, .int .i64 r.a] :=
  ⟨v0, v2, v3, rfl, Kd.R_lower (Kd.R_mono (Kd.R_bound (R_keepT h.r0 (fun k cs hc => hK k cs _ hc))) (fun k hk => ⟨hk.2.1, hk.1⟩)) hB, Kd.R_lower (Kd.R_mono (Kd.R_bound (R_keepT h.r2 (fun k cs hc => hK k cs _ hc))) (fun k hk => ⟨hk.2.1, hk.1⟩)) hB, Kd.R_lower (Kd.R_mono (Kd.R_bound (R_keepT h.r3 (fun k cs hc => hK k cs _ hc))) (fun k hk => ⟨hk.2.1, hk.1⟩)) hB⟩
/-- a name that is new, with its rule behind the others -/
theorem JS.added {B b7 : Nat} {w0 wx W3 w5 : World} {v v5 : Value} {out : List Rl} {D : DataW Unit} {r : Rl} {t : ByteArray} (h : JS B w0 wx (fun k => k ≠ b7) v out D) (hm : MI.Mp W3 (B + 1) (D.put (MI.key t) (MI.num (out.length : Int)))) (ht : wx.mapTurned W3 (B + 1)) (hf : find out t = none)
    (hS : Kd.S kR TR w5 B (fun k => k ≠ b7) v5 (out ++ [one r t])) (hB : Below B w0 w5) (hg : W3.grownBy w5 v.ownBlock) : JS B w0 w5 (fun k => k ≠ b7) v5 (out ++ [one r t]) (D.put (MI.key t) (MI.num (out.length : Int))) := by
  have ho := h.own_ne
  refine ⟨hS, hm.kept hg ho.2, fun s => ?_, ?_, ?_, hB⟩
  · rw [MI.look_put D h.map.isMap, find_append, h.is s]
    by_cases e : s = t
    · subst e; rw [if_pos rfl, hf, if_pos rfl]; rfl
    · rw [if_neg e, if_neg e, Option.or_none]
  · rw [MI.size_put D h.map.tidy]
    have := h.cnt
    rw [List.length_append, List.length_singleton]
    split <;> omega
  · exact (hg.block B (blk_lt ((turned_keep ht h.fb).trans h.fb)) ho.1).trans ((turned_keep ht h.fb).trans h.fb)
/-- a rule of a name that is there, behind the others -/
theorem JS.added2 {B b7 : Nat} {w0 wx w5 : World} {v v5 : Value} {out : List Rl} {D : DataW Unit} {r : Rl} {t : ByteArray} {i : Nat} (h : JS B w0 wx (fun k => k ≠ b7) v out D) (hf : find out t = some i)
    (hS : Kd.S kR TR w5 B (fun k => k ≠ b7) v5 (out ++ [one r t])) (hB : Below B w0 w5) (hg : wx.grownBy w5 v.ownBlock) : JS B w0 w5 (fun k => k ≠ b7) v5 (out ++ [one r t]) D := by
  have ho := h.own_ne
  refine ⟨hS, h.map.kept hg ho.2, fun s => ?_, ?_, ?_, hB⟩
  · rw [find_append, h.is s]
    by_cases e : s = t
    · subst e; rw [hf]; rfl
    · rw [if_neg e, Option.or_none]
  · have := h.cnt
    rw [List.length_append, List.length_singleton]; omega
  · exact (hg.block B (blk_lt h.fb) ho.1).trans h.fb
theorem drop_at {α : Type} {l : List α} {z : Int} (d : α) (h0 : 0 ≤ z) (h1 : z < l.length) : l.drop z.toNat = l.getD z.toNat d :: l.drop (z + 1).toNat := by
  have h : z.toNat < l.length := by omega
  rw [List.drop_eq_getElem_cons h, List.getD_eq_getElem?_getD, List.getElem?_eq_getElem h, Option.getD_some, show (z + 1).toNat = z.toNat + 1 by omega]
theorem wL_cons (r : Rl) (l : List Rl) : wL (r :: l) = r.t.length * w1 r + wL l := by simp [wL]
theorem wL_mem {l : List Rl} {r : Rl} (h : r ∈ l) (ht : 0 < r.t.length) : w1 r ≤ wL l := by
  induction l with
  | nil => simp at h
  | cons y l ih =>
    rw [wL_cons]
    rcases List.mem_cons.1 h with rfl | h
    · have : 1 * w1 r ≤ r.t.length * w1 r := Nat.mul_le_mul_right _ ht
      omega
    · have := ih h; omega

set_option maxHeartbeats 8000000 in
set_option maxRecDepth 100000 in
theorem joinW (A : Option Addr) (cap : Nat) (l : List Rl) (w : World) (hr : Kd.C kR w A l.length l) (hc : l.length ≤ cap) (hl : wL l + l.length ≤ bound) (hk : ∀ r ∈ l, ∀ t ∈ r.t, t.size ≤ 1000000000 ∧ r.t.length ≤ bound) :
    Calls Tryd.prog 12 #[.slice A l.length cap] w fun e w' => answer w (joinJ l []) e w' := by
  have HR := Aside0.mk hr
  have HK := Aside0.mk hk
  clear hr hk
  have HL := Aside0.mk hl
  unfold bound at hl
  have hll : l.length ≤ 100000000000 := by omega
  clear hl
  have HA := Aside0.mk (fun e w' (h : answer w (joinJ l []) e w') => h)
  obtain ⟨B, hB⟩ : ∃ B, w.heap.size = B := ⟨_, rfl⟩
  have hmm := @run_makeMap Tryd.prog
  have hu24 := Tryd.underlying24
  have hu27 := Tryd.underlying27
  go_enter Tryd.func12, Tryd.ntmps12
  go_wp2
  go_loopw [4, 19] (fun v4 v19 wr => ∃ (z : Int) (out : List Rl) (D : DataW Unit), v19 = .int .i64 z ∧ 0 ≤ z ∧ z ≤ l.length ∧ Aside0 (joinJ l [] = joinJ (l.drop z.toNat) out) ∧ Aside0 (JS B w wr (fun _ => True) v4 out D) ∧ Aside0 (wO out + wL (l.drop z.toNat) ≤ wL l)) (fun _ v19 _ => l.length - (intOf v19).toNat)
  case atStart =>
    have hfb : ((w.alloc FB).alloc (.map #[] 0)).heap[B]? = some FB := by
      rw [← hB]
      exact blk_alloc (heap_alloc_new w FB) _
    have hmp := MI.Mp.made (w.alloc FB)
    rw [show (w.alloc FB).heap.size = B + 1 by simp [hB]] at hmp
    exact ⟨0, [], _, rfl, by omega, by omega, ⟨rfl⟩, ⟨Kd.S_nil _ _ _ _ _, hmp, fun s => by simp [MI.look_nil, find], by simp [Maps.size], hfb, hB ▸ below_alloc (below_alloc (Below.refl _ _) _) _⟩, ⟨by simp [wO]⟩⟩
  case round =>
    obtain ⟨z, out, D, rfl, hz0, hz1, HJ, HS, HO⟩ := hrel
    by_cases hlt : z < l.length
    · have d0 : decide (z < (l.length : Int)) = true := decide_eq_true hlt
      have HD := Aside0.mk (drop_at nil hz0 hlt)
      obtain ⟨ad, c, e, hcl, hKc, hcc0⟩ := Kd.C_get HR.out nil z hz0 hlt
      subst e
      have hcc : ∀ j u, c[j]? = some u → wr.cell? (ad.add (z.toNat * kR.sz + j)) = some u := fun j u hu => pw_cell_below (hB ▸ HS.out.bel) (hcc0 j u hu)
      have hmem : l.getD z.toNat nil ∈ l := by
        rw [List.getD_eq_getElem?_getD, List.getElem?_eq_getElem (show z.toNat < l.length by omega)]
        exact List.getElem_mem _
      generalize l.getD z.toNat nil = r at HD hKc hmem
      obtain ⟨A0, c0, A2, c2, A3, c3, rfl, ⟨hl0, hl2, hl3⟩, hC0, hC2, hC3⟩ := hKc
      have x0 := hcc 0 _ rfl
      have x1 := hcc 1 _ rfl
      have x2 := hcc 2 _ rfl
      have x3 := hcc 3 _ rfl
      have x4 := hcc 4 _ rfl
      simp only [kR, Nat.add_zero] at x0 x1 x2 x3 x4
      rw [add_field _ _ 1 (by omega)] at x1
      rw [add_field _ _ 2 (by omega)] at x2
      rw [add_field _ _ 3 (by omega)] at x3
      rw [add_field _ _ 4 (by omega)] at x4
      have H0 := Aside0.mk hC0
      have H2 := Aside0.mk hC2
      have H3 := Aside0.mk hC3
      have HM := Aside0.mk hmem
      clear hcl hcc hcc0 hC0 hC2 hC3 hmem
      go_wp2
      obtain ⟨b7, hb7⟩ : ∃ b, wr.heap.size = b := ⟨_, rfl⟩
      have hk7 := heap_alloc_new wr (.cells #[.slice A0 r.t.length c0, .int .i64 r.k, .slice A2 r.s.length c2, .slice A3 r.c.length c3, .int .i64 r.a] TR (0, 0))
      have hbe := below_alloc (Below.refl _ wr) (.cells #[.slice A0 r.t.length c0, .int .i64 r.k, .slice A2 r.s.length c2, .slice A3 r.c.length c3, .int .i64 r.a] TR (0, 0))
      have hJ7 := HS.out.new hB hbe b7 (by omega)
      rw [hb7] at hk7
      simp only [hb7]
      have HJ7 := Aside0.mk hJ7
      have HK7 := Aside0.mk hk7
      have H0' := H0
      have H2' := H2
      have H3' := H3
      clear hJ7 hk7 hbe H0 H2 H3 HS x0 x1 x2 x3 x4
      generalize (wr.alloc (.cells #[.slice A0 r.t.length c0, .int .i64 r.k, .slice A2 r.s.length c2, .slice A3 r.c.length c3, .int .i64 r.a] TR (0, 0))) = W7 at *
      go_loopw [4, 26] (fun v4 v26 wq => ∃ (j : Int) (o2 : List Rl) (D2 : DataW Unit), v26 = .int .i64 j ∧ 0 ≤ j ∧ j ≤ r.t.length ∧ Aside0 (rowJ r r.t out = rowJ r (r.t.drop j.toNat) o2) ∧ Aside0 (JS B w wq (fun k => k ≠ b7) v4 o2 D2) ∧ Aside0 (wq.heap[b7]? = some (.cells #[.slice A0 r.t.length c0, .int .i64 r.k, .slice A2 r.s.length c2, .slice A3 r.c.length c3, .int .i64 r.a] TR (0, 0))) ∧ Aside0 (wO o2 + (r.t.length - j.toNat) * w1 r ≤ wO out + r.t.length * w1 r)) (fun _ v26 _ => r.t.length - (intOf v26).toNat)
      case atStart => exact ⟨0, out, D, rfl, by omega, by omega, ⟨rfl⟩, HJ7, HK7, ⟨by simp⟩⟩
      case round =>
        obtain ⟨j, o2, D2, rfl, hj0, hj1, HQ, HT, HKq, HOq⟩ := hrel
        have HBq := Aside0.mk (show Below w.heap.size w wr from by rw [hB]; exact HT.out.bel)
        by_cases hjt : j < r.t.length
        · have d1 : decide (j < (r.t.length : Int)) = true := decide_eq_true hjt
          have HJT := Aside0.mk (And.intro hj0 hjt)
          have hjb : j ≤ 100000000000 := by
            have := (HK.out r HM.out (rdOf ByteArray.empty r.t j) (by
              unfold rdOf
              rw [List.getD_eq_getElem?_getD, List.getElem?_eq_getElem (show j.toNat < r.t.length by omega)]
              exact List.getElem_mem _)).2
            unfold bound at this
            omega
          obtain ⟨ad0, e0, hx⟩ := Kd.at_string (Kd.C_below H0'.out HBq.out) j hj0 hjt
          subst e0
          have HDt := Aside0.mk (drop_at ByteArray.empty hj0 hjt)
          have htm : rdOf ByteArray.empty r.t j ∈ r.t := by
            unfold rdOf
            rw [List.getD_eq_getElem?_getD, List.getElem?_eq_getElem (show j.toNat < r.t.length by omega)]
            exact List.getElem_mem _
          have HDt' : Aside0 (r.t.drop j.toNat = rdOf ByteArray.empty r.t j :: r.t.drop (j + 1).toNat) := HDt
          clear HDt
          generalize rdOf ByteArray.empty r.t j = tg at hx HDt' htm
          have HTM := Aside0.mk htm
          clear htm
          have HWt : Aside0 (wO o2 + w1 r ≤ 100000000000) := by
            refine ⟨?_⟩
            have h1 := HOq.out
            have h2 := HO.out
            rw [HD.out, wL_cons] at h2
            have h3 := HL.out
            unfold bound at h3
            have h4 : 1 * w1 r ≤ (r.t.length - j.toNat) * w1 r := Nat.mul_le_mul_right _ (by omega)
            generalize (r.t.length - j.toNat) * w1 r = X at h1 h4
            generalize r.t.length * w1 r = Y at h1 h2
            omega
          go_upto_region 9 with (fail)
          go_cut [10] (fun s10 wx => ∃ g v0 v2 v3, s10 = .pointer (some ⟨g, 0, none⟩) ∧ Aside0 (XB wr wx g r tg v0 v2 v3))
          case first =>
            have HB := Aside0.mk (Below.refl wr.heap.size wr)

            have s1 : wr.cell? ⟨b7, 1, none⟩ = some (.int .i64 r.k) := (blk_cell HKq.out 1).trans rfl
            have s2 : wr.cell? ⟨b7, 2, none⟩ = some (.slice A2 r.s.length c2) := (blk_cell HKq.out 2).trans rfl
            have s3 : wr.cell? ⟨b7, 3, none⟩ = some (.slice A3 r.c.length c3) := (blk_cell HKq.out 3).trans rfl
            have s4 : wr.cell? ⟨b7, 4, none⟩ = some (.int .i64 r.a) := (blk_cell HKq.out 4).trans rfl
            have sA1 : ∀ o : Obj, (wr.alloc o).cell? ⟨b7, 1, none⟩ = some (.int .i64 r.k) := fun o => (blk_cell (blk_alloc HKq.out o) 1).trans rfl
            have sA2 : ∀ o : Obj, (wr.alloc o).cell? ⟨b7, 2, none⟩ = some (.slice A2 r.s.length c2) := fun o => (blk_cell (blk_alloc HKq.out o) 2).trans rfl
            have sA3 : ∀ o : Obj, (wr.alloc o).cell? ⟨b7, 3, none⟩ = some (.slice A3 r.c.length c3) := fun o => (blk_cell (blk_alloc HKq.out o) 3).trans rfl
            have sA4 : ∀ o : Obj, (wr.alloc o).cell? ⟨b7, 4, none⟩ = some (.int .i64 r.a) := fun o => (blk_cell (blk_alloc HKq.out o) 4).trans rfl
            have sB1 : ∀ o o' : Obj, ((wr.alloc o).alloc o').cell? ⟨b7, 1, none⟩ = some (.int .i64 r.k) := fun o o' => (blk_cell (blk_alloc (blk_alloc HKq.out o) o') 1).trans rfl
            have sB2 : ∀ o o' : Obj, ((wr.alloc o).alloc o').cell? ⟨b7, 2, none⟩ = some (.slice A2 r.s.length c2) := fun o o' => (blk_cell (blk_alloc (blk_alloc HKq.out o) o') 2).trans rfl
            have sB3 : ∀ o o' : Obj, ((wr.alloc o).alloc o').cell? ⟨b7, 3, none⟩ = some (.slice A3 r.c.length c3) := fun o o' => (blk_cell (blk_alloc (blk_alloc HKq.out o) o') 3).trans rfl
            have sB4 : ∀ o o' : Obj, ((wr.alloc o).alloc o').cell? ⟨b7, 4, none⟩ = some (.int .i64 r.a) := fun o o' => (blk_cell (blk_alloc (blk_alloc HKq.out o) o') 4).trans rfl
            have H7 : b7 < wr.heap.size := blk_lt HKq.out
            have hls : r.s.length ≤ 1000000000000 := by
              have := HWt.out; unfold w1 at this; omega
            have hlc : r.c.length ≤ 1000000000000 := by
              have := HWt.out; unfold w1 at this; omega
            go_region_held3 (fun w' => w'.cell? ⟨b7, 1, none⟩ = some (.int .i64 r.k) ∧ w'.cell? ⟨b7, 2, none⟩ = some (.slice A2 r.s.length c2) ∧ w'.cell? ⟨b7, 3, none⟩ = some (.slice A3 r.c.length c3) ∧ w'.cell? ⟨b7, 4, none⟩ = some (.int .i64 r.a)) (first | (with_reducible exact ⟨s1, s2, s3, s4⟩) | (with_reducible exact ⟨sA1 _, sA2 _, sA3 _, sA4 _⟩) | (with_reducible exact ⟨sB1 _ _, sB2 _ _, sB3 _ _, sB4 _ _⟩) | (with_reducible exact keepD ⟨s1, s2, s3, s4⟩) | (with_reducible exact keepD ⟨sA1 _, sA2 _, sA3 _, sA4 _⟩) | (with_reducible exact keepD ⟨sB1 _ _, sB2 _ _, sB3 _ _, sB4 _ _⟩) | (with_reducible exact far5 hq s1 s2 s3 s4 _ _ _ _ _) | (with_reducible exact far5 hq (sA1 _) (sA2 _) (sA3 _) (sA4 _) _ _ _ _ _) | (with_reducible exact far5 hq (sB1 _ _) (sB2 _ _) (sB3 _ _) (sB4 _ _) _ _ _ _ _))
              (first
              | (go_at_call 27; (with_reducible refine (cloneS A2 r.s.length c2 r.s _ ?hA (by omega)).mono ?_); (case hA => exact Kd.C_below (Kd.C_below H2'.out HBq.out) (by with_reducible repeat (first | exact HB.out | apply below_alloc | apply pw_below_drewN | apply below_drew1))); rintro e w5 ⟨v2, rfl, hR2, hb5⟩; obtain ⟨As, cs, rfl⟩ := Kd.R_slice hR2; have HBn : Aside0 (Below wr.heap.size wr w5) := Aside0.mk (below_step (by with_reducible repeat (first | exact HB.out | apply below_alloc | apply pw_below_drewN | apply below_drew1)) hb5); clear HB; have HB := HBn; clear HBn; have HKn : Aside0 (w5.heap[b7]? = some (.cells #[.slice (some ad0) r.t.length c0, .int .i64 r.k, .slice A2 r.s.length c2, .slice A3 r.c.length c3, .int .i64 r.a] TR (0, 0))) := Aside0.mk (blk_below HKq.out HB.out); have s1 : w5.cell? ⟨b7, 1, none⟩ = some (.int .i64 r.k) := (blk_cell HKn.out 1).trans rfl; have s2 : w5.cell? ⟨b7, 2, none⟩ = some (.slice A2 r.s.length c2) := (blk_cell HKn.out 2).trans rfl; have s3 : w5.cell? ⟨b7, 3, none⟩ = some (.slice A3 r.c.length c3) := (blk_cell HKn.out 3).trans rfl; have s4 : w5.cell? ⟨b7, 4, none⟩ = some (.int .i64 r.a) := (blk_cell HKn.out 4).trans rfl; have sA1 : ∀ o : Obj, (w5.alloc o).cell? ⟨b7, 1, none⟩ = some (.int .i64 r.k) := fun o => (blk_cell (blk_alloc HKn.out o) 1).trans rfl; have sA2 : ∀ o : Obj, (w5.alloc o).cell? ⟨b7, 2, none⟩ = some (.slice A2 r.s.length c2) := fun o => (blk_cell (blk_alloc HKn.out o) 2).trans rfl; have sA3 : ∀ o : Obj, (w5.alloc o).cell? ⟨b7, 3, none⟩ = some (.slice A3 r.c.length c3) := fun o => (blk_cell (blk_alloc HKn.out o) 3).trans rfl; have sA4 : ∀ o : Obj, (w5.alloc o).cell? ⟨b7, 4, none⟩ = some (.int .i64 r.a) := fun o => (blk_cell (blk_alloc HKn.out o) 4).trans rfl; have sB1 : ∀ o o' : Obj, ((w5.alloc o).alloc o').cell? ⟨b7, 1, none⟩ = some (.int .i64 r.k) := fun o o' => (blk_cell (blk_alloc (blk_alloc HKn.out o) o') 1).trans rfl; have sB2 : ∀ o o' : Obj, ((w5.alloc o).alloc o').cell? ⟨b7, 2, none⟩ = some (.slice A2 r.s.length c2) := fun o o' => (blk_cell (blk_alloc (blk_alloc HKn.out o) o') 2).trans rfl; have sB3 : ∀ o o' : Obj, ((w5.alloc o).alloc o').cell? ⟨b7, 3, none⟩ = some (.slice A3 r.c.length c3) := fun o o' => (blk_cell (blk_alloc (blk_alloc HKn.out o) o') 3).trans rfl; have sB4 : ∀ o o' : Obj, ((w5.alloc o).alloc o').cell? ⟨b7, 4, none⟩ = some (.int .i64 r.a) := fun o o' => (blk_cell (blk_alloc (blk_alloc HKn.out o) o') 4).trans rfl; clear HKn; have hzw5 := HB.out.size; (try ((with_reducible have nb : Aside0 (w5.heap[wr.heap.size]? = some (.cells #[.slice none 0 0, .int .i64 0, .slice none 0 0, .slice none 0 0, .int .i64 0] TR (0, 0))) := ⟨nb_ofD hb5 (heap_alloc_new wr (.cells #[.slice none 0 0, .int .i64 0, .slice none 0 0, .slice none 0 0, .int .i64 0] TR (0, 0)))⟩); have z0 : w5.cell? ⟨wr.heap.size, 0, none⟩ = some (Value.slice none 0 0) := (blk_cell nb.out 0).trans rfl; have y0 := blk_frozen nb.out 0; have z1 : w5.cell? ⟨wr.heap.size, 1, none⟩ = some (.int .i64 0) := (blk_cell nb.out 1).trans rfl; have y1 := blk_frozen nb.out 1; have z2 : w5.cell? ⟨wr.heap.size, 2, none⟩ = some (Value.slice none 0 0) := (blk_cell nb.out 2).trans rfl; have y2 := blk_frozen nb.out 2; have z3 : w5.cell? ⟨wr.heap.size, 3, none⟩ = some (Value.slice none 0 0) := (blk_cell nb.out 3).trans rfl; have y3 := blk_frozen nb.out 3; have z4 : w5.cell? ⟨wr.heap.size, 4, none⟩ = some (.int .i64 0) := (blk_cell nb.out 4).trans rfl; have y4 := blk_frozen nb.out 4; have zA0 : ∀ o : Obj, (w5.alloc o).cell? ⟨wr.heap.size, 0, none⟩ = some (Value.slice none 0 0) := fun o => (blk_cell (blk_alloc nb.out o) 0).trans rfl; have yA0 : ∀ o : Obj, (w5.alloc o).frozen? ⟨wr.heap.size, 0, none⟩ = false := fun o => blk_frozen (blk_alloc nb.out o) 0; have zA1 : ∀ o : Obj, (w5.alloc o).cell? ⟨wr.heap.size, 1, none⟩ = some (.int .i64 0) := fun o => (blk_cell (blk_alloc nb.out o) 1).trans rfl; have yA1 : ∀ o : Obj, (w5.alloc o).frozen? ⟨wr.heap.size, 1, none⟩ = false := fun o => blk_frozen (blk_alloc nb.out o) 1; have zA2 : ∀ o : Obj, (w5.alloc o).cell? ⟨wr.heap.size, 2, none⟩ = some (Value.slice none 0 0) := fun o => (blk_cell (blk_alloc nb.out o) 2).trans rfl; have yA2 : ∀ o : Obj, (w5.alloc o).frozen? ⟨wr.heap.size, 2, none⟩ = false := fun o => blk_frozen (blk_alloc nb.out o) 2; have zA3 : ∀ o : Obj, (w5.alloc o).cell? ⟨wr.heap.size, 3, none⟩ = some (Value.slice none 0 0) := fun o => (blk_cell (blk_alloc nb.out o) 3).trans rfl; have yA3 : ∀ o : Obj, (w5.alloc o).frozen? ⟨wr.heap.size, 3, none⟩ = false := fun o => blk_frozen (blk_alloc nb.out o) 3; have zA4 : ∀ o : Obj, (w5.alloc o).cell? ⟨wr.heap.size, 4, none⟩ = some (.int .i64 0) := fun o => (blk_cell (blk_alloc nb.out o) 4).trans rfl; have yA4 : ∀ o : Obj, (w5.alloc o).frozen? ⟨wr.heap.size, 4, none⟩ = false := fun o => blk_frozen (blk_alloc nb.out o) 4; have hq : b7 ≠ wr.heap.size := Nat.ne_of_lt (Nat.lt_of_lt_of_le H7 (Nat.le_refl _)); have hq' : wr.heap.size ≠ b7 := Ne.symm hq)); (try ((with_reducible have nb : Aside0 (w5.heap[wr.heap.size]? = some (.cells #[.slice none 0 0, .int .i64 0, .slice none 0 0, .slice none 0 0, .int .i64 0] TR (0, 0))) := ⟨nb_ofD hb5 (blk_alloc (heap_alloc_new wr (.cells #[.slice none 0 0, .int .i64 0, .slice none 0 0, .slice none 0 0, .int .i64 0] TR (0, 0))) (.cells #[.string tg] TS (0, 0)))⟩); have z0 : w5.cell? ⟨wr.heap.size, 0, none⟩ = some (Value.slice none 0 0) := (blk_cell nb.out 0).trans rfl; have y0 := blk_frozen nb.out 0; have z1 : w5.cell? ⟨wr.heap.size, 1, none⟩ = some (.int .i64 0) := (blk_cell nb.out 1).trans rfl; have y1 := blk_frozen nb.out 1; have z2 : w5.cell? ⟨wr.heap.size, 2, none⟩ = some (Value.slice none 0 0) := (blk_cell nb.out 2).trans rfl; have y2 := blk_frozen nb.out 2; have z3 : w5.cell? ⟨wr.heap.size, 3, none⟩ = some (Value.slice none 0 0) := (blk_cell nb.out 3).trans rfl; have y3 := blk_frozen nb.out 3; have z4 : w5.cell? ⟨wr.heap.size, 4, none⟩ = some (.int .i64 0) := (blk_cell nb.out 4).trans rfl; have y4 := blk_frozen nb.out 4; have zA0 : ∀ o : Obj, (w5.alloc o).cell? ⟨wr.heap.size, 0, none⟩ = some (Value.slice none 0 0) := fun o => (blk_cell (blk_alloc nb.out o) 0).trans rfl; have yA0 : ∀ o : Obj, (w5.alloc o).frozen? ⟨wr.heap.size, 0, none⟩ = false := fun o => blk_frozen (blk_alloc nb.out o) 0; have zA1 : ∀ o : Obj, (w5.alloc o).cell? ⟨wr.heap.size, 1, none⟩ = some (.int .i64 0) := fun o => (blk_cell (blk_alloc nb.out o) 1).trans rfl; have yA1 : ∀ o : Obj, (w5.alloc o).frozen? ⟨wr.heap.size, 1, none⟩ = false := fun o => blk_frozen (blk_alloc nb.out o) 1; have zA2 : ∀ o : Obj, (w5.alloc o).cell? ⟨wr.heap.size, 2, none⟩ = some (Value.slice none 0 0) := fun o => (blk_cell (blk_alloc nb.out o) 2).trans rfl; have yA2 : ∀ o : Obj, (w5.alloc o).frozen? ⟨wr.heap.size, 2, none⟩ = false := fun o => blk_frozen (blk_alloc nb.out o) 2; have zA3 : ∀ o : Obj, (w5.alloc o).cell? ⟨wr.heap.size, 3, none⟩ = some (Value.slice none 0 0) := fun o => (blk_cell (blk_alloc nb.out o) 3).trans rfl; have yA3 : ∀ o : Obj, (w5.alloc o).frozen? ⟨wr.heap.size, 3, none⟩ = false := fun o => blk_frozen (blk_alloc nb.out o) 3; have zA4 : ∀ o : Obj, (w5.alloc o).cell? ⟨wr.heap.size, 4, none⟩ = some (.int .i64 0) := fun o => (blk_cell (blk_alloc nb.out o) 4).trans rfl; have yA4 : ∀ o : Obj, (w5.alloc o).frozen? ⟨wr.heap.size, 4, none⟩ = false := fun o => blk_frozen (blk_alloc nb.out o) 4; have hq : b7 ≠ wr.heap.size := Nat.ne_of_lt (Nat.lt_of_lt_of_le H7 (Nat.le_refl _)); have hq' : wr.heap.size ≠ b7 := Ne.symm hq)); (try ((with_reducible have nb : Aside0 (w5.heap[(wr.heap.size + 1)]? = some (.cells #[.slice none 0 0, .int .i64 0, .slice none 0 0, .slice none 0 0, .int .i64 0] TR (0, 0))) := ⟨nb_ofD hb5 (blk_new2 wr (.cells #[.string tg] TS (0, 0)) (.cells #[.slice none 0 0, .int .i64 0, .slice none 0 0, .slice none 0 0, .int .i64 0] TR (0, 0)))⟩); have z0 : w5.cell? ⟨(wr.heap.size + 1), 0, none⟩ = some (Value.slice none 0 0) := (blk_cell nb.out 0).trans rfl; have y0 := blk_frozen nb.out 0; have z1 : w5.cell? ⟨(wr.heap.size + 1), 1, none⟩ = some (.int .i64 0) := (blk_cell nb.out 1).trans rfl; have y1 := blk_frozen nb.out 1; have z2 : w5.cell? ⟨(wr.heap.size + 1), 2, none⟩ = some (Value.slice none 0 0) := (blk_cell nb.out 2).trans rfl; have y2 := blk_frozen nb.out 2; have z3 : w5.cell? ⟨(wr.heap.size + 1), 3, none⟩ = some (Value.slice none 0 0) := (blk_cell nb.out 3).trans rfl; have y3 := blk_frozen nb.out 3; have z4 : w5.cell? ⟨(wr.heap.size + 1), 4, none⟩ = some (.int .i64 0) := (blk_cell nb.out 4).trans rfl; have y4 := blk_frozen nb.out 4; have zA0 : ∀ o : Obj, (w5.alloc o).cell? ⟨(wr.heap.size + 1), 0, none⟩ = some (Value.slice none 0 0) := fun o => (blk_cell (blk_alloc nb.out o) 0).trans rfl; have yA0 : ∀ o : Obj, (w5.alloc o).frozen? ⟨(wr.heap.size + 1), 0, none⟩ = false := fun o => blk_frozen (blk_alloc nb.out o) 0; have zA1 : ∀ o : Obj, (w5.alloc o).cell? ⟨(wr.heap.size + 1), 1, none⟩ = some (.int .i64 0) := fun o => (blk_cell (blk_alloc nb.out o) 1).trans rfl; have yA1 : ∀ o : Obj, (w5.alloc o).frozen? ⟨(wr.heap.size + 1), 1, none⟩ = false := fun o => blk_frozen (blk_alloc nb.out o) 1; have zA2 : ∀ o : Obj, (w5.alloc o).cell? ⟨(wr.heap.size + 1), 2, none⟩ = some (Value.slice none 0 0) := fun o => (blk_cell (blk_alloc nb.out o) 2).trans rfl; have yA2 : ∀ o : Obj, (w5.alloc o).frozen? ⟨(wr.heap.size + 1), 2, none⟩ = false := fun o => blk_frozen (blk_alloc nb.out o) 2; have zA3 : ∀ o : Obj, (w5.alloc o).cell? ⟨(wr.heap.size + 1), 3, none⟩ = some (Value.slice none 0 0) := fun o => (blk_cell (blk_alloc nb.out o) 3).trans rfl; have yA3 : ∀ o : Obj, (w5.alloc o).frozen? ⟨(wr.heap.size + 1), 3, none⟩ = false := fun o => blk_frozen (blk_alloc nb.out o) 3; have zA4 : ∀ o : Obj, (w5.alloc o).cell? ⟨(wr.heap.size + 1), 4, none⟩ = some (.int .i64 0) := fun o => (blk_cell (blk_alloc nb.out o) 4).trans rfl; have yA4 : ∀ o : Obj, (w5.alloc o).frozen? ⟨(wr.heap.size + 1), 4, none⟩ = false := fun o => blk_frozen (blk_alloc nb.out o) 4; have hq : b7 ≠ (wr.heap.size + 1) := Nat.ne_of_lt (Nat.lt_of_lt_of_le H7 (Nat.le_succ _)); have hq' : (wr.heap.size + 1) ≠ b7 := Ne.symm hq)); (try ((with_reducible have nb : Aside0 (w5.heap[w5.heap.size]? = some (.cells #[.slice none 0 0, .int .i64 0, .slice none 0 0, .slice none 0 0, .int .i64 0] TR (0, 0))) := ⟨nb_of hb5 (heap_alloc_new w5 (.cells #[.slice none 0 0, .int .i64 0, .slice none 0 0, .slice none 0 0, .int .i64 0] TR (0, 0)))⟩); have z0 : w5.cell? ⟨w5.heap.size, 0, none⟩ = some (Value.slice none 0 0) := (blk_cell nb.out 0).trans rfl; have y0 := blk_frozen nb.out 0; have z1 : w5.cell? ⟨w5.heap.size, 1, none⟩ = some (.int .i64 0) := (blk_cell nb.out 1).trans rfl; have y1 := blk_frozen nb.out 1; have z2 : w5.cell? ⟨w5.heap.size, 2, none⟩ = some (Value.slice none 0 0) := (blk_cell nb.out 2).trans rfl; have y2 := blk_frozen nb.out 2; have z3 : w5.cell? ⟨w5.heap.size, 3, none⟩ = some (Value.slice none 0 0) := (blk_cell nb.out 3).trans rfl; have y3 := blk_frozen nb.out 3; have z4 : w5.cell? ⟨w5.heap.size, 4, none⟩ = some (.int .i64 0) := (blk_cell nb.out 4).trans rfl; have y4 := blk_frozen nb.out 4; have zA0 : ∀ o : Obj, (w5.alloc o).cell? ⟨w5.heap.size, 0, none⟩ = some (Value.slice none 0 0) := fun o => (blk_cell (blk_alloc nb.out o) 0).trans rfl; have yA0 : ∀ o : Obj, (w5.alloc o).frozen? ⟨w5.heap.size, 0, none⟩ = false := fun o => blk_frozen (blk_alloc nb.out o) 0; have zA1 : ∀ o : Obj, (w5.alloc o).cell? ⟨w5.heap.size, 1, none⟩ = some (.int .i64 0) := fun o => (blk_cell (blk_alloc nb.out o) 1).trans rfl; have yA1 : ∀ o : Obj, (w5.alloc o).frozen? ⟨w5.heap.size, 1, none⟩ = false := fun o => blk_frozen (blk_alloc nb.out o) 1; have zA2 : ∀ o : Obj, (w5.alloc o).cell? ⟨w5.heap.size, 2, none⟩ = some (Value.slice none 0 0) := fun o => (blk_cell (blk_alloc nb.out o) 2).trans rfl; have yA2 : ∀ o : Obj, (w5.alloc o).frozen? ⟨w5.heap.size, 2, none⟩ = false := fun o => blk_frozen (blk_alloc nb.out o) 2; have zA3 : ∀ o : Obj, (w5.alloc o).cell? ⟨w5.heap.size, 3, none⟩ = some (Value.slice none 0 0) := fun o => (blk_cell (blk_alloc nb.out o) 3).trans rfl; have yA3 : ∀ o : Obj, (w5.alloc o).frozen? ⟨w5.heap.size, 3, none⟩ = false := fun o => blk_frozen (blk_alloc nb.out o) 3; have zA4 : ∀ o : Obj, (w5.alloc o).cell? ⟨w5.heap.size, 4, none⟩ = some (.int .i64 0) := fun o => (blk_cell (blk_alloc nb.out o) 4).trans rfl; have yA4 : ∀ o : Obj, (w5.alloc o).frozen? ⟨w5.heap.size, 4, none⟩ = false := fun o => blk_frozen (blk_alloc nb.out o) 4; have hq : b7 ≠ w5.heap.size := Nat.ne_of_lt (Nat.lt_of_lt_of_le H7 hzw5); have hq' : w5.heap.size ≠ b7 := Ne.symm hq)); (try ((with_reducible have nb : Aside0 (w5.heap[w5.heap.size]? = some (.cells #[.slice none 0 0, .int .i64 0, .slice none 0 0, .slice none 0 0, .int .i64 0] TR (0, 0))) := ⟨nb_of hb5 (blk_alloc (heap_alloc_new w5 (.cells #[.slice none 0 0, .int .i64 0, .slice none 0 0, .slice none 0 0, .int .i64 0] TR (0, 0))) (.cells #[.string tg] TS (0, 0)))⟩); have z0 : w5.cell? ⟨w5.heap.size, 0, none⟩ = some (Value.slice none 0 0) := (blk_cell nb.out 0).trans rfl; have y0 := blk_frozen nb.out 0; have z1 : w5.cell? ⟨w5.heap.size, 1, none⟩ = some (.int .i64 0) := (blk_cell nb.out 1).trans rfl; have y1 := blk_frozen nb.out 1; have z2 : w5.cell? ⟨w5.heap.size, 2, none⟩ = some (Value.slice none 0 0) := (blk_cell nb.out 2).trans rfl; have y2 := blk_frozen nb.out 2; have z3 : w5.cell? ⟨w5.heap.size, 3, none⟩ = some (Value.slice none 0 0) := (blk_cell nb.out 3).trans rfl; have y3 := blk_frozen nb.out 3; have z4 : w5.cell? ⟨w5.heap.size, 4, none⟩ = some (.int .i64 0) := (blk_cell nb.out 4).trans rfl; have y4 := blk_frozen nb.out 4; have zA0 : ∀ o : Obj, (w5.alloc o).cell? ⟨w5.heap.size, 0, none⟩ = some (Value.slice none 0 0) := fun o => (blk_cell (blk_alloc nb.out o) 0).trans rfl; have yA0 : ∀ o : Obj, (w5.alloc o).frozen? ⟨w5.heap.size, 0, none⟩ = false := fun o => blk_frozen (blk_alloc nb.out o) 0; have zA1 : ∀ o : Obj, (w5.alloc o).cell? ⟨w5.heap.size, 1, none⟩ = some (.int .i64 0) := fun o => (blk_cell (blk_alloc nb.out o) 1).trans rfl; have yA1 : ∀ o : Obj, (w5.alloc o).frozen? ⟨w5.heap.size, 1, none⟩ = false := fun o => blk_frozen (blk_alloc nb.out o) 1; have zA2 : ∀ o : Obj, (w5.alloc o).cell? ⟨w5.heap.size, 2, none⟩ = some (Value.slice none 0 0) := fun o => (blk_cell (blk_alloc nb.out o) 2).trans rfl; have yA2 : ∀ o : Obj, (w5.alloc o).frozen? ⟨w5.heap.size, 2, none⟩ = false := fun o => blk_frozen (blk_alloc nb.out o) 2; have zA3 : ∀ o : Obj, (w5.alloc o).cell? ⟨w5.heap.size, 3, none⟩ = some (Value.slice none 0 0) := fun o => (blk_cell (blk_alloc nb.out o) 3).trans rfl; have yA3 : ∀ o : Obj, (w5.alloc o).frozen? ⟨w5.heap.size, 3, none⟩ = false := fun o => blk_frozen (blk_alloc nb.out o) 3; have zA4 : ∀ o : Obj, (w5.alloc o).cell? ⟨w5.heap.size, 4, none⟩ = some (.int .i64 0) := fun o => (blk_cell (blk_alloc nb.out o) 4).trans rfl; have yA4 : ∀ o : Obj, (w5.alloc o).frozen? ⟨w5.heap.size, 4, none⟩ = false := fun o => blk_frozen (blk_alloc nb.out o) 4; have hq : b7 ≠ w5.heap.size := Nat.ne_of_lt (Nat.lt_of_lt_of_le H7 hzw5); have hq' : w5.heap.size ≠ b7 := Ne.symm hq)); (try ((with_reducible have nb : Aside0 (w5.heap[(w5.heap.size + 1)]? = some (.cells #[.slice none 0 0, .int .i64 0, .slice none 0 0, .slice none 0 0, .int .i64 0] TR (0, 0))) := ⟨nb_of hb5 (blk_new2 w5 (.cells #[.string tg] TS (0, 0)) (.cells #[.slice none 0 0, .int .i64 0, .slice none 0 0, .slice none 0 0, .int .i64 0] TR (0, 0)))⟩); have z0 : w5.cell? ⟨(w5.heap.size + 1), 0, none⟩ = some (Value.slice none 0 0) := (blk_cell nb.out 0).trans rfl; have y0 := blk_frozen nb.out 0; have z1 : w5.cell? ⟨(w5.heap.size + 1), 1, none⟩ = some (.int .i64 0) := (blk_cell nb.out 1).trans rfl; have y1 := blk_frozen nb.out 1; have z2 : w5.cell? ⟨(w5.heap.size + 1), 2, none⟩ = some (Value.slice none 0 0) := (blk_cell nb.out 2).trans rfl; have y2 := blk_frozen nb.out 2; have z3 : w5.cell? ⟨(w5.heap.size + 1), 3, none⟩ = some (Value.slice none 0 0) := (blk_cell nb.out 3).trans rfl; have y3 := blk_frozen nb.out 3; have z4 : w5.cell? ⟨(w5.heap.size + 1), 4, none⟩ = some (.int .i64 0) := (blk_cell nb.out 4).trans rfl; have y4 := blk_frozen nb.out 4; have zA0 : ∀ o : Obj, (w5.alloc o).cell? ⟨(w5.heap.size + 1), 0, none⟩ = some (Value.slice none 0 0) := fun o => (blk_cell (blk_alloc nb.out o) 0).trans rfl; have yA0 : ∀ o : Obj, (w5.alloc o).frozen? ⟨(w5.heap.size + 1), 0, none⟩ = false := fun o => blk_frozen (blk_alloc nb.out o) 0; have zA1 : ∀ o : Obj, (w5.alloc o).cell? ⟨(w5.heap.size + 1), 1, none⟩ = some (.int .i64 0) := fun o => (blk_cell (blk_alloc nb.out o) 1).trans rfl; have yA1 : ∀ o : Obj, (w5.alloc o).frozen? ⟨(w5.heap.size + 1), 1, none⟩ = false := fun o => blk_frozen (blk_alloc nb.out o) 1; have zA2 : ∀ o : Obj, (w5.alloc o).cell? ⟨(w5.heap.size + 1), 2, none⟩ = some (Value.slice none 0 0) := fun o => (blk_cell (blk_alloc nb.out o) 2).trans rfl; have yA2 : ∀ o : Obj, (w5.alloc o).frozen? ⟨(w5.heap.size + 1), 2, none⟩ = false := fun o => blk_frozen (blk_alloc nb.out o) 2; have zA3 : ∀ o : Obj, (w5.alloc o).cell? ⟨(w5.heap.size + 1), 3, none⟩ = some (Value.slice none 0 0) := fun o => (blk_cell (blk_alloc nb.out o) 3).trans rfl; have yA3 : ∀ o : Obj, (w5.alloc o).frozen? ⟨(w5.heap.size + 1), 3, none⟩ = false := fun o => blk_frozen (blk_alloc nb.out o) 3; have zA4 : ∀ o : Obj, (w5.alloc o).cell? ⟨(w5.heap.size + 1), 4, none⟩ = some (.int .i64 0) := fun o => (blk_cell (blk_alloc nb.out o) 4).trans rfl; have yA4 : ∀ o : Obj, (w5.alloc o).frozen? ⟨(w5.heap.size + 1), 4, none⟩ = false := fun o => blk_frozen (blk_alloc nb.out o) 4; have hq : b7 ≠ (w5.heap.size + 1) := Nat.ne_of_lt (Nat.lt_of_lt_of_le H7 (Nat.le_succ_of_le hzw5)); have hq' : (w5.heap.size + 1) ≠ b7 := Ne.symm hq)); (try ((with_reducible have nb : Aside0 (w5.heap[wr.heap.size]? = some (.cells #[.slice none 0 0, .int .i64 0, .slice none 0 0, .slice none 0 0, .int .i64 0] TR (0, 0))) := ⟨nb_of hb5 nb.out⟩); have z0 : w5.cell? ⟨wr.heap.size, 0, none⟩ = some (Value.slice none 0 0) := (blk_cell nb.out 0).trans rfl; have y0 := blk_frozen nb.out 0; have z1 : w5.cell? ⟨wr.heap.size, 1, none⟩ = some (.int .i64 0) := (blk_cell nb.out 1).trans rfl; have y1 := blk_frozen nb.out 1; have z2 : w5.cell? ⟨wr.heap.size, 2, none⟩ = some (Value.slice none 0 0) := (blk_cell nb.out 2).trans rfl; have y2 := blk_frozen nb.out 2; have z3 : w5.cell? ⟨wr.heap.size, 3, none⟩ = some (Value.slice none 0 0) := (blk_cell nb.out 3).trans rfl; have y3 := blk_frozen nb.out 3; have z4 : w5.cell? ⟨wr.heap.size, 4, none⟩ = some (.int .i64 0) := (blk_cell nb.out 4).trans rfl; have y4 := blk_frozen nb.out 4; have zA0 : ∀ o : Obj, (w5.alloc o).cell? ⟨wr.heap.size, 0, none⟩ = some (Value.slice none 0 0) := fun o => (blk_cell (blk_alloc nb.out o) 0).trans rfl; have yA0 : ∀ o : Obj, (w5.alloc o).frozen? ⟨wr.heap.size, 0, none⟩ = false := fun o => blk_frozen (blk_alloc nb.out o) 0; have zA1 : ∀ o : Obj, (w5.alloc o).cell? ⟨wr.heap.size, 1, none⟩ = some (.int .i64 0) := fun o => (blk_cell (blk_alloc nb.out o) 1).trans rfl; have yA1 : ∀ o : Obj, (w5.alloc o).frozen? ⟨wr.heap.size, 1, none⟩ = false := fun o => blk_frozen (blk_alloc nb.out o) 1; have zA2 : ∀ o : Obj, (w5.alloc o).cell? ⟨wr.heap.size, 2, none⟩ = some (Value.slice none 0 0) := fun o => (blk_cell (blk_alloc nb.out o) 2).trans rfl; have yA2 : ∀ o : Obj, (w5.alloc o).frozen? ⟨wr.heap.size, 2, none⟩ = false := fun o => blk_frozen (blk_alloc nb.out o) 2; have zA3 : ∀ o : Obj, (w5.alloc o).cell? ⟨wr.heap.size, 3, none⟩ = some (Value.slice none 0 0) := fun o => (blk_cell (blk_alloc nb.out o) 3).trans rfl; have yA3 : ∀ o : Obj, (w5.alloc o).frozen? ⟨wr.heap.size, 3, none⟩ = false := fun o => blk_frozen (blk_alloc nb.out o) 3; have zA4 : ∀ o : Obj, (w5.alloc o).cell? ⟨wr.heap.size, 4, none⟩ = some (.int .i64 0) := fun o => (blk_cell (blk_alloc nb.out o) 4).trans rfl; have yA4 : ∀ o : Obj, (w5.alloc o).frozen? ⟨wr.heap.size, 4, none⟩ = false := fun o => blk_frozen (blk_alloc nb.out o) 4; have hq : b7 ≠ wr.heap.size := Nat.ne_of_lt (Nat.lt_of_lt_of_le H7 (Nat.le_refl _)); have hq' : wr.heap.size ≠ b7 := Ne.symm hq)); (try ((with_reducible have nb : Aside0 (w5.heap[wr.heap.size]? = some (.cells #[.slice none 0 0, .int .i64 0, .slice none 0 0, .slice none 0 0, .int .i64 0] TR (0, 0))) := ⟨nb_of hb5 (blk_alloc nb.out (.cells #[.string tg] TS (0, 0)))⟩); have z0 : w5.cell? ⟨wr.heap.size, 0, none⟩ = some (Value.slice none 0 0) := (blk_cell nb.out 0).trans rfl; have y0 := blk_frozen nb.out 0; have z1 : w5.cell? ⟨wr.heap.size, 1, none⟩ = some (.int .i64 0) := (blk_cell nb.out 1).trans rfl; have y1 := blk_frozen nb.out 1; have z2 : w5.cell? ⟨wr.heap.size, 2, none⟩ = some (Value.slice none 0 0) := (blk_cell nb.out 2).trans rfl; have y2 := blk_frozen nb.out 2; have z3 : w5.cell? ⟨wr.heap.size, 3, none⟩ = some (Value.slice none 0 0) := (blk_cell nb.out 3).trans rfl; have y3 := blk_frozen nb.out 3; have z4 : w5.cell? ⟨wr.heap.size, 4, none⟩ = some (.int .i64 0) := (blk_cell nb.out 4).trans rfl; have y4 := blk_frozen nb.out 4; have zA0 : ∀ o : Obj, (w5.alloc o).cell? ⟨wr.heap.size, 0, none⟩ = some (Value.slice none 0 0) := fun o => (blk_cell (blk_alloc nb.out o) 0).trans rfl; have yA0 : ∀ o : Obj, (w5.alloc o).frozen? ⟨wr.heap.size, 0, none⟩ = false := fun o => blk_frozen (blk_alloc nb.out o) 0; have zA1 : ∀ o : Obj, (w5.alloc o).cell? ⟨wr.heap.size, 1, none⟩ = some (.int .i64 0) := fun o => (blk_cell (blk_alloc nb.out o) 1).trans rfl; have yA1 : ∀ o : Obj, (w5.alloc o).frozen? ⟨wr.heap.size, 1, none⟩ = false := fun o => blk_frozen (blk_alloc nb.out o) 1; have zA2 : ∀ o : Obj, (w5.alloc o).cell? ⟨wr.heap.size, 2, none⟩ = some (Value.slice none 0 0) := fun o => (blk_cell (blk_alloc nb.out o) 2).trans rfl; have yA2 : ∀ o : Obj, (w5.alloc o).frozen? ⟨wr.heap.size, 2, none⟩ = false := fun o => blk_frozen (blk_alloc nb.out o) 2; have zA3 : ∀ o : Obj, (w5.alloc o).cell? ⟨wr.heap.size, 3, none⟩ = some (Value.slice none 0 0) := fun o => (blk_cell (blk_alloc nb.out o) 3).trans rfl; have yA3 : ∀ o : Obj, (w5.alloc o).frozen? ⟨wr.heap.size, 3, none⟩ = false := fun o => blk_frozen (blk_alloc nb.out o) 3; have zA4 : ∀ o : Obj, (w5.alloc o).cell? ⟨wr.heap.size, 4, none⟩ = some (.int .i64 0) := fun o => (blk_cell (blk_alloc nb.out o) 4).trans rfl; have yA4 : ∀ o : Obj, (w5.alloc o).frozen? ⟨wr.heap.size, 4, none⟩ = false := fun o => blk_frozen (blk_alloc nb.out o) 4; have hq : b7 ≠ wr.heap.size := Nat.ne_of_lt (Nat.lt_of_lt_of_le H7 (Nat.le_refl _)); have hq' : wr.heap.size ≠ b7 := Ne.symm hq)); (try ((with_reducible have nb : Aside0 (w5.heap[(wr.heap.size + 1)]? = some (.cells #[.slice none 0 0, .int .i64 0, .slice none 0 0, .slice none 0 0, .int .i64 0] TR (0, 0))) := ⟨nb_of hb5 nb.out⟩); have z0 : w5.cell? ⟨(wr.heap.size + 1), 0, none⟩ = some (Value.slice none 0 0) := (blk_cell nb.out 0).trans rfl; have y0 := blk_frozen nb.out 0; have z1 : w5.cell? ⟨(wr.heap.size + 1), 1, none⟩ = some (.int .i64 0) := (blk_cell nb.out 1).trans rfl; have y1 := blk_frozen nb.out 1; have z2 : w5.cell? ⟨(wr.heap.size + 1), 2, none⟩ = some (Value.slice none 0 0) := (blk_cell nb.out 2).trans rfl; have y2 := blk_frozen nb.out 2; have z3 : w5.cell? ⟨(wr.heap.size + 1), 3, none⟩ = some (Value.slice none 0 0) := (blk_cell nb.out 3).trans rfl; have y3 := blk_frozen nb.out 3; have z4 : w5.cell? ⟨(wr.heap.size + 1), 4, none⟩ = some (.int .i64 0) := (blk_cell nb.out 4).trans rfl; have y4 := blk_frozen nb.out 4; have zA0 : ∀ o : Obj, (w5.alloc o).cell? ⟨(wr.heap.size + 1), 0, none⟩ = some (Value.slice none 0 0) := fun o => (blk_cell (blk_alloc nb.out o) 0).trans rfl; have yA0 : ∀ o : Obj, (w5.alloc o).frozen? ⟨(wr.heap.size + 1), 0, none⟩ = false := fun o => blk_frozen (blk_alloc nb.out o) 0; have zA1 : ∀ o : Obj, (w5.alloc o).cell? ⟨(wr.heap.size + 1), 1, none⟩ = some (.int .i64 0) := fun o => (blk_cell (blk_alloc nb.out o) 1).trans rfl; have yA1 : ∀ o : Obj, (w5.alloc o).frozen? ⟨(wr.heap.size + 1), 1, none⟩ = false := fun o => blk_frozen (blk_alloc nb.out o) 1; have zA2 : ∀ o : Obj, (w5.alloc o).cell? ⟨(wr.heap.size + 1), 2, none⟩ = some (Value.slice none 0 0) := fun o => (blk_cell (blk_alloc nb.out o) 2).trans rfl; have yA2 : ∀ o : Obj, (w5.alloc o).frozen? ⟨(wr.heap.size + 1), 2, none⟩ = false := fun o => blk_frozen (blk_alloc nb.out o) 2; have zA3 : ∀ o : Obj, (w5.alloc o).cell? ⟨(wr.heap.size + 1), 3, none⟩ = some (Value.slice none 0 0) := fun o => (blk_cell (blk_alloc nb.out o) 3).trans rfl; have yA3 : ∀ o : Obj, (w5.alloc o).frozen? ⟨(wr.heap.size + 1), 3, none⟩ = false := fun o => blk_frozen (blk_alloc nb.out o) 3; have zA4 : ∀ o : Obj, (w5.alloc o).cell? ⟨(wr.heap.size + 1), 4, none⟩ = some (.int .i64 0) := fun o => (blk_cell (blk_alloc nb.out o) 4).trans rfl; have yA4 : ∀ o : Obj, (w5.alloc o).frozen? ⟨(wr.heap.size + 1), 4, none⟩ = false := fun o => blk_frozen (blk_alloc nb.out o) 4; have hq : b7 ≠ (wr.heap.size + 1) := Nat.ne_of_lt (Nat.lt_of_lt_of_le H7 (Nat.le_succ _)); have hq' : (wr.heap.size + 1) ≠ b7 := Ne.symm hq)))
              | (go_at_call 27; (with_reducible refine (cloneS A3 r.c.length c3 r.c _ ?hA (by omega)).mono ?_); (case hA => exact Kd.C_below (Kd.C_below H3'.out HBq.out) (by with_reducible repeat (first | exact HB.out | apply below_alloc | apply pw_below_drewN | apply below_drew1))); rintro e w6 ⟨v3, rfl, hR3, hb6⟩; obtain ⟨Ac, cc, rfl⟩ := Kd.R_slice hR3; have HBn : Aside0 (Below wr.heap.size wr w6) := Aside0.mk (below_step (by with_reducible repeat (first | exact HB.out | apply below_alloc | apply pw_below_drewN | apply below_drew1)) hb6); clear HB; have HB := HBn; clear HBn; have HKn : Aside0 (w6.heap[b7]? = some (.cells #[.slice (some ad0) r.t.length c0, .int .i64 r.k, .slice A2 r.s.length c2, .slice A3 r.c.length c3, .int .i64 r.a] TR (0, 0))) := Aside0.mk (blk_below HKq.out HB.out); have s1 : w6.cell? ⟨b7, 1, none⟩ = some (.int .i64 r.k) := (blk_cell HKn.out 1).trans rfl; have s2 : w6.cell? ⟨b7, 2, none⟩ = some (.slice A2 r.s.length c2) := (blk_cell HKn.out 2).trans rfl; have s3 : w6.cell? ⟨b7, 3, none⟩ = some (.slice A3 r.c.length c3) := (blk_cell HKn.out 3).trans rfl; have s4 : w6.cell? ⟨b7, 4, none⟩ = some (.int .i64 r.a) := (blk_cell HKn.out 4).trans rfl; have sA1 : ∀ o : Obj, (w6.alloc o).cell? ⟨b7, 1, none⟩ = some (.int .i64 r.k) := fun o => (blk_cell (blk_alloc HKn.out o) 1).trans rfl; have sA2 : ∀ o : Obj, (w6.alloc o).cell? ⟨b7, 2, none⟩ = some (.slice A2 r.s.length c2) := fun o => (blk_cell (blk_alloc HKn.out o) 2).trans rfl; have sA3 : ∀ o : Obj, (w6.alloc o).cell? ⟨b7, 3, none⟩ = some (.slice A3 r.c.length c3) := fun o => (blk_cell (blk_alloc HKn.out o) 3).trans rfl; have sA4 : ∀ o : Obj, (w6.alloc o).cell? ⟨b7, 4, none⟩ = some (.int .i64 r.a) := fun o => (blk_cell (blk_alloc HKn.out o) 4).trans rfl; have sB1 : ∀ o o' : Obj, ((w6.alloc o).alloc o').cell? ⟨b7, 1, none⟩ = some (.int .i64 r.k) := fun o o' => (blk_cell (blk_alloc (blk_alloc HKn.out o) o') 1).trans rfl; have sB2 : ∀ o o' : Obj, ((w6.alloc o).alloc o').cell? ⟨b7, 2, none⟩ = some (.slice A2 r.s.length c2) := fun o o' => (blk_cell (blk_alloc (blk_alloc HKn.out o) o') 2).trans rfl; have sB3 : ∀ o o' : Obj, ((w6.alloc o).alloc o').cell? ⟨b7, 3, none⟩ = some (.slice A3 r.c.length c3) := fun o o' => (blk_cell (blk_alloc (blk_alloc HKn.out o) o') 3).trans rfl; have sB4 : ∀ o o' : Obj, ((w6.alloc o).alloc o').cell? ⟨b7, 4, none⟩ = some (.int .i64 r.a) := fun o o' => (blk_cell (blk_alloc (blk_alloc HKn.out o) o') 4).trans rfl; clear HKn; have hzw6 := HB.out.size; (try ((with_reducible have nb : Aside0 (w6.heap[wr.heap.size]? = some (.cells #[.slice none 0 0, .int .i64 0, .slice none 0 0, .slice none 0 0, .int .i64 0] TR (0, 0))) := ⟨nb_ofD hb6 (heap_alloc_new wr (.cells #[.slice none 0 0, .int .i64 0, .slice none 0 0, .slice none 0 0, .int .i64 0] TR (0, 0)))⟩); have z0 : w6.cell? ⟨wr.heap.size, 0, none⟩ = some (Value.slice none 0 0) := (blk_cell nb.out 0).trans rfl; have y0 := blk_frozen nb.out 0; have z1 : w6.cell? ⟨wr.heap.size, 1, none⟩ = some (.int .i64 0) := (blk_cell nb.out 1).trans rfl; have y1 := blk_frozen nb.out 1; have z2 : w6.cell? ⟨wr.heap.size, 2, none⟩ = some (Value.slice none 0 0) := (blk_cell nb.out 2).trans rfl; have y2 := blk_frozen nb.out 2; have z3 : w6.cell? ⟨wr.heap.size, 3, none⟩ = some (Value.slice none 0 0) := (blk_cell nb.out 3).trans rfl; have y3 := blk_frozen nb.out 3; have z4 : w6.cell? ⟨wr.heap.size, 4, none⟩ = some (.int .i64 0) := (blk_cell nb.out 4).trans rfl; have y4 := blk_frozen nb.out 4; have zA0 : ∀ o : Obj, (w6.alloc o).cell? ⟨wr.heap.size, 0, none⟩ = some (Value.slice none 0 0) := fun o => (blk_cell (blk_alloc nb.out o) 0).trans rfl; have yA0 : ∀ o : Obj, (w6.alloc o).frozen? ⟨wr.heap.size, 0, none⟩ = false := fun o => blk_frozen (blk_alloc nb.out o) 0; have zA1 : ∀ o : Obj, (w6.alloc o).cell? ⟨wr.heap.size, 1, none⟩ = some (.int .i64 0) := fun o => (blk_cell (blk_alloc nb.out o) 1).trans rfl; have yA1 : ∀ o : Obj, (w6.alloc o).frozen? ⟨wr.heap.size, 1, none⟩ = false := fun o => blk_frozen (blk_alloc nb.out o) 1; have zA2 : ∀ o : Obj, (w6.alloc o).cell? ⟨wr.heap.size, 2, none⟩ = some (Value.slice none 0 0) := fun o => (blk_cell (blk_alloc nb.out o) 2).trans rfl; have yA2 : ∀ o : Obj, (w6.alloc o).frozen? ⟨wr.heap.size, 2, none⟩ = false := fun o => blk_frozen (blk_alloc nb.out o) 2; have zA3 : ∀ o : Obj, (w6.alloc o).cell? ⟨wr.heap.size, 3, none⟩ = some (Value.slice none 0 0) := fun o => (blk_cell (blk_alloc nb.out o) 3).trans rfl; have yA3 : ∀ o : Obj, (w6.alloc o).frozen? ⟨wr.heap.size, 3, none⟩ = false := fun o => blk_frozen (blk_alloc nb.out o) 3; have zA4 : ∀ o : Obj, (w6.alloc o).cell? ⟨wr.heap.size, 4, none⟩ = some (.int .i64 0) := fun o => (blk_cell (blk_alloc nb.out o) 4).trans rfl; have yA4 : ∀ o : Obj, (w6.alloc o).frozen? ⟨wr.heap.size, 4, none⟩ = false := fun o => blk_frozen (blk_alloc nb.out o) 4; have hq : b7 ≠ wr.heap.size := Nat.ne_of_lt (Nat.lt_of_lt_of_le H7 (Nat.le_refl _)); have hq' : wr.heap.size ≠ b7 := Ne.symm hq)); (try ((with_reducible have nb : Aside0 (w6.heap[wr.heap.size]? = some (.cells #[.slice none 0 0, .int .i64 0, .slice none 0 0, .slice none 0 0, .int .i64 0] TR (0, 0))) := ⟨nb_ofD hb6 (blk_alloc (heap_alloc_new wr (.cells #[.slice none 0 0, .int .i64 0, .slice none 0 0, .slice none 0 0, .int .i64 0] TR (0, 0))) (.cells #[.string tg] TS (0, 0)))⟩); have z0 : w6.cell? ⟨wr.heap.size, 0, none⟩ = some (Value.slice none 0 0) := (blk_cell nb.out 0).trans rfl; have y0 := blk_frozen nb.out 0; have z1 : w6.cell? ⟨wr.heap.size, 1, none⟩ = some (.int .i64 0) := (blk_cell nb.out 1).trans rfl; have y1 := blk_frozen nb.out 1; have z2 : w6.cell? ⟨wr.heap.size, 2, none⟩ = some (Value.slice none 0 0) := (blk_cell nb.out 2).trans rfl; have y2 := blk_frozen nb.out 2; have z3 : w6.cell? ⟨wr.heap.size, 3, none⟩ = some (Value.slice none 0 0) := (blk_cell nb.out 3).trans rfl; have y3 := blk_frozen nb.out 3; have z4 : w6.cell? ⟨wr.heap.size, 4, none⟩ = some (.int .i64 0) := (blk_cell nb.out 4).trans rfl; have y4 := blk_frozen nb.out 4; have zA0 : ∀ o : Obj, (w6.alloc o).cell? ⟨wr.heap.size, 0, none⟩ = some (Value.slice none 0 0) := fun o => (blk_cell (blk_alloc nb.out o) 0).trans rfl; have yA0 : ∀ o : Obj, (w6.alloc o).frozen? ⟨wr.heap.size, 0, none⟩ = false := fun o => blk_frozen (blk_alloc nb.out o) 0; have zA1 : ∀ o : Obj, (w6.alloc o).cell? ⟨wr.heap.size, 1, none⟩ = some (.int .i64 0) := fun o => (blk_cell (blk_alloc nb.out o) 1).trans rfl; have yA1 : ∀ o : Obj, (w6.alloc o).frozen? ⟨wr.heap.size, 1, none⟩ = false := fun o => blk_frozen (blk_alloc nb.out o) 1; have zA2 : ∀ o : Obj, (w6.alloc o).cell? ⟨wr.heap.size, 2, none⟩ = some (Value.slice none 0 0) := fun o => (blk_cell (blk_alloc nb.out o) 2).trans rfl; have yA2 : ∀ o : Obj, (w6.alloc o).frozen? ⟨wr.heap.size, 2, none⟩ = false := fun o => blk_frozen (blk_alloc nb.out o) 2; have zA3 : ∀ o : Obj, (w6.alloc o).cell? ⟨wr.heap.size, 3, none⟩ = some (Value.slice none 0 0) := fun o => (blk_cell (blk_alloc nb.out o) 3).trans rfl; have yA3 : ∀ o : Obj, (w6.alloc o).frozen? ⟨wr.heap.size, 3, none⟩ = false := fun o => blk_frozen (blk_alloc nb.out o) 3; have zA4 : ∀ o : Obj, (w6.alloc o).cell? ⟨wr.heap.size, 4, none⟩ = some (.int .i64 0) := fun o => (blk_cell (blk_alloc nb.out o) 4).trans rfl; have yA4 : ∀ o : Obj, (w6.alloc o).frozen? ⟨wr.heap.size, 4, none⟩ = false := fun o => blk_frozen (blk_alloc nb.out o) 4; have hq : b7 ≠ wr.heap.size := Nat.ne_of_lt (Nat.lt_of_lt_of_le H7 (Nat.le_refl _)); have hq' : wr.heap.size ≠ b7 := Ne.symm hq)); (try ((with_reducible have nb : Aside0 (w6.heap[(wr.heap.size + 1)]? = some (.cells #[.slice none 0 0, .int .i64 0, .slice none 0 0, .slice none 0 0, .int .i64 0] TR (0, 0))) := ⟨nb_ofD hb6 (blk_new2 wr (.cells #[.string tg] TS (0, 0)) (.cells #[.slice none 0 0, .int .i64 0, .slice none 0 0, .slice none 0 0, .int .i64 0] TR (0, 0)))⟩); have z0 : w6.cell? ⟨(wr.heap.size + 1), 0, none⟩ = some (Value.slice none 0 0) := (blk_cell nb.out 0).trans rfl; have y0 := blk_frozen nb.out 0; have z1 : w6.cell? ⟨(wr.heap.size + 1), 1, none⟩ = some (.int .i64 0) := (blk_cell nb.out 1).trans rfl; have y1 := blk_frozen nb.out 1; have z2 : w6.cell? ⟨(wr.heap.size + 1), 2, none⟩ = some (Value.slice none 0 0) := (blk_cell nb.out 2).trans rfl; have y2 := blk_frozen nb.out 2; have z3 : w6.cell? ⟨(wr.heap.size + 1), 3, none⟩ = some (Value.slice none 0 0) := (blk_cell nb.out 3).trans rfl; have y3 := blk_frozen nb.out 3; have z4 : w6.cell? ⟨(wr.heap.size + 1), 4, none⟩ = some (.int .i64 0) := (blk_cell nb.out 4).trans rfl; have y4 := blk_frozen nb.out 4; have zA0 : ∀ o : Obj, (w6.alloc o).cell? ⟨(wr.heap.size + 1), 0, none⟩ = some (Value.slice none 0 0) := fun o => (blk_cell (blk_alloc nb.out o) 0).trans rfl; have yA0 : ∀ o : Obj, (w6.alloc o).frozen? ⟨(wr.heap.size + 1), 0, none⟩ = false := fun o => blk_frozen (blk_alloc nb.out o) 0; have zA1 : ∀ o : Obj, (w6.alloc o).cell? ⟨(wr.heap.size + 1), 1, none⟩ = some (.int .i64 0) := fun o => (blk_cell (blk_alloc nb.out o) 1).trans rfl; have yA1 : ∀ o : Obj, (w6.alloc o).frozen? ⟨(wr.heap.size + 1), 1, none⟩ = false := fun o => blk_frozen (blk_alloc nb.out o) 1; have zA2 : ∀ o : Obj, (w6.alloc o).cell? ⟨(wr.heap.size + 1), 2, none⟩ = some (Value.slice none 0 0) := fun o => (blk_cell (blk_alloc nb.out o) 2).trans rfl; have yA2 : ∀ o : Obj, (w6.alloc o).frozen? ⟨(wr.heap.size + 1), 2, none⟩ = false := fun o => blk_frozen (blk_alloc nb.out o) 2; have zA3 : ∀ o : Obj, (w6.alloc o).cell? ⟨(wr.heap.size + 1), 3, none⟩ = some (Value.slice none 0 0) := fun o => (blk_cell (blk_alloc nb.out o) 3).trans rfl; have yA3 : ∀ o : Obj, (w6.alloc o).frozen? ⟨(wr.heap.size + 1), 3, none⟩ = false := fun o => blk_frozen (blk_alloc nb.out o) 3; have zA4 : ∀ o : Obj, (w6.alloc o).cell? ⟨(wr.heap.size + 1), 4, none⟩ = some (.int .i64 0) := fun o => (blk_cell (blk_alloc nb.out o) 4).trans rfl; have yA4 : ∀ o : Obj, (w6.alloc o).frozen? ⟨(wr.heap.size + 1), 4, none⟩ = false := fun o => blk_frozen (blk_alloc nb.out o) 4; have hq : b7 ≠ (wr.heap.size + 1) := Nat.ne_of_lt (Nat.lt_of_lt_of_le H7 (Nat.le_succ _)); have hq' : (wr.heap.size + 1) ≠ b7 := Ne.symm hq)); (try ((with_reducible have nb : Aside0 (w6.heap[w5.heap.size]? = some (.cells #[.slice none 0 0, .int .i64 0, .slice none 0 0, .slice none 0 0, .int .i64 0] TR (0, 0))) := ⟨nb_of hb6 (heap_alloc_new w5 (.cells #[.slice none 0 0, .int .i64 0, .slice none 0 0, .slice none 0 0, .int .i64 0] TR (0, 0)))⟩); have z0 : w6.cell? ⟨w5.heap.size, 0, none⟩ = some (Value.slice none 0 0) := (blk_cell nb.out 0).trans rfl; have y0 := blk_frozen nb.out 0; have z1 : w6.cell? ⟨w5.heap.size, 1, none⟩ = some (.int .i64 0) := (blk_cell nb.out 1).trans rfl; have y1 := blk_frozen nb.out 1; have z2 : w6.cell? ⟨w5.heap.size, 2, none⟩ = some (Value.slice none 0 0) := (blk_cell nb.out 2).trans rfl; have y2 := blk_frozen nb.out 2; have z3 : w6.cell? ⟨w5.heap.size, 3, none⟩ = some (Value.slice none 0 0) := (blk_cell nb.out 3).trans rfl; have y3 := blk_frozen nb.out 3; have z4 : w6.cell? ⟨w5.heap.size, 4, none⟩ = some (.int .i64 0) := (blk_cell nb.out 4).trans rfl; have y4 := blk_frozen nb.out 4; have zA0 : ∀ o : Obj, (w6.alloc o).cell? ⟨w5.heap.size, 0, none⟩ = some (Value.slice none 0 0) := fun o => (blk_cell (blk_alloc nb.out o) 0).trans rfl; have yA0 : ∀ o : Obj, (w6.alloc o).frozen? ⟨w5.heap.size, 0, none⟩ = false := fun o => blk_frozen (blk_alloc nb.out o) 0; have zA1 : ∀ o : Obj, (w6.alloc o).cell? ⟨w5.heap.size, 1, none⟩ = some (.int .i64 0) := fun o => (blk_cell (blk_alloc nb.out o) 1).trans rfl; have yA1 : ∀ o : Obj, (w6.alloc o).frozen? ⟨w5.heap.size, 1, none⟩ = false := fun o => blk_frozen (blk_alloc nb.out o) 1; have zA2 : ∀ o : Obj, (w6.alloc o).cell? ⟨w5.heap.size, 2, none⟩ = some (Value.slice none 0 0) := fun o => (blk_cell (blk_alloc nb.out o) 2).trans rfl; have yA2 : ∀ o : Obj, (w6.alloc o).frozen? ⟨w5.heap.size, 2, none⟩ = false := fun o => blk_frozen (blk_alloc nb.out o) 2; have zA3 : ∀ o : Obj, (w6.alloc o).cell? ⟨w5.heap.size, 3, none⟩ = some (Value.slice none 0 0) := fun o => (blk_cell (blk_alloc nb.out o) 3).trans rfl; have yA3 : ∀ o : Obj, (w6.alloc o).frozen? ⟨w5.heap.size, 3, none⟩ = false := fun o => blk_frozen (blk_alloc nb.out o) 3; have zA4 : ∀ o : Obj, (w6.alloc o).cell? ⟨w5.heap.size, 4, none⟩ = some (.int .i64 0) := fun o => (blk_cell (blk_alloc nb.out o) 4).trans rfl; have yA4 : ∀ o : Obj, (w6.alloc o).frozen? ⟨w5.heap.size, 4, none⟩ = false := fun o => blk_frozen (blk_alloc nb.out o) 4; have hq : b7 ≠ w5.heap.size := Nat.ne_of_lt (Nat.lt_of_lt_of_le H7 hzw5); have hq' : w5.heap.size ≠ b7 := Ne.symm hq)); (try ((with_reducible have nb : Aside0 (w6.heap[w5.heap.size]? = some (.cells #[.slice none 0 0, .int .i64 0, .slice none 0 0, .slice none 0 0, .int .i64 0] TR (0, 0))) := ⟨nb_of hb6 (blk_alloc (heap_alloc_new w5 (.cells #[.slice none 0 0, .int .i64 0, .slice none 0 0, .slice none 0 0, .int .i64 0] TR (0, 0))) (.cells #[.string tg] TS (0, 0)))⟩); have z0 : w6.cell? ⟨w5.heap.size, 0, none⟩ = some (Value.slice none 0 0) := (blk_cell nb.out 0).trans rfl; have y0 := blk_frozen nb.out 0; have z1 : w6.cell? ⟨w5.heap.size, 1, none⟩ = some (.int .i64 0) := (blk_cell nb.out 1).trans rfl; have y1 := blk_frozen nb.out 1; have z2 : w6.cell? ⟨w5.heap.size, 2, none⟩ = some (Value.slice none 0 0) := (blk_cell nb.out 2).trans rfl; have y2 := blk_frozen nb.out 2; have z3 : w6.cell? ⟨w5.heap.size, 3, none⟩ = some (Value.slice none 0 0) := (blk_cell nb.out 3).trans rfl; have y3 := blk_frozen nb.out 3; have z4 : w6.cell? ⟨w5.heap.size, 4, none⟩ = some (.int .i64 0) := (blk_cell nb.out 4).trans rfl; have y4 := blk_frozen nb.out 4; have zA0 : ∀ o : Obj, (w6.alloc o).cell? ⟨w5.heap.size, 0, none⟩ = some (Value.slice none 0 0) := fun o => (blk_cell (blk_alloc nb.out o) 0).trans rfl; have yA0 : ∀ o : Obj, (w6.alloc o).frozen? ⟨w5.heap.size, 0, none⟩ = false := fun o => blk_frozen (blk_alloc nb.out o) 0; have zA1 : ∀ o : Obj, (w6.alloc o).cell? ⟨w5.heap.size, 1, none⟩ = some (.int .i64 0) := fun o => (blk_cell (blk_alloc nb.out o) 1).trans rfl; have yA1 : ∀ o : Obj, (w6.alloc o).frozen? ⟨w5.heap.size, 1, none⟩ = false := fun o => blk_frozen (blk_alloc nb.out o) 1; have zA2 : ∀ o : Obj, (w6.alloc o).cell? ⟨w5.heap.size, 2, none⟩ = some (Value.slice none 0 0) := fun o => (blk_cell (blk_alloc nb.out o) 2).trans rfl; have yA2 : ∀ o : Obj, (w6.alloc o).frozen? ⟨w5.heap.size, 2, none⟩ = false := fun o => blk_frozen (blk_alloc nb.out o) 2; have zA3 : ∀ o : Obj, (w6.alloc o).cell? ⟨w5.heap.size, 3, none⟩ = some (Value.slice none 0 0) := fun o => (blk_cell (blk_alloc nb.out o) 3).trans rfl; have yA3 : ∀ o : Obj, (w6.alloc o).frozen? ⟨w5.heap.size, 3, none⟩ = false := fun o => blk_frozen (blk_alloc nb.out o) 3; have zA4 : ∀ o : Obj, (w6.alloc o).cell? ⟨w5.heap.size, 4, none⟩ = some (.int .i64 0) := fun o => (blk_cell (blk_alloc nb.out o) 4).trans rfl; have yA4 : ∀ o : Obj, (w6.alloc o).frozen? ⟨w5.heap.size, 4, none⟩ = false := fun o => blk_frozen (blk_alloc nb.out o) 4; have hq : b7 ≠ w5.heap.size := Nat.ne_of_lt (Nat.lt_of_lt_of_le H7 hzw5); have hq' : w5.heap.size ≠ b7 := Ne.symm hq)); (try ((with_reducible have nb : Aside0 (w6.heap[(w5.heap.size + 1)]? = some (.cells #[.slice none 0 0, .int .i64 0, .slice none 0 0, .slice none 0 0, .int .i64 0] TR (0, 0))) := ⟨nb_of hb6 (blk_new2 w5 (.cells #[.string tg] TS (0, 0)) (.cells #[.slice none 0 0, .int .i64 0, .slice none 0 0, .slice none 0 0, .int .i64 0] TR (0, 0)))⟩); have z0 : w6.cell? ⟨(w5.heap.size + 1), 0, none⟩ = some (Value.slice none 0 0) := (blk_cell nb.out 0).trans rfl; have y0 := blk_frozen nb.out 0; have z1 : w6.cell? ⟨(w5.heap.size + 1), 1, none⟩ = some (.int .i64 0) := (blk_cell nb.out 1).trans rfl; have y1 := blk_frozen nb.out 1; have z2 : w6.cell? ⟨(w5.heap.size + 1), 2, none⟩ = some (Value.slice none 0 0) := (blk_cell nb.out 2).trans rfl; have y2 := blk_frozen nb.out 2; have z3 : w6.cell? ⟨(w5.heap.size + 1), 3, none⟩ = some (Value.slice none 0 0) := (blk_cell nb.out 3).trans rfl; have y3 := blk_frozen nb.out 3; have z4 : w6.cell? ⟨(w5.heap.size + 1), 4, none⟩ = some (.int .i64 0) := (blk_cell nb.out 4).trans rfl; have y4 := blk_frozen nb.out 4; have zA0 : ∀ o : Obj, (w6.alloc o).cell? ⟨(w5.heap.size + 1), 0, none⟩ = some (Value.slice none 0 0) := fun o => (blk_cell (blk_alloc nb.out o) 0).trans rfl; have yA0 : ∀ o : Obj, (w6.alloc o).frozen? ⟨(w5.heap.size + 1), 0, none⟩ = false := fun o => blk_frozen (blk_alloc nb.out o) 0; have zA1 : ∀ o : Obj, (w6.alloc o).cell? ⟨(w5.heap.size + 1), 1, none⟩ = some (.int .i64 0) := fun o => (blk_cell (blk_alloc nb.out o) 1).trans rfl; have yA1 : ∀ o : Obj, (w6.alloc o).frozen? ⟨(w5.heap.size + 1), 1, none⟩ = false := fun o => blk_frozen (blk_alloc nb.out o) 1; have zA2 : ∀ o : Obj, (w6.alloc o).cell? ⟨(w5.heap.size + 1), 2, none⟩ = some (Value.slice none 0 0) := fun o => (blk_cell (blk_alloc nb.out o) 2).trans rfl; have yA2 : ∀ o : Obj, (w6.alloc o).frozen? ⟨(w5.heap.size + 1), 2, none⟩ = false := fun o => blk_frozen (blk_alloc nb.out o) 2; have zA3 : ∀ o : Obj, (w6.alloc o).cell? ⟨(w5.heap.size + 1), 3, none⟩ = some (Value.slice none 0 0) := fun o => (blk_cell (blk_alloc nb.out o) 3).trans rfl; have yA3 : ∀ o : Obj, (w6.alloc o).frozen? ⟨(w5.heap.size + 1), 3, none⟩ = false := fun o => blk_frozen (blk_alloc nb.out o) 3; have zA4 : ∀ o : Obj, (w6.alloc o).cell? ⟨(w5.heap.size + 1), 4, none⟩ = some (.int .i64 0) := fun o => (blk_cell (blk_alloc nb.out o) 4).trans rfl; have yA4 : ∀ o : Obj, (w6.alloc o).frozen? ⟨(w5.heap.size + 1), 4, none⟩ = false := fun o => blk_frozen (blk_alloc nb.out o) 4; have hq : b7 ≠ (w5.heap.size + 1) := Nat.ne_of_lt (Nat.lt_of_lt_of_le H7 (Nat.le_succ_of_le hzw5)); have hq' : (w5.heap.size + 1) ≠ b7 := Ne.symm hq)); (try ((with_reducible have nb : Aside0 (w6.heap[wr.heap.size]? = some (.cells #[.slice none 0 0, .int .i64 0, .slice none 0 0, .slice none 0 0, .int .i64 0] TR (0, 0))) := ⟨nb_of hb6 nb.out⟩); have z0 : w6.cell? ⟨wr.heap.size, 0, none⟩ = some (Value.slice none 0 0) := (blk_cell nb.out 0).trans rfl; have y0 := blk_frozen nb.out 0; have z1 : w6.cell? ⟨wr.heap.size, 1, none⟩ = some (.int .i64 0) := (blk_cell nb.out 1).trans rfl; have y1 := blk_frozen nb.out 1; have z2 : w6.cell? ⟨wr.heap.size, 2, none⟩ = some (Value.slice none 0 0) := (blk_cell nb.out 2).trans rfl; have y2 := blk_frozen nb.out 2; have z3 : w6.cell? ⟨wr.heap.size, 3, none⟩ = some (Value.slice none 0 0) := (blk_cell nb.out 3).trans rfl; have y3 := blk_frozen nb.out 3; have z4 : w6.cell? ⟨wr.heap.size, 4, none⟩ = some (.int .i64 0) := (blk_cell nb.out 4).trans rfl; have y4 := blk_frozen nb.out 4; have zA0 : ∀ o : Obj, (w6.alloc o).cell? ⟨wr.heap.size, 0, none⟩ = some (Value.slice none 0 0) := fun o => (blk_cell (blk_alloc nb.out o) 0).trans rfl; have yA0 : ∀ o : Obj, (w6.alloc o).frozen? ⟨wr.heap.size, 0, none⟩ = false := fun o => blk_frozen (blk_alloc nb.out o) 0; have zA1 : ∀ o : Obj, (w6.alloc o).cell? ⟨wr.heap.size, 1, none⟩ = some (.int .i64 0) := fun o => (blk_cell (blk_alloc nb.out o) 1).trans rfl; have yA1 : ∀ o : Obj, (w6.alloc o).frozen? ⟨wr.heap.size, 1, none⟩ = false := fun o => blk_frozen (blk_alloc nb.out o) 1; have zA2 : ∀ o : Obj, (w6.alloc o).cell? ⟨wr.heap.size, 2, none⟩ = some (Value.slice none 0 0) := fun o => (blk_cell (blk_alloc nb.out o) 2).trans rfl; have yA2 : ∀ o : Obj, (w6.alloc o).frozen? ⟨wr.heap.size, 2, none⟩ = false := fun o => blk_frozen (blk_alloc nb.out o) 2; have zA3 : ∀ o : Obj, (w6.alloc o).cell? ⟨wr.heap.size, 3, none⟩ = some (Value.slice none 0 0) := fun o => (blk_cell (blk_alloc nb.out o) 3).trans rfl; have yA3 : ∀ o : Obj, (w6.alloc o).frozen? ⟨wr.heap.size, 3, none⟩ = false := fun o => blk_frozen (blk_alloc nb.out o) 3; have zA4 : ∀ o : Obj, (w6.alloc o).cell? ⟨wr.heap.size, 4, none⟩ = some (.int .i64 0) := fun o => (blk_cell (blk_alloc nb.out o) 4).trans rfl; have yA4 : ∀ o : Obj, (w6.alloc o).frozen? ⟨wr.heap.size, 4, none⟩ = false := fun o => blk_frozen (blk_alloc nb.out o) 4; have hq : b7 ≠ wr.heap.size := Nat.ne_of_lt (Nat.lt_of_lt_of_le H7 (Nat.le_refl _)); have hq' : wr.heap.size ≠ b7 := Ne.symm hq)); (try ((with_reducible have nb : Aside0 (w6.heap[wr.heap.size]? = some (.cells #[.slice none 0 0, .int .i64 0, .slice none 0 0, .slice none 0 0, .int .i64 0] TR (0, 0))) := ⟨nb_of hb6 (blk_alloc nb.out (.cells #[.string tg] TS (0, 0)))⟩); have z0 : w6.cell? ⟨wr.heap.size, 0, none⟩ = some (Value.slice none 0 0) := (blk_cell nb.out 0).trans rfl; have y0 := blk_frozen nb.out 0; have z1 : w6.cell? ⟨wr.heap.size, 1, none⟩ = some (.int .i64 0) := (blk_cell nb.out 1).trans rfl; have y1 := blk_frozen nb.out 1; have z2 : w6.cell? ⟨wr.heap.size, 2, none⟩ = some (Value.slice none 0 0) := (blk_cell nb.out 2).trans rfl; have y2 := blk_frozen nb.out 2; have z3 : w6.cell? ⟨wr.heap.size, 3, none⟩ = some (Value.slice none 0 0) := (blk_cell nb.out 3).trans rfl; have y3 := blk_frozen nb.out 3; have z4 : w6.cell? ⟨wr.heap.size, 4, none⟩ = some (.int .i64 0) := (blk_cell nb.out 4).trans rfl; have y4 := blk_frozen nb.out 4; have zA0 : ∀ o : Obj, (w6.alloc o).cell? ⟨wr.heap.size, 0, none⟩ = some (Value.slice none 0 0) := fun o => (blk_cell (blk_alloc nb.out o) 0).trans rfl; have yA0 : ∀ o : Obj, (w6.alloc o).frozen? ⟨wr.heap.size, 0, none⟩ = false := fun o => blk_frozen (blk_alloc nb.out o) 0; have zA1 : ∀ o : Obj, (w6.alloc o).cell? ⟨wr.heap.size, 1, none⟩ = some (.int .i64 0) := fun o => (blk_cell (blk_alloc nb.out o) 1).trans rfl; have yA1 : ∀ o : Obj, (w6.alloc o).frozen? ⟨wr.heap.size, 1, none⟩ = false := fun o => blk_frozen (blk_alloc nb.out o) 1; have zA2 : ∀ o : Obj, (w6.alloc o).cell? ⟨wr.heap.size, 2, none⟩ = some (Value.slice none 0 0) := fun o => (blk_cell (blk_alloc nb.out o) 2).trans rfl; have yA2 : ∀ o : Obj, (w6.alloc o).frozen? ⟨wr.heap.size, 2, none⟩ = false := fun o => blk_frozen (blk_alloc nb.out o) 2; have zA3 : ∀ o : Obj, (w6.alloc o).cell? ⟨wr.heap.size, 3, none⟩ = some (Value.slice none 0 0) := fun o => (blk_cell (blk_alloc nb.out o) 3).trans rfl; have yA3 : ∀ o : Obj, (w6.alloc o).frozen? ⟨wr.heap.size, 3, none⟩ = false := fun o => blk_frozen (blk_alloc nb.out o) 3; have zA4 : ∀ o : Obj, (w6.alloc o).cell? ⟨wr.heap.size, 4, none⟩ = some (.int .i64 0) := fun o => (blk_cell (blk_alloc nb.out o) 4).trans rfl; have yA4 : ∀ o : Obj, (w6.alloc o).frozen? ⟨wr.heap.size, 4, none⟩ = false := fun o => blk_frozen (blk_alloc nb.out o) 4; have hq : b7 ≠ wr.heap.size := Nat.ne_of_lt (Nat.lt_of_lt_of_le H7 (Nat.le_refl _)); have hq' : wr.heap.size ≠ b7 := Ne.symm hq)); (try ((with_reducible have nb : Aside0 (w6.heap[(wr.heap.size + 1)]? = some (.cells #[.slice none 0 0, .int .i64 0, .slice none 0 0, .slice none 0 0, .int .i64 0] TR (0, 0))) := ⟨nb_of hb6 nb.out⟩); have z0 : w6.cell? ⟨(wr.heap.size + 1), 0, none⟩ = some (Value.slice none 0 0) := (blk_cell nb.out 0).trans rfl; have y0 := blk_frozen nb.out 0; have z1 : w6.cell? ⟨(wr.heap.size + 1), 1, none⟩ = some (.int .i64 0) := (blk_cell nb.out 1).trans rfl; have y1 := blk_frozen nb.out 1; have z2 : w6.cell? ⟨(wr.heap.size + 1), 2, none⟩ = some (Value.slice none 0 0) := (blk_cell nb.out 2).trans rfl; have y2 := blk_frozen nb.out 2; have z3 : w6.cell? ⟨(wr.heap.size + 1), 3, none⟩ = some (Value.slice none 0 0) := (blk_cell nb.out 3).trans rfl; have y3 := blk_frozen nb.out 3; have z4 : w6.cell? ⟨(wr.heap.size + 1), 4, none⟩ = some (.int .i64 0) := (blk_cell nb.out 4).trans rfl; have y4 := blk_frozen nb.out 4; have zA0 : ∀ o : Obj, (w6.alloc o).cell? ⟨(wr.heap.size + 1), 0, none⟩ = some (Value.slice none 0 0) := fun o => (blk_cell (blk_alloc nb.out o) 0).trans rfl; have yA0 : ∀ o : Obj, (w6.alloc o).frozen? ⟨(wr.heap.size + 1), 0, none⟩ = false := fun o => blk_frozen (blk_alloc nb.out o) 0; have zA1 : ∀ o : Obj, (w6.alloc o).cell? ⟨(wr.heap.size + 1), 1, none⟩ = some (.int .i64 0) := fun o => (blk_cell (blk_alloc nb.out o) 1).trans rfl; have yA1 : ∀ o : Obj, (w6.alloc o).frozen? ⟨(wr.heap.size + 1), 1, none⟩ = false := fun o => blk_frozen (blk_alloc nb.out o) 1; have zA2 : ∀ o : Obj, (w6.alloc o).cell? ⟨(wr.heap.size + 1), 2, none⟩ = some (Value.slice none 0 0) := fun o => (blk_cell (blk_alloc nb.out o) 2).trans rfl; have yA2 : ∀ o : Obj, (w6.alloc o).frozen? ⟨(wr.heap.size + 1), 2, none⟩ = false := fun o => blk_frozen (blk_alloc nb.out o) 2; have zA3 : ∀ o : Obj, (w6.alloc o).cell? ⟨(wr.heap.size + 1), 3, none⟩ = some (Value.slice none 0 0) := fun o => (blk_cell (blk_alloc nb.out o) 3).trans rfl; have yA3 : ∀ o : Obj, (w6.alloc o).frozen? ⟨(wr.heap.size + 1), 3, none⟩ = false := fun o => blk_frozen (blk_alloc nb.out o) 3; have zA4 : ∀ o : Obj, (w6.alloc o).cell? ⟨(wr.heap.size + 1), 4, none⟩ = some (.int .i64 0) := fun o => (blk_cell (blk_alloc nb.out o) 4).trans rfl; have yA4 : ∀ o : Obj, (w6.alloc o).frozen? ⟨(wr.heap.size + 1), 4, none⟩ = false := fun o => blk_frozen (blk_alloc nb.out o) 4; have hq : b7 ≠ (wr.heap.size + 1) := Nat.ne_of_lt (Nat.lt_of_lt_of_le H7 (Nat.le_succ _)); have hq' : (wr.heap.size + 1) ≠ b7 := Ne.symm hq))))
            all_goals (go_wp2_with (fail); go_meet)
            · have b1 : Below wr.heap.size wr (wr.alloc (.cells #[.string tg] TS (0, 0))).drew := (by with_reducible repeat (first | exact Below.refl _ _ | apply below_alloc | apply pw_below_drewN | apply below_drew1)); have b2 : Below w5.heap.size w5 w5 := (by with_reducible repeat (first | exact Below.refl _ _ | apply below_alloc | apply pw_below_drewN | apply below_drew1)); have b3 : Below w6.heap.size w6 (w6.alloc (.cells #[.slice (some ⟨wr.heap.size, 0, none⟩) 1 1, .int .i64 r.k, .slice As r.s.length cs, .slice Ac r.c.length cc, .int .i64 r.a] TR (0, 0))) := (by with_reducible repeat (first | exact Below.refl _ _ | apply below_alloc | apply pw_below_drewN | apply below_drew1)); have hbz : Below wr.heap.size wr (w6.alloc (.cells #[.slice (some ⟨wr.heap.size, 0, none⟩) 1 1, .int .i64 r.k, .slice As r.s.length cs, .slice Ac r.c.length cc, .int .i64 r.a] TR (0, 0))) := below_step HB.out b3; exact ⟨_, _, _, _, rfl, ⟨fin b1 hb5 b2 hb6 b3 hR2 hR3 (nb_of b3 (nb_of hb6 (nb_of b2 (nb_of hb5 (by exact heap_alloc_new wr (.cells #[.string tg] TS (0, 0))))))) (Or.inl ⟨Nat.le_refl _, by first | (simp; done) | (simp; exact Nat.lt_succ_of_lt (Nat.lt_succ_self _))⟩) (by exact heap_alloc_new w6 (.cells #[.slice (some ⟨wr.heap.size, 0, none⟩) 1 1, .int .i64 r.k, .slice As r.s.length cs, .slice Ac r.c.length cc, .int .i64 r.a] TR (0, 0))) (fun _ _ _ => rfl) hbz (hzw6)⟩⟩
            · have b1 : Below wr.heap.size wr (wr.alloc (.cells #[.string tg] TS (0, 0))).drew := (by with_reducible repeat (first | exact Below.refl _ _ | apply below_alloc | apply pw_below_drewN | apply below_drew1)); have b2 : Below w5.heap.size w5 (w5.alloc (.cells ZC TR (0, 0))) := (by with_reducible repeat (first | exact Below.refl _ _ | apply below_alloc | apply pw_below_drewN | apply below_drew1)); have b3 : Below w6.heap.size w6 w6 := (by with_reducible repeat (first | exact Below.refl _ _ | apply below_alloc | apply pw_below_drewN | apply below_drew1)); have hbz : Below wr.heap.size wr w6 := below_step HB.out b3; have hx : w6.heap[w5.heap.size]? = some (.cells ZC TR (0, 0)) := nb_of b3 (nb_of hb6 (by exact heap_alloc_new w5 (.cells ZC TR (0, 0)))); exact ⟨_, _, _, _, rfl, ⟨fin b1 hb5 b2 hb6 b3 hR2 hR3 (nb_of b3 (nb_of hb6 (nb_of b2 (nb_of hb5 (by exact heap_alloc_new wr (.cells #[.string tg] TS (0, 0))))))) (Or.inl ⟨Nat.le_refl _, by first | (simp; done) | (simp; exact Nat.lt_succ_of_lt (Nat.lt_succ_self _))⟩) (put5 hx _ _ _ _ _) (far5b hx _ _ _ _ _) (below5 hbz (hzw5) _ _ _ _ _) (hzw5)⟩⟩
            · have b1 : Below wr.heap.size wr ((wr.alloc (.cells #[.string tg] TS (0, 0))).alloc (.cells ZC TR (0, 0))).drew := (by with_reducible repeat (first | exact Below.refl _ _ | apply below_alloc | apply pw_below_drewN | apply below_drew1)); have b2 : Below w5.heap.size w5 w5 := (by with_reducible repeat (first | exact Below.refl _ _ | apply below_alloc | apply pw_below_drewN | apply below_drew1)); have b3 : Below w6.heap.size w6 w6 := (by with_reducible repeat (first | exact Below.refl _ _ | apply below_alloc | apply pw_below_drewN | apply below_drew1)); have hbz : Below wr.heap.size wr w6 := below_step HB.out b3; have hx : w6.heap[wr.heap.size + 1]? = some (.cells ZC TR (0, 0)) := nb_of b3 (nb_of hb6 (nb_of b2 (nb_of hb5 (by exact blk_new2 wr (.cells #[.string tg] TS (0, 0)) (.cells ZC TR (0, 0)))))); exact ⟨_, _, _, _, rfl, ⟨fin b1 hb5 b2 hb6 b3 hR2 hR3 (nb_of b3 (nb_of hb6 (nb_of b2 (nb_of hb5 (by exact blk_alloc (heap_alloc_new wr (.cells #[.string tg] TS (0, 0))) (.cells ZC TR (0, 0))))))) (Or.inl ⟨Nat.le_refl _, by first | (simp; done) | (simp; exact Nat.lt_succ_of_lt (Nat.lt_succ_self _))⟩) (put5 hx _ _ _ _ _) (far5b hx _ _ _ _ _) (below5 hbz (Nat.le_succ _) _ _ _ _ _) (Nat.le_succ _)⟩⟩
            · have b1 : Below wr.heap.size wr wr.drew := (by with_reducible repeat (first | exact Below.refl _ _ | apply below_alloc | apply pw_below_drewN | apply below_drew1)); have b2 : Below w5.heap.size w5 (w5.alloc (.cells #[.string tg] TS (0, 0))) := (by with_reducible repeat (first | exact Below.refl _ _ | apply below_alloc | apply pw_below_drewN | apply below_drew1)); have b3 : Below w6.heap.size w6 (w6.alloc (.cells #[.slice (some ⟨w5.heap.size, 0, none⟩) 1 1, .int .i64 r.k, .slice As r.s.length cs, .slice Ac r.c.length cc, .int .i64 r.a] TR (0, 0))) := (by with_reducible repeat (first | exact Below.refl _ _ | apply below_alloc | apply pw_below_drewN | apply below_drew1)); have hbz : Below wr.heap.size wr (w6.alloc (.cells #[.slice (some ⟨w5.heap.size, 0, none⟩) 1 1, .int .i64 r.k, .slice As r.s.length cs, .slice Ac r.c.length cc, .int .i64 r.a] TR (0, 0))) := below_step HB.out b3; exact ⟨_, _, _, _, rfl, ⟨fin b1 hb5 b2 hb6 b3 hR2 hR3 (nb_of b3 (nb_of hb6 (by exact heap_alloc_new w5 (.cells #[.string tg] TS (0, 0))))) (Or.inr (Or.inl ⟨Nat.le_refl _, by first | (simp; done) | (simp; exact Nat.lt_succ_of_lt (Nat.lt_succ_self _))⟩)) (by exact heap_alloc_new w6 (.cells #[.slice (some ⟨w5.heap.size, 0, none⟩) 1 1, .int .i64 r.k, .slice As r.s.length cs, .slice Ac r.c.length cc, .int .i64 r.a] TR (0, 0))) (fun _ _ _ => rfl) hbz (hzw6)⟩⟩
            · have b1 : Below wr.heap.size wr wr.drew := (by with_reducible repeat (first | exact Below.refl _ _ | apply below_alloc | apply pw_below_drewN | apply below_drew1)); have b2 : Below w5.heap.size w5 ((w5.alloc (.cells #[.string tg] TS (0, 0))).alloc (.cells ZC TR (0, 0))) := (by with_reducible repeat (first | exact Below.refl _ _ | apply below_alloc | apply pw_below_drewN | apply below_drew1)); have b3 : Below w6.heap.size w6 w6 := (by with_reducible repeat (first | exact Below.refl _ _ | apply below_alloc | apply pw_below_drewN | apply below_drew1)); have hbz : Below wr.heap.size wr w6 := below_step HB.out b3; have hx : w6.heap[w5.heap.size + 1]? = some (.cells ZC TR (0, 0)) := nb_of b3 (nb_of hb6 (by exact blk_new2 w5 (.cells #[.string tg] TS (0, 0)) (.cells ZC TR (0, 0)))); exact ⟨_, _, _, _, rfl, ⟨fin b1 hb5 b2 hb6 b3 hR2 hR3 (nb_of b3 (nb_of hb6 (by exact blk_alloc (heap_alloc_new w5 (.cells #[.string tg] TS (0, 0))) (.cells ZC TR (0, 0))))) (Or.inr (Or.inl ⟨Nat.le_refl _, by first | (simp; done) | (simp; exact Nat.lt_succ_of_lt (Nat.lt_succ_self _))⟩)) (put5 hx _ _ _ _ _) (far5b hx _ _ _ _ _) (below5 hbz (Nat.le_succ_of_le hzw5) _ _ _ _ _) (Nat.le_succ_of_le hzw5)⟩⟩
            · have b1 : Below wr.heap.size wr wr.drew := (by with_reducible repeat (first | exact Below.refl _ _ | apply below_alloc | apply pw_below_drewN | apply below_drew1)); have b2 : Below w5.heap.size w5 w5 := (by with_reducible repeat (first | exact Below.refl _ _ | apply below_alloc | apply pw_below_drewN | apply below_drew1)); have b3 : Below w6.heap.size w6 ((w6.alloc (.cells #[.string tg] TS (0, 0))).alloc (.cells #[.slice (some ⟨w6.heap.size, 0, none⟩) 1 1, .int .i64 r.k, .slice As r.s.length cs, .slice Ac r.c.length cc, .int .i64 r.a] TR (0, 0))) := (by with_reducible repeat (first | exact Below.refl _ _ | apply below_alloc | apply pw_below_drewN | apply below_drew1)); have hbz : Below wr.heap.size wr ((w6.alloc (.cells #[.string tg] TS (0, 0))).alloc (.cells #[.slice (some ⟨w6.heap.size, 0, none⟩) 1 1, .int .i64 r.k, .slice As r.s.length cs, .slice Ac r.c.length cc, .int .i64 r.a] TR (0, 0))) := below_step HB.out b3; exact ⟨_, _, _, _, rfl, ⟨fin b1 hb5 b2 hb6 b3 hR2 hR3 ((by exact blk_alloc (heap_alloc_new w6 (.cells #[.string tg] TS (0, 0))) (.cells #[.slice (some ⟨w6.heap.size, 0, none⟩) 1 1, .int .i64 r.k, .slice As r.s.length cs, .slice Ac r.c.length cc, .int .i64 r.a] TR (0, 0)))) (Or.inr (Or.inr (Nat.le_refl _))) (by exact blk_new2 w6 (.cells #[.string tg] TS (0, 0)) (.cells #[.slice (some ⟨w6.heap.size, 0, none⟩) 1 1, .int .i64 r.k, .slice As r.s.length cs, .slice Ac r.c.length cc, .int .i64 r.a] TR (0, 0))) (fun _ _ _ => rfl) hbz (Nat.le_succ_of_le hzw6)⟩⟩
            · have b1 : Below wr.heap.size wr wr.drew := (by with_reducible repeat (first | exact Below.refl _ _ | apply below_alloc | apply pw_below_drewN | apply below_drew1)); have b2 : Below w5.heap.size w5 w5 := (by with_reducible repeat (first | exact Below.refl _ _ | apply below_alloc | apply pw_below_drewN | apply below_drew1)); have b3 : Below w6.heap.size w6 ((w6.alloc (.cells #[.slice (some ⟨w6.heap.size + 1, 0, none⟩) 1 1, .int .i64 r.k, .slice As r.s.length cs, .slice Ac r.c.length cc, .int .i64 r.a] TR (0, 0))).alloc (.cells #[.string tg] TS (0, 0))) := (by with_reducible repeat (first | exact Below.refl _ _ | apply below_alloc | apply pw_below_drewN | apply below_drew1)); have hbz : Below wr.heap.size wr ((w6.alloc (.cells #[.slice (some ⟨w6.heap.size + 1, 0, none⟩) 1 1, .int .i64 r.k, .slice As r.s.length cs, .slice Ac r.c.length cc, .int .i64 r.a] TR (0, 0))).alloc (.cells #[.string tg] TS (0, 0))) := below_step HB.out b3; exact ⟨_, _, _, _, rfl, ⟨fin b1 hb5 b2 hb6 b3 hR2 hR3 ((by exact blk_new2 w6 (.cells #[.slice (some ⟨w6.heap.size + 1, 0, none⟩) 1 1, .int .i64 r.k, .slice As r.s.length cs, .slice Ac r.c.length cc, .int .i64 r.a] TR (0, 0)) (.cells #[.string tg] TS (0, 0)))) (Or.inr (Or.inr (Nat.le_succ _))) (by exact blk_alloc (heap_alloc_new w6 (.cells #[.slice (some ⟨w6.heap.size + 1, 0, none⟩) 1 1, .int .i64 r.k, .slice As r.s.length cs, .slice Ac r.c.length cc, .int .i64 r.a] TR (0, 0))) (.cells #[.string tg] TS (0, 0))) (fun _ _ _ => rfl) hbz (hzw6)⟩⟩
            · have b1 : Below wr.heap.size wr wr.drew := (by with_reducible repeat (first | exact Below.refl _ _ | apply below_alloc | apply pw_below_drewN | apply below_drew1)); have b2 : Below w5.heap.size w5 ((w5.alloc (.cells ZC TR (0, 0))).alloc (.cells #[.string tg] TS (0, 0))) := (by with_reducible repeat (first | exact Below.refl _ _ | apply below_alloc | apply pw_below_drewN | apply below_drew1)); have b3 : Below w6.heap.size w6 w6 := (by with_reducible repeat (first | exact Below.refl _ _ | apply below_alloc | apply pw_below_drewN | apply below_drew1)); have hbz : Below wr.heap.size wr w6 := below_step HB.out b3; have hx : w6.heap[w5.heap.size]? = some (.cells ZC TR (0, 0)) := nb_of b3 (nb_of hb6 (by exact blk_alloc (heap_alloc_new w5 (.cells ZC TR (0, 0))) (.cells #[.string tg] TS (0, 0)))); exact ⟨_, _, _, _, rfl, ⟨fin b1 hb5 b2 hb6 b3 hR2 hR3 (nb_of b3 (nb_of hb6 (by exact blk_new2 w5 (.cells ZC TR (0, 0)) (.cells #[.string tg] TS (0, 0))))) (Or.inr (Or.inl ⟨Nat.le_succ _, by first | (simp; done) | (simp; exact Nat.lt_succ_of_lt (Nat.lt_succ_self _))⟩)) (put5 hx _ _ _ _ _) (far5b hx _ _ _ _ _) (below5 hbz (hzw5) _ _ _ _ _) (hzw5)⟩⟩
            · have b1 : Below wr.heap.size wr wr.drew := (by with_reducible repeat (first | exact Below.refl _ _ | apply below_alloc | apply pw_below_drewN | apply below_drew1)); have b2 : Below w5.heap.size w5 (w5.alloc (.cells ZC TR (0, 0))) := (by with_reducible repeat (first | exact Below.refl _ _ | apply below_alloc | apply pw_below_drewN | apply below_drew1)); have b3 : Below w6.heap.size w6 (w6.alloc (.cells #[.string tg] TS (0, 0))) := (by with_reducible repeat (first | exact Below.refl _ _ | apply below_alloc | apply pw_below_drewN | apply below_drew1)); have hbz : Below wr.heap.size wr (w6.alloc (.cells #[.string tg] TS (0, 0))) := below_step HB.out b3; have hx : (w6.alloc (.cells #[.string tg] TS (0, 0))).heap[w5.heap.size]? = some (.cells ZC TR (0, 0)) := nb_of b3 (nb_of hb6 (by exact heap_alloc_new w5 (.cells ZC TR (0, 0)))); exact ⟨_, _, _, _, rfl, ⟨fin b1 hb5 b2 hb6 b3 hR2 hR3 ((by exact heap_alloc_new w6 (.cells #[.string tg] TS (0, 0)))) (Or.inr (Or.inr (Nat.le_refl _))) (put5 hx _ _ _ _ _) (far5b hx _ _ _ _ _) (below5 hbz (hzw5) _ _ _ _ _) (hzw5)⟩⟩
            · have b1 : Below wr.heap.size wr ((wr.alloc (.cells ZC TR (0, 0))).alloc (.cells #[.string tg] TS (0, 0))).drew := (by with_reducible repeat (first | exact Below.refl _ _ | apply below_alloc | apply pw_below_drewN | apply below_drew1)); have b2 : Below w5.heap.size w5 w5 := (by with_reducible repeat (first | exact Below.refl _ _ | apply below_alloc | apply pw_below_drewN | apply below_drew1)); have b3 : Below w6.heap.size w6 w6 := (by with_reducible repeat (first | exact Below.refl _ _ | apply below_alloc | apply pw_below_drewN | apply below_drew1)); have hbz : Below wr.heap.size wr w6 := below_step HB.out b3; have hx : w6.heap[wr.heap.size]? = some (.cells ZC TR (0, 0)) := nb_of b3 (nb_of hb6 (nb_of b2 (nb_of hb5 (by exact blk_alloc (heap_alloc_new wr (.cells ZC TR (0, 0))) (.cells #[.string tg] TS (0, 0)))))); exact ⟨_, _, _, _, rfl, ⟨fin b1 hb5 b2 hb6 b3 hR2 hR3 (nb_of b3 (nb_of hb6 (nb_of b2 (nb_of hb5 (by exact blk_new2 wr (.cells ZC TR (0, 0)) (.cells #[.string tg] TS (0, 0))))))) (Or.inl ⟨Nat.le_succ _, by first | (simp; done) | (simp; exact Nat.lt_succ_of_lt (Nat.lt_succ_self _))⟩) (put5 hx _ _ _ _ _) (far5b hx _ _ _ _ _) (below5 hbz (Nat.le_refl _) _ _ _ _ _) (Nat.le_refl _)⟩⟩
            · have b1 : Below wr.heap.size wr (wr.alloc (.cells ZC TR (0, 0))).drew := (by with_reducible repeat (first | exact Below.refl _ _ | apply below_alloc | apply pw_below_drewN | apply below_drew1)); have b2 : Below w5.heap.size w5 (w5.alloc (.cells #[.string tg] TS (0, 0))) := (by with_reducible repeat (first | exact Below.refl _ _ | apply below_alloc | apply pw_below_drewN | apply below_drew1)); have b3 : Below w6.heap.size w6 w6 := (by with_reducible repeat (first | exact Below.refl _ _ | apply below_alloc | apply pw_below_drewN | apply below_drew1)); have hbz : Below wr.heap.size wr w6 := below_step HB.out b3; have hx : w6.heap[wr.heap.size]? = some (.cells ZC TR (0, 0)) := nb_of b3 (nb_of hb6 (nb_of b2 (nb_of hb5 (by exact heap_alloc_new wr (.cells ZC TR (0, 0)))))); exact ⟨_, _, _, _, rfl, ⟨fin b1 hb5 b2 hb6 b3 hR2 hR3 (nb_of b3 (nb_of hb6 (by exact heap_alloc_new w5 (.cells #[.string tg] TS (0, 0))))) (Or.inr (Or.inl ⟨Nat.le_refl _, by first | (simp; done) | (simp; exact Nat.lt_succ_of_lt (Nat.lt_succ_self _))⟩)) (put5 hx _ _ _ _ _) (far5b hx _ _ _ _ _) (below5 hbz (Nat.le_refl _) _ _ _ _ _) (Nat.le_refl _)⟩⟩
            · have b1 : Below wr.heap.size wr (wr.alloc (.cells ZC TR (0, 0))).drew := (by with_reducible repeat (first | exact Below.refl _ _ | apply below_alloc | apply pw_below_drewN | apply below_drew1)); have b2 : Below w5.heap.size w5 w5 := (by with_reducible repeat (first | exact Below.refl _ _ | apply below_alloc | apply pw_below_drewN | apply below_drew1)); have b3 : Below w6.heap.size w6 (w6.alloc (.cells #[.string tg] TS (0, 0))) := (by with_reducible repeat (first | exact Below.refl _ _ | apply below_alloc | apply pw_below_drewN | apply below_drew1)); have hbz : Below wr.heap.size wr (w6.alloc (.cells #[.string tg] TS (0, 0))) := below_step HB.out b3; have hx : (w6.alloc (.cells #[.string tg] TS (0, 0))).heap[wr.heap.size]? = some (.cells ZC TR (0, 0)) := nb_of b3 (nb_of hb6 (nb_of b2 (nb_of hb5 (by exact heap_alloc_new wr (.cells ZC TR (0, 0)))))); exact ⟨_, _, _, _, rfl, ⟨fin b1 hb5 b2 hb6 b3 hR2 hR3 ((by exact heap_alloc_new w6 (.cells #[.string tg] TS (0, 0)))) (Or.inr (Or.inr (Nat.le_refl _))) (put5 hx _ _ _ _ _) (far5b hx _ _ _ _ _) (below5 hbz (Nat.le_refl _) _ _ _ _ _) (Nat.le_refl _)⟩⟩
          case rest =>
            obtain ⟨g, v0, v2, v3, rfl, HX⟩ := hcut
            have hJx := HT.out.below hB HX.out.bel
            have HJx := Aside0.mk hJx
            obtain ⟨A4, c4, e4⟩ := Kd.R_slice (Kd.S_R hJx.row)
            subst e4
            have hgt := HX.out.ge
            have HBB := Aside0.mk (show B ≤ wr.heap.size by have := HT.out.bel.size; omega)
            have HJ7ne := Aside0.mk (show some b7 ≠ (Value.slice A4 o2.length c4).ownBlock from fun e => by
              obtain ⟨f, h0, _⟩ := HT.out.row
              exact h0 b7 e.symm rfl)
            have hk7 := blk_below HKq.out HX.out.bel
            have HK7x := Aside0.mk hk7
            have HB7 := Aside0.mk (blk_lt HKq.out)
            clear hJx hk7
            have y0 := (blk_cell HX.out.blk 0).trans rfl
            have y1 := (blk_cell HX.out.blk 1).trans rfl
            have y2 := (blk_cell HX.out.blk 2).trans rfl
            have y3 := (blk_cell HX.out.blk 3).trans rfl
            have y4 := (blk_cell HX.out.blk 4).trans rfl
            have hts : tg.size ≤ maxLen := by
              have := (HK.out r HM.out tg HTM.out).1
              simp only [maxLen]; omega
            have HTS := Aside0.mk hts
            clear hts
            have hlk := HJx.out.is tg
            cases hf : find o2 tg with
            | none =>
              rw [hf] at hlk
              have HL2 := Aside0.mk hlk
              have e1 : (MI.look D2 tg).isSome = false := by rw [hlk]; rfl
              have e2 : (MI.look D2 tg).getD 0 = 0 := by rw [hlk]; rfl
              have HF := Aside0.mk hf
              clear hlk hf
              have hN := HJx.out.cnt
              have hNl := wO_len o2
              have hW2 := HWt.out
              have hn2 : Maps.size D2 < maxLen := by simp only [maxLen]; omega
              have hwf := wf_nat o2.length (by omega)
              have hl88 : (o2.length + 1) * 88 ≤ 140737488355328 := by omega
              have HN := Aside0.mk (And.intro hn2 (And.intro hwf hl88))
              clear hN hNl hW2 hn2 hwf hl88
              go_wp2_with (first | (at_lookup; refine MI.wpList_look _ rfl _ _ 53 rfl rfl (B + 1) D2 tg rfl HJx.out.map rfl HTS.out ?_) | (at_mapUpdate; refine MI.wpList_store _ rfl _ _ _ 53 rfl rfl (B + 1) D2 tg (o2.length : Int) rfl HJx.out.map HN.out.1 rfl rfl HTS.out HN.out.2.1 ?_; intro W3 hm3 ht3; have HM3 := Aside0.mk hm3; have HT3 := Aside0.mk ht3; have hb3 := Aside0.mk ((turned_keep ht3 HX.out.blk).trans HX.out.blk); clear hm3 ht3; have y0 := (blk_cell hb3.out 0).trans rfl; have y1 := (blk_cell hb3.out 1).trans rfl; have y2 := (blk_cell hb3.out 2).trans rfl; have y3 := (blk_cell hb3.out 3).trans rfl; have y4 := (blk_cell hb3.out 4).trans rfl; have HK3 := Aside0.mk (show ∀ (k : Nat) (cs : Array Value) (q : TypeId), wc.heap[k]? = some (.cells cs q (0, 0)) → W3.heap[k]? = wc.heap[k]? from fun k cs q hk => turned_keep HT3.out hk); have HZ := Aside0.mk (show wr.heap.size ≤ W3.heap.size from Nat.le_trans HX.out.bel.size HT3.out.grown.size); have HZB := Aside0.mk (Nat.le_trans HBB.out HZ.out); have HB3 := Aside0.mk (HJx.out.bel.grown HT3.out.grown (Nat.le_trans HBB.out HX.out.bel.size) (fun k e => by cases e; exact Nat.le_succ _))) | (at_builtin; refine Kd.S_append kR (w0 := w) (W := W3) B rfl (.tmp 55) (.tmp 57) 33 TR (.agg #[.slice none 0 0, .int .i64 0, .slice none 0 0, .slice none 0 0, .int .i64 0]) 88 rfl Tryd.underlying33 infoR rfl (by decide) (by decide) (.slice A4 o2.length c4) o2 (one r tg) [v0, .int .i64 r.k, v2, v3, .int .i64 r.a] (fun k => k ≠ b7) (fun k => wr.heap.size ≤ k) rfl rfl (HX.out.M HBB.out HK3.out) (fun k hk => ⟨by have := HB7.out; omega, fun e => by have h1 := Kd.S_lt HT.out.row k e.symm; omega⟩) (fun k hk => by have := HB7.out; have := HZ.out; omega) (HT.out.rowW HX.out.bel HK3.out) HB3.out HZB.out HN.out.2.2 ?_; intro v5 w5 hS5 hB5 hg5 hat5) | fail)
              have hJ5 := HJx.out.added HM3.out HT3.out HF.out hS5 hB5 hg5
              have HJ5 := Aside0.mk hJ5
              have HKE := Aside0.mk (show w5.heap[b7]? = _ from (hg5.block b7 (by have := HB7.out; have := HZ.out; omega) (fun e => (HJ7ne.out e))).trans ((turned_keep HT3.out HK7x.out).trans HK7x.out))
              clear hS5 hB5 hg5 hat5 hJ5
              (try simp only [Exit.inBlock, Exit.then])
              (try go_wp2_with (fail))
              go_roundw
              case measure => exact msr HJT.out.1 HJT.out.2
              case rel =>
                refine ⟨j + 1, o2 ++ [one r tg], _, by go_num, (nxt HJT.out.1 HJT.out.2).1, (nxt HJT.out.1 HJT.out.2).2, ⟨?_⟩, HJ5, HKE, ⟨?_⟩⟩
                · rw [HQ.out, HDt'.out, rowJ]
                  simp only [putJ, HF.out, Option.bind_some]
                · have h1 := HOq.out
                  rw [wO_append]
                  have h2 : wO [one r tg] = w1 r := by simp [wO, one, w1]
                  rw [stp HJT.out.1 HJT.out.2] at h1
                  generalize (r.t.length - (j + 1).toNat) * w1 r = X at h1 ⊢
                  generalize r.t.length * w1 r = Y at h1 ⊢
                  omega
            | some i =>
              obtain ⟨wd, rfl⟩ : ∃ w0 : World, w0 = wc := ⟨_, rfl⟩
              rw [hf] at hlk
              have hil := find_lt hf
              have HF := Aside0.mk hf
              rw [Option.map_some] at hlk
              obtain ⟨zi, hzi⟩ : ∃ zi : Int, Int.ofNat i = zi := ⟨_, rfl⟩
              have hzi' : (i : Int) = zi := hzi
              have hz0 : 0 ≤ zi := by omega
              have hz1 : zi < o2.length := by omega
              have hiz : i = zi.toNat := by omega
              rw [hzi] at hlk
              have e1 : (MI.look D2 tg).isSome = true := by rw [hlk]; rfl
              have e2 : (MI.look D2 tg).getD 0 = zi := by rw [hlk]; rfl
              have HI := Aside0.mk (And.intro hiz (And.intro hz0 hz1))
              clear hlk hf hil hzi hzi' hiz
              obtain ⟨ad4, c4', e4⟩ := Kd.R_slice1 (Kd.S_R HJx.out.row) (by have := HI.out; omega)
              obtain ⟨g4, rfl⟩ := Kd.R_head (by have := Kd.S_R HJx.out.row; rw [e4] at this; exact this)
              injection e4 with e4 _ e5
              subst e4
              clear e5
              obtain ⟨oki, cl, hcl, hM, hcc, hfr, hoki, hH⟩ := Kd.S_elem HJx.out.row nil zi HI.out.2.1 HI.out.2.2
              generalize hy : o2.getD zi.toNat nil = y at hM
              obtain ⟨u0, u2, u3, rfl, q0, q2, q3⟩ := hM
              obtain ⟨A6, c6, rfl⟩ := Kd.R_slice q3
              have x1 := hcc 1 _ rfl
              have x3 := hcc 3 _ rfl
              simp only [kR] at x1 x3
              obtain ⟨zc, hzc⟩ := cls_total tg (HK.out r HM.out tg HTM.out).1
              have hcl2 := PK.rule_Class.calls tg zc
              have HZC := Aside0.mk hzc
              have HY := Aside0.mk hy
              clear hcc hfr hoki hH q0 q2 q3 hcl hzc hy
              obtain ⟨A8, c8, rfl⟩ := Kd.R_slice HX.out.r2
              obtain ⟨A9, c9, rfl⟩ := Kd.R_slice HX.out.r3
              go_upto_region 16 with (first | (at_lookup; refine MI.wpList_look _ rfl _ _ 53 rfl rfl (B + 1) D2 tg rfl HJx.out.map rfl HTS.out ?_) | fail)
              go_cut [15] (fun v15 wx => v15 = .bool (tw r y tg) ∧ Aside0 (Below wd.heap.size wd wx))
              case first =>
                by_cases xc : 0 < r.c.length
                · have bx : decide (0 < r.c.length) = true := decide_eq_true xc
                  by_cases yc : 0 < y.c.length
                  · have by1 : decide (0 < y.c.length) = true := decide_eq_true yc
                    by_cases hz0 : zc = 0
                    · have bz : (zc == 0) = true := beq_iff_eq.mpr hz0
                      have HE := Aside0.mk (show tw r y tg = true by rw [tw]; exact decide_eq_true ⟨xc, yc, by rw [cls, HZC.out, hz0]; rfl⟩)
                      clear xc yc hz0
                      go_wp2_with (first | (go_at_call 26; refine (hcl2 _ HZC.out).mono ?_; rintro e w' ⟨rfl, hd⟩; obtain ⟨nd, rfl⟩ := hd.out; clear hd) | fail)
                      go_meet
                      case rel => exact ⟨by rw [HE.out], ⟨pw_below_drewN (Below.refl _ _) _⟩⟩
                    · have bz : (zc == 0) = false := beq_eq_false_iff_ne.mpr hz0
                      have HE := Aside0.mk (show tw r y tg = false by rw [tw]; exact decide_eq_false (fun h => hz0 (by have := h.2.2; rw [cls, HZC.out] at this; simpa using this)))
                      clear xc yc hz0
                      go_wp2_with (first | (go_at_call 26; refine (hcl2 _ HZC.out).mono ?_; rintro e w' ⟨rfl, hd⟩; obtain ⟨nd, rfl⟩ := hd.out; clear hd) | fail)
                      go_meet
                      case rel => exact ⟨by rw [HE.out], ⟨pw_below_drewN (Below.refl _ _) _⟩⟩
                  · have by1 : decide (0 < y.c.length) = false := decide_eq_false yc
                    have HE := Aside0.mk (show tw r y tg = false by rw [tw]; exact decide_eq_false (fun h => yc h.2.1))
                    clear xc yc
                    go_wp2_with (fail)
                    go_meet
                    case rel => exact ⟨by rw [HE.out], ⟨Below.refl _ _⟩⟩
                · have bx : decide (0 < r.c.length) = false := decide_eq_false xc
                  have HE := Aside0.mk (show tw r y tg = false by rw [tw]; exact decide_eq_false (fun h => xc h.1))
                  clear xc
                  go_wp2_with (fail)
                  go_meet
                  case rel => exact ⟨by rw [HE.out], ⟨Below.refl _ _⟩⟩
              case rest =>
                obtain ⟨rfl, HBc⟩ := hcut
                have HJc := Aside0.mk (HJx.out.below hB HBc.out)
                have HXc := Aside0.mk (HX.out.below HBc.out)
                have HKc := Aside0.mk (blk_below HK7x.out HBc.out)
                obtain ⟨oki, u0, u2, u3, hLE⟩ := LE.open_ (HT.out.rowW HXc.out.bel (fun _ _ _ _ => rfl)) HJc.out.fb HJc.out.map ⟨_, HKc.out⟩ HJc.out.bel HI.out.2.1 HI.out.2.2
                rw [HY.out] at hLE
                obtain ⟨A5, c5, e5⟩ := Kd.R_slice hLE.r2
                subst e5
                obtain ⟨A6, c6, e6⟩ := Kd.R_slice hLE.r3
                subst e6
                obtain ⟨x1, x2, x3⟩ := hLE.cells HI.out.2.1 HI.out.2.2
                have fx1 := hLE.frozen (zi.toNat * 5 + 1)
                have fx2 := hLE.frozen (zi.toNat * 5 + 2)
                have fx3 := hLE.frozen (zi.toNat * 5 + 3)
                have HLE := Aside0.mk hLE
                clear hLE
                have y0 := (blk_cell HXc.out.blk 0).trans rfl
                have y1 := (blk_cell HXc.out.blk 1).trans rfl
                have y2 := (blk_cell HXc.out.blk 2).trans rfl
                have y3 := (blk_cell HXc.out.blk 3).trans rfl
                have y4 := (blk_cell HXc.out.blk 4).trans rfl
                have k4 : wc.cell? ⟨b7, 4, none⟩ = some (.int .i64 r.a) := (blk_cell HKc.out 4).trans rfl
                have f0 := blk_cell HJc.out.fb 0
                have f1 := blk_cell HJc.out.fb 1
                have g0 := blk_frozen HJc.out.fb 0
                have g1 := blk_frozen HJc.out.fb 1
                have hB7 : b7 ≠ B := by
                  rintro rfl
                  have h1 := HKc.out
                  rw [HJc.out.fb] at h1
                  injection h1 with h1
                  injection h1 with _ h1
                  exact absurd h1 (by decide)
                have hB7' := Ne.symm hB7
                have HPS := Aside0.mk (put_some (r := r) (y := y) HF.out (by rw [HI.out.1]; exact HY.out))
                have HN := Aside0.mk (show (o2.length + 1) * 88 ≤ 140737488355328 by
                  have h1 := wO_len o2
                  have h2 := HWt.out
                  omega)
                have HFA := Aside0.mk (show putJ o2 r tg = none → answer w (joinJ l []) (.returned (.tuple #[.slice none 0 0, .agg #[.int .i64 14, .int .i64 r.a]])) (((wc.setCell ⟨B, 0, none⟩ (.int .i64 14)).setCell ⟨B, 1, none⟩ (.int .i64 r.a)).drew) from fun hp => by
                  have e : joinJ l [] = .inr r.a := by
                    rw [HJ.out, HD.out, joinJ, HQ.out, HDt'.out, rowJ, hp]
                    rfl
                  rw [e]
                  exact ⟨rfl, by rw [hB]; exact below_drew ((HJc.out.bel.setCell (p := ⟨B, 0, none⟩) (Nat.le_refl _) _).setCell (p := ⟨B, 1, none⟩) (Nat.le_refl _) _)⟩)
                by_cases k3 : r.k = 3
                · have bk : (r.k == 3) = true := beq_iff_eq.mpr k3
                  by_cases yk : y.k = 3
                  · have by_ : (y.k == 3) = true := beq_iff_eq.mpr yk
                    have PS := Aside0.mk (show putJ o2 r tg = some (o2 ++ [one r tg]) by rw [HPS.out, if_pos k3, if_pos yk])
                    clear k3 yk
                    go_wp2_with (first | (at_builtin; refine Kd.S_append kR (w0 := w) (W := wc) B rfl (.tmp 100) (.tmp 102) 33 TR (.agg #[.slice none 0 0, .int .i64 0, .slice none 0 0, .slice none 0 0, .int .i64 0]) 88 rfl Tryd.underlying33 infoR rfl (by decide) (by decide) (.slice (some ⟨g4, 0, none⟩) o2.length c4) o2 (one r tg) [v0, .int .i64 r.k, .slice A8 r.s.length c8, .slice A9 r.c.length c9, .int .i64 r.a] (fun k => k ≠ b7) (fun k => wr.heap.size ≤ k) rfl rfl (HXc.out.M HBB.out (fun _ _ _ _ => rfl)) (fun k hk => ⟨by have := HB7.out; omega, fun e => by have h1 := Kd.S_lt HT.out.row k e.symm; omega⟩) (fun k hk => by have := HB7.out; have := HXc.out.bel.size; omega) (HT.out.rowW HXc.out.bel (fun _ _ _ _ => rfl)) HJc.out.bel (Nat.le_trans HBB.out HXc.out.bel.size) HN.out ?_; intro v5 w5 hS5 hB5 hg5 hat5) | fail)
                    have hJ5 := HJc.out.added2 HF.out hS5 hB5 hg5
                    have HJ5 := Aside0.mk hJ5
                    have HKE := Aside0.mk (show w5.heap[b7]? = _ from (hg5.block b7 (blk_lt HKc.out) (fun e => (HJ7ne.out e))).trans HKc.out)
                    clear hS5 hB5 hg5 hat5 hJ5
                    (try simp only [Exit.inBlock, Exit.then])
                    (try go_wp2_with (fail))
                    go_roundw
                    case measure => exact msr HJT.out.1 HJT.out.2
                    case rel =>
                      refine ⟨j + 1, o2 ++ [one r tg], _, by go_num, (nxt HJT.out.1 HJT.out.2).1, (nxt HJT.out.1 HJT.out.2).2, ⟨?_⟩, HJ5, HKE, ⟨?_⟩⟩
                      · rw [HQ.out, HDt'.out, rowJ, PS.out, Option.bind_some]
                      · have h1 := HOq.out
                        rw [wO_append]
                        have h2 : wO [one r tg] = w1 r := by simp [wO, one, w1]
                        rw [stp HJT.out.1 HJT.out.2] at h1
                        generalize (r.t.length - (j + 1).toNat) * w1 r = X at h1 ⊢
                        generalize r.t.length * w1 r = Y at h1 ⊢
                        omega
                  · have by_ : (y.k == 3) = false := beq_eq_false_iff_ne.mpr yk
                    have PN := Aside0.mk (show putJ o2 r tg = none by rw [HPS.out, if_pos k3, if_neg yk])
                    clear k3 yk
                    go_wp2_with (fail)
                    go_region_held3 (fun w' => w'.cell? ⟨b7, 4, none⟩ = some (.int .i64 r.a)) (first | exact k4 | exact far_2 hB7 k4 _ _ | go_keep) (fail)
                    all_goals
                      (try go_wp2_with (fail))
                      (try simp only [Exit.inBlock, Exit.then])
                      refine bodyPost_ret (v := .tuple #[.slice none 0 0, .agg #[.int .i64 14, .int .i64 r.a]]) (by simp [results, Tryd.results12, go_sem, f0, f1, g0, g1]; try rfl) rfl ?_
                      exact HFA.out PN.out
                · have bk : (r.k == 3) = false := beq_eq_false_iff_ne.mpr k3
                  by_cases yk : y.k = 3
                  · have by_ : (y.k == 3) = true := beq_iff_eq.mpr yk
                    have PN := Aside0.mk (show putJ o2 r tg = none by rw [HPS.out, if_neg k3, if_pos yk])
                    clear k3 yk
                    go_wp2_with (fail)
                    go_region_held3 (fun w' => w'.cell? ⟨b7, 4, none⟩ = some (.int .i64 r.a)) (first | exact k4 | exact far_2 hB7 k4 _ _ | go_keep) (fail)
                    all_goals
                      (try go_wp2_with (fail))
                      (try simp only [Exit.inBlock, Exit.then])
                      refine bodyPost_ret (v := .tuple #[.slice none 0 0, .agg #[.int .i64 14, .int .i64 r.a]]) (by simp [results, Tryd.results12, go_sem, f0, f1, g0, g1]; try rfl) rfl ?_
                      exact HFA.out PN.out
                  · have by_ : (y.k == 3) = false := beq_eq_false_iff_ne.mpr yk
                    by_cases ht : tw r y tg = true
                    · have PN := Aside0.mk (show putJ o2 r tg = none by rw [HPS.out, if_neg k3, if_neg yk, if_pos ht])
                      clear k3 yk
                      go_wp2_with (fail)
                      go_region_held3 (fun w' => w'.cell? ⟨b7, 4, none⟩ = some (.int .i64 r.a)) (first | exact k4 | exact far_2 hB7 k4 _ _ | go_keep) (fail)
                      all_goals
                        (try go_wp2_with (fail))
                        (try simp only [Exit.inBlock, Exit.then])
                        refine bodyPost_ret (v := .tuple #[.slice none 0 0, .agg #[.int .i64 14, .int .i64 r.a]]) (by simp [results, Tryd.results12, go_sem, f0, f1, g0, g1]; try rfl) rfl ?_
                        exact HFA.out PN.out
                    · have PS := Aside0.mk (show putJ o2 r tg = some (o2.set zi.toNat (mrg r y)) by rw [HPS.out, if_neg k3, if_neg yk, if_neg ht, HI.out.1])
                      have ht' : tw r y tg = false := by simpa using ht
                      have HK3 := Aside0.mk k3
                      clear k3 yk ht
                      go_upto_region 22 with (fail)
                      obtain ⟨A8', c8', e8, _, hC8⟩ := Kd.R_reads HXc.out.r2
                      injection e8 with e8 _ e8'
                      subst e8; subst e8'
                      have HC8 := Aside0.mk (show Kd.string.C wc.drew A8 r.s.length r.s from Kd.C_below hC8 (below_drew (Below.refl _ _)))
                      have HLd := Aside0.mk HLE.out.drew
                      have HG4 := Aside0.mk (show some g4 ≠ (Value.slice A5 y.s.length c5).ownBlock from fun e => (HLE.out.ne g4 (HLE.out.r2.1 g4 e.symm).1).1 rfl)
                      have hyb : y.s.length + r.s.length ≤ 100000000000 ∧ y.c.length + r.c.length ≤ 100000000000 := by
                        have h1 := wO_at (out := o2) (i := zi.toNat) (by have := HI.out.2; omega)
                        rw [HY.out] at h1
                        have h2 := HWt.out
                        unfold w1 at h2
                        omega
                      have HLen := Aside0.mk (show (y.s.length + r.s.length) * 16 ≤ 140737488355328 ∧ (y.c.length + r.c.length) * 16 ≤ 140737488355328 by omega)
                      have xv5 := x2
                      have fxv5 := fx2
                      clear hC8 x1 x3 fx1 fx3 hyb
                      obtain ⟨we, rfl⟩ : ∃ w0 : World, w0 = wc := ⟨_, rfl⟩
                      (try go_simp)
                      go_cut [14, 15, 111] (fun v14 v15 v111 wx => ∃ A55 c55, Aside0 (LE B b7 wr.heap.size we.heap.size w we wx g4 o2.length c4 o2 zi oki ⟨y.t, y.k, y.s ++ r.s, y.c, y.a⟩ u0 (.slice A55 (y.s.length + r.s.length) c55) (.slice A6 y.c.length c6)))
                      case first =>
                        go_region_law (first | (refine Kd.R_append_rows_step Kd.string (w0 := w) (W := we.drew) (Rr := Kd.string.K we.drew) B (by rfl) (.tmp 108) (.tmp 110) 22 TS (.string ⟨#[]⟩) 16 (by rfl) Tryd.underlying22 infoS (by rfl) (by decide) (by decide) (Value.slice A5 y.s.length c5) y.s r.s A8 r.s.length c8 (fun k => oki k ∧ some k ≠ u0.ownBlock ∧ some k ≠ (Value.slice A6 y.c.length c6).ownBlock) (fun _ => False) (by rfl) (by rfl) HLd.out.r2 HC8.out (fun _ _ h => h) (fun _ h => h.elim) HLd.out.fresh2 HLd.out.bel HLd.out.size HLen.out.1 ?_; intro v5 w5 hR5 hB5 hg5 hat5; obtain ⟨A55, c55, ev5⟩ := Kd.R_slice hR5; subst ev5; have zv5 := (cell_same (hg5.block g4 HLd.out.lt (fun e => HG4.out e)) (zi.toNat * 5 + 2)).trans xv5; have fzv5 := (frozen_same (hg5.block g4 HLd.out.lt (fun e => HG4.out e)) (zi.toNat * 5 + 2)).trans fxv5))
                        all_goals
                          have hL2 := HLd.out.write2 HI.out.2.1 HI.out.2.2 hR5 hB5 hg5 hat5
                          rw [List.length_append] at hL2
                          have HL2 := Aside0.mk hL2
                          clear hL2 hR5 hB5 hg5 hat5 zv5 fzv5
                          (try go_wp2_with (fail))
                          go_meet
                          case rel => exact ⟨A55, c55, HL2⟩
                      case rest =>
                        obtain ⟨A55, c55, HL2⟩ := hcut
                        clear xv5 fxv5 x2 fx2 HG4 HC8 HLd
                        obtain ⟨x1, x2, x3⟩ := HL2.out.cells HI.out.2.1 HI.out.2.2
                        have fx3 := HL2.out.frozen (zi.toNat * 5 + 3)
                        have hgb := (HL2.out.fr g (okF_not (.inr (.inr (.inr ⟨HXc.out.ge, blk_lt HXc.out.blk⟩))))).trans HXc.out.blk
                        have y0 := (blk_cell hgb 0).trans rfl
                        have y1 := (blk_cell hgb 1).trans rfl
                        have y2 := (blk_cell hgb 2).trans rfl
                        have y3 := (blk_cell hgb 3).trans rfl
                        have y4 := (blk_cell hgb 4).trans rfl
                        go_upto_region 23 with (fail)
                        obtain ⟨A9', c9', e9, _, hC9⟩ := Kd.R_reads (HL2.out.row HXc.out.r3)
                        injection e9 with e9 _ e9'
                        subst e9; subst e9'
                        have HC9 := Aside0.mk (show Kd.string.C wc.drew A9 r.c.length r.c from Kd.C_below hC9 (below_drew (Below.refl _ _)))
                        have HLd := Aside0.mk HL2.out.drew
                        have HG4 := Aside0.mk (show some g4 ≠ (Value.slice A6 y.c.length c6).ownBlock from fun e => (HL2.out.ne g4 (HL2.out.r3.1 g4 e.symm).1).1 rfl)
                        have xv6 := x3
                        have fxv6 := fx3
                        clear hC9 x1 x2 hgb
                        obtain ⟨wf, rfl⟩ : ∃ w0 : World, w0 = wc := ⟨_, rfl⟩
                        (try go_simp)
                        go_cut [121] (fun v121 wx => ∃ A66 c66, Aside0 (LE B b7 wr.heap.size we.heap.size w we wx g4 o2.length c4 o2 zi oki ⟨y.t, y.k, y.s ++ r.s, y.c ++ r.c, y.a⟩ u0 (.slice A55 (y.s.length + r.s.length) c55) (.slice A66 (y.c.length + r.c.length) c66)))
                        case first =>
                          go_region_law (first | (refine Kd.R_append_rows_step Kd.string (w0 := w) (W := wf.drew) (Rr := Kd.string.K wf.drew) B (by rfl) (.tmp 118) (.tmp 120) 22 TS (.string ⟨#[]⟩) 16 (by rfl) Tryd.underlying22 infoS (by rfl) (by decide) (by decide) (Value.slice A6 y.c.length c6) y.c r.c A9 r.c.length c9 (fun k => oki k ∧ some k ≠ u0.ownBlock ∧ some k ≠ (Value.slice A55 (y.s.length + r.s.length) c55).ownBlock) (fun _ => False) (by rfl) (by rfl) HLd.out.r3 HC9.out (fun _ _ h => h) (fun _ h => h.elim) HLd.out.fresh3 HLd.out.bel HLd.out.size HLen.out.2 ?_; intro v6 w6 hR6 hB6 hg6 hat6; obtain ⟨A66, c66, ev6⟩ := Kd.R_slice hR6; subst ev6; have zv6 := (cell_same (hg6.block g4 HLd.out.lt (fun e => HG4.out e)) (zi.toNat * 5 + 3)).trans xv6; have fzv6 := (frozen_same (hg6.block g4 HLd.out.lt (fun e => HG4.out e)) (zi.toNat * 5 + 3)).trans fxv6))
                          all_goals
                            have hL3 := HLd.out.write3 HI.out.2.1 HI.out.2.2 hR6 hB6 hg6 hat6
                            rw [List.length_append] at hL3
                            have HL3 := Aside0.mk hL3
                            clear hL3 hR6 hB6 hg6 hat6 zv6 fzv6
                            (try go_wp2_with (fail))
                            go_meet
                            case rel => exact ⟨A66, c66, HL3⟩
                        case rest =>
                          obtain ⟨A66, c66, HL3⟩ := hcut
                          clear xv6 fxv6 x3 fx3 HG4 HC9 HLd
                          obtain ⟨x1, x2, x3⟩ := HL3.out.cells HI.out.2.1 HI.out.2.2
                          have fx1 := HL3.out.frozen (zi.toNat * 5 + 1)
                          have hgb := (HL3.out.fr g (okF_not (.inr (.inr (.inr ⟨HXc.out.ge, blk_lt HXc.out.blk⟩))))).trans HXc.out.blk
                          have y1 := (blk_cell hgb 1).trans rfl
                          clear hgb x2 x3
                          have HII := Aside0.mk (show zi.toNat < o2.length by have := HI.out.2; omega)
                          by_cases k2 : r.k = 2
                          · have b2 : (r.k == 2) = true := beq_iff_eq.mpr k2
                            have hJ9 := HL3.out.joinedA HI.out.2.1 HI.out.2.2 HJc.out HY.out HII.out k2 HKc.out
                            have HJ9 := Aside0.mk hJ9.1
                            have HK9 := Aside0.mk hJ9.2
                            clear hJ9 k2
                            go_wp2_with (fail)
                            go_roundw
                            case measure => exact msr HJT.out.1 HJT.out.2
                            case rel =>
                              refine ⟨j + 1, o2.set zi.toNat (mrg r y), _, by go_num, (nxt HJT.out.1 HJT.out.2).1, (nxt HJT.out.1 HJT.out.2).2, ⟨?_⟩, HJ9, HK9, ⟨?_⟩⟩
                              · rw [HQ.out, HDt'.out, rowJ, PS.out, Option.bind_some]
                              · have h1 := HOq.out
                                have h2 := wO_set HII.out r
                                rw [HY.out] at h2
                                rw [stp HJT.out.1 HJT.out.2] at h1
                                generalize (r.t.length - (j + 1).toNat) * w1 r = X at h1 ⊢
                                generalize r.t.length * w1 r = Y at h1 ⊢
                                omega
                          · have b2 : (r.k == 2) = false := beq_eq_false_iff_ne.mpr k2
                            have hJ9 := HL3.out.joinedB HJc.out HY.out HII.out k2 HKc.out
                            have HJ9 := Aside0.mk hJ9.1
                            have HK9 := Aside0.mk hJ9.2
                            clear hJ9 k2
                            go_wp2_with (fail)
                            go_roundw
                            case measure => exact msr HJT.out.1 HJT.out.2
                            case rel =>
                              refine ⟨j + 1, o2.set zi.toNat (mrg r y), _, by go_num, (nxt HJT.out.1 HJT.out.2).1, (nxt HJT.out.1 HJT.out.2).2, ⟨?_⟩, HJ9, HK9, ⟨?_⟩⟩
                              · rw [HQ.out, HDt'.out, rowJ, PS.out, Option.bind_some]
                              · have h1 := HOq.out
                                have h2 := wO_set HII.out r
                                rw [HY.out] at h2
                                rw [stp HJT.out.1 HJT.out.2] at h1
                                generalize (r.t.length - (j + 1).toNat) * w1 r = X at h1 ⊢
                                generalize r.t.length * w1 r = Y at h1 ⊢
                                omega
        · have d1 : decide (j < (r.t.length : Int)) = false := decide_eq_false hjt
          have hj : j.toNat = r.t.length := by omega
          have HJE := Aside0.mk hj
          have HZZ := Aside0.mk (And.intro hz0 hlt)
          have hzb : z ≤ 100000000000 := by omega
          clear hj hjt
          go_wp2
          go_roundw
          case measure => exact msr HZZ.out.1 HZZ.out.2
          case rel =>
            refine ⟨z + 1, o2, D2, by go_num, (nxt HZZ.out.1 HZZ.out.2).1, (nxt HZZ.out.1 HZZ.out.2).2, ⟨?_⟩, ⟨⟨Kd.S_mono HT.out.row (fun _ _ => trivial), HT.out.map, HT.out.is, HT.out.cnt, HT.out.fb, HT.out.bel⟩⟩, ⟨?_⟩⟩
            · rw [HJ.out, HD.out, joinJ, HQ.out, HJE.out, List.drop_length, rowJ]
            · have h1 := HOq.out
              have h2 := HO.out
              rw [HJE.out, Nat.sub_self, Nat.zero_mul] at h1
              rw [HD.out, wL_cons] at h2
              generalize r.t.length * w1 r = Y at h1 h2
              omega
    · have d0 : decide (z < (l.length : Int)) = false := decide_eq_false hlt
      have f0 := blk_cell HS.out.fb 0
      have f1 := blk_cell HS.out.fb 1
      have g0 := blk_frozen HS.out.fb 0
      have g1 := blk_frozen HS.out.fb 1
      have hz : z.toNat = l.length := by omega
      have HZE := Aside0.mk hz
      obtain ⟨A4, c4, e4⟩ := Kd.R_slice (Kd.S_R HS.out.row)
      subst e4
      clear hz hlt
      go_wp2
      (try simp only [Exit.inBlock, Exit.then])
      refine bodyPost_ret (v := .tuple #[.slice A4 out.length c4, .agg #[.int .i64 0, .int .i64 0]]) (by simp [results, Tryd.results12, go_sem, f0, f1, g0, g1]; try rfl) rfl ?_
      have e : joinJ l [] = .inl out := by
        rw [HJ.out, HZE.out, List.drop_length]
        rfl
      rw [e]
      refine ⟨_, rfl, ?_, ?_⟩
      · rw [hB]
        have h1 := Kd.R_types (Kd.S_R HS.out.row) HS.out.fb (by decide)
        exact Kd.R_mono (Kd.R_far (p := ⟨B, 1, none⟩) (Kd.R_far (p := ⟨B, 0, none⟩) h1 (fun _ hk => hk.2) _) (fun _ hk => hk.2) _) (fun _ _ => trivial)
      · rw [hB]
        exact (HS.out.bel.setCell (p := ⟨B, 0, none⟩) (Nat.le_refl _) _).setCell (p := ⟨B, 1, none⟩) (Nat.le_refl _) _
end Go.Proofs.YtapfblaejmenlaaDoor.Rj
