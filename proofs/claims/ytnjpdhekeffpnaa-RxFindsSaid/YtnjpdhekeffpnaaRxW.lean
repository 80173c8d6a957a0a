/- The reader of expressions in memory; its small functions walked. -/
import Derived.Test.YtnjpdhekeffpnaaRxP
import Derived.Test.YtnjpdhekeffpnaaWalk
import Derived.Test.YtnjpdhekeffpnaaShelf
import Derived.Test.YtnjpdhekeffpnaaWMore
import Derived.Deep.RegionHeld3
import Derived.Lib.SliceRun
import Derived.WalkSpells
import Derived.Deep.QuietTactic
import Derived.BigQuiet
import Derived.Deep.LoopGhost
set_option linter.unusedVariables false
set_option linter.unusedSimpArgs false
namespace Go.Proofs.Ytnjpdhekeffpnaa.Rx
open Go.RowKit Go.Proofs.YtnjpdhekeffpnaaW.PrintWords Go.Proofs.YtnjpdhekeffpnaaW.PrintLast Go.Proofs.YtnjpdhekeffpnaaW.PrintMore

abbrev TB : Nat := 69
abbrev TS : Nat := 100
abbrev TI : Nat := 3
def wd (m i : Nat) : Int := ((m / 2 ^ (64 * i) % 2 ^ 64 : Nat) : Int)
def stpF (x : Stp) : Int × Int × Int × Int × Int × Int × Int := (x.k, wd x.m 0, wd x.m 1, wd x.m 2, wd x.m 3, x.nx, x.ot)
def kst : Kd Stp := Kd.iso (Kd.pair (Kd.int .i64) (Kd.pair (Kd.int .u64) (Kd.pair (Kd.int .u64) (Kd.pair (Kd.int .u64) (Kd.pair (Kd.int .u64) (Kd.pair (Kd.int .i64) (Kd.int .i64))))))) stpF
def stpC (x : Stp) : List Value := [.int .i64 x.k, .int .u64 (wd x.m 0), .int .u64 (wd x.m 1), .int .u64 (wd x.m 2), .int .u64 (wd x.m 3), .int .i64 x.nx, .int .i64 x.ot]
theorem kst_open {w : World} {x : Stp} {cs : List Value} (h : kst.K w x cs) : cs = stpC x := by
  obtain ⟨_, _, rfl, rfl, ⟨_, _, rfl, rfl, ⟨_, _, rfl, rfl, ⟨_, _, rfl, rfl, ⟨_, _, rfl, rfl, ⟨_, _, rfl, rfl, rfl⟩⟩⟩⟩⟩⟩ := h
  rfl
theorem kst_mk (w : World) (x : Stp) : kst.K w x (stpC x) :=
  ⟨[_], _, rfl, rfl, ⟨[_], _, rfl, rfl, ⟨[_], _, rfl, rfl, ⟨[_], _, rfl, rfl, ⟨[_], _, rfl, rfl, ⟨[_], [_], rfl, rfl, rfl⟩⟩⟩⟩⟩⟩
theorem kst_mkM (w : World) (base : Nat) (ok : Nat → Prop) (x : Stp) : kst.M w base ok x (stpC x) :=
  ⟨[_], _, rfl, rfl, ⟨[_], _, rfl, rfl, ⟨[_], _, rfl, rfl, ⟨[_], _, rfl, rfl, ⟨[_], _, rfl, rfl, ⟨[_], [_], rfl, rfl, rfl⟩⟩⟩⟩⟩⟩

def eW (F : Option (Nat × Nat)) : Int := match F with | none => 0 | some p => (p.1 : Int) + 1
def eA (F : Option (Nat × Nat)) : Int := match F with | none => 0 | some p => (p.2 : Int)
/-- the reader's cells -/
def bC (s : ByteArray) (S : BS) (v : Value) : Array Value := #[.string s, .int .i64 S.at_, .int .i64 0, .int .i64 (eW S.F), .int .i64 (eA S.F), v]
/-- the reader in block b -/
def BAt (w : World) (base b : Nat) (s : ByteArray) (S : BS) : Prop :=
  base ≤ b ∧ ∃ v, w.heap[b]? = some (.cells (bC s S v) TB (0, 0)) ∧ Kd.R kst TS w base (fun _ => True) v S.st
theorem BAt.below {w w' : World} {base b : Nat} {s : ByteArray} {S : BS} (h : BAt w base b s S) (hb : Below w.heap.size w w') : BAt w' base b s S := by
  obtain ⟨h1, v, h2, h3⟩ := h
  exact ⟨h1, v, blk_below h2 hb, Kd.R_below h3 hb⟩
theorem BAt.lt {w : World} {base b : Nat} {s : ByteArray} {S : BS} (h : BAt w base b s S) : b < w.heap.size := by
  obtain ⟨h1, v, h2, h3⟩ := h
  exact blk_lt h2
theorem BAt.base_le {w : World} {base b : Nat} {s : ByteArray} {S : BS} (h : BAt w base b s S) : base ≤ w.heap.size := by
  have := h.lt; have := h.1; omega
/-- what a call of the reader's leaves: all but the reader, its rows of steps, and a row that was handed in -/
structure Fr (base b : Nat) (O : Option Nat) (w w' : World) : Prop where
  below : Below base w w'
  keep : ∀ k, k < w.heap.size → k ≠ b → some k ≠ O → (∀ cells, w.heap[k]? ≠ some (.cells cells TS (0, 0))) → w'.heap[k]? = w.heap[k]?
theorem Fr.grow {base b : Nat} {O : Option Nat} {w w' : World} (h : Fr base b O w w') : w.heap.size ≤ w'.heap.size := h.below.size
theorem Fr.refl (base b : Nat) (O : Option Nat) (w : World) : Fr base b O w w := ⟨Below.refl _ _, fun _ _ _ _ _ => rfl⟩
theorem Fr.of {base b : Nat} {O : Option Nat} {w w' : World} (hb : base ≤ w.heap.size) (h : Below w.heap.size w w') : Fr base b O w w' :=
  ⟨below_then (Below.refl _ _) hb h, fun k hk _ _ _ => h.block k hk⟩
theorem Fr.trans {base b : Nat} {O : Option Nat} {w w1 w2 : World} (h : Fr base b O w w1) (g : Fr base b O w1 w2) : Fr base b O w w2 :=
  ⟨h.below.trans g.below, fun k hk h1 h2 h3 => by
    have e := h.keep k hk h1 h2 h3
    rw [← e]
    exact g.keep k (Nat.lt_of_lt_of_le hk h.below.size) h1 h2 (fun cells => by rw [e]; exact h3 cells)⟩
theorem Fr.wide {base b : Nat} {w w' : World} (h : Fr base b none w w') (O : Option Nat) : Fr base b O w w' := ⟨h.below, fun k hk h1 _ h3 => h.keep k hk h1 (by simp) h3⟩
/-- a row that is new is no row that was there -/
theorem Fr.narrow {base b : Nat} {O : Option Nat} {w w1 w2 : World} (h : Fr base b none w w1) (g : Fr base b O w1 w2) (hO : ∀ k, O = some k → w.heap.size ≤ k) : Fr base b none w w2 :=
  ⟨h.below.trans g.below, fun k hk h1 h2 h3 => by
    have e := h.keep k hk h1 h2 h3
    rw [← e]
    exact g.keep k (Nat.lt_of_lt_of_le hk h.below.size) h1 (fun hx => by have := hO k hx.symm; omega) (fun cells => by rw [e]; exact h3 cells)⟩
theorem Fr.blk {base b : Nat} {O : Option Nat} {w w' : World} (h : Fr base b O w w') {k T : Nat} {cs : Array Value} (hk : w.heap[k]? = some (.cells cs T (0, 0))) (h1 : k ≠ b) (h2 : some k ≠ O) (hT : T ≠ TS) : w'.heap[k]? = some (.cells cs T (0, 0)) := by
  rw [h.keep k (blk_lt hk) h1 h2 (fun cells hx => by rw [hk] at hx; injection hx with hx; injection hx with _ hx; exact hT hx)]
  exact hk
theorem Fr.grown {base b : Nat} {O : Option Nat} {w w' : World} {base2 : Nat} {ok : Nat → Prop} {v : Value} {st : List Stp} (hR : Kd.R kst TS w base2 ok v st) (hB : Below base w w') (hg : ∀ k, k < w.heap.size → some k ≠ v.ownBlock → w'.heap[k]? = w.heap[k]?) : Fr base b O w w' :=
  ⟨hB, fun k hk _ _ h3 => hg k hk (fun e => by
    obtain ⟨_, inner, ho, _⟩ := hR
    obtain ⟨cells, hc⟩ := own_typed ho k e.symm
    exact h3 cells hc)⟩
theorem Fr.set {base b : Nat} {O : Option Nat} {w w' : World} (h : Fr base b O w w') (hb : base ≤ b) (j : Nat) (u : Value) : Fr base b O w (w'.setCell ⟨b, j, none⟩ u) :=
  ⟨h.below.setCell (p := ⟨b, j, none⟩) hb u, fun k hk h1 h2 h3 => (Below.heap_setCell w' ⟨b, j, none⟩ u k h1).trans (h.keep k hk h1 h2 h3)⟩
/-- the ways out of a part -/
def OutsAt (w : World) (base : Nat) (v : Value) (outs : List Nat) : Prop := Kd.R (Kd.int .i64) TI w base (fun _ => True) v (outs.map fun (o : Nat) => (o : Int))
theorem OutsAt.fr {base b base2 : Nat} {O : Option Nat} {w w' : World} {v : Value} {outs : List Nat} (h : OutsAt w base2 v outs) (f : Fr base b O w w') (hb : ∃ cs, w.heap[b]? = some (.cells cs TB (0, 0))) (hO : ∀ k, v.ownBlock = some k → some k ≠ O) : OutsAt w' base2 v outs := by
  obtain ⟨cs, hb⟩ := hb
  obtain ⟨h0, inner, ho, hr⟩ := h
  refine ⟨h0, inner, own_move ho (fun k hk => ?_), hr.imp_ (fun _ _ hp => hp)⟩
  obtain ⟨cells, hc⟩ := own_typed ho k hk
  refine f.keep k (blk_lt hc) ?_ (hO k hk) ?_
  · rintro rfl
    rw [hb] at hc
    injection hc with hc
    injection hc with _ hc
    cases hc
  · intro cells' hx
    rw [hc] at hx
    injection hx with hx
    injection hx with _ hx
    cases hx
theorem OutsAt.below {base : Nat} {w w' : World} {v : Value} {outs : List Nat} (h : OutsAt w base v outs) (hb : Below w.heap.size w w') : OutsAt w' base v outs := Kd.R_below h hb

/-! ### a block of another type is written -/
theorem BAt.other {w : World} {base b : Nat} {s : ByteArray} {S : BS} (h : BAt w base b s S) {p T : Nat} {cs : Array Value} (hp : w.heap[p]? = some (.cells cs T (0, 0))) (hT : T ≠ TS) (hb : p ≠ b) (j : Nat) (u : Value) : BAt (w.setCell ⟨p, j, none⟩ u) base b s S := by
  obtain ⟨h1, v, h2, h3⟩ := h
  refine ⟨h1, v, ?_, Kd.R_mono (Kd.R_far (p := ⟨p, j, none⟩) (Kd.R_types h3 hp (fun q hq => by rcases List.mem_cons.1 hq with rfl | hq; exact fun e => hT e.symm; cases hq)) (fun k hk => hk.2) _) (fun _ _ => trivial)⟩
  rw [Below.heap_setCell w ⟨p, j, none⟩ u b (fun e => hb e.symm)]
  exact h2
theorem OutsAt.other {w : World} {base : Nat} {v : Value} {outs : List Nat} (h : OutsAt w base v outs) {p T : Nat} {cs : Array Value} (hp : w.heap[p]? = some (.cells cs T (0, 0))) (hT : T ≠ TI) (j : Nat) (u : Value) : OutsAt (w.setCell ⟨p, j, none⟩ u) base v outs :=
  Kd.R_mono (Kd.R_far (p := ⟨p, j, none⟩) (Kd.R_types h hp (fun q hq => by rcases List.mem_cons.1 hq with rfl | hq; exact fun e => hT e.symm; cases hq)) (fun k hk => hk.2) _) (fun _ _ => trivial)
theorem Fr.new {base b : Nat} {O : Option Nat} {w w' : World} (h : Fr base b O w w') {p : Nat} (hb : base ≤ w.heap.size) (hp : w.heap.size ≤ p) (j : Nat) (u : Value) : Fr base b O w (w'.setCell ⟨p, j, none⟩ u) :=
  ⟨h.below.setCell (p := ⟨p, j, none⟩) (Nat.le_trans hb hp) u, fun k hk h1 h2 h3 => (Below.heap_setCell w' ⟨p, j, none⟩ u k (by show k ≠ p; omega)).trans (h.keep k hk h1 h2 h3)⟩
/-! ### its cells are written -/
theorem BAt.setAt {w : World} {base b : Nat} {s : ByteArray} {S : BS} (h : BAt w base b s S) (n : Nat) : BAt (w.setCell ⟨b, 1, none⟩ (.int .i64 (n : Int))) base b s ⟨n, S.F, S.st⟩ ∧ Fr base b none w (w.setCell ⟨b, 1, none⟩ (.int .i64 (n : Int))) := by
  obtain ⟨h1, v, h2, h3⟩ := h
  refine ⟨⟨h1, v, ?_, Kd.R_mono (Kd.R_far (p := ⟨b, 1, none⟩) (Kd.R_types h3 h2 (by decide)) (fun k hk => hk.2) _) (fun _ _ => trivial)⟩, ⟨(Below.refl base w).setCell (p := ⟨b, 1, none⟩) h1 _, fun k hk hne _ _ => Below.heap_setCell w ⟨b, 1, none⟩ _ k hne⟩⟩
  simpa [bC] using blk_set h2 1 (.int .i64 (n : Int))
theorem BAt.setF {w : World} {base b : Nat} {s : ByteArray} {S : BS} (h : BAt w base b s S) (e a : Nat) :
    BAt ((w.setCell ⟨b, 3, none⟩ (.int .i64 ((e : Int) + 1))).setCell ⟨b, 4, none⟩ (.int .i64 (a : Int))) base b s ⟨S.at_, some (e, a), S.st⟩ ∧ Fr base b none w ((w.setCell ⟨b, 3, none⟩ (.int .i64 ((e : Int) + 1))).setCell ⟨b, 4, none⟩ (.int .i64 (a : Int))) := by
  obtain ⟨h1, v, h2, h3⟩ := h
  refine ⟨⟨h1, v, ?_, Kd.R_mono (Kd.R_far (p := ⟨b, 4, none⟩) (Kd.R_far (p := ⟨b, 3, none⟩) (Kd.R_types h3 h2 (by decide)) (fun k hk => hk.2) _) (fun k hk => hk.2) _) (fun _ _ => trivial)⟩, ⟨((Below.refl base w).setCell (p := ⟨b, 3, none⟩) h1 _).setCell (p := ⟨b, 4, none⟩) h1 _, fun k hk hne _ _ => (Below.heap_setCell _ ⟨b, 4, none⟩ _ k hne).trans (Below.heap_setCell w ⟨b, 3, none⟩ _ k hne)⟩⟩
  have := blk_set (blk_set h2 3 (.int .i64 ((e : Int) + 1))) 4 (.int .i64 (a : Int))
  simpa [bC, eW, eA] using this
theorem BAt.setSt {w w' : World} {base b : Nat} {s : ByteArray} {S : BS} {st : List Stp} {v' : Value} (h : BAt w base b s S) (hb : w'.heap[b]? = w.heap[b]?) (hR : Kd.R kst TS w' base (fun _ => True) v' st) :
    BAt (w'.setCell ⟨b, 5, none⟩ v') base b s ⟨S.at_, S.F, st⟩ := by
  obtain ⟨h1, v, h2, h3⟩ := h
  rw [← hb] at h2
  refine ⟨h1, v', ?_, Kd.R_mono (Kd.R_far (p := ⟨b, 5, none⟩) (Kd.R_types hR h2 (by decide)) (fun k hk => hk.2) _) (fun _ _ => trivial)⟩
  simpa [bC] using blk_set h2 5 v'

/-! ### peek, wrong -/
theorem below_draws {B : Nat} {w w' : World} (h : Below B w w') (n : Nat) : Below B w (w'.drewN n) := pw_below_drewN h n
theorem bt_u8 (s : ByteArray) (i : Int) : IntKind.u8.wrap (bt s i) = bt s i := by
  have := bt_range s i
  simp [IntKind.wrap, IntKind.bits, IntKind.signed]; omega
set_option maxHeartbeats 4000000 in
set_option maxRecDepth 100000 in
theorem peekW (w : World) (base b : Nat) (s : ByteArray) (S : BS) (h : BAt w base b s S) :
    Calls Try.prog 39 #[.pointer (some ⟨b, 0, none⟩)] w fun e w' => e = .returned (.tuple #[.int .u8 ((peekB s S).getD 0), .bool (peekB s S).isSome]) ∧ Below w.heap.size w w' := by
  have hu69 := Try.underlying69
  have hu26 := Try.underlying26
  obtain ⟨h1, v, h2, h3⟩ := h
  have x0 : w.cell? ⟨b, 0, none⟩ = some (.string s) := (blk_cell h2 0).trans rfl
  have x1 : w.cell? ⟨b, 1, none⟩ = some (.int .i64 S.at_) := (blk_cell h2 1).trans rfl
  have x3 : w.cell? ⟨b, 3, none⟩ = some (.int .i64 (eW S.F)) := (blk_cell h2 3).trans rfl
  have x4 : w.cell? ⟨b, 4, none⟩ = some (.int .i64 (eA S.F)) := (blk_cell h2 4).trans rfl
  clear h3 h2 h1
  obtain ⟨q, hq⟩ : ∃ q, S.at_ = q := ⟨_, rfl⟩
  unfold peekB
  rw [hq] at x1 ⊢
  clear hq
  go_enter Try.func39, Try.ntmps39
  cases hF : S.F with
  | some p =>
    rw [hF] at x3 x4
    have e3 : ((p.1 : Int) + 1 == 0) = false := beq_false_of_ne (by omega)
    unfold eW at x3; unfold eA at x4; dsimp only at x3 x4
    rw [if_neg (by rintro ⟨h, -⟩; cases h)]
    go_wp2_with (fail)
    go_quiet (fail)
    (try go_wp2_with (fail))
    (try simp only [Exit.inBlock, Exit.then])
    refine bodyPost_ret (by simp [results, Try.results39, go_sem]; try rfl) rfl ?_
    exact ⟨rfl, below_draws (Below.refl _ _) _⟩
  | none =>
    rw [hF] at x3 x4
    unfold eW at x3; unfold eA at x4; dsimp only at x3 x4
    by_cases hq : q < s.size
    · have d0 : decide ((s.size : Int) ≤ (q : Int)) = false := decide_eq_false (by omega)
      rw [if_pos ⟨rfl, hq⟩]
      have hi : (q : Int).toNat < s.size := by omega
      have hb : ((s[q]'hq).toNat : Int) = bt s q := bt_at s q hi
      go_wp2_with (fail)
      go_quiet (fail)
      go_wp2_with (fail)
      go_quiet (fail)
      (try go_wp2_with (fail))
      (try simp only [Exit.inBlock, Exit.then])
      refine bodyPost_ret (by simp [results, Try.results39, go_sem]; try rfl) rfl ?_
      exact ⟨by rw [← hb]; rfl, below_draws (below_draws (Below.refl _ _) _) _⟩
    · have d0 : decide ((s.size : Int) ≤ (q : Int)) = true := decide_eq_true (by omega)
      rw [if_neg (by rintro ⟨-, h⟩; exact hq h)]
      go_wp2_with (fail)
      go_quiet (fail)
      (try go_wp2_with (fail))
      (try simp only [Exit.inBlock, Exit.then])
      refine bodyPost_ret (by simp [results, Try.results39, go_sem]; try rfl) rfl ?_
      exact ⟨rfl, below_draws (Below.refl _ _) _⟩
set_option maxHeartbeats 4000000 in
set_option maxRecDepth 100000 in
theorem wrongW (w : World) (base b : Nat) (s : ByteArray) (S : BS) (e a : Nat) (h : BAt w base b s S) :
    Calls Try.prog 24 #[.pointer (some ⟨b, 0, none⟩), .int .i64 ((e : Int) + 1), .int .i64 (a : Int)] w fun r w' => r = .returned (.tuple #[]) ∧ BAt w' base b s (wrongB e a S) ∧ Fr base b none w w' := by
  have hu69 := Try.underlying69
  have hu26 := Try.underlying26
  have HS := Aside0.mk h
  obtain ⟨h1, v, h2, h3⟩ := h
  have x3 : w.cell? ⟨b, 3, none⟩ = some (.int .i64 (eW S.F)) := (blk_cell h2 3).trans rfl
  have x4 : w.cell? ⟨b, 4, none⟩ = some (.int .i64 (eA S.F)) := (blk_cell h2 4).trans rfl
  have f3 := blk_frozen h2 3
  have f4 := blk_frozen h2 4
  clear h3 h2 h1
  go_enter Try.func24, Try.ntmps24
  unfold wrongB
  cases hF : S.F with
  | some p =>
    rw [hF] at x3 x4
    have e3 : ((p.1 : Int) + 1 == 0) = false := beq_false_of_ne (by omega)
    unfold eW at x3; unfold eA at x4; dsimp only at x3 x4
    go_wp2_with (fail)
    (try go_end0)
    exact ⟨rfl, HS.out, Fr.refl _ _ _ _⟩
  | none =>
    rw [hF] at x3 x4
    unfold eW at x3; unfold eA at x4; dsimp only at x3 x4
    go_wp2_with (fail)
    (try go_end0)
    exact ⟨rfl, (HS.out.setF e a).1, (HS.out.setF e a).2⟩
end Go.Proofs.Ytnjpdhekeffpnaa.Rx
