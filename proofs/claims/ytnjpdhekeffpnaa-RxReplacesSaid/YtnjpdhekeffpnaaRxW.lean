/- The reader of expressions in memory; its small functions walked. -/
import Derived.Test.YtnjpdhekeffpnaaRxP
import Derived.Test.YtnjpdhekeffpnaaWalk
import Derived.Test.YtnjpdhekeffpnaaShelf
import Derived.Test.YtnjpdhekeffpnaaWMore
import Derived.Deep.RegionHeld3
import Derived.Lib.SliceRun
import Derived.WalkSpells
import Derived.Deep.QuietTactic
import Derived.BigQuiet
import Derived.Deep.LoopGhost
import Derived.Laws.BitsLemmas
set_option linter.unusedVariables false
set_option linter.unusedSimpArgs false
namespace Go.Proofs.Ytnjpdhekeffpnaa.Rx
open Go.RowKit Go.Proofs.YtnjpdhekeffpnaaW.PrintWords Go.Proofs.YtnjpdhekeffpnaaW.PrintLast Go.Proofs.YtnjpdhekeffpnaaW.PrintMore

abbrev TB : Nat := 69
abbrev TS : Nat := 100
abbrev TI : Nat := 3
def wd (m i : Nat) : Int := ((m / 2 ^ (64 * i) % 2 ^ 64 : Nat) : Int)
def stpF (x : Stp) : Int × Int × Int × Int × Int × Int × Int := (x.k, wd x.m 0, wd x.m 1, wd x.m 2, wd x.m 3, x.nx, x.ot)
def kst : Kd Stp := Kd.iso (Kd.pair (Kd.int .i64) (Kd.pair (Kd.int .u64) (Kd.pair (Kd.int .u64) (Kd.pair (Kd.int .u64) (Kd.pair (Kd.int .u64) (Kd.pair (Kd.int .i64) (Kd.int .i64))))))) stpF
def stpC (x : Stp) : List Value := [.int .i64 x.k, .int .u64 (wd x.m 0), .int .u64 (wd x.m 1), .int .u64 (wd x.m 2), .int .u64 (wd x.m 3), .int .i64 x.nx, .int .i64 x.ot]
theorem kst_open {w : World} {x : Stp} {cs : List Value} (h : kst.K w x cs) : cs = stpC x := by
  obtain ⟨_, _, rfl, rfl, ⟨_, _, rfl, rfl, ⟨_, _, rfl, rfl, ⟨_, _, rfl, rfl, ⟨_, _, rfl, rfl, ⟨_, _, rfl, rfl, rfl⟩⟩⟩⟩⟩⟩ := h
  rfl
theorem kst_mk (w : World) (x : Stp) : kst.K w x (stpC x) :=
  ⟨[_], _, rfl, rfl, ⟨[_], _, rfl, rfl, ⟨[_], _, rfl, rfl, ⟨[_], _, rfl, rfl, ⟨[_], _, rfl, rfl, ⟨[_], [_], rfl, rfl, rfl⟩⟩⟩⟩⟩⟩
theorem kst_mkM (w : World) (base : Nat) (ok : Nat → Prop) (x : Stp) : kst.M w base ok x (stpC x) :=
  ⟨[_], _, rfl, rfl, ⟨[_], _, rfl, rfl, ⟨[_], _, rfl, rfl, ⟨[_], _, rfl, rfl, ⟨[_], _, rfl, rfl, ⟨[_], [_], rfl, rfl, rfl⟩⟩⟩⟩⟩⟩

def eW (F : Option (Nat × Nat)) : Int := match F with | none => 0 | some p => (p.1 : Int) + 1
def eA (F : Option (Nat × Nat)) : Int := match F with | none => 0 | some p => (p.2 : Int)
/-- the reader's cells -/
def bC (s : ByteArray) (S : BS) (v : Value) : Array Value := #[.string s, .int .i64 S.at_, .int .i64 0, .int .i64 (eW S.F), .int .i64 (eA S.F), v]
/-- the reader in block b -/
def BAt (w : World) (base b : Nat) (s : ByteArray) (S : BS) : Prop :=
  base ≤ b ∧ ∃ v, w.heap[b]? = some (.cells (bC s S v) TB (0, 0)) ∧ Kd.R kst TS w base (fun _ => True) v S.st
theorem BAt.below {w w' : World} {base b : Nat} {s : ByteArray} {S : BS} (h : BAt w base b s S) (hb : Below w.heap.size w w') : BAt w' base b s S := by
  obtain ⟨h1, v, h2, h3⟩ := h
  exact ⟨h1, v, blk_below h2 hb, Kd.R_below h3 hb⟩
theorem BAt.lt {w : World} {base b : Nat} {s : ByteArray} {S : BS} (h : BAt w base b s S) : b < w.heap.size := by
  obtain ⟨h1, v, h2, h3⟩ := h
  exact blk_lt h2
theorem BAt.base_le {w : World} {base b : Nat} {s : ByteArray} {S : BS} (h : BAt w base b s S) : base ≤ w.heap.size := by
  have := h.lt; have := h.1; omega
/-- what a call of the reader's leaves: all but the reader, its rows of steps, and a row that was handed in -/
structure Fr (base b : Nat) (O : Option Nat) (w w' : World) : Prop where
  below : Below base w w'
  keep : ∀ k, k < w.heap.size → k ≠ b → some k ≠ O → (∀ cells, w.heap[k]? ≠ some (.cells cells TS (0, 0))) → w'.heap[k]? = w.heap[k]?
theorem Fr.grow {base b : Nat} {O : Option Nat} {w w' : World} (h : Fr base b O w w') : w.heap.size ≤ w'.heap.size := h.below.size
theorem Fr.refl (base b : Nat) (O : Option Nat) (w : World) : Fr base b O w w := ⟨Below.refl _ _, fun _ _ _ _ _ => rfl⟩
theorem Fr.of {base b : Nat} {O : Option Nat} {w w' : World} (hb : base ≤ w.heap.size) (h : Below w.heap.size w w') : Fr base b O w w' :=
  ⟨below_then (Below.refl _ _) hb h, fun k hk _ _ _ => h.block k hk⟩
theorem Fr.trans {base b : Nat} {O : Option Nat} {w w1 w2 : World} (h : Fr base b O w w1) (g : Fr base b O w1 w2) : Fr base b O w w2 :=
  ⟨h.below.trans g.below, fun k hk h1 h2 h3 => by
    have e := h.keep k hk h1 h2 h3
    rw [← e]
    exact g.keep k (Nat.lt_of_lt_of_le hk h.below.size) h1 h2 (fun cells => by rw [e]; exact h3 cells)⟩
theorem Fr.wide {base b : Nat} {w w' : World} (h : Fr base b none w w') (O : Option Nat) : Fr base b O w w' := ⟨h.below, fun k hk h1 _ h3 => h.keep k hk h1 (by simp) h3⟩
/-- a row that is new is no row that was there -/
theorem Fr.narrow {base b : Nat} {O : Option Nat} {w w1 w2 : World} (h : Fr base b none w w1) (g : Fr base b O w1 w2) (hO : ∀ k, O = some k → w.heap.size ≤ k) : Fr base b none w w2 :=
  ⟨h.below.trans g.below, fun k hk h1 h2 h3 => by
    have e := h.keep k hk h1 h2 h3
    rw [← e]
    exact g.keep k (Nat.lt_of_lt_of_le hk h.below.size) h1 (fun hx => by have := hO k hx.symm; omega) (fun cells => by rw [e]; exact h3 cells)⟩
theorem Fr.blk {base b : Nat} {O : Option Nat} {w w' : World} (h : Fr base b O w w') {k T : Nat} {cs : Array Value} (hk : w.heap[k]? = some (.cells cs T (0, 0))) (h1 : k ≠ b) (h2 : some k ≠ O) (hT : T ≠ TS) : w'.heap[k]? = some (.cells cs T (0, 0)) := by
  rw [h.keep k (blk_lt hk) h1 h2 (fun cells hx => by rw [hk] at hx; injection hx with hx; injection hx with _ hx; exact hT hx)]
  exact hk
theorem Fr.grown {base b : Nat} {O : Option Nat} {w w' : World} {base2 : Nat} {ok : Nat → Prop} {v : Value} {st : List Stp} (hR : Kd.R kst TS w base2 ok v st) (hB : Below base w w') (hg : ∀ k, k < w.heap.size → some k ≠ v.ownBlock → w'.heap[k]? = w.heap[k]?) : Fr base b O w w' :=
  ⟨hB, fun k hk _ _ h3 => hg k hk (fun e => by
    obtain ⟨_, inner, ho, _⟩ := hR
    obtain ⟨cells, hc⟩ := own_typed ho k e.symm
    exact h3 cells hc)⟩
theorem Fr.set {base b : Nat} {O : Option Nat} {w w' : World} (h : Fr base b O w w') (hb : base ≤ b) (j : Nat) (u : Value) : Fr base b O w (w'.setCell ⟨b, j, none⟩ u) :=
  ⟨h.below.setCell (p := ⟨b, j, none⟩) hb u, fun k hk h1 h2 h3 => (Below.heap_setCell w' ⟨b, j, none⟩ u k h1).trans (h.keep k hk h1 h2 h3)⟩
/-- the ways out of a part -/
def OutsAt (w : World) (base : Nat) (v : Value) (outs : List Nat) : Prop := Kd.R (Kd.int .i64) TI w base (fun _ => True) v (outs.map fun (o : Nat) => (o : Int))
theorem OutsAt.fr {base b base2 : Nat} {O : Option Nat} {w w' : World} {v : Value} {outs : List Nat} (h : OutsAt w base2 v outs) (f : Fr base b O w w') (hb : ∃ cs, w.heap[b]? = some (.cells cs TB (0, 0))) (hO : ∀ k, v.ownBlock = some k → some k ≠ O) : OutsAt w' base2 v outs := by
  obtain ⟨cs, hb⟩ := hb
  obtain ⟨h0, inner, ho, hr⟩ := h
  refine ⟨h0, inner, own_move ho (fun k hk => ?_), hr.imp_ (fun _ _ hp => hp)⟩
  obtain ⟨cells, hc⟩ := own_typed ho k hk
  refine f.keep k (blk_lt hc) ?_ (hO k hk) ?_
  · rintro rfl
    rw [hb] at hc
    injection hc with hc
    injection hc with _ hc
    cases hc
  · intro cells' hx
    rw [hc] at hx
    injection hx with hx
    injection hx with _ hx
    cases hx
theorem OutsAt.below {base : Nat} {w w' : World} {v : Value} {outs : List Nat} (h : OutsAt w base v outs) (hb : Below w.heap.size w w') : OutsAt w' base v outs := Kd.R_below h hb

/-! ### a block of another type is written -/
theorem BAt.other {w : World} {base b : Nat} {s : ByteArray} {S : BS} (h : BAt w base b s S) {p T : Nat} {cs : Array Value} (hp : w.heap[p]? = some (.cells cs T (0, 0))) (hT : T ≠ TS) (hb : p ≠ b) (j : Nat) (u : Value) : BAt (w.setCell ⟨p, j, none⟩ u) base b s S := by
  obtain ⟨h1, v, h2, h3⟩ := h
  refine ⟨h1, v, ?_, Kd.R_mono (Kd.R_far (p := ⟨p, j, none⟩) (Kd.R_types h3 hp (fun q hq => by rcases List.mem_cons.1 hq with rfl | hq; exact fun e => hT e.symm; cases hq)) (fun k hk => hk.2) _) (fun _ _ => trivial)⟩
  rw [Below.heap_setCell w ⟨p, j, none⟩ u b (fun e => hb e.symm)]
  exact h2
theorem OutsAt.other {w : World} {base : Nat} {v : Value} {outs : List Nat} (h : OutsAt w base v outs) {p T : Nat} {cs : Array Value} (hp : w.heap[p]? = some (.cells cs T (0, 0))) (hT : T ≠ TI) (j : Nat) (u : Value) : OutsAt (w.setCell ⟨p, j, none⟩ u) base v outs :=
  Kd.R_mono (Kd.R_far (p := ⟨p, j, none⟩) (Kd.R_types h hp (fun q hq => by rcases List.mem_cons.1 hq with rfl | hq; exact fun e => hT e.symm; cases hq)) (fun k hk => hk.2) _) (fun _ _ => trivial)
theorem Fr.new {base b : Nat} {O : Option Nat} {w w' : World} (h : Fr base b O w w') {p : Nat} (hb : base ≤ w.heap.size) (hp : w.heap.size ≤ p) (j : Nat) (u : Value) : Fr base b O w (w'.setCell ⟨p, j, none⟩ u) :=
  ⟨h.below.setCell (p := ⟨p, j, none⟩) (Nat.le_trans hb hp) u, fun k hk h1 h2 h3 => (Below.heap_setCell w' ⟨p, j, none⟩ u k (by show k ≠ p; omega)).trans (h.keep k hk h1 h2 h3)⟩
/-! ### its cells are written -/
theorem BAt.setAt {w : World} {base b : Nat} {s : ByteArray} {S : BS} (h : BAt w base b s S) (n : Nat) : BAt (w.setCell ⟨b, 1, none⟩ (.int .i64 (n : Int))) base b s ⟨n, S.F, S.st⟩ ∧ Fr base b none w (w.setCell ⟨b, 1, none⟩ (.int .i64 (n : Int))) := by
  obtain ⟨h1, v, h2, h3⟩ := h
  refine ⟨⟨h1, v, ?_, Kd.R_mono (Kd.R_far (p := ⟨b, 1, none⟩) (Kd.R_types h3 h2 (by decide)) (fun k hk => hk.2) _) (fun _ _ => trivial)⟩, ⟨(Below.refl base w).setCell (p := ⟨b, 1, none⟩) h1 _, fun k hk hne _ _ => Below.heap_setCell w ⟨b, 1, none⟩ _ k hne⟩⟩
  simpa [bC] using blk_set h2 1 (.int .i64 (n : Int))
theorem BAt.setF {w : World} {base b : Nat} {s : ByteArray} {S : BS} (h : BAt w base b s S) (e a : Nat) :
    BAt ((w.setCell ⟨b, 3, none⟩ (.int .i64 ((e : Int) + 1))).setCell ⟨b, 4, none⟩ (.int .i64 (a : Int))) base b s ⟨S.at_, some (e, a), S.st⟩ ∧ Fr base b none w ((w.setCell ⟨b, 3, none⟩ (.int .i64 ((e : Int) + 1))).setCell ⟨b, 4, none⟩ (.int .i64 (a : Int))) := by
  obtain ⟨h1, v, h2, h3⟩ := h
  refine ⟨⟨h1, v, ?_, Kd.R_mono (Kd.R_far (p := ⟨b, 4, none⟩) (Kd.R_far (p := ⟨b, 3, none⟩) (Kd.R_types h3 h2 (by decide)) (fun k hk => hk.2) _) (fun k hk => hk.2) _) (fun _ _ => trivial)⟩, ⟨((Below.refl base w).setCell (p := ⟨b, 3, none⟩) h1 _).setCell (p := ⟨b, 4, none⟩) h1 _, fun k hk hne _ _ => (Below.heap_setCell _ ⟨b, 4, none⟩ _ k hne).trans (Below.heap_setCell w ⟨b, 3, none⟩ _ k hne)⟩⟩
  have := blk_set (blk_set h2 3 (.int .i64 ((e : Int) + 1))) 4 (.int .i64 (a : Int))
  simpa [bC, eW, eA] using this
theorem BAt.setSt {w w' : World} {base b : Nat} {s : ByteArray} {S : BS} {st : List Stp} {v' : Value} (h : BAt w base b s S) (hb : w'.heap[b]? = w.heap[b]?) (hR : Kd.R kst TS w' base (fun _ => True) v' st) :
    BAt (w'.setCell ⟨b, 5, none⟩ v') base b s ⟨S.at_, S.F, st⟩ := by
  obtain ⟨h1, v, h2, h3⟩ := h
  rw [← hb] at h2
  refine ⟨h1, v', ?_, Kd.R_mono (Kd.R_far (p := ⟨b, 5, none⟩) (Kd.R_types hR h2 (by decide)) (fun k hk => hk.2) _) (fun _ _ => trivial)⟩
  simpa [bC] using blk_set h2 5 v'

/-! ### peek, wrong -/
theorem below_draws {B : Nat} {w w' : World} (h : Below B w w') (n : Nat) : Below B w (w'.drewN n) := pw_below_drewN h n
theorem bt_u8 (s : ByteArray) (i : Int) : IntKind.u8.wrap (bt s i) = bt s i := by
  have := bt_range s i
  simp [IntKind.wrap, IntKind.bits, IntKind.signed]; omega
set_option maxHeartbeats 4000000 in
set_option maxRecDepth 100000 in
theorem peekW (w : World) (base b : Nat) (s : ByteArray) (S : BS) (h : BAt w base b s S) :
    Calls Try.prog 39 #[.pointer (some ⟨b, 0, none⟩)] w fun e w' => e = .returned (.tuple #[.int .u8 ((peekB s S).getD 0), .bool (peekB s S).isSome]) ∧ Below w.heap.size w w' := by
  have hu69 := Try.underlying69
  have hu26 := Try.underlying26
  obtain ⟨h1, v, h2, h3⟩ := h
  have x0 : w.cell? ⟨b, 0, none⟩ = some (.string s) := (blk_cell h2 0).trans rfl
  have x1 : w.cell? ⟨b, 1, none⟩ = some (.int .i64 S.at_) := (blk_cell h2 1).trans rfl
  have x3 : w.cell? ⟨b, 3, none⟩ = some (.int .i64 (eW S.F)) := (blk_cell h2 3).trans rfl
  have x4 : w.cell? ⟨b, 4, none⟩ = some (.int .i64 (eA S.F)) := (blk_cell h2 4).trans rfl
  clear h3 h2 h1
  obtain ⟨q, hq⟩ : ∃ q, S.at_ = q := ⟨_, rfl⟩
  unfold peekB
  rw [hq] at x1 ⊢
  clear hq
  go_enter Try.func39, Try.ntmps39
  cases hF : S.F with
  | some p =>
    rw [hF] at x3 x4
    have e3 : ((p.1 : Int) + 1 == 0) = false := beq_false_of_ne (by omega)
    unfold eW at x3; unfold eA at x4; dsimp only at x3 x4
    rw [if_neg (by rintro ⟨h, -⟩; cases h)]
    go_wp2_with (fail)
    go_quiet (fail)
    (try go_wp2_with (fail))
    (try simp only [Exit.inBlock, Exit.then])
    refine bodyPost_ret (by simp [results, Try.results39, go_sem]; try rfl) rfl ?_
    exact ⟨rfl, below_draws (Below.refl _ _) _⟩
  | none =>
    rw [hF] at x3 x4
    unfold eW at x3; unfold eA at x4; dsimp only at x3 x4
    by_cases hq : q < s.size
    · have d0 : decide ((s.size : Int) ≤ (q : Int)) = false := decide_eq_false (by omega)
      rw [if_pos ⟨rfl, hq⟩]
      have hi : (q : Int).toNat < s.size := by omega
      have hb : ((s[q]'hq).toNat : Int) = bt s q := bt_at s q hi
      go_wp2_with (fail)
      go_quiet (fail)
      go_wp2_with (fail)
      go_quiet (fail)
      (try go_wp2_with (fail))
      (try simp only [Exit.inBlock, Exit.then])
      refine bodyPost_ret (by simp [results, Try.results39, go_sem]; try rfl) rfl ?_
      exact ⟨by rw [← hb]; rfl, below_draws (below_draws (Below.refl _ _) _) _⟩
    · have d0 : decide ((s.size : Int) ≤ (q : Int)) = true := decide_eq_true (by omega)
      rw [if_neg (by rintro ⟨-, h⟩; exact hq h)]
      go_wp2_with (fail)
      go_quiet (fail)
      (try go_wp2_with (fail))
      (try simp only [Exit.inBlock, Exit.then])
      refine bodyPost_ret (by simp [results, Try.results39, go_sem]; try rfl) rfl ?_
      exact ⟨rfl, below_draws (Below.refl _ _) _⟩
set_option maxHeartbeats 4000000 in
set_option maxRecDepth 100000 in
theorem wrongW (w : World) (base b : Nat) (s : ByteArray) (S : BS) (e a : Nat) (h : BAt w base b s S) :
    Calls Try.prog 24 #[.pointer (some ⟨b, 0, none⟩), .int .i64 ((e : Int) + 1), .int .i64 (a : Int)] w fun r w' => r = .returned (.tuple #[]) ∧ BAt w' base b s (wrongB e a S) ∧ Fr base b none w w' := by
  have hu69 := Try.underlying69
  have hu26 := Try.underlying26
  have HS := Aside0.mk h
  obtain ⟨h1, v, h2, h3⟩ := h
  have x3 : w.cell? ⟨b, 3, none⟩ = some (.int .i64 (eW S.F)) := (blk_cell h2 3).trans rfl
  have x4 : w.cell? ⟨b, 4, none⟩ = some (.int .i64 (eA S.F)) := (blk_cell h2 4).trans rfl
  have f3 := blk_frozen h2 3
  have f4 := blk_frozen h2 4
  clear h3 h2 h1
  go_enter Try.func24, Try.ntmps24
  unfold wrongB
  cases hF : S.F with
  | some p =>
    rw [hF] at x3 x4
    have e3 : ((p.1 : Int) + 1 == 0) = false := beq_false_of_ne (by omega)
    unfold eW at x3; unfold eA at x4; dsimp only at x3 x4
    go_wp2_with (fail)
    (try go_end0)
    exact ⟨rfl, HS.out, Fr.refl _ _ _ _⟩
  | none =>
    rw [hF] at x3 x4
    unfold eW at x3; unfold eA at x4; dsimp only at x3 x4
    go_wp2_with (fail)
    (try go_end0)
    exact ⟨rfl, (HS.out.setF e a).1, (HS.out.setF e a).2⟩
end Go.Proofs.Ytnjpdhekeffpnaa.Rx
set_option linter.unusedVariables false
set_option linter.unusedSimpArgs false
namespace Go.Proofs.Ytnjpdhekeffpnaa.Rx
open Go.RowKit Go.Proofs.YtnjpdhekeffpnaaW.PrintWords Go.Proofs.YtnjpdhekeffpnaaW.PrintLast Go.Proofs.YtnjpdhekeffpnaaW.PrintMore

theorem infoT : (Try.prog.info? 100).map (fun i => (i.zero, i.size, i.bytes)) = some (some (.agg #[.int .i64 0, .int .u64 0, .int .u64 0, .int .u64 0, .int .u64 0, .int .i64 0, .int .i64 0]), 7, 56) := by kernel_rfl
def stpV (x : Stp) : Value := .agg #[.int .i64 x.k, .int .u64 (wd x.m 0), .int .u64 (wd x.m 1), .int .u64 (wd x.m 2), .int .u64 (wd x.m 3), .int .i64 x.nx, .int .i64 x.ot]
set_option maxHeartbeats 8000000 in
set_option maxRecDepth 100000 in
theorem addW (w : World) (base b : Nat) (s : ByteArray) (S : BS) (x : Stp) (h : BAt w base b s S) (hl : S.st.length ≤ 1000000) :
    Calls Try.prog 40 #[.pointer (some ⟨b, 0, none⟩), stpV x] w fun r w' => r = .returned (.int .i64 (S.st.length : Int)) ∧ BAt w' base b s (addB x S) ∧ Fr base b none w w' := by
  have hu69 := Try.underlying69
  have hu100 := Try.underlying100
  have HS := Aside0.mk h
  obtain ⟨xk, xm, xn, xo⟩ := x
  unfold stpV
  dsimp only
  obtain ⟨a1, ha1⟩ : ∃ a, wd xm 0 = a := ⟨_, rfl⟩
  obtain ⟨a2, ha2⟩ : ∃ a, wd xm 1 = a := ⟨_, rfl⟩
  obtain ⟨a3, ha3⟩ : ∃ a, wd xm 2 = a := ⟨_, rfl⟩
  obtain ⟨a4, ha4⟩ : ∃ a, wd xm 3 = a := ⟨_, rfl⟩
  have HA := Aside0.mk (show stpC ⟨xk, xm, xn, xo⟩ = [.int .i64 xk, .int .u64 a1, .int .u64 a2, .int .u64 a3, .int .u64 a4, .int .i64 xn, .int .i64 xo] by rw [stpC, ha1, ha2, ha3, ha4])
  rw [ha1, ha2, ha3, ha4]
  clear ha1 ha2 ha3 ha4
  go_enter Try.func40, Try.ntmps40
  go_wp2_with (first | ((with_reducible refine gate_dst (N := 3) rfl ?_); (try (refine gate_guard (by rfl) ?_; dsimp only)); refine box_event ?hg (N := 3) ?hd (cs := #[.int .i64 xk, .int .u64 a1, .int .u64 a2, .int .u64 a3, .int .u64 a4, .int .i64 xn, .int .i64 xo]) (t := 100) ?hr ?_; (case hd => rfl); (case hg => rfl); (case hr => first | (go_simp; done) | (go_simp; rfl)); intro q eq wq hq lq; have Eq := Aside0.mk eq; clear eq))
  obtain ⟨h1, v, h2, h3⟩ := HS.out.below lq
  obtain ⟨A0, c0, rfl⟩ := Kd.R_slice h3
  have x5 : wq.cell? ⟨b, 5, none⟩ = some (.slice A0 S.st.length c0) := (blk_cell h2 5).trans rfl
  have f5 := blk_frozen h2 5
  have hbw := blk_lt h2
  have hbs : base ≤ wq.heap.size := by omega
  have y0 : wq.cell? ⟨q, 0, none⟩ = some (.int .i64 xk) := (blk_cell hq 0).trans rfl
  have y1 : wq.cell? ⟨q, 1, none⟩ = some (.int .u64 a1) := (blk_cell hq 1).trans rfl
  have y2 : wq.cell? ⟨q, 2, none⟩ = some (.int .u64 a2) := (blk_cell hq 2).trans rfl
  have y3 : wq.cell? ⟨q, 3, none⟩ = some (.int .u64 a3) := (blk_cell hq 3).trans rfl
  have y4 : wq.cell? ⟨q, 4, none⟩ = some (.int .u64 a4) := (blk_cell hq 4).trans rfl
  have y5 : wq.cell? ⟨q, 5, none⟩ = some (.int .i64 xn) := (blk_cell hq 5).trans rfl
  have y6 : wq.cell? ⟨q, 6, none⟩ = some (.int .i64 xo) := (blk_cell hq 6).trans rfl
  have hR := Aside0.mk h3
  have hQ := Aside0.mk h2
  have HL := Aside0.mk lq
  clear h3 h2 h1 h lq
  go_region_law (first | (refine Kd.R_append_step kst (w0 := wq) base (by rfl) (.tmp 9) (.tmp 11) 56 100 (.agg #[.int .i64 0, .int .u64 0, .int .u64 0, .int .u64 0, .int .u64 0, .int .i64 0, .int .i64 0]) 56 (by rfl) Try.underlying56 infoT (by rfl) (by decide) (by decide) (.slice A0 S.st.length c0) S.st ⟨xk, xm, xn, xo⟩ [.int .i64 xk, .int .u64 a1, .int .u64 a2, .int .u64 a3, .int .u64 a4, .int .i64 xn, .int .i64 xo] (fun _ => True) (fun _ => False) (by rfl) (by rfl) (by rw [← HA.out]; exact kst_mkM _ _ _ _) (fun _ hk => hk.elim) (fun _ _ => trivial) (Kd.R_below hR.out (below_drew (Below.refl _ _))) (below_drew (Below.refl _ _)) (by exact hbs) (by omega) ?_; intro v5 w5 hR5 hB5 hg5 hat5; obtain ⟨A5, c5, e5⟩ := Kd.R_slice hR5; subst e5; have hk5 : w5.heap[b]? = some (.cells (bC s S (.slice A0 S.st.length c0)) TB (0, 0)) := (hg5.block b (by exact hbw) (Kd.R_ne hR.out hQ.out (by decide))).trans hQ.out; have z5 : w5.cell? ⟨b, 5, none⟩ = some (.slice A0 S.st.length c0) := (blk_cell hk5 5).trans rfl; have g5 := blk_frozen hk5 5) | fail)
  all_goals
    have hS6 := BAt.setSt (HS.out.below HL.out) (hk5.trans hQ.out.symm) hR5
    rw [List.length_append, List.length_singleton] at hS6
    have hF6 := ((Fr.of (b := b) (O := none) HS.out.base_le HL.out).trans (Fr.grown hR.out hB5 (fun k hk hne => hg5.block k hk hne))).set HS.out.1 5 (.slice A5 (S.st.length + 1) c5)
    go_wp2_with (fail)
    go_ret
    exact ⟨rfl, hS6, hF6⟩
end Go.Proofs.Ytnjpdhekeffpnaa.Rx
set_option linter.unusedVariables false
set_option linter.unusedSimpArgs false
namespace Go.Proofs.Ytnjpdhekeffpnaa.Rx
open Go.RowKit Go.Proofs.YtnjpdhekeffpnaaW.PrintWords Go.Proofs.YtnjpdhekeffpnaaW.PrintLast Go.Proofs.YtnjpdhekeffpnaaW.PrintMore

theorem wraps_i64 (n : Int) (h₀ : 0 ≤ n) (h₁ : n < 2 ^ 62) : IntKind.i64.wrap n = n := by rw [IntKind.wrap_i64]; omega
theorem i64_and1 (x : Nat) (h : x < 2 ^ 62) : bits .and .i64 (x : Int) 1 = ((x % 2 : Nat) : Int) := by
  have := bits_mask .i64 62 (by decide) wraps_i64 1 (by decide) (x : Int) (by omega) (by omega)
  rw [show ((2 : Int) ^ 1 - 1) = 1 by decide] at this
  rw [this]; omega
theorem kst_cells {w : World} {g n : Nat} {l : List Stp} (h : Kd.C kst w (some ⟨g, 0, none⟩) n l) (j : Nat) (hj : j < l.length) : ∀ q u, (stpC l[j])[q]? = some u → w.cell? ⟨g, (j : Int).toNat * kst.sz + q, none⟩ = some u := by
  have hn := h.1
  obtain ⟨ad, e, hc⟩ := h.2.2 (by omega)
  obtain ⟨c, _, hk, hcell⟩ := hc j l[j] (List.getElem?_eq_getElem hj)
  injection e with e
  subst e
  rw [kst_open hk] at hcell
  intro q u hq
  have := hcell q u hq
  rw [Int.toNat_natCast]
  rw [add_plain] at this
  exact this
theorem kst_M5 (w : World) (base : Nat) (ok : Nat → Prop) (x : Stp) (n : Nat) : kst.M w base ok (⟨x.k, x.m, n, x.ot⟩ : Stp) ((stpC x).take 5 ++ [.int .i64 (n : Int)] ++ (stpC x).drop (5 + [Value.int .i64 (n : Int)].length)) := kst_mkM w base ok (⟨x.k, x.m, n, x.ot⟩ : Stp)
theorem kst_M6 (w : World) (base : Nat) (ok : Nat → Prop) (x : Stp) (n : Nat) : kst.M w base ok (⟨x.k, x.m, x.nx, n⟩ : Stp) ((stpC x).take 6 ++ [.int .i64 (n : Int)] ++ (stpC x).drop (6 + [Value.int .i64 (n : Int)].length)) := kst_mkM w base ok (⟨x.k, x.m, x.nx, n⟩ : Stp)
theorem kst_sz : kst.sz = 7 := rfl
theorem kst_le5 (n : Int) : 5 + [Value.int .i64 n].length ≤ kst.sz := by rw [kst_sz]; simp
theorem kst_le6 (n : Int) : 6 + [Value.int .i64 n].length ≤ kst.sz := by rw [kst_sz]; simp
theorem kst_off (j m : Nat) : j * 7 + m = (j : Int).toNat * kst.sz + m := by rw [Int.toNat_natCast, kst_sz]
theorem kst_cl (x : Stp) : (stpC x).length = kst.sz := rfl
theorem set1_0 (o j next : Nat) (st : List Stp) (hj : j < st.length) (ho : o = 2 * j + 0) : st.set j ⟨st[j].k, st[j].m, next, st[j].ot⟩ = set1 st o next := by
  unfold set1
  have e1 : o / 2 = j := by omega
  have e2 : ¬ o % 2 = 1 := by omega
  simp only [if_neg e2, e1]
  apply List.ext_getElem (by simp)
  intro i h1 h2
  rw [List.getElem_set, List.getElem_modify]
  by_cases h : j = i
  · subst h; simp
  · rw [if_neg h, if_neg h]
theorem set1_1 (o j next : Nat) (st : List Stp) (hj : j < st.length) (ho : o = 2 * j + 1) : st.set j ⟨st[j].k, st[j].m, st[j].nx, next⟩ = set1 st o next := by
  unfold set1
  have e1 : o / 2 = j := by omega
  have e2 : o % 2 = 1 := by omega
  simp only [if_pos e2, e1]
  apply List.ext_getElem (by simp)
  intro i h1 h2
  rw [List.getElem_set, List.getElem_modify]
  by_cases h : j = i
  · subst h; simp
  · rw [if_neg h, if_neg h]
theorem patch_step {wr w6 : World} {base b : Nat} {s : ByteArray} {S : BS} {st st' : List Stp} {v : Value} {g5 : Nat} {outs0 : List Nat} {next0 : Nat} (hB : BAt wr base b s (patchB outs0 next0 S)) (hb : wr.heap[b]? = some (.cells (bC s (patchB outs0 next0 S) v) TB (0, 0))) (hR : Kd.R kst TS wr base (fun _ => True) v st) (hR6 : Kd.R kst TS w6 base (fun _ => True) v st') (hB6 : Below base wr w6) (hg : wr.grownBy w6 (some g5)) (outs : List Nat) (next : Nat) (e : st' = patchL outs next S.st) (hv : v.ownBlock = some g5) :
    BAt w6 base b s (patchB outs next S) ∧ Fr base b none wr w6 := by
  have hne := Kd.R_ne hR hb (by decide)
  rw [hv] at hne
  have hk := hg.block b (blk_lt hb) hne
  refine ⟨⟨hB.1, v, ?_, ?_⟩, Fr.grown hR hB6 (fun k hk1 hk2 => hg.block k hk1 (by rw [hv] at hk2; exact hk2))⟩
  · rw [hk]; exact hb
  · show Kd.R kst TS w6 base (fun _ => True) v (patchL outs next S.st)
    rw [← e]; exact hR6
set_option maxHeartbeats 8000000 in
set_option maxRecDepth 100000 in
theorem patchW (w : World) (base base2 b : Nat) (s : ByteArray) (S : BS) (p0 : Nat) (vo : Value) (outs : List Nat) (next : Nat) (h : BAt w base b s S) (ho : OutsAt w base2 vo outs) (hv : ∀ o ∈ outs, o / 2 < S.st.length) (hl : S.st.length ≤ 1000000) :
    Calls Try.prog 52 #[.pointer (some ⟨b, 0, none⟩), .agg #[.int .i64 (p0 : Int), vo], .int .i64 (next : Int)] w fun r w' => r = .returned (.tuple #[]) ∧ BAt w' base b s (patchB outs next S) ∧ Fr base b none w w' := by
  have hu69 := Try.underlying69
  have hu100 := Try.underlying100
  have hu72 := Try.underlying72
  have HS := Aside0.mk h
  have HO := Aside0.mk ho
  have HV := Aside0.mk hv
  obtain ⟨Ao, co, rfl⟩ := Kd.R_slice ho
  rw [List.length_map] at HO ⊢
  obtain ⟨n, hn⟩ : ∃ n, outs.length = n := ⟨_, rfl⟩
  rw [hn] at HO ⊢
  clear h ho hv
  go_enter Try.func52, Try.ntmps52
  go_wp2_with (first | ((with_reducible refine gate_dst (N := 4) rfl ?_); (try (refine gate_guard (by rfl) ?_; dsimp only)); refine box_event ?hg (N := 4) ?hd (cs := #[.int .i64 (p0 : Int), .slice Ao n co]) (t := 72) ?hr ?_; (case hd => rfl); (case hg => rfl); (case hr => first | (go_simp; done) | (go_simp; rfl)); intro q eq wq hq lq; have Eq := Aside0.mk eq; clear eq; have q0 : wq.cell? ⟨q, 0, none⟩ = some (.int .i64 (p0 : Int)) := (blk_cell hq 0).trans rfl; have q1 : wq.cell? ⟨q, 1, none⟩ = some (.slice Ao n co) := (blk_cell hq 1).trans rfl; have fq0 := blk_frozen hq 0; have fq1 := blk_frozen hq 1) | fail)
  have HB1 := Aside0.mk (HS.out.below lq)
  have HF1 := Aside0.mk (Fr.of (b := b) (O := none) HS.out.base_le lq)
  have HO1 := Aside0.mk (HO.out.below lq)
  have hnn : n ≤ 9223372036854775807 := by have := (Kd.R_reads' HO.out).2.2.2.1; rw [List.length_map] at this; omega
  have HN := Aside0.mk hn
  clear lq hq q0 q1 fq0 fq1 HO HS hn
  go_loopg [12] (n + 1) (fun kq v12 wr => ∃ (i : Nat), v12 = .int .i64 (i : Int) ∧ Aside0 (i + kq = n + 1) ∧ Aside0 (BAt wr base b s (patchB (outs.take i) next S)) ∧ Aside0 (Fr base b none w wr) ∧ Aside0 (OutsAt wr base2 (.slice Ao n co) outs))
  case atStart => exact ⟨0, rfl, ⟨by omega⟩, HB1, HF1, HO1⟩
  case round =>
    obtain ⟨i, rfl, HI, HB, HF, HO⟩ := hrel
    by_cases hi : i < n
    · obtain ⟨k1, rfl⟩ : ∃ k1, gk = k1 + 1 := ⟨gk - 1, by have := HI.out; omega⟩
      have d0 : decide ((i : Int) < (n : Int)) = true := decide_eq_true (by omega)
      have d1 : decide ((0 : Int) ≤ (i : Int)) = true := decide_eq_true (by omega)
      have hio : i < outs.length := by have := HN.out; omega
      obtain ⟨-, -, hC⟩ := Kd.R_reads' HO.out
      obtain ⟨ad, eA, hcells⟩ := hC.2.2 (by simp; omega)
      obtain ⟨cc, _, hk, hcell⟩ := hcells i (outs[i] : Int) (by rw [List.getElem?_map, List.getElem?_eq_getElem hio]; rfl)
      have hcj := hcell 0 (.int .i64 (outs[i] : Int)) (by rw [show cc = [.int .i64 (outs[i] : Int)] from hk]; rfl)
      have hcj2 : World.cell? wr (ad.add i) = some (.int .i64 (outs[i] : Int)) := by simpa [Kd.int, Kd.scalar] using hcj
      have hvo := HV.out outs[i] (List.getElem_mem hio)
      have etk : outs.take (i + 1) = outs.take i ++ [outs[i]] := List.take_succ_eq_append_getElem hio
      have ePL : patchL (outs.take (i + 1)) next S.st = set1 (patchL (outs.take i) next S.st) outs[i] next := by rw [etk, patchL, List.foldl_append]; rfl
      have hlen := patchL_len (outs.take i) next S.st
      obtain ⟨o, hoo⟩ : ∃ o, outs[i] = o := ⟨_, rfl⟩
      rw [hoo] at hcj2 hvo ePL
      obtain ⟨hb1, v, hb2, hR⟩ := HB.out
      change Kd.R kst TS wr base (fun _ => True) v (patchL (outs.take i) next S.st) at hR
      obtain ⟨st, hst⟩ : ∃ st, patchL (outs.take i) next S.st = st := ⟨_, rfl⟩
      rw [hst] at hR ePL hlen
      have hpos : 0 < st.length := by omega
      obtain ⟨g5, c5, e5, -⟩ := Kd.R_form hR hpos
      subst e5
      have x5 : wr.cell? ⟨b, 5, none⟩ = some (.slice (some ⟨g5, 0, none⟩) st.length c5) := (blk_cell hb2 5).trans (by rfl)
      obtain ⟨j, r, hr2, ej⟩ : ∃ j r, r < 2 ∧ o = 2 * j + r := ⟨o / 2, o % 2, by omega, by omega⟩
      have hjl : j < st.length := by omega
      subst eA
      have k1' : (o : Int) / 2 = (j : Int) := by omega
      have k2' : bits .and .i64 (o : Int) 1 = (r : Int) := by rw [i64_and1 o (by omega)]; omega
      have hji : (j : Int) < (st.length : Int) := by omega
      have hj0 : (0 : Int) ≤ (j : Int) := by omega
      have HQ := Aside0.mk (⟨ePL, ej, hjl, hlen⟩ : patchL (outs.take (i + 1)) next S.st = set1 st o next ∧ o = 2 * j + r ∧ ∃ _ : j < st.length, st.length = S.st.length)
      have HR := Aside0.mk hR
      have HB2 := Aside0.mk hb2
      clear hcj hk hcells hC hcell hoo etk hst hR hb2 hvo ePL ej hlen hpos
      rcases (show r = 0 ∨ r = 1 by omega) with rfl | rfl
      · go_wp2_with (first | ((with_reducible refine gate_store (p := 33) rfl ?_); refine Kd.R_store kst (w0 := wr) base rfl rfl 3 (.tmp 33) (.tmp 31) rfl 100 (g := g5) (n := st.length) (cap := c5) (j : Int) 5 st (⟨st[j].k, st[j].m, next, st[j].ot⟩ : Stp) (.int .i64 (next : Int)) [.int .i64 (next : Int)] (stpC st[j]) (fun _ => True) (fun _ => False) rfl ?sB rfl rfl ?sT ?s1 ?sO (Int.natCast_nonneg _) ?sI (kst_cl _) ?sC (kst_le5 _) ?sM (fun _ hk => hk.elim) ?sW ?_; (case sB => exact kst_off j 5); (case sT => kernel_rfl); (case s1 => simp [Value.oneCell']); (case sO => exact HR.out); (case sI => exact hji); (case sC => exact kst_cells (Kd.R_reads' HR.out).2.2 j hjl); (case sM => exact kst_M5 _ _ _ _ _); (case sW => exact Below.refl _ _); intro w6 hR6 hB6 hg6; rw [Int.toNat_natCast] at hR6) | fail)
        have hP := patch_step HB.out HB2.out HR.out hR6 hB6 hg6 (outs.take (i + 1)) next (by rw [HQ.out.1]; exact set1_0 o j next st hjl HQ.out.2.1) rfl
        have HO6 := Aside0.mk (HO.out.fr hP.2 ⟨_, HB2.out⟩ (fun _ _ => by simp))
        have HB6 := Aside0.mk hP.1
        have HF6 := Aside0.mk (HF.out.trans hP.2)
        clear hP hR6 hB6 hg6 x5 hcj2
        go_roundg k1
        case measure => have := HI.out; omega
        case rel => exact ⟨i + 1, by first | rfl | simp, ⟨by have := HI.out; omega⟩, HB6, HF6, HO6⟩
      · go_wp2_with (first | ((with_reducible refine gate_store (p := 29) rfl ?_); refine Kd.R_store kst (w0 := wr) base rfl rfl 3 (.tmp 29) (.tmp 27) rfl 100 (g := g5) (n := st.length) (cap := c5) (j : Int) 6 st (⟨st[j].k, st[j].m, st[j].nx, next⟩ : Stp) (.int .i64 (next : Int)) [.int .i64 (next : Int)] (stpC st[j]) (fun _ => True) (fun _ => False) rfl ?sB rfl rfl ?sT ?s1 ?sO (Int.natCast_nonneg _) ?sI (kst_cl _) ?sC (kst_le6 _) ?sM (fun _ hk => hk.elim) ?sW ?_; (case sB => exact kst_off j 6); (case sT => kernel_rfl); (case s1 => simp [Value.oneCell']); (case sO => exact HR.out); (case sI => exact hji); (case sC => exact kst_cells (Kd.R_reads' HR.out).2.2 j hjl); (case sM => exact kst_M6 _ _ _ _ _); (case sW => exact Below.refl _ _); intro w6 hR6 hB6 hg6; rw [Int.toNat_natCast] at hR6) | fail)
        have hP := patch_step HB.out HB2.out HR.out hR6 hB6 hg6 (outs.take (i + 1)) next (by rw [HQ.out.1]; exact set1_1 o j next st hjl HQ.out.2.1) rfl
        have HO6 := Aside0.mk (HO.out.fr hP.2 ⟨_, HB2.out⟩ (fun _ _ => by simp))
        have HB6 := Aside0.mk hP.1
        have HF6 := Aside0.mk (HF.out.trans hP.2)
        clear hP hR6 hB6 hg6 x5 hcj2
        go_roundg k1
        case measure => have := HI.out; omega
        case rel => exact ⟨i + 1, by first | rfl | simp, ⟨by have := HI.out; omega⟩, HB6, HF6, HO6⟩
    · have d0 : decide ((i : Int) < (n : Int)) = false := decide_eq_false (by omega)
      have hB := HB.out
      rw [List.take_of_length_le (by have := HN.out; omega)] at hB
      have HB7 := Aside0.mk hB
      clear hB
      go_wp2_with (fail)
      (try go_end0)
      exact ⟨rfl, HB7.out, HF.out⟩
end Go.Proofs.Ytnjpdhekeffpnaa.Rx
set_option linter.unusedVariables false
set_option linter.unusedSimpArgs false
namespace Go.Proofs.Ytnjpdhekeffpnaa.Rx
open Go.RowKit Go.Proofs.YtnjpdhekeffpnaaW.PrintWords Go.Proofs.YtnjpdhekeffpnaaW.PrintLast Go.Proofs.YtnjpdhekeffpnaaW.PrintMore

abbrev TE : Nat := 98
def sC (m : Nat) : Array Value := #[.int .u64 (wd m 0), .int .u64 (wd m 1), .int .u64 (wd m 2), .int .u64 (wd m 3)]
theorem wraps_u64 (n : Int) (h₀ : 0 ≤ n) (h₁ : n < 2 ^ 64) : IntKind.u64.wrap n = n := by simp [IntKind.wrap, IntKind.bits, IntKind.signed]; omega
theorem wd_nn (m i : Nat) : 0 ≤ wd m i := Int.natCast_nonneg _
theorem wd_lt (m i : Nat) : wd m i < 2 ^ 64 := by
  unfold wd
  have : m / 2 ^ (64 * i) % 2 ^ 64 < 2 ^ 64 := Nat.mod_lt _ (by decide)
  exact_mod_cast this
theorem wd_test (m i j : Nat) (hj : j < 64) : (m / 2 ^ (64 * i) % 2 ^ 64).testBit j = m.testBit (64 * i + j) := by
  rw [Nat.testBit_mod_two_pow, Nat.testBit_div_two_pow, decide_eq_true hj, Bool.true_and, Nat.add_comm]
theorem i64_and63 (x : Nat) (h : x < 2 ^ 62) : bits .and .i64 (x : Int) 63 = ((x % 64 : Nat) : Int) := by
  have := bits_mask .i64 62 (by decide) wraps_i64 6 (by decide) (x : Int) (by omega) (by omega)
  rw [show ((2 : Int) ^ 6 - 1) = 63 by decide] at this
  rw [this]; omega
/-- a byte's bit in its word -/
theorem wd_or (m c i : Nat) : wd (m ||| 2 ^ c) i = if c / 64 = i then bits .or .u64 (wd m i) ((2 ^ (c % 64) : Nat) : Int) else wd m i := by
  have hlt : m / 2 ^ (64 * i) % 2 ^ 64 < 2 ^ 64 := Nat.mod_lt _ (by decide)
  have key : (m ||| 2 ^ c) / 2 ^ (64 * i) % 2 ^ 64 = if c / 64 = i then (m / 2 ^ (64 * i) % 2 ^ 64) ||| 2 ^ (c % 64) else m / 2 ^ (64 * i) % 2 ^ 64 := by
    apply Nat.eq_of_testBit_eq
    intro j
    rw [Nat.testBit_mod_two_pow, Nat.testBit_div_two_pow, Nat.testBit_or, Nat.testBit_two_pow]
    split
    · rename_i h
      rw [Nat.testBit_or, Nat.testBit_mod_two_pow, Nat.testBit_div_two_pow, Nat.testBit_two_pow]
      by_cases hj : j < 64
      · rw [decide_eq_true hj, Bool.true_and, Bool.true_and]
        congr 1
        apply decide_eq_decide.2
        omega
      · rw [decide_eq_false hj, Bool.false_and, Bool.false_and, Bool.false_or]
        symm
        apply decide_eq_false
        omega
    · rename_i h
      rw [Nat.testBit_mod_two_pow, Nat.testBit_div_two_pow]
      by_cases hj : j < 64
      · rw [decide_eq_true hj, Bool.true_and, Bool.true_and, decide_eq_false (by omega), Bool.or_false]
      · rw [decide_eq_false hj, Bool.false_and, Bool.false_and]
  unfold wd
  rw [key]
  split
  · rw [(bits_nat .u64 64 (by decide) wraps_u64 _ _ hlt (Nat.pow_lt_pow_right (by decide) (Nat.mod_lt _ (by decide)))).2]
  · rfl
theorem sC_at (m i : Nat) (hi : i < 4) : (sC m)[i]? = some (.int .u64 (wd m i)) := by
  rcases (show i = 0 ∨ i = 1 ∨ i = 2 ∨ i = 3 by omega) with rfl | rfl | rfl | rfl <;> rfl
theorem sC_or (m c : Nat) (hc : c < 256) : (sC m).setIfInBounds (c / 64) (.int .u64 (bits .or .u64 (wd m (c / 64)) ((2 ^ (c % 64) : Nat) : Int))) = sC (m ||| 2 ^ c) := by
  have h : ∀ i, wd (m ||| 2 ^ c) i = if c / 64 = i then bits .or .u64 (wd m i) ((2 ^ (c % 64) : Nat) : Int) else wd m i := wd_or m c
  unfold sC
  rw [h 0, h 1, h 2, h 3]
  rcases (show c / 64 = 0 ∨ c / 64 = 1 ∨ c / 64 = 2 ∨ c / 64 = 3 by omega) with e | e | e | e <;> simp [e]
theorem pow_mod_lt (c : Nat) : (2 : Nat) ^ (c % 64) < 2 ^ 64 := Nat.pow_lt_pow_right (by decide) (Nat.mod_lt _ (by decide))
/-- all but one block stay -/
structure One (q : Nat) (w w' : World) : Prop where
  below : ∀ B, B ≤ q → Below B w w'
  keep : ∀ k, k ≠ q → w'.heap[k]? = w.heap[k]?
theorem One.refl (q : Nat) (w : World) : One q w w := ⟨fun _ _ => Below.refl _ _, fun _ _ => rfl⟩
theorem One.drew {q : Nat} {w w' : World} (h : One q w w') : One q w w'.drew := ⟨fun B hB => below_drew (h.below B hB), h.keep⟩
theorem One.set {q : Nat} {w w' : World} (h : One q w w') (j : Nat) (u : Value) : One q w (w'.setCell ⟨q, j, none⟩ u) :=
  ⟨fun B hB => (h.below B hB).setCell (p := ⟨q, j, none⟩) hB u, fun k hk => (Below.heap_setCell w' ⟨q, j, none⟩ u k hk).trans (h.keep k hk)⟩
set_option maxHeartbeats 8000000 in
set_option maxRecDepth 100000 in
theorem setAddW (w : World) (q m lo hi : Nat) (h : w.heap[q]? = some (.cells (sC m) TE (0, 0))) (h1 : lo < 256) (h2 : hi < 256) :
    Calls Try.prog 58 #[.pointer (some ⟨q, 0, none⟩), .int .u8 (lo : Int), .int .u8 (hi : Int)] w fun r w' => r = .returned (.tuple #[]) ∧ w'.heap[q]? = some (.cells (sC (addR m lo (hi + 1 - lo))) TE (0, 0)) ∧ One q w w' := by
  have hu98 := Try.underlying98
  have HH := Aside0.mk h
  clear h
  go_enter Try.func58, Try.ntmps58
  go_wp2_with (fail)
  go_loopg [6] (hi + 1 - lo + 1) (fun kq v6 wr => ∃ (c m' : Nat), v6 = .int .i64 (c : Int) ∧ Aside0 (lo ≤ c ∧ c + kq = max (hi + 1) lo + 1 ∧ addR m' c (hi + 1 - c) = addR m lo (hi + 1 - lo)) ∧ Aside0 (wr.heap[q]? = some (.cells (sC m') TE (0, 0))) ∧ Aside0 (One q w wr))
  case atStart => exact ⟨lo, m, rfl, ⟨Nat.le_refl _, by omega, rfl⟩, HH, ⟨One.refl _ _⟩⟩
  case round =>
    obtain ⟨c, m', rfl, HI, HQ, HO⟩ := hrel
    by_cases hc : c ≤ hi
    · obtain ⟨k1, rfl⟩ : ∃ k1, gk = k1 + 1 := ⟨gk - 1, by have := HI.out; omega⟩
      have d0 : decide ((c : Int) ≤ (hi : Int)) = true := decide_eq_true (by omega)
      obtain ⟨d, hd⟩ : ∃ d, c / 64 = d := ⟨_, rfl⟩
      obtain ⟨r, hr⟩ : ∃ r, c % 64 = r := ⟨_, rfl⟩
      have e1 : (c : Int) / 64 = (d : Int) := by omega
      have e2 : bits .and .i64 (c : Int) 63 = (r : Int) := by rw [i64_and63 c (by omega), hr]
      have x0 : wr.cell? ⟨q, d, none⟩ = some (.int .u64 (wd m' d)) := (blk_cell HQ.out _).trans (sC_at m' _ (by omega))
      have f0 := blk_frozen HQ.out d
      have hd4 : (d : Int) < 4 := by omega
      have hd0 : (0 : Int) ≤ (d : Int) := by omega
      have hr0 : (0 : Int) ≤ (r : Int) := by omega
      have hr4 : (r : Int) ≤ 64 := by omega
      have HD := Aside0.mk (⟨hd, hr⟩ : c / 64 = d ∧ c % 64 = r)
      clear hd hr
      go_wp2_with (fail)
      go_region
      have eP : IntKind.u64.wrap ((2 : Int) ^ r) = ((2 ^ r : Nat) : Int) := by
        rw [show ((2 : Int) ^ r) = ((2 ^ r : Nat) : Int) by simp]
        exact wraps_u64 _ (Int.natCast_nonneg _) (by have := pow_mod_lt c; rw [HD.out.2] at this; exact_mod_cast this)
      have hq2 := blk_set HQ.out d (.int .u64 (bits .or .u64 (wd m' d) (IntKind.u64.wrap ((2 : Int) ^ r))))
      rw [eP] at hq2
      have eC := sC_or m' c (by omega)
      rw [HD.out.1, HD.out.2] at eC
      rw [eC] at hq2
      have HO2 := Aside0.mk ((HO.out.set d (.int .u64 (bits .or .u64 (wd m' d) (IntKind.u64.wrap ((2 : Int) ^ r))))).drew)
      rw [eP] at HO2
      rw [eP]
      have HQ2 := Aside0.mk hq2
      clear hq2 eC x0 f0 e1 e2 hd4 hd0 hr0 hr4 eP
      generalize World.setCell wr ⟨q, d, none⟩ (.int .u64 (bits .or .u64 (wd m' d) ((2 ^ r : Nat) : Int))) = w5 at *
      go_wp2_with (fail)
      go_roundg k1
      case measure => have := HI.out; omega
      case rel =>
        refine ⟨c + 1, m' ||| 2 ^ c, by first | rfl | simp, ⟨by have := HI.out; omega, by have := HI.out; omega, ?_⟩, ⟨HQ2.out⟩, HO2⟩
        have := HI.out.2.2
        rw [show hi + 1 - c = (hi - c) + 1 by omega, addR] at this
        rw [show hi + 1 - (c + 1) = hi - c by omega]
        exact this
    · have d0 : decide ((c : Int) ≤ (hi : Int)) = false := decide_eq_false (by omega)
      have e := HI.out.2.2
      rw [show hi + 1 - c = 0 by omega, addR] at e
      have HE := Aside0.mk e
      clear e
      go_wp2_with (fail)
      (try go_end0)
      exact ⟨rfl, by rw [← HE.out]; exact HQ.out, HO.out⟩
/-- is a byte in a set -/
def hasM (m c : Nat) : Bool := m.testBit c
theorem u8_and63' (c : Nat) (h : c < 256) : bits .and .u8 (c : Int) 63 = ((c % 64 : Nat) : Int) := by
  have := bits_mask .u8 8 (by decide) wraps_u8 6 (by decide) (c : Int) (by omega) (by omega)
  rw [show ((2 : Int) ^ 6 - 1) = 63 by decide] at this
  rw [this]; omega
theorem has_bit (m d r : Nat) (hr : r < 64) : (bits .and .u64 (wd m d / 2 ^ r) 1 == 1) = m.testBit (64 * d + r) := by
  rw [← wd_test m d r hr, Nat.testBit_eq_decide_div_mod_eq]
  unfold wd
  have hlt : m / 2 ^ (64 * d) % 2 ^ 64 < 2 ^ 64 := Nat.mod_lt _ (by decide)
  generalize m / 2 ^ (64 * d) % 2 ^ 64 = x at *
  have e : ((x : Int) / 2 ^ r) = ((x / 2 ^ r : Nat) : Int) := by simp
  rw [e]
  have h2 : x / 2 ^ r < 2 ^ 64 := Nat.lt_of_le_of_lt (Nat.div_le_self _ _) hlt
  have := bits_mask .u64 64 (by decide) wraps_u64 1 (by decide) ((x / 2 ^ r : Nat) : Int) (Int.natCast_nonneg _) (by exact_mod_cast h2)
  rw [show ((2 : Int) ^ 1 - 1) = 1 by decide] at this
  rw [this, show ((2 : Int) ^ 1) = 2 by decide]
  generalize x / 2 ^ r = y
  by_cases h : y % 2 = 1
  · rw [decide_eq_true h]; exact beq_iff_eq.2 (by omega)
  · rw [decide_eq_false h]; exact beq_false_of_ne (by omega)
set_option maxHeartbeats 8000000 in
set_option maxRecDepth 100000 in
theorem setHasW (w : World) (q m c : Nat) (h : w.heap[q]? = some (.cells (sC m) TE (0, 0))) (h1 : c < 256) :
    Calls Try.prog 45 #[.pointer (some ⟨q, 0, none⟩), .int .u8 (c : Int)] w fun r w' => r = .returned (.bool (m.testBit c)) ∧ w' = w := by
  have hu98 := Try.underlying98
  obtain ⟨d, hd⟩ : ∃ d, c / 64 = d := ⟨_, rfl⟩
  obtain ⟨r, hr⟩ : ∃ r, c % 64 = r := ⟨_, rfl⟩
  have e1 : (c : Int) / 64 = (d : Int) := by omega
  have e2 : bits .and .u8 (c : Int) 63 = (r : Int) := by rw [u8_and63' c h1, hr]
  have x0 : w.cell? ⟨q, d, none⟩ = some (.int .u64 (wd m d)) := (blk_cell h _).trans (sC_at m _ (by omega))
  have hd4 : (d : Int) < 4 := by omega
  have hd0 : (0 : Int) ≤ (d : Int) := by omega
  have hr0 : (0 : Int) ≤ (r : Int) := by omega
  have hr4 : (r : Int) ≤ 64 := by omega
  have HD := Aside0.mk (⟨hd, hr⟩ : c / 64 = d ∧ c % 64 = r)
  clear hd hr h
  go_enter Try.func45, Try.ntmps45
  go_wp2_with (fail)
  go_ret
  refine ⟨?_, rfl⟩
  rw [has_bit m d r (by have := HD.out.2; omega), show 64 * d + r = c by have := HD.out; omega]
  rfl
end Go.Proofs.Ytnjpdhekeffpnaa.Rx
set_option linter.unusedVariables false
set_option linter.unusedSimpArgs false
namespace Go.Proofs.Ytnjpdhekeffpnaa.Rx
open Go.RowKit Go.Proofs.YtnjpdhekeffpnaaW.PrintWords Go.Proofs.YtnjpdhekeffpnaaW.PrintLast Go.Proofs.YtnjpdhekeffpnaaW.PrintMore

/-- what a call of the reader's answers: a part, and the reader behind it -/
def PartAt (w w' : World) (base b : Nat) (s : ByteArray) (R : Part × BS) (r : Ending) : Prop :=
  ∃ v, r = .returned (.agg #[.int .i64 (R.1.1 : Int), v]) ∧ OutsAt w' w.heap.size v R.1.2 ∧ BAt w' base b s R.2 ∧ Fr base b none w w'
theorem infoI : (Try.prog.info? 3).map (fun i => (i.zero, i.size, i.bytes)) = some (some (.int .i64 0), 1, 8) := by kernel_rfl
abbrev TP : Nat := 72
/-- the answer where a row that was handed in may be written -/
def PartX (w w' : World) (base base2 b : Nat) (O : Option Nat) (s : ByteArray) (R : Part × BS) (r : Ending) : Prop :=
  ∃ v, r = .returned (.agg #[.int .i64 (R.1.1 : Int), v]) ∧ OutsAt w' base2 v R.1.2 ∧ BAt w' base b s R.2 ∧ Fr base b O w w'
/-- a part is stored into the cell of the answer -/
theorem ret_partX {w w6 : World} {base base2 b : Nat} {O : Option Nat} {s : ByteArray} {S : BS} {p : Nat} {x y : Value} (hb : base ≤ w.heap.size) (hp : w6.heap[p]? = some (.cells #[x, y] TP (0, 0))) (hpw : w.heap.size ≤ p) (hpb : p ≠ b)
    (hB : BAt w6 base b s S) (hF : Fr base b O w w6) (n : Nat) (v : Value) (outs : List Nat) (hO : OutsAt w6 base2 v outs) :
    ((w6.setCell ⟨p, 0, none⟩ (.int .i64 (n : Int))).setCell ⟨p, 1, none⟩ v).heap[p]? = some (.cells #[.int .i64 (n : Int), v] TP (0, 0)) ∧
      PartX w ((w6.setCell ⟨p, 0, none⟩ (.int .i64 (n : Int))).setCell ⟨p, 1, none⟩ v) base base2 b O s ((n, outs), S) (.returned (.agg #[.int .i64 (n : Int), v])) := by
  have hq2 := blk_set hp 0 (.int .i64 (n : Int))
  have hq3 := blk_set hq2 1 v
  refine ⟨by simpa using hq3, v, rfl, ?_, ?_, ?_⟩
  · exact (hO.other hp (by decide) 0 _).other hq2 (by decide) 1 _
  · exact (hB.other hp (by decide) hpb 0 _).other hq2 (by decide) hpb 1 _
  · exact (hF.new hb hpw 0 _).new hb hpw 1 _
theorem ret_part {w w6 : World} {base b : Nat} {s : ByteArray} {S : BS} {p : Nat} {x y : Value} (hb : base ≤ w.heap.size) (hp : w6.heap[p]? = some (.cells #[x, y] TP (0, 0))) (hpw : w.heap.size ≤ p) (hpb : p ≠ b)
    (hB : BAt w6 base b s S) (hF : Fr base b none w w6) (n : Nat) (v : Value) (outs : List Nat) (hO : OutsAt w6 w.heap.size v outs) :
    ((w6.setCell ⟨p, 0, none⟩ (.int .i64 (n : Int))).setCell ⟨p, 1, none⟩ v).heap[p]? = some (.cells #[.int .i64 (n : Int), v] TP (0, 0)) ∧
      PartAt w ((w6.setCell ⟨p, 0, none⟩ (.int .i64 (n : Int))).setCell ⟨p, 1, none⟩ v) base b s ((n, outs), S) (.returned (.agg #[.int .i64 (n : Int), v])) :=
  ret_partX hb hp hpw hpb hB hF n v outs hO
/-- steps are passed by -/
theorem BAt.inc {w : World} {base b : Nat} {s : ByteArray} {S : BS} (h : BAt w base b s S) (k : Nat) (z : Int) (hz : z = (S.at_ : Int) + k) : BAt (w.setCell ⟨b, 1, none⟩ (.int .i64 z)) base b s (skip S k) ∧ Fr base b none w (w.setCell ⟨b, 1, none⟩ (.int .i64 z)) := by
  have := h.setAt (S.at_ + k)
  rw [show ((S.at_ + k : Nat) : Int) = z by rw [hz]; simp] at this
  exact this
theorem stpV_two (n m : Nat) : stpV ⟨1, 0, n, m⟩ = .agg #[.int .i64 1, .int .u64 0, .int .u64 0, .int .u64 0, .int .u64 0, .int .i64 (n : Int), .int .i64 (m : Int)] := by simp [stpV, wd]
/-- a row of ways out is written: the reader stays -/
theorem BAt.grownO {w w' : World} {base base2 b : Nat} {s : ByteArray} {S : BS} {v : Value} {outs : List Nat} (h : BAt w base b s S) (hO : OutsAt w base2 v outs) (hg : ∀ k, k < w.heap.size → some k ≠ v.ownBlock → w'.heap[k]? = w.heap[k]?) : BAt w' base b s S := by
  obtain ⟨h1, u, h2, h3⟩ := h
  have hne := Kd.R_ne hO h2 (by decide)
  refine ⟨h1, u, (hg b (blk_lt h2) hne).trans h2, Kd.R_mono (Kd.R_move (Kd.R_bound h3) (fun k hk => hg k hk.2.2.1 (fun e => ?_))) (fun _ _ => trivial)⟩
  obtain ⟨_, _, hlt, q, hq, cells, hc⟩ := hk
  obtain ⟨_, inner, ho, _⟩ := hO
  obtain ⟨cells', hc'⟩ := own_typed ho k e.symm
  rw [hc] at hc'
  injection hc' with hc'
  injection hc' with _ hc'
  rcases List.mem_cons.1 hq with rfl | hq
  · cases hc'
  · cases hq
theorem Fr.grownO {base b : Nat} {O : Option Nat} {w w1 w2 : World} (h : Fr base b O w w1) (hB : Below base w1 w2) (hg : ∀ k, k < w1.heap.size → some k ≠ O → w2.heap[k]? = w1.heap[k]?) : Fr base b O w w2 :=
  ⟨h.below.trans hB, fun k hk h1 h2 h3 => (hg k (Nat.lt_of_lt_of_le hk h.below.size) h2).trans (h.keep k hk h1 h2 h3)⟩
theorem OutsAt.lower {w : World} {base base' : Nat} {v : Value} {outs : List Nat} (h : OutsAt w base v outs) (hb : base' ≤ base) : OutsAt w base' v outs := Kd.R_lower h hb
section
variable {ops : Array Oper} {rest : List Oper} {o : Oper} {a : Act} {Q : Exit → Act → World → Prop}
theorem outs_event {W : World} (hgd : o.guard = none) {N : Tmp} (_hd : o.dst = some N) (outs : List Nat) {n : Nat} (hn : outs.length = n) (hm : n ≤ 9223372036854775807)
    (hrun : (execOp a.eval o).run Try.prog W = .ok (.value (.slice (some ⟨W.heap.size, 0, none⟩) n n)) (W.alloc (.cells (nums .i64 (outs.map fun (o : Nat) => (o : Int))).toArray TI)))
    (h : ∀ g, W.heap.size = g → ∀ w1, OutsAt w1 W.heap.size (.slice (some ⟨g, 0, none⟩) n n) outs → Below W.heap.size W w1 → wpList Try.prog ops Q rest (a.put o.dst (.slice (some ⟨g, 0, none⟩) n n)) w1) : wpList Try.prog ops Q (o :: rest) a W := by
  subst hn
  refine Kd.event_run hgd hrun (h _ rfl _ ?_ (below_alloc (Below.refl _ _) _))
  have h := own_lit W W.heap.size TI .i64 (outs.map fun (o : Nat) => (o : Int)) (Nat.le_refl _) (by rw [List.length_map]; exact hm)
  rw [List.length_map] at h
  exact Kd.R_of_own (enc := Value.int .i64) (h1 := fun _ => rfl) (by rw [List.length_map]; exact h) (fun k hk => trivial)
end
set_option maxHeartbeats 8000000 in
set_option maxRecDepth 100000 in
theorem singleW (w : World) (base b : Nat) (s : ByteArray) (S : BS) (x : Stp) (h : BAt w base b s S) (hl : S.st.length ≤ 1000000) :
    Calls Try.prog 59 #[.pointer (some ⟨b, 0, none⟩), stpV x] w fun r w' => PartAt w w' base b s (single x S) r := by
  have hu100 := Try.underlying100
  have hu72 := Try.underlying72
  have HS := Aside0.mk h
  have ihA := fun W (hb : Below w.heap.size w W) => addW W base b s S x (h.below hb) hl
  clear h
  obtain ⟨xk, xm, xn, xo⟩ := x
  unfold stpV at ihA ⊢
  dsimp only at ihA ⊢
  obtain ⟨a1, ha1⟩ : ∃ a, wd xm 0 = a := ⟨_, rfl⟩
  obtain ⟨a2, ha2⟩ : ∃ a, wd xm 1 = a := ⟨_, rfl⟩
  obtain ⟨a3, ha3⟩ : ∃ a, wd xm 2 = a := ⟨_, rfl⟩
  obtain ⟨a4, ha4⟩ : ∃ a, wd xm 3 = a := ⟨_, rfl⟩
  rw [ha1, ha2, ha3, ha4] at ihA ⊢
  clear ha1 ha2 ha3 ha4
  have HL := Aside0.mk hl
  go_enter Try.func59, Try.ntmps59
  go_wp2_with (first | ((with_reducible refine gate_dst (N := 3) rfl ?_); (try (refine gate_guard (by rfl) ?_; dsimp only)); refine box_event ?hg (N := 3) ?hd (cs := #[.int .i64 xk, .int .u64 a1, .int .u64 a2, .int .u64 a3, .int .u64 a4, .int .i64 xn, .int .i64 xo]) (t := 100) ?hr ?_; (case hd => rfl); (case hg => rfl); (case hr => first | (go_simp; done) | (go_simp; rfl)); intro q eq wq hq lq; have Eq := Aside0.mk eq; clear eq) | (((with_reducible refine gate_dst (N := 4) rfl ?_); (try (refine gate_guard (by rfl) ?_; dsimp only)); refine box_event ?hg (N := 4) ?hd (cs := #[.int .i64 0, .slice none 0 0]) (t := 72) ?hr ?_; (case hd => rfl); (case hg => rfl); (case hr => first | (go_simp; done) | (go_simp; rfl)); intro p ep wp hp lp; have Ep := Aside0.mk ep; clear ep; have p0 : wp.cell? ⟨p, 0, none⟩ = some (.int .i64 0) := (blk_cell hp 0).trans rfl; have p1 : wp.cell? ⟨p, 1, none⟩ = some (.slice none 0 0) := (blk_cell hp 1).trans rfl; have fp0 := blk_frozen hp 0; have fp1 := blk_frozen hp 1); have hq := blk_below hq lp; have y0 : wp.cell? ⟨q, 0, none⟩ = some (.int .i64 xk) := (blk_cell hq 0).trans rfl; have y1 : wp.cell? ⟨q, 1, none⟩ = some (.int .u64 a1) := (blk_cell hq 1).trans rfl; have y2 : wp.cell? ⟨q, 2, none⟩ = some (.int .u64 a2) := (blk_cell hq 2).trans rfl; have y3 : wp.cell? ⟨q, 3, none⟩ = some (.int .u64 a3) := (blk_cell hq 3).trans rfl; have y4 : wp.cell? ⟨q, 4, none⟩ = some (.int .u64 a4) := (blk_cell hq 4).trans rfl; have y5 : wp.cell? ⟨q, 5, none⟩ = some (.int .i64 xn) := (blk_cell hq 5).trans rfl; have y6 : wp.cell? ⟨q, 6, none⟩ = some (.int .i64 xo) := (blk_cell hq 6).trans rfl) | fail)
  refine (ihA wp (below_then lq lq.size lp)).mono ?_
  rintro e w5 ⟨rfl, hB5, hF5⟩
  have hpb : p ≠ b := by have := Eq.out; have := Ep.out; have := HS.out.lt; have := lq.size; omega
  have HP := Aside0.mk (show w.heap.size ≤ p by have := Eq.out; have := Ep.out; have := lq.size; omega)
  have hp := hF5.blk hp hpb (by simp) (by decide)
  have HF5 := Aside0.mk ((Fr.of (b := b) (O := none) HS.out.base_le (below_then lq lq.size lp)).trans hF5)
  have HB5 := Aside0.mk hB5
  clear hB5 hF5 y0 y1 y2 y3 y4 y5 y6 p0 p1 fp0 fp1 hq lp lq
  have w1' : IntKind.i64.wrap (2 * (S.st.length : Int)) = ((2 * S.st.length : Nat) : Int) := by have := HL.out; rw [wraps_i64 _ (by omega) (by omega)]; omega
  go_wp2_with (first | (((with_reducible refine gate_dst (N := 12) rfl ?_); refine outs_event ?hg (N := 12) ?hd [2 * S.st.length] rfl (by simp) ?hr ?_; (case hd => rfl); (case hg => rfl); (case hr => first | (go_simp; done) | (go_simp; rfl)); intro g eg wg hg lg; have Eg := Aside0.mk eg; clear eg); have hp := blk_below hp lg; have p0 : wg.cell? ⟨p, 0, none⟩ = some (.int .i64 0) := (blk_cell hp 0).trans rfl; have p1 : wg.cell? ⟨p, 1, none⟩ = some (.slice none 0 0) := (blk_cell hp 1).trans rfl; have fp0 := blk_frozen hp 0; have fp1 := blk_frozen hp 1) | fail)
  have hr := ret_part HS.out.base_le hp HP.out hpb (HB5.out.below lg) (HF5.out.trans (Fr.of HB5.out.base_le lg)) S.st.length (.slice (some ⟨g, 0, none⟩) 1 1) [2 * S.st.length] (hg.lower HF5.out.grow)
  generalize World.setCell (World.setCell wg ⟨p, 0, none⟩ (.int .i64 (S.st.length : Int))) ⟨p, 1, none⟩ (.slice (some ⟨g, 0, none⟩) 1 1) = w7 at *
  have c0 : w7.cell? ⟨p, 0, none⟩ = some (.int .i64 (S.st.length : Int)) := (blk_cell hr.1 0).trans rfl
  have c1 : w7.cell? ⟨p, 1, none⟩ = some (.slice (some ⟨g, 0, none⟩) 1 1) := (blk_cell hr.1 1).trans rfl
  refine bodyPost_ret (by simp [results, Try.results59, go_sem, c0, c1, hu72]; try rfl) rfl ?_
  exact hr.2
end Go.Proofs.Ytnjpdhekeffpnaa.Rx
set_option linter.unusedVariables false
set_option linter.unusedSimpArgs false
namespace Go.Proofs.Ytnjpdhekeffpnaa.Rx
open Go.RowKit Go.Proofs.YtnjpdhekeffpnaaW.PrintWords Go.Proofs.YtnjpdhekeffpnaaW.PrintLast Go.Proofs.YtnjpdhekeffpnaaW.PrintMore

theorem OutsAt.slice {w : World} {base : Nat} {v : Value} {outs : List Nat} (h : OutsAt w base v outs) : ∃ A c, v = .slice A outs.length c := by
  obtain ⟨A, c, e⟩ := Kd.R_slice h
  rw [List.length_map] at e
  exact ⟨A, c, e⟩
theorem BAt.one {w w' : World} {base b q : Nat} {s : ByteArray} {S : BS} (h : BAt w base b s S) (o : One q w w') {T : Nat} {cs : Array Value} (hq : w.heap[q]? = some (.cells cs T (0, 0))) (hT : T ≠ TS) (hb : q ≠ b) (hbq : base ≤ q) : BAt w' base b s S := by
  obtain ⟨h1, v, h2, h3⟩ := h
  refine ⟨h1, v, ?_, Kd.R_mono (Kd.R_step (Kd.R_types h3 hq (fun q hq => by rcases List.mem_cons.1 hq with rfl | hq; exact fun e => hT e.symm; cases hq)) (fun k hk _ => o.keep k hk.2)) (fun _ _ => trivial)⟩
  rw [o.keep b (fun e => hb e.symm)]
  exact h2
theorem Fr.one {base b q : Nat} {O : Option Nat} {w w1 w2 : World} (h : Fr base b O w w1) (o : One q w1 w2) (hb : base ≤ w.heap.size) (hq : w.heap.size ≤ q) : Fr base b O w w2 :=
  ⟨h.below.trans (o.below base (Nat.le_trans hb hq)), fun k hk h1 h2 h3 => (o.keep k (by omega)).trans (h.keep k hk h1 h2 h3)⟩
set_option maxHeartbeats 8000000 in
set_option maxRecDepth 100000 in
theorem byteOfW (w : World) (base b : Nat) (s : ByteArray) (S : BS) (c : Nat) (h : BAt w base b s S) (hl : S.st.length ≤ 1000000) (hc : c < 256) :
    Calls Try.prog 62 #[.pointer (some ⟨b, 0, none⟩), .int .u8 (c : Int)] w fun r w' => PartAt w w' base b s (byteOf c S) r := by
  have hu100 := Try.underlying100
  have hu72 := Try.underlying72
  have hu98 := Try.underlying98
  have HS := Aside0.mk h
  clear h
  have HL := Aside0.mk hl
  go_enter Try.func62, Try.ntmps62
  go_wp2_with (first | ((with_reducible refine gate_dst (N := 4) rfl ?_); (try (refine gate_guard (by rfl) ?_; dsimp only)); refine box_event ?hg (N := 4) ?hd (cs := #[.int .i64 0, .slice none 0 0]) (t := 72) ?hr ?_; (case hd => rfl); (case hg => rfl); (case hr => first | (go_simp; done) | (go_simp; rfl)); intro p ep wp hp lp; have Ep := Aside0.mk ep; clear ep) | ((with_reducible refine gate_dst (N := 5) rfl ?_); (try (refine gate_guard (by rfl) ?_; dsimp only)); refine box_event ?hg (N := 5) ?hd (cs := sC 0) (t := 98) ?hr ?_; (case hd => rfl); (case hg => rfl); (case hr => first | (go_simp; done) | (go_simp; rfl)); intro q eq wq hq lq; have Eq := Aside0.mk eq; clear eq) | fail)
  refine (setAddW wq q 0 c c hq hc hc).mono ?_
  rintro e w3 ⟨rfl, hq3, hO3⟩
  rw [show c + 1 - c = 1 by omega] at hq3
  obtain ⟨m, hm⟩ : ∃ m, addR 0 c 1 = m := ⟨_, rfl⟩
  have eS : byteOf c S = single ⟨0, m, 0, 0⟩ S := by rw [byteOf, hm]
  rw [hm] at hq3
  obtain ⟨R, hR⟩ : ∃ R, single ⟨0, m, 0, 0⟩ S = R := ⟨_, rfl⟩
  rw [hR] at eS
  have HE := Aside0.mk eS
  have hlq := below_then lp lp.size lq
  have hwp : w.heap.size ≤ p := by have := Ep.out; omega
  have hpq : p < q := by have := blk_lt hp; have := Eq.out; omega
  have hpb : p ≠ b := by have := HS.out.lt; omega
  have hbs := HS.out.base_le
  have hB3 := (HS.out.below hlq).one hO3 hq (by decide) (by have := HS.out.lt; omega) (by omega)
  have hF3 := (Fr.of (b := b) (O := none) hbs hlq).one hO3 hbs (show w.heap.size ≤ q by omega)
  have hp3 := (hO3.keep p (by omega)).trans (blk_below hp lq)
  have z0 : w3.cell? ⟨q, 0, none⟩ = some (.int .u64 (wd m 0)) := (blk_cell hq3 0).trans rfl
  have z1 : w3.cell? ⟨q, 1, none⟩ = some (.int .u64 (wd m 1)) := (blk_cell hq3 1).trans rfl
  have z2 : w3.cell? ⟨q, 2, none⟩ = some (.int .u64 (wd m 2)) := (blk_cell hq3 2).trans rfl
  have z3 : w3.cell? ⟨q, 3, none⟩ = some (.int .u64 (wd m 3)) := (blk_cell hq3 3).trans rfl
  have ihS := singleW w3 base b s S ⟨0, m, 0, 0⟩ hB3 HL.out
  unfold stpV at ihS
  rw [hR] at ihS
  dsimp only at ihS
  obtain ⟨a1, ha1⟩ : ∃ a, wd m 0 = a := ⟨_, rfl⟩
  obtain ⟨a2, ha2⟩ : ∃ a, wd m 1 = a := ⟨_, rfl⟩
  obtain ⟨a3, ha3⟩ : ∃ a, wd m 2 = a := ⟨_, rfl⟩
  obtain ⟨a4, ha4⟩ : ∃ a, wd m 3 = a := ⟨_, rfl⟩
  rw [ha1] at ihS z0
  rw [ha2] at ihS z1
  rw [ha3] at ihS z2
  rw [ha4] at ihS z3
  have HW := Aside0.mk (⟨hwp, hpb, hbs⟩ : w.heap.size ≤ p ∧ p ≠ b ∧ base ≤ w.heap.size)
  have HF3 := Aside0.mk hF3
  have HP3 := Aside0.mk hp3
  clear ha1 ha2 ha3 ha4 hq3 hO3 hm eS hlq hwp hpq hpb hbs hB3 hF3 hp3 hq hp lp lq
  go_wp2_with (fail)
  refine ihS.mono ?_
  rintro e w4 ⟨v, rfl, hO4, hB4, hF4⟩
  obtain ⟨Av, cv, rfl⟩ := hO4.slice
  have hp := hF4.blk HP3.out HW.out.2.1 (by simp) (by decide)
  have y0 : w4.cell? ⟨p, 0, none⟩ = some (.int .i64 0) := (blk_cell hp 0).trans rfl
  have y1 : w4.cell? ⟨p, 1, none⟩ = some (.slice none 0 0) := (blk_cell hp 1).trans rfl
  have f0 := blk_frozen hp 0
  have f1 := blk_frozen hp 1
  clear ihS z0 z1 z2 z3
  go_wp2_with (fail)
  have hr := ret_part (S := R.2) HW.out.2.2 hp HW.out.1 HW.out.2.1 hB4 (HF3.out.trans hF4) R.1.1 (.slice Av R.1.2.length cv) R.1.2 (hO4.lower HF3.out.grow)
  (generalize World.setCell (World.setCell w4 ⟨p, 0, none⟩ (.int .i64 (R.1.1 : Int))) ⟨p, 1, none⟩ (.slice Av R.1.2.length cv) = w9 at *; have c0 : w9.cell? ⟨p, 0, none⟩ = some (.int .i64 (R.1.1 : Int)) := (blk_cell hr.1 0).trans rfl; have c1 : w9.cell? ⟨p, 1, none⟩ = some (.slice Av R.1.2.length cv) := (blk_cell hr.1 1).trans rfl; refine bodyPost_ret (by simp [results, Try.results62, go_sem, c0, c1, hu72]; try rfl) rfl ?_)
  rw [HE.out]
  exact hr.2
end Go.Proofs.Ytnjpdhekeffpnaa.Rx
