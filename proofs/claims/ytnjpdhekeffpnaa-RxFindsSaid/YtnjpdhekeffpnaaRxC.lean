/- The reader of expressions, walked whole; Compile. -/
import Derived.Test.YtnjpdhekeffpnaaRxT
import Derived.Test.YtnjpdhekeffpnaaRxM
set_option linter.unusedVariables false
set_option linter.unusedSimpArgs false
namespace Go.Proofs.Ytnjpdhekeffpnaa.Rx
open Go.RowKit Go.Proofs.YtnjpdhekeffpnaaW.PrintWords Go.Proofs.YtnjpdhekeffpnaaW.PrintLast Go.Proofs.YtnjpdhekeffpnaaW.PrintMore

theorem thOk (base b : Nat) (s : ByteArray) (hs : s.size ≤ 200) : ∀ (d : Nat), d ≤ 16 → ThOk base b s (16 - d) (thB s d)
  | 0, _ => fun W S h h0 ha hl => thingW base b s 16 _ hs (fun W S at_ h _ _ => groupW0 W base b s S at_ h) W S h h0 ha hl
  | d + 1, hd => by
    have ih := thOk base b s hs d (by omega)
    have hw : WysOk base b s (16 - (d + 1) + 1) (waysB s d) := by
      intro W S h ha hl
      rw [show 16 - (d + 1) + 1 = 16 - d by omega, waysB_eq]
      exact waysW base b s (16 - d) (thB s d) hs ih (thB_gr s d) (fun S h => Nat.le_trans (thB_up s d S h) (by omega)) (thB_pos s d) W S h ha hl
    intro W S h h0 ha hl
    exact thingW base b s (16 - (d + 1)) (grpF (waysB s d) s) hs (fun W S at_ h ha hl => groupW1 base b s (16 - (d + 1)) (waysB s d) (by omega) hs hw (fun S h => Nat.le_trans (waysB_up s d S (by omega)) (by omega)) W S at_ h ha hl) W S h h0 ha hl
theorem waysTop (base b : Nat) (s : ByteArray) (hs : s.size ≤ 200) (W : World) (S : BS) (h : BAt W base b s S) (ha : S.at_ ≤ s.size + 20) (hl : S.st.length ≤ 4 * S.at_ + 2) :
    Calls Try.prog 23 #[.pointer (some ⟨b, 0, none⟩), .int .i64 0] W fun r W' => PartAt W W' base b s (waysB s 16 S) r := by
  rw [waysB_eq]
  exact waysW base b s 0 (thB s 16) hs (thOk base b s hs 16 (by omega)) (thB_gr s 16) (fun S h => Nat.le_trans (thB_up s 16 S h) (by omega)) (thB_pos s 16) W S h ha hl
/-- an expression that nobody has asked yet, in block r -/
def RgC (s : ByteArray) : Array Value := #[.string s, .bool true, .int .u32 0, .int .i32 0, .int .u32 0, .slice none 0 0, .int .i64 0]
/-- a fault's numbers -/
def fV (F : Option (Nat × Nat)) : Value := .agg #[.int .i64 (eW F), .int .i64 (eA F)]
theorem ret_fault {w w6 : World} {p : Nat} {x y : Value} (hp : w6.heap[p]? = some (.cells #[x, y] 26 (0, 0))) (hpw : w.heap.size ≤ p) (hF : Below w.heap.size w w6) (a c : Int) :
    ∀ w7, w7 = (w6.setCell ⟨p, 0, none⟩ (.int .i64 a)).setCell ⟨p, 1, none⟩ (.int .i64 c) → w7.cell? ⟨p, 0, none⟩ = some (.int .i64 a) ∧ w7.cell? ⟨p, 1, none⟩ = some (.int .i64 c) ∧ Below w.heap.size w w7 := by
  rintro w7 rfl
  have h1 := blk_set hp 0 (.int .i64 a)
  have h2 := blk_set h1 1 (.int .i64 c)
  have e : ((#[x, y] : Array Value).setIfInBounds 0 (.int .i64 a)).setIfInBounds 1 (.int .i64 c) = #[.int .i64 a, .int .i64 c] := by simp
  rw [e] at h2
  exact ⟨(blk_cell h2 0).trans rfl, (blk_cell h2 1).trans rfl, (hF.setCell (p := ⟨p, 0, none⟩) hpw _).setCell (p := ⟨p, 1, none⟩) hpw _⟩
/-- what Compile answers -/
def CompPost (w w' : World) (s : ByteArray) (e : Ending) : Prop :=
  (match faultB s with
    | some F => e = .returned (.tuple #[.pointer none, fV (some F)])
    | none => ∃ r, w.heap.size ≤ r ∧ w'.heap[r]? = some (.cells (RgC s) TR (0, 0)) ∧ e = .returned (.tuple #[.pointer (some ⟨r, 0, none⟩), fV none])) ∧ Below w.heap.size w w'
set_option maxHeartbeats 8000000 in
set_option maxRecDepth 100000 in
theorem compileW (w : World) (s : ByteArray) (hsz : s.size ≤ 140737488355327) : Calls Try.prog 11 #[.string s] w fun e w' => CompPost w w' s e := by
  have hu26 := Try.underlying26
  have hu69 := Try.underlying69
  have hu58 := Try.underlying58
  have HSZ := Aside0.mk hsz
  clear hsz
  go_enter Try.func11, Try.ntmps11
  by_cases hs : s.size ≤ 200
  · have d0 : decide ((200 : Int) < (s.size : Int)) = false := decide_eq_false (by omega)
    have HH := Aside0.mk hs
    clear hs
    go_wp2_with (first
      | ((with_reducible refine gate_dst (N := 3) rfl ?_); (try (refine gate_guard (by rfl) ?_; dsimp only)); refine box_event ?hg (N := 3) ?hd (cs := #[.int .i64 0, .int .i64 0]) (t := 26) ?hr ?_; (case hd => rfl); (case hg => rfl); (case hr => first | (go_simp; done) | (go_simp; rfl)); intro p ep wp hp lp; have Ep := Aside0.mk ep; clear ep)
      | ((with_reducible refine gate_dst (N := 11) rfl ?_); (try (refine gate_guard (by rfl) ?_; dsimp only)); refine box_event ?hg (N := 11) ?hd (cs := #[.string s, .int .i64 0, .int .i64 0, .int .i64 0, .int .i64 0, .slice none 0 0]) (t := 69) ?hr ?_; (case hd => rfl); (case hg => rfl); (case hr => first | (go_simp; done) | (go_simp; rfl)); intro b eb wb hb lb; have Eb := Aside0.mk eb; clear eb)
      | fail)
    have hB0 : BAt wb w.heap.size b s ⟨0, none, []⟩ := ⟨by have := Eb.out; have := lp.size; omega, _, hb, Kd.R_nil _ _ _ _ _⟩
    have HPB := Aside0.mk (⟨by have := Eb.out; have := blk_lt hp; omega, by have := Ep.out; omega⟩ : p ≠ b ∧ w.heap.size ≤ p)
    have HBw := Aside0.mk (below_then lp lp.size lb)
    have ih := waysTop w.heap.size b s HH.out wb _ hB0 (by show 0 ≤ _; omega) (by show 0 ≤ _; omega)
    have hE : waysB s 16 ⟨0, none, []⟩ = readB s := rfl
    rw [hE] at ih
    clear hE
    obtain ⟨K, hK⟩ : ∃ K, readB s = K := ⟨_, rfl⟩
    rw [hK] at ih
    refine ih.mono ?_
    rintro e w2 ⟨v2, rfl, -, hB2, hF2⟩
    have HP2 := Aside0.mk (hF2.blk (blk_below hp lb) HPB.out.1 (by simp) (by decide))
    have HF2 := Aside0.mk (HBw.out.trans hF2.below)
    have hFB : faultB s = (if K.2.at_ < s.size then wrongB 2 K.2.at_ K.2 else K.2).F := by rw [faultB, if_neg (by have := HH.out; omega), hK]
    obtain ⟨k0, k2⟩ := K
    obtain ⟨za, zF, zst⟩ := k2
    dsimp only at hFB hB2
    have HB2 := Aside0.mk hB2
    have hbk := hB2.2.choose_spec.1
    have x1 : w2.cell? ⟨b, 1, none⟩ = some (.int .i64 za) := (blk_cell hbk 1).trans rfl
    have x3 : w2.cell? ⟨b, 3, none⟩ = some (.int .i64 (eW zF)) := (blk_cell hbk 3).trans rfl
    have x4 : w2.cell? ⟨b, 4, none⟩ = some (.int .i64 (eA zF)) := (blk_cell hbk 4).trans rfl
    have hp := HP2.out
    have p0 : w2.cell? ⟨p, 0, none⟩ = some (.int .i64 0) := (blk_cell hp 0).trans rfl
    have p1 : w2.cell? ⟨p, 1, none⟩ = some (.int .i64 0) := (blk_cell hp 1).trans rfl
    have f0 := blk_frozen hp 0
    have f1 := blk_frozen hp 1
    clear hbk hB2 hF2 hB0 hK hb lp lb ih hp
    cases zF with
    | some f =>
      obtain ⟨f1', f2'⟩ := f
      have hFB2 : faultB s = some (f1', f2') := by
        rw [hFB]; split
        · rfl
        · rfl
      have HFB := Aside0.mk hFB2
      have e3 : ((f1' : Int) + 1 == 0) = false := beq_false_of_ne (by omega)
      change w2.cell? ⟨b, 3, none⟩ = some (.int .i64 ((f1' : Int) + 1)) at x3
      change w2.cell? ⟨b, 4, none⟩ = some (.int .i64 (f2' : Int)) at x4
      clear hFB hFB2
      go_wp2_with (fail)
      go_region
      all_goals
        have hr := ret_fault HP2.out HPB.out.2 HF2.out ((f1' : Int) + 1) (f2' : Int) _ rfl
        (obtain ⟨w9, hw9⟩ : ∃ w9, World.setCell (World.setCell w2 ⟨p, 0, none⟩ (.int .i64 ((f1' : Int) + 1))) ⟨p, 1, none⟩ (.int .i64 ((f2' : Int))) = w9 := ⟨_, rfl⟩; (try go_wp2_with (fail)); (try simp only [Exit.inBlock, Exit.then]); rw [hw9] at hr; (try rw [hw9]); obtain ⟨c0, c1, hFr⟩ := hr; refine bodyPost_ret (by simp [results, Try.results11, go_sem, c0, c1, hu26]; try rfl) rfl ?_)
        rw [CompPost, HFB.out]
        exact ⟨rfl, by first | exact hFr | exact below_drew hFr⟩
    | none =>
      change w2.cell? ⟨b, 3, none⟩ = some (.int .i64 0) at x3
      change w2.cell? ⟨b, 4, none⟩ = some (.int .i64 0) at x4
      by_cases hat : za < s.size
      · rw [if_pos hat] at hFB
        have HFB := Aside0.mk (show faultB s = some (2, za) from hFB)
        have hww := wrongW w2 w.heap.size b s ⟨za, none, zst⟩ 2 za HB2.out
        obtain ⟨z, hz⟩ : ∃ z : Int, (za : Int) = z := ⟨_, rfl⟩
        rw [hz] at x1 hww
        have d1 : decide (z < (s.size : Int)) = true := decide_eq_true (by omega)
        have HZ := Aside0.mk hz
        clear hFB hat hz
        go_wp2_with (fail)
        refine hww.mono ?_
        rintro e w3 ⟨rfl, hB3, hF3⟩
        have HP3 := Aside0.mk (hF3.blk HP2.out HPB.out.1 (by simp) (by decide))
        have HF3 := Aside0.mk (HF2.out.trans hF3.below)
        have hbk := hB3.2.choose_spec.1
        clear x3 x4 p0 p1 f0 f1 x1
        have x3 : w3.cell? ⟨b, 3, none⟩ = some (.int .i64 3) := (blk_cell hbk 3).trans rfl
        have x4 : w3.cell? ⟨b, 4, none⟩ = some (.int .i64 z) := by rw [← HZ.out]; exact (blk_cell hbk 4).trans rfl
        have hp := HP3.out
        have p0 : w3.cell? ⟨p, 0, none⟩ = some (.int .i64 0) := (blk_cell hp 0).trans rfl
        have p1 : w3.cell? ⟨p, 1, none⟩ = some (.int .i64 0) := (blk_cell hp 1).trans rfl
        have f0 := blk_frozen hp 0
        have f1 := blk_frozen hp 1
        clear hbk hB3 hF3 hp
        go_wp2_with (fail)
        go_region
        all_goals
          have hr := ret_fault HP3.out HPB.out.2 HF3.out 3 z _ rfl
          (obtain ⟨w9, hw9⟩ : ∃ w9, World.setCell (World.setCell w3 ⟨p, 0, none⟩ (.int .i64 (3))) ⟨p, 1, none⟩ (.int .i64 (z)) = w9 := ⟨_, rfl⟩; (try go_wp2_with (fail)); (try simp only [Exit.inBlock, Exit.then]); rw [hw9] at hr; (try rw [hw9]); obtain ⟨c0, c1, hFr⟩ := hr; refine bodyPost_ret (by simp [results, Try.results11, go_sem, c0, c1, hu26]; try rfl) rfl ?_)
          rw [CompPost, HFB.out]
          refine ⟨?_, by first | exact hFr | exact below_drew hFr⟩
          rw [← HZ.out]
          rfl
      · rw [if_neg hat] at hFB
        have HFB := Aside0.mk (show faultB s = none from hFB)
        obtain ⟨z, hz⟩ : ∃ z : Int, (za : Int) = z := ⟨_, rfl⟩
        rw [hz] at x1
        have d1 : decide (z < (s.size : Int)) = false := decide_eq_false (by omega)
        clear hFB hat hz
        go_wp2_with (first
          | (((with_reducible refine gate_dst (N := 47) rfl ?_); (try (refine gate_guard (by rfl) ?_; dsimp only)); refine box_event ?hg (N := 47) ?hd (cs := #[.string s, .bool true, .int .u32 0, .int .i32 0, .int .u32 0, .slice none 0 0, .int .i64 0]) (t := 58) ?hr ?_; (case hd => rfl); (case hg => rfl); (case hr => first | (go_simp; done) | (go_simp; rfl)); intro r er wr hr lr; have Er := Aside0.mk er; clear er); have hp := blk_below HP2.out lr; have p0 : wr.cell? ⟨p, 0, none⟩ = some (.int .i64 0) := (blk_cell hp 0).trans rfl; have p1 : wr.cell? ⟨p, 1, none⟩ = some (.int .i64 0) := (blk_cell hp 1).trans rfl; have f0 := blk_frozen hp 0; have f1 := blk_frozen hp 1)
          | fail)
        have hrp : r ≠ p := by have := Er.out; have := blk_lt HP2.out; omega
        have hr2 := ((Below.heap_setCell (World.setCell wr ⟨p, 0, none⟩ (.int .i64 0)) ⟨p, 1, none⟩ (.int .i64 0) r hrp).trans (Below.heap_setCell wr ⟨p, 0, none⟩ (.int .i64 0) r hrp)).trans hr
        have hrw : w.heap.size ≤ r := by have := Er.out; have := HF2.out.size; omega
        have hr := ret_fault hp HPB.out.2 (below_then HF2.out HF2.out.size lr) 0 0 _ rfl
        obtain ⟨w9, hw9⟩ : ∃ w9, World.setCell (World.setCell wr ⟨p, 0, none⟩ (.int .i64 0)) ⟨p, 1, none⟩ (.int .i64 0) = w9 := ⟨_, rfl⟩
        rw [hw9] at hr hr2
        rw [hw9]
        obtain ⟨c0, c1, hFr⟩ := hr
        (try simp only [Exit.inBlock, Exit.then])
        refine bodyPost_ret (by simp [results, Try.results11, go_sem, c0, c1, hu26]; try rfl) rfl ?_
        rw [CompPost, HFB.out]
        exact ⟨⟨r, hrw, hr2, rfl⟩, hFr⟩
  · have d0 : decide ((200 : Int) < (s.size : Int)) = true := decide_eq_true (by omega)
    have HH := Aside0.mk hs
    clear hs
    go_wp2_with (first
      | (((with_reducible refine gate_dst (N := 3) rfl ?_); (try (refine gate_guard (by rfl) ?_; dsimp only)); refine box_event ?hg (N := 3) ?hd (cs := #[.int .i64 0, .int .i64 0]) (t := 26) ?hr ?_; (case hd => rfl); (case hg => rfl); (case hr => first | (go_simp; done) | (go_simp; rfl)); intro p ep wp hp lp; have Ep := Aside0.mk ep; clear ep); have p0 : wp.cell? ⟨p, 0, none⟩ = some (.int .i64 0) := (blk_cell hp 0).trans rfl; have p1 : wp.cell? ⟨p, 1, none⟩ = some (.int .i64 0) := (blk_cell hp 1).trans rfl; have f0 := blk_frozen hp 0; have f1 := blk_frozen hp 1)
      | fail)
    have hr := ret_fault hp (by have := Ep.out; omega) lp 5 0 _ rfl
    (obtain ⟨w9, hw9⟩ : ∃ w9, World.setCell (World.setCell wp ⟨p, 0, none⟩ (.int .i64 (5))) ⟨p, 1, none⟩ (.int .i64 (0)) = w9 := ⟨_, rfl⟩; (try go_wp2_with (fail)); (try simp only [Exit.inBlock, Exit.then]); rw [hw9] at hr; (try rw [hw9]); obtain ⟨c0, c1, hFr⟩ := hr; refine bodyPost_ret (by simp [results, Try.results11, go_sem, c0, c1, hu26]; try rfl) rfl ?_)
    rw [CompPost, faultB, if_pos (by have := HH.out; omega)]
    exact ⟨rfl, hFr⟩
end Go.Proofs.Ytnjpdhekeffpnaa.Rx
