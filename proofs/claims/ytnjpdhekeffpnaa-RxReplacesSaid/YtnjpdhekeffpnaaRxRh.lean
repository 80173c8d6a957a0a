/- The document's reader of expressions: a way, walked, where a thing is told. -/
import Derived.Test.YtnjpdhekeffpnaaRxRe
import Derived.Deep.RegionLaw
set_option linter.unusedVariables false
set_option linter.unusedSimpArgs false
namespace Go.Proofs.Ytnjpdhekeffpnaa.Rx
open Go.RowKit Go.Proofs.YtnjpdhekeffpnaaW.PrintWords Go.Proofs.YtnjpdhekeffpnaaW.PrintLast Go.Proofs.YtnjpdhekeffpnaaW.PrintMore

theorem way_end {th : BS → Re × BS} {s : ByteArray} {n : Nat} {e : Re} {S : BS} (h : ∀ c, peekB s S = some c → c = 124 ∨ c = 41) : wayLE th s n e S = (e, S) := by
  cases n with
  | zero => rfl
  | succ n =>
    rw [wayLE]
    cases hc : peekB s S with
    | none => rfl
    | some c => simp only [if_pos (h c hc)]
theorem Mk.base {b base : Nat} {w W w1 : World} (h : Mk b w W) (hB : Below base W w1) (hb : w.heap.size ≤ base) (hbb : b < base) : Mk b w w1 :=
  ⟨fun B h1 h2 => (h.below B h1 h2).trans (hB.mono (by omega)), fun k hk hne => (hB.block k (by omega)).trans (h.keep k hk hne)⟩
/-- a way's walk, told -/
def WayR (b : Nat) (s : ByteArray) (o : Int) (wy : BS → Re × BS) : Prop := ∀ W S, S.F = none → S.at_ ≤ s.size → ParAt W b s S.at_ o none →
  Calls Try.prog 41 #[.pointer (some ⟨b, 0, none⟩)] W fun e W' => NOk W W' b s o (wy S) e
theorem row_new {w w1 : World} {base v : Nat} {u : Value} {l : List Nd} (h : Kd.R knd TN w base (fun _ => True) u l) (hb : Below w.heap.size w w1) (hv : w.heap.size ≤ v) : Kd.R knd TN w1 base (fun k => k ≠ v) u l :=
  Kd.R_below (Kd.R_mono (Kd.R_bound h) (fun k hk => by have := hk.2.2.1; omega)) hb
theorem knd_new {w w1 : World} {base v : Nat} {nd : Nd} {cs : List Value} (h : knd.M w base (fun _ => True) nd cs) (hb : Below w.heap.size w w1) (hv : w.heap.size ≤ v) : knd.M w1 base (fun k => k ≠ v ∧ base ≤ k) nd cs :=
  Kd.M_below (knd.M_mono (fun k hk => ⟨by have := hk.2.2.1; omega, hk.2.1⟩) (knd.M_bound h)) hb
theorem row_mk {w w' : World} {base b : Nat} {u : Value} {l : List Nd} (h : Kd.R knd TN w base (fun _ => True) u l) (k : Mk b w w') (hb : b < base) : Kd.R knd TN w' base (fun _ => True) u l :=
  Kd.R_mono (Kd.R_move (Kd.R_bound h) (fun q hq => k.keep q hq.2.2.1 (by have := hq.2.1; omega))) (fun _ _ => trivial)
theorem ParAt.mkb {w w' : World} {b at_ base : Nat} {s : ByteArray} {o : Int} {F : Option (Nat × Nat)} (h : ParAt w b s at_ o F) (hB : Below base w w') (hb : b < base) : ParAt w' b s at_ o F := (hB.block b hb).trans h
theorem row_far {w : World} {base q : Nat} {ok : Nat → Prop} {u : Value} {l : List Nd} (h : Kd.R knd TN w base ok u l) (hq : q < base) (j : Nat) (x : Value) : Kd.R knd TN (w.setCell ⟨q, j, none⟩ x) base ok u l :=
  Kd.R_mono (Kd.R_far (p := ⟨q, j, none⟩) (Kd.R_bound h) (fun k hk => by have := hk.2.1; show k ≠ q; omega) x) (fun _ hk => hk.1)
theorem knd_farO {w : World} {base q : Nat} {ok : Nat → Prop} {nd : Nd} {cs : List Value} (h : knd.M w base ok nd cs) (hq : q < base) (j : Nat) (x : Value) : knd.M (w.setCell ⟨q, j, none⟩ x) base ok nd cs :=
  knd.M_mono (fun _ hk => hk.1) (Kd.M_far (p := ⟨q, j, none⟩) (knd.M_bound h) (fun k hk => by have := hk.2.1; show k ≠ q; omega) x)
theorem far3 {w : World} {v u : Nat} {X : Option Obj} (h : w.heap[u]? = X) (hne : u ≠ v) (x y z : Value) : (((w.setCell ⟨v, 0, none⟩ x).setCell ⟨v, 1, none⟩ y).setCell ⟨v, 2, none⟩ z).heap[u]? = X :=
  ((Below.heap_setCell _ ⟨v, 2, none⟩ z u hne).trans ((Below.heap_setCell _ ⟨v, 1, none⟩ y u hne).trans (Below.heap_setCell w ⟨v, 0, none⟩ x u hne))).trans h
theorem par3 {w : World} {b at_ v : Nat} {s : ByteArray} {o : Int} {F : Option (Nat × Nat)} (h : ParAt w b s at_ o F) (hne : v ≠ b) (x y z : Value) : ParAt (((w.setCell ⟨v, 0, none⟩ x).setCell ⟨v, 1, none⟩ y).setCell ⟨v, 2, none⟩ z) b s at_ o F := ((h.other hne 0 x).other hne 1 y).other hne 2 z
theorem mk3 {w0 w : World} {b v : Nat} (h : Mk b w0 w) (hv : w0.heap.size ≤ v) (x y z : Value) : Mk b w0 (((w.setCell ⟨v, 0, none⟩ x).setCell ⟨v, 1, none⟩ y).setCell ⟨v, 2, none⟩ z) := ((h.new hv 0 x).new hv 1 y).new hv 2 z
theorem row3 {w : World} {base v : Nat} {ok : Nat → Prop} {u : Value} {l : List Nd} (h : Kd.R knd TN w base ok u l) (hok : ∀ k, ok k → k ≠ v) (x y z : Value) : Kd.R knd TN (((w.setCell ⟨v, 0, none⟩ x).setCell ⟨v, 1, none⟩ y).setCell ⟨v, 2, none⟩ z) base ok u l :=
  Kd.R_far (p := ⟨v, 2, none⟩) (Kd.R_far (p := ⟨v, 1, none⟩) (Kd.R_far (p := ⟨v, 0, none⟩) h hok x) hok y) hok z
theorem siz3 {w : World} {base : Nat} (h : base ≤ w.heap.size) (v : Nat) (x y z : Value) : base ≤ (((w.setCell ⟨v, 0, none⟩ x).setCell ⟨v, 1, none⟩ y).setCell ⟨v, 2, none⟩ z).heap.size := by simpa using h
theorem row_own {w : World} {base : Nat} {ok : Nat → Prop} {u : Value} {l : List Nd} (h : Kd.R knd TN w base ok u l) : ∀ k, u.ownBlock = some k → k < w.heap.size := fun k hk => by
  obtain ⟨_, inner, ho, _⟩ := h
  obtain ⟨cs, hc⟩ := own_typed ho k hk
  exact blk_lt hc
theorem rep_not {s : ByteArray} {e : Re} {S : BS} (h : ∀ c, peekB s S = some c → c ≠ 63 ∧ c ≠ 43 ∧ c ≠ 42) : repE s e S = (e, S) := by
  unfold repE
  cases hc : peekB s S with
  | none => rfl
  | some c =>
    obtain ⟨h1, h2, h3⟩ := h c hc
    dsimp only
    rw [if_neg h1, if_neg h2, if_neg h3]
set_option maxHeartbeats 16000000 in
set_option maxRecDepth 100000 in
theorem wayR (b : Nat) (s : ByteArray) (o : Int) (th : BS → Re × BS) (hs : s.size ≤ 200) (hth : ThR b s o th) (hpos : ∀ S, S.at_ + 1 ≤ (th S).2.at_) : WayR b s o (wayE th s) := by
  intro w S hF ha h
  have hu32 := Try.underlying32
  have hu76 := Try.underlying76
  have HS := Aside0.mk h
  have HH := Aside0.mk (⟨ha, hF, hs, hth, hpos⟩ : S.at_ ≤ s.size ∧ S.F = none ∧ s.size ≤ 200 ∧ ThR b s o th ∧ (∀ S, S.at_ + 1 ≤ (th S).2.at_))
  have hbw : b < w.heap.size := blk_lt h
  clear h hF ha hs hth hpos
  go_enter Try.func41, Try.ntmps41
  go_wp2_with (first | ((with_reducible refine gate_dst (N := 2) rfl ?_); (try (refine gate_guard (by rfl) ?_; dsimp only)); refine box_event ?hg (N := 2) ?hd (cs := #[.int .i64 0, .slice none 0 0, .slice none 0 0]) (t := 32) ?hr ?_; (case hd => rfl); (case hg => rfl); (case hr => first | (go_simp; done) | (go_simp; rfl)); intro p ep wp hp lp; have Ep := Aside0.mk ep; clear ep; have p0 : wp.cell? ⟨p, 0, none⟩ = some (.int .i64 0) := (blk_cell hp 0).trans rfl; have p1 : wp.cell? ⟨p, 1, none⟩ = some (.slice none 0 0) := (blk_cell hp 1).trans rfl; have p2 : wp.cell? ⟨p, 2, none⟩ = some (.slice none 0 0) := (blk_cell hp 2).trans rfl; have fp0 := blk_frozen hp 0; have fp1 := blk_frozen hp 1; have fp2 := blk_frozen hp 2) | ((with_reducible refine gate_dst (N := 3) rfl ?_); (try (refine gate_guard (by rfl) ?_; dsimp only)); refine box_event ?hg (N := 3) ?hd (cs := #[.int .i64 0, .slice none 0 0, .slice none 0 0]) (t := 32) ?hr ?_; (case hd => rfl); (case hg => rfl); (case hr => first | (go_simp; done) | (go_simp; rfl)); intro u eu wu hu lu; have Eu := Aside0.mk eu; clear eu; have u0 : wu.cell? ⟨u, 0, none⟩ = some (.int .i64 0) := (blk_cell hu 0).trans rfl; have u1 : wu.cell? ⟨u, 1, none⟩ = some (.slice none 0 0) := (blk_cell hu 1).trans rfl; have u2 : wu.cell? ⟨u, 2, none⟩ = some (.slice none 0 0) := (blk_cell hu 2).trans rfl; have fu0 := blk_frozen hu 0; have fu1 := blk_frozen hu 1; have fu2 := blk_frozen hu 2) | fail)
  have hpl := blk_lt hp
  have hup : p ≠ u := by have := Eu.out; omega
  have hwu : wp.heap.size ≤ u := by have := Eu.out; omega
  have hx := boxed3 hu lu hwu (.int .i64 4) (.slice none 0 0) (.slice none 0 0)
  obtain ⟨w1, hw1⟩ : ∃ w1, ((wu.setCell ⟨u, 0, none⟩ (.int .i64 4)).setCell ⟨u, 1, none⟩ (.slice none 0 0)).setCell ⟨u, 2, none⟩ (.slice none 0 0) = w1 := ⟨_, rfl⟩
  rw [hw1] at hx
  rw [hw1]
  obtain ⟨base, hbase⟩ : ∃ base, w1.heap.size = base := ⟨_, rfl⟩
  have HW := Aside0.mk (⟨by have := Ep.out; omega, by have := Ep.out; omega, by have := blk_lt hx.2; omega, by have := blk_lt hx.2; omega, by have := Ep.out; have := blk_lt hx.2; omega, by have := Ep.out; have := blk_lt hx.2; omega⟩ : w.heap.size ≤ p ∧ p ≠ b ∧ p < base ∧ u < base ∧ b < base ∧ w.heap.size ≤ base)
  have HUU := Aside0.mk (⟨hup, by have := Ep.out; omega, by have := Ep.out; omega⟩ : p ≠ u ∧ u ≠ b ∧ w.heap.size ≤ u)
  have HB1 := Aside0.mk ((HS.out.below lp).below hx.1)
  have HP1 := Aside0.mk (blk_below hp hx.1)
  have HU1 := Aside0.mk hx.2
  have HF1 := Aside0.mk ((Mk.of lp : Mk b w wp).trans (Mk.of hx.1))
  have HR1 := Aside0.mk (Kd.R_nil knd TN w1 base (fun _ => True))
  have HS1 := Aside0.mk (Nat.le_of_eq hbase.symm)
  clear hp lp hu lu hx hw1 hbase hpl hup hwu hbw p0 p1 p2 fp0 fp1 fp2 u0 u1 u2 fu0 fu1 fu2
  obtain ⟨N, hN⟩ : ∃ N, s.size + 1 = N := ⟨_, rfl⟩
  have HN := Aside0.mk (⟨hN, by rw [← hN]; rfl⟩ : s.size + 1 = N ∧ wayLE th s N .eps S = wayE th s S)
  clear hN
  go_loopg [4] (N + 1) (fun kq v4 wr => ∃ (n : Nat) (S' : BS) (e' : Re) (l : List Nd) (at' : Nat) (o' : Int) (vk : Value), v4 = v4 ∧ Aside0 (n + 1 = kq ∧ s.size < S'.at_ + n ∧ wayLE th s n e' S' = wayE th s S ∧ at' ≤ s.size ∧ (S'.F = none → at' = S'.at_ ∧ o' = o ∧ RC l e') ∧ n + l.length = s.size + 1) ∧ Aside0 (ParAt wr b s at' o' S'.F) ∧ Aside0 (Kd.R knd TN wr base (fun _ => True) vk l) ∧ Aside0 (wr.heap[u]? = some (.cells #[.int .i64 4, .slice none 0 0, vk] TN (0, 0))) ∧ Aside0 (wr.heap[p]? = some (.cells #[.int .i64 0, .slice none 0 0, .slice none 0 0] TN (0, 0))) ∧ Aside0 (Mk b w wr) ∧ Aside0 (base ≤ wr.heap.size))
  case atStart =>
    exact ⟨N, S, .eps, [], S.at_, o, _, rfl, ⟨rfl, by have := HN.out.1; omega, HN.out.2, HH.out.1, fun _ => ⟨rfl, rfl, RC.nil⟩, by have := HN.out.1; simp; omega⟩, by rw [HH.out.2.1]; exact HB1, HR1, HU1, HP1, HF1, HS1⟩
  case round =>
    clear HB1 HR1 HU1 HP1 HF1 HS1
    obtain ⟨n, S', e', l, at', o', vk, -, HI, HB, HR, HU, HP, HF, HSZ⟩ := hrel
    obtain ⟨A0, c0, rfl⟩ := Kd.R_slice HR.out
    have ihP := pkW wr b s at' o' S'.F HB.out
    obtain ⟨c, hc⟩ : ∃ c, pk s at' S'.F = c := ⟨_, rfl⟩
    rw [hc] at ihP
    have hpe : peekB s S' = c := by
      cases hF : S'.F with
      | none => rw [← hc, (HI.out.2.2.2.2.1 hF).1]; rfl
      | some x => rw [peek_F hF, ← hc, hF]; rfl
    have HC := Aside0.mk (⟨hc, hpe⟩ : pk s at' S'.F = c ∧ peekB s S' = c)
    clear hc hpe
    go_wp2_with (fail)
    refine ihP.mono ?_
    rintro e wx ⟨rfl, hbx⟩
    have HBx := Aside0.mk (HB.out.below hbx)
    have HRx := Aside0.mk (Kd.R_below HR.out hbx)
    have HUx := Aside0.mk (blk_below HU.out hbx)
    have HPx := Aside0.mk (blk_below HP.out hbx)
    have HFx := Aside0.mk (HF.out.trans (Mk.of hbx))
    have HSx := Aside0.mk (Nat.le_trans HSZ.out hbx.size)
    clear hbx ihP HB HR HU HP HF HSZ
    by_cases hcs : ∀ c', c = some c' → c' = 124 ∨ c' = 41
    · have hE := HI.out.2.2.1
      rw [way_end (fun c' hc' => hcs c' (HC.out.2.symm.trans hc'))] at hE
      have HE := Aside0.mk hE
      have hcc : c = none ∨ c = some 124 ∨ c = some 41 := by
        cases c with
        | none => exact .inl rfl
        | some c' => rcases hcs c' rfl with rfl | rfl; exact .inr (.inl rfl); exact .inr (.inr rfl)
      have hp := HPx.out
      have hu := HUx.out
      (have p0 : wx.cell? ⟨p, 0, none⟩ = some (.int .i64 0) := (blk_cell hp 0).trans rfl; have p1 : wx.cell? ⟨p, 1, none⟩ = some (.slice none 0 0) := (blk_cell hp 1).trans rfl; have p2 : wx.cell? ⟨p, 2, none⟩ = some (.slice none 0 0) := (blk_cell hp 2).trans rfl; have fp0 := blk_frozen hp 0; have fp1 := blk_frozen hp 1; have fp2 := blk_frozen hp 2)
      have u0 := (blk_cell hu 0).trans (show _ = some (Value.int .i64 4) from rfl)
      have u1 := (blk_cell hu 1).trans (show _ = some (Value.slice none 0 0) from rfl)
      have u2 := (blk_cell hu 2).trans (show _ = some (Value.slice A0 l.length c0) from rfl)
      clear hcs hE hp hu
      rcases hcc with rfl | rfl | rfl
      all_goals
        go_wp2_with (fail)
        have hr := nok_ret (o := o) (r := wayE th s S) HPx.out HW.out.1 HW.out.2.1 HW.out.2.2.1 (knd_mk (k := 4) (Kd.R_nil _ _ _ _ _) HRx.out) HFx.out (by rw [← HE.out]; exact HBx.out) HI.out.2.2.2.1 (fun hn => by rw [← HE.out] at hn ⊢; have := HI.out.2.2.2.2.1 hn; exact ⟨this.1, this.2.1, RT.way this.2.2⟩)
        (obtain ⟨w9, hw9⟩ : ∃ w9, World.setCell (World.setCell (World.setCell wx ⟨p, 0, none⟩ (.int .i64 (4))) ⟨p, 1, none⟩ (.slice none 0 0)) ⟨p, 2, none⟩ (.slice A0 l.length c0) = w9 := ⟨_, rfl⟩; (try simp only [Exit.inBlock, Exit.then]); (try rw [hw9]); obtain ⟨c0, c1, c2, hN⟩ := hr w9 hw9; clear hw9; refine bodyPost_ret (by simp [results, Try.results41, go_sem, c0, c1, c2, hu32]; try rfl) rfl ?_)
        exact hN
    · obtain ⟨c1, rfl, hc1⟩ : ∃ c1, c = some c1 ∧ ¬ (c1 = 124 ∨ c1 = 41) := by
        cases c with
        | none => exact absurd (fun c' h => by cases h) hcs
        | some c' => exact ⟨c', rfl, fun h => hcs (fun c'' h2 => by injection h2 with h2; rw [← h2]; exact h)⟩
      obtain ⟨hF, hlt, -⟩ := pk_none_of HC.out.1
      obtain ⟨rfl, rfl, hRC⟩ := HI.out.2.2.2.2.1 hF
      have hB := HBx.out
      rw [hF] at hB
      obtain ⟨m, rfl⟩ : ∃ m, n = m + 1 := ⟨n - 1, by have := HI.out.2.1; omega⟩
      obtain ⟨k1, rfl⟩ : ∃ k1, gk = k1 + 1 := ⟨gk - 1, by have := HI.out; omega⟩
      have hE := HI.out.2.2.1
      rw [way_c HC.out.2, if_neg hc1] at hE
      have n1 : (c1 == 124) = false := beq_false_of_ne (fun e => hc1 (.inl e))
      have n2 : (c1 == 41) = false := beq_false_of_ne (fun e => hc1 (.inr e))
      have ihT := HH.out.2.2.2.1 wx S' hF hlt hB
      obtain ⟨T, hT⟩ : ∃ T, th S' = T := ⟨_, rfl⟩
      have hps := HH.out.2.2.2.2 S'
      rw [hT] at ihT hE hps
      have HE := Aside0.mk hE
      have HTT := Aside0.mk (⟨hT, hps, hRC, hF, hlt⟩ : th S' = T ∧ S'.at_ + 1 ≤ T.2.at_ ∧ RC l e' ∧ S'.F = none ∧ S'.at_ < s.size)
      clear hE hT hps hRC hF hlt hB hcs hc1
      go_wp2_with (fail)
      refine ihT.mono ?_
      intro e w3 hN3
      obtain ⟨k, As, ns, cs, Al, nl, cl, nd, at3, o3, rfl, hK3, hM3, hB3, ha3, hR3⟩ := hN3.open
      have HT3 := Aside0.mk (⟨ha3, hR3⟩ : at3 ≤ s.size ∧ (T.2.F = none → at3 = T.2.at_ ∧ o3 = o' ∧ RT nd T.1))
      have HR3 := Aside0.mk (row_mk HRx.out hK3 HW.out.2.2.2.2.1)
      have HU3 := Aside0.mk (hK3.at HUx.out HUU.out.2.1)
      have HP3 := Aside0.mk (hK3.at HPx.out HW.out.2.1)
      have HF3 := Aside0.mk (HFx.out.trans hK3)
      have HS3 := Aside0.mk (Nat.le_trans HSx.out hK3.size)
      have HX3 := Aside0.mk hK3.size
      have HM3 := Aside0.mk hM3
      have HB3 := Aside0.mk hB3
      have HOW := Aside0.mk (row_own HRx.out)
      clear hN3 hK3 hM3 hB3 ha3 hR3 ihT HBx HUx HPx HFx HRx
      go_wp2_with (first | ((with_reducible refine gate_dst (N := 6) rfl ?_); (try (refine gate_guard (by rfl) ?_; dsimp only)); refine box_event ?hg (N := 6) ?hd (cs := #[.int .i64 0, .slice none 0 0, .slice none 0 0]) (t := 32) ?hr ?_; (case hd => rfl); (case hg => rfl); (case hr => first | (go_simp; done) | (go_simp; rfl)); intro v ev wv hv lv; have Ev := Aside0.mk ev; clear ev; have v0 : wv.cell? ⟨v, 0, none⟩ = some (.int .i64 0) := (blk_cell hv 0).trans rfl; have v1 : wv.cell? ⟨v, 1, none⟩ = some (.slice none 0 0) := (blk_cell hv 1).trans rfl; have v2 : wv.cell? ⟨v, 2, none⟩ = some (.slice none 0 0) := (blk_cell hv 2).trans rfl; have fv0 := blk_frozen hv 0; have fv1 := blk_frozen hv 1; have fv2 := blk_frozen hv 2) | fail)
      have hvw : w3.heap.size ≤ v := by have := Ev.out; omega
      have hx := boxed3 hv lv hvw (.int .i64 k) (.slice As ns cs) (.slice Al nl cl)
      obtain ⟨w4, hw4⟩ : ∃ w4, ((wv.setCell ⟨v, 0, none⟩ (.int .i64 k)).setCell ⟨v, 1, none⟩ (.slice As ns cs)).setCell ⟨v, 2, none⟩ (.slice Al nl cl) = w4 := ⟨_, rfl⟩
      rw [hw4] at hx
      rw [hw4]
      obtain ⟨hl4, hv4⟩ := hx
      have HV4 := Aside0.mk hv4
      have HR4 := Aside0.mk (row_new HR3.out hl4 hvw)
      have HM4 := Aside0.mk (knd_new HM3.out hl4 hvw)
      have HU4 := Aside0.mk (blk_below HU3.out hl4)
      have HP4 := Aside0.mk (blk_below HP3.out hl4)
      have HB4 := Aside0.mk (HB3.out.below hl4)
      have HF4 := Aside0.mk (HF3.out.trans (Mk.of hl4))
      have HS4 := Aside0.mk (Nat.le_trans HS3.out hl4.size)
      have HVN := Aside0.mk (show v ≠ b ∧ u ≠ v ∧ p ≠ v ∧ base ≤ v ∧ w.heap.size ≤ v by have h1 := HW.out; have h2 := HS3.out; have h3 := blk_lt HB3.out; omega)
      have HUW := Aside0.mk HUU.out.2.2
      have HVX := Aside0.mk hvw
      clear hw4 hl4 hv4 hv lv v0 v1 v2 fv0 fv1 fv2 hvw HR3 HM3 HU3 HP3 HB3 HF3
      have ihP := pkW w4 b s at3 o3 T.2.F HB4.out
      obtain ⟨c2, hc2⟩ : ∃ c2, pk s at3 T.2.F = c2 := ⟨_, rfl⟩
      rw [hc2] at ihP
      have hpe : peekB s T.2 = c2 := by
        cases hF : T.2.F with
        | none => rw [← hc2, (HT3.out.2 hF).1]; rfl
        | some x => rw [peek_F hF, ← hc2, hF]; rfl
      have HC2 := Aside0.mk (⟨hc2, hpe⟩ : pk s at3 T.2.F = c2 ∧ peekB s T.2 = c2)
      clear hc2 hpe
      refine ihP.mono ?_
      rintro e w5 ⟨rfl, hl5⟩
      have HV5 := Aside0.mk (blk_below HV4.out hl5)
      have HRW := Aside0.mk (Kd.R_below HR4.out hl5)
      have HM5 := Aside0.mk (knd.M_lower HSx.out (Kd.M_below HM4.out hl5))
      have HU5 := Aside0.mk (blk_below HU4.out hl5)
      have HP5 := Aside0.mk (blk_below HP4.out hl5)
      have HB5 := Aside0.mk (HB4.out.below hl5)
      have HF5 := Aside0.mk (HF4.out.trans (Mk.of hl5))
      have HBS5 := Aside0.mk (Nat.le_trans HS4.out hl5.size)
      have HUB := Aside0.mk HW.out.2.2.2.1
      have HLN := Aside0.mk (show (l.length + 1) * 56 ≤ 140737488355328 by have h1 := HI.out.2.2.2.2.2; have h2 := HH.out.2.2.1; omega)
      have HOK := Aside0.mk (show ∀ q, (q ≠ v ∧ wx.heap.size ≤ q) → q ≠ v ∧ some q ≠ (Value.slice A0 l.length c0).ownBlock from fun q hq => ⟨hq.1, fun e => by have := HOW.out q e.symm; omega⟩)
      clear hl5 ihP HV4 HR4 HM4 HU4 HP4 HB4 HF4 HS4
      by_cases hrp : ∃ x, c2 = some x ∧ (x = 42 ∨ x = 43 ∨ x = 63)
      · obtain ⟨x, rfl, hx⟩ := hrp
        obtain ⟨hF2, hlt2, -⟩ := pk_none_of HC2.out.1
        obtain ⟨rfl, rfl, hRT⟩ := HT3.out.2 hF2
        have HT2 := Aside0.mk (⟨hlt2, hRT, hF2⟩ : T.2.at_ + 1 ≤ s.size ∧ RT nd T.1 ∧ T.2.F = none)
        obtain ⟨z, hz⟩ : ∃ z : Int, (T.2.at_ : Int) = z := ⟨_, rfl⟩
        have hB := HB5.out
        rw [hF2] at hB
        have x1 : w5.cell? ⟨b, 1, none⟩ = some (.int .i64 z) := by rw [← hz]; exact (blk_cell hB 1).trans rfl
        have f1 := blk_frozen hB 1
        have z0 : 0 ≤ z := by omega
        have z1 : z + 1 < 9223372036854775808 := by have := HH.out; omega
        have h1 := hB.inc 1 (z + 1) (by omega)
        have h2 := row_far HRW.out HW.out.2.2.2.2.1 1 (.int .i64 (z + 1))
        have h3 := knd_farO HM5.out HW.out.2.2.2.2.1 1 (.int .i64 (z + 1))
        have h4 := (Below.heap_setCell w5 ⟨b, 1, none⟩ (.int .i64 (z + 1)) u HUU.out.2.1).trans HU5.out
        have h5 := (Below.heap_setCell w5 ⟨b, 1, none⟩ (.int .i64 (z + 1)) p HW.out.2.1).trans HP5.out
        have h6 := (Below.heap_setCell w5 ⟨b, 1, none⟩ (.int .i64 (z + 1)) v HVN.out.1).trans HV5.out
        have h7 := HF5.out.set 1 (.int .i64 (z + 1))
        have h8 : base ≤ (w5.setCell ⟨b, 1, none⟩ (.int .i64 (z + 1))).heap.size := by simpa using HBS5.out
        obtain ⟨w7, hw7⟩ : ∃ w7, w5.setCell ⟨b, 1, none⟩ (.int .i64 (z + 1)) = w7 := ⟨_, rfl⟩
        rw [hw7] at h1 h2 h3 h4 h5 h6 h7 h8
        have HB5 := Aside0.mk h1
        have HRW := Aside0.mk h2
        have HM5 := Aside0.mk h3
        have HU5 := Aside0.mk h4
        have HP5 := Aside0.mk h5
        have HV5 := Aside0.mk h6
        have HF5 := Aside0.mk h7
        have HBS5 := Aside0.mk h8
        have HFS := Aside0.mk (show w7.heap.size ≠ v ∧ wx.heap.size ≤ w7.heap.size by have := blk_lt h6; have := HVN.out; have h9 := HX3.out; have h10 := HVX.out; omega)
        have v0 := (blk_cell h6 0).trans (show _ = some (Value.int .i64 k) from rfl)
        have v1 := (blk_cell h6 1).trans (show _ = some (Value.slice As ns cs) from rfl)
        have v2 := (blk_cell h6 2).trans (show _ = some (Value.slice Al nl cl) from rfl)
        clear h1 h2 h3 h4 h5 h6 h7 h8 hB hRT hF2 hlt2 hz
        rcases hx with rfl | rfl | rfl
        · have hEE := HE.out
          rw [show repE s T.1 T.2 = (.star T.1, skip T.2 1) by unfold repE; rw [HC2.out.2]; rfl] at hEE
          have HEE := Aside0.mk hEE
          clear hEE
          go_wp2_with (first | ((with_reducible refine gate_dst (N := 58) rfl ?_); refine Kd.R_lit knd (w0 := w7) base TN rfl (N := 58) rfl (xs := [nd]) (inner := [.int .i64 k, .slice As ns cs, .slice Al nl cl]) (ok := fun q => q ≠ v ∧ wx.heap.size ≤ q) (okp := fun q => q ≠ v ∧ wx.heap.size ≤ q) ?hr ?hp (fun _ hk => hk) ?hf (Below.refl _ _) ?hb (by simp) ?_; (case hr => first | (go_simp; done) | (go_simp; rfl)); (case hp => exact (Reps.none _ _).snoc HM5.out rfl); (case hf => exact HFS.out); (case hb => exact HBS5.out); intro v8 w8 hR8 hB8 hg8 hat8; obtain ⟨g8, c8, e8, -⟩ := Kd.R_form hR8 (by simp); rw [show ([nd] : List Nd).length = 1 from rfl] at e8; subst e8; have hl8 := grown_below hg8; have hv8 := blk_below HV5.out hl8; have v0 := (blk_cell hv8 0).trans (show _ = some (Value.int .i64 k) from rfl); have v1 := (blk_cell hv8 1).trans (show _ = some (Value.slice As ns cs) from rfl); have v2 := (blk_cell hv8 2).trans (show _ = some (Value.slice Al nl cl) from rfl); have fv0 := blk_frozen hv8 0; have fv1 := blk_frozen hv8 1; have fv2 := blk_frozen hv8 2; have hv9 := set3 hv8 (.int .i64 6) (.slice none 0 0) (.slice (some ⟨g8, 0, none⟩) 1 c8); have y0 := (blk_cell hv9 0).trans (show _ = some (Value.int .i64 6) from rfl); have y1 := (blk_cell hv9 1).trans (show _ = some (Value.slice none 0 0) from rfl); have y2 := (blk_cell hv9 2).trans (show _ = some (Value.slice (some ⟨g8, 0, none⟩) 1 c8) from rfl); have HU5 := Aside0.mk (far3 (blk_below HU5.out hl8) HVN.out.2.1 (.int .i64 6) (.slice none 0 0) (.slice (some ⟨g8, 0, none⟩) 1 c8)); have t2 := (blk_cell HU5.out 2).trans (show _ = some (Value.slice A0 l.length c0) from rfl); have HP5 := Aside0.mk (far3 (blk_below HP5.out hl8) HVN.out.2.2.1 (.int .i64 6) (.slice none 0 0) (.slice (some ⟨g8, 0, none⟩) 1 c8)); have HB5 := Aside0.mk (par3 (HB5.out.below hl8) HVN.out.1 (.int .i64 6) (.slice none 0 0) (.slice (some ⟨g8, 0, none⟩) 1 c8)); have HF5 := Aside0.mk (mk3 (HF5.out.trans (Mk.of hl8)) HVN.out.2.2.2.2 (.int .i64 6) (.slice none 0 0) (.slice (some ⟨g8, 0, none⟩) 1 c8)); have HRW := Aside0.mk (row3 (Kd.R_below HRW.out hl8) (fun _ hk => hk) (.int .i64 6) (.slice none 0 0) (.slice (some ⟨g8, 0, none⟩) 1 c8)); have HND := Aside0.mk (knd_mk (k := 6) (set := []) (vs := .slice none 0 0) (Kd.R_nil _ _ _ _ _) (row3 hR8 (fun _ hk => hk.1) (.int .i64 6) (.slice none 0 0) (.slice (some ⟨g8, 0, none⟩) 1 c8))); have HBS := Aside0.mk (siz3 (Nat.le_trans HBS5.out hl8.size) v (.int .i64 6) (.slice none 0 0) (.slice (some ⟨g8, 0, none⟩) 1 c8)); have HFR := Aside0.mk (show ∀ q, (((w8.setCell ⟨v, 0, none⟩ (.int .i64 6)).setCell ⟨v, 1, none⟩ (.slice none 0 0)).setCell ⟨v, 2, none⟩ (.slice (some ⟨g8, 0, none⟩) 1 c8)).heap.size ≤ q → q ≠ v from fun q hq => by have := blk_lt hv9; omega); obtain ⟨w9, hw9⟩ : ∃ w9, ((w8.setCell ⟨v, 0, none⟩ (.int .i64 6)).setCell ⟨v, 1, none⟩ (.slice none 0 0)).setCell ⟨v, 2, none⟩ (.slice (some ⟨g8, 0, none⟩) 1 c8) = w9 := ⟨_, rfl⟩; rw [hw9] at y0 y1 y2 HU5 t2 HP5 HB5 HF5 HRW HND HBS HFR; clear hR8 hB8 hg8 hat8 hl8 hv8 hv9) | ((with_reducible refine gate_builtin (b := .append) (xs := #[.tmp 61, .tmp 63]) rfl ?_); at_builtin; refine Kd.R_append knd (w0 := w9) base rfl (.tmp 61) (.tmp 63) 30 TN (.agg #[.int .i64 0, .slice none 0 0, .slice none 0 0]) 56 rfl Try.underlying30 infoN rfl (by decide) (by decide) (.slice A0 l.length c0) l (Nd.mk 6 [] [nd]) ([.int .i64 6, .slice none 0 0, .slice (some ⟨g8, 0, none⟩) 1 c8]) (fun k => k ≠ v) (fun k => k ≠ v ∧ wx.heap.size ≤ k) rfl rfl ?aP ?aF ?aN ?aO ?aB ?aS ?aL ?_; (case aB => exact Below.refl _ _); (case aP => exact HND.out); (case aF => exact HOK.out); (case aN => exact HFR.out); (case aO => exact HRW.out); (case aS => exact HBS.out); (case aL => exact HLN.out); intro v6 w6 hR6 hB6 hg6 hat6; obtain ⟨A6, c6, e6⟩ := Kd.R_slice hR6; subst e6; have hu6 := (hB6.block u HUB.out).trans HU5.out; have z2 := (blk_cell hu6 2).trans (show _ = some (Value.slice A0 l.length c0) from rfl); have g2 := blk_frozen hu6 2; have HR6 := Aside0.mk hR6; have HB6 := Aside0.mk hB6; have HU6 := Aside0.mk hu6; clear hR6 hB6 hg6 hat6 hu6) | fail)
          have hl6 : (l ++ [Nd.mk 6 [] [nd]]).length = l.length + 1 := by simp
          go_roundg k1
          case measure => have := HI.out; omega
          case rel =>
            refine ⟨m, skip T.2 1, .cat e' (.star T.1), l ++ [Nd.mk 6 [] [nd]], T.2.at_ + 1, _, _, trivial, ⟨by have := HI.out; omega, by have h1 := HI.out.2.1; have h2 := HTT.out.2.1; show s.size < T.2.at_ + 1 + m; omega, HEE.out, HT2.out.1, (fun hn => ⟨rfl, rfl, RC.snoc HTT.out.2.2.1 (RT.star HT2.out.2.1)⟩), by have := HI.out.2.2.2.2.2; rw [hl6]; omega⟩, ⟨by show ParAt _ _ _ _ _ T.2.F; rw [HT2.out.2.2]; exact ((HB5.out : ParAt _ _ _ _ _ _).mkb HB6.out HW.out.2.2.2.2.1).other HUU.out.2.1 2 _⟩, ⟨row_far (Kd.R_mono HR6.out (fun _ _ => trivial)) HUB.out 2 _⟩, ⟨?_⟩, ⟨(Below.heap_setCell _ ⟨u, 2, none⟩ _ p HUU.out.1).trans ((HB6.out.block p HW.out.2.2.1).trans HP5.out)⟩, ⟨(HF5.out.base HB6.out HW.out.2.2.2.2.2 HW.out.2.2.2.2.1).new HUW.out 2 _⟩, ⟨by have := HB6.out.size; have := HBS.out; simpa using Nat.le_trans HBS.out HB6.out.size⟩⟩
            exact (blk_set HU6.out 2 _).trans (by simp)
        · have hEE := HE.out
          rw [show repE s T.1 T.2 = (.plus T.1, skip T.2 1) by unfold repE; rw [HC2.out.2]; rfl] at hEE
          have HEE := Aside0.mk hEE
          clear hEE
          go_wp2_with (first | ((with_reducible refine gate_dst (N := 58) rfl ?_); refine Kd.R_lit knd (w0 := w7) base TN rfl (N := 58) rfl (xs := [nd]) (inner := [.int .i64 k, .slice As ns cs, .slice Al nl cl]) (ok := fun q => q ≠ v ∧ wx.heap.size ≤ q) (okp := fun q => q ≠ v ∧ wx.heap.size ≤ q) ?hr ?hp (fun _ hk => hk) ?hf (Below.refl _ _) ?hb (by simp) ?_; (case hr => first | (go_simp; done) | (go_simp; rfl)); (case hp => exact (Reps.none _ _).snoc HM5.out rfl); (case hf => exact HFS.out); (case hb => exact HBS5.out); intro v8 w8 hR8 hB8 hg8 hat8; obtain ⟨g8, c8, e8, -⟩ := Kd.R_form hR8 (by simp); rw [show ([nd] : List Nd).length = 1 from rfl] at e8; subst e8; have hl8 := grown_below hg8; have hv8 := blk_below HV5.out hl8; have v0 := (blk_cell hv8 0).trans (show _ = some (Value.int .i64 k) from rfl); have v1 := (blk_cell hv8 1).trans (show _ = some (Value.slice As ns cs) from rfl); have v2 := (blk_cell hv8 2).trans (show _ = some (Value.slice Al nl cl) from rfl); have fv0 := blk_frozen hv8 0; have fv1 := blk_frozen hv8 1; have fv2 := blk_frozen hv8 2; have hv9 := set3 hv8 (.int .i64 7) (.slice none 0 0) (.slice (some ⟨g8, 0, none⟩) 1 c8); have y0 := (blk_cell hv9 0).trans (show _ = some (Value.int .i64 7) from rfl); have y1 := (blk_cell hv9 1).trans (show _ = some (Value.slice none 0 0) from rfl); have y2 := (blk_cell hv9 2).trans (show _ = some (Value.slice (some ⟨g8, 0, none⟩) 1 c8) from rfl); have HU5 := Aside0.mk (far3 (blk_below HU5.out hl8) HVN.out.2.1 (.int .i64 7) (.slice none 0 0) (.slice (some ⟨g8, 0, none⟩) 1 c8)); have t2 := (blk_cell HU5.out 2).trans (show _ = some (Value.slice A0 l.length c0) from rfl); have HP5 := Aside0.mk (far3 (blk_below HP5.out hl8) HVN.out.2.2.1 (.int .i64 7) (.slice none 0 0) (.slice (some ⟨g8, 0, none⟩) 1 c8)); have HB5 := Aside0.mk (par3 (HB5.out.below hl8) HVN.out.1 (.int .i64 7) (.slice none 0 0) (.slice (some ⟨g8, 0, none⟩) 1 c8)); have HF5 := Aside0.mk (mk3 (HF5.out.trans (Mk.of hl8)) HVN.out.2.2.2.2 (.int .i64 7) (.slice none 0 0) (.slice (some ⟨g8, 0, none⟩) 1 c8)); have HRW := Aside0.mk (row3 (Kd.R_below HRW.out hl8) (fun _ hk => hk) (.int .i64 7) (.slice none 0 0) (.slice (some ⟨g8, 0, none⟩) 1 c8)); have HND := Aside0.mk (knd_mk (k := 7) (set := []) (vs := .slice none 0 0) (Kd.R_nil _ _ _ _ _) (row3 hR8 (fun _ hk => hk.1) (.int .i64 7) (.slice none 0 0) (.slice (some ⟨g8, 0, none⟩) 1 c8))); have HBS := Aside0.mk (siz3 (Nat.le_trans HBS5.out hl8.size) v (.int .i64 7) (.slice none 0 0) (.slice (some ⟨g8, 0, none⟩) 1 c8)); have HFR := Aside0.mk (show ∀ q, (((w8.setCell ⟨v, 0, none⟩ (.int .i64 7)).setCell ⟨v, 1, none⟩ (.slice none 0 0)).setCell ⟨v, 2, none⟩ (.slice (some ⟨g8, 0, none⟩) 1 c8)).heap.size ≤ q → q ≠ v from fun q hq => by have := blk_lt hv9; omega); obtain ⟨w9, hw9⟩ : ∃ w9, ((w8.setCell ⟨v, 0, none⟩ (.int .i64 7)).setCell ⟨v, 1, none⟩ (.slice none 0 0)).setCell ⟨v, 2, none⟩ (.slice (some ⟨g8, 0, none⟩) 1 c8) = w9 := ⟨_, rfl⟩; rw [hw9] at y0 y1 y2 HU5 t2 HP5 HB5 HF5 HRW HND HBS HFR; clear hR8 hB8 hg8 hat8 hl8 hv8 hv9) | ((with_reducible refine gate_builtin (b := .append) (xs := #[.tmp 61, .tmp 63]) rfl ?_); at_builtin; refine Kd.R_append knd (w0 := w9) base rfl (.tmp 61) (.tmp 63) 30 TN (.agg #[.int .i64 0, .slice none 0 0, .slice none 0 0]) 56 rfl Try.underlying30 infoN rfl (by decide) (by decide) (.slice A0 l.length c0) l (Nd.mk 7 [] [nd]) ([.int .i64 7, .slice none 0 0, .slice (some ⟨g8, 0, none⟩) 1 c8]) (fun k => k ≠ v) (fun k => k ≠ v ∧ wx.heap.size ≤ k) rfl rfl ?aP ?aF ?aN ?aO ?aB ?aS ?aL ?_; (case aB => exact Below.refl _ _); (case aP => exact HND.out); (case aF => exact HOK.out); (case aN => exact HFR.out); (case aO => exact HRW.out); (case aS => exact HBS.out); (case aL => exact HLN.out); intro v6 w6 hR6 hB6 hg6 hat6; obtain ⟨A6, c6, e6⟩ := Kd.R_slice hR6; subst e6; have hu6 := (hB6.block u HUB.out).trans HU5.out; have z2 := (blk_cell hu6 2).trans (show _ = some (Value.slice A0 l.length c0) from rfl); have g2 := blk_frozen hu6 2; have HR6 := Aside0.mk hR6; have HB6 := Aside0.mk hB6; have HU6 := Aside0.mk hu6; clear hR6 hB6 hg6 hat6 hu6) | fail)
          have hl6 : (l ++ [Nd.mk 7 [] [nd]]).length = l.length + 1 := by simp
          go_roundg k1
          case measure => have := HI.out; omega
          case rel =>
            refine ⟨m, skip T.2 1, .cat e' (.plus T.1), l ++ [Nd.mk 7 [] [nd]], T.2.at_ + 1, _, _, trivial, ⟨by have := HI.out; omega, by have h1 := HI.out.2.1; have h2 := HTT.out.2.1; show s.size < T.2.at_ + 1 + m; omega, HEE.out, HT2.out.1, (fun hn => ⟨rfl, rfl, RC.snoc HTT.out.2.2.1 (RT.plus HT2.out.2.1)⟩), by have := HI.out.2.2.2.2.2; rw [hl6]; omega⟩, ⟨by show ParAt _ _ _ _ _ T.2.F; rw [HT2.out.2.2]; exact ((HB5.out : ParAt _ _ _ _ _ _).mkb HB6.out HW.out.2.2.2.2.1).other HUU.out.2.1 2 _⟩, ⟨row_far (Kd.R_mono HR6.out (fun _ _ => trivial)) HUB.out 2 _⟩, ⟨?_⟩, ⟨(Below.heap_setCell _ ⟨u, 2, none⟩ _ p HUU.out.1).trans ((HB6.out.block p HW.out.2.2.1).trans HP5.out)⟩, ⟨(HF5.out.base HB6.out HW.out.2.2.2.2.2 HW.out.2.2.2.2.1).new HUW.out 2 _⟩, ⟨by have := HB6.out.size; have := HBS.out; simpa using Nat.le_trans HBS.out HB6.out.size⟩⟩
            exact (blk_set HU6.out 2 _).trans (by simp)
        · have hEE := HE.out
          rw [show repE s T.1 T.2 = (.opt T.1, skip T.2 1) by unfold repE; rw [HC2.out.2]; rfl] at hEE
          have HEE := Aside0.mk hEE
          clear hEE
          go_wp2_with (first | ((with_reducible refine gate_dst (N := 58) rfl ?_); refine Kd.R_lit knd (w0 := w7) base TN rfl (N := 58) rfl (xs := [nd]) (inner := [.int .i64 k, .slice As ns cs, .slice Al nl cl]) (ok := fun q => q ≠ v ∧ wx.heap.size ≤ q) (okp := fun q => q ≠ v ∧ wx.heap.size ≤ q) ?hr ?hp (fun _ hk => hk) ?hf (Below.refl _ _) ?hb (by simp) ?_; (case hr => first | (go_simp; done) | (go_simp; rfl)); (case hp => exact (Reps.none _ _).snoc HM5.out rfl); (case hf => exact HFS.out); (case hb => exact HBS5.out); intro v8 w8 hR8 hB8 hg8 hat8; obtain ⟨g8, c8, e8, -⟩ := Kd.R_form hR8 (by simp); rw [show ([nd] : List Nd).length = 1 from rfl] at e8; subst e8; have hl8 := grown_below hg8; have hv8 := blk_below HV5.out hl8; have v0 := (blk_cell hv8 0).trans (show _ = some (Value.int .i64 k) from rfl); have v1 := (blk_cell hv8 1).trans (show _ = some (Value.slice As ns cs) from rfl); have v2 := (blk_cell hv8 2).trans (show _ = some (Value.slice Al nl cl) from rfl); have fv0 := blk_frozen hv8 0; have fv1 := blk_frozen hv8 1; have fv2 := blk_frozen hv8 2; have hv9 := set3 hv8 (.int .i64 8) (.slice none 0 0) (.slice (some ⟨g8, 0, none⟩) 1 c8); have y0 := (blk_cell hv9 0).trans (show _ = some (Value.int .i64 8) from rfl); have y1 := (blk_cell hv9 1).trans (show _ = some (Value.slice none 0 0) from rfl); have y2 := (blk_cell hv9 2).trans (show _ = some (Value.slice (some ⟨g8, 0, none⟩) 1 c8) from rfl); have HU5 := Aside0.mk (far3 (blk_below HU5.out hl8) HVN.out.2.1 (.int .i64 8) (.slice none 0 0) (.slice (some ⟨g8, 0, none⟩) 1 c8)); have t2 := (blk_cell HU5.out 2).trans (show _ = some (Value.slice A0 l.length c0) from rfl); have HP5 := Aside0.mk (far3 (blk_below HP5.out hl8) HVN.out.2.2.1 (.int .i64 8) (.slice none 0 0) (.slice (some ⟨g8, 0, none⟩) 1 c8)); have HB5 := Aside0.mk (par3 (HB5.out.below hl8) HVN.out.1 (.int .i64 8) (.slice none 0 0) (.slice (some ⟨g8, 0, none⟩) 1 c8)); have HF5 := Aside0.mk (mk3 (HF5.out.trans (Mk.of hl8)) HVN.out.2.2.2.2 (.int .i64 8) (.slice none 0 0) (.slice (some ⟨g8, 0, none⟩) 1 c8)); have HRW := Aside0.mk (row3 (Kd.R_below HRW.out hl8) (fun _ hk => hk) (.int .i64 8) (.slice none 0 0) (.slice (some ⟨g8, 0, none⟩) 1 c8)); have HND := Aside0.mk (knd_mk (k := 8) (set := []) (vs := .slice none 0 0) (Kd.R_nil _ _ _ _ _) (row3 hR8 (fun _ hk => hk.1) (.int .i64 8) (.slice none 0 0) (.slice (some ⟨g8, 0, none⟩) 1 c8))); have HBS := Aside0.mk (siz3 (Nat.le_trans HBS5.out hl8.size) v (.int .i64 8) (.slice none 0 0) (.slice (some ⟨g8, 0, none⟩) 1 c8)); have HFR := Aside0.mk (show ∀ q, (((w8.setCell ⟨v, 0, none⟩ (.int .i64 8)).setCell ⟨v, 1, none⟩ (.slice none 0 0)).setCell ⟨v, 2, none⟩ (.slice (some ⟨g8, 0, none⟩) 1 c8)).heap.size ≤ q → q ≠ v from fun q hq => by have := blk_lt hv9; omega); obtain ⟨w9, hw9⟩ : ∃ w9, ((w8.setCell ⟨v, 0, none⟩ (.int .i64 8)).setCell ⟨v, 1, none⟩ (.slice none 0 0)).setCell ⟨v, 2, none⟩ (.slice (some ⟨g8, 0, none⟩) 1 c8) = w9 := ⟨_, rfl⟩; rw [hw9] at y0 y1 y2 HU5 t2 HP5 HB5 HF5 HRW HND HBS HFR; clear hR8 hB8 hg8 hat8 hl8 hv8 hv9) | ((with_reducible refine gate_builtin (b := .append) (xs := #[.tmp 61, .tmp 63]) rfl ?_); at_builtin; refine Kd.R_append knd (w0 := w9) base rfl (.tmp 61) (.tmp 63) 30 TN (.agg #[.int .i64 0, .slice none 0 0, .slice none 0 0]) 56 rfl Try.underlying30 infoN rfl (by decide) (by decide) (.slice A0 l.length c0) l (Nd.mk 8 [] [nd]) ([.int .i64 8, .slice none 0 0, .slice (some ⟨g8, 0, none⟩) 1 c8]) (fun k => k ≠ v) (fun k => k ≠ v ∧ wx.heap.size ≤ k) rfl rfl ?aP ?aF ?aN ?aO ?aB ?aS ?aL ?_; (case aB => exact Below.refl _ _); (case aP => exact HND.out); (case aF => exact HOK.out); (case aN => exact HFR.out); (case aO => exact HRW.out); (case aS => exact HBS.out); (case aL => exact HLN.out); intro v6 w6 hR6 hB6 hg6 hat6; obtain ⟨A6, c6, e6⟩ := Kd.R_slice hR6; subst e6; have hu6 := (hB6.block u HUB.out).trans HU5.out; have z2 := (blk_cell hu6 2).trans (show _ = some (Value.slice A0 l.length c0) from rfl); have g2 := blk_frozen hu6 2; have HR6 := Aside0.mk hR6; have HB6 := Aside0.mk hB6; have HU6 := Aside0.mk hu6; clear hR6 hB6 hg6 hat6 hu6) | fail)
          have hl6 : (l ++ [Nd.mk 8 [] [nd]]).length = l.length + 1 := by simp
          go_roundg k1
          case measure => have := HI.out; omega
          case rel =>
            refine ⟨m, skip T.2 1, .cat e' (.opt T.1), l ++ [Nd.mk 8 [] [nd]], T.2.at_ + 1, _, _, trivial, ⟨by have := HI.out; omega, by have h1 := HI.out.2.1; have h2 := HTT.out.2.1; show s.size < T.2.at_ + 1 + m; omega, HEE.out, HT2.out.1, (fun hn => ⟨rfl, rfl, RC.snoc HTT.out.2.2.1 (RT.opt HT2.out.2.1)⟩), by have := HI.out.2.2.2.2.2; rw [hl6]; omega⟩, ⟨by show ParAt _ _ _ _ _ T.2.F; rw [HT2.out.2.2]; exact ((HB5.out : ParAt _ _ _ _ _ _).mkb HB6.out HW.out.2.2.2.2.1).other HUU.out.2.1 2 _⟩, ⟨row_far (Kd.R_mono HR6.out (fun _ _ => trivial)) HUB.out 2 _⟩, ⟨?_⟩, ⟨(Below.heap_setCell _ ⟨u, 2, none⟩ _ p HUU.out.1).trans ((HB6.out.block p HW.out.2.2.1).trans HP5.out)⟩, ⟨(HF5.out.base HB6.out HW.out.2.2.2.2.2 HW.out.2.2.2.2.1).new HUW.out 2 _⟩, ⟨by have := HB6.out.size; have := HBS.out; simpa using Nat.le_trans HBS.out HB6.out.size⟩⟩
            exact (blk_set HU6.out 2 _).trans (by simp)
      · have hEE := HE.out
        rw [rep_not (fun x hx => by
          have h1 : c2 = some x := HC2.out.2.symm.trans hx
          exact ⟨fun e => hrp ⟨x, h1, .inr (.inr e)⟩, fun e => hrp ⟨x, h1, .inr (.inl e)⟩, fun e => hrp ⟨x, h1, .inl e⟩⟩)] at hEE
        have HEE := Aside0.mk hEE
        have hsp : c2 = none ∨ ∃ x, c2 = some x ∧ (x == 42) = false ∧ (x == 43) = false ∧ (x == 63) = false := by
          cases c2 with
          | none => exact .inl rfl
          | some x => exact .inr ⟨x, rfl, beq_false_of_ne (fun e => hrp ⟨x, rfl, .inl e⟩), beq_false_of_ne (fun e => hrp ⟨x, rfl, .inr (.inl e)⟩), beq_false_of_ne (fun e => hrp ⟨x, rfl, .inr (.inr e)⟩)⟩
        have hv := HV5.out
        have v0 := (blk_cell hv 0).trans (show _ = some (Value.int .i64 k) from rfl)
        have v1 := (blk_cell hv 1).trans (show _ = some (Value.slice As ns cs) from rfl)
        have v2 := (blk_cell hv 2).trans (show _ = some (Value.slice Al nl cl) from rfl)
        have t2 := (blk_cell HU5.out 2).trans (show _ = some (Value.slice A0 l.length c0) from rfl)
        have HND := HM5
        have HBS := HBS5
        have HFR := Aside0.mk (show ∀ q, w5.heap.size ≤ q → q ≠ v from fun q hq => by have := blk_lt hv; omega)
        clear hv hrp hEE
        rcases hsp with rfl | ⟨x, rfl, x1, x2, x3⟩
        all_goals
          go_wp2_with (first | ((with_reducible refine gate_builtin (b := .append) (xs := #[.tmp 61, .tmp 63]) rfl ?_); at_builtin; refine Kd.R_append knd (w0 := w5) base rfl (.tmp 61) (.tmp 63) 30 TN (.agg #[.int .i64 0, .slice none 0 0, .slice none 0 0]) 56 rfl Try.underlying30 infoN rfl (by decide) (by decide) (.slice A0 l.length c0) l (nd) ([.int .i64 k, .slice As ns cs, .slice Al nl cl]) (fun k => k ≠ v) (fun k => k ≠ v ∧ wx.heap.size ≤ k) rfl rfl ?aP ?aF ?aN ?aO ?aB ?aS ?aL ?_; (case aB => exact Below.refl _ _); (case aP => exact HND.out); (case aF => exact HOK.out); (case aN => exact HFR.out); (case aO => exact HRW.out); (case aS => exact HBS.out); (case aL => exact HLN.out); intro v6 w6 hR6 hB6 hg6 hat6; obtain ⟨A6, c6, e6⟩ := Kd.R_slice hR6; subst e6; have hu6 := (hB6.block u HUB.out).trans HU5.out; have z2 := (blk_cell hu6 2).trans (show _ = some (Value.slice A0 l.length c0) from rfl); have g2 := blk_frozen hu6 2; have HR6 := Aside0.mk hR6; have HB6 := Aside0.mk hB6; have HU6 := Aside0.mk hu6; clear hR6 hB6 hg6 hat6 hu6) | fail)
          have hl6 : (l ++ [nd]).length = l.length + 1 := by simp
          go_roundg k1
          case measure => have := HI.out; omega
          case rel =>
            refine ⟨m, T.2, .cat e' T.1, l ++ [nd], at3, o3, _, trivial, ⟨by have := HI.out; omega, by have h1 := HI.out.2.1; have h2 := HTT.out.2.1; show s.size < T.2.at_ + m; omega, HEE.out, HT3.out.1, (fun hn => ⟨(HT3.out.2 hn).1, (HT3.out.2 hn).2.1, RC.snoc HTT.out.2.2.1 (HT3.out.2 hn).2.2⟩), by have := HI.out.2.2.2.2.2; rw [hl6]; omega⟩, ⟨((HB5.out : ParAt _ _ _ _ _ _).mkb HB6.out HW.out.2.2.2.2.1).other HUU.out.2.1 2 _⟩, ⟨row_far (Kd.R_mono HR6.out (fun _ _ => trivial)) HUB.out 2 _⟩, ⟨?_⟩, ⟨(Below.heap_setCell _ ⟨u, 2, none⟩ _ p HUU.out.1).trans ((HB6.out.block p HW.out.2.2.1).trans HP5.out)⟩, ⟨(HF5.out.base HB6.out HW.out.2.2.2.2.2 HW.out.2.2.2.2.1).new HUW.out 2 _⟩, ⟨by have := HB6.out.size; have := HBS.out; simpa using Nat.le_trans HBS.out HB6.out.size⟩⟩
            exact (blk_set HU6.out 2 _).trans (by simp)
end Go.Proofs.Ytnjpdhekeffpnaa.Rx

/- The document's reader of expressions: ways, walked, where a way is told. -/
set_option linter.unusedVariables false
set_option linter.unusedSimpArgs false
namespace Go.Proofs.Ytnjpdhekeffpnaa.Rx
open Go.RowKit Go.Proofs.YtnjpdhekeffpnaaW.PrintWords Go.Proofs.YtnjpdhekeffpnaaW.PrintLast Go.Proofs.YtnjpdhekeffpnaaW.PrintMore

theorem row_newO {w w1 : World} {base u : Nat} {ok : Nat → Prop} {x : Value} {l : List Nd} (h : Kd.R knd TN w base ok x l) (hb : Below w.heap.size w w1) (hu : w.heap.size ≤ u) : Kd.R knd TN w1 base (fun k => k ≠ u) x l :=
  Kd.R_below (Kd.R_mono (Kd.R_bound h) (fun k hk => by have := hk.2.2.1; omega)) hb
theorem row_mkO {w w' : World} {base b : Nat} {ok : Nat → Prop} {u : Value} {l : List Nd} (h : Kd.R knd TN w base ok u l) (k : Mk b w w') (hb : b < base) : Kd.R knd TN w' base ok u l :=
  Kd.R_mono (Kd.R_move (Kd.R_bound h) (fun q hq => k.keep q hq.2.2.1 (by have := hq.2.1; omega))) (fun _ hq => hq.1)
theorem ways_end {th : BS → Re × BS} {s : ByteArray} {n : Nat} {e : Re} {S : BS} (h : peekB s S ≠ some 124) : waysLE th s n e S = (e, S) := by
  cases n with
  | zero => rfl
  | succ n => rw [ways_c, if_neg h]
set_option maxHeartbeats 16000000 in
set_option maxRecDepth 100000 in
theorem waysR (b : Nat) (s : ByteArray) (o : Int) (th : BS → Re × BS) (hs : s.size ≤ 200) (hwy : WayR b s o (wayE th s)) (hpos : ∀ S, S.at_ + 1 ≤ (th S).2.at_) : WysR b s o (waysFE th s) := by
  intro w S hF ha h
  have hu32 := Try.underlying32
  have hu76 := Try.underlying76
  have HS := Aside0.mk h
  have HH := Aside0.mk (⟨ha, hF, hs, hwy, hpos⟩ : S.at_ ≤ s.size ∧ S.F = none ∧ s.size ≤ 200 ∧ WayR b s o (wayE th s) ∧ (∀ S, S.at_ + 1 ≤ (th S).2.at_))
  have hbw : b < w.heap.size := blk_lt h
  clear h hF ha hs hwy hpos
  go_enter Try.func25, Try.ntmps25
  go_wp2_with (first | ((with_reducible refine gate_dst (N := 2) rfl ?_); (try (refine gate_guard (by rfl) ?_; dsimp only)); refine box_event ?hg (N := 2) ?hd (cs := #[.int .i64 0, .slice none 0 0, .slice none 0 0]) (t := 32) ?hr ?_; (case hd => rfl); (case hg => rfl); (case hr => first | (go_simp; done) | (go_simp; rfl)); intro p ep wp hp lp; have Ep := Aside0.mk ep; clear ep; have p0 : wp.cell? ⟨p, 0, none⟩ = some (.int .i64 0) := (blk_cell hp 0).trans rfl; have p1 : wp.cell? ⟨p, 1, none⟩ = some (.slice none 0 0) := (blk_cell hp 1).trans rfl; have p2 : wp.cell? ⟨p, 2, none⟩ = some (.slice none 0 0) := (blk_cell hp 2).trans rfl; have fp0 := blk_frozen hp 0; have fp1 := blk_frozen hp 1; have fp2 := blk_frozen hp 2) | fail)
  obtain ⟨base, hbase⟩ : ∃ base, wp.heap.size = base := ⟨_, rfl⟩
  have HW := Aside0.mk (⟨by have := Ep.out; omega, by have := Ep.out; omega, by have := blk_lt hp; omega, by have := Ep.out; have := blk_lt hp; omega, by have := Ep.out; have := blk_lt hp; omega⟩ : w.heap.size ≤ p ∧ p ≠ b ∧ p < base ∧ b < base ∧ w.heap.size ≤ base)
  have HB1 := Aside0.mk (HS.out.below lp)
  have HP1 := Aside0.mk hp
  have HF1 := Aside0.mk (Mk.of lp : Mk b w wp)
  clear hp lp p0 p1 p2 fp0 fp1 fp2 hbw
  have ihW := HH.out.2.2.2.1 wp S HH.out.2.1 HH.out.1 HB1.out
  obtain ⟨T, hT⟩ : ∃ T, wayE th s S = T := ⟨_, rfl⟩
  rw [hT] at ihW
  refine ihW.mono ?_
  intro e w3 hN3
  obtain ⟨k, As, ns, cs, Al, nl, cl, nd, at3, o3, rfl, hK3, hM3, hB3, ha3, hR3⟩ := hN3.open
  rw [hbase] at hM3
  have HT3 := Aside0.mk (⟨ha3, hR3, hT⟩ : at3 ≤ s.size ∧ (T.2.F = none → at3 = T.2.at_ ∧ o3 = o ∧ RT nd T.1) ∧ wayE th s S = T)
  have HP3 := Aside0.mk (hK3.at HP1.out HW.out.2.1)
  have HF3 := Aside0.mk (HF1.out.trans hK3)
  have HS3 := Aside0.mk (show base ≤ w3.heap.size by have := hK3.size; omega)
  have HM3 := Aside0.mk hM3
  have HB3 := Aside0.mk hB3
  clear hN3 hK3 hM3 hB3 ha3 hR3 ihW hT hbase HB1 HP1 HF1
  go_wp2_with (first | ((with_reducible refine gate_dst (N := 8) rfl ?_); refine Kd.R_lit knd (w0 := w3) base TN rfl (N := 8) rfl (xs := [nd]) (inner := [.int .i64 k, .slice As ns cs, .slice Al nl cl]) (ok := fun _ => True) (okp := fun _ => True) ?hr ?hp (fun _ hk => hk) trivial (Below.refl _ _) ?hb (by simp) ?_; (case hr => first | (go_simp; done) | (go_simp; rfl)); (case hp => exact (Reps.none _ _).snoc HM3.out rfl); (case hb => exact HS3.out); intro v8 w8 hR8 hB8 hg8 hat8; obtain ⟨g8, c8, e8, -⟩ := Kd.R_form hR8 (by simp); rw [show ([nd] : List Nd).length = 1 from rfl] at e8; subst e8; have hl8 := grown_below hg8; have HR8 := Aside0.mk hR8; have HL8 := Aside0.mk hl8; clear hR8 hB8 hg8 hat8 hl8) | ((with_reducible refine gate_dst (N := 3) rfl ?_); (try (refine gate_guard (by rfl) ?_; dsimp only)); refine box_event ?hg (N := 3) ?hd (cs := #[.int .i64 0, .slice none 0 0, .slice none 0 0]) (t := 32) ?hr ?_; (case hd => rfl); (case hg => rfl); (case hr => first | (go_simp; done) | (go_simp; rfl)); intro u eu wu hu lu; have Eu := Aside0.mk eu; clear eu; have u0 : wu.cell? ⟨u, 0, none⟩ = some (.int .i64 0) := (blk_cell hu 0).trans rfl; have u1 : wu.cell? ⟨u, 1, none⟩ = some (.slice none 0 0) := (blk_cell hu 1).trans rfl; have u2 : wu.cell? ⟨u, 2, none⟩ = some (.slice none 0 0) := (blk_cell hu 2).trans rfl; have fu0 := blk_frozen hu 0; have fu1 := blk_frozen hu 1; have fu2 := blk_frozen hu 2) | fail)
  have huw : w8.heap.size ≤ u := by have := Eu.out; omega
  have hx := boxed3 hu lu huw (.int .i64 5) (.slice none 0 0) (.slice (some ⟨g8, 0, none⟩) 1 c8)
  obtain ⟨w1, hw1⟩ : ∃ w1, ((wu.setCell ⟨u, 0, none⟩ (.int .i64 5)).setCell ⟨u, 1, none⟩ (.slice none 0 0)).setCell ⟨u, 2, none⟩ (.slice (some ⟨g8, 0, none⟩) 1 c8) = w1 := ⟨_, rfl⟩
  rw [hw1] at hx
  rw [hw1]
  have HB1 := Aside0.mk ((HB3.out.below HL8.out).below hx.1)
  have HP1 := Aside0.mk (blk_below (blk_below HP3.out HL8.out) hx.1)
  have HU1 := Aside0.mk hx.2
  have HF1 := Aside0.mk ((HF3.out.trans (Mk.of HL8.out)).trans (Mk.of hx.1))
  have HR1 := Aside0.mk (row_newO HR8.out hx.1 huw)
  have HS1 := Aside0.mk (Nat.le_trans (Nat.le_trans HS3.out HL8.out.size) hx.1.size)
  have HUU := Aside0.mk (show u ≠ b ∧ u ≠ p ∧ w.heap.size ≤ u ∧ base ≤ u by have h1 := HW.out; have h2 := HS3.out; have h3 := HL8.out.size; omega)
  clear hu lu hx hw1 huw u0 u1 u2 fu0 fu1 fu2 HB3 HP3 HF3 HS3 HM3 HR8 HL8
  obtain ⟨N, hN⟩ : ∃ N, s.size + 1 = N := ⟨_, rfl⟩
  have HN := Aside0.mk (⟨hN, by rw [← hN]; exact show waysLE th s (s.size + 1) (wayE th s S).1 (wayE th s S).2 = waysFE th s S from rfl⟩ : s.size + 1 = N ∧ waysLE th s N (wayE th s S).1 (wayE th s S).2 = waysFE th s S)
  clear hN
  go_loopg [4] (N + 1) (fun kq v4 wr => ∃ (n : Nat) (S' : BS) (e' : Re) (l : List Nd) (at' : Nat) (o' : Int) (vk : Value), v4 = v4 ∧ Aside0 (n + 1 = kq ∧ s.size < S'.at_ + n ∧ waysLE th s n e' S' = waysFE th s S ∧ at' ≤ s.size ∧ (S'.F = none → at' = S'.at_ ∧ o' = o ∧ RA l e') ∧ n + l.length = s.size + 2) ∧ Aside0 (ParAt wr b s at' o' S'.F) ∧ Aside0 (Kd.R knd TN wr base (fun k => k ≠ u) vk l) ∧ Aside0 (wr.heap[u]? = some (.cells #[.int .i64 5, .slice none 0 0, vk] TN (0, 0))) ∧ Aside0 (wr.heap[p]? = some (.cells #[.int .i64 0, .slice none 0 0, .slice none 0 0] TN (0, 0))) ∧ Aside0 (Mk b w wr) ∧ Aside0 (base ≤ wr.heap.size))
  case atStart =>
    refine ⟨N, T.2, T.1, [nd], at3, o3, _, rfl, ⟨rfl, by have := HN.out.1; omega, by have := HN.out.2; rwa [HT3.out.2.2] at this, HT3.out.1, fun hn => ⟨(HT3.out.2.1 hn).1, (HT3.out.2.1 hn).2.1, RA.one (HT3.out.2.1 hn).2.2⟩, by have := HN.out.1; simp; omega⟩, HB1, HR1, HU1, HP1, HF1, HS1⟩
  case round =>
    clear HB1 HR1 HU1 HP1 HF1 HS1
    obtain ⟨n, S', e', l, at', o', vk, -, HI, HB, HR, HU, HP, HF, HSZ⟩ := hrel
    obtain ⟨A0, c0, rfl⟩ := Kd.R_slice HR.out
    have ihP := pkW wr b s at' o' S'.F HB.out
    obtain ⟨c, hc⟩ : ∃ c, pk s at' S'.F = c := ⟨_, rfl⟩
    rw [hc] at ihP
    have hpe : peekB s S' = c := by
      cases hF : S'.F with
      | none => rw [← hc, (HI.out.2.2.2.2.1 hF).1]; rfl
      | some x => rw [peek_F hF, ← hc, hF]; rfl
    have HC := Aside0.mk (⟨hc, hpe⟩ : pk s at' S'.F = c ∧ peekB s S' = c)
    clear hc hpe
    go_wp2_with (fail)
    refine ihP.mono ?_
    rintro e wx ⟨rfl, hbx⟩
    have HBx := Aside0.mk (HB.out.below hbx)
    have HRx := Aside0.mk (Kd.R_below HR.out hbx)
    have HUx := Aside0.mk (blk_below HU.out hbx)
    have HPx := Aside0.mk (blk_below HP.out hbx)
    have HFx := Aside0.mk (HF.out.trans (Mk.of hbx))
    have HSx := Aside0.mk (Nat.le_trans HSZ.out hbx.size)
    clear hbx ihP HB HR HU HP HF HSZ
    by_cases hcs : c = some 124
    · subst hcs
      obtain ⟨hF, hlt, -⟩ := pk_none_of HC.out.1
      obtain ⟨rfl, rfl, hRA⟩ := HI.out.2.2.2.2.1 hF
      have hB := HBx.out
      rw [hF] at hB
      obtain ⟨m, rfl⟩ : ∃ m, n = m + 1 := ⟨n - 1, by have := HI.out.2.1; omega⟩
      obtain ⟨k1, rfl⟩ : ∃ k1, gk = k1 + 1 := ⟨gk - 1, by have := HI.out; omega⟩
      have hE := HI.out.2.2.1
      rw [ways_c, if_pos HC.out.2] at hE
      obtain ⟨z, hz⟩ : ∃ z : Int, (S'.at_ : Int) = z := ⟨_, rfl⟩
      have x1 : wx.cell? ⟨b, 1, none⟩ = some (.int .i64 z) := by rw [← hz]; exact (blk_cell hB 1).trans rfl
      have f1 := blk_frozen hB 1
      have z0 : 0 ≤ z := by omega
      have z1 : z + 1 < 9223372036854775808 := by have := HH.out; omega
      have h1 := hB.inc 1 (z + 1) (by omega)
      have h2 := row_far HRx.out HW.out.2.2.2.1 1 (.int .i64 (z + 1))
      have h4 := (Below.heap_setCell wx ⟨b, 1, none⟩ (.int .i64 (z + 1)) u HUU.out.1).trans HUx.out
      have h5 := (Below.heap_setCell wx ⟨b, 1, none⟩ (.int .i64 (z + 1)) p HW.out.2.1).trans HPx.out
      have h7 := HFx.out.set 1 (.int .i64 (z + 1))
      have h8 : base ≤ (wx.setCell ⟨b, 1, none⟩ (.int .i64 (z + 1))).heap.size := by simpa using HSx.out
      obtain ⟨wy, hwy⟩ : ∃ wy, wx.setCell ⟨b, 1, none⟩ (.int .i64 (z + 1)) = wy := ⟨_, rfl⟩
      rw [hwy] at h1 h2 h4 h5 h7 h8
      have HBy := Aside0.mk h1
      have HRy := Aside0.mk h2
      have HUy := Aside0.mk h4
      have HPy := Aside0.mk h5
      have HFy := Aside0.mk h7
      have HSy := Aside0.mk h8
      have hps : (skip S' 1).at_ ≤ (wayE th s (skip S' 1)).2.at_ := way_at s HH.out.2.2.2.2 _ _ _
      have ihW := fun (W : World) (hb : Below wy.heap.size wy W) => HH.out.2.2.2.1 W (skip S' 1) hF hlt (h1.below hb)
      obtain ⟨T2, hT2⟩ : ∃ T2, wayE th s (skip S' 1) = T2 := ⟨_, rfl⟩
      rw [hT2] at ihW hE hps
      have HE := Aside0.mk hE
      have HTT := Aside0.mk (⟨hps, hRA, hlt⟩ : S'.at_ + 1 ≤ T2.2.at_ ∧ RA l e' ∧ S'.at_ < s.size)
      have HLN := Aside0.mk (show (l.length + 1) * 56 ≤ 140737488355328 by have h1 := HI.out.2.2.2.2.2; have h2 := HH.out.2.2.1; omega)
      clear h1 h2 h4 h5 h7 h8 hB hF hlt hRA hE hT2 hz hps
      go_wp2_with (fail)
      (try rw [hwy])
      have y2 : wy.cell? ⟨u, 2, none⟩ = some (.slice A0 l.length c0) := (blk_cell HUy.out 2).trans rfl
      clear x1 f1
      go_region_law (first | (refine Kd.R_append_step knd (w0 := w4) base (by rfl) (.tmp 30) (.tmp 33) 30 TN (.agg #[.int .i64 0, .slice none 0 0, .slice none 0 0]) 56 (by rfl) Try.underlying30 infoN (by rfl) (by decide) (by decide) (.slice A0 l.length c0) l nd2 [.int .i64 k2, .slice As2 ns2 cs2, .slice Al2 nl2 cl2] (fun q => q ≠ u) (fun q => q ≠ u ∧ wy.drew.heap.size ≤ q) (by rfl) (by rfl) (by exact HND.out) (by exact HOK.out) (by exact HFR.out) (by exact HRW.out) (Below.refl _ _) (by exact HBS.out) (by exact HLN.out) ?_; intro v6 w6 hR6 hB6 hg6 hat6; obtain ⟨A6, c6, e6⟩ := Kd.R_slice hR6; subst e6; have hu6 := (hg6.block u (blk_lt HU4.out) HUN.out).trans HU4.out; have z2 := (blk_cell hu6 2).trans (show _ = some (Value.slice A0 l.length c0) from rfl); have g2 := blk_frozen hu6 2) | (go_simp; go_at_call 41; (with_reducible refine (ihW _ ?hA).mono ?_); (case hA => exact below_drew (Below.refl _ _)); intro e w4 hN4; obtain ⟨k2, As2, ns2, cs2, Al2, nl2, cl2, nd2, at4, o4, rfl, hK4, hM4, hB4, ha4, hR4⟩ := hN4.open; have hKd : Mk b wy w4 := (Mk.of (below_drew (Below.refl _ _))).trans hK4; have HRW := Aside0.mk (row_mkO HRy.out hKd HW.out.2.2.2.1); have HU4 := Aside0.mk (hKd.at HUy.out HUU.out.1); have HP4 := Aside0.mk (hKd.at HPy.out HW.out.2.1); have HF4 := Aside0.mk (HFy.out.trans hKd); have HBS := Aside0.mk (Nat.le_trans HSy.out hKd.size); have w2 := (blk_cell HU4.out 2).trans (show _ = some (Value.slice A0 l.length c0) from rfl); have w2a : ∀ ob : Obj, (w4.alloc ob).cell? ⟨u, 2, none⟩ = some (.slice A0 l.length c0) := (fun ob => (blk_cell (blk_below HU4.out (below_alloc (Below.refl _ _) ob)) 2).trans (show _ = some (Value.slice A0 l.length c0) from rfl)); have HOW := Aside0.mk (row_own HRy.out); have huy := blk_lt HUy.out; have HND := Aside0.mk (knd.M_lower HSy.out (knd.M_mono (fun q hq => (⟨by have h1 : wy.heap.size ≤ q := hq.2.1; omega, hq.2.1⟩ : q ≠ u ∧ wy.drew.heap.size ≤ q)) (knd.M_bound hM4))); have HOK := Aside0.mk (show ∀ q, (q ≠ u ∧ wy.drew.heap.size ≤ q) → q ≠ u ∧ some q ≠ (Value.slice A0 l.length c0).ownBlock from fun q hq => ⟨hq.1, fun e => by have h1 := HOW.out q e.symm; have h2 : wy.heap.size ≤ q := hq.2; omega⟩); have HFR := Aside0.mk (show ∀ q, w4.heap.size ≤ q → q ≠ u from fun q hq => by have := blk_lt HU4.out; omega); have HUN := Aside0.mk (show some u ≠ (Value.slice A0 l.length c0).ownBlock from fun e => HRW.out.1 u e.symm rfl); have HB4 := Aside0.mk hB4; have HR4 := Aside0.mk (⟨ha4, hR4⟩ : at4 ≤ s.size ∧ (T2.2.F = none → at4 = T2.2.at_ ∧ o4 = o' ∧ RT nd2 T2.1)); clear hN4 hK4 hM4 hB4 ha4 hR4 hKd huy) | fail)
      all_goals
        have hl6 : (l ++ [nd2]).length = l.length + 1 := by simp
        have HR6 := Aside0.mk (row_mkO (w' := w6) hR6 (Mk.refl b w6) HW.out.2.2.2.1)
        have HB6 := Aside0.mk hB6
        have HU6 := Aside0.mk hu6
        have HK6 := Aside0.mk ((HF4.out.base hB6 HW.out.2.2.2.2 HW.out.2.2.2.1).new HUU.out.2.2.1 2 (.slice A6 (l.length + 1) c6))
        have HP6 := Aside0.mk ((Below.heap_setCell w6 ⟨u, 2, none⟩ (.slice A6 (l.length + 1) c6) p (fun e => HUU.out.2.1 e.symm)).trans ((hB6.block p HW.out.2.2.1).trans HP4.out))
        clear hR6 hB6 hg6 hat6 hu6 z2 g2 y2
        (try simp only [Exit.inBlock, Exit.then])
        (try go_wp2_with (fail))
        go_roundg k1
        case measure => have := HI.out; omega
        case rel =>
          refine ⟨m, T2.2, .alt e' T2.1, l ++ [nd2], at4, o4, _, trivial, ⟨by have := HI.out; omega, by have h1 := HI.out.2.1; have h2 := HTT.out.1; omega, HE.out, HR4.out.1, fun hn => ⟨(HR4.out.2 hn).1, (HR4.out.2 hn).2.1, RA.snoc HTT.out.2.1 (HR4.out.2 hn).2.2⟩, by have := HI.out.2.2.2.2.2; rw [hl6]; omega⟩, ⟨((HB4.out : ParAt _ _ _ _ _ _).mkb HB6.out HW.out.2.2.2.1).other HUU.out.1 2 _⟩, ⟨Kd.R_far (p := ⟨u, 2, none⟩) HR6.out (fun _ hk => hk) _⟩, ⟨?_⟩, HP6, HK6, ⟨by have h1 := HB6.out.size; have h2 := HBS.out; simpa using Nat.le_trans h2 h1⟩⟩
          exact (blk_set HU6.out 2 _).trans (by simp)
    · have hE := HI.out.2.2.1
      rw [ways_end (by rw [HC.out.2]; exact hcs)] at hE
      have HE := Aside0.mk hE
      have hcc : c = none ∨ ∃ x, c = some x ∧ (x == 124) = false := by
        cases c with
        | none => exact .inl rfl
        | some x => exact .inr ⟨x, rfl, beq_false_of_ne (fun e => hcs (by rw [e]))⟩
      have hp := HPx.out
      have hu := HUx.out
      (have p0 : wx.cell? ⟨p, 0, none⟩ = some (.int .i64 0) := (blk_cell hp 0).trans rfl; have p1 : wx.cell? ⟨p, 1, none⟩ = some (.slice none 0 0) := (blk_cell hp 1).trans rfl; have p2 : wx.cell? ⟨p, 2, none⟩ = some (.slice none 0 0) := (blk_cell hp 2).trans rfl; have fp0 := blk_frozen hp 0; have fp1 := blk_frozen hp 1; have fp2 := blk_frozen hp 2)
      have u0 := (blk_cell hu 0).trans (show _ = some (Value.int .i64 5) from rfl)
      have u1 := (blk_cell hu 1).trans (show _ = some (Value.slice none 0 0) from rfl)
      have u2 := (blk_cell hu 2).trans (show _ = some (Value.slice A0 l.length c0) from rfl)
      clear hcs hE hp hu
      rcases hcc with rfl | ⟨x, rfl, hx⟩
      all_goals
        go_wp2_with (fail)
        have hr := nok_ret (o := o) (r := waysFE th s S) HPx.out HW.out.1 HW.out.2.1 HW.out.2.2.1 (knd_mk (k := 5) (Kd.R_nil _ _ _ _ _) (Kd.R_mono HRx.out (fun _ _ => trivial))) HFx.out (by rw [← HE.out]; exact HBx.out) HI.out.2.2.2.1 (fun hn => by rw [← HE.out] at hn ⊢; have := HI.out.2.2.2.2.1 hn; exact ⟨this.1, this.2.1, RT.ways this.2.2⟩)
        (obtain ⟨w9, hw9⟩ : ∃ w9, World.setCell (World.setCell (World.setCell wx ⟨p, 0, none⟩ (.int .i64 (5))) ⟨p, 1, none⟩ (.slice none 0 0)) ⟨p, 2, none⟩ (.slice A0 l.length c0) = w9 := ⟨_, rfl⟩; (try simp only [Exit.inBlock, Exit.then]); (try rw [hw9]); obtain ⟨c0, c1, c2, hN⟩ := hr w9 hw9; clear hw9; refine bodyPost_ret (by simp [results, Try.results25, go_sem, c0, c1, c2, hu32]; try rfl) rfl ?_)
        exact hN
end Go.Proofs.Ytnjpdhekeffpnaa.Rx

/- The document's reader of expressions, walked whole. -/
set_option linter.unusedVariables false
set_option linter.unusedSimpArgs false
namespace Go.Proofs.Ytnjpdhekeffpnaa.Rx
open Go.RowKit Go.Proofs.YtnjpdhekeffpnaaW.PrintWords Go.Proofs.YtnjpdhekeffpnaaW.PrintLast Go.Proofs.YtnjpdhekeffpnaaW.PrintMore

theorem posNe (n : Nat) : ((n : Int) + 1 == 0) = false := by apply beq_false_of_ne; omega
theorem thR (b : Nat) (s : ByteArray) (hs : s.size ≤ 200) : ∀ (d : Nat), d ≤ 16 → ThR b s (16 - (d : Int)) (thE s d)
  | 0, _ => thingR b s (16 - ((0 : Nat) : Int)) (fun at_ S => (.eps, wrongB 4 at_ S)) hs (groupR0 b s)
  | d + 1, hd => by
    have hw : WysR b s (16 - ((d + 1 : Nat) : Int) + 1) (waysFE (thE s d) s) := by
      rw [show (16 : Int) - ((d + 1 : Nat) : Int) + 1 = 16 - (d : Int) by omega]
      exact waysR b s _ (thE s d) hs (wayR b s _ (thE s d) hs (thR b s hs d (by omega)) (thE_pos s d)) (thE_pos s d)
    exact thingR b s _ (grpFE (waysFE (thE s d) s) s) hs (groupR1 b s _ (waysFE (thE s d) s) hs (by omega) hw)
theorem waysR16 (b : Nat) (s : ByteArray) (hs : s.size ≤ 200) : WysR b s 0 (waysE s 16) :=
  waysR b s 0 (thE s 16) hs (wayR b s 0 (thE s 16) hs (thR b s hs 16 (by omega)) (thE_pos s 16)) (thE_pos s 16)
/-- what the document's Compile answers -/
def CompR (w w' : World) (s : ByteArray) (e : Ending) : Prop :=
  ∃ (k : Int) (As : Option Addr) (ns cs : Nat) (Al : Option Addr) (nl cl : Nat), e = .returned (.tuple #[.agg #[.int .i64 k, .slice As ns cs, .slice Al nl cl], .agg #[.int .i64 (eW (faultB s)), .int .i64 (eA (faultB s))]]) ∧ Below w.heap.size w w' ∧
    (faultB s = none → ∃ nd, knd.M w' w.heap.size (fun _ => True) nd [.int .i64 k, .slice As ns cs, .slice Al nl cl] ∧ RT nd (readE s).1)
theorem cpart {w : World} {f : Nat} {x y : Int} {T : TypeId} (hf : w.heap[f]? = some (.cells #[.int .i64 x, .int .i64 y] T (0, 0))) (a c : Int) : ((w.setCell ⟨f, 0, none⟩ (.int .i64 a)).setCell ⟨f, 1, none⟩ (.int .i64 c)).heap[f]? = some (.cells #[.int .i64 a, .int .i64 c] T (0, 0)) := by
  have := blk_set (blk_set hf 0 (.int .i64 a)) 1 (.int .i64 c)
  simpa using this
theorem comp_ret {w w6 : World} {p f base : Nat} {y0 y1 y2 z0 z1 : Value} {T : TypeId} (hp : w6.heap[p]? = some (.cells #[y0, y1, y2] TN (0, 0))) (hf : w6.heap[f]? = some (.cells #[z0, z1] T (0, 0))) (hpf : p ≠ f) (hpw : w.heap.size ≤ p) (hfw : w.heap.size ≤ f) (hpb : p < base) (hfb : f < base) (hB : Below w.heap.size w w6) (hbb : w.heap.size ≤ base) (k : Int) (vs vk : Value) (a c : Int) :
    ∀ w9, ((((w6.setCell ⟨p, 0, none⟩ (.int .i64 k)).setCell ⟨p, 1, none⟩ vs).setCell ⟨p, 2, none⟩ vk).setCell ⟨f, 0, none⟩ (.int .i64 a)).setCell ⟨f, 1, none⟩ (.int .i64 c) = w9 →
      w9.cell? ⟨p, 0, none⟩ = some (.int .i64 k) ∧ w9.cell? ⟨p, 1, none⟩ = some vs ∧ w9.cell? ⟨p, 2, none⟩ = some vk ∧ w9.cell? ⟨f, 0, none⟩ = some (.int .i64 a) ∧ w9.cell? ⟨f, 1, none⟩ = some (.int .i64 c) ∧ Below w.heap.size w w9 ∧ (∀ nd cs, knd.M w6 base (fun _ => True) nd cs → knd.M w9 w.heap.size (fun _ => True) nd cs) := by
  rintro w9 rfl
  have h3 := set3 hp (.int .i64 k) vs vk
  have hf3 := far3 hf (fun e => hpf e.symm) (.int .i64 k) vs vk
  have h5 := (Below.heap_setCell _ ⟨f, 1, none⟩ (.int .i64 c) p hpf).trans ((Below.heap_setCell _ ⟨f, 0, none⟩ (.int .i64 a) p hpf).trans h3)
  have hf5 := blk_set (blk_set hf3 0 (.int .i64 a)) 1 (.int .i64 c)
  refine ⟨(blk_cell h5 0).trans rfl, (blk_cell h5 1).trans rfl, (blk_cell h5 2).trans rfl, ?_, ?_, ?_, fun nd cs hM => ?_⟩
  · have := blk_cell hf5 0; simpa using this
  · have := blk_cell hf5 1; simpa using this
  · exact ((((hB.setCell (p := ⟨p, 0, none⟩) hpw _).setCell (p := ⟨p, 1, none⟩) hpw _).setCell (p := ⟨p, 2, none⟩) hpw _).setCell (p := ⟨f, 0, none⟩) hfw _).setCell (p := ⟨f, 1, none⟩) hfw _
  · exact knd.M_lower hbb (knd_far (knd_far (knd_far (knd_far (knd_far hM hpb 0 _) hpb 1 _) hpb 2 _) hfb 0 _) hfb 1 _)
theorem far5 {w : World} {v u : Nat} {X : Option Obj} (h : w.heap[u]? = X) (hne : u ≠ v) (x0 x1 x2 x3 x4 : Value) : (((((w.setCell ⟨v, 0, none⟩ x0).setCell ⟨v, 1, none⟩ x1).setCell ⟨v, 2, none⟩ x2).setCell ⟨v, 3, none⟩ x3).setCell ⟨v, 4, none⟩ x4).heap[u]? = X :=
  ((Below.heap_setCell _ ⟨v, 4, none⟩ x4 u hne).trans (Below.heap_setCell _ ⟨v, 3, none⟩ x3 u hne)).trans (far3 h hne x0 x1 x2)
theorem par_new {wb : World} {b : Nat} {s : ByteArray} (hb : wb.heap[b]? = some (.cells #[.string ⟨#[]⟩, .int .i64 0, .int .i64 0, .int .i64 0, .int .i64 0] TPar (0, 0))) :
    ParAt (((((wb.setCell ⟨b, 0, none⟩ (.string s)).setCell ⟨b, 1, none⟩ (.int .i64 0)).setCell ⟨b, 2, none⟩ (.int .i64 0)).setCell ⟨b, 3, none⟩ (.int .i64 0)).setCell ⟨b, 4, none⟩ (.int .i64 0)) b s 0 0 none := by
  have := blk_set (blk_set (blk_set (blk_set (blk_set hb 0 (.string s)) 1 (.int .i64 0)) 2 (.int .i64 0)) 3 (.int .i64 0)) 4 (.int .i64 0)
  unfold ParAt
  rw [this]
  simp [pC, eW, eA]
set_option maxHeartbeats 16000000 in
set_option maxRecDepth 100000 in
theorem compR (w : World) (s : ByteArray) (hsz : s.size ≤ 140737488355327) : Calls Try.prog 12 #[.string s] w fun e w' => CompR w w' s e := by
  have hu32 := Try.underlying32
  have hu26 := Try.underlying26
  have hu76 := Try.underlying76
  have HSZ := Aside0.mk hsz
  clear hsz
  go_enter Try.func12, Try.ntmps12
  by_cases hs : s.size ≤ 200
  · have d0 : decide ((200 : Int) < (s.size : Int)) = false := decide_eq_false (by omega)
    have HH := Aside0.mk hs
    clear hs
    go_wp2_with (first
      | ((with_reducible refine gate_dst (N := 2) rfl ?_); (try (refine gate_guard (by rfl) ?_; dsimp only)); refine box_event ?hg (N := 2) ?hd (cs := #[.int .i64 0, .slice none 0 0, .slice none 0 0]) (t := 32) ?hr ?_; (case hd => rfl); (case hg => rfl); (case hr => first | (go_simp; done) | (go_simp; rfl)); intro p ep wp hp lp; have Ep := Aside0.mk ep; clear ep; have p0 : wp.cell? ⟨p, 0, none⟩ = some (.int .i64 0) := (blk_cell hp 0).trans rfl; have p1 : wp.cell? ⟨p, 1, none⟩ = some (.slice none 0 0) := (blk_cell hp 1).trans rfl; have p2 : wp.cell? ⟨p, 2, none⟩ = some (.slice none 0 0) := (blk_cell hp 2).trans rfl; have fp0 := blk_frozen hp 0; have fp1 := blk_frozen hp 1; have fp2 := blk_frozen hp 2)
      | ((with_reducible refine gate_dst (N := 3) rfl ?_); (try (refine gate_guard (by rfl) ?_; dsimp only)); refine box_event ?hg (N := 3) ?hd (cs := #[.int .i64 0, .int .i64 0]) (t := 26) ?hr ?_; (case hd => rfl); (case hg => rfl); (case hr => first | (go_simp; done) | (go_simp; rfl)); intro f ef wf hf lf; have Ef := Aside0.mk ef; clear ef)
      | (((with_reducible refine gate_dst (N := 4) rfl ?_); (try (refine gate_guard (by rfl) ?_; dsimp only)); refine box_event ?hg (N := 4) ?hd (cs := #[.string ⟨#[]⟩, .int .i64 0, .int .i64 0, .int .i64 0, .int .i64 0]) (t := TPar) ?hr ?_; (case hd => rfl); (case hg => rfl); (case hr => first | (go_simp; done) | (go_simp; rfl)); intro b eb wb hb lb; have Eb := Aside0.mk eb; clear eb); have b0 := (blk_cell hb 0).trans (show _ = some (Value.string ⟨#[]⟩) from rfl); have b1 := (blk_cell hb 1).trans (show _ = some (Value.int .i64 0) from rfl); have b2 := (blk_cell hb 2).trans (show _ = some (Value.int .i64 0) from rfl); have b3 := (blk_cell hb 3).trans (show _ = some (Value.int .i64 0) from rfl); have b4 := (blk_cell hb 4).trans (show _ = some (Value.int .i64 0) from rfl); have fb0 := blk_frozen hb 0; have fb1 := blk_frozen hb 1; have fb2 := blk_frozen hb 2; have fb3 := blk_frozen hb 3; have fb4 := blk_frozen hb 4)
      | fail)
    have hbw : w.heap.size ≤ b := by have := Eb.out; have := lp.size; have := lf.size; omega
    have hpf : p ≠ f := by have := Ef.out; have := blk_lt hp; omega
    have hpb : p ≠ b := by have := Eb.out; have := blk_lt (blk_below hp lf); omega
    have hfb : f ≠ b := by have := Eb.out; have := blk_lt hf; omega
    have h1 := par_new (s := s) hb
    have h2 := far5 (blk_below (blk_below hp lf) lb) hpb (.string s) (.int .i64 0) (.int .i64 0) (.int .i64 0) (.int .i64 0)
    have h3 := far5 (blk_below hf lb) hfb (.string s) (.int .i64 0) (.int .i64 0) (.int .i64 0) (.int .i64 0)
    have hBB : Below w.heap.size w wb := below_then (below_then lp lp.size lf) (below_then lp lp.size lf).size lb
    have h4 := ((((hBB.setCell (p := ⟨b, 0, none⟩) hbw (.string s)).setCell (p := ⟨b, 1, none⟩) hbw (.int .i64 0)).setCell (p := ⟨b, 2, none⟩) hbw (.int .i64 0)).setCell (p := ⟨b, 3, none⟩) hbw (.int .i64 0)).setCell (p := ⟨b, 4, none⟩) hbw (.int .i64 0)
    obtain ⟨w1, hw1⟩ : ∃ w1, ((((wb.setCell ⟨b, 0, none⟩ (.string s)).setCell ⟨b, 1, none⟩ (.int .i64 0)).setCell ⟨b, 2, none⟩ (.int .i64 0)).setCell ⟨b, 3, none⟩ (.int .i64 0)).setCell ⟨b, 4, none⟩ (.int .i64 0) = w1 := ⟨_, rfl⟩
    rw [hw1] at h1 h2 h3 h4
    rw [hw1]
    obtain ⟨base, hbase⟩ : ∃ base, w1.heap.size = base := ⟨_, rfl⟩
    have HW := Aside0.mk (⟨by have := Ep.out; omega, by have := Ef.out; have := lp.size; omega, hpf, by have := blk_lt h2; omega, by have := blk_lt h3; omega, ⟨hpb, hfb, hbw, by have := blk_lt h1; omega⟩, by have := h4.size; omega⟩ : w.heap.size ≤ p ∧ w.heap.size ≤ f ∧ p ≠ f ∧ p < base ∧ f < base ∧ (p ≠ b ∧ f ≠ b ∧ w.heap.size ≤ b ∧ b < base) ∧ w.heap.size ≤ base)
    have HB1 := Aside0.mk h1
    have HP1 := Aside0.mk h2
    have HFB1 := Aside0.mk h3
    have HL1 := Aside0.mk h4
    clear h1 h2 h3 h4 hw1 hBB hp lp hf lf hb lb hpf hpb hfb hbw p0 p1 p2 fp0 fp1 fp2 b0 b1 b2 b3 b4 fb0 fb1 fb2 fb3 fb4
    have ihW := waysR16 b s HH.out w1 ⟨0, none, []⟩ rfl (Nat.zero_le _) HB1.out
    obtain ⟨R, hR⟩ : ∃ R, waysE s 16 ⟨0, none, []⟩ = R := ⟨_, rfl⟩
    rw [hR] at ihW
    have hRE : readE s = R := hR
    refine ihW.mono ?_
    intro e w3 hN3
    obtain ⟨k, As, ns, cs, Al, nl, cl, nd, at', o', rfl, hK3, hM3, hB3, ha3, hR3⟩ := hN3.open
    rw [hbase] at hM3
    have HT3 := Aside0.mk (⟨ha3, hR3, hRE⟩ : at' ≤ s.size ∧ (R.2.F = none → at' = R.2.at_ ∧ o' = 0 ∧ RT nd R.1) ∧ readE s = R)
    have HP3 := Aside0.mk (hK3.at HP1.out HW.out.2.2.2.2.2.1.1)
    have HFB3 := Aside0.mk (hK3.at HFB1.out HW.out.2.2.2.2.2.1.2.1)
    have HBW3 := Aside0.mk (HL1.out.trans (hK3.below w.heap.size HW.out.2.2.2.2.2.1.2.2.1 HL1.out.size))
    have HM3 := Aside0.mk hM3
    have HB3 := Aside0.mk hB3
    clear hN3 hK3 hM3 hB3 ha3 hR3 ihW hR hRE hbase HB1 HP1 HFB1 HL1
    go_wp2_with (first | ((with_reducible refine gate_dst (N := 5) rfl ?_); (try (refine gate_guard (by rfl) ?_; dsimp only)); refine box_event ?hg (N := 5) ?hd (cs := #[.int .i64 0, .slice none 0 0, .slice none 0 0]) (t := 32) ?hr ?_; (case hd => rfl); (case hg => rfl); (case hr => first | (go_simp; done) | (go_simp; rfl)); intro n en wn hn ln; have En := Aside0.mk en; clear en; have n0 : wn.cell? ⟨n, 0, none⟩ = some (.int .i64 0) := (blk_cell hn 0).trans rfl; have n1 : wn.cell? ⟨n, 1, none⟩ = some (.slice none 0 0) := (blk_cell hn 1).trans rfl; have n2 : wn.cell? ⟨n, 2, none⟩ = some (.slice none 0 0) := (blk_cell hn 2).trans rfl; have fn0 := blk_frozen hn 0; have fn1 := blk_frozen hn 1; have fn2 := blk_frozen hn 2) | fail)
    have hnw : w3.heap.size ≤ n := by have := En.out; omega
    have hx := boxed3 hn ln hnw (.int .i64 k) (.slice As ns cs) (.slice Al nl cl)
    obtain ⟨w4, hw4⟩ : ∃ w4, ((wn.setCell ⟨n, 0, none⟩ (.int .i64 k)).setCell ⟨n, 1, none⟩ (.slice As ns cs)).setCell ⟨n, 2, none⟩ (.slice Al nl cl) = w4 := ⟨_, rfl⟩
    rw [hw4] at hx
    rw [hw4]
    obtain ⟨hl4, hn4⟩ := hx
    have HN4 := Aside0.mk hn4
    have HP4 := Aside0.mk (blk_below HP3.out hl4)
    have HFB4 := Aside0.mk (blk_below HFB3.out hl4)
    have HB4 := Aside0.mk (HB3.out.below hl4)
    have HM4 := Aside0.mk (knd_below HM3.out hl4)
    have HBW4 := Aside0.mk (below_then HBW3.out HBW3.out.size hl4)
    have HNN := Aside0.mk (show n ≠ b ∧ p ≠ n ∧ f ≠ n by have h1 := blk_lt HB3.out; have h2 := blk_lt HP3.out; have h3 := blk_lt HFB3.out; omega)
    clear hw4 hl4 hn4 hn ln n0 n1 n2 fn0 fn1 fn2 hnw HP3 HB3 HM3 HFB3 HBW3
    have ihP := pkW w4 b s at' o' R.2.F HB4.out
    obtain ⟨c, hc⟩ : ∃ c, pk s at' R.2.F = c := ⟨_, rfl⟩
    rw [hc] at ihP
    have HC := Aside0.mk hc
    clear hc
    refine ihP.mono ?_
    rintro e w5 ⟨rfl, hl5⟩
    have hpf : p ≠ f := HW.out.2.2.1
    have hfp : f ≠ p := fun e => hpf e.symm
    have HN5 := Aside0.mk (blk_below HN4.out hl5)
    have HP5 := Aside0.mk (blk_below HP4.out hl5)
    have HFB5 := Aside0.mk (blk_below HFB4.out hl5)
    have HB5 := Aside0.mk (HB4.out.below hl5)
    have HM5 := Aside0.mk (knd_below HM4.out hl5)
    have HBW := Aside0.mk (below_then HBW4.out HBW4.out.size hl5)
    clear ihP hl5 HN4 HP4 HB4 HM4 HFB4 HBW4
    cases hF : R.2.F with
    | some F =>
      have hcn : c = none := by rw [← HC.out, hF]; rfl
      subst hcn
      have hfe : faultB s = some F := by
        rw [fault_E, if_neg (by have := HH.out; omega), HT3.out.2.2]
        split
        · rw [wrong_some hF]; exact hF
        · exact hF
      have hB := HB5.out
      rw [hF] at hB
      obtain ⟨F1, F2⟩ := F
      have e3 : ((F1 : Int) + 1 == 0) = false := posNe F1
      obtain ⟨fz, hfz⟩ : ∃ fz : Int, (F1 : Int) + 1 = fz := ⟨_, rfl⟩
      obtain ⟨fy, hfy⟩ : ∃ fy : Int, (F2 : Int) = fy := ⟨_, rfl⟩
      have x3 : w5.cell? ⟨b, 3, none⟩ = some (.int .i64 fz) := by rw [← hfz]; exact (blk_cell hB 3).trans rfl
      have x4 : w5.cell? ⟨b, 4, none⟩ = some (.int .i64 fy) := by rw [← hfy]; exact (blk_cell hB 4).trans rfl
      rw [hfz] at e3
      have HFE := Aside0.mk (⟨hfe, hfz, hfy⟩ : faultB s = some (F1, F2) ∧ (F1 : Int) + 1 = fz ∧ (F2 : Int) = fy)
      clear hB hfe hfz hfy hF
      have hp := HP5.out
      have hf := HFB5.out
      (have p0 := (blk_cell hp 0).trans (show _ = some (Value.int .i64 0) from rfl); have p1 := (blk_cell hp 1).trans (show _ = some (Value.slice none 0 0) from rfl); have p2 := (blk_cell hp 2).trans (show _ = some (Value.slice none 0 0) from rfl); have fp0 := blk_frozen hp 0; have fp1 := blk_frozen hp 1; have fp2 := blk_frozen hp 2; have y0 := (blk_cell hf 0).trans (show _ = some (Value.int .i64 0) from rfl); have y1 := (blk_cell hf 1).trans (show _ = some (Value.int .i64 0) from rfl); have fy0 := blk_frozen hf 0; have fy1 := blk_frozen hf 1)
      clear hp hf
      go_wp2_with (fail)
      go_region
      all_goals
        have hr := comp_ret (w := w) (base := base) HP5.out HFB5.out HW.out.2.2.1 HW.out.1 HW.out.2.1 HW.out.2.2.2.1 HW.out.2.2.2.2.1 HBW.out HW.out.2.2.2.2.2.2 0 (.slice none 0 0) (.slice none 0 0) (fz) (fy)
        (obtain ⟨w9, hw9⟩ : ∃ w9, World.setCell (World.setCell (World.setCell (World.setCell (World.setCell w5 ⟨p, 0, none⟩ (.int .i64 (0))) ⟨p, 1, none⟩ (.slice none 0 0)) ⟨p, 2, none⟩ (.slice none 0 0)) ⟨f, 0, none⟩ (.int .i64 (fz))) ⟨f, 1, none⟩ (.int .i64 (fy)) = w9 := ⟨_, rfl⟩; (try go_wp2_with (fail)); (try simp only [Exit.inBlock, Exit.then]); (try rw [hw9]); obtain ⟨c0, c1, c2, c3, c4, hBel, hMM⟩ := hr w9 hw9; clear hw9; refine bodyPost_ret (by simp [results, Try.results12, go_sem, c0, c1, c2, c3, c4, hu32, hu26]; try rfl) rfl ?_)
        refine ⟨0, none, 0, 0, none, 0, 0, ?_, by first | exact hBel | exact below_drew hBel, fun hn => by rw [HFE.out.1] at hn; cases hn⟩
        rw [HFE.out.1]
        show _ = Ending.returned (.tuple #[_, .agg #[.int .i64 ((F1 : Int) + 1), .int .i64 (F2 : Int)]])
        rw [HFE.out.2.1, HFE.out.2.2]
    | none =>
      obtain ⟨rfl, rfl, hRT⟩ := HT3.out.2.1 hF
      have hB := HB5.out
      rw [hF] at hB
      by_cases hat : R.2.at_ < s.size
      · obtain ⟨c', hc'⟩ : ∃ c', c = some c' := by
          rw [← HC.out, hF]
          unfold pk peekB
          rw [if_pos ⟨rfl, hat⟩]
          exact ⟨_, rfl⟩
        subst hc'
        have hfe : faultB s = some (2, R.2.at_) := by
          rw [fault_E, if_neg (by have := HH.out; omega), HT3.out.2.2, if_pos hat, wrong_or, hF]
          rfl
        obtain ⟨z, hz⟩ : ∃ z : Int, (R.2.at_ : Int) = z := ⟨_, rfl⟩
        have x1 : w5.cell? ⟨b, 1, none⟩ = some (.int .i64 z) := by rw [← hz]; exact (blk_cell hB 1).trans rfl
        have hf := failsW w5 b s R.2.at_ _ none 2 R.2.at_ hB
        rw [hz] at hf
        have HFE := Aside0.mk (⟨hfe, hz⟩ : faultB s = some (2, R.2.at_) ∧ (R.2.at_ : Int) = z)
        clear hfe hB hF hat hRT
        go_wp2_with (fail)
        refine hf.mono ?_
        rintro e w6 ⟨rfl, hB6, hK6⟩
        have HP6 := Aside0.mk (hK6.at HP5.out HW.out.2.2.2.2.2.1.1)
        have HFB6 := Aside0.mk (hK6.at HFB5.out HW.out.2.2.2.2.2.1.2.1)
        have HBW6 := Aside0.mk (HBW.out.trans (hK6.below w.heap.size HW.out.2.2.2.2.2.1.2.2.1 HBW.out.size))
        have x3 : w6.cell? ⟨b, 3, none⟩ = some (.int .i64 3) := (blk_cell hB6 3).trans rfl
        have x4 : w6.cell? ⟨b, 4, none⟩ = some (.int .i64 z) := by rw [← hz]; exact (blk_cell hB6 4).trans rfl
        clear hf hB6 hK6 x1 hz
        have hp := HP6.out
        have hf := HFB6.out
        (have p0 := (blk_cell hp 0).trans (show _ = some (Value.int .i64 0) from rfl); have p1 := (blk_cell hp 1).trans (show _ = some (Value.slice none 0 0) from rfl); have p2 := (blk_cell hp 2).trans (show _ = some (Value.slice none 0 0) from rfl); have fp0 := blk_frozen hp 0; have fp1 := blk_frozen hp 1; have fp2 := blk_frozen hp 2; have y0 := (blk_cell hf 0).trans (show _ = some (Value.int .i64 0) from rfl); have y1 := (blk_cell hf 1).trans (show _ = some (Value.int .i64 0) from rfl); have fy0 := blk_frozen hf 0; have fy1 := blk_frozen hf 1)
        clear hp hf
        go_wp2_with (fail)
        go_region
        all_goals
          have hr := comp_ret (w := w) (base := base) HP6.out HFB6.out HW.out.2.2.1 HW.out.1 HW.out.2.1 HW.out.2.2.2.1 HW.out.2.2.2.2.1 HBW6.out HW.out.2.2.2.2.2.2 0 (.slice none 0 0) (.slice none 0 0) 3 z
          (obtain ⟨w9, hw9⟩ : ∃ w9, World.setCell (World.setCell (World.setCell (World.setCell (World.setCell w6 ⟨p, 0, none⟩ (.int .i64 (0))) ⟨p, 1, none⟩ (.slice none 0 0)) ⟨p, 2, none⟩ (.slice none 0 0)) ⟨f, 0, none⟩ (.int .i64 (3))) ⟨f, 1, none⟩ (.int .i64 (z)) = w9 := ⟨_, rfl⟩; (try go_wp2_with (fail)); (try simp only [Exit.inBlock, Exit.then]); (try rw [hw9]); obtain ⟨c0, c1, c2, c3, c4, hBel, hMM⟩ := hr w9 hw9; clear hw9; refine bodyPost_ret (by simp [results, Try.results12, go_sem, c0, c1, c2, c3, c4, hu32, hu26]; try rfl) rfl ?_)
          refine ⟨0, none, 0, 0, none, 0, 0, ?_, by first | exact hBel | exact below_drew hBel, fun hn => by rw [HFE.out.1] at hn; cases hn⟩
          rw [HFE.out.1]
          show _ = Ending.returned (.tuple #[_, .agg #[.int .i64 3, .int .i64 (R.2.at_ : Int)]])
          rw [HFE.out.2]
      · have hcn : c = none := by
          rw [← HC.out, hF]
          unfold pk peekB
          rw [if_neg (by rintro ⟨-, h⟩; exact hat h)]
        subst hcn
        have hfe : faultB s = none := by
          rw [fault_E, if_neg (by have := HH.out; omega), HT3.out.2.2, if_neg hat, hF]
        have x3 : w5.cell? ⟨b, 3, none⟩ = some (.int .i64 0) := (blk_cell hB 3).trans rfl
        have x4 : w5.cell? ⟨b, 4, none⟩ = some (.int .i64 0) := (blk_cell hB 4).trans rfl
        have hn := HN5.out
        have n0 := (blk_cell hn 0).trans (show _ = some (Value.int .i64 k) from rfl)
        have n1 := (blk_cell hn 1).trans (show _ = some (Value.slice As ns cs) from rfl)
        have n2 := (blk_cell hn 2).trans (show _ = some (Value.slice Al nl cl) from rfl)
        have HFE := Aside0.mk (⟨hfe, hRT⟩ : faultB s = none ∧ RT nd R.1)
        have hp := HP5.out
        have hf := HFB5.out
        (have p0 := (blk_cell hp 0).trans (show _ = some (Value.int .i64 0) from rfl); have p1 := (blk_cell hp 1).trans (show _ = some (Value.slice none 0 0) from rfl); have p2 := (blk_cell hp 2).trans (show _ = some (Value.slice none 0 0) from rfl); have fp0 := blk_frozen hp 0; have fp1 := blk_frozen hp 1; have fp2 := blk_frozen hp 2; have y0 := (blk_cell hf 0).trans (show _ = some (Value.int .i64 0) from rfl); have y1 := (blk_cell hf 1).trans (show _ = some (Value.int .i64 0) from rfl); have fy0 := blk_frozen hf 0; have fy1 := blk_frozen hf 1)
        clear hp hf hn hB hF hat hRT hfe
        go_wp2_with (fail)
        have hr := comp_ret (w := w) (base := base) HP5.out HFB5.out HW.out.2.2.1 HW.out.1 HW.out.2.1 HW.out.2.2.2.1 HW.out.2.2.2.2.1 HBW.out HW.out.2.2.2.2.2.2 k (.slice As ns cs) (.slice Al nl cl) 0 0
        (obtain ⟨w9, hw9⟩ : ∃ w9, World.setCell (World.setCell (World.setCell (World.setCell (World.setCell w5 ⟨p, 0, none⟩ (.int .i64 (k))) ⟨p, 1, none⟩ (.slice As ns cs)) ⟨p, 2, none⟩ (.slice Al nl cl)) ⟨f, 0, none⟩ (.int .i64 (0))) ⟨f, 1, none⟩ (.int .i64 (0)) = w9 := ⟨_, rfl⟩; (try go_wp2_with (fail)); (try simp only [Exit.inBlock, Exit.then]); (try rw [hw9]); obtain ⟨c0, c1, c2, c3, c4, hBel, hMM⟩ := hr w9 hw9; clear hw9; refine bodyPost_ret (by simp [results, Try.results12, go_sem, c0, c1, c2, c3, c4, hu32, hu26]; try rfl) rfl ?_)
        refine ⟨k, As, ns, cs, Al, nl, cl, ?_, hBel, fun _ => ⟨nd, hMM _ _ HM5.out, by rw [HT3.out.2.2]; exact HFE.out.2⟩⟩
        rw [HFE.out.1]
        rfl
  · have d0 : decide ((200 : Int) < (s.size : Int)) = true := decide_eq_true (by omega)
    have HH := Aside0.mk hs
    clear hs
    go_wp2_with (first
      | ((with_reducible refine gate_dst (N := 2) rfl ?_); (try (refine gate_guard (by rfl) ?_; dsimp only)); refine box_event ?hg (N := 2) ?hd (cs := #[.int .i64 0, .slice none 0 0, .slice none 0 0]) (t := 32) ?hr ?_; (case hd => rfl); (case hg => rfl); (case hr => first | (go_simp; done) | (go_simp; rfl)); intro p ep wp hp lp; have Ep := Aside0.mk ep; clear ep; have p0 : wp.cell? ⟨p, 0, none⟩ = some (.int .i64 0) := (blk_cell hp 0).trans rfl; have p1 : wp.cell? ⟨p, 1, none⟩ = some (.slice none 0 0) := (blk_cell hp 1).trans rfl; have p2 : wp.cell? ⟨p, 2, none⟩ = some (.slice none 0 0) := (blk_cell hp 2).trans rfl; have fp0 := blk_frozen hp 0; have fp1 := blk_frozen hp 1; have fp2 := blk_frozen hp 2)
      | (((with_reducible refine gate_dst (N := 3) rfl ?_); (try (refine gate_guard (by rfl) ?_; dsimp only)); refine box_event ?hg (N := 3) ?hd (cs := #[.int .i64 0, .int .i64 0]) (t := 26) ?hr ?_; (case hd => rfl); (case hg => rfl); (case hr => first | (go_simp; done) | (go_simp; rfl)); intro f ef wf hf lf; have Ef := Aside0.mk ef; clear ef); have hpf : p ≠ f := (by have := Ef.out; have := blk_lt hp; omega); have hfp : f ≠ p := (fun e => hpf e.symm); have HP5 := Aside0.mk (blk_below hp lf); have HFB5 := Aside0.mk hf; have hp := HP5.out; (have p0 := (blk_cell hp 0).trans (show _ = some (Value.int .i64 0) from rfl); have p1 := (blk_cell hp 1).trans (show _ = some (Value.slice none 0 0) from rfl); have p2 := (blk_cell hp 2).trans (show _ = some (Value.slice none 0 0) from rfl); have fp0 := blk_frozen hp 0; have fp1 := blk_frozen hp 1; have fp2 := blk_frozen hp 2; have y0 := (blk_cell hf 0).trans (show _ = some (Value.int .i64 0) from rfl); have y1 := (blk_cell hf 1).trans (show _ = some (Value.int .i64 0) from rfl); have fy0 := blk_frozen hf 0; have fy1 := blk_frozen hf 1))
      | fail)
    have hr := comp_ret (w := w) (base := wf.heap.size) HP5.out HFB5.out hpf (by have := Ep.out; omega) (by have := Ef.out; have := lp.size; omega) (blk_lt HP5.out) (blk_lt HFB5.out) (below_then lp lp.size lf) (below_then lp lp.size lf).size 0 (.slice none 0 0) (.slice none 0 0) 5 0
    (obtain ⟨w9, hw9⟩ : ∃ w9, World.setCell (World.setCell (World.setCell (World.setCell (World.setCell wf ⟨p, 0, none⟩ (.int .i64 (0))) ⟨p, 1, none⟩ (.slice none 0 0)) ⟨p, 2, none⟩ (.slice none 0 0)) ⟨f, 0, none⟩ (.int .i64 (5))) ⟨f, 1, none⟩ (.int .i64 (0)) = w9 := ⟨_, rfl⟩; (try go_wp2_with (fail)); (try simp only [Exit.inBlock, Exit.then]); (try rw [hw9]); obtain ⟨c0, c1, c2, c3, c4, hBel, hMM⟩ := hr w9 hw9; clear hw9; refine bodyPost_ret (by simp [results, Try.results12, go_sem, c0, c1, c2, c3, c4, hu32, hu26]; try rfl) rfl ?_)
    have hfe : faultB s = some (4, 0) := by rw [faultB, if_pos (by have := HH.out; omega)]
    refine ⟨0, none, 0, 0, none, 0, 0, ?_, hBel, fun hn => by rw [hfe] at hn; cases hn⟩
    rw [hfe]
    rfl
end Go.Proofs.Ytnjpdhekeffpnaa.Rx
