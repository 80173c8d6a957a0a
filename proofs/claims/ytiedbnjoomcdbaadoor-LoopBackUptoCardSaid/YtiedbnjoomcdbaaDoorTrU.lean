/- loop.Build, walked. -/
import Derived.Test.YtiedbnjoomcdbaaDoorTrB
set_option linter.unusedVariables false
set_option linter.unusedSimpArgs false
namespace Go.Proofs.YtiedbnjoomcdbaaDoor.Tr
open Go.RowKit Go.Proofs.YtiedbnjoomcdbaaDoorW.PrintWords Go.Proofs.YtiedbnjoomcdbaaDoorW.PrintLast Go.Proofs.YtiedbnjoomcdbaaDoorW.PrintMore

theorem blocksW (w0 : World) (ls : List GL) (hls : LsOk ls) : ∀ (d : Nat), d ≤ 32 → BlkOk w0 ls (32 - (d : Int)) (blkP ls d)
  | 0, h => by
    rw [blkP]
    exact blocksStep w0 ls hls true _ (by omega) (by omega) (by simp) _ _ (fun h => by cases h) (fun h => by cases h) (fun _ _ s h => ⟨Nat.le_refl _, h⟩) (fun _ _ s h => ⟨Nat.le_refl _, h⟩)
  | d + 1, h => by
    have ih := blocksW w0 ls hls d (by omega)
    rw [blkP]
    have hd : (32 - ((d + 1 : Nat) : Int)) + 1 = 32 - (d : Int) := by omega
    refine blocksStep w0 ls hls false _ (by omega) (by omega) (decide_eq_false (by omega)).symm _ _ (fun _ W g s l0 dd hR hi => ?_) (fun _ W g s l0 dd hR hi hsz => ?_) (fun l dd s h => cndP_i ls (blkP_i ls d) l dd s h) (fun l dd s h => lopP_i ls (blkP_i ls d) l dd s h)
    · rw [hd]
      exact condN w0 W g ls s l0 dd _ _ hR hls hi ih (blkP_i ls d)
    · rw [hd]
      exact loopW w0 W g ls s l0 dd.1 dd.2 _ _ hR hls hi ih (blkP_i ls d) hsz
/-- what Build gives back -/
def Built (w : World) (ls : List GL) (e : Ending) (w' : World) : Prop :=
  Below w.heap.size w w' ∧ ((Ok (endS ls) ∧ ∃ v, e = .returned (.tuple #[v, .agg #[.int .i64 0, .int .i64 0]]) ∧ Kd.R kN TG w' w.heap.size (fun _ => True) v (blkP ls 32 ⟨0, 0, 0⟩).1) ∨
    (¬ Ok (endS ls) ∧ e = .returned (.tuple #[.slice none 0 0, .agg #[.int .i64 (endS ls).e, .int .i64 (endS ls).a]])))
set_option maxHeartbeats 8000000 in
set_option maxRecDepth 100000 in
theorem buildW (w : World) (A : Option Addr) (c : Nat) (ls : List GL) (hC : Kd.C PT.k34 w A ls.length ls) (hc : ls.length ≤ c) (hls : LsOk ls) :
    Calls Tryd.prog 15 #[.slice A ls.length c] w (Built w ls) := by
  have hu34 := Tryd.underlying34
  have hu38 := Tryd.underlying38
  have HC := Aside0.mk hC
  have HLS := Aside0.mk hls
  have HB := Aside0.mk (blocksW w ls hls 32 (Nat.le_refl _))
  have HI := Aside0.mk (blkP_i ls 32 ⟨0, 0, 0⟩ (Nat.zero_le _))
  clear hC hls hc
  obtain ⟨E, hE⟩ : ∃ E, endS ls = E := ⟨_, rfl⟩
  unfold Built
  rw [hE]
  unfold endS at hE
  obtain ⟨X, hX⟩ : ∃ X, blkP ls 32 ⟨0, 0, 0⟩ = X := ⟨_, rfl⟩
  rw [hX] at hE HI ⊢
  have HX := Aside0.mk hX
  clear hX
  obtain ⟨nds, s⟩ := X
  have HE := Aside0.mk hE
  clear hE
  go_enter Tryd.func15, Tryd.ntmps15
  go_wp2_with (first
    | (((with_reducible refine gate_dst (N := 3) rfl ?_); (try (refine gate_guard (by rfl) ?_; dsimp only)); refine box_event ?hg (N := 3) ?hd (cs := #[.int .i64 0, .int .i64 0]) (t := 38) ?hr ?_; (case hd => rfl); (case hg => rfl); (case hr => first | (go_simp; done) | (go_simp; rfl)); intro b3 eb3 wb3 hb3 lb3; have Eb3 := Aside0.mk eb3; clear eb3))
    | (((with_reducible refine gate_dst (N := 8) rfl ?_); (try (refine gate_guard (by rfl) ?_; dsimp only)); refine box_event ?hg (N := 8) ?hd (cs := #[.slice A ls.length c, .int .i64 0, .int .i64 0, .int .i64 0]) (t := TRd) ?hr ?_; (case hd => rfl); (case hg => rfl); (case hr => first | (go_simp; done) | (go_simp; rfl)); intro g eg wg hg lg; have Eg := Aside0.mk eg; clear eg)))
  have hbW := below_then lb3 lb3.size lg
  have n3 : w.heap.size ≤ b3 := by have := Eb3.out; omega
  have n3g : b3 < g := by have h1 := blk_lt hb3; have h2 := Eg.out; omega
  have hb3' := blk_below hb3 lg
  have HR0 := Aside0.mk (show RA w wg g ls ⟨0, 0, 0⟩ from ⟨⟨A, c, hg, by have := Eg.out; have := lb3.size; omega, HC.out⟩, hbW⟩)
  clear hb3 hg
  refine (HB.out wg g ⟨0, 0, 0⟩ HR0.out (Nat.zero_le _)).mono ?_
  rw [HX.out]
  rintro e w5 ⟨v, rfl, hRv, hR5, hK5⟩
  obtain ⟨Av, cv, ev⟩ := Kd.R_slice hRv
  obtain ⟨kv, hkv⟩ : ∃ k, nds.length = k := ⟨_, rfl⟩
  dsimp only at ev
  rw [hkv] at ev
  subst ev
  have hb5 := hK5.blk hb3' (by omega) (by simp)
  have hgl := HR0.out.lt
  have HRV := Aside0.mk (Kd.R_lower (base' := w.heap.size) hRv hbW.size)
  have HRG := Aside0.mk hRv
  have HR5 := Aside0.mk hR5
  obtain ⟨A', c', ⟨f0, f1, f2, f3, f4⟩, -⟩ := hR5.open_
  have g0 : w.heap.size ≤ g := by omega
  clear hkv hRv hR5 hK5 hb3'
  dsimp only at f1 f2 f3
  obtain ⟨z, hz⟩ : ∃ z : Int, (s.i : Int) = z := ⟨_, rfl⟩
  rw [hz] at f1
  have HZ := Aside0.mk hz
  clear hz
  have x0 : w5.cell? ⟨b3, 0, none⟩ = some (.int .i64 0) := (blk_cell hb5 0).trans rfl
  have x1 : w5.cell? ⟨b3, 1, none⟩ = some (.int .i64 0) := (blk_cell hb5 1).trans rfl
  have v0 := blk_frozen hb5 0
  have v1 := blk_frozen hb5 1
  have HB5 := Aside0.mk hb5
  clear hb5
  have hE := HE.out
  (try dsimp only at hE)
  by_cases hlt : s.i < ls.length
  · rw [if_pos hlt] at hE
    have hno : ¬ Ok E := by
      rw [← hE]
      unfold wr
      by_cases hk : Ok s
      · rw [if_pos hk]; intro h; exact absurd (show (3 : Int) = 0 from h.1) (by decide)
      · rw [if_neg hk]; exact hk
    have dl : decide (z < (ls.length : Int)) = true := decide_eq_true (by have := HZ.out; omega)
    have hz0 : 0 ≤ z := by have := HZ.out; omega
    have hzl : z < (ls.length : Int) := by have := HZ.out; omega
    obtain ⟨ad, e', k0, k1, k2⟩ := PT.at_T34 (Kd.C_below HC.out HR5.out.bel) z hz0 (by omega)
    subst e'
    have hrd : PT.rd_T34 ls z = ls.getD s.i z0 := by
      rw [← HZ.out]; rfl
    rw [hrd] at k1
    clear k0 k2 hrd
    generalize ls.getD s.i z0 = xl at k1 hE
    go_wp2_with (fail)
    refine (wrongW w w5 g ls s 3 xl.f1 HR5.out).mono ?_
    rintro e w6 ⟨rfl, hR6, hK6⟩
    rw [hE] at hR6
    have HB6 := Aside0.mk (hK6.blk HB5.out (by omega) (by simp))
    have HR6 := Aside0.mk hR6
    clear hE hK6 x0 x1 v0 v1 f0 f1 f2 f3 f4
    obtain ⟨A', c', ⟨f0, f1, f2, f3, f4⟩, -⟩ := hR6.open_
    have x0 : w6.cell? ⟨b3, 0, none⟩ = some (.int .i64 0) := (blk_cell HB6.out 0).trans rfl
    have x1 : w6.cell? ⟨b3, 1, none⟩ = some (.int .i64 0) := (blk_cell HB6.out 1).trans rfl
    have v0 := blk_frozen HB6.out 0
    have v1 := blk_frozen HB6.out 1
    clear hR6
    rcases bad_or hno with d1 | ⟨d2, d1⟩
    · have HNO := Aside0.mk hno
      clear hno
      go_wp2_with (fail)
      go_region
      all_goals
        go_wp2_with (fail)
        have p5 : ((w6.setCell ⟨b3, 0, none⟩ (.int .i64 E.e)).setCell ⟨b3, 1, none⟩ (.int .i64 E.a)).heap[b3]? = some (.cells #[.int .i64 E.e, .int .i64 E.a] 38 (0, 0)) := by
          simpa using blk_set (blk_set HB6.out 0 (.int .i64 E.e)) 1 (.int .i64 E.a)
        have hB6 := below_drew ((HR6.out.bel.setCell (p := ⟨b3, 0, none⟩) n3 (.int .i64 E.e)).setCell (p := ⟨b3, 1, none⟩) n3 (.int .i64 E.a))
        have r0 : (World.drew (World.setCell (World.setCell w6 ⟨b3, 0, none⟩ (.int .i64 E.e)) ⟨b3, 1, none⟩ (.int .i64 E.a))).cell? ⟨b3, 0, none⟩ = some (.int .i64 E.e) := (blk_cell p5 0).trans rfl
        have r1 : (World.drew (World.setCell (World.setCell w6 ⟨b3, 0, none⟩ (.int .i64 E.e)) ⟨b3, 1, none⟩ (.int .i64 E.a))).cell? ⟨b3, 1, none⟩ = some (.int .i64 E.a) := (blk_cell p5 1).trans rfl
        generalize World.drew (World.setCell (World.setCell w6 _ _) _ _) = w9 at *
        (try simp only [Exit.inBlock, Exit.then])
        refine bodyPost_ret (by simp [results, Tryd.results15, go_sem, r0, r1]; try rfl) rfl ?_
        exact ⟨hB6, .inr ⟨HNO.out, rfl⟩⟩
    · have HNO := Aside0.mk hno
      have HD2 := Aside0.mk d2
      rw [d2] at f2
      clear hno d2
      go_wp2_with (fail)
      go_region
      all_goals
        go_wp2_with (fail)
        have p5 : ((w6.setCell ⟨b3, 0, none⟩ (.int .i64 0)).setCell ⟨b3, 1, none⟩ (.int .i64 E.a)).heap[b3]? = some (.cells #[.int .i64 0, .int .i64 E.a] 38 (0, 0)) := by
          simpa using blk_set (blk_set HB6.out 0 (.int .i64 0)) 1 (.int .i64 E.a)
        have hB6 := below_drew ((HR6.out.bel.setCell (p := ⟨b3, 0, none⟩) n3 (.int .i64 0)).setCell (p := ⟨b3, 1, none⟩) n3 (.int .i64 E.a))
        have r0 : (World.drew (World.setCell (World.setCell w6 ⟨b3, 0, none⟩ (.int .i64 0)) ⟨b3, 1, none⟩ (.int .i64 E.a))).cell? ⟨b3, 0, none⟩ = some (.int .i64 0) := (blk_cell p5 0).trans rfl
        have r1 : (World.drew (World.setCell (World.setCell w6 ⟨b3, 0, none⟩ (.int .i64 0)) ⟨b3, 1, none⟩ (.int .i64 E.a))).cell? ⟨b3, 1, none⟩ = some (.int .i64 E.a) := (blk_cell p5 1).trans rfl
        generalize World.drew (World.setCell (World.setCell w6 _ _) _ _) = w9 at *
        (try simp only [Exit.inBlock, Exit.then])
        refine bodyPost_ret (by simp [results, Tryd.results15, go_sem, r0, r1]; try rfl) rfl ?_
        exact ⟨hB6, .inr ⟨HNO.out, by rw [HD2.out]⟩⟩
  · rw [if_neg hlt] at hE
    subst hE
    have dl : decide (z < (ls.length : Int)) = false := decide_eq_false (by have := HZ.out; omega)
    by_cases hok : Ok s
    · obtain ⟨he, ha⟩ := hok
      rw [he] at f2
      rw [ha] at f3
      go_wp2_with (fail)
      have p5 : ((w5.setCell ⟨b3, 0, none⟩ (.int .i64 0)).setCell ⟨b3, 1, none⟩ (.int .i64 0)).heap[b3]? = some (.cells #[.int .i64 0, .int .i64 0] 38 (0, 0)) := by
        simpa using blk_set (blk_set HB5.out 0 (.int .i64 0)) 1 (.int .i64 0)
      have hB6 := (HR5.out.bel.setCell (p := ⟨b3, 0, none⟩) n3 (.int .i64 0)).setCell (p := ⟨b3, 1, none⟩) n3 (.int .i64 0)
      have hV6 := rows_far (j := 1) (u := .int .i64 0) (rows_far (j := 0) (u := .int .i64 0) HRG.out (show b3 < wg.heap.size by omega)) (show b3 < wg.heap.size by omega)
      generalize World.setCell (World.setCell w5 _ _) _ _ = w9 at *
      have r0 : w9.cell? ⟨b3, 0, none⟩ = some (.int .i64 0) := (blk_cell p5 0).trans rfl
      have r1 : w9.cell? ⟨b3, 1, none⟩ = some (.int .i64 0) := (blk_cell p5 1).trans rfl
      (try simp only [Exit.inBlock, Exit.then])
      refine bodyPost_ret (by simp [results, Tryd.results15, go_sem, r0, r1]; try rfl) rfl ?_
      exact ⟨hB6, .inl ⟨⟨he, ha⟩, _, rfl, Kd.R_lower hV6 hbW.size⟩⟩
    · have hno := hok
      clear hok
      rcases bad_or hno with d1 | ⟨d2, d1⟩
      · have HNO := Aside0.mk hno
        clear hno
        go_wp2_with (fail)
        go_region
        all_goals
          go_wp2_with (fail)
          have p5 : ((w5.setCell ⟨b3, 0, none⟩ (.int .i64 s.e)).setCell ⟨b3, 1, none⟩ (.int .i64 s.a)).heap[b3]? = some (.cells #[.int .i64 s.e, .int .i64 s.a] 38 (0, 0)) := by
            simpa using blk_set (blk_set HB5.out 0 (.int .i64 s.e)) 1 (.int .i64 s.a)
          have hB6 := below_drew ((HR5.out.bel.setCell (p := ⟨b3, 0, none⟩) n3 (.int .i64 s.e)).setCell (p := ⟨b3, 1, none⟩) n3 (.int .i64 s.a))
          have r0 : (World.drew (World.setCell (World.setCell w5 ⟨b3, 0, none⟩ (.int .i64 s.e)) ⟨b3, 1, none⟩ (.int .i64 s.a))).cell? ⟨b3, 0, none⟩ = some (.int .i64 s.e) := (blk_cell p5 0).trans rfl
          have r1 : (World.drew (World.setCell (World.setCell w5 ⟨b3, 0, none⟩ (.int .i64 s.e)) ⟨b3, 1, none⟩ (.int .i64 s.a))).cell? ⟨b3, 1, none⟩ = some (.int .i64 s.a) := (blk_cell p5 1).trans rfl
          generalize World.drew (World.setCell (World.setCell w5 _ _) _ _) = w9 at *
          (try simp only [Exit.inBlock, Exit.then])
          refine bodyPost_ret (by simp [results, Tryd.results15, go_sem, r0, r1]; try rfl) rfl ?_
          exact ⟨hB6, .inr ⟨HNO.out, rfl⟩⟩
      · have HNO := Aside0.mk hno
        have HD2 := Aside0.mk d2
        rw [d2] at f2
        clear hno d2
        go_wp2_with (fail)
        go_region
        all_goals
          go_wp2_with (fail)
          have p5 : ((w5.setCell ⟨b3, 0, none⟩ (.int .i64 0)).setCell ⟨b3, 1, none⟩ (.int .i64 s.a)).heap[b3]? = some (.cells #[.int .i64 0, .int .i64 s.a] 38 (0, 0)) := by
            simpa using blk_set (blk_set HB5.out 0 (.int .i64 0)) 1 (.int .i64 s.a)
          have hB6 := below_drew ((HR5.out.bel.setCell (p := ⟨b3, 0, none⟩) n3 (.int .i64 0)).setCell (p := ⟨b3, 1, none⟩) n3 (.int .i64 s.a))
          have r0 : (World.drew (World.setCell (World.setCell w5 ⟨b3, 0, none⟩ (.int .i64 0)) ⟨b3, 1, none⟩ (.int .i64 s.a))).cell? ⟨b3, 0, none⟩ = some (.int .i64 0) := (blk_cell p5 0).trans rfl
          have r1 : (World.drew (World.setCell (World.setCell w5 ⟨b3, 0, none⟩ (.int .i64 0)) ⟨b3, 1, none⟩ (.int .i64 s.a))).cell? ⟨b3, 1, none⟩ = some (.int .i64 s.a) := (blk_cell p5 1).trans rfl
          generalize World.drew (World.setCell (World.setCell w5 _ _) _ _) = w9 at *
          (try simp only [Exit.inBlock, Exit.then])
          refine bodyPost_ret (by simp [results, Tryd.results15, go_sem, r0, r1]; try rfl) rfl ?_
          exact ⟨hB6, .inr ⟨HNO.out, by rw [HD2.out]⟩⟩
end Go.Proofs.YtiedbnjoomcdbaaDoor.Tr
