/- The reader of blocks in memory; its small functions walked (wrong, closing). -/
import Derived.Test.YtiedbnjoomcdbaaDoorTrP
import Derived.Deep.QuietTactic
import Derived.BigQuiet
import Derived.BigRegion
import Derived.Handy
import Derived.RegionTactic
import Derived.LoopN
import Derived.Deep.LoopGhost
set_option linter.unusedVariables false
set_option linter.unusedSimpArgs false
namespace Go.Proofs.YtiedbnjoomcdbaaDoor.Tr
open Go.RowKit Go.Proofs.YtiedbnjoomcdbaaDoorW.PrintWords Go.Proofs.YtiedbnjoomcdbaaDoorW.PrintLast Go.Proofs.YtiedbnjoomcdbaaDoorW.PrintMore

abbrev TRd : Nat := 62
abbrev TL : Nat := 34
abbrev TG : Nat := 56
abbrev TGb : Nat := 73
abbrev TStr : Nat := 9
abbrev kN : Kd Nd := knd TStr TGb TG
abbrev kB : Kd Br := kbr TStr TGb TG
/-- lines that are not too long -/
structure LsOk (ls : List GL) : Prop where
  n : ls.length ≤ 100000
  sz : ∀ x ∈ ls, x.f0.size ≤ 1000000
theorem LsOk.at_ {ls : List GL} (h : LsOk ls) {i : Nat} (hi : i < ls.length) : (ls.getD i z0).f0.size ≤ 1000000 := by
  rw [List.getD_eq_getElem?_getD, List.getElem?_eq_getElem hi]
  exact h.sz _ (List.getElem_mem hi)
/-- the reader in block g -/
structure RA (w0 w : World) (g : Nat) (ls : List GL) (s : St) : Prop where
  is : PT.IsS62 w0 w g ls (s.i : Int) s.e s.a
  bel : Below w0.heap.size w0 w
theorem RA.below {w0 w w1 : World} {g : Nat} {ls : List GL} {s : St} (h : RA w0 w g ls s) (hb : Below w.heap.size w w1) : RA w0 w1 g ls s := ⟨h.is.below hb, below_then h.bel h.bel.size hb⟩
theorem RA.lt {w0 w : World} {g : Nat} {ls : List GL} {s : St} (h : RA w0 w g ls s) : g < w.heap.size := h.is.lt
theorem RA.ge {w0 w : World} {g : Nat} {ls : List GL} {s : St} (h : RA w0 w g ls s) : w0.heap.size ≤ g := h.is.ge
theorem RA.far {w0 w : World} {g : Nat} {ls : List GL} {s : St} (h : RA w0 w g ls s) {b j : Nat} (hb : w0.heap.size ≤ b) (hne : b ≠ g) (u : Value) : RA w0 (w.setCell ⟨b, j, none⟩ u) g ls s :=
  ⟨h.is.far (p := ⟨b, j, none⟩) hne.symm u, h.bel.setCell (p := ⟨b, j, none⟩) hb u⟩
theorem RA.open_ {w0 w : World} {g : Nat} {ls : List GL} {s : St} (h : RA w0 w g ls s) : ∃ A c, (w.cell? ⟨g, 0, none⟩ = some (.slice A ls.length c) ∧ w.cell? ⟨g, 1, none⟩ = some (.int .i64 s.i) ∧ w.cell? ⟨g, 2, none⟩ = some (.int .i64 s.e) ∧ w.cell? ⟨g, 3, none⟩ = some (.int .i64 s.a) ∧ w.frozen? ⟨g, 1, none⟩ = false) ∧ Kd.C PT.k34 w A ls.length ls := by
  obtain ⟨⟨A, c, h1, h2, h3⟩, hb⟩ := h
  exact ⟨A, c, ⟨(blk_cell h1 0).trans rfl, (blk_cell h1 1).trans rfl, (blk_cell h1 2).trans rfl, (blk_cell h1 3).trans rfl, blk_frozen h1 1⟩, Kd.C_below h3 hb⟩
theorem RA.step {w0 w : World} {g : Nat} {ls : List GL} {s : St} (h : RA w0 w g ls s) (j : Nat) (z : Int) (hz : z = (j : Int)) : RA w0 (w.setCell ⟨g, 1, none⟩ (.int .i64 z)) g ls ⟨j, s.e, s.a⟩ := by
  subst hz
  obtain ⟨⟨A, c, h1, h2, h3⟩, hb⟩ := h
  exact ⟨⟨A, c, by simpa using blk_set h1 1 (.int .i64 (j : Int)), h2, h3⟩, hb.setCell (p := ⟨g, 1, none⟩) h2 _⟩
theorem keep_set {w W : World} {g b j : Nat} (h : KeepBut w W g none) (hb : b = g ∨ w.heap.size ≤ b) (u : Value) : KeepBut w (W.setCell ⟨b, j, none⟩ u) g none :=
  ⟨by rw [show (W.setCell ⟨b, j, none⟩ u).heap.size = W.heap.size by simp]; exact h.1, fun i hi hg hr => by
    rw [Below.heap_setCell W ⟨b, j, none⟩ u i (by rcases hb with e | e; · subst e; exact hg
                                                  · show i ≠ b; omega)]
    exact h.2 i hi hg hr⟩
theorem keep_below {w W W2 : World} {g : Nat} (h : KeepBut w W g none) (k : Below W.heap.size W W2) : KeepBut w W2 g none := h.trans (KeepBut.of_below k g none) (.inl rfl)
theorem wrongW (w0 w : World) (g : Nat) (ls : List GL) (s : St) (e a : Int) (h : RA w0 w g ls s) :
    Calls Tryd.prog 28 #[.pointer (some ⟨g, 0, none⟩), .int .i64 e, .int .i64 a] w fun x w' => x = .returned (.tuple #[]) ∧ RA w0 w' g ls (wr e a s) ∧ KeepBut w w' g none := by
  have hf : PT.loop_reader_wrong.f ls (s.i : Int) s.e s.a e a = some (((wr e a s).i : Int), (wr e a s).e, (wr e a s).a) := by
    unfold PT.loop_reader_wrong.f wr
    by_cases h1 : Ok s
    · rw [if_pos h1, if_pos (by simp [h1.1, h1.2])]
    · rw [if_neg h1, if_neg (by rw [show (s.e == 0 && (s.a == 0)) = false by unfold Ok at h1; simpa using h1]; decide)]
  refine (PT.loop_reader_wrong.calls g ls _ _ _ e a _ _ _ w0 w h.is h.bel hf).mono ?_
  rintro x w' ⟨rfl, h1, h2, h3⟩
  exact ⟨rfl, ⟨h1, h2⟩, h3⟩
theorem bad_or {s : St} (h : ¬ Ok s) : (s.e == 0) = false ∨ (s.e = 0 ∧ (s.a == 0) = false) := by
  unfold Ok at h
  by_cases h1 : s.e = 0
  · exact .inr ⟨h1, beq_false_of_ne (fun h2 => h ⟨h1, h2⟩)⟩
  · exact .inl (beq_false_of_ne h1)

set_option maxHeartbeats 8000000 in
set_option maxRecDepth 100000 in
theorem closing_no (w0 w : World) (g : Nat) (ls : List GL) (s : St) (l0 : GL) (hR : RA w0 w g ls s) (hls : LsOk ls) (hi : s.i ≤ ls.length) (hno : ¬ Ok (cloE ls l0 s)) :
    Calls Tryd.prog 54 #[.pointer (some ⟨g, 0, none⟩), .agg #[.string l0.f0, .int .i64 l0.f1, .bool l0.f2]] w fun e w' =>
      e = .returned (.tuple #[.agg #[.string ⟨#[]⟩, .int .i64 0, .bool false], .string ⟨#[]⟩, .string ⟨#[]⟩, .bool false]) ∧ RA w0 w' g ls (cloE ls l0 s) ∧ KeepBut w w' g none := by
  have hu34 := Tryd.underlying34
  have hu38 := Tryd.underlying38
  have HR := Aside0.mk hR
  have HLS := Aside0.mk hls
  have G0 := hR.lt
  have G1 := hR.ge
  clear hR hls
  go_enter Tryd.func54, Tryd.ntmps54
  go_wp2_with (first
    | (((with_reducible refine gate_dst (N := 3) rfl ?_); (try (refine gate_guard (by rfl) ?_; dsimp only)); refine box_event ?hg (N := 3) ?hd (cs := #[.string l0.f0, .int .i64 l0.f1, .bool l0.f2]) (t := TL) ?hr ?_; (case hd => rfl); (case hg => rfl); (case hr => first | (go_simp; done) | (go_simp; rfl)); intro b3 eb3 wb3 hb3 lb3; have Eb3 := Aside0.mk eb3; clear eb3))
    | (((with_reducible refine gate_dst (N := 4) rfl ?_); (try (refine gate_guard (by rfl) ?_; dsimp only)); refine box_event ?hg (N := 4) ?hd (cs := #[.string ⟨#[]⟩, .int .i64 0, .bool false]) (t := TL) ?hr ?_; (case hd => rfl); (case hg => rfl); (case hr => first | (go_simp; done) | (go_simp; rfl)); intro b4 eb4 wb4 hb4 lb4; have Eb4 := Aside0.mk eb4; clear eb4); have hl34 := below_then lb3 lb3.size lb4; have hR4 := HR.out.below hl34; obtain ⟨A, c, ⟨f0, f1, f2, f3, f4⟩, hC⟩ := hR4.open_; have HC := Aside0.mk hC; clear hC))
  have n4w : w.heap.size ≤ b4 := by have := Eb4.out; have := lb3.size; omega
  have n4g : b4 ≠ g := by omega
  have n3g : b3 ≠ g := by have := Eb3.out; omega
  have n40 : w0.heap.size ≤ b4 := by have := HR.out.bel.size; omega
  have hb34 := blk_below hb3 lb4
  obtain ⟨z, hz⟩ : ∃ z : Int, (s.i : Int) = z := ⟨_, rfl⟩
  rw [hz] at f1
  by_cases hil : s.i = ls.length
  · have d0 : (z == (ls.length : Int)) = true := by rw [← hz, hil]; exact beq_self_eq_true _
    have HE : cloE ls l0 s = wr 4 l0.f1 s := if_pos hil
    have y1 : wb4.cell? ⟨b3, 1, none⟩ = some (.int .i64 l0.f1) := (blk_cell hb34 1).trans rfl
    go_quiet (fail)
    go_wp2_with (fail)
    generalize hq : World.drewN wb4 _ = w5
    have hR5 : RA w0 w5 g ls s := by rw [← hq]; exact hR4.below (pw_below_drewN (Below.refl _ _) _)
    have hb35 : w5.heap[b3]? = some (.cells #[.string l0.f0, .int .i64 l0.f1, .bool l0.f2] TL (0, 0)) := by rw [← hq]; exact hb34
    have hb45 : w5.heap[b4]? = some (.cells #[.string ⟨#[]⟩, .int .i64 0, .bool false] TL (0, 0)) := by rw [← hq]; exact hb4
    have hk5 : KeepBut w w5 g none := by rw [← hq]; exact KeepBut.of_below (pw_below_drewN hl34 _) g none
    clear f0 f1 f2 f3 f4 hq hb34 hb3 hb4 hR4 y1
    refine (wrongW w0 w5 g ls s 4 l0.f1 hR5).mono ?_
    rintro x w6 ⟨rfl, hR6, hk56⟩
    rw [← HE] at hR6
    have hk6 := hk5.trans hk56 (.inl rfl)
    have hb6 := hk56.blk hb45 n4g (by simp)
    clear HE
    generalize hs1 : cloE ls l0 s = s1 at *
    have HS1 := Aside0.mk hs1
    clear hs1
    obtain ⟨A', c', ⟨f0, f1, f2, f3, f4⟩, -⟩ := hR6.open_
    rcases bad_or hno with d1 | ⟨d2, d1⟩
    all_goals
      (try rw [d2] at f2)
      have x0 : w6.cell? ⟨b4, 0, none⟩ = some (.string ⟨#[]⟩) := (blk_cell hb6 0).trans rfl
      have x1 : w6.cell? ⟨b4, 1, none⟩ = some (.int .i64 0) := (blk_cell hb6 1).trans rfl
      have x2 : w6.cell? ⟨b4, 2, none⟩ = some (.bool false) := (blk_cell hb6 2).trans rfl
      have v0 := blk_frozen hb6 0
      have v1 := blk_frozen hb6 1
      have v2 := blk_frozen hb6 2
      go_wp2_with (fail)
      have hb4' : w6.heap[b4]? = some (.cells #[.string ⟨#[]⟩, .int .i64 0, .bool false] TL (0, 0)) := hb6
      have p4 : (((w6.setCell ⟨b4, 0, none⟩ (.string ⟨#[]⟩)).setCell ⟨b4, 1, none⟩ (.int .i64 0)).setCell ⟨b4, 2, none⟩ (.bool false)).heap[b4]? = some (.cells #[.string ⟨#[]⟩, .int .i64 0, .bool false] TL (0, 0)) := by
        simpa using blk_set (blk_set (blk_set hb4' 0 (.string ⟨#[]⟩)) 1 (.int .i64 0)) 2 (.bool false)
      have hR9 := ((hR6.far (j := 0) n40 n4g (.string ⟨#[]⟩)).far (j := 1) n40 n4g (.int .i64 0)).far (j := 2) n40 n4g (.bool false)
      have hk9 := keep_set (j := 2) (keep_set (j := 1) (keep_set (j := 0) hk6 (.inr n4w) (.string ⟨#[]⟩)) (.inr n4w) (.int .i64 0)) (.inr n4w) (.bool false)
      generalize World.setCell (World.setCell (World.setCell w6 _ _) _ _) _ _ = w9 at *
      have r0 : w9.cell? ⟨b4, 0, none⟩ = some (.string ⟨#[]⟩) := (blk_cell p4 0).trans rfl
      have r1 : w9.cell? ⟨b4, 1, none⟩ = some (.int .i64 0) := (blk_cell p4 1).trans rfl
      have r2 : w9.cell? ⟨b4, 2, none⟩ = some (.bool false) := (blk_cell p4 2).trans rfl
      (try simp only [Exit.inBlock, Exit.then])
      refine bodyPost_ret (by simp [results, Tryd.results54, go_sem, r0, r1, r2]; try rfl) rfl ?_
      exact ⟨rfl, by rw [HS1.out]; exact hR9, hk9⟩
  · have d0 : (z == (ls.length : Int)) = false := beq_false_of_ne (by omega)
    have HE : cloE ls l0 s = s := if_neg hil
    have hno2 := hno
    rw [HE] at hno2
    clear HE
    rcases bad_or hno2 with d1 | ⟨d2, d1⟩
    all_goals
      (try rw [d2] at f2)
      have x0 : wb4.cell? ⟨b4, 0, none⟩ = some (.string ⟨#[]⟩) := (blk_cell hb4 0).trans rfl
      have x1 : wb4.cell? ⟨b4, 1, none⟩ = some (.int .i64 0) := (blk_cell hb4 1).trans rfl
      have x2 : wb4.cell? ⟨b4, 2, none⟩ = some (.bool false) := (blk_cell hb4 2).trans rfl
      have v0 := blk_frozen hb4 0
      have v1 := blk_frozen hb4 1
      have v2 := blk_frozen hb4 2
      go_quiet (fail)
      go_wp2_with (fail)
      have HE : cloE ls l0 s = s := if_neg hil
      generalize hq : World.drewN wb4 _ = w6 at *
      have hR6 : RA w0 w6 g ls s := by rw [← hq]; exact hR4.below (pw_below_drewN (Below.refl _ _) _)
      rw [← HE] at hR6
      have hb6 : w6.heap[b4]? = some (.cells #[.string ⟨#[]⟩, .int .i64 0, .bool false] TL (0, 0)) := by rw [← hq]; exact hb4
      have hk6 : KeepBut w w6 g none := by rw [← hq]; exact KeepBut.of_below (pw_below_drewN hl34 _) g none
      clear hq hb34 hb3 hb4 hR4
      have hb4' : w6.heap[b4]? = some (.cells #[.string ⟨#[]⟩, .int .i64 0, .bool false] TL (0, 0)) := hb6
      have p4 : (((w6.setCell ⟨b4, 0, none⟩ (.string ⟨#[]⟩)).setCell ⟨b4, 1, none⟩ (.int .i64 0)).setCell ⟨b4, 2, none⟩ (.bool false)).heap[b4]? = some (.cells #[.string ⟨#[]⟩, .int .i64 0, .bool false] TL (0, 0)) := by
        simpa using blk_set (blk_set (blk_set hb4' 0 (.string ⟨#[]⟩)) 1 (.int .i64 0)) 2 (.bool false)
      have hR9 := ((hR6.far (j := 0) n40 n4g (.string ⟨#[]⟩)).far (j := 1) n40 n4g (.int .i64 0)).far (j := 2) n40 n4g (.bool false)
      have hk9 := keep_set (j := 2) (keep_set (j := 1) (keep_set (j := 0) hk6 (.inr n4w) (.string ⟨#[]⟩)) (.inr n4w) (.int .i64 0)) (.inr n4w) (.bool false)
      generalize World.setCell (World.setCell (World.setCell w6 _ _) _ _) _ _ = w9 at *
      have r0 : w9.cell? ⟨b4, 0, none⟩ = some (.string ⟨#[]⟩) := (blk_cell p4 0).trans rfl
      have r1 : w9.cell? ⟨b4, 1, none⟩ = some (.int .i64 0) := (blk_cell p4 1).trans rfl
      have r2 : w9.cell? ⟨b4, 2, none⟩ = some (.bool false) := (blk_cell p4 2).trans rfl
      (try simp only [Exit.inBlock, Exit.then])
      refine bodyPost_ret (by simp [results, Tryd.results54, go_sem, r0, r1, r2]; try rfl) rfl ?_
      exact ⟨rfl, hR9, hk9⟩
theorem ba_toList {s t : ByteArray} (h : s.toList = t.toList) : s = t := by
  rw [ByteArray.toList_eq, ByteArray.toList_eq] at h
  cases s; cases t
  simp only [ByteArray.mk.injEq]
  exact Array.toList_inj.1 h
/-- a text is another one, or not, as the walk asks it -/
theorem neq_l {d : ByteArray} {l : List UInt8} (h : ¬ d = ⟨l.toArray⟩) : ¬ d.toList = l := fun e => h (Ba.ba_ext (by rw [← Lib.toList_data, e]))
theorem eqs_t {s t : ByteArray} (h : s = t) : decide (s.toList = t.toList) = true := by subst h; simp
theorem eqs_f {s t : ByteArray} (h : ¬ s = t) : decide (s.toList = t.toList) = false := decide_eq_false (fun e => h (ba_toList e))
set_option maxHeartbeats 8000000 in
set_option maxRecDepth 100000 in
theorem closing_yes (w0 w : World) (g : Nat) (ls : List GL) (s : St) (l0 : GL) (hR : RA w0 w g ls s) (hls : LsOk ls) (hi : s.i < ls.length) (hok : Ok s) :
    Calls Tryd.prog 54 #[.pointer (some ⟨g, 0, none⟩), .agg #[.string l0.f0, .int .i64 l0.f1, .bool l0.f2]] w fun e w' =>
      e = .returned (.tuple #[.agg #[.string (cloP ls l0 s).l.f0, .int .i64 (cloP ls l0 s).l.f1, .bool (cloP ls l0 s).l.f2], .string (cloP ls l0 s).w, .string (cloP ls l0 s).t, .bool (cloP ls l0 s).ok]) ∧ RA w0 w' g ls (cloP ls l0 s).s ∧ KeepBut w w' g none := by
  have HE : Ok (cloE ls l0 s) := by unfold cloE; rw [if_neg (by omega)]; exact hok
  have hcl : cloP ls l0 s = ⟨ls.getD s.i z0, (dirP (ls.getD s.i z0)).1, (dirP (ls.getD s.i z0)).2, true, if (dirP (ls.getD s.i z0)).2 ≠ emp ∧ (dirP (ls.getD s.i z0)).1 ≠ wElif then ⟨s.i + 1, 3, (ls.getD s.i z0).f1⟩ else ⟨s.i + 1, 0, 0⟩⟩ := by unfold cloP; rw [if_pos HE]
  rw [hcl]
  clear HE hcl
  dsimp only
  have hu34 := Tryd.underlying34
  have hu38 := Tryd.underlying38
  obtain ⟨i, e, a⟩ := s
  obtain ⟨rfl, rfl⟩ := hok
  dsimp only at hi hR ⊢
  have HLS := Aside0.mk (hls.at_ hi)
  have HLN := Aside0.mk hls.n
  have G0 := hR.lt
  have G1 := hR.ge
  have HR := Aside0.mk hR
  clear hR hls
  generalize hlx : ls.getD i z0 = x at *
  have HLX := Aside0.mk hlx
  clear hlx
  obtain ⟨d1, d2, hd⟩ : ∃ d1 d2, dirP x = (d1, d2) := ⟨_, _, rfl⟩
  have HDG := Aside0.mk (show PT.loop_Directive.f 1 x.f0 x.f1 x.f2 = some (d1, d2) by rw [← hd]; exact dirG x (by have := HLS.out; omega) 0)
  rw [hd]
  clear hd
  dsimp only
  generalize hsf : (if d2 ≠ emp ∧ d1 ≠ wElif then (⟨i + 1, 3, x.f1⟩ : St) else ⟨i + 1, 0, 0⟩) = sf
  have HSF := Aside0.mk hsf
  clear hsf
  go_enter Tryd.func54, Tryd.ntmps54
  go_wp2_with (first
    | (((with_reducible refine gate_dst (N := 3) rfl ?_); (try (refine gate_guard (by rfl) ?_; dsimp only)); refine box_event ?hg (N := 3) ?hd (cs := #[.string l0.f0, .int .i64 l0.f1, .bool l0.f2]) (t := TL) ?hr ?_; (case hd => rfl); (case hg => rfl); (case hr => first | (go_simp; done) | (go_simp; rfl)); intro b3 eb3 wb3 hb3 lb3; have Eb3 := Aside0.mk eb3; clear eb3))
    | (((with_reducible refine gate_dst (N := 4) rfl ?_); (try (refine gate_guard (by rfl) ?_; dsimp only)); refine box_event ?hg (N := 4) ?hd (cs := #[.string ⟨#[]⟩, .int .i64 0, .bool false]) (t := TL) ?hr ?_; (case hd => rfl); (case hg => rfl); (case hr => first | (go_simp; done) | (go_simp; rfl)); intro b4 eb4 wb4 hb4 lb4; have Eb4 := Aside0.mk eb4; clear eb4); have hl34 := below_then lb3 lb3.size lb4; have hR4 := HR.out.below hl34; obtain ⟨A, c, ⟨f0, f1, f2, f3, f4⟩, hC⟩ := hR4.open_; have HC := Aside0.mk hC; clear hC))
  have n4w : w.heap.size ≤ b4 := by have := Eb4.out; have := lb3.size; omega
  have n4g : b4 ≠ g := by omega
  have n40 : w0.heap.size ≤ b4 := by have := HR.out.bel.size; omega
  clear hb3
  obtain ⟨z, hz⟩ : ∃ z : Int, (i : Int) = z := ⟨_, rfl⟩
  rw [hz] at f1
  have HZ := Aside0.mk hz
  clear hz
  have hzl : z < (ls.length : Int) := by have := HZ.out; omega
  have hz0 : 0 ≤ z := by have := HZ.out; omega
  have d0 : (z == (ls.length : Int)) = false := beq_false_of_ne (by omega)
  go_quiet (fail)
  go_wp2_with (fail)
  generalize hq : World.drewN wb4 _ = w5
  have hR5 : RA w0 w5 g ls ⟨i, 0, 0⟩ := by rw [← hq]; exact hR4.below (pw_below_drewN (Below.refl _ _) _)
  have hb45 : w5.heap[b4]? = some (.cells #[.string ⟨#[]⟩, .int .i64 0, .bool false] TL (0, 0)) := by rw [← hq]; exact hb4
  have hl5 : Below w.heap.size w w5 := by rw [← hq]; exact pw_below_drewN hl34 _
  clear f0 f1 f2 f3 f4 hq hb4 hR4 hl34 HC
  obtain ⟨A, c, ⟨f0, f1, f2, f3, f4⟩, hC⟩ := hR5.open_
  obtain ⟨ad, rfl, k0, k1, k2⟩ := PT.at_T34 hC z hz0 (by omega)
  have hrd : PT.rd_T34 ls z = x := by
    rw [← HLX.out, ← HZ.out]; rfl
  rw [hrd] at k0 k1 k2
  dsimp only at f1
  rw [HZ.out] at f1
  have a0 := pw_cell_below (below_alloc (Below.refl _ w5) (.cells #[.string ⟨#[]⟩, .int .i64 0, .bool false] TL)) f0
  have a1 := pw_cell_below (below_alloc (Below.refl _ w5) (.cells #[.string ⟨#[]⟩, .int .i64 0, .bool false] TL)) f1
  have m0 := pw_cell_below (below_alloc (Below.refl _ w5) (.cells #[.string ⟨#[]⟩, .int .i64 0, .bool false] TL)) k0
  have m1 := pw_cell_below (below_alloc (Below.refl _ w5) (.cells #[.string ⟨#[]⟩, .int .i64 0, .bool false] TL)) k1
  have m2 := pw_cell_below (below_alloc (Below.refl _ w5) (.cells #[.string ⟨#[]⟩, .int .i64 0, .bool false] TL)) k2
  clear hC hrd
  have c4 : b4 < w5.heap.size := blk_lt hb45
  go_region
  all_goals
    generalize hq : World.drew (World.alloc w5 _) = w6
    have hR6 : RA w0 w6 g ls ⟨i, 0, 0⟩ := by rw [← hq]; exact hR5.below (below_drew (below_alloc (Below.refl _ _) _))
    have hl6 : Below w.heap.size w w6 := by rw [← hq]; exact below_drew (below_alloc hl5 _)
    have hb8 : w6.heap[w5.heap.size]? = some (.cells #[.string x.f0, .int .i64 x.f1, .bool x.f2] TL (0, 0)) := by rw [← hq]; exact blk_new w5 _
    have hb6 := blk_below hb45 (w1 := w6) (by rw [← hq]; exact below_drew (below_alloc (Below.refl _ _) _))
    have n8g : w5.heap.size ≠ g := by have := hR5.lt; omega
    have n84 : w5.heap.size ≠ b4 := by omega
    have n80 : w0.heap.size ≤ w5.heap.size := hR5.bel.size
    have n8w : w.heap.size ≤ w5.heap.size := hl5.size
    clear f0 f1 f2 f3 f4 k0 k1 k2 a0 a1 m0 m1 m2 hq hR5 hb45 hl5 c4
    generalize w5.heap.size = b8 at *
    obtain ⟨A', c', ⟨f0, f1, f2, f3, f4⟩, -⟩ := hR6.open_
    dsimp only at f1
    rw [HZ.out] at f1
    have hw1 : wrap64 (z + 1) = z + 1 := by have := HLN.out; unfold wrap64; omega
    have hR7 := hR6.step (i + 1) (z + 1) (by have := HZ.out; omega)
    have hb8' := blk_far hb8 (p := ⟨g, 1, none⟩) n8g (.int .i64 (z + 1))
    have hb6' := blk_far hb6 (p := ⟨g, 1, none⟩) n4g (.int .i64 (z + 1))
    have hk7 := keep_set (j := 1) (KeepBut.of_below hl6 g none) (.inl rfl) (.int .i64 (z + 1))
    have z0 := (blk_cell hb8' 0).trans rfl
    have z1 := (blk_cell hb8' 1).trans rfl
    have z2 := (blk_cell hb8' 2).trans rfl
    go_wp2_with (fail)
    refine (PT.loop_Directive.calls 1 x.f0 x.f1 x.f2 d1 d2 _ HDG.out).mono ?_
    rintro e w8 ⟨rfl, hl8⟩
    have q8 := blk_below hb8' hl8
    have q4 := blk_below hb6' hl8
    have hR8 := hR7.below hl8
    have hk8 := keep_below hk7 hl8
    clear f0 f1 f2 f3 f4 z0 z1 z2 hb8 hb8' hb6 hb6' hR6 hR7 hk7 hl8 hl6
    by_cases e2 : d2 = emp
    · subst e2
      unfold emp at *
      have y0 := (blk_cell q8 0).trans rfl
      have y1 := (blk_cell q8 1).trans rfl
      have y2 := (blk_cell q8 2).trans rfl
      have x0 := (blk_cell q4 0).trans rfl
      have x1 := (blk_cell q4 1).trans rfl
      have x2 := (blk_cell q4 2).trans rfl
      have v0 := blk_frozen q4 0
      have v1 := blk_frozen q4 1
      have v2 := blk_frozen q4 2
      go_wp2_with (fail)
      have p4 : (((w8.setCell ⟨b4, 0, none⟩ (.string x.f0)).setCell ⟨b4, 1, none⟩ (.int .i64 x.f1)).setCell ⟨b4, 2, none⟩ (.bool x.f2)).heap[b4]? = some (.cells #[.string x.f0, .int .i64 x.f1, .bool x.f2] TL (0, 0)) := by
        simpa using blk_set (blk_set (blk_set q4 0 (.string x.f0)) 1 (.int .i64 x.f1)) 2 (.bool x.f2)
      have hR9 := ((hR8.far (j := 0) n40 n4g (.string x.f0)).far (j := 1) n40 n4g (.int .i64 x.f1)).far (j := 2) n40 n4g (.bool x.f2)
      have hk9 := keep_set (j := 2) (keep_set (j := 1) (keep_set (j := 0) hk8 (.inr n4w) (.string x.f0)) (.inr n4w) (.int .i64 x.f1)) (.inr n4w) (.bool x.f2)
      generalize World.setCell (World.setCell (World.setCell w8 _ _) _ _) _ _ = w9 at *
      have r0 : w9.cell? ⟨b4, 0, none⟩ = some (.string x.f0) := (blk_cell p4 0).trans rfl
      have r1 : w9.cell? ⟨b4, 1, none⟩ = some (.int .i64 x.f1) := (blk_cell p4 1).trans rfl
      have r2 : w9.cell? ⟨b4, 2, none⟩ = some (.bool x.f2) := (blk_cell p4 2).trans rfl
      (try simp only [Exit.inBlock, Exit.then])
      refine bodyPost_ret (by simp [results, Tryd.results54, go_sem, r0, r1, r2]; try rfl) rfl ?_
      exact ⟨rfl, by rw [← HSF.out, if_neg (fun h => h.1 rfl)]; exact hR9, hk9⟩
    · have s2a := neq_l (l := []) e2; have s2b : ((d2).toList == ([] : List UInt8)) = false := (by simpa using s2a); have s2c : decide ((d2).toList = ([] : List UInt8)) = false := decide_eq_false s2a
      by_cases e1 : d1 = wElif
      · subst e1
        unfold wElif at *
        have y0 := (blk_cell q8 0).trans rfl
        have y1 := (blk_cell q8 1).trans rfl
        have y2 := (blk_cell q8 2).trans rfl
        have x0 := (blk_cell q4 0).trans rfl
        have x1 := (blk_cell q4 1).trans rfl
        have x2 := (blk_cell q4 2).trans rfl
        have v0 := blk_frozen q4 0
        have v1 := blk_frozen q4 1
        have v2 := blk_frozen q4 2
        go_wp2_with (fail)
        have p4 : (((w8.setCell ⟨b4, 0, none⟩ (.string x.f0)).setCell ⟨b4, 1, none⟩ (.int .i64 x.f1)).setCell ⟨b4, 2, none⟩ (.bool x.f2)).heap[b4]? = some (.cells #[.string x.f0, .int .i64 x.f1, .bool x.f2] TL (0, 0)) := by
          simpa using blk_set (blk_set (blk_set q4 0 (.string x.f0)) 1 (.int .i64 x.f1)) 2 (.bool x.f2)
        have hR9 := ((hR8.far (j := 0) n40 n4g (.string x.f0)).far (j := 1) n40 n4g (.int .i64 x.f1)).far (j := 2) n40 n4g (.bool x.f2)
        have hk9 := keep_set (j := 2) (keep_set (j := 1) (keep_set (j := 0) hk8 (.inr n4w) (.string x.f0)) (.inr n4w) (.int .i64 x.f1)) (.inr n4w) (.bool x.f2)
        generalize World.setCell (World.setCell (World.setCell w8 _ _) _ _) _ _ = w9 at *
        have r0 : w9.cell? ⟨b4, 0, none⟩ = some (.string x.f0) := (blk_cell p4 0).trans rfl
        have r1 : w9.cell? ⟨b4, 1, none⟩ = some (.int .i64 x.f1) := (blk_cell p4 1).trans rfl
        have r2 : w9.cell? ⟨b4, 2, none⟩ = some (.bool x.f2) := (blk_cell p4 2).trans rfl
        (try simp only [Exit.inBlock, Exit.then])
        refine bodyPost_ret (by simp [results, Tryd.results54, go_sem, r0, r1, r2]; try rfl) rfl ?_
        exact ⟨rfl, by rw [← HSF.out, if_neg (fun h => h.2 rfl)]; exact hR9, hk9⟩
      · have s1a := neq_l (l := [101, 108, 105, 102]) e1; have s1b : ((d1).toList == ([101, 108, 105, 102] : List UInt8)) = false := (by simpa using s1a); have s1c : decide ((d1).toList = ([101, 108, 105, 102] : List UInt8)) = false := decide_eq_false s1a
        have y1 := (blk_cell q8 1).trans rfl
        go_wp2_with (fail)
        refine (wrongW w0 w8 g ls _ 3 x.f1 hR8).mono ?_
        rintro e w10 ⟨rfl, hR10, hk10⟩
        have q10 := hk10.blk q8 n8g (by simp)
        have q4 := hk10.blk q4 n4g (by simp)
        have hk11 := hk8.trans hk10 (.inl rfl)
        clear y1 q8
        have y0 := (blk_cell q10 0).trans rfl
        have y1 := (blk_cell q10 1).trans rfl
        have y2 := (blk_cell q10 2).trans rfl
        have x0 := (blk_cell q4 0).trans rfl
        have x1 := (blk_cell q4 1).trans rfl
        have x2 := (blk_cell q4 2).trans rfl
        have v0 := blk_frozen q4 0
        have v1 := blk_frozen q4 1
        have v2 := blk_frozen q4 2
        go_wp2_with (fail)
        have p4 : (((w10.setCell ⟨b4, 0, none⟩ (.string x.f0)).setCell ⟨b4, 1, none⟩ (.int .i64 x.f1)).setCell ⟨b4, 2, none⟩ (.bool x.f2)).heap[b4]? = some (.cells #[.string x.f0, .int .i64 x.f1, .bool x.f2] TL (0, 0)) := by
          simpa using blk_set (blk_set (blk_set q4 0 (.string x.f0)) 1 (.int .i64 x.f1)) 2 (.bool x.f2)
        have hR9 := ((hR10.far (j := 0) n40 n4g (.string x.f0)).far (j := 1) n40 n4g (.int .i64 x.f1)).far (j := 2) n40 n4g (.bool x.f2)
        have hk9 := keep_set (j := 2) (keep_set (j := 1) (keep_set (j := 0) hk11 (.inr n4w) (.string x.f0)) (.inr n4w) (.int .i64 x.f1)) (.inr n4w) (.bool x.f2)
        generalize World.setCell (World.setCell (World.setCell w10 _ _) _ _) _ _ = w9 at *
        have r0 : w9.cell? ⟨b4, 0, none⟩ = some (.string x.f0) := (blk_cell p4 0).trans rfl
        have r1 : w9.cell? ⟨b4, 1, none⟩ = some (.int .i64 x.f1) := (blk_cell p4 1).trans rfl
        have r2 : w9.cell? ⟨b4, 2, none⟩ = some (.bool x.f2) := (blk_cell p4 2).trans rfl
        (try simp only [Exit.inBlock, Exit.then])
        refine bodyPost_ret (by simp [results, Tryd.results54, go_sem, r0, r1, r2]; try rfl) rfl ?_
        exact ⟨rfl, by rw [← HSF.out, if_pos ⟨e2, e1⟩]; exact hR9, hk9⟩
theorem closingW (w0 w : World) (g : Nat) (ls : List GL) (s : St) (l0 : GL) (hR : RA w0 w g ls s) (hls : LsOk ls) (hi : s.i ≤ ls.length) :
    Calls Tryd.prog 54 #[.pointer (some ⟨g, 0, none⟩), .agg #[.string l0.f0, .int .i64 l0.f1, .bool l0.f2]] w fun e w' =>
      e = .returned (.tuple #[.agg #[.string (cloP ls l0 s).l.f0, .int .i64 (cloP ls l0 s).l.f1, .bool (cloP ls l0 s).l.f2], .string (cloP ls l0 s).w, .string (cloP ls l0 s).t, .bool (cloP ls l0 s).ok]) ∧ RA w0 w' g ls (cloP ls l0 s).s ∧ KeepBut w w' g none := by
  by_cases hok : Ok (cloE ls l0 s)
  · obtain ⟨h1, h2⟩ := cloE_ok ls hok hi
    exact closing_yes w0 w g ls s l0 hR hls h1 h2
  · have hc : cloP ls l0 s = ⟨z0, emp, emp, false, cloE ls l0 s⟩ := by unfold cloP; rw [if_neg hok]
    rw [hc]
    exact closing_no w0 w g ls s l0 hR hls hi hok
end Go.Proofs.YtiedbnjoomcdbaaDoor.Tr
