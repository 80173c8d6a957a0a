/- The document's Same, walked where the blocks are the same but for numbers: it answers true. -/
import Derived.Test.YtiedbnjoomcdbaaDoorTrK
set_option linter.unusedVariables false
set_option linter.unusedSimpArgs false
namespace Go.Proofs.YtiedbnjoomcdbaaDoor.Tr
open Go.RowKit Go.Proofs.YtiedbnjoomcdbaaDoor.Ba Go.Proofs.YtiedbnjoomcdbaaDoorW.PrintWords Go.Proofs.YtiedbnjoomcdbaaDoorW.PrintLast Go.Proofs.YtiedbnjoomcdbaaDoorW.PrintMore

theorem all2_len {α β : Type} {R : α → β → Prop} : ∀ {l : List α} {m : List β}, All2 R l m → l.length = m.length
  | [], [], _ => rfl
  | _ :: l, _ :: m, h => by rw [List.length_cons, List.length_cons, all2_len h.2]
  | [], _ :: _, h => h.elim
  | _ :: _, [], h => h.elim
theorem all2_get {α β : Type} {R : α → β → Prop} (za : α) (zb : β) : ∀ {l : List α} {m : List β}, All2 R l m → ∀ i, i < l.length → R (l.getD i za) (m.getD i zb)
  | [], _, _, i, hi => by simp at hi
  | a :: l, b :: m, h, 0, _ => h.1
  | a :: l, b :: m, h, i + 1, hi => by
    have := all2_get za zb h.2 i (by simpa using hi)
    simpa using this
  | _ :: _, [], h, _, _ => h.elim
/-- two boxes that were made -/
structure BX (w w' : World) (b c t : Nat) (X Y : Array Value) : Prop where
  x : w'.heap[b]? = some (.cells X t (0, 0))
  y : w'.heap[c]? = some (.cells Y t (0, 0))
  ne : b ≠ c
  gb : w.heap.size ≤ b
  gc : w.heap.size ≤ c
  bel : Below w.heap.size w w'
theorem bx_one (w : World) (t : Nat) (X Y : Array Value) : BX w ((w.alloc (.cells X t)).alloc (.cells Y t)).drew w.heap.size (w.heap.size + 1) t X Y :=
  ⟨blk_alloc (heap_alloc_new w _) _, (by have h := heap_alloc_new (w.alloc (.cells X t)) (.cells Y t); exact (show ((w.alloc (.cells X t)).alloc (.cells Y t)).heap[w.heap.size + 1]? = _ from by simpa using h)), by omega, Nat.le_refl _, by omega, below_drew (below_alloc (below_alloc (Below.refl _ _) _) _)⟩
theorem bx_two (w : World) (t : Nat) (X Y : Array Value) : BX w ((w.alloc (.cells Y t)).alloc (.cells X t)).drew (w.heap.size + 1) w.heap.size t X Y :=
  ⟨(by have h := heap_alloc_new (w.alloc (.cells Y t)) (.cells X t); exact (show ((w.alloc (.cells Y t)).alloc (.cells X t)).heap[w.heap.size + 1]? = _ from by simpa using h)), blk_alloc (heap_alloc_new w _) _, by omega, by omega, Nat.le_refl _, below_drew (below_alloc (below_alloc (Below.refl _ _) _) _)⟩
theorem BX.putX {w W : World} {b c t : Nat} {X Y : Array Value} (h : BX w W b c t X Y) (j : Nat) (v : Value) : BX w (W.setCell ⟨b, j, none⟩ v) b c t (X.setIfInBounds j v) Y :=
  ⟨blk_set h.x j v, (Below.heap_setCell W ⟨b, j, none⟩ v c (fun e => h.ne e.symm)).trans h.y, h.ne, h.gb, h.gc, h.bel.setCell (p := ⟨b, j, none⟩) h.gb v⟩
theorem BX.putY {w W : World} {b c t : Nat} {X Y : Array Value} (h : BX w W b c t X Y) (j : Nat) (v : Value) : BX w (W.setCell ⟨c, j, none⟩ v) b c t X (Y.setIfInBounds j v) :=
  ⟨(Below.heap_setCell W ⟨c, j, none⟩ v b (fun e => h.ne e)).trans h.x, blk_set h.y j v, h.ne, h.gb, h.gc, h.bel.setCell (p := ⟨c, j, none⟩) h.gc v⟩
theorem BX.next {w W W2 : World} {b c t : Nat} {X Y : Array Value} (h : BX w W b c t X Y) (k : Below W.heap.size W W2) : BX w W2 b c t X Y :=
  ⟨blk_below h.x k, blk_below h.y k, h.ne, h.gb, h.gc, below_then h.bel h.bel.size k⟩
/-- what Same is asked -/
def SmOk (wa wb : World) (d : Nat) : Prop := ∀ (la lb : List Nd), EqD d la lb → ∀ (A A' : Option Addr) (c c' : Nat) (w : World), Below wa.heap.size wa w → Below wb.heap.size wb w → Kd.C (rN wa) w A la.length la → la.length ≤ c → Kd.C (rN wb) w A' lb.length lb → lb.length ≤ c' →
  Calls Tryd.prog 22 #[.slice A la.length c, .slice A' lb.length c', .bool false] w fun e w' => e = .returned (.bool true) ∧ Below w.heap.size w w'
set_option maxHeartbeats 8000000 in
set_option maxRecDepth 100000 in
theorem same0 (wa wb : World) : SmOk wa wb 0 := by
  intro la lb he A A' c c' w h1 h2 h3 h4 h5 h6
  obtain ⟨rfl, rfl⟩ := he
  go_enter Tryd.func22, Tryd.ntmps22
  go_wp2_with (fail)
  refine wp_loop_rounds 1 ?_
  rw [rounds_succ]
  go_wp2_with (fail)
  go_ret
  exact ⟨rfl, Below.refl _ _⟩
set_option maxHeartbeats 16000000 in
set_option maxRecDepth 100000 in
theorem sameS (wa wb : World) (d : Nat) (ih : SmOk wa wb d) : SmOk wa wb (d + 1) := by
  intro la lb he A A' c c' w hwa hwb hCa hca hCb hcb
  have hu33 := Tryd.underlying33
  have hu69 := Tryd.underlying69
  have hu71 := Tryd.underlying71
  have IH := Aside0.mk ih
  have HE := Aside0.mk (show All2 (EqN (EqD d)) la lb from he)
  have HCa := Aside0.mk hCa
  have HCb := Aside0.mk hCb
  have hmx := Aside0.mk hCa.2.1
  have HWa := Aside0.mk hwa
  have HWb := Aside0.mk hwb
  have hlen := all2_len HE.out
  obtain ⟨n, hn⟩ : ∃ n, la.length = n := ⟨_, rfl⟩
  have hn' : lb.length = n := by rw [← hlen]; exact hn
  have HN := Aside0.mk (And.intro hn hn')
  rw [hn, hn']
  rw [hn] at HCa hmx
  rw [hn'] at HCb
  clear ih he hCa hca hCb hcb hwa hwb hlen hn hn'
  go_enter Tryd.func22, Tryd.ntmps22
  go_wp2_with (fail)
  go_loopw [7] (fun v7 wr => ∃ i : Int, v7 = .int .i64 i ∧ 0 ≤ i ∧ i ≤ n ∧ Aside0 (Below w.heap.size w wr)) (fun v7 _ => n - (intOf v7).toNat)
  case atStart => exact ⟨0, rfl, by omega, by omega, ⟨Below.refl _ _⟩⟩
  case round =>
    obtain ⟨i, rfl, hi0, hi1, HBr⟩ := hrel
    generalize wr = w1 at *
    by_cases hlt : i < n
    · have d0 : decide (i < (n : Int)) = true := decide_eq_true hlt
      have HII := Aside0.mk (And.intro hi0 hlt)
      have hwi : wrap64 (i + 1) = i + 1 := by have := hmx.out; unfold wrap64; omega
      obtain ⟨ad, cs, e, hcl, hK, hcc⟩ := Kd.C_get HCa.out zN i hi0 hlt
      obtain ⟨ad', cs', e', hcl', hK', hcc'⟩ := Kd.C_get HCb.out zN i hi0 hlt
      have HEx := Aside0.mk (all2_get zN zN HE.out i.toNat (by rw [HN.out.1]; omega))
      generalize la.getD i.toNat zN = x at hK HEx
      generalize lb.getD i.toNat zN = y at hK' HEx
      obtain ⟨Ab, cb, An, cn, Ak, ck, rfl, ⟨hb1, hn1, hk1⟩, hCb, hCn, hCk⟩ := rnd_open hK
      obtain ⟨Ab', cb', An', cn', Ak', ck', rfl, ⟨hb1', hn1', hk1'⟩, hCb', hCn', hCk'⟩ := rnd_open hK'
      have hcc := fun j u h => pw_cell_below HBr.out (hcc j u h)
      have hcc' := fun j u h => pw_cell_below HBr.out (hcc' j u h)
      obtain ⟨nb, hnb⟩ : ∃ k, (ndF x).2.2.2.2.1.length = k := ⟨_, rfl⟩
      obtain ⟨nn, hnn⟩ : ∃ k, (ndF x).2.2.2.2.2.1.length = k := ⟨_, rfl⟩
      obtain ⟨nk, hnk⟩ : ∃ k, (ndF x).2.2.2.2.2.2.2.length = k := ⟨_, rfl⟩
      have hnb' : (ndF y).2.2.2.2.1.length = nb := by rw [← all2_len HEx.out.b]; exact hnb
      have hnn' : (ndF y).2.2.2.2.2.1.length = nn := by rw [← HEx.out.n]; exact hnn
      obtain ⟨nk', hnk'⟩ : ∃ k, (ndF y).2.2.2.2.2.2.2.length = k := ⟨_, rfl⟩
      rw [hnb, hnn, hnk] at hcc
      rw [hnb', hnn', hnk'] at hcc'
      rw [hnb] at hb1 hCb
      rw [hnb'] at hb1' hCb'
      rw [hnn] at hn1 hCn
      rw [hnn'] at hn1' hCn'
      rw [hnk] at hk1 hCk
      rw [hnk'] at hk1' hCk'
      rw [← HEx.out.k, ← HEx.out.li] at hcc'
      have HL := Aside0.mk HEx.out.l
      obtain ⟨kx, hkx⟩ : ∃ k, (ndF x).1 = k := ⟨_, rfl⟩
      obtain ⟨sx, hsx⟩ : ∃ k, (ndF x).2.1 = k := ⟨_, rfl⟩
      obtain ⟨ax, hax⟩ : ∃ k, (ndF x).2.2.1 = k := ⟨_, rfl⟩
      obtain ⟨bx, hbx⟩ : ∃ k, (ndF x).2.2.2.1 = k := ⟨_, rfl⟩
      obtain ⟨lx, hlx⟩ : ∃ k, (ndF x).2.2.2.2.2.2.1 = k := ⟨_, rfl⟩
      obtain ⟨sy, hsy⟩ : ∃ k, (ndF y).2.1 = k := ⟨_, rfl⟩
      obtain ⟨ay, hay⟩ : ∃ k, (ndF y).2.2.1 = k := ⟨_, rfl⟩
      obtain ⟨by', hby⟩ : ∃ k, (ndF y).2.2.2.1 = k := ⟨_, rfl⟩
      rw [hkx, hsx, hax, hbx, hlx] at hcc
      rw [hkx, hlx, hsy, hay, hby] at hcc'
      rw [hkx, hsx, hbx, hsy, hby] at HL
      have hcc : ∀ j u, ([.int .i64 kx, .string sx, .int .i64 ax, .bool bx, .slice Ab nb cb, .slice An nn cn, .string lx, .slice Ak nk ck] : List Value)[j]? = some u → w1.cell? (ad.add (i.toNat * 8 + j)) = some u := hcc
      have hcc' : ∀ j u, ([.int .i64 kx, .string sy, .int .i64 ay, .bool by', .slice Ab' nb cb', .slice An' nn cn', .string lx, .slice Ak' nk' ck'] : List Value)[j]? = some u → w1.cell? (ad'.add (i.toNat * 8 + j)) = some u := hcc'
      have x0 := hcc 0 _ rfl
      have x1 := hcc 1 _ rfl
      have x2 := hcc 2 _ rfl
      have x3 := hcc 3 _ rfl
      have x4 := hcc 4 _ rfl
      have x5 := hcc 5 _ rfl
      have x6 := hcc 6 _ rfl
      have x7 := hcc 7 _ rfl
      rw [Nat.add_zero] at x0
      rw [add_field _ _ 1 (by omega)] at x1
      rw [add_field _ _ 2 (by omega)] at x2
      rw [add_field _ _ 3 (by omega)] at x3
      rw [add_field _ _ 4 (by omega)] at x4
      rw [add_field _ _ 5 (by omega)] at x5
      rw [add_field _ _ 6 (by omega)] at x6
      rw [add_field _ _ 7 (by omega)] at x7
      have y0 := hcc' 0 _ rfl
      have y1 := hcc' 1 _ rfl
      have y2 := hcc' 2 _ rfl
      have y3 := hcc' 3 _ rfl
      have y4 := hcc' 4 _ rfl
      have y5 := hcc' 5 _ rfl
      have y6 := hcc' 6 _ rfl
      have y7 := hcc' 7 _ rfl
      rw [Nat.add_zero] at y0
      rw [add_field _ _ 1 (by omega)] at y1
      rw [add_field _ _ 2 (by omega)] at y2
      rw [add_field _ _ 3 (by omega)] at y3
      rw [add_field _ _ 4 (by omega)] at y4
      rw [add_field _ _ 5 (by omega)] at y5
      rw [add_field _ _ 6 (by omega)] at y6
      rw [add_field _ _ 7 (by omega)] at y7
      have HCb1 := Aside0.mk (And.intro hCb hCb')
      have HCn1 := Aside0.mk (And.intro hCn hCn')
      have HCk1 := Aside0.mk (And.intro hCk hCk')
      have HNB := Aside0.mk (And.intro hnb hnb')
      have HNN := Aside0.mk (And.intro hnn hnn')
      have HNK := Aside0.mk (And.intro hnk hnk')
      have HLE := Aside0.mk (And.intro (And.intro hb1 hb1') (And.intro hk1 hk1'))
      clear hcl hcc hcl' hcc' hCb hCb' hCn hCn' hCk hCk' hnb hnb' hnn hnn' hnk hnk' hb1 hb1' hn1 hn1' hk1 hk1' hK hK' hkx hsx hax hbx hlx hsy hay hby
      subst e e'
      go_upto_region 6 with (fail)
      go_cut [8, 9] (fun s8 s9 wx => ∃ b8 b9, s8 = .pointer (some ⟨b8, 0, none⟩) ∧ s9 = .pointer (some ⟨b9, 0, none⟩) ∧ Aside0 (BX w1 wx b8 b9 TRn #[.int .i64 kx, .string sx, .int .i64 ax, .bool bx, .slice Ab nb cb, .slice An nn cn, .string lx, .slice Ak nk ck] #[.int .i64 kx, .string sy, .int .i64 ay, .bool by', .slice Ab' nb cb', .slice An' nn cn', .string lx, .slice Ak' nk' ck']))
      case first =>
        have ne0 := World.new_ne w1 _ x0
        have ne1 := World.new_ne w1 _ x1
        have ne2 := World.new_ne w1 _ x2
        have ne3 := World.new_ne w1 _ x3
        have ne4 := World.new_ne w1 _ x4
        have ne5 := World.new_ne w1 _ x5
        have ne6 := World.new_ne w1 _ x6
        have ne7 := World.new_ne w1 _ x7
        have ne8 := World.new_ne w1 _ y0
        have ne9 := World.new_ne w1 _ y1
        have ne10 := World.new_ne w1 _ y2
        have ne11 := World.new_ne w1 _ y3
        have ne12 := World.new_ne w1 _ y4
        have ne13 := World.new_ne w1 _ y5
        have ne14 := World.new_ne w1 _ y6
        have ne15 := World.new_ne w1 _ y7
        go_region_held3 (fun w' => w'.cell? (ad.add (i.toNat * 8)) = some (.int .i64 kx) ∧ w'.cell? ⟨(ad.add (i.toNat * 8)).block, (ad.add (i.toNat * 8)).off + 1, none⟩ = some (.string sx) ∧ w'.cell? ⟨(ad.add (i.toNat * 8)).block, (ad.add (i.toNat * 8)).off + 2, none⟩ = some (.int .i64 ax) ∧ w'.cell? ⟨(ad.add (i.toNat * 8)).block, (ad.add (i.toNat * 8)).off + 3, none⟩ = some (.bool bx) ∧ w'.cell? ⟨(ad.add (i.toNat * 8)).block, (ad.add (i.toNat * 8)).off + 4, none⟩ = some (.slice Ab nb cb) ∧ w'.cell? ⟨(ad.add (i.toNat * 8)).block, (ad.add (i.toNat * 8)).off + 5, none⟩ = some (.slice An nn cn) ∧ w'.cell? ⟨(ad.add (i.toNat * 8)).block, (ad.add (i.toNat * 8)).off + 6, none⟩ = some (.string lx) ∧ w'.cell? ⟨(ad.add (i.toNat * 8)).block, (ad.add (i.toNat * 8)).off + 7, none⟩ = some (.slice Ak nk ck) ∧ w'.cell? (ad'.add (i.toNat * 8)) = some (.int .i64 kx) ∧ w'.cell? ⟨(ad'.add (i.toNat * 8)).block, (ad'.add (i.toNat * 8)).off + 1, none⟩ = some (.string sy) ∧ w'.cell? ⟨(ad'.add (i.toNat * 8)).block, (ad'.add (i.toNat * 8)).off + 2, none⟩ = some (.int .i64 ay) ∧ w'.cell? ⟨(ad'.add (i.toNat * 8)).block, (ad'.add (i.toNat * 8)).off + 3, none⟩ = some (.bool by') ∧ w'.cell? ⟨(ad'.add (i.toNat * 8)).block, (ad'.add (i.toNat * 8)).off + 4, none⟩ = some (.slice Ab' nb cb') ∧ w'.cell? ⟨(ad'.add (i.toNat * 8)).block, (ad'.add (i.toNat * 8)).off + 5, none⟩ = some (.slice An' nn cn') ∧ w'.cell? ⟨(ad'.add (i.toNat * 8)).block, (ad'.add (i.toNat * 8)).off + 6, none⟩ = some (.string lx) ∧ w'.cell? ⟨(ad'.add (i.toNat * 8)).block, (ad'.add (i.toNat * 8)).off + 7, none⟩ = some (.slice Ak' nk' ck')) (go_keep) (fail)
        all_goals (go_wp2_with (fail); go_meet)
        · exact ⟨_, _, rfl, rfl, ⟨bx_one w1 TRn _ _⟩⟩
        · exact ⟨_, _, rfl, rfl, ⟨bx_two w1 TRn _ _⟩⟩
      case rest =>
        obtain ⟨b8, b9, rfl, rfl, HXY⟩ := hcut
        clear x0 x1 x2 x3 x4 x5 x6 x7 y0 y1 y2 y3 y4 y5 y6 y7
        have p2 := (blk_cell HXY.out.x 2).trans rfl
        have f2 := blk_frozen HXY.out.x 2
        have r2 := (blk_cell HXY.out.y 2).trans rfl
        have g2 := blk_frozen HXY.out.y 2
        have hn89 := HXY.out.ne
        have hn98 := HXY.out.ne.symm
        go_upto_region 9 with (fail)
        have HX0 := Aside0.mk (show BX w1 ((wc.setCell ⟨b8, 2, none⟩ (.int .i64 0)).setCell ⟨b9, 2, none⟩ (.int .i64 0)) b8 b9 TRn #[.int .i64 kx, .string sx, .int .i64 0, .bool bx, .slice Ab nb cb, .slice An nn cn, .string lx, .slice Ak nk ck] #[.int .i64 kx, .string sy, .int .i64 0, .bool by', .slice Ab' nb cb', .slice An' nn cn', .string lx, .slice Ak' nk' ck'] by
          simpa using (HXY.out.putX 2 (.int .i64 0)).putY 2 (.int .i64 0))
        obtain ⟨W9, hW9⟩ : ∃ W, (wc.setCell ⟨b8, 2, none⟩ (.int .i64 0)).setCell ⟨b9, 2, none⟩ (.int .i64 0) = W := ⟨_, rfl⟩
        rw [hW9] at HX0 ⊢
        clear hW9 p2 f2 r2 g2 HXY hn89 hn98
        have p0 := (blk_cell HX0.out.x 0).trans rfl; have p1 := (blk_cell HX0.out.x 1).trans rfl; have p2 := (blk_cell HX0.out.x 2).trans rfl; have p3 := (blk_cell HX0.out.x 3).trans rfl; have p4 := (blk_cell HX0.out.x 4).trans rfl; have p5 := (blk_cell HX0.out.x 5).trans rfl; have p6 := (blk_cell HX0.out.x 6).trans rfl; have p7 := (blk_cell HX0.out.x 7).trans rfl
        have q0 := (blk_cell HX0.out.y 0).trans rfl; have q1 := (blk_cell HX0.out.y 1).trans rfl; have q2 := (blk_cell HX0.out.y 2).trans rfl; have q3 := (blk_cell HX0.out.y 3).trans rfl; have q4 := (blk_cell HX0.out.y 4).trans rfl; have q5 := (blk_cell HX0.out.y 5).trans rfl; have q6 := (blk_cell HX0.out.y 6).trans rfl; have q7 := (blk_cell HX0.out.y 7).trans rfl
        have KC := Aside0.mk (show Calls Tryd.prog 22 #[.slice Ak nk ck, .slice Ak' nk' ck', .bool false] W9 fun e w' => e = .returned (.bool true) ∧ Below W9.heap.size W9 w' by
          have hb := below_then HBr.out HBr.out.size HX0.out.bel
          have h4 := IH.out (ndF x).2.2.2.2.2.2.2 (ndF y).2.2.2.2.2.2.2 HEx.out.ks Ak Ak' ck ck' W9 (HWa.out.trans (hb.mono HWa.out.size)) (HWb.out.trans (hb.mono HWb.out.size)) (by rw [HNK.out.1]; exact Kd.C_below HCk1.out.1 hb) (by rw [HNK.out.1]; exact HLE.out.2.1) (by rw [HNK.out.2]; exact Kd.C_below HCk1.out.2 hb) (by rw [HNK.out.2]; exact HLE.out.2.2)
          rw [HNK.out.1, HNK.out.2] at h4
          exact h4)
        go_cut [98] (fun v98 wx => v98 = .bool false ∧ Aside0 (Below W9.heap.size W9 wx))
        case first =>
          by_cases hk : kx = 2
          · subst hk
            go_wp2_with (fail)
            refine KC.out.mono ?_
            rintro e w2 ⟨rfl, hb2⟩
            go_wp2_with (fail)
            go_meet
            exact ⟨rfl, ⟨hb2⟩⟩
          · obtain ⟨rfl, rfl⟩ := HL.out hk
            have k1 : (kx == 2) = false := beq_eq_false_iff_ne.2 hk
            go_wp2_with (fail)
            refine KC.out.mono ?_
            rintro e w2 ⟨rfl, hb2⟩
            go_wp2_with (fail)
            go_meet
            exact ⟨rfl, ⟨hb2⟩⟩
        case rest =>
          obtain ⟨rfl, HW2⟩ := hcut
          have HX2 := Aside0.mk (HX0.out.next HW2.out)
          clear p0 p1 p2 p3 p4 p5 p6 p7 q0 q1 q2 q3 q4 q5 q6 q7 KC HX0 HW2
          go_wp2_with (fail)
          go_loopw [10] (fun v10 wq => ∃ j : Int, v10 = .int .i64 j ∧ 0 ≤ j ∧ j ≤ nn ∧ Aside0 (BX w1 wq b8 b9 TRn #[.int .i64 kx, .string sx, .int .i64 0, .bool bx, .slice Ab nb cb, .slice An nn cn, .string lx, .slice Ak nk ck] #[.int .i64 kx, .string sy, .int .i64 0, .bool by', .slice Ab' nb cb', .slice An' nn cn', .string lx, .slice Ak' nk' ck'])) (fun v10 _ => nn - (intOf v10).toNat)
          case atStart => exact ⟨0, rfl, by omega, by omega, HX2⟩
          case round =>
            clear HX2
            obtain ⟨j, rfl, hj0, hj1, HXq⟩ := hrel
            have p5 := (blk_cell HXq.out.x 5).trans rfl
            have q5 := (blk_cell HXq.out.y 5).trans rfl
            by_cases hjt : j < nn
            · have d2 : decide (j < (nn : Int)) = true := decide_eq_true hjt
              have HJJ := Aside0.mk (And.intro hj0 hjt)
              have hwj : wrap64 (j + 1) = j + 1 := by have := HCn1.out.1.2.1; unfold wrap64; omega
              obtain ⟨ae, ee, hx⟩ := Kd.at_string HCn1.out.1 j hj0 hjt
              obtain ⟨ae', ee', hy⟩ := Kd.at_string HCn1.out.2 j hj0 hjt
              have hb := below_then HBr.out HBr.out.size HXq.out.bel
              have hx := pw_cell_below (HWa.out.trans (hb.mono HWa.out.size)) hx
              have hy := pw_cell_below (HWb.out.trans (hb.mono HWb.out.size)) hy
              rw [← HEx.out.n] at hy
              obtain ⟨sj, hsj⟩ : ∃ s, rdOf ByteArray.empty (ndF x).2.2.2.2.2.1 j = s := ⟨_, rfl⟩
              rw [hsj] at hx hy
              clear hb hsj
              subst ee ee'
              go_wp2_with (fail)
              go_quiet (fail)
              go_wp2_with (fail)
              go_roundw
              case measure => rw [hwj]; exact msrN HJJ.out.1 HJJ.out.2
              case rel => exact ⟨j + 1, by go_num, (nxtN HJJ.out.1 HJJ.out.2).1, (nxtN HJJ.out.1 HJJ.out.2).2, ⟨HXq.out.next (by repeat (first | (with_reducible exact Below.refl _ _) | apply pw_below_drewN | apply below_drew1))⟩⟩
            · have d2 : decide (j < (nn : Int)) = false := decide_eq_false hjt
              go_wp2_with (fail)
              clear p5 q5
              go_loopw [11] (fun v11 wq => ∃ j : Int, v11 = .int .i64 j ∧ 0 ≤ j ∧ j ≤ nb ∧ Aside0 (BX w1 wq b8 b9 TRn #[.int .i64 kx, .string sx, .int .i64 0, .bool bx, .slice Ab nb cb, .slice An nn cn, .string lx, .slice Ak nk ck] #[.int .i64 kx, .string sy, .int .i64 0, .bool by', .slice Ab' nb cb', .slice An' nn cn', .string lx, .slice Ak' nk' ck'])) (fun v11 _ => nb - (intOf v11).toNat)
              case atStart => exact ⟨0, rfl, by omega, by omega, HXq⟩
              case round =>
                clear HXq
                obtain ⟨j, rfl, hj0, hj1, HXq⟩ := hrel
                have p4 := (blk_cell HXq.out.x 4).trans rfl
                have q4 := (blk_cell HXq.out.y 4).trans rfl
                by_cases hjt : j < nb
                · have d3 : decide (j < (nb : Int)) = true := decide_eq_true hjt
                  have HJJ := Aside0.mk (And.intro hj0 hjt)
                  have hwj : wrap64 (j + 1) = j + 1 := by have := HCb1.out.1.2.1; unfold wrap64; omega
                  obtain ⟨ae, cse, ee, hcl, hKb, hcb⟩ := Kd.C_get HCb1.out.1 zB j hj0 hjt
                  obtain ⟨ae', cse', ee', hcl', hKb', hcb'⟩ := Kd.C_get HCb1.out.2 zB j hj0 hjt
                  have HEb := Aside0.mk (all2_get zB zB HEx.out.b j.toNat (by rw [HNB.out.1]; omega))
                  generalize (ndF x).2.2.2.2.1.getD j.toNat zB = u at hKb HEb
                  generalize (ndF y).2.2.2.2.1.getD j.toNat zB = v at hKb' HEb
                  obtain ⟨Aq, cq, rfl, hq1, hCq⟩ := rbr_open hKb
                  obtain ⟨Aq', cq', rfl, hq1', hCq'⟩ := rbr_open hKb'
                  have hb := below_then HBr.out HBr.out.size HXq.out.bel
                  obtain ⟨nq, hnq⟩ : ∃ k, (brF u).2.2.2.length = k := ⟨_, rfl⟩
                  obtain ⟨nq', hnq'⟩ : ∃ k, (brF v).2.2.2.length = k := ⟨_, rfl⟩
                  obtain ⟨wd, hwd⟩ : ∃ k, (brF u).1 = k := ⟨_, rfl⟩
                  obtain ⟨td, htd⟩ : ∃ k, (brF u).2.1 = k := ⟨_, rfl⟩
                  obtain ⟨au, hau⟩ : ∃ k, (brF u).2.2.1 = k := ⟨_, rfl⟩
                  obtain ⟨av, hav⟩ : ∃ k, (brF v).2.2.1 = k := ⟨_, rfl⟩
                  rw [hnq, hwd, htd, hau] at hcb
                  rw [hnq', ← HEb.out.1, ← HEb.out.2.1, hwd, htd, hav] at hcb'
                  rw [hnq] at hq1 hCq
                  rw [hnq'] at hq1' hCq'
                  have hcb : ∀ k r, ([.string wd, .string td, .int .i64 au, .slice Aq nq cq] : List Value)[k]? = some r → w1.cell? (ae.add (j.toNat * 4 + k)) = some r := fun k r h => pw_cell_below HBr.out (hcb k r h)
                  have hcb' : ∀ k r, ([.string wd, .string td, .int .i64 av, .slice Aq' nq' cq'] : List Value)[k]? = some r → w1.cell? (ae'.add (j.toNat * 4 + k)) = some r := fun k r h => pw_cell_below HBr.out (hcb' k r h)
                  have HCB := Aside0.mk (And.intro (fun k r h => pw_cell_below HXq.out.bel (hcb k r h)) (fun k r h => pw_cell_below HXq.out.bel (hcb' k r h)))
                  have hcc := HCB.out.1
                  have hcc' := HCB.out.2
                  have x0 := hcc 0 _ rfl
                  have x1 := hcc 1 _ rfl
                  have x2 := hcc 2 _ rfl
                  have x3 := hcc 3 _ rfl
                  rw [Nat.add_zero] at x0
                  rw [add_field _ _ 1 (by omega)] at x1
                  rw [add_field _ _ 2 (by omega)] at x2
                  rw [add_field _ _ 3 (by omega)] at x3
                  have y0 := hcc' 0 _ rfl
                  have y1 := hcc' 1 _ rfl
                  have y2 := hcc' 2 _ rfl
                  have y3 := hcc' 3 _ rfl
                  rw [Nat.add_zero] at y0
                  rw [add_field _ _ 1 (by omega)] at y1
                  rw [add_field _ _ 2 (by omega)] at y2
                  rw [add_field _ _ 3 (by omega)] at y3
                  have HCq1 := Aside0.mk (And.intro hCq hCq')
                  have HNq := Aside0.mk (And.intro hnq hnq')
                  have HQ1 := Aside0.mk (And.intro hq1 hq1')
                  clear hcl hcl' hcb hcb' hcc hcc' HCB hCq hCq' hnq hnq' hq1 hq1' hKb hKb' hb hwd htd hau hav
                  subst ee ee'
                  have p4 : wr.cell? ⟨b8, 4, none⟩ = some (.slice (some ae) nb cb) := p4
                  have q4 : wr.cell? ⟨b9, 4, none⟩ = some (.slice (some ae') nb cb') := q4
                  go_upto_region 19 with (fail)
                  go_cut [12, 13] (fun s8 s9 wx => ∃ b12 b13, s8 = .pointer (some ⟨b12, 0, none⟩) ∧ s9 = .pointer (some ⟨b13, 0, none⟩) ∧ Aside0 (BX wr wx b12 b13 TRb #[.string wd, .string td, .int .i64 au, .slice Aq nq cq] #[.string wd, .string td, .int .i64 av, .slice Aq' nq' cq']))
                  case first =>
                    have ne8 := World.new_ne wr _ p4
                    have ne9 := World.new_ne wr _ q4
                    have ne0 := World.new_ne wr _ x0
                    have ne1 := World.new_ne wr _ x1
                    have ne2 := World.new_ne wr _ x2
                    have ne3 := World.new_ne wr _ x3
                    have ne4 := World.new_ne wr _ y0
                    have ne5 := World.new_ne wr _ y1
                    have ne6 := World.new_ne wr _ y2
                    have ne7 := World.new_ne wr _ y3
                    go_region_held3 (fun w' => w'.cell? ⟨b8, 4, none⟩ = some (.slice (some ae) nb cb) ∧ w'.cell? ⟨b9, 4, none⟩ = some (.slice (some ae') nb cb') ∧ w'.cell? (ae.add (j.toNat * 4)) = some (.string wd) ∧ w'.cell? ⟨(ae.add (j.toNat * 4)).block, (ae.add (j.toNat * 4)).off + 1, none⟩ = some (.string td) ∧ w'.cell? ⟨(ae.add (j.toNat * 4)).block, (ae.add (j.toNat * 4)).off + 2, none⟩ = some (.int .i64 au) ∧ w'.cell? ⟨(ae.add (j.toNat * 4)).block, (ae.add (j.toNat * 4)).off + 3, none⟩ = some (.slice Aq nq cq) ∧ w'.cell? (ae'.add (j.toNat * 4)) = some (.string wd) ∧ w'.cell? ⟨(ae'.add (j.toNat * 4)).block, (ae'.add (j.toNat * 4)).off + 1, none⟩ = some (.string td) ∧ w'.cell? ⟨(ae'.add (j.toNat * 4)).block, (ae'.add (j.toNat * 4)).off + 2, none⟩ = some (.int .i64 av) ∧ w'.cell? ⟨(ae'.add (j.toNat * 4)).block, (ae'.add (j.toNat * 4)).off + 3, none⟩ = some (.slice Aq' nq' cq')) (go_keep) (fail)
                    all_goals (go_wp2_with (fail); go_meet)
                    · exact ⟨_, _, rfl, rfl, ⟨bx_one wr TRb _ _⟩⟩
                    · exact ⟨_, _, rfl, rfl, ⟨bx_two wr TRb _ _⟩⟩
                  case rest =>
                    obtain ⟨b12, b13, rfl, rfl, HUV⟩ := hcut
                    clear x0 x1 x2 x3 y0 y1 y2 y3 p4 q4
                    have p0 := (blk_cell HUV.out.x 0).trans rfl
                    have p1 := (blk_cell HUV.out.x 1).trans rfl
                    have p3 := (blk_cell HUV.out.x 3).trans rfl
                    have q0 := (blk_cell HUV.out.y 0).trans rfl
                    have q1 := (blk_cell HUV.out.y 1).trans rfl
                    have q3 := (blk_cell HUV.out.y 3).trans rfl
                    have KC := Aside0.mk (show Calls Tryd.prog 22 #[.slice Aq nq cq, .slice Aq' nq' cq', .bool false] wc fun e w' => e = .returned (.bool true) ∧ Below wc.heap.size wc w' by
                      have hb := below_then (below_then HBr.out HBr.out.size HXq.out.bel) (below_then HBr.out HBr.out.size HXq.out.bel).size HUV.out.bel
                      have hb1 := below_then HXq.out.bel HXq.out.bel.size HUV.out.bel
                      have h4 := IH.out (brF u).2.2.2 (brF v).2.2.2 HEb.out.2.2 Aq Aq' cq cq' wc (HWa.out.trans (hb.mono HWa.out.size)) (HWb.out.trans (hb.mono HWb.out.size)) (by rw [HNq.out.1]; exact Kd.C_below HCq1.out.1 hb) (by rw [HNq.out.1]; exact HQ1.out.1) (by rw [HNq.out.2]; exact Kd.C_below HCq1.out.2 hb) (by rw [HNq.out.2]; exact HQ1.out.2)
                      rw [HNq.out.1, HNq.out.2] at h4
                      exact h4)
                    go_wp2_with (fail)
                    refine KC.out.mono ?_
                    rintro e w2 ⟨rfl, hb2⟩
                    have HB2 := Aside0.mk (HXq.out.next (below_then HUV.out.bel HUV.out.bel.size hb2))
                    clear hb2 KC p0 p1 p3 q0 q1 q3
                    go_wp2_with (fail)
                    go_roundw
                    case measure => rw [hwj]; exact msrN HJJ.out.1 HJJ.out.2
                    case rel => exact ⟨j + 1, by go_num, (nxtN HJJ.out.1 HJJ.out.2).1, (nxtN HJJ.out.1 HJJ.out.2).2, HB2⟩
                · have d3 : decide (j < (nb : Int)) = false := decide_eq_false hjt
                  go_wp2_with (fail)
                  go_roundw
                  case measure => rw [hwi]; exact msrN HII.out.1 HII.out.2
                  case rel => exact ⟨i + 1, by go_num, (nxtN HII.out.1 HII.out.2).1, (nxtN HII.out.1 HII.out.2).2, ⟨below_then HBr.out HBr.out.size HXq.out.bel⟩⟩
    · have d0 : decide (i < (n : Int)) = false := decide_eq_false hlt
      go_wp2_with (fail)
      go_ret
      exact ⟨rfl, HBr.out⟩
end Go.Proofs.YtiedbnjoomcdbaaDoor.Tr
