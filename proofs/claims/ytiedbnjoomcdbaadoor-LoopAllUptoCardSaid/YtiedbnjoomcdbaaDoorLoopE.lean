/- (*reader).loop at 'alive''s three lines, walked. -/
import Derived.Test.YtiedbnjoomcdbaaDoorLoopD
set_option linter.unusedVariables false
set_option linter.unusedSimpArgs false
namespace Go.Proofs.YtiedbnjoomcdbaaDoor.PO
open Go.RowKit Go.Proofs.YtiedbnjoomcdbaaDoorW.PrintWords Go.Proofs.YtiedbnjoomcdbaaDoorW.PrintLast Go.Proofs.YtiedbnjoomcdbaaDoorW.PrintMore

set_option maxHeartbeats 8000000 in
set_option maxRecDepth 100000 in
theorem loop_ok (g lb : Nat) (w0 w : World) (hS : SS w g lb 1) (hB : Below w0.heap.size w0 w) (hg : w0.heap.size ≤ g) :
    Calls Tryd.prog 42 #[.pointer (some ⟨g, 0, none⟩), .agg #[.string l0, .int .i64 1, .bool false], .string ⟨#[102, 111, 114]⟩, .string ⟨#[105, 32, 105, 110, 32, 97, 32, 98]⟩, .int .i64 1] w fun e w' =>
      (∃ A n c a c', e = .returned (.agg #[.int .i64 3, .string l0, .int .i64 1, .bool false, .slice none 0 0, .slice A n c, .string ⟨#[97, 32, 98]⟩, .slice (some a) 1 c'])) ∧ SS w' g lb 3 ∧ Below w0.heap.size w0 w' ∧ KeepBut w w' g none := by
  have hu34 := Tryd.underlying34
  have hu38 := Tryd.underlying38
  have hu56 := Tryd.underlying56
  have HW := Aside0.mk hB
  clear hB
  have G0 := blk_lt hS.1
  have L0 := blk_lt hS.2.1
  go_enter Tryd.func42, Tryd.ntmps42
  go_wp2_with (first
    | ((with_reducible refine gate_dst (N := 6) rfl ?_); (try (refine gate_guard (by rfl) ?_; dsimp only)); refine box_event ?hg (N := 6) ?hd (cs := #[.string l0, .int .i64 1, .bool false]) (t := 34) ?hr ?_; (case hd => rfl); (case hg => rfl); (case hr => first | (go_simp; done) | (go_simp; rfl)); intro b6 e6 w6 hb6 hl6; have E6 := Aside0.mk e6; clear e6; have i0 : w6.cell? ⟨b6, 0, none⟩ = some (.string l0) := (blk_cell hb6 0).trans rfl; have i1 : w6.cell? ⟨b6, 1, none⟩ = some (.int .i64 1) := (blk_cell hb6 1).trans rfl; have i2 : w6.cell? ⟨b6, 2, none⟩ = some (.bool false) := (blk_cell hb6 2).trans rfl)
    | ((with_reducible refine gate_dst (N := 10) rfl ?_); (try (refine gate_guard (by rfl) ?_; dsimp only)); refine box_event ?hg (N := 10) ?hd (cs := #[.int .i64 0, .string ⟨#[]⟩, .int .i64 0, .bool false, .slice none 0 0, .slice none 0 0, .string ⟨#[]⟩, .slice none 0 0]) (t := 56) ?hr ?_; (case hd => rfl); (case hg => rfl); (case hr => first | (go_simp; done) | (go_simp; rfl)); intro b10 e10 w10 hb10 hl10; have E10 := Aside0.mk e10; clear e10; have hb6' := blk_below hb6 hl10; have j0 : w10.cell? ⟨b6, 0, none⟩ = some (.string l0) := (blk_cell hb6' 0).trans rfl; have j1 : w10.cell? ⟨b6, 1, none⟩ = some (.int .i64 1) := (blk_cell hb6' 1).trans rfl; have j2 : w10.cell? ⟨b6, 2, none⟩ = some (.bool false) := (blk_cell hb6' 2).trans rfl; clear i0 i1 i2 hb6))
  have hl06 : Below w.heap.size w w10 := below_then hl6 hl6.size hl10
  generalize hq : World.alloc w10 _ = w11
  have hb11 : w11.heap[w10.heap.size]? = some (.cells #[.int .i64 3, .string l0, .int .i64 1, .bool false, .slice none 0 0, .slice none 0 0, .string ⟨#[]⟩, .slice none 0 0] 56 (0, 0)) := by rw [← hq]; exact blk_new w10 _
  have hl11 : Below w10.heap.size w10 w11 := by rw [← hq]; exact below_alloc (Below.refl _ _) _
  have n1 : b6 = w.heap.size := E6.out
  have n2 : b10 = w6.heap.size := E10.out
  have n3 := hl6.size
  have n4 := hl10.size
  have n5 := blk_lt hb6'
  have n6 := blk_lt hb10
  have hW6 : w.heap.size ≤ b6 := by omega
  have hW10 : w.heap.size ≤ b10 := by omega
  have hW11 : w.heap.size ≤ w10.heap.size := by omega
  have n116 : w10.heap.size ≠ b6 := by omega
  have n1110 : w10.heap.size ≠ b10 := by omega
  have hS11 := (hS.below hl06).below hl11
  have n11 := blk_lt hb11
  have hl0 := below_then hl06 hl06.size hl11
  have hb6'' := blk_below hb6' hl11
  have hb10' := blk_below hb10 hl11
  clear hq n1 n2 n3 n4 n5 n6 E6 E10 hl6 hl10 hl06 hl11 j0 j1 j2 hb6' hb10
  generalize w10.heap.size = b11 at *
  have n11g : b11 ≠ g := by omega
  have n11l : b11 ≠ lb := by omega
  have n6g : b6 ≠ g := by omega
  have n10g : b10 ≠ g := by omega
  have n10l : b10 ≠ lb := by omega
  refine (loop_loopText.calls 9 _ _ _ _ _ text0).mono ?_
  rintro e w12 ⟨vN, rfl, hR, hl12⟩
  obtain ⟨An, cn, eN⟩ := Kd.R_slice hR
  obtain ⟨kN, hkN⟩ : ∃ k : Nat, ([⟨#[105]⟩] : List ByteArray).length = k := ⟨_, rfl⟩
  rw [hkN] at eN
  subst eN
  clear hR hkN
  have p11 := blk_below hb11 hl12
  have y5 : w12.cell? ⟨b11, 5, none⟩ = some (.slice none 0 0) := (blk_cell p11 5).trans rfl
  have y6 : w12.cell? ⟨b11, 6, none⟩ = some (.string ⟨#[]⟩) := (blk_cell p11 6).trans rfl
  have u5 := blk_frozen p11 5
  have u6 := blk_frozen p11 6
  go_wp2_with (fail)
  have p13 : ((w12.setCell ⟨b11, 5, none⟩ (.slice An kN cn)).setCell ⟨b11, 6, none⟩ (.string ⟨#[97, 32, 98]⟩)).heap[b11]? = some (.cells #[.int .i64 3, .string l0, .int .i64 1, .bool false, .slice none 0 0, .slice An kN cn, .string ⟨#[97, 32, 98]⟩, .slice none 0 0] 56 (0, 0)) := by
    simpa using blk_set (blk_set p11 5 (.slice An kN cn)) 6 (.string ⟨#[97, 32, 98]⟩)
  have p6 := blk_far (blk_far (blk_below hb6'' hl12) (p := ⟨b11, 5, none⟩) n116.symm (.slice An kN cn)) (p := ⟨b11, 6, none⟩) n116.symm (.string ⟨#[97, 32, 98]⟩)
  have p10 := blk_far (blk_far (blk_below hb10' hl12) (p := ⟨b11, 5, none⟩) n1110.symm (.slice An kN cn)) (p := ⟨b11, 6, none⟩) n1110.symm (.string ⟨#[97, 32, 98]⟩)
  have hS13 := ((hS11.below hl12).far n11g n11l (j := 5) (.slice An kN cn)).far n11g n11l (j := 6) (.string ⟨#[97, 32, 98]⟩)
  have hl012 := below_then hl0 hl0.size hl12
  have hk13 := keep_set (j := 6) (keep_set (j := 5) (KeepBut.of_below hl012 g none) (.inr hW11) (.slice An kN cn)) (.inr hW11) (.string ⟨#[97, 32, 98]⟩)
  have hW0 := HW.out.size
  have hB13 := ((below_then HW.out HW.out.size hl012).setCell (p := ⟨b11, 5, none⟩) (show w0.heap.size ≤ b11 by omega) (.slice An kN cn)).setCell (p := ⟨b11, 6, none⟩) (show w0.heap.size ≤ b11 by omega) (.string ⟨#[97, 32, 98]⟩)
  clear y5 y6 u5 u6 p11 hl012 hl0 hl12 hS11 hb11 hb6'' hb10'
  generalize World.setCell (World.setCell w12 _ _) _ _ = w13 at *
  refine (blocks_in g lb w0 w13 hS13 hB13 hg).mono ?_
  rintro e w14 ⟨⟨ak, ck, rfl⟩, hS14, hB14, hk14⟩
  have p14 := hk14.blk p13 n11g (by simp)
  have p6' := hk14.blk p6 n6g (by simp)
  have p10' := hk14.blk p10 n10g (by simp)
  have hk014 := hk13.trans hk14 (.inl rfl)
  clear p13 p6 p10 hk13 hk14 hS13 hB13
  have y7 : w14.cell? ⟨b11, 7, none⟩ = some (.slice none 0 0) := (blk_cell p14 7).trans rfl
  have u7 := blk_frozen p14 7
  have p6s := blk_far p6' (p := ⟨b11, 7, none⟩) n116.symm (.slice (some ak) 1 ck)
  have x0 : (w14.setCell ⟨b11, 7, none⟩ (.slice (some ak) 1 ck)).cell? ⟨b6, 0, none⟩ = some (.string l0) := (blk_cell p6s 0).trans rfl
  have x1 : (w14.setCell ⟨b11, 7, none⟩ (.slice (some ak) 1 ck)).cell? ⟨b6, 1, none⟩ = some (.int .i64 1) := (blk_cell p6s 1).trans rfl
  have x2 : (w14.setCell ⟨b11, 7, none⟩ (.slice (some ak) 1 ck)).cell? ⟨b6, 2, none⟩ = some (.bool false) := (blk_cell p6s 2).trans rfl
  go_wp2_with (fail)
  have p15 : (w14.setCell ⟨b11, 7, none⟩ (.slice (some ak) 1 ck)).heap[b11]? = some (.cells #[.int .i64 3, .string l0, .int .i64 1, .bool false, .slice none 0 0, .slice An kN cn, .string ⟨#[97, 32, 98]⟩, .slice (some ak) 1 ck] 56 (0, 0)) := by
    simpa using blk_set p14 7 (.slice (some ak) 1 ck)
  have p10s := blk_far p10' (p := ⟨b11, 7, none⟩) n1110.symm (.slice (some ak) 1 ck)
  have hS15 := hS14.far n11g n11l (j := 7) (.slice (some ak) 1 ck)
  have hk15 := keep_set (j := 7) hk014 (.inr hW11) (.slice (some ak) 1 ck)
  have hB15 := hB14.setCell (p := ⟨b11, 7, none⟩) (show w0.heap.size ≤ b11 by omega) (.slice (some ak) 1 ck)
  clear x0 x1 x2 y7 u7 p6s p6' p14 p10' hk014 hB14 hS14
  generalize World.setCell w14 _ _ = w15 at *
  refine (closing_end g lb l0 1 false w0 w15 hS15 hB15 hg).mono ?_
  rintro e w16 ⟨rfl, hS16, hB16, hk16⟩
  have hA : Below w16.heap.size w16 (w16.alloc (.cells #[.string l2, .int .i64 3, .bool false] 34)) := below_alloc (Below.refl _ _) _
  have p16 := blk_below (hk16.blk p15 n11g (by simp)) hA
  have q16 := blk_below (hk16.blk p10s n10g (by simp)) hA
  have hk16' := keep_below (hk15.trans hk16 (.inl rfl)) hA
  have hB16' := below_then hB16 hB16.size hA
  have hS16' := hS16.below hA
  have x0 : (w16.alloc (.cells #[.string l2, .int .i64 3, .bool false] 34)).cell? ⟨b11, 0, none⟩ = some (.int .i64 3) := (blk_cell p16 0).trans rfl
  have x1 : (w16.alloc (.cells #[.string l2, .int .i64 3, .bool false] 34)).cell? ⟨b11, 1, none⟩ = some (.string l0) := (blk_cell p16 1).trans rfl
  have x2 : (w16.alloc (.cells #[.string l2, .int .i64 3, .bool false] 34)).cell? ⟨b11, 2, none⟩ = some (.int .i64 1) := (blk_cell p16 2).trans rfl
  have x3 : (w16.alloc (.cells #[.string l2, .int .i64 3, .bool false] 34)).cell? ⟨b11, 3, none⟩ = some (.bool false) := (blk_cell p16 3).trans rfl
  have x4 : (w16.alloc (.cells #[.string l2, .int .i64 3, .bool false] 34)).cell? ⟨b11, 4, none⟩ = some (.slice none 0 0) := (blk_cell p16 4).trans rfl
  have x5 : (w16.alloc (.cells #[.string l2, .int .i64 3, .bool false] 34)).cell? ⟨b11, 5, none⟩ = some (.slice An kN cn) := (blk_cell p16 5).trans rfl
  have x6 : (w16.alloc (.cells #[.string l2, .int .i64 3, .bool false] 34)).cell? ⟨b11, 6, none⟩ = some (.string ⟨#[97, 32, 98]⟩) := (blk_cell p16 6).trans rfl
  have x7 : (w16.alloc (.cells #[.string l2, .int .i64 3, .bool false] 34)).cell? ⟨b11, 7, none⟩ = some (.slice (some ak) 1 ck) := (blk_cell p16 7).trans rfl
  have y0 : (w16.alloc (.cells #[.string l2, .int .i64 3, .bool false] 34)).cell? ⟨b10, 0, none⟩ = some (.int .i64 0) := (blk_cell q16 0).trans rfl
  have u0 := blk_frozen q16 0
  have y1 : (w16.alloc (.cells #[.string l2, .int .i64 3, .bool false] 34)).cell? ⟨b10, 1, none⟩ = some (.string ⟨#[]⟩) := (blk_cell q16 1).trans rfl
  have u1 := blk_frozen q16 1
  have y2 : (w16.alloc (.cells #[.string l2, .int .i64 3, .bool false] 34)).cell? ⟨b10, 2, none⟩ = some (.int .i64 0) := (blk_cell q16 2).trans rfl
  have u2 := blk_frozen q16 2
  have y3 : (w16.alloc (.cells #[.string l2, .int .i64 3, .bool false] 34)).cell? ⟨b10, 3, none⟩ = some (.bool false) := (blk_cell q16 3).trans rfl
  have u3 := blk_frozen q16 3
  have y4 : (w16.alloc (.cells #[.string l2, .int .i64 3, .bool false] 34)).cell? ⟨b10, 4, none⟩ = some (.slice none 0 0) := (blk_cell q16 4).trans rfl
  have u4 := blk_frozen q16 4
  have y5 : (w16.alloc (.cells #[.string l2, .int .i64 3, .bool false] 34)).cell? ⟨b10, 5, none⟩ = some (.slice none 0 0) := (blk_cell q16 5).trans rfl
  have u5 := blk_frozen q16 5
  have y6 : (w16.alloc (.cells #[.string l2, .int .i64 3, .bool false] 34)).cell? ⟨b10, 6, none⟩ = some (.string ⟨#[]⟩) := (blk_cell q16 6).trans rfl
  have u6 := blk_frozen q16 6
  have y7 : (w16.alloc (.cells #[.string l2, .int .i64 3, .bool false] 34)).cell? ⟨b10, 7, none⟩ = some (.slice none 0 0) := (blk_cell q16 7).trans rfl
  have u7 := blk_frozen q16 7
  go_wp2_with (fail)
  have hW010 : w0.heap.size ≤ b10 := by omega
  have p17 : (((((((((w16.alloc (.cells #[.string l2, .int .i64 3, .bool false] 34)).setCell ⟨b10, 0, none⟩ (.int .i64 3)).setCell ⟨b10, 1, none⟩ (.string l0)).setCell ⟨b10, 2, none⟩ (.int .i64 1)).setCell ⟨b10, 3, none⟩ (.bool false)).setCell ⟨b10, 4, none⟩ (.slice none 0 0)).setCell ⟨b10, 5, none⟩ (.slice An kN cn)).setCell ⟨b10, 6, none⟩ (.string ⟨#[97, 32, 98]⟩)).setCell ⟨b10, 7, none⟩ (.slice (some ak) 1 ck)).heap[b10]? = some (.cells #[.int .i64 3, .string l0, .int .i64 1, .bool false, .slice none 0 0, .slice An kN cn, .string ⟨#[97, 32, 98]⟩, .slice (some ak) 1 ck] 56 (0, 0)) := by
    simpa using (blk_set (blk_set (blk_set (blk_set (blk_set (blk_set (blk_set (blk_set q16 0 (.int .i64 3)) 1 (.string l0)) 2 (.int .i64 1)) 3 (.bool false)) 4 (.slice none 0 0)) 5 (.slice An kN cn)) 6 (.string ⟨#[97, 32, 98]⟩)) 7 (.slice (some ak) 1 ck))
  have hS17 : SS (((((((((w16.alloc (.cells #[.string l2, .int .i64 3, .bool false] 34)).setCell ⟨b10, 0, none⟩ (.int .i64 3)).setCell ⟨b10, 1, none⟩ (.string l0)).setCell ⟨b10, 2, none⟩ (.int .i64 1)).setCell ⟨b10, 3, none⟩ (.bool false)).setCell ⟨b10, 4, none⟩ (.slice none 0 0)).setCell ⟨b10, 5, none⟩ (.slice An kN cn)).setCell ⟨b10, 6, none⟩ (.string ⟨#[97, 32, 98]⟩)).setCell ⟨b10, 7, none⟩ (.slice (some ak) 1 ck)) g lb 3 := ((((((((hS16'.far n10g n10l (j := 0) (.int .i64 3)).far n10g n10l (j := 1) (.string l0)).far n10g n10l (j := 2) (.int .i64 1)).far n10g n10l (j := 3) (.bool false)).far n10g n10l (j := 4) (.slice none 0 0)).far n10g n10l (j := 5) (.slice An kN cn)).far n10g n10l (j := 6) (.string ⟨#[97, 32, 98]⟩)).far n10g n10l (j := 7) (.slice (some ak) 1 ck))
  have hk17 : KeepBut w (((((((((w16.alloc (.cells #[.string l2, .int .i64 3, .bool false] 34)).setCell ⟨b10, 0, none⟩ (.int .i64 3)).setCell ⟨b10, 1, none⟩ (.string l0)).setCell ⟨b10, 2, none⟩ (.int .i64 1)).setCell ⟨b10, 3, none⟩ (.bool false)).setCell ⟨b10, 4, none⟩ (.slice none 0 0)).setCell ⟨b10, 5, none⟩ (.slice An kN cn)).setCell ⟨b10, 6, none⟩ (.string ⟨#[97, 32, 98]⟩)).setCell ⟨b10, 7, none⟩ (.slice (some ak) 1 ck)) g none := (keep_set (j := 7) (keep_set (j := 6) (keep_set (j := 5) (keep_set (j := 4) (keep_set (j := 3) (keep_set (j := 2) (keep_set (j := 1) (keep_set (j := 0) hk16' (.inr hW10) (.int .i64 3)) (.inr hW10) (.string l0)) (.inr hW10) (.int .i64 1)) (.inr hW10) (.bool false)) (.inr hW10) (.slice none 0 0)) (.inr hW10) (.slice An kN cn)) (.inr hW10) (.string ⟨#[97, 32, 98]⟩)) (.inr hW10) (.slice (some ak) 1 ck))
  have hB17 : Below w0.heap.size w0 (((((((((w16.alloc (.cells #[.string l2, .int .i64 3, .bool false] 34)).setCell ⟨b10, 0, none⟩ (.int .i64 3)).setCell ⟨b10, 1, none⟩ (.string l0)).setCell ⟨b10, 2, none⟩ (.int .i64 1)).setCell ⟨b10, 3, none⟩ (.bool false)).setCell ⟨b10, 4, none⟩ (.slice none 0 0)).setCell ⟨b10, 5, none⟩ (.slice An kN cn)).setCell ⟨b10, 6, none⟩ (.string ⟨#[97, 32, 98]⟩)).setCell ⟨b10, 7, none⟩ (.slice (some ak) 1 ck)) := ((((((((hB16'.setCell (p := ⟨b10, 0, none⟩) hW010 (.int .i64 3)).setCell (p := ⟨b10, 1, none⟩) hW010 (.string l0)).setCell (p := ⟨b10, 2, none⟩) hW010 (.int .i64 1)).setCell (p := ⟨b10, 3, none⟩) hW010 (.bool false)).setCell (p := ⟨b10, 4, none⟩) hW010 (.slice none 0 0)).setCell (p := ⟨b10, 5, none⟩) hW010 (.slice An kN cn)).setCell (p := ⟨b10, 6, none⟩) hW010 (.string ⟨#[97, 32, 98]⟩)).setCell (p := ⟨b10, 7, none⟩) hW010 (.slice (some ak) 1 ck))
  generalize hq17 : World.setCell (World.setCell (World.setCell (World.setCell (World.setCell (World.setCell (World.setCell (World.setCell _ _ _) _ _) _ _) _ _) _ _) _ _) _ _) _ _ = w17 at *
  have r0 : w17.cell? ⟨b10, 0, none⟩ = some (.int .i64 3) := (blk_cell p17 0).trans rfl
  have r1 : w17.cell? ⟨b10, 1, none⟩ = some (.string l0) := (blk_cell p17 1).trans rfl
  have r2 : w17.cell? ⟨b10, 2, none⟩ = some (.int .i64 1) := (blk_cell p17 2).trans rfl
  have r3 : w17.cell? ⟨b10, 3, none⟩ = some (.bool false) := (blk_cell p17 3).trans rfl
  have r4 : w17.cell? ⟨b10, 4, none⟩ = some (.slice none 0 0) := (blk_cell p17 4).trans rfl
  have r5 : w17.cell? ⟨b10, 5, none⟩ = some (.slice An kN cn) := (blk_cell p17 5).trans rfl
  have r6 : w17.cell? ⟨b10, 6, none⟩ = some (.string ⟨#[97, 32, 98]⟩) := (blk_cell p17 6).trans rfl
  have r7 : w17.cell? ⟨b10, 7, none⟩ = some (.slice (some ak) 1 ck) := (blk_cell p17 7).trans rfl
  (try simp only [Exit.inBlock, Exit.then])
  refine bodyPost_ret (by simp [results, Tryd.results42, go_sem, r0, r1, r2, r3, r4, r5, r6, r7]; try rfl) rfl ?_
  exact ⟨⟨_, _, _, _, _, rfl⟩, hS17, hB17, hk17⟩
end Go.Proofs.YtiedbnjoomcdbaaDoor.PO
