/- The law of an expression that nobody made, walked. -/
import Derived.Test.YtnjpdhekeffpnaaRx0
set_option linter.unusedVariables false
set_option linter.unusedSimpArgs false
namespace Go.Proofs.Ytnjpdhekeffpnaa.Rx
open Go.RowKit Go.Proofs.YtnjpdhekeffpnaaW.PrintWords Go.Proofs.YtnjpdhekeffpnaaW.PrintLast Go.Proofs.YtnjpdhekeffpnaaW.PrintMore

set_option maxHeartbeats 4000000 in
set_option maxRecDepth 1000000 in
theorem RxNobodyWalk (W : World) (a : ByteArray) (ha : a.size ≤ 140737488351232) (z : Int) (hz : (Lit.int .i64 z).wf = true) :
    Calls Try.prog 7 #[.string a, .int .i64 z] W fun e W' => e = .returned (.bool true) ∧ Below W.heap.size W W' := by
  have hu58 := Try.underlying58
  have HA := Aside0.mk ha
  clear ha hz
  go_enter Try.func7, Try.ntmps7
  go_wp2_with (first | (((with_reducible refine gate_dst (N := 11) rfl ?_); (try (refine gate_guard (by rfl) ?_; dsimp only)); refine box_event ?hg (N := 11) ?hd (cs := #[.string ⟨#[]⟩, .bool false, .int .u32 0, .int .i32 0, .int .u32 0, .slice none 0 0, .int .i64 0]) (t := 58) ?hr ?_; (case hd => rfl); (case hg => rfl); (case hr => first | (go_simp; done) | (go_simp; rfl)); intro r er wr hr lr; have Er := Aside0.mk er; clear er)) | fail)
  have hg0 : (wr.alloc (.cells #[.pointer none, .pointer (some ⟨r, 0, none⟩)] 23)).heap[wr.heap.size]? = some (.cells #[.pointer none, .pointer (some ⟨r, 0, none⟩)] 23 (0, 0)) := blk_new wr _
  have hr0 := blk_below hr (below_alloc (Below.refl wr.heap.size wr) (.cells #[.pointer none, .pointer (some ⟨r, 0, none⟩)] 23))
  have hl0 := below_then lr lr.size (below_alloc (Below.refl wr.heap.size wr) (.cells #[.pointer none, .pointer (some ⟨r, 0, none⟩)] 23))
  obtain ⟨g, hg⟩ : ∃ g, wr.heap.size = g := ⟨_, rfl⟩
  rw [hg] at hg0 ⊢
  obtain ⟨w0, hw0⟩ : ∃ w0, wr.alloc (.cells #[.pointer none, .pointer (some ⟨r, 0, none⟩)] 23) = w0 := ⟨_, rfl⟩
  rw [hw0] at hg0 hr0 hl0 ⊢
  have HG0 := Aside0.mk hg0
  have HR0 := Aside0.mk hr0
  have HL0 := Aside0.mk hl0
  clear hg hw0 hg0 hr0 hl0 hr lr Er
  go_loopg [14] 3 (fun kq v14 wr => ∃ (k : Nat), v14 = .int .i64 (k : Int) ∧ Aside0 (k + kq = 3 ∧ 1 ≤ kq) ∧ Aside0 (wr.heap[g]? = some (.cells #[.pointer none, .pointer (some ⟨r, 0, none⟩)] 23 (0, 0))) ∧ Aside0 (wr.heap[r]? = some (.cells #[.string ⟨#[]⟩, .bool false, .int .u32 0, .int .i32 0, .int .u32 0, .slice none 0 0, .int .i64 0] 58 (0, 0))) ∧ Aside0 (Below W.heap.size W wr))
  case atStart =>
    exact ⟨0, rfl, ⟨by omega, by omega⟩, HG0, HR0, HL0⟩
  case round =>
    clear HG0 HR0 HL0
    obtain ⟨k, rfl, HI, HG, HR, HW⟩ := hrel
    rcases (show k = 0 ∨ k = 1 ∨ k = 2 by have := HI.out; omega) with rfl | rfl | rfl
    · obtain ⟨ko, rfl⟩ : ∃ ko, gk = ko + 1 := ⟨gk - 1, by have := HI.out; omega⟩
      have hv : NoRx wr (.pointer none) := Or.inl rfl
      have x16 : wr.cell? ⟨g, 0, none⟩ = some (.pointer none) := (blk_cell HG.out 0).trans rfl
      have hF := findNo wr _ a z hv
      have hI := isNo wr _ a hv
      have hR := replaceNo wr _ a ⟨#[120]⟩ true (by have := HA.out; omega) hv
      have HV := Aside0.mk hv
      clear hv
      go_wp2_with (first | (go_at_call 15; refine hF.mono ?_; rintro e w2 ⟨rfl, e2⟩; subst e2) | (go_at_call 17; refine hI.mono ?_; rintro e w3 ⟨rfl, e3⟩; subst e3) | (go_at_call 19; refine hR.mono ?_; rintro e w4 ⟨rfl, hb4⟩; have hT := textNo w4 _ (HV.out.below hb4)) | (go_at_call 13; refine hT.mono ?_; rintro e w5 ⟨rfl, e5⟩; subst e5) | fail)
      go_roundg ko
      case measure => have := HI.out; omega
      case rel => exact ⟨1, rfl, ⟨by have := HI.out; omega, by have := HI.out; omega⟩, ⟨blk_below HG.out hb4⟩, ⟨blk_below HR.out hb4⟩, ⟨below_then HW.out HW.out.size hb4⟩⟩
    · obtain ⟨ko, rfl⟩ : ∃ ko, gk = ko + 1 := ⟨gk - 1, by have := HI.out; omega⟩
      have hv : NoRx wr (.pointer (some ⟨r, 0, none⟩)) := Or.inr ⟨r, _, rfl, HR.out, rfl⟩
      have x16 : wr.cell? ⟨g, 1, none⟩ = some (.pointer (some ⟨r, 0, none⟩)) := (blk_cell HG.out 1).trans rfl
      have hF := findNo wr _ a z hv
      have hI := isNo wr _ a hv
      have hR := replaceNo wr _ a ⟨#[120]⟩ true (by have := HA.out; omega) hv
      have HV := Aside0.mk hv
      clear hv
      go_wp2_with (first | (go_at_call 15; refine hF.mono ?_; rintro e w2 ⟨rfl, e2⟩; subst e2) | (go_at_call 17; refine hI.mono ?_; rintro e w3 ⟨rfl, e3⟩; subst e3) | (go_at_call 19; refine hR.mono ?_; rintro e w4 ⟨rfl, hb4⟩; have hT := textNo w4 _ (HV.out.below hb4)) | (go_at_call 13; refine hT.mono ?_; rintro e w5 ⟨rfl, e5⟩; subst e5) | fail)
      go_roundg ko
      case measure => have := HI.out; omega
      case rel => exact ⟨2, rfl, ⟨by have := HI.out; omega, by have := HI.out; omega⟩, ⟨blk_below HG.out hb4⟩, ⟨blk_below HR.out hb4⟩, ⟨below_then HW.out HW.out.size hb4⟩⟩
    · go_wp2_with (fail)
      refine (aliveW _).mono ?_
      rintro e w9 ⟨rfl, hl9⟩
      go_wp2_with (fail)
      go_ret
      exact ⟨rfl, below_then HW.out HW.out.size hl9⟩
end Go.Proofs.Ytnjpdhekeffpnaa.Rx
