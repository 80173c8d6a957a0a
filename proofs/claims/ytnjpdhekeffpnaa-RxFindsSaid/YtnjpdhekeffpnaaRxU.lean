/- sync.Once about an expression's steps, in one goroutine: walked (after the guide's worked example on it). The number 130 is the type *internal/sync.Mutex (two types bear one printed name). -/
import Derived.Test.YtnjpdhekeffpnaaRxO
import Derived.Tactics
import Derived.Tactics2
import Derived.Defers
import Derived.Laws.Pointers
import Derived.Laws.LoneSync
import Derived.RegionTactic
import Derived.RegionCalls
import Derived.ChangeAlike
set_option linter.unusedVariables false
set_option linter.unusedSimpArgs false
namespace Go.Proofs.Ytnjpdhekeffpnaa.Rx
open Go.RowKit Go.Proofs.YtnjpdhekeffpnaaW.PrintWords Go.Proofs.YtnjpdhekeffpnaaW.PrintLast Go.Proofs.YtnjpdhekeffpnaaW.PrintMore

theorem disable (w : World) : (callFunc 75 #[]).run Try.prog w = .ok (.value (.tuple #[])) w := run_call_mark0 Try.func75 (by kernel_rfl) (by kernel_rfl) (by kernel_rfl) .disable (by kernel_rfl) w
theorem enable (w : World) : (callFunc 77 #[]).run Try.prog w = .ok (.value (.tuple #[])) w := run_call_mark0 Try.func77 (by kernel_rfl) (by kernel_rfl) (by kernel_rfl) .enable (by kernel_rfl) w
theorem acquire (a : Addr) (w : World) : (callFunc 78 #[.pointer (some a)]).run Try.prog w = .ok (.value (.tuple #[])) w := run_call_marked Try.func78 (by kernel_rfl) (by kernel_rfl) (by kernel_rfl) .acquire (by kernel_rfl) a w
theorem releaseMerge (a : Addr) (w : World) : (callFunc 80 #[.pointer (some a)]).run Try.prog w = .ok (.value (.tuple #[])) w := run_call_marked Try.func80 (by kernel_rfl) (by kernel_rfl) (by kernel_rfl) .releaseMerge (by kernel_rfl) a w
theorem store_deferred (a : Addr) (x : Value) (u : FrameMode) (w : World) (hc : w.cell? a = some x) (hz : w.frozen? a = false) :
    CallsD Try.prog 70 #[.pointer (some a), .bool true] u w fun e u' w' => u' = u ∧ (e = .returned (.tuple #[]) ∧ w' = w.drew.setCell a (.int .u32 1)) := by
  have hc' : w.drew.cell? a = some x := by go_simp
  have hz' : w.drew.frozen? a = false := by go_simp
  have hst := run_call_store (P := Try.prog) Try.func73 (by kernel_rfl) (by kernel_rfl) (by kernel_rfl) (by kernel_rfl) (k := .u32) (y := 1) hc' hz'
  go_enter_d Try.func70, Try.ntmps70
  go_wp2
  go_region_calls
  all_goals (go_end0; exact ⟨rfl, rfl⟩)
set_option maxRecDepth 100000 in
set_option maxHeartbeats 4000000 in
theorem unlock_deferred (a : Addr) (u : FrameMode) (w : World) (hc : w.cell? a = some (.int .i32 1)) (hz : w.frozen? a = false) :
    CallsD Try.prog 69 #[.pointer (some a)] u w fun e u' w' => u' = u ∧ (e = .returned (.tuple #[]) ∧ w' = w.setCell a (.int .i32 0)) := by
  have hd := disable
  have he := enable
  have hr := releaseMerge
  have hadd := run_call_add (P := Try.prog) Try.func81 (by kernel_rfl) (by kernel_rfl) (by kernel_rfl) .i32 (by kernel_rfl) (y := -1) (s := 0) hc hz (by simp [go_sem]; rfl)
  have hcv := run_convert_to_unsafe (P := Try.prog) (src := 130) (dst := 112) Try.underlying130 Try.underlying112 (by kernel_rfl) hc
  go_enter_d Try.func69, Try.ntmps69
  go_wp2
  go_end0
  go_wp2
  go_end0
  exact ⟨rfl, rfl⟩
set_option maxRecDepth 100000 in
set_option maxHeartbeats 4000000 in
theorem lock_free (a : Addr) (w : World) (hc : w.cell? a = some (.int .i32 0)) (hz : w.frozen? a = false) :
    Calls Try.prog 68 #[.pointer (some a)] w fun e w' => e = .returned (.tuple #[]) ∧ w' = w.setCell a (.int .i32 1) := by
  have hd := disable
  have he := enable
  have ha := acquire
  have hcas := run_call_cas_hit (P := Try.prog) Try.func76 (by kernel_rfl) (by kernel_rfl) (by kernel_rfl) .i32 (by kernel_rfl) (y := 1) hc hz
  have hc' : (w.setCell a (.int .i32 1)).cell? a = some (.int .i32 1) := World.cell?_setCell_same w a _ hc
  have hcv := run_convert_to_unsafe (P := Try.prog) (src := 130) (dst := 112) Try.underlying130 Try.underlying112 (by kernel_rfl) hc'
  go_enter Try.func68, Try.ntmps68
  go_wp2
  first | go_end0 | (simp only [Exit.inBlock, Exit.then]; refine bodyPost_ret (results_none rfl _ _ _) rfl ?_) | refine bodyPost_ret (results_none rfl _ _ _) rfl ?_
  go_wp2
  go_end0
  exact ⟨rfl, rfl⟩
theorem load_word (a : Addr) (d : Int) (w : World) (h0 : w.cell? a = some (.int .u32 d)) :
    Calls Try.prog 54 #[.pointer (some a)] w fun e w' => e = .returned (.bool (d != 0)) ∧ w' = w := by
  have hl := run_call_load (P := Try.prog) Try.func67 (by kernel_rfl) (by kernel_rfl) (by kernel_rfl) .u32 (by kernel_rfl) h0
  go_enter Try.func54, Try.ntmps54
  go_wp2
  go_ret
  exact ⟨rfl, rfl⟩
set_option maxRecDepth 100000 in
set_option maxHeartbeats 4000000 in
theorem slowW (w : World) (r : Nat) (s : ByteArray) (hs : s.size ≤ 200) (h : w.heap[r]? = some (.cells (RgC s) TR (0, 0))) :
    Calls Try.prog 55 #[.pointer (some ⟨r, 2, none⟩), .func (.func 43) #[.pointer (some ⟨r, 0, none⟩)] #[]] w fun e w' => e = .returned (.tuple #[]) ∧ RgAt w' r s (stepsB s) (firstB s) ∧ Mk r w w' := by
  have hc2 : w.cell? ⟨r, 2, none⟩ = some (.int .u32 0) := (blk_cell h 2).trans rfl
  have hc3 : w.cell? ⟨r, 3, none⟩ = some (.int .i32 0) := (blk_cell h 3).trans rfl
  have f3 := blk_frozen h 3
  have hb : (w.setCell ⟨r, 3, none⟩ (.int .i32 1)).heap[r]? = some (.cells (RgL s (.slice none 0 0) 0) TR (0, 0)) := by simpa [RgC, RgL] using blk_set h 3 (.int .i32 1)
  have hl2 : (w.setCell ⟨r, 3, none⟩ (.int .i32 1)).cell? ⟨r, 2, none⟩ = some (.int .u32 0) := (blk_cell hb 2).trans rfl
  have hB := buildW _ r s hs hb
  have K1 := (Mk.refl r w).set 3 (.int .i32 1)
  have hnot : ∀ (x : Bool) (w : World), (Op.unary .not (.bool x)).run Try.prog w = .ok (.bool (!x)) w := fun _ _ => rfl
  go_enter_defers Try.func55, Try.ntmps55
  go_wp2_with (first
    | (go_at_call 68; refine (lock_free ⟨r, 3, none⟩ _ hc3 f3).mono ?_; rintro e w' ⟨rfl, rfl⟩)
    | (go_at_call 54; refine (load_word ⟨r, 2, none⟩ 0 _ hl2).mono ?_; rintro e w' ⟨rfl, rfl⟩)
    | (go_at_call 43; refine hB.mono ?_; rintro e w2 ⟨rfl, hv, hK⟩)
    | fail)
  obtain ⟨v, hv1, hv2⟩ := hv
  have e2 : w2.cell? ⟨r, 2, none⟩ = some (.int .u32 0) := (blk_cell hv1 2).trans rfl
  have g2 := blk_frozen hv1 2
  have hv3 : (w2.drew.setCell ⟨r, 2, none⟩ (.int .u32 1)).heap[r]? = _ := blk_set (w := w2.drew) hv1 2 (.int .u32 1)
  have e3 : (w2.drew.setCell ⟨r, 2, none⟩ (.int .u32 1)).cell? ⟨r, 3, none⟩ = some (.int .i32 1) := (blk_cell hv3 3).trans (by rfl)
  have g3 := blk_frozen hv3 3
  (try go_end0)
  refine leaves_cons (f := 70) (args := #[.pointer (some ⟨r, 2, none⟩), .bool true]) (by simp) (by simp [go_sem]) ?_
  refine (store_deferred ⟨r, 2, none⟩ (.int .u32 0) .returning _ e2 g2).mono ?_
  rintro e u' w'' ⟨rfl, rfl, rfl⟩
  refine leaves_cons (f := 69) (args := #[.pointer (some ⟨r, 3, none⟩)]) (by simp [settle]) (by simp [go_sem]) ?_
  refine (unlock_deferred ⟨r, 3, none⟩ _ _ e3 g3).mono ?_
  rintro e u' w'' ⟨rfl, rfl, rfl⟩
  have hv4 := blk_set hv3 3 (.int .i32 0)
  have hK4 : Mk r w ((w2.drew.setCell ⟨r, 2, none⟩ (.int .u32 1)).setCell ⟨r, 3, none⟩ (.int .i32 0)) := ((K1.trans hK).trans (Mk.of (below_drew (Below.refl _ _)) : Mk r w2 w2.drew)).set 2 _ |>.set 3 _
  have hR4 : RgAt ((w2.drew.setCell ⟨r, 2, none⟩ (.int .u32 1)).setCell ⟨r, 3, none⟩ (.int .i32 0)) r s (stepsB s) (firstB s) := by
    refine ⟨v, by simpa [RgL, RgB] using hv4, ?_⟩
    have h1 := Kd.R_mono (Kd.R_far (p := ⟨r, 2, none⟩) (Kd.R_types (Kd.R_below hv2 (below_drew (Below.refl _ _)) : Kd.R kst TS w2.drew 0 (fun _ => True) v _) hv1 (by decide)) (fun k hk => hk.2) (.int .u32 1)) (fun _ _ => trivial)
    exact Kd.R_mono (Kd.R_far (p := ⟨r, 3, none⟩) (Kd.R_types h1 hv3 (by decide)) (fun k hk => hk.2) (.int .i32 0)) (fun _ _ => trivial)
  simp [Leaves, settle, results, Try.results55]
  exact ⟨hR4, hK4⟩
/-- the steps are there, or may be found: an expression in block r -/
def RgX (w : World) (r : Nat) (s : ByteArray) : Prop := w.heap[r]? = some (.cells (RgC s) TR (0, 0)) ∨ RgAt w r s (stepsB s) (firstB s)
set_option maxRecDepth 100000 in
set_option maxHeartbeats 4000000 in
theorem doW (w : World) (r : Nat) (s : ByteArray) (hs : s.size ≤ 200) (h : RgX w r s) :
    Calls Try.prog 42 #[.pointer (some ⟨r, 2, none⟩), .func (.func 43) #[.pointer (some ⟨r, 0, none⟩)] #[]] w fun e w' => e = .returned (.tuple #[]) ∧ RgAt w' r s (stepsB s) (firstB s) ∧ Mk r w w' := by
  have hnot : ∀ (x : Bool) (w : World), (Op.unary .not (.bool x)).run Try.prog w = .ok (.bool (!x)) w := fun _ _ => rfl
  rcases h with h | h
  · have hc2 : w.cell? ⟨r, 2, none⟩ = some (.int .u32 0) := (blk_cell h 2).trans rfl
    have hS := slowW w r s hs h
    go_enter Try.func42, Try.ntmps42
    go_wp2_with (first
      | (go_at_call 54; refine (load_word ⟨r, 2, none⟩ 0 _ hc2).mono ?_; rintro e w' ⟨rfl, rfl⟩)
      | (go_at_call 55; refine hS.mono ?_; rintro e w2 ⟨rfl, hR, hK⟩)
      | fail)
    (try go_end0)
    exact ⟨rfl, hR, hK⟩
  · have hc2 : w.cell? ⟨r, 2, none⟩ = some (.int .u32 1) := by
      obtain ⟨v, h1, h2⟩ := h
      exact (blk_cell h1 2).trans rfl
    go_enter Try.func42, Try.ntmps42
    go_wp2_with (first
      | (go_at_call 54; refine (load_word ⟨r, 2, none⟩ 1 _ hc2).mono ?_; rintro e w' ⟨rfl, rfl⟩)
      | fail)
    (try go_end0)
    exact ⟨rfl, h, Mk.refl _ _⟩
end Go.Proofs.Ytnjpdhekeffpnaa.Rx
