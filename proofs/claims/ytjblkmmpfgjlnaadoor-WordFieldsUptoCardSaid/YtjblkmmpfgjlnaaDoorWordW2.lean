/- The walks of word.Mean. -/
import Derived.Test.YtjblkmmpfgjlnaaDoorWordP2
import Derived.Test.YtjblkmmpfgjlnaaDoorWordW
import Derived.Test.YtjblkmmpfgjlnaaDoorBld2
set_option linter.unusedVariables false
namespace Go.Proofs.YtjblkmmpfgjlnaaDoor
open Go.RowKit Ba

set_option maxHeartbeats 4000000 in
set_option maxRecDepth 1000000 in
theorem mean (s : ByteArray) (w : World) (hs : s.size ≤ 1000000000) :
    Calls Tryd.prog 11 #[.string s] w fun e w' => e = .returned (WP.meanV (WP.meanL s.data.toList)) ∧ Below w.heap.size w w' := by
  obtain ⟨B, hB⟩ : ∃ B, w.heap.size = B := ⟨_, rfl⟩
  go_enter Tryd.func11, Tryd.ntmps11
  go_wp2
  go_loopw [0] (fun v0 wr => ∃ (t : ByteArray) (acc : List UInt8), v0 = .string t ∧ t.size + acc.length ≤ s.size ∧ Hid (WP.meanL s.data.toList = (WP.meanL t.data.toList).map (acc ++ ·)) ∧ Bld B B acc wr ∧ Below B w wr ∧ B ≤ wr.heap.size) (fun v0 _ => strLen v0)
  case atStart =>
    subst hB
    exact ⟨s, [], rfl, by simp, Lib.hid (by simp), Bld.fresh w, (Below.refl _ _).alloc (Nat.le_refl _) _, by simp⟩
  case round =>
    obtain ⟨t, acc, rfl, hta, HQ, hbld, hbel, hsz⟩ := hrel
    by_cases ht : 0 < t.size
    · have he := nonempty' t ht
      have hne : t.data.toList ≠ [] := by rw [cons1 t ht]; simp
      have hsp := span t
      cases hsl : WP.spanL t.data.toList with
      | none =>
        have HN := Lib.hid (WP.mean_no _ hne hsl)
        rw [hsl] at hsp
        go_wp2_with (go_at_call 24; refine (hsp _ ht (by omega)).mono ?_; rintro e w1 ⟨rfl, hb1⟩; simp only [WP.spanV])
        go_ret2
        exact ⟨by rw [HQ.out, HN.out]; rfl, hB ▸ hbel.trans (hb1.mono hsz)⟩
      | some km =>
        obtain ⟨k, m⟩ := km
        obtain ⟨b1, b2, b3⟩ := WP.span_bd _ _ _ hsl
        have HY := Lib.hid (WP.mean_yes _ _ _ hsl)
        rw [hsl] at hsp
        rw [← size_len] at b2
        have g1 : (k : Int) ≤ (t.size : Int) := by omega
        have HD : Hid ((t.extract k t.size).data.toList = t.data.toList.drop k) := Lib.hid (by rw [data_extract, List.take_of_length_le (by rw [List.length_drop, ← size_len]; exact Nat.le_refl _)])
        have hdz := tail_size t k
        go_wp2_with (go_at_call 24; refine (hsp _ ht (by omega)).mono ?_; rintro e w1 ⟨rfl, hb1⟩; simp only [WP.spanV])
        have hsz1 := hb1.size
        refine (Bld.writeString B B acc (S m) _ (hbld.below hb1) (by rw [size_S]; omega) (by omega)).mono ?_
        rintro e w2 ⟨rfl, hbld2, hbel2, -⟩
        have hsz2 := hbel2.size
        go_wp2
        go_roundw
        case rel => exact ⟨_, acc ++ m, rfl, by rw [hdz, List.length_append]; omega, Lib.hid (by rw [HQ.out, HY.out, HD.out]; simp [Option.map_map, Function.comp_def]), hbld2, (hbel.trans (hb1.mono hsz)).trans hbel2, by omega⟩
        case measure => simp [strLen]; omega
    · have he := empty' t ht
      have HZ := Lib.hid (nil0 t ht)
      go_wp2_with (fail)
      refine (Bld.string B B _ _ hbld hsz).mono ?_
      rintro e w2 ⟨rfl, hbel2⟩
      go_wp2
      go_ret2
      exact ⟨by rw [HQ.out, HZ.out, WP.mean_nil]; simp [WP.meanV], hB ▸ hbel.trans hbel2⟩
end Go.Proofs.YtjblkmmpfgjlnaaDoor
