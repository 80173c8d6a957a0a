/- walks: Plain, Quote, Filter -/
import Derived.Test.YtcailjmcjgpfmaaGlobW4
import Derived.Test.YtcailjmcjgpfmaaRune
set_option linter.unusedVariables false
namespace Go.Proofs.Ytcailjmcjgpfmaa
open Go.RowKit Ba

namespace GP
def spec : List UInt8 := [42, 63, 91, 92]
def plain (p : List UInt8) : Bool := !(p.any fun c => spec.contains c)
def quote (l : List UInt8) : List UInt8 := l.flatMap fun c => if spec.contains c then [92, c] else [c]
theorem quote_snoc (l : List UInt8) (c : UInt8) : quote (l ++ [c]) = quote l ++ (if spec.contains c then [92, c] else [c]) := by simp [quote]
theorem quote_len (l : List UInt8) : (quote l).length ≤ 2 * l.length := by
  induction l with
  | nil => simp [quote]
  | cons c l ih =>
    have : quote (c :: l) = (if spec.contains c then [92, c] else [c]) ++ quote l := by simp [quote]
    rw [this, List.length_append]
    split <;> simp <;> omega
end GP

theorem spec_iff (c : UInt8) : (0 ≤ Lib.indexByte [42, 63, 91, 92] c) ↔ GP.spec.contains c = true := by
  show _ ↔ GP.spec.contains c = true
  rw [Lib.contains_iff_indexByte, decide_eq_true_iff]; rfl

set_option maxHeartbeats 1000000 in
theorem plain (p : ByteArray) (w : World) (hp : p.size ≤ 1000000000) :
    Calls Try.prog 13 #[.string p] w fun e w' => e = .returned (.bool (GP.plain p.data.toList)) ∧ Below w.heap.size w w' := by
  have c := containsAny p ⟨#[42, 63, 91, 92]⟩ w (by decide) (by decide) (by omega) (by
    intro j b hb
    match j, hb with
    | 0, hb => cases hb; decide
    | 1, hb => cases hb; decide
    | 2, hb => cases hb; decide
    | 3, hb => cases hb; decide)
  go_enter Try.func13, Try.ntmps13
  go_wp2_with (go_at_call 22; refine c.mono ?_; rintro e w' ⟨rfl, hw⟩)
  go_ret
  exact ⟨ret_bool (by rw [containsAny_any]; rfl), hw⟩

set_option maxHeartbeats 2000000 in
theorem quote (s : ByteArray) (w : World) (hs : s.size ≤ 1000000000) :
    Calls Try.prog 15 #[.string s] w fun e w' => e = .returned (.string (S (GP.quote s.data.toList))) ∧ Below w.heap.size w w' := by
  obtain ⟨B, hB⟩ : ∃ B, w.heap.size = B := ⟨_, rfl⟩
  go_enter Try.func15, Try.ntmps15
  go_wp2
  go_loopw [4, 7] (fun v4 v7 wr => ∃ k : Nat, k ≤ s.size ∧ v7 = .int .i64 k ∧ Bld B B (GP.quote (s.data.toList.take k)) wr ∧ Below B w wr ∧ B ≤ wr.heap.size) (fun _ v7 _ => s.size - (intOf v7).toNat)
  case atStart =>
    subst hB
    exact ⟨0, Nat.zero_le _, rfl, Bld.fresh w, (Below.refl _ _).alloc (Nat.le_refl _) _, by simp⟩
  case round =>
    obtain ⟨k, hk, rfl, hbld, hbel, hsz⟩ := hrel
    by_cases hlt : k < s.size
    · have hl := GP.quote_len (s.data.toList.take k)
      have hl2 : (s.data.toList.take k).length ≤ k := List.length_take_le _ _
      obtain ⟨c, hc⟩ : ∃ c, s[k]'hlt = c := ⟨_, rfl⟩
      have HT : Hid (s.data.toList.take (k + 1) = s.data.toList.take k ++ [c]) := Lib.hid (by rw [← hc]; exact take_snoc s k hlt)
      by_cases hq : 0 ≤ Lib.indexByte [42, 63, 91, 92] c
      · have HQ := Lib.hid ((spec_iff c).mp hq)
        go_wp2_with (go_at_call 23; refine (Try.strings_IndexByte _ _ _).mono ?_; rintro e w' ⟨rfl, rfl⟩)
        refine (Bld.writeLit B B _ 92 92 rfl _ hbld (by omega) hsz).mono ?_
        rintro e w1 ⟨rfl, hbld1, hbel1, -⟩
        have hsz1 := hbel1.size
        go_wp2_with (fail)
        refine (Bld.writeByte B B _ c _ hbld1 (by simp; omega) (by omega)).mono ?_
        rintro e w2 ⟨rfl, hbld2, hbel2, -⟩
        have hsz2 := hbel2.size
        go_wp2
        go_roundw
        case rel => exact ⟨k + 1, by omega, by go_num, by rw [HT.out, GP.quote_snoc, if_pos HQ.out]; simpa using hbld2, (hbel.trans hbel1).trans hbel2, by omega⟩
        case measure => simp [intOf]; omega
      · have HQ := Lib.hid (fun h => hq ((spec_iff c).mpr h))
        go_wp2_with (go_at_call 23; refine (Try.strings_IndexByte _ _ _).mono ?_; rintro e w' ⟨rfl, rfl⟩)
        refine (Bld.writeByte B B _ c _ hbld (by omega) hsz).mono ?_
        rintro e w2 ⟨rfl, hbld2, hbel2, -⟩
        have hsz2 := hbel2.size
        go_wp2
        go_roundw
        case rel => exact ⟨k + 1, by omega, by go_num, by rw [HT.out, GP.quote_snoc, if_neg HQ.out]; exact hbld2, hbel.trans hbel2, by omega⟩
        case measure => simp [intOf]; omega
    · have HT : Hid (s.data.toList.take k = s.data.toList) := Lib.hid (List.take_of_length_le (by rw [← size_len]; omega))
      rw [HT.out] at hbld
      go_wp2_with (fail)
      refine (Bld.string B B _ _ hbld hsz).mono ?_
      rintro e w2 ⟨rfl, hbel2⟩
      go_wp2
      go_ret
      exact ⟨rfl, hB ▸ (hbel.trans hbel2)⟩
end Go.Proofs.Ytcailjmcjgpfmaa
