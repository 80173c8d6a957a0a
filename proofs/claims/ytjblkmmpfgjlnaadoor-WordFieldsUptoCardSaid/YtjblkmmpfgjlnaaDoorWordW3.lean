/- The walk of word.Join. -/
import Derived.Test.YtjblkmmpfgjlnaaDoorWordP2
import Derived.Test.YtjblkmmpfgjlnaaDoorWordW
import Derived.Test.YtjblkmmpfgjlnaaDoorBld2
import Derived.Test.YtjblkmmpfgjlnaaDoorWMore
set_option linter.unusedVariables false
namespace Go.Proofs.YtjblkmmpfgjlnaaDoor
open Go.RowKit Ba Go.Proofs.YtjblkmmpfgjlnaaDoorW.PrintWords Go.Proofs.YtjblkmmpfgjlnaaDoorW.PrintLast

set_option maxHeartbeats 4000000 in
set_option maxRecDepth 1000000 in
theorem join (A : Option Addr) (cap : Nat) (l : List ByteArray) (w : World) (hr : Kd.C Kd.string w A l.length l) (hc : l.length ≤ cap) (hl : WP.tot l ≤ 1000000000) :
    Calls Tryd.prog 17 #[.slice A l.length cap] w fun e w' => e = .returned (.string (S (WP.joinL l []))) ∧ Below w.heap.size w w' := by
  have HR := Lib.hid hr
  clear hr
  obtain ⟨B, hB⟩ : ∃ B, w.heap.size = B := ⟨_, rfl⟩
  have hlen : l.length ≤ 1000000000 := by
    have : ∀ l : List ByteArray, l.length ≤ WP.tot l := by
      intro l
      induction l with
      | nil => simp [WP.tot]
      | cons s l ih => rw [WP.tot_cons, List.length_cons]; omega
    exact Nat.le_trans (this l) hl
  go_enter Tryd.func17, Tryd.ntmps17
  go_wp2
  go_loopw [8] (fun v8 wr => ∃ (k : Nat) (acc : List UInt8), k ≤ l.length ∧ v8 = .int .i64 k ∧ Hid (WP.joinL l [] = WP.joinL (l.drop k) acc) ∧ acc.length + WP.tot (l.drop k) ≤ WP.tot l ∧ Bld B B acc wr ∧ Below B w wr ∧ B ≤ wr.heap.size) (fun v8 _ => l.length - (intOf v8).toNat)
  case atStart =>
    subst hB
    exact ⟨0, [], Nat.zero_le _, rfl, Lib.hid rfl, by simp, Bld.fresh w, (Below.refl _ _).alloc (Nat.le_refl _) _, by simp⟩
  case round =>
    obtain ⟨k, acc, hk, rfl, HQ, hta, hbld, hbel, hsz⟩ := hrel
    by_cases hlt : k < l.length
    · have d0 : decide ((k : Int) < (l.length : Int)) = true := decide_eq_true (by omega)
      obtain ⟨ad, ea, hx⟩ := Kd.at_string (Kd.C_below HR.out (hB ▸ hbel)) (k : Int) (by omega) (by omega)
      cases ea
      have hd : l.drop k = l[k] :: l.drop (k + 1) := List.drop_eq_getElem_cons hlt
      have hrd : rdOf ByteArray.empty l (k : Int) = l[k] := by unfold rdOf; simp [List.getD_eq_getElem?_getD, hlt]
      rw [hrd] at hx
      rw [hd, WP.tot_cons] at hta
      have HD := Lib.hid hd
      clear hd hrd
      generalize l[k] = t at hx hta HD
      have hx' : wr.cell? (ad.add k) = some (.string t) := hx
      clear hx
      have i1 : IntKind.i64.wrap ((k : Int) + 1) = (k : Int) + 1 := wrap_small _ (by omega) (by omega)
      by_cases ht : 0 < t.size
      · have he := nonempty' t ht
        have hne : t.data.toList ≠ [] := by rw [cons1 t ht]; simp
        have hts : t.data.toList.length = t.size := (size_len t).symm
        by_cases ha : 0 < acc.length
        · have d1 : decide (0 < (acc.length : Int)) = true := decide_eq_true (by omega)
          have hane : acc ≠ [] := by rintro rfl; simp at ha
          have HJ : Hid (WP.joinL (t :: l.drop (k + 1)) acc = WP.joinL (l.drop (k + 1)) (acc ++ 32 :: t.data.toList)) := Lib.hid (by simp only [WP.joinL]; rw [if_neg hne, if_neg hane])
          go_wp2_with (go_at_call 31; refine (Bld.len B B _ _ hbld).mono ?_; rintro e w' ⟨rfl, rfl⟩)
          refine (Bld.writeLit B B _ 32 32 rfl _ hbld (by omega) hsz).mono ?_
          rintro e w1 ⟨rfl, hbld1, hbel1, -⟩
          have hsz1 := hbel1.size
          go_wp2_with (fail)
          refine (Bld.writeString B B _ t _ hbld1 (by rw [List.length_append, List.length_cons, List.length_nil]; omega) (by omega)).mono ?_
          rintro e w2 ⟨rfl, hbld2, hbel2, -⟩
          have hsz2 := hbel2.size
          go_wp2
          go_roundw
          case rel => exact ⟨k + 1, acc ++ 32 :: t.data.toList, by omega, by go_num, Lib.hid (by rw [HQ.out, HD.out, HJ.out]), by rw [List.length_append, List.length_cons]; omega, by simpa using hbld2, (hbel.trans hbel1).trans hbel2, by omega⟩
          case measure => simp [intOf]; omega
        · have d1 : decide (0 < (acc.length : Int)) = false := decide_eq_false (by omega)
          have hae : acc = [] := List.length_eq_zero_iff.mp (by omega)
          have HJ : Hid (WP.joinL (t :: l.drop (k + 1)) acc = WP.joinL (l.drop (k + 1)) (acc ++ t.data.toList)) := Lib.hid (by simp only [WP.joinL]; rw [if_neg hne, if_pos hae, hae]; rfl)
          clear hae
          go_wp2_with (go_at_call 31; refine (Bld.len B B _ _ hbld).mono ?_; rintro e w' ⟨rfl, rfl⟩)
          refine (Bld.writeString B B acc t _ hbld (by omega) (by omega)).mono ?_
          rintro e w2 ⟨rfl, hbld2, hbel2, -⟩
          have hsz2 := hbel2.size
          go_wp2
          go_roundw
          case rel => exact ⟨k + 1, acc ++ t.data.toList, by omega, by go_num, Lib.hid (by rw [HQ.out, HD.out, HJ.out]), by rw [List.length_append]; omega, hbld2, hbel.trans hbel2, by omega⟩
          case measure => simp [intOf]; omega
      · have he := empty' t ht
        have hte := nil0 t ht
        have HJ : Hid (WP.joinL (t :: l.drop (k + 1)) acc = WP.joinL (l.drop (k + 1)) acc) := Lib.hid (by simp only [WP.joinL]; rw [if_pos hte])
        go_wp2_with (fail)
        refine (Bld.writeString B B acc t _ hbld (by omega) (by omega)).mono ?_
        rintro e w2 ⟨rfl, hbld2, hbel2, -⟩
        have hsz2 := hbel2.size
        rw [hte, List.append_nil] at hbld2
        go_wp2
        go_roundw
        case rel => exact ⟨k + 1, acc, by omega, by go_num, Lib.hid (by rw [HQ.out, HD.out, HJ.out]), by omega, hbld2, hbel.trans hbel2, by omega⟩
        case measure => simp [intOf]; omega
    · have d0 : decide ((k : Int) < (l.length : Int)) = false := decide_eq_false (by omega)
      have HZ : Hid (l.drop k = []) := Lib.hid (List.drop_of_length_le (by omega))
      go_wp2_with (fail)
      refine (Bld.string B B _ _ hbld hsz).mono ?_
      rintro e w2 ⟨rfl, hbel2⟩
      go_wp2
      go_ret
      exact ⟨by rw [HQ.out, HZ.out]; rfl, hB ▸ hbel.trans hbel2⟩
end Go.Proofs.YtjblkmmpfgjlnaaDoor
