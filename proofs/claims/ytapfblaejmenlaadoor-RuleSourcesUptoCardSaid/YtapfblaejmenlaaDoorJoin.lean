/- strings.Join with a blank between. -/
import Derived.Test.YtapfblaejmenlaaDoorRuleP
import Derived.Test.YtapfblaejmenlaaDoorBld2
import Derived.Test.YtapfblaejmenlaaDoorWMore
import Derived.Test.YtapfblaejmenlaaDoorShelf
import Derived.Test.YtapfblaejmenlaaDoorWalk
import Derived.Lib.Hide
import Derived.Deep.LoopGhost
import Derived.Deep.QuietTactic
import Derived.BigQuiet
import Derived.Outline
import Derived.LoopTactic
import Derived.WalkKit
set_option linter.unusedVariables false
set_option linter.unusedSimpArgs false
namespace Go.Proofs.YtapfblaejmenlaaDoor
open Go.RowKit Ba Go.Proofs.YtapfblaejmenlaaDoorW.PrintWords Go.Proofs.YtapfblaejmenlaaDoorW.PrintLast

theorem tot_drop (l : List ByteArray) (k : Nat) (h : k < l.length) : WP.tot (l.drop k) = l[k].size + 1 + WP.tot (l.drop (k + 1)) := by
  rw [List.drop_eq_getElem_cons h, WP.tot_cons]
theorem tails_len (ws : List ByteArray) : (RP.tails (ws.map fun s => s.data.toList)).length = WP.tot ws := by
  induction ws with
  | nil => rfl
  | cons s ws ih =>
    rw [List.map_cons, WP.tot_cons]
    unfold RP.tails at ih ⊢
    rw [List.flatMap_cons, List.length_append, ih, List.length_cons, size_len]

set_option maxHeartbeats 8000000 in
set_option maxRecDepth 1000000 in
theorem joinW (A : Option Addr) (cap : Nat) (l : List ByteArray) (w : World) (hr : Kd.C Kd.string w A l.length l) (hc : l.length ≤ cap) (hl : WP.tot l ≤ 1000000000) :
    Calls Tryd.prog 29 #[.slice A l.length cap, .string ⟨#[32]⟩] w fun e w' => e = .returned (.string (S (RP.joinSp (l.map fun s => s.data.toList)))) ∧ Below w.heap.size w w' := by
  have HR := Lib.hid hr
  clear hr
  obtain ⟨B, hB⟩ : ∃ B, w.heap.size = B := ⟨_, rfl⟩
  have hlen : l.length ≤ 1000000000 := by
    have : ∀ l : List ByteArray, l.length ≤ WP.tot l := by
      intro l
      induction l with
      | nil => simp [WP.tot]
      | cons s l ih => rw [WP.tot_cons, List.length_cons]; omega
    exact Nat.le_trans (this l) hl
  obtain ⟨sep, hs⟩ : ∃ sep, (⟨#[32]⟩ : ByteArray) = sep := ⟨_, rfl⟩
  have hs1 : sep.size = 1 := by rw [← hs]; rfl
  have hsd : sep.data.toList = [32] := by rw [← hs]
  rw [hs]
  by_cases h0 : l.length = 0
  · have z0 : ((l.length : Int) == 0) = true := beq_iff_eq.mpr (by omega)
    have e0 : l = [] := List.length_eq_zero_iff.mp h0
    go_enter Tryd.func29, Tryd.ntmps29
    go_wp2
    go_ret
    exact ⟨by rw [e0]; rfl, Below.refl _ _⟩
  · have z0 : ((l.length : Int) == 0) = false := beq_eq_false_iff_ne.mpr (by omega)
    obtain ⟨ad, ea, hx⟩ := Kd.at_string HR.out 0 (by omega) (by omega)
    cases ea
    have hd : l = l[0] :: l.drop 1 := by
      have := List.drop_eq_getElem_cons (l := l) (i := 0) (by omega)
      simpa using this
    have hrd : rdOf ByteArray.empty l 0 = l[0] := by unfold rdOf; simp [List.getD_eq_getElem?_getD, show 0 < l.length by omega]
    rw [hrd] at hx
    have HD := Lib.hid hd
    have ht0 := tot_drop l 0 (by omega)
    rw [List.drop_zero] at ht0
    clear hd hrd
    generalize hs0 : l[0] = s0 at hx HD ht0
    have hx0 : w.cell? (ad.add 0) = some (.string s0) := hx
    have ha0 : ad.add 0 = ad := by cases ad; rfl
    have hx' : w.cell? ad = some (.string s0) := by rw [← ha0]; exact hx0
    clear hx hx0
    by_cases h1 : l.length = 1
    · have z1 : ((l.length : Int) == 1) = true := beq_iff_eq.mpr (by omega)
      have e1 : l.drop 1 = [] := List.drop_of_length_le (by omega)
      have ej : S (RP.joinSp (l.map fun s => s.data.toList)) = s0 := by
        rw [HD.out, e1]
        show S (s0.data.toList ++ []) = s0
        rw [List.append_nil, S_data]
      go_enter Tryd.func29, Tryd.ntmps29
      go_wp2
      go_ret
      exact ⟨by rw [ej]; rfl, Below.refl _ _⟩
    · have z1 : ((l.length : Int) == 1) = false := beq_eq_false_iff_ne.mpr (by omega)
      have dq : decide (9223372036854775807 / ((l.length - 1 : Nat) : Int) ≤ 1) = false := decide_eq_false (by
        have := Int.le_ediv_of_mul_le (a := 2) (b := 9223372036854775807) (c := ((l.length - 1 : Nat) : Int)) (by omega) (by omega)
        omega)
      have dq2 : (9223372036854775807 / ((l.length - 1 : Nat) : Int) ≤ 1) = False := eq_false (of_decide_eq_false dq)
      have zq : (((l.length - 1 : Nat) : Int) == 0) = false := beq_eq_false_iff_ne.mpr (by omega)
      have i0 : IntKind.i64.wrap ((l.length : Int) - 1) = ((l.length - 1 : Nat) : Int) := by rw [wrap_small _ (by omega) (by omega)]; omega
      have hlp : WP.tot (l.drop 0) = WP.tot l := by rw [List.drop_zero]
      go_enter Tryd.func29, Tryd.ntmps29
      go_wp2
      go_loopw [5, 41] (fun v5 v41 wr => ∃ (k m : Nat), v5 = .int .i64 m ∧ v41 = .int .i64 k ∧ k ≤ l.length ∧ m + WP.tot (l.drop k) ≤ WP.tot l + l.length ∧ Below B w wr) (fun _ v41 _ => l.length - (intOf v41).toNat)
      case atStart => exact ⟨0, l.length - 1, by go_num, rfl, Nat.zero_le _, by rw [hlp]; omega, hB ▸ Below.refl _ _⟩
      case round =>
        obtain ⟨k, m, rfl, rfl, hk, hm, hbel⟩ := hrel
        by_cases hlt : k < l.length
        · have d0 : decide ((k : Int) < (l.length : Int)) = true := decide_eq_true (by omega)
          obtain ⟨ad2, ea2, hx⟩ := Kd.at_string (Kd.C_below HR.out (hB ▸ hbel)) (k : Int) (by omega) (by omega)
          cases ea2
          have hrd : rdOf ByteArray.empty l (k : Int) = l[k] := by unfold rdOf; simp [List.getD_eq_getElem?_getD, hlt]
          rw [hrd] at hx
          have htk := tot_drop l k hlt
          clear hrd
          generalize l[k] = t at hx htk
          have hx2 : wr.cell? (ad.add k) = some (.string t) := hx
          clear hx
          have i1 : IntKind.i64.wrap ((k : Int) + 1) = (k : Int) + 1 := wrap_small _ (by omega) (by omega)
          have i2 : IntKind.i64.wrap (9223372036854775807 - (m : Int)) = 9223372036854775807 - (m : Int) := wrap_small _ (by omega) (by omega)
          have i3 : IntKind.i64.wrap ((m : Int) + (t.size : Int)) = ((m + t.size : Nat) : Int) := by rw [wrap_small _ (by omega) (by omega)]; omega
          have d1 : decide (9223372036854775807 - (m : Int) < (t.size : Int)) = false := decide_eq_false (by omega)
          go_wp2
          go_roundw
          case rel => exact ⟨k + 1, m + t.size, by go_num, by go_num, by omega, by omega, hbel⟩
          case measure => simp [intOf]; omega
        · have d0 : decide ((k : Int) < (l.length : Int)) = false := decide_eq_false (by omega)
          go_wp2_with (fail)
          obtain ⟨B2, hB2⟩ : ∃ B2, wr.heap.size = B2 := ⟨_, rfl⟩
          have hsz0 : B ≤ B2 := by rw [← hB2, ← hB]; exact (hB ▸ hbel).size
          rw [hB2]
          refine (Tryd.Builder_Grow_fresh B2 B2 m _ (Nat.le_refl _) (by subst hB2; unfold World.alloc; exact Array.getElem?_push_size) (by subst hB2; unfold World.alloc; simp only [Array.size_push]; omega) (by omega)).mono ?_
          rintro e w1 ⟨rfl, hbld0, hbel0⟩
          have hb0 : Bld B2 B2 [] w1 := .inr hbld0
          clear hbld0
          have hbel1 : Below B w w1 := (hbel.alloc (by rw [← hB]; exact (hB ▸ hbel).size) _).trans (hbel0.mono hsz0)
          have hsz1 : B2 ≤ w1.heap.size := by
            have := hbel0.size
            have e2 : (wr.alloc (.cells #[.pointer none, .slice none 0 0] 60)).heap.size = B2 + 1 := by rw [← hB2]; unfold World.alloc; simp
            omega
          clear hbel0
          have hx1 : w1.cell? ad = some (.string s0) := by
            obtain ⟨ad2, ea2, hx⟩ := Kd.at_string (Kd.C_below HR.out (hB ▸ hbel1)) 0 (by omega) (by omega)
            cases ea2
            have hrd : rdOf ByteArray.empty l 0 = l[0] := by unfold rdOf; simp [List.getD_eq_getElem?_getD, show 0 < l.length by omega]
            rw [hrd, hs0] at hx
            rw [← ha0]; exact hx
          go_wp2_with (fail)
          have hs0s : s0.data.toList.length = s0.size := (size_len s0).symm
          refine (Bld.writeString B2 B2 [] s0 _ hb0 (by simp only [List.length_nil]; omega) hsz1).mono ?_
          rintro e w2 ⟨rfl, hbld1, hbel2, -⟩
          rw [List.nil_append] at hbld1
          have hsz2 : B2 ≤ w2.heap.size := Nat.le_trans hsz1 hbel2.size
          have hbel3 : Below B w w2 := hbel1.trans (hbel2.mono hsz0)
          have g1 : (1 : Int) ≤ (l.length : Int) := by omega
          have i9 : (l.length : Int) - 1 = ((l.length - 1 : Nat) : Int) := by omega
          have HJ : Hid (RP.joinSp (l.map fun s => s.data.toList) = s0.data.toList ++ RP.tails ((l.drop 1).map fun s => s.data.toList)) := Lib.hid (by rw [HD.out]; rfl)
          clear hbel2 hbel1 hx1 hb0
          go_wp2
          go_loopw [65] (fun v65 wq => ∃ (j : Nat) (acc : List UInt8), v65 = .int .i64 j ∧ j + 1 ≤ l.length ∧ Hid (RP.joinSp (l.map fun s => s.data.toList) = acc ++ RP.tails ((l.drop (j + 1)).map fun s => s.data.toList)) ∧ acc.length + WP.tot (l.drop (j + 1)) ≤ WP.tot l ∧ Bld B2 B2 acc wq ∧ Below B w wq ∧ B2 ≤ wq.heap.size) (fun v65 _ => l.length - (intOf v65).toNat)
          case atStart => exact ⟨0, s0.data.toList, rfl, by omega, HJ, by rw [Nat.zero_add] at ht0 ⊢; omega, hbld1, hbel3, hsz2⟩
          case round =>
            obtain ⟨j, acc, rfl, hj, HQ, ha, hbld, hbq, hsz⟩ := hrel
            by_cases hlt2 : j + 1 < l.length
            · have d2 : decide ((j : Int) < ((l.length - 1 : Nat) : Int)) = true := decide_eq_true (by omega)
              obtain ⟨ad2, ea2, hx⟩ := Kd.at_string (Kd.C_below HR.out (hB ▸ hbq)) ((j + 1 : Nat) : Int) (by omega) (by omega)
              cases ea2
              have hrd : rdOf ByteArray.empty l ((j + 1 : Nat) : Int) = l[j + 1] := by unfold rdOf; simp [List.getD_eq_getElem?_getD, hlt2]
              rw [hrd] at hx
              have htk := tot_drop l (j + 1) hlt2
              have HD2 := Lib.hid (List.drop_eq_getElem_cons hlt2)
              clear hrd
              generalize l[j + 1] = t at hx htk HD2
              have haj : ad.add (j + 1) = ⟨ad.block, ad.off + 1 + j, none⟩ := by unfold Addr.add; rw [if_neg (by omega)]; congr 1; omega
              have hx2 : wr.cell? ⟨ad.block, ad.off + 1 + j, none⟩ = some (.string t) := by rw [← haj]; exact hx
              clear hx haj
              have i1 : IntKind.i64.wrap ((j : Int) + 1) = (j : Int) + 1 := wrap_small _ (by omega) (by omega)
              have hts : t.data.toList.length = t.size := (size_len t).symm
              have HT : Hid (RP.tails ((l.drop (j + 1)).map fun s => s.data.toList) = 32 :: t.data.toList ++ RP.tails ((l.drop (j + 1 + 1)).map fun s => s.data.toList)) := Lib.hid (by rw [HD2.out]; rfl)
              have hsl : sep.data.toList.length = 1 := by rw [hsd]; rfl
              go_wp2_with (fail)
              refine (Bld.writeString B2 B2 acc sep _ hbld (by omega) hsz).mono ?_
              rintro e w3 ⟨rfl, hbld3, hbel4, -⟩
              have hsz3 := hbel4.size
              go_wp2_with (fail)
              refine (Bld.writeString B2 B2 _ t _ hbld3 (by rw [List.length_append]; omega) (by omega)).mono ?_
              rintro e w4 ⟨rfl, hbld4, hbel5, -⟩
              have hsz4 := hbel5.size
              go_wp2
              go_roundw
              case rel => exact ⟨j + 1, _, by go_num, by omega, Lib.hid (by rw [HQ.out, HT.out, hsd]; simp), by rw [List.length_append, List.length_append]; omega, hbld4, (hbq.trans (hbel4.mono hsz0)).trans (hbel5.mono hsz0), by omega⟩
              case measure => simp [intOf]; omega
            · have d2 : decide ((j : Int) < ((l.length - 1 : Nat) : Int)) = false := decide_eq_false (by omega)
              have HZ : Hid (l.drop (j + 1) = []) := Lib.hid (List.drop_of_length_le (by omega))
              go_wp2_with (fail)
              refine (Bld.string B2 B2 _ _ hbld hsz).mono ?_
              rintro e w3 ⟨rfl, hbel4⟩
              go_wp2
              go_ret
              exact ⟨by rw [HQ.out, HZ.out]; simp [RP.tails]; rfl, hB ▸ hbq.trans (hbel4.mono hsz0)⟩
end Go.Proofs.YtapfblaejmenlaaDoor
