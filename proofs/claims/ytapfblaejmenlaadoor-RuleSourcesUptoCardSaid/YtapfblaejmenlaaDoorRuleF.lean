/- The walk of rule.Format. -/
import Derived.Test.YtapfblaejmenlaaDoorJoin
import Derived.Test.YtapfblaejmenlaaDoorRuleW
set_option linter.unusedVariables false
set_option linter.unusedSimpArgs false
namespace Go.Proofs.YtapfblaejmenlaaDoor
open Go.RowKit Ba Go.Proofs.YtapfblaejmenlaaDoorW.PrintWords Go.Proofs.YtapfblaejmenlaaDoorW.PrintLast

def opI (k : Int) : List UInt8 := if k = 2 then [32, 33] else if k = 3 then [58, 58] else [58]
def fmtL (l0 : List ByteArray) (k : Int) (l1 l2 : List ByteArray) : List UInt8 :=
  RP.joinSp (l0.map fun s => s.data.toList) ++ opI k ++ (if l1.length = 0 then [] else 32 :: RP.joinSp (l1.map fun s => s.data.toList)) ++ (match l2 with | [] => [] | c :: _ => 59 :: 32 :: c.data.toList)

theorem joinSp_len (l : List ByteArray) : (RP.joinSp (l.map fun s => s.data.toList)).length ≤ WP.tot l := by
  cases l with
  | nil => exact Nat.le_refl _
  | cons s l =>
    show (s.data.toList ++ RP.tails (l.map fun s => s.data.toList)).length ≤ _
    rw [List.length_append, tails_len, WP.tot_cons, ← size_len]; omega

set_option maxHeartbeats 8000000 in
set_option maxRecDepth 1000000 in
theorem formatW (A0 A1 A2 : Option Addr) (c0 c1 c2 : Nat) (l0 l1 l2 : List ByteArray) (k a : Int) (w : World)
    (h0 : Kd.C Kd.string w A0 l0.length l0) (h1 : Kd.C Kd.string w A1 l1.length l1) (h2 : Kd.C Kd.string w A2 l2.length l2) (hc0 : l0.length ≤ c0) (hc1 : l1.length ≤ c1) (hc2 : l2.length ≤ c2)
    (t0 : WP.tot l0 ≤ 100000000) (t1 : WP.tot l1 ≤ 100000000) (t2 : WP.tot l2 ≤ 100000000) :
    Calls Tryd.prog 15 #[.agg #[.slice A0 l0.length c0, .int .i64 k, .slice A1 l1.length c1, .slice A2 l2.length c2, .int .i64 a]] w fun e w' => e = .returned (.string (S (fmtL l0 k l1 l2))) ∧ Below w.heap.size w w' := by
  have H0 := Lib.hid h0
  have H1 := Lib.hid h1
  have H2 := Lib.hid h2
  clear h0 h1 h2
  obtain ⟨B, hB⟩ : ∃ B, w.heap.size = B := ⟨_, rfl⟩
  obtain ⟨J0, hJ0⟩ : ∃ J, RP.joinSp (l0.map fun s => s.data.toList) = J := ⟨_, rfl⟩
  obtain ⟨J1, hJ1⟩ : ∃ J, RP.joinSp (l1.map fun s => s.data.toList) = J := ⟨_, rfl⟩
  have n0 : J0.length ≤ 100000000 := by rw [← hJ0]; exact Nat.le_trans (joinSp_len l0) t0
  have n1 : J1.length ≤ 100000000 := by rw [← hJ1]; exact Nat.le_trans (joinSp_len l1) t1
  have hk : ((k == 2) = true ∧ opI k = [32, 33]) ∨ ((k == 2) = false ∧ (k == 3) = true ∧ opI k = [58, 58]) ∨ ((k == 2) = false ∧ (k == 3) = false ∧ opI k = [58]) := by
    by_cases h2 : k = 2
    · exact .inl ⟨beq_iff_eq.mpr h2, by rw [opI, if_pos h2]⟩
    · by_cases h3 : k = 3
      · exact .inr (.inl ⟨beq_eq_false_iff_ne.mpr h2, beq_iff_eq.mpr h3, by rw [opI, if_neg h2, if_pos h3]⟩)
      · exact .inr (.inr ⟨beq_eq_false_iff_ne.mpr h2, beq_eq_false_iff_ne.mpr h3, by rw [opI, if_neg h2, if_neg h3]⟩)
  obtain ⟨W1, hW1⟩ : ∃ W1, w.alloc (.cells #[.slice A0 l0.length c0, .int .i64 k, .slice A1 l1.length c1, .slice A2 l2.length c2, .int .i64 a] 24) = W1 := ⟨_, rfl⟩
  have hz1 : W1.heap.size = B + 1 := by rw [← hW1, ← hB]; simp
  have hbw : Below B w W1 := by rw [← hW1]; exact (Below.refl _ _).alloc (by omega) _
  have boxc : ∀ W', Below (B + 1) W1 W' → W'.cell? ⟨B, 0, none⟩ = some (.slice A0 l0.length c0) ∧ W'.cell? ⟨B, 1, none⟩ = some (.int .i64 k) ∧ W'.cell? ⟨B, 2, none⟩ = some (.slice A1 l1.length c1) ∧ W'.cell? ⟨B, 3, none⟩ = some (.slice A2 l2.length c2) := by
    intro W' hb
    refine ⟨?_, ?_, ?_, ?_⟩
    · rw [hb.cell (p := ⟨B, 0, none⟩) (Nat.lt_succ_self B), ← hW1, ← hB, World.cell?_alloc_at _ _ _ _ (by simp)]; rfl
    · rw [hb.cell (p := ⟨B, 1, none⟩) (Nat.lt_succ_self B), ← hW1, ← hB, World.cell?_alloc_at _ _ _ _ (by simp)]; rfl
    · rw [hb.cell (p := ⟨B, 2, none⟩) (Nat.lt_succ_self B), ← hW1, ← hB, World.cell?_alloc_at _ _ _ _ (by simp)]; rfl
    · rw [hb.cell (p := ⟨B, 3, none⟩) (Nat.lt_succ_self B), ← hW1, ← hB, World.cell?_alloc_at _ _ _ _ (by simp)]; rfl
  have BX := Lib.hid boxc
  clear boxc
  have hb2 : Below (B + 1) W1 (W1.alloc (.cells #[.pointer none, .slice none 0 0] 60)) := (Below.refl _ _).alloc (by omega) _
  have hbw2 : Below B w (W1.alloc (.cells #[.pointer none, .slice none 0 0] 60)) := hbw.alloc (by omega) _
  have bx0 := (BX.out _ hb2).1
  go_enter Tryd.func15, Tryd.ntmps15
  go_wp2_with (fail)
  have hf := Bld.fresh W1
  rw [hz1] at hf
  refine (joinW A0 c0 l0 _ (Kd.C_below H0.out (hB ▸ hbw2)) hc0 (by omega)).mono ?_
  rintro e w3 ⟨rfl, hb3⟩
  have hz2 : (W1.alloc (.cells #[.pointer none, .slice none 0 0] 60)).heap.size = B + 1 + 1 := by rw [← hz1]; simp
  have hbld3 := hf.below hb3
  rw [hz2] at hb3
  have hb13 := hb2.trans (hb3.mono (Nat.le_succ _))
  have hsz3 : B + 1 ≤ w3.heap.size := by have := hb3.size; omega
  rw [hJ0]
  clear hf hb3 hb2 hbw2 hz2
  have hSJ : (S J0).size = J0.length := by rw [size_len, data_S]
  have hSd : (S J0).data.toList = J0 := data_S J0
  go_wp2_with (fail)
  refine (Bld.writeString (B + 1) (B + 1) [] (S J0) _ hbld3 (by rw [hSJ]; simp only [List.length_nil]; omega) hsz3).mono ?_
  rintro e w4 ⟨rfl, hbld4, hb4, -⟩
  rw [List.nil_append, hSd] at hbld4
  have hb14 := hb13.trans hb4
  have hsz4 : B + 1 ≤ w4.heap.size := Nat.le_trans hsz3 hb4.size
  obtain ⟨-, bx1, bx2, bx3⟩ := BX.out w4 hb14
  clear hbld3 hb13 hb4
  have lit : ∀ (acc : List UInt8) (s : ByteArray), acc.length ≤ 1000000000 → s.size ≤ 1000000000 → acc.length + s.size ≤ 140737488355328 := fun acc s h1 h2 => by omega
  have hol : (opI k).length ≤ 2 := by rcases hk with ⟨_, ho⟩ | ⟨_, _, ho⟩ | ⟨_, _, ho⟩ <;> (rw [ho]; decide)
  have hbm : ∀ W', Below (B + 1) W1 W' → Below B w W' := fun W' h => hbw.trans (h.mono (Nat.le_succ _))
  rcases hk with ⟨hk2, ho⟩ | ⟨hk2, hk3, ho⟩ | ⟨hk2, hk3, ho⟩
  all_goals
    go_wp2_with (fail)
    refine (Bld.writeString (B + 1) (B + 1) J0 _ _ hbld4 (lit _ _ (by omega) (by decide)) hsz4).mono ?_
    rintro e w5 ⟨rfl, hbld5', hb5, -⟩
    have hbld5 : Bld (B + 1) (B + 1) (J0 ++ opI k) w5 := by rw [ho]; exact hbld5'
    clear hbld5' hbld4
    have HO := Lib.hid ho
    clear ho
    have hb15 := hb14.trans hb5
    have hsz5 : B + 1 ≤ w5.heap.size := Nat.le_trans hsz4 hb5.size
    obtain ⟨-, -, by2, by3⟩ := BX.out w5 hb15
    clear bx0 bx1 bx2 bx3 hb14 hb5
    by_cases z1 : l1.length = 0
    · have d1 : decide (0 < (l1.length : Int)) = false := decide_eq_false (by omega)
      by_cases z2 : l2.length = 0
      · skip
        have d2 : decide (0 < (l2.length : Int)) = false := decide_eq_false (by omega)
        have e2 : l2 = [] := List.length_eq_zero_iff.mp z2
        go_wp2_with (fail)
        refine (Bld.string (B + 1) (B + 1) _ _ hbld5 hsz5).mono ?_
        rintro e w9 ⟨rfl, hb9⟩
        go_wp2
        go_ret
        exact ⟨by unfold fmtL; rw [hJ0, if_pos z1, e2]; simp only [List.append_assoc, List.append_nil, List.nil_append, List.cons_append]; rfl, hB ▸ hbm _ (hb15.trans hb9)⟩
      · have d2 : decide (0 < (l2.length : Int)) = true := decide_eq_true (by omega)
        obtain ⟨ad, ea, hx⟩ := Kd.at_string (Kd.C_below H2.out (hB ▸ hbm _ hb15)) 0 (by omega) (by omega)
        cases ea
        obtain ⟨cm, l3, rfl⟩ : ∃ cm l3, l2 = cm :: l3 := by
          cases l2 with
          | nil => exact absurd rfl z2
          | cons cm l3 => exact ⟨cm, l3, rfl⟩
        have hcm : cm.size ≤ 100000000 := by rw [WP.tot_cons] at t2; omega
        have ha0 : ad.add 0 = ad := by cases ad; rfl
        have hx0 : w5.cell? (ad.add 0) = some (.string cm) := hx
        rw [ha0] at hx0
        clear hx ha0
        have hcat : ((⟨#[59, 32]⟩ : ByteArray) ++ cm).size ≤ 1000000000 := by rw [ByteArray.size_append]; have : (⟨#[59, 32]⟩ : ByteArray).size = 2 := rfl; omega
        have hcatd : ((⟨#[59, 32]⟩ : ByteArray) ++ cm).data.toList = 59 :: 32 :: cm.data.toList := by simp
        have hmx : (9223372036854775807 < 2 + cm.size) = False := eq_false (by omega)
        have hmx1 : (9223372036854775807 < cm.size + 2) = False := eq_false (by omega)
        have hmx2 : (2 + cm.size ≤ 9223372036854775807) = True := eq_true (by omega)
        go_wp2_with (fail)
        refine (Bld.writeString (B + 1) (B + 1) (J0 ++ opI k) ((⟨#[59, 32]⟩ : ByteArray) ++ cm) _ hbld5 (lit _ _ (by rw [List.length_append]; omega) hcat) hsz5).mono ?_
        rintro e w8 ⟨rfl, hbld8, hb8, -⟩
        have hb18 := hb15.trans hb8
        have hsz8 : B + 1 ≤ w8.heap.size := Nat.le_trans hsz5 hb8.size
        go_wp2_with (fail)
        refine (Bld.string (B + 1) (B + 1) _ _ hbld8 hsz8).mono ?_
        rintro e w9 ⟨rfl, hb9⟩
        go_wp2
        go_ret
        exact ⟨by unfold fmtL; rw [hJ0, if_pos z1]; simp only [List.append_assoc, List.append_nil, List.nil_append, List.cons_append]; rfl, hB ▸ hbm _ (hb18.trans hb9)⟩
    · have d1 : decide (0 < (l1.length : Int)) = true := decide_eq_true (by omega)
      go_wp2_with (fail)
      refine (joinW A1 c1 l1 _ (Kd.C_below H1.out (hB ▸ hbm _ hb15)) hc1 (by omega)).mono ?_
      rintro e w6 ⟨rfl, hb6⟩
      have hbld6 := hbld5.below hb6
      have hb16 := hb15.trans (hb6.mono hsz5)
      have hsz6 : B + 1 ≤ w6.heap.size := Nat.le_trans hsz5 hb6.size
      obtain ⟨-, -, bz2, bz3⟩ := BX.out w6 hb16
      rw [hJ1]
      have hSJ1 : (S J1).size = J1.length := by rw [size_len, data_S]
      have hSd1 : (S J1).data.toList = J1 := data_S J1
      have hcat1 : ((⟨#[32]⟩ : ByteArray) ++ S J1).size ≤ 1000000000 := by rw [ByteArray.size_append, hSJ1]; have : (⟨#[32]⟩ : ByteArray).size = 1 := rfl; omega
      have hcatd1 : ((⟨#[32]⟩ : ByteArray) ++ S J1).data.toList = 32 :: J1 := by rw [← hSd1]; simp
      have hmx3 : (9223372036854775807 < 1 + J1.length) = False := eq_false (by omega)
      have hmx4 : (9223372036854775807 < J1.length + 1) = False := eq_false (by omega)
      have hmx5 : (1 + J1.length ≤ 9223372036854775807) = True := eq_true (by omega)
      go_wp2_with (fail)
      refine (Bld.writeString (B + 1) (B + 1) (J0 ++ opI k) ((⟨#[32]⟩ : ByteArray) ++ S J1) _ hbld6 (lit _ _ (by rw [List.length_append]; omega) hcat1) hsz6).mono ?_
      rintro e w7 ⟨rfl, hbld7, hb7, -⟩
      rw [hcatd1] at hbld7
      have hb17 := hb16.trans hb7
      have hsz7 : B + 1 ≤ w7.heap.size := Nat.le_trans hsz6 hb7.size
      obtain ⟨-, -, bv2, bv3⟩ := BX.out w7 hb17
      by_cases z2 : l2.length = 0
      · skip
        have d2 : decide (0 < (l2.length : Int)) = false := decide_eq_false (by omega)
        have e2 : l2 = [] := List.length_eq_zero_iff.mp z2
        go_wp2_with (fail)
        refine (Bld.string (B + 1) (B + 1) _ _ hbld7 hsz7).mono ?_
        rintro e w9 ⟨rfl, hb9⟩
        go_wp2
        go_ret
        exact ⟨by unfold fmtL; rw [hJ0, if_neg z1, hJ1, e2]; simp only [List.append_assoc, List.append_nil, List.nil_append, List.cons_append]; rfl, hB ▸ hbm _ (hb17.trans hb9)⟩
      · have d2 : decide (0 < (l2.length : Int)) = true := decide_eq_true (by omega)
        obtain ⟨ad, ea, hx⟩ := Kd.at_string (Kd.C_below H2.out (hB ▸ hbm _ hb17)) 0 (by omega) (by omega)
        cases ea
        obtain ⟨cm, l3, rfl⟩ : ∃ cm l3, l2 = cm :: l3 := by
          cases l2 with
          | nil => exact absurd rfl z2
          | cons cm l3 => exact ⟨cm, l3, rfl⟩
        have hcm : cm.size ≤ 100000000 := by rw [WP.tot_cons] at t2; omega
        have ha0 : ad.add 0 = ad := by cases ad; rfl
        have hx0 : w7.cell? (ad.add 0) = some (.string cm) := hx
        rw [ha0] at hx0
        clear hx ha0
        have hcat : ((⟨#[59, 32]⟩ : ByteArray) ++ cm).size ≤ 1000000000 := by rw [ByteArray.size_append]; have : (⟨#[59, 32]⟩ : ByteArray).size = 2 := rfl; omega
        have hcatd : ((⟨#[59, 32]⟩ : ByteArray) ++ cm).data.toList = 59 :: 32 :: cm.data.toList := by simp
        have hmx : (9223372036854775807 < 2 + cm.size) = False := eq_false (by omega)
        have hmx1 : (9223372036854775807 < cm.size + 2) = False := eq_false (by omega)
        have hmx2 : (2 + cm.size ≤ 9223372036854775807) = True := eq_true (by omega)
        go_wp2_with (fail)
        refine (Bld.writeString (B + 1) (B + 1) (J0 ++ opI k ++ 32 :: J1) ((⟨#[59, 32]⟩ : ByteArray) ++ cm) _ hbld7 (lit _ _ (by rw [List.length_append, List.length_append, List.length_cons]; omega) hcat) hsz7).mono ?_
        rintro e w8 ⟨rfl, hbld8, hb8, -⟩
        have hb18 := hb17.trans hb8
        have hsz8 : B + 1 ≤ w8.heap.size := Nat.le_trans hsz7 hb8.size
        go_wp2_with (fail)
        refine (Bld.string (B + 1) (B + 1) _ _ hbld8 hsz8).mono ?_
        rintro e w9 ⟨rfl, hb9⟩
        go_wp2
        go_ret
        exact ⟨by unfold fmtL; rw [hJ0, if_neg z1, hJ1]; simp only [List.append_assoc, List.append_nil, List.nil_append, List.cons_append]; rfl, hB ▸ hbm _ (hb18.trans hb9)⟩
end Go.Proofs.YtapfblaejmenlaaDoor
