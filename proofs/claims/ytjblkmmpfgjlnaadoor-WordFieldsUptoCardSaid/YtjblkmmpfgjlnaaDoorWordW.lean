/- The walk of word.span. -/
import Derived.Test.YtjblkmmpfgjlnaaDoorWordP
import Derived.Test.YtjblkmmpfgjlnaaDoorTrim
import Derived.Test.YtjblkmmpfgjlnaaDoorBld
import Derived.Deep.RegionHeld3
set_option linter.unusedVariables false
namespace Go.Proofs.YtjblkmmpfgjlnaaDoor
open Go.RowKit Ba

set_option maxHeartbeats 4000000 in
set_option maxRecDepth 1000000 in
theorem span (s : ByteArray) (w : World) (h0 : 0 < s.size) (hs : s.size ≤ 1000000000) :
    Calls Tryd.prog 24 #[.string s] w fun e w' => e = .returned (WP.spanV (WP.spanL s.data.toList)) ∧ Below w.heap.size w w' := by
  obtain ⟨B, hB⟩ : ∃ B, w.heap.size = B := ⟨_, rfl⟩
  obtain ⟨x, hx⟩ : ∃ x, s[0]'h0 = x := ⟨_, rfl⟩
  have HC := Lib.hid (cons1 s h0)
  rw [hx] at HC
  by_cases c1 : x = 92
  · subst c1
    have b1 : ((92 : Int) == 92) = true := rfl
    by_cases h2 : s.size < 2
    · have HT : Hid ((s.extract 1 s.size).data.toList = []) := Lib.hid (nil0 _ (by rw [tail_size]; omega))
      go_enter Tryd.func24, Tryd.ntmps24
      go_wp2
      go_ret3
      exact ⟨by rw [HC.out, HT.out]; rfl, Below.refl _ _⟩
    · have h2' : 2 ≤ s.size := by omega
      have HT : Hid (s.extract 1 2 = S [s[1]'(by omega)]) := Lib.hid (by apply ba_ext; rw [data_extract, drop_cons s 1 (by omega), data_S]; rfl)
      have HU := Lib.hid (cons1 (s.extract 1 s.size) (by rw [tail_size]; omega))
      have HV : Hid ((s.extract 1 s.size)[0]'(by rw [tail_size]; omega) = s[1]'(by omega)) := Lib.hid (by simp [ByteArray.getElem_extract])
      go_enter Tryd.func24, Tryd.ntmps24
      go_wp2
      go_quiet (fail)
      go_wp2
      go_ret3
      exact ⟨by rw [HC.out, HU.out, HV.out, HT.out]; rfl, below_dr (Below.refl _ _) _⟩
  · have b1 : ((x.toNat : Int) == 92) = false := beq_eq_false_iff_ne.mpr (fun h => c1 (u8_eq (b := 92) (by have h' : (x.toNat : Int) = 92 := h; show x.toNat = 92; omega)))
    by_cases c2 : x = 39
    · subst c2
      have b1' : ((39 : Int) == 92) = false := rfl
      have b2 : ((39 : Int) == 39) = true := rfl
      have h1' : 1 ≤ s.size := h0
      obtain ⟨t, ht⟩ : ∃ t, s.extract 1 s.size = t := ⟨_, rfl⟩
      have htz : t.size = s.size - 1 := by rw [← ht, tail_size]
      rw [ht] at HC
      have hge := ib_ge t.data.toList 39
      have hle := ib_le t.data.toList 39
      rw [← size_len] at hle
      obtain ⟨n, hn⟩ : ∃ n, Lib.indexByte t.data.toList 39 = n := ⟨_, rfl⟩
      rw [hn] at hge hle
      have HN := Lib.hid hn
      have hI : Calls Tryd.prog 28 #[.string t, .int .u8 39] w fun e w' => e = .returned (.int .i64 n) ∧ w' = w := by
        refine (Tryd.strings_IndexByte t 39 w).mono ?_
        rintro e w' ⟨he, hw⟩
        exact ⟨by rw [he, ← hn]; rfl, hw⟩
      clear hn
      by_cases hneg : n < 0
      · have d1 : decide (n < 0) = true := decide_eq_true hneg
        go_enter Tryd.func24, Tryd.ntmps24
        go_wp2_with (go_at_call 28; refine hI.mono ?_; rintro e w' ⟨rfl, rfl⟩)
        go_ret3
        exact ⟨by rw [HC.out]; simp [WP.spanL, WP.spanV, HN.out, hneg], Below.refl _ _⟩
      · have d1 : decide (n < 0) = false := decide_eq_false hneg
        obtain ⟨k, rfl⟩ : ∃ k : Nat, n = k := ⟨n.toNat, by omega⟩
        have i1 : IntKind.i64.wrap ((k : Int) + 1) = (k : Int) + 1 := wrap_small _ (by omega) (by omega)
        have i2 : IntKind.i64.wrap ((k : Int) + 2) = (k : Int) + 2 := wrap_small _ (by omega) (by omega)
        have g1 : (1 : Int) ≤ (k : Int) + 1 := by omega
        have g2 : (k : Int) + 1 ≤ (s.size : Int) := by omega
        have HT : Hid (s.extract 1 (k + 1) = S (t.data.toList.take k)) := Lib.hid (by
          apply ba_ext
          rw [data_extract, data_S, ← ht, data_extract, Nat.add_sub_cancel, List.take_take]
          congr 1; omega)
        go_enter Tryd.func24, Tryd.ntmps24
        go_wp2_with (go_at_call 28; refine hI.mono ?_; rintro e w' ⟨rfl, rfl⟩)
        go_quiet (fail)
        go_wp2
        go_ret3
        exact ⟨by
          have e : WP.spanL s.data.toList = some (k + 2, t.data.toList.take k) := by
            rw [HC.out]; simp [WP.spanL, HN.out]
          rw [e]
          show Ending.returned (.tuple #[.int .i64 ((k : Int) + 2), .string (s.extract 1 (k + 1)), .bool true]) = _
          rw [HT.out]; rfl, below_dr (hB ▸ Below.refl _ _) _⟩
    · have b2 : ((x.toNat : Int) == 39) = false := beq_eq_false_iff_ne.mpr (fun h => c2 (u8_eq (b := 39) (by have h' : (x.toNat : Int) = 39 := h; show x.toNat = 39; omega)))
      by_cases c3 : x = 34
      · subst c3
        have b1' : ((34 : Int) == 92) = false := rfl
        have b2' : ((34 : Int) == 39) = false := rfl
        have b3 : ((34 : Int) == 34) = true := rfl
        obtain ⟨t, ht⟩ : ∃ t, s.extract 1 s.size = t := ⟨_, rfl⟩
        rw [ht] at HC
        have HT : Hid (t.data.toList = s.data.toList.drop 1) := Lib.hid (by rw [← ht, data_extract, List.take_of_length_le (by rw [List.length_drop, ← size_len]; exact Nat.le_refl _)])
        have HS : Hid (WP.spanL s.data.toList = WP.dq (s.data.toList.drop 1) [] 1) := Lib.hid (by rw [← HT.out, HC.out]; rfl)
        go_enter Tryd.func24, Tryd.ntmps24
        go_wp2
        go_loopw [7] (fun v7 wr => ∃ (k : Nat) (acc : List UInt8), 1 ≤ k ∧ k ≤ s.size ∧ v7 = .int .i64 k ∧ Hid (WP.dq (s.data.toList.drop 1) [] 1 = WP.dq (s.data.toList.drop k) acc k) ∧ acc.length ≤ k ∧ Bld B B acc wr ∧ Below B w wr ∧ B ≤ wr.heap.size) (fun v7 _ => s.size - (intOf v7).toNat)
        case atStart =>
          subst hB
          exact ⟨1, [], Nat.le_refl _, by omega, rfl, Lib.hid rfl, by simp, Bld.fresh w, (Below.refl _ _).alloc (Nat.le_refl _) _, by simp⟩
        case round =>
          obtain ⟨k, acc, hk1, hk, rfl, HQ, hal, hbld, hbel, hsz⟩ := hrel
          by_cases hlt : k < s.size
          · obtain ⟨c, hc⟩ : ∃ c, s[k]'hlt = c := ⟨_, rfl⟩
            have HD := Lib.hid (drop_cons s k hlt)
            rw [hc] at HD
            have d0 : decide ((k : Int) < (s.size : Int)) = true := decide_eq_true (by omega)
            by_cases e1 : c = 34
            · subst e1
              have q1 : ((34 : Int) == 34) = true := rfl
              have HR : Hid (WP.dq (34 :: s.data.toList.drop (k + 1)) acc k = some (k + 1, acc)) := Lib.hid (by cases s.data.toList.drop (k + 1) <;> simp [WP.dq])
              have i1 : IntKind.i64.wrap ((k : Int) + 1) = (k : Int) + 1 := wrap_small _ (by omega) (by omega)
              go_wp2_with (fail)
              refine (Bld.string B B _ _ hbld hsz).mono ?_
              rintro e w2 ⟨rfl, hbel2⟩
              go_wp2
              go_ret3
              exact ⟨by rw [HS.out, HQ.out, HD.out, HR.out]; rfl, hB ▸ hbel.trans hbel2⟩
            · have q1 : ((c.toNat : Int) == 34) = false := beq_eq_false_iff_ne.mpr (fun h => e1 (u8_eq (b := 34) (by have h' : (c.toNat : Int) = 34 := h; show c.toNat = 34; omega)))
              by_cases e2 : c = 92
              · subst e2
                have q2 : ((92 : Int) == 92) = true := rfl
                have q2' : ((92 : Int) == 34) = false := rfl
                have i1 : IntKind.i64.wrap ((k : Int) + 1) = (k : Int) + 1 := wrap_small _ (by omega) (by omega)
                by_cases h2 : k + 1 < s.size
                · have d2 : decide ((k : Int) + 1 < (s.size : Int)) = true := decide_eq_true (by omega)
                  obtain ⟨x, hx2⟩ : ∃ x, s[k + 1]'h2 = x := ⟨_, rfl⟩
                  have HE := Lib.hid (drop_cons s (k + 1) h2)
                  rw [hx2] at HE
                  have hx3 : s[((k : Int) + 1).toNat]'(by omega) = x := by simp only [show ((k : Int) + 1).toNat = k + 1 by omega]; exact hx2
                  have i2 : IntKind.i64.wrap ((k : Int) + 1 + 1) = (k : Int) + 1 + 1 := wrap_small _ (by omega) (by omega)
                  have z1 : decide (0 ≤ (k : Int) + 1) = true := decide_eq_true (by omega)
                  have z2 : 0 ≤ (k : Int) + 1 := by omega
                  have z3 : (k : Int) + 1 < (s.size : Int) := by omega
                  go_wp2_with (fail)
                  refine (Bld.writeByte B B _ x _ hbld (by omega) hsz).mono ?_
                  rintro e w2 ⟨rfl, hbld2, hbel2, -⟩
                  have hsz2 := hbel2.size
                  go_wp2
                  go_roundw
                  case rel => exact ⟨k + 2, acc ++ [x], by omega, by omega, by go_num, Lib.hid (by rw [HQ.out, HD.out, HE.out]; simp [WP.dq]), by simp; omega, hbld2, hbel.trans hbel2, by omega⟩
                  case measure => simp [intOf]; omega
                · have d2 : decide ((k : Int) + 1 < (s.size : Int)) = false := decide_eq_false (by omega)
                  have HZ : Hid (s.data.toList.drop (k + 1) = []) := Lib.hid (List.drop_of_length_le (by rw [← size_len]; omega))
                  go_wp2_with (fail)
                  refine (Bld.writeLit B B _ 92 92 rfl _ hbld (by omega) hsz).mono ?_
                  rintro e w2 ⟨rfl, hbld2, hbel2, -⟩
                  have hsz2 := hbel2.size
                  go_wp2
                  go_roundw
                  case rel => exact ⟨k + 1, acc ++ [92], by omega, by omega, by go_num, Lib.hid (by rw [HQ.out, HD.out, HZ.out]; simp [WP.dq]), by simp; omega, hbld2, hbel.trans hbel2, by omega⟩
                  case measure => simp [intOf]; omega
              · have q2 : ((c.toNat : Int) == 92) = false := beq_eq_false_iff_ne.mpr (fun h => e2 (u8_eq (b := 92) (by have h' : (c.toNat : Int) = 92 := h; show c.toNat = 92; omega)))
                have i1 : IntKind.i64.wrap ((k : Int) + 1) = (k : Int) + 1 := wrap_small _ (by omega) (by omega)
                have HW : Hid (WP.dq (c :: s.data.toList.drop (k + 1)) acc k = WP.dq (s.data.toList.drop (k + 1)) (acc ++ [c]) (k + 1)) := Lib.hid (by cases s.data.toList.drop (k + 1) <;> simp [WP.dq, e1, e2])
                go_wp2_with (fail)
                refine (Bld.writeByte B B _ c _ hbld (by omega) hsz).mono ?_
                rintro e w2 ⟨rfl, hbld2, hbel2, -⟩
                have hsz2 := hbel2.size
                go_wp2
                go_roundw
                case rel => exact ⟨k + 1, acc ++ [c], by omega, by omega, by go_num, Lib.hid (by rw [HQ.out, HD.out, HW.out]), by simp; omega, hbld2, hbel.trans hbel2, by omega⟩
                case measure => simp [intOf]; omega
          · have d0 : decide ((k : Int) < (s.size : Int)) = false := decide_eq_false (by omega)
            have HZ : Hid (s.data.toList.drop k = []) := Lib.hid (List.drop_of_length_le (by rw [← size_len]; omega))
            go_wp2
            go_ret3
            exact ⟨by rw [HS.out, HQ.out, HZ.out]; rfl, hB ▸ hbel⟩
      · have b3 : ((x.toNat : Int) == 34) = false := beq_eq_false_iff_ne.mpr (fun h => c3 (u8_eq (b := 34) (by have h' : (x.toNat : Int) = 34 := h; show x.toNat = 34; omega)))
        have HT : Hid (s.extract 0 1 = S [x]) := Lib.hid (by apply ba_ext; rw [data_extract, drop_cons s 0 h0, hx, data_S]; rfl)
        have h1' : 1 ≤ s.size := h0
        go_enter Tryd.func24, Tryd.ntmps24
        go_wp2
        go_quiet (fail)
        go_wp2
        go_ret3
        exact ⟨by rw [HC.out, HT.out]; simp [WP.spanL, c1, c2, c3, WP.spanV, S], below_dr (Below.refl _ _) _⟩
end Go.Proofs.YtjblkmmpfgjlnaaDoor
