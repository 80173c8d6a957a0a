/- walks: the document's first -/
import Derived.Test.YtcailjmcjgpfmaaGlobR
set_option linter.unusedVariables false
namespace Go.Proofs.Ytcailjmcjgpfmaa
open Go.RowKit Ba

theorem first_res (p : ByteArray) (c : UInt8) (k : Nat) (b : Bool) (hk : GP.oneK p.data.toList = k) (hb : GP.oneB p.data.toList c = b) :
    Ending.returned (.tuple #[.int .i64 k, .bool b]) = .returned (.tuple #[.int .i64 (GP.oneK p.data.toList), .bool (GP.oneB p.data.toList c)]) := by
  rw [hk, hb]

set_option maxHeartbeats 4000000 in
theorem rfirst (p : ByteArray) (c : UInt8) (w : World) (h1 : 0 < p.size) (hp : p.size ≤ 140737488355328) :
    Calls Try.prog 21 #[.string p, .int .u8 c.toNat] w fun e w' => e = .returned (.tuple #[.int .i64 (GP.oneK p.data.toList), .bool (GP.oneB p.data.toList c)]) ∧ ∃ n, w' = w.drewN n := by
  obtain ⟨x, hx⟩ : ∃ x, p[0]'h1 = x := ⟨_, rfl⟩
  have HH := Lib.hid ((head_get p h1).trans (congrArg some hx))
  have hb0 := GP.brk_bd p.data.toList
  rw [← size_len] at hb0
  obtain ⟨k, hk⟩ : ∃ k, GP.brk p.data.toList = k := ⟨_, rfl⟩
  rw [hk] at hb0
  have hs : (p.extract 0 k).size = k := by rw [ext_size]; omega
  have hb : k ≤ p.size := hb0.1
  have HB3 := Lib.hid hb0.2
  have HE := Lib.hid (size_len p)
  have HT : Hid ((p.extract 0 k).data.toList = p.data.toList.take k) := Lib.hid (by rw [data_extract]; rfl)
  have HC := Lib.hid (u8_beq x c)
  clear hb0
  by_cases x63 : (x.toNat : Int) = 63
  · have q63 : ((x.toNat : Int) == 63) = true := beq_iff_eq.mpr x63
    have E : Hid (x = 63) := Lib.hid (toNat_eq (k := 63) (by omega) q63)
    go_enter Try.func21, Try.ntmps21
    go_wp2
    go_ret2
    exact ⟨first_res p c 1 true (by simp [GP.oneK, HH.out, E.out]) (by simp [GP.oneB, HH.out, E.out]), 0, rfl⟩
  · have q63 : ((x.toNat : Int) == 63) = false := beq_eq_false_iff_ne.mpr x63
    have E : Hid (x ≠ 63) := Lib.hid (toNat_ne (k := 63) (by omega) q63)
    by_cases k0 : 0 < k
    · have ke : setR p.data.toList = (k : Int) := by unfold setR; rw [hk, if_neg (by omega)]
      have k3 : 3 ≤ k := HB3.out k0
      go_enter Try.func21, Try.ntmps21
      go_wp2_with (go_at_call 28; refine (rset _ _ hp).mono ?_; rintro e w' ⟨rfl, n1, rfl⟩)
      · have q : ((x.toNat : Int) == 92) = true := by assumption
        have hz : 1 < p.size := by first | omega | assumption
        go_quiet (fail)
        go_wp2
        go_ret2
        have F : x = 92 := toNat_eq (k := 92) (by omega) q
        have hz' : 1 < p.data.toList.length := by have := HE.out; omega
        exact ⟨first_res p c 2 _ (by simp only [GP.oneK, HH.out, F, hz', if_true]) (by simp only [GP.oneB, HH.out, F, hz', if_true]; rw [getD_get p 1 (by omega), u8_beq]; rfl), _, by first | rfl | exact World.drewN_drewN _ _ _⟩
      · have q : ((x.toNat : Int) == 92) = false := by assumption
        have q' : ((x.toNat : Int) == 91) = true := by assumption
        refine (rin _ c _ (by omega) (by omega)).mono ?_
        rintro e w' ⟨rfl, n2, rfl⟩
        go_wp2
        go_ret2
        have F : x = 91 := toNat_eq (k := 91) (by omega) q'
        exact ⟨first_res p c k _ (by simp [GP.oneK, HH.out, F, hk, k0]) (by simp [GP.oneB, HH.out, F, hk, k0]), _, by first | rfl | exact World.drewN_drewN _ _ _⟩
      · have q : ((x.toNat : Int) == 92) = false := by assumption
        have q' : ((x.toNat : Int) == 91) = false := by assumption
        go_quiet (fail)
        go_wp2
        go_ret2
        have F : x ≠ 92 := toNat_ne (k := 92) (by omega) q
        have G : x ≠ 91 := toNat_ne (k := 91) (by omega) q'
        exact ⟨first_res p c 1 _ (by simp [GP.oneK, HH.out, F, G]) (by rw [HC.out]; simp [GP.oneB, HH.out, F, G, E.out]), _, by first | rfl | exact World.drewN_drewN _ _ _⟩
    · have ke : setR p.data.toList = -1 := by unfold setR; rw [hk, if_pos (by omega)]
      go_enter Try.func21, Try.ntmps21
      go_wp2_with (go_at_call 28; refine (rset _ _ hp).mono ?_; rintro e w' ⟨rfl, n1, rfl⟩)
      · have q : ((x.toNat : Int) == 92) = true := by assumption
        have hz : 1 < (p.size : Int) := by assumption
        go_quiet (fail)
        go_wp2
        go_ret2
        have F : x = 92 := toNat_eq (k := 92) (by omega) q
        have hz' : 1 < p.data.toList.length := by have := HE.out; omega
        exact ⟨first_res p c 2 _ (by simp only [GP.oneK, HH.out, F, hz', if_true]) (by simp only [GP.oneB, HH.out, F, hz', if_true]; rw [getD_get p 1 (by omega), u8_beq]; rfl), _, by first | rfl | exact World.drewN_drewN _ _ _⟩
      · have q : ((x.toNat : Int) == 92) = true := by assumption
        have hz : (p.size : Int) ≤ 1 := by assumption
        go_quiet (fail)
        go_wp2
        go_ret2
        have F : x = 92 := toNat_eq (k := 92) (by omega) q
        have hz' : ¬ 1 < p.data.toList.length := by have := HE.out; omega
        exact ⟨first_res p c 1 _ (by simp only [GP.oneK, HH.out, F, hz', if_true, if_false]) (by rw [HC.out]; simp only [GP.oneB, HH.out, F, hz', if_true, if_false]; rfl), _, by first | rfl | exact World.drewN_drewN _ _ _⟩
      · have q : ((x.toNat : Int) == 92) = false := by assumption
        have q' : ((x.toNat : Int) == 91) = true := by assumption
        go_quiet (fail)
        go_wp2
        go_ret2
        have F : x = 91 := toNat_eq (k := 91) (by omega) q'
        exact ⟨first_res p c 1 _ (by simp [GP.oneK, HH.out, F, hk, k0]) (by rw [HC.out]; simp [GP.oneB, HH.out, F, hk, k0]), _, by first | rfl | exact World.drewN_drewN _ _ _⟩
      · have q : ((x.toNat : Int) == 92) = false := by assumption
        have q' : ((x.toNat : Int) == 91) = false := by assumption
        go_quiet (fail)
        go_wp2
        go_ret2
        have F : x ≠ 92 := toNat_ne (k := 92) (by omega) q
        have G : x ≠ 91 := toNat_ne (k := 91) (by omega) q'
        exact ⟨first_res p c 1 _ (by simp [GP.oneK, HH.out, F, G]) (by rw [HC.out]; simp [GP.oneB, HH.out, F, G, E.out]), _, by first | rfl | exact World.drewN_drewN _ _ _⟩
end Go.Proofs.Ytcailjmcjgpfmaa
