/- What stands in place of a match, and a quoted text; walked. -/
import Derived.Test.YtnjpdhekeffpnaaRxF
import Derived.Test.YtnjpdhekeffpnaaBld
import Derived.Test.YtnjpdhekeffpnaaBld2
set_option linter.unusedVariables false
set_option linter.unusedSimpArgs false
namespace Go.Proofs.Ytnjpdhekeffpnaa.Rx
open Go.RowKit Go.Proofs.YtnjpdhekeffpnaaW.PrintWords Go.Proofs.YtnjpdhekeffpnaaW.PrintLast Go.Proofs.YtnjpdhekeffpnaaW.PrintMore

/-- what stands in place of a match -/
def putL (m : List UInt8) : List UInt8 → List UInt8
  | [] => []
  | [c] => if c = 38 then m else [c]
  | c :: d :: r => if c = 38 then m ++ putL m (d :: r) else if c = 92 then d :: putL m r else c :: putL m (d :: r)
theorem putL_amp (m r : List UInt8) : putL m (38 :: r) = m ++ putL m r := by
  cases r with
  | nil => simp [putL]
  | cons d r => simp [putL]
theorem putL_esc (m r : List UInt8) (d : UInt8) : putL m (92 :: d :: r) = d :: putL m r := by simp [putL]
theorem putL_one (m r : List UInt8) (c : UInt8) (h : c ≠ 38) (h2 : c ≠ 92 ∨ r = []) : putL m (c :: r) = c :: putL m r := by
  cases r with
  | nil => conv => lhs; rw [putL]
           rw [if_neg h]; rfl
  | cons d r =>
    rcases h2 with h2 | h2
    · conv => lhs; rw [putL]
      rw [if_neg h, if_neg h2]
    · cases h2
def specialL : List UInt8 := [46, 94, 36, 42, 43, 63, 124, 40, 41, 91, 93, 92]
def isSp (c : UInt8) : Bool := decide (0 ≤ Lib.indexByte specialL c)
/-- a quoted text -/
def quoteL (l : List UInt8) : List UInt8 := l.flatMap fun c => if isSp c then [92, c] else [c]
theorem drop_at (s : ByteArray) (k : Nat) (h : k < s.size) : s.data.toList.drop k = s[k] :: s.data.toList.drop (k + 1) := by
  have h' : k < s.data.toList.length := by rw [Array.length_toList]; exact h
  rw [List.drop_eq_getElem_cons h']; rfl
theorem drop_end (s : ByteArray) (k : Nat) (h : s.size ≤ k) : s.data.toList.drop k = [] := List.drop_of_length_le (by rw [Array.length_toList]; exact h)
set_option maxHeartbeats 4000000 in
set_option maxRecDepth 1000000 in
theorem quoteW (w : World) (s : ByteArray) (hs : s.size ≤ 1000000) :
    Calls Try.prog 21 #[.string s] w fun e w' => e = .returned (.string ⟨(quoteL s.data.toList).toArray⟩) ∧ Below w.heap.size w w' := by
  obtain ⟨B, hB⟩ : ∃ B, w.heap.size = B := ⟨_, rfl⟩
  go_enter Try.func21, Try.ntmps21
  go_wp2
  go_loopg [7] (s.size + 1) (fun kq v7 wr => ∃ (k : Nat) (acc : List UInt8), v7 = .int .i64 (k : Int) ∧ Aside0 (k + kq = s.size + 1 ∧ 1 ≤ kq) ∧ Aside0 (quoteL s.data.toList = acc ++ quoteL (s.data.toList.drop k) ∧ acc.length ≤ 2 * k) ∧ Aside0 (Bld B B acc wr) ∧ Aside0 (Below B w wr) ∧ Aside0 (B ≤ wr.heap.size))
  case atStart =>
    subst hB
    exact ⟨0, [], rfl, ⟨by omega, by omega⟩, ⟨by simp, by simp⟩, ⟨Bld.fresh w⟩, ⟨(Below.refl _ _).alloc (Nat.le_refl _) _⟩, ⟨by simp⟩⟩
  case round =>
    obtain ⟨k, acc, rfl, HI, HQ, HB, HW, HS⟩ := hrel
    obtain ⟨z, hz⟩ : ∃ z : Int, (k : Int) = z := ⟨_, rfl⟩
    rw [hz]
    have HZ := Aside0.mk hz
    by_cases hk : k < s.size
    · have d0 : decide (z < (s.size : Int)) = true := decide_eq_true (by omega)
      have d1 : z < (s.size : Int) := by omega
      have d2 : 0 ≤ z := by omega
      have d3 : z + 1 < 9223372036854775808 := by omega
      have hat : z.toNat < s.size := by omega
      obtain ⟨ko, rfl⟩ : ∃ ko, gk = ko + 1 := ⟨gk - 1, by have := HI.out; omega⟩
      have hkz : k = z.toNat := by omega
      obtain ⟨c, hc⟩ : ∃ c, s[z.toNat]'hat = c := ⟨_, rfl⟩
      have hd : s.data.toList.drop k = c :: s.data.toList.drop (k + 1) := by rw [drop_at s k hk, ← hc]; simp only [hkz]
      have hq := HQ.out.1
      rw [hd] at hq
      have hix := Try.strings_IndexByte ⟨#[46, 94, 36, 42, 43, 63, 124, 40, 41, 91, 93, 92]⟩ (((s[z.toNat]'hat).toNat : Nat) : Int)
      rw [show Lib.indexByte (⟨#[46, 94, 36, 42, 43, 63, 124, 40, 41, 91, 93, 92]⟩ : ByteArray).data.toList ((((s[z.toNat]'hat).toNat : Nat) : Int).toNat.toUInt8) = Lib.indexByte specialL c by rw [hc]; simp [specialL]] at hix
      obtain ⟨I, hI⟩ : ∃ I, Lib.indexByte specialL c = I := ⟨_, rfl⟩
      rw [hI] at hix
      have HC := Aside0.mk (⟨hc, hI, hk⟩ : s[z.toNat]'hat = c ∧ Lib.indexByte specialL c = I ∧ k < s.size)
      have hal := HQ.out.2
      have HK := Aside0.mk hkz
      clear hd hc hk hz hkz
      by_cases hi : 0 ≤ I
      · have d4 : decide (I ≥ 0) = true := decide_eq_true hi
        have hq2 : quoteL s.data.toList = (acc ++ [92] ++ [c]) ++ quoteL (s.data.toList.drop (k + 1)) := by
          rw [hq, quoteL, List.flatMap_cons, if_pos (show isSp c = true by rw [isSp, HC.out.2.1]; exact decide_eq_true hi)]
          simp [quoteL]
        have HQ2 := Aside0.mk hq2
        clear hq hq2 hI
        go_wp2_with (first | (go_at_call 36; refine (hix _).mono ?_; rintro e w' ⟨rfl, rfl⟩) | fail)
        refine (Bld.writeLit B B _ 92 92 rfl _ HB.out (by have := HC.out.2.2; omega) HS.out).mono ?_
        rintro e w1 ⟨rfl, hbld1, hbel1, -⟩
        have hsz1 : B ≤ w1.heap.size := Nat.le_trans HS.out hbel1.size
        go_wp2_with (fail)
        have h2 := Bld.writeByte B B _ (s[z.toNat]'hat) w1 hbld1 (by have := HC.out.2.2; simp; omega) hsz1
        refine h2.mono ?_
        rintro e w2 ⟨rfl, hbld2, hbel2, -⟩
        have hsz2 : B ≤ w2.heap.size := Nat.le_trans hsz1 hbel2.size
        rw [HC.out.1] at hbld2
        go_wp2_with (fail)
        go_roundg ko
        case measure => have := HI.out; omega
        case rel => exact ⟨k + 1, _, by rw [← HZ.out]; rfl, ⟨by have := HI.out; omega, by have := HI.out; have := HC.out.2.2; omega⟩, ⟨HQ2.out, by simp; omega⟩, ⟨hbld2⟩, ⟨(HW.out.trans hbel1).trans hbel2⟩, ⟨hsz2⟩⟩
      · have d4 : decide (I ≥ 0) = false := decide_eq_false hi
        have hq2 : quoteL s.data.toList = (acc ++ [c]) ++ quoteL (s.data.toList.drop (k + 1)) := by
          rw [hq, quoteL, List.flatMap_cons, if_neg (show ¬ isSp c = true by rw [isSp, HC.out.2.1]; simpa using hi)]
          simp [quoteL]
        have HQ2 := Aside0.mk hq2
        clear hq hq2 hI hi
        go_wp2_with (first | (go_at_call 36; refine (hix _).mono ?_; rintro e w' ⟨rfl, rfl⟩) | fail)
        have h2 := Bld.writeByte B B _ (s[z.toNat]'hat) _ HB.out (by have := HC.out.2.2; omega) HS.out
        refine h2.mono ?_
        rintro e w2 ⟨rfl, hbld2, hbel2, -⟩
        have hsz2 : B ≤ w2.heap.size := Nat.le_trans HS.out hbel2.size
        rw [HC.out.1] at hbld2
        go_wp2_with (fail)
        go_roundg ko
        case measure => have := HI.out; omega
        case rel => exact ⟨k + 1, _, by rw [← HZ.out]; rfl, ⟨by have := HI.out; omega, by have := HI.out; have := HC.out.2.2; omega⟩, ⟨HQ2.out, by simp; omega⟩, ⟨hbld2⟩, ⟨HW.out.trans hbel2⟩, ⟨hsz2⟩⟩
    · have d0 : decide (z < (s.size : Int)) = false := decide_eq_false (by omega)
      have hq := HQ.out.1
      rw [drop_end s k (by omega)] at hq
      have HQ2 := Aside0.mk hq
      clear hq hk hz
      go_wp2_with (fail)
      refine (Bld.string B B _ _ HB.out HS.out).mono ?_
      rintro e w2 ⟨rfl, hbel2⟩
      go_wp2_with (fail)
      go_ret
      exact ⟨by rw [HQ2.out]; simp [quoteL], hB ▸ HW.out.trans hbel2⟩
theorem putL_len (m : List UInt8) : ∀ l : List UInt8, (putL m l).length ≤ l.length * (m.length + 1) := by
  intro l
  induction l using putL.induct with
  | case1 => simp [putL]
  | case2 => simp [putL]
  | case3 c h => rw [putL, if_neg h]; simp
  | case4 d r ih =>
    rw [putL_amp, List.length_append, List.length_cons, Nat.succ_mul]; omega
  | case5 d r h ih =>
    rw [putL_esc, List.length_cons, List.length_cons, List.length_cons, Nat.succ_mul, Nat.succ_mul]; omega
  | case6 c d r h h2 ih =>
    rw [putL_one _ _ _ h (.inl h2), List.length_cons, List.length_cons, Nat.succ_mul]; omega
set_option maxHeartbeats 8000000 in
set_option maxRecDepth 1000000 in
theorem putW (w : World) (s m : ByteArray) (hs : s.size ≤ 1000000) (hm : m.size ≤ 1000000) :
    Calls Try.prog 33 #[.string s, .string m] w fun e w' => e = .returned (.string ⟨(putL m.data.toList s.data.toList).toArray⟩) ∧ Below w.heap.size w w' := by
  obtain ⟨B, hB⟩ : ∃ B, w.heap.size = B := ⟨_, rfl⟩
  go_enter Try.func33, Try.ntmps33
  go_wp2
  go_loopg [6] (s.size + 1) (fun kq v6 wr => ∃ (k : Nat) (acc : List UInt8), v6 = .int .i64 (k : Int) ∧ Aside0 (k + kq = s.size + 1 ∧ 1 ≤ kq) ∧ Aside0 (putL m.data.toList s.data.toList = acc ++ putL m.data.toList (s.data.toList.drop k) ∧ acc.length ≤ 1000001 * k) ∧ Aside0 (Bld B B acc wr) ∧ Aside0 (Below B w wr) ∧ Aside0 (B ≤ wr.heap.size))
  case atStart =>
    subst hB
    exact ⟨0, [], rfl, ⟨by omega, by omega⟩, ⟨by simp, by simp⟩, ⟨Bld.fresh w⟩, ⟨(Below.refl _ _).alloc (Nat.le_refl _) _⟩, ⟨by simp⟩⟩
  case round =>
    obtain ⟨k, acc, rfl, HI, HQ, HB, HW, HS⟩ := hrel
    obtain ⟨z, hz⟩ : ∃ z : Int, (k : Int) = z := ⟨_, rfl⟩
    rw [hz]
    have HZ := Aside0.mk hz
    by_cases hk : k < s.size
    · have d0 : decide (z < (s.size : Int)) = true := decide_eq_true (by omega)
      have d1 : z < (s.size : Int) := by omega
      have d2 : 0 ≤ z := by omega
      have d3 : z + 1 < 9223372036854775808 := by omega
      have hat : z.toNat < s.size := by omega
      obtain ⟨ko, rfl⟩ : ∃ ko, gk = ko + 1 := ⟨gk - 1, by have := HI.out; omega⟩
      have hkz : k = z.toNat := by omega
      obtain ⟨c, hc⟩ : ∃ c, s[z.toNat]'hat = c := ⟨_, rfl⟩
      have hd : s.data.toList.drop k = c :: s.data.toList.drop (k + 1) := by rw [drop_at s k hk, ← hc]; simp only [hkz]
      have hq := HQ.out.1
      rw [hd] at hq
      have HC := Aside0.mk (⟨hc, hkz, hk⟩ : s[z.toNat]'hat = c ∧ k = z.toNat ∧ k < s.size)
      have hal := HQ.out.2
      have hmt : m.data.toList.length = m.size := Array.length_toList
      have HM := Aside0.mk hmt
      clear hd hc hz hkz hk hmt
      by_cases h1 : c = 38
      · have d4 : (((s[z.toNat]'hat).toNat : Nat) : Int) = 38 := by rw [HC.out.1, h1]; rfl
        rw [h1, putL_amp] at hq
        have HQ2 := Aside0.mk hq
        clear hq h1
        go_wp2_with (fail)
        refine (Bld.writeString B B _ m _ HB.out (by have := HC.out.2.2; omega) HS.out).mono ?_
        rintro e w1 ⟨rfl, hbld1, hbel1, -⟩
        have hsz1 : B ≤ w1.heap.size := Nat.le_trans HS.out hbel1.size
        go_wp2_with (fail)
        go_roundg ko
        case measure => have := HI.out; omega
        case rel => exact ⟨k + 1, _, by rw [← HZ.out]; rfl, ⟨by have := HI.out; omega, by have := HI.out; have := HC.out.2.2; omega⟩, ⟨by rw [HQ2.out, List.append_assoc], by rw [List.length_append, HM.out]; omega⟩, ⟨hbld1⟩, ⟨HW.out.trans hbel1⟩, ⟨hsz1⟩⟩
      · have d4 : ((((s[z.toNat]'hat).toNat : Nat) : Int) == 38) = false := beq_false_of_ne (fun e => h1 (by rw [← HC.out.1]; exact UInt8.toNat_inj.1 (by have h38 : UInt8.toNat 38 = 38 := rfl; omega)))
        by_cases h2 : c = 92
        · have d5 : (((s[z.toNat]'hat).toNat : Nat) : Int) = 92 := by rw [HC.out.1, h2]; rfl
          clear d4
          by_cases h3 : k + 1 < s.size
          · have d6 : decide (z + 1 < (s.size : Int)) = true := decide_eq_true (by have := HZ.out; omega)
            have d7 : z + 1 < (s.size : Int) := by have := HZ.out; omega
            have d8 : 0 ≤ z + 1 := by omega
            have d9 : z + 1 + 1 < 9223372036854775808 := by omega
            have hat2 : (z + 1).toNat < s.size := by omega
            obtain ⟨d, hdd⟩ : ∃ d, s[(z + 1).toNat]'hat2 = d := ⟨_, rfl⟩
            have hd2 : s.data.toList.drop (k + 1) = d :: s.data.toList.drop (k + 2) := by rw [drop_at s (k + 1) h3, ← hdd]; simp only [show (z + 1).toNat = k + 1 by have := HZ.out; omega]
            rw [h2, hd2, putL_esc] at hq
            have HQ2 := Aside0.mk hq
            have HD := Aside0.mk (⟨hdd, h3⟩ : s[(z + 1).toNat]'hat2 = d ∧ k + 1 < s.size)
            clear hq h1 h2 h3 hdd hd2
            obtain ⟨ko2, rfl⟩ : ∃ ko2, ko = ko2 + 1 := ⟨ko - 1, by have := HI.out; have := HD.out.2; omega⟩
            go_wp2_with (fail)
            have hw := Bld.writeByte B B _ (s[(z + 1).toNat]'hat2) _ HB.out (by have := HC.out.2.2; omega) HS.out
            refine hw.mono ?_
            rintro e w1 ⟨rfl, hbld1, hbel1, -⟩
            have hsz1 : B ≤ w1.heap.size := Nat.le_trans HS.out hbel1.size
            rw [HD.out.1] at hbld1
            go_wp2_with (fail)
            go_roundg ko2
            case measure => have := HI.out; omega
            case rel => exact ⟨k + 2, _, by rw [← HZ.out]; simp; omega, ⟨by have := HI.out; omega, by have := HI.out; have := HD.out.2; omega⟩, ⟨by rw [HQ2.out]; simp, by simp; omega⟩, ⟨hbld1⟩, ⟨HW.out.trans hbel1⟩, ⟨hsz1⟩⟩
          · have d6 : decide (z + 1 < (s.size : Int)) = false := decide_eq_false (by have := HZ.out; omega)
            have hnil := drop_end s (k + 1) (by omega)
            rw [putL_one _ _ _ h1 (.inr hnil)] at hq
            have HQ2 := Aside0.mk hq
            clear hq h1 h2 h3 hnil
            go_wp2_with (fail)
            have hw := Bld.writeByte B B _ (s[z.toNat]'hat) _ HB.out (by have := HC.out.2.2; omega) HS.out
            rw [show ((((s[z.toNat]'hat).toNat : Nat) : Int)) = 92 from d5] at hw
            refine hw.mono ?_
            rintro e w1 ⟨rfl, hbld1, hbel1, -⟩
            have hsz1 : B ≤ w1.heap.size := Nat.le_trans HS.out hbel1.size
            rw [HC.out.1] at hbld1
            go_wp2_with (fail)
            go_roundg ko
            case measure => have := HI.out; omega
            case rel => exact ⟨k + 1, _, by rw [← HZ.out]; rfl, ⟨by have := HI.out; omega, by have := HI.out; have := HC.out.2.2; omega⟩, ⟨by rw [HQ2.out]; simp, by simp; omega⟩, ⟨hbld1⟩, ⟨HW.out.trans hbel1⟩, ⟨hsz1⟩⟩
        · have d5 : ((((s[z.toNat]'hat).toNat : Nat) : Int) == 92) = false := beq_false_of_ne (fun e => h2 (by rw [← HC.out.1]; exact UInt8.toNat_inj.1 (by have h92 : UInt8.toNat 92 = 92 := rfl; omega)))
          rw [putL_one _ _ _ h1 (.inl h2)] at hq
          have HQ2 := Aside0.mk hq
          clear hq h1 h2
          go_wp2_with (fail)
          have hw := Bld.writeByte B B _ (s[z.toNat]'hat) _ HB.out (by have := HC.out.2.2; omega) HS.out
          refine hw.mono ?_
          rintro e w1 ⟨rfl, hbld1, hbel1, -⟩
          have hsz1 : B ≤ w1.heap.size := Nat.le_trans HS.out hbel1.size
          rw [HC.out.1] at hbld1
          go_wp2_with (fail)
          go_roundg ko
          case measure => have := HI.out; omega
          case rel => exact ⟨k + 1, _, by rw [← HZ.out]; rfl, ⟨by have := HI.out; omega, by have := HI.out; have := HC.out.2.2; omega⟩, ⟨by rw [HQ2.out]; simp, by simp; omega⟩, ⟨hbld1⟩, ⟨HW.out.trans hbel1⟩, ⟨hsz1⟩⟩
    · have d0 : decide (z < (s.size : Int)) = false := decide_eq_false (by omega)
      have hq := HQ.out.1
      rw [drop_end s k (by omega)] at hq
      have HQ2 := Aside0.mk hq
      clear hq hk hz
      go_wp2_with (fail)
      refine (Bld.string B B _ _ HB.out HS.out).mono ?_
      rintro e w2 ⟨rfl, hbel2⟩
      go_wp2_with (fail)
      go_ret
      exact ⟨by rw [HQ2.out]; simp [putL], hB ▸ HW.out.trans hbel2⟩
end Go.Proofs.Ytnjpdhekeffpnaa.Rx
