/- What stands in place of a match, and a quoted text; walked. -/
import Derived.Test.YtnjpdhekeffpnaaRxM
import Derived.Test.YtnjpdhekeffpnaaBld
import Derived.Test.YtnjpdhekeffpnaaBld2
set_option linter.unusedVariables false
set_option linter.unusedSimpArgs false
namespace Go.Proofs.Ytnjpdhekeffpnaa.Rx
open Go.RowKit Go.Proofs.YtnjpdhekeffpnaaW.PrintWords Go.Proofs.YtnjpdhekeffpnaaW.PrintLast Go.Proofs.YtnjpdhekeffpnaaW.PrintMore

/-- what stands in place of a match -/
def putL (m : List UInt8) : List UInt8 → List UInt8
  | [] => []
  | [c] => if c = 38 then m else [c]
  | c :: d :: r => if c = 38 then m ++ putL m (d :: r) else if c = 92 then d :: putL m r else c :: putL m (d :: r)
theorem putL_amp (m r : List UInt8) : putL m (38 :: r) = m ++ putL m r := by
  cases r with
  | nil => simp [putL]
  | cons d r => simp [putL]
theorem putL_esc (m r : List UInt8) (d : UInt8) : putL m (92 :: d :: r) = d :: putL m r := by simp [putL]
theorem putL_one (m r : List UInt8) (c : UInt8) (h : c ≠ 38) (h2 : c ≠ 92 ∨ r = []) : putL m (c :: r) = c :: putL m r := by
  cases r with
  | nil => conv => lhs; rw [putL]
           rw [if_neg h]; rfl
  | cons d r =>
    rcases h2 with h2 | h2
    · conv => lhs; rw [putL]
      rw [if_neg h, if_neg h2]
    · cases h2
def specialL : List UInt8 := [46, 94, 36, 42, 43, 63, 124, 40, 41, 91, 93, 92]
def isSp (c : UInt8) : Bool := decide (0 ≤ Lib.indexByte specialL c)
/-- a quoted text -/
def quoteL (l : List UInt8) : List UInt8 := l.flatMap fun c => if isSp c then [92, c] else [c]
theorem drop_at (s : ByteArray) (k : Nat) (h : k < s.size) : s.data.toList.drop k = s[k] :: s.data.toList.drop (k + 1) := by
  have h' : k < s.data.toList.length := by rw [Array.length_toList]; exact h
  rw [List.drop_eq_getElem_cons h']; rfl
theorem drop_end (s : ByteArray) (k : Nat) (h : s.size ≤ k) : s.data.toList.drop k = [] := List.drop_of_length_le (by rw [Array.length_toList]; exact h)
set_option maxHeartbeats 4000000 in
set_option maxRecDepth 1000000 in
theorem quoteW (w : World) (s : ByteArray) (hs : s.size ≤ 1000000) :
    Calls Try.prog 21 #[.string s] w fun e w' => e = .returned (.string ⟨(quoteL s.data.toList).toArray⟩) ∧ Below w.heap.size w w' := by
  obtain ⟨B, hB⟩ : ∃ B, w.heap.size = B := ⟨_, rfl⟩
  go_enter Try.func21, Try.ntmps21
  go_wp2
  go_loopg [7] (s.size + 1) (fun kq v7 wr => ∃ (k : Nat) (acc : List UInt8), v7 = .int .i64 (k : Int) ∧ Aside0 (k + kq = s.size + 1 ∧ 1 ≤ kq) ∧ Aside0 (quoteL s.data.toList = acc ++ quoteL (s.data.toList.drop k) ∧ acc.length ≤ 2 * k) ∧ Aside0 (Bld B B acc wr) ∧ Aside0 (Below B w wr) ∧ Aside0 (B ≤ wr.heap.size))
  case atStart =>
    subst hB
    exact ⟨0, [], rfl, ⟨by omega, by omega⟩, ⟨by simp, by simp⟩, ⟨Bld.fresh w⟩, ⟨(Below.refl _ _).alloc (Nat.le_refl _) _⟩, ⟨by simp⟩⟩
  case round =>
    obtain ⟨k, acc, rfl, HI, HQ, HB, HW, HS⟩ := hrel
    obtain ⟨z, hz⟩ : ∃ z : Int, (k : Int) = z := ⟨_, rfl⟩
    rw [hz]
    have HZ := Aside0.mk hz
    by_cases hk : k < s.size
    · have d0 : decide (z < (s.size : Int)) = true := decide_eq_true (by omega)
      have d1 : z < (s.size : Int) := by omega
      have d2 : 0 ≤ z := by omega
      have d3 : z + 1 < 9223372036854775808 := by omega
      have hat : z.toNat < s.size := by omega
      obtain ⟨ko, rfl⟩ : ∃ ko, gk = ko + 1 := ⟨gk - 1, by have := HI.out; omega⟩
      have hkz : k = z.toNat := by omega
      obtain ⟨c, hc⟩ : ∃ c, s[z.toNat]'hat = c := ⟨_, rfl⟩
      have hd : s.data.toList.drop k = c :: s.data.toList.drop (k + 1) := by rw [drop_at s k hk, ← hc]; simp only [hkz]
      have hq := HQ.out.1
      rw [hd] at hq
      have hix := Try.strings_IndexByte ⟨#[46, 94, 36, 42, 43, 63, 124, 40, 41, 91, 93, 92]⟩ (((s[z.toNat]'hat).toNat : Nat) : Int)
      rw [show Lib.indexByte (⟨#[46, 94, 36, 42, 43, 63, 124, 40, 41, 91, 93, 92]⟩ : ByteArray).data.toList ((((s[z.toNat]'hat).toNat : Nat) : Int).toNat.toUInt8) = Lib.indexByte specialL c by rw [hc]; simp [specialL]] at hix
      obtain ⟨I, hI⟩ : ∃ I, Lib.indexByte specialL c = I := ⟨_, rfl⟩
      rw [hI] at hix
      have HC := Aside0.mk (⟨hc, hI, hk⟩ : s[z.toNat]'hat = c ∧ Lib.indexByte specialL c = I ∧ k < s.size)
      have hal := HQ.out.2
      have HK := Aside0.mk hkz
      clear hd hc hk hz hkz
      by_cases hi : 0 ≤ I
      · have d4 : decide (I ≥ 0) = true := decide_eq_true hi
        have hq2 : quoteL s.data.toList = (acc ++ [92] ++ [c]) ++ quoteL (s.data.toList.drop (k + 1)) := by
          rw [hq, quoteL, List.flatMap_cons, if_pos (show isSp c = true by rw [isSp, HC.out.2.1]; exact decide_eq_true hi)]
          simp [quoteL]
        have HQ2 := Aside0.mk hq2
        clear hq hq2 hI
        go_wp2_with (first | (go_at_call 36; refine (hix _).mono ?_; rintro e w' ⟨rfl, rfl⟩) | fail)
        refine (Bld.writeLit B B _ 92 92 rfl _ HB.out (by have := HC.out.2.2; omega) HS.out).mono ?_
        rintro e w1 ⟨rfl, hbld1, hbel1, -⟩
        have hsz1 : B ≤ w1.heap.size := Nat.le_trans HS.out hbel1.size
        go_wp2_with (fail)
        have h2 := Bld.writeByte B B _ (s[z.toNat]'hat) w1 hbld1 (by have := HC.out.2.2; simp; omega) hsz1
        refine h2.mono ?_
        rintro e w2 ⟨rfl, hbld2, hbel2, -⟩
        have hsz2 : B ≤ w2.heap.size := Nat.le_trans hsz1 hbel2.size
        rw [HC.out.1] at hbld2
        go_wp2_with (fail)
        go_roundg ko
        case measure => have := HI.out; omega
        case rel => exact ⟨k + 1, _, by rw [← HZ.out]; rfl, ⟨by have := HI.out; omega, by have := HI.out; have := HC.out.2.2; omega⟩, ⟨HQ2.out, by simp; omega⟩, ⟨hbld2⟩, ⟨(HW.out.trans hbel1).trans hbel2⟩, ⟨hsz2⟩⟩
      · have d4 : decide (I ≥ 0) = false := decide_eq_false hi
        have hq2 : quoteL s.data.toList = (acc ++ [c]) ++ quoteL (s.data.toList.drop (k + 1)) := by
          rw [hq, quoteL, List.flatMap_cons, if_neg (show ¬ isSp c = true by rw [isSp, HC.out.2.1]; simpa using hi)]
          simp [quoteL]
        have HQ2 := Aside0.mk hq2
        clear hq hq2 hI hi
        go_wp2_with (first | (go_at_call 36; refine (hix _).mono ?_; rintro e w' ⟨rfl, rfl⟩) | fail)
        have h2 := Bld.writeByte B B _ (s[z.toNat]'hat) _ HB.out (by have := HC.out.2.2; omega) HS.out
        refine h2.mono ?_
        rintro e w2 ⟨rfl, hbld2, hbel2, -⟩
        have hsz2 : B ≤ w2.heap.size := Nat.le_trans HS.out hbel2.size
        rw [HC.out.1] at hbld2
        go_wp2_with (fail)
        go_roundg ko
        case measure => have := HI.out; omega
        case rel => exact ⟨k + 1, _, by rw [← HZ.out]; rfl, ⟨by have := HI.out; omega, by have := HI.out; have := HC.out.2.2; omega⟩, ⟨HQ2.out, by simp; omega⟩, ⟨hbld2⟩, ⟨HW.out.trans hbel2⟩, ⟨hsz2⟩⟩
    · have d0 : decide (z < (s.size : Int)) = false := decide_eq_false (by omega)
      have hq := HQ.out.1
      rw [drop_end s k (by omega)] at hq
      have HQ2 := Aside0.mk hq
      clear hq hk hz
      go_wp2_with (fail)
      refine (Bld.string B B _ _ HB.out HS.out).mono ?_
      rintro e w2 ⟨rfl, hbel2⟩
      go_wp2_with (fail)
      go_ret
      exact ⟨by rw [HQ2.out]; simp [quoteL], hB ▸ HW.out.trans hbel2⟩
theorem putL_len (m : List UInt8) : ∀ l : List UInt8, (putL m l).length ≤ l.length * (m.length + 1) := by
  intro l
  induction l using putL.induct with
  | case1 => simp [putL]
  | case2 => simp [putL]
  | case3 c h => rw [putL, if_neg h]; simp
  | case4 d r ih =>
    rw [putL_amp, List.length_append, List.length_cons, Nat.succ_mul]; omega
  | case5 d r h ih =>
    rw [putL_esc, List.length_cons, List.length_cons, List.length_cons, Nat.succ_mul, Nat.succ_mul]; omega
  | case6 c d r h h2 ih =>
    rw [putL_one _ _ _ h (.inl h2), List.length_cons, List.length_cons, Nat.succ_mul]; omega
set_option maxHeartbeats 8000000 in
set_option maxRecDepth 1000000 in
theorem putW (w : World) (s m : ByteArray) (hs : s.size ≤ 1000000) (hm : m.size ≤ 1000000) :
    Calls Try.prog 33 #[.string s, .string m] w fun e w' => e = .returned (.string ⟨(putL m.data.toList s.data.toList).toArray⟩) ∧ Below w.heap.size w w' := by
  obtain ⟨B, hB⟩ : ∃ B, w.heap.size = B := ⟨_, rfl⟩
  go_enter Try.func33, Try.ntmps33
  go_wp2
  go_loopg [6] (s.size + 1) (fun kq v6 wr => ∃ (k : Nat) (acc : List UInt8), v6 = .int .i64 (k : Int) ∧ Aside0 (k + kq = s.size + 1 ∧ 1 ≤ kq) ∧ Aside0 (putL m.data.toList s.data.toList = acc ++ putL m.data.toList (s.data.toList.drop k) ∧ acc.length ≤ 1000001 * k) ∧ Aside0 (Bld B B acc wr) ∧ Aside0 (Below B w wr) ∧ Aside0 (B ≤ wr.heap.size))
  case atStart =>
    subst hB
    exact ⟨0, [], rfl, ⟨by omega, by omega⟩, ⟨by simp, by simp⟩, ⟨Bld.fresh w⟩, ⟨(Below.refl _ _).alloc (Nat.le_refl _) _⟩, ⟨by simp⟩⟩
  case round =>
    obtain ⟨k, acc, rfl, HI, HQ, HB, HW, HS⟩ := hrel
    obtain ⟨z, hz⟩ : ∃ z : Int, (k : Int) = z := ⟨_, rfl⟩
    rw [hz]
    have HZ := Aside0.mk hz
    by_cases hk : k < s.size
    · have d0 : decide (z < (s.size : Int)) = true := decide_eq_true (by omega)
      have d1 : z < (s.size : Int) := by omega
      have d2 : 0 ≤ z := by omega
      have d3 : z + 1 < 9223372036854775808 := by omega
      have hat : z.toNat < s.size := by omega
      obtain ⟨ko, rfl⟩ : ∃ ko, gk = ko + 1 := ⟨gk - 1, by have := HI.out; omega⟩
      have hkz : k = z.toNat := by omega
      obtain ⟨c, hc⟩ : ∃ c, s[z.toNat]'hat = c := ⟨_, rfl⟩
      have hd : s.data.toList.drop k = c :: s.data.toList.drop (k + 1) := by rw [drop_at s k hk, ← hc]; simp only [hkz]
      have hq := HQ.out.1
      rw [hd] at hq
      have HC := Aside0.mk (⟨hc, hkz, hk⟩ : s[z.toNat]'hat = c ∧ k = z.toNat ∧ k < s.size)
      have hal := HQ.out.2
      have hmt : m.data.toList.length = m.size := Array.length_toList
      have HM := Aside0.mk hmt
      clear hd hc hz hkz hk hmt
      by_cases h1 : c = 38
      · have d4 : (((s[z.toNat]'hat).toNat : Nat) : Int) = 38 := by rw [HC.out.1, h1]; rfl
        rw [h1, putL_amp] at hq
        have HQ2 := Aside0.mk hq
        clear hq h1
        go_wp2_with (fail)
        refine (Bld.writeString B B _ m _ HB.out (by have := HC.out.2.2; omega) HS.out).mono ?_
        rintro e w1 ⟨rfl, hbld1, hbel1, -⟩
        have hsz1 : B ≤ w1.heap.size := Nat.le_trans HS.out hbel1.size
        go_wp2_with (fail)
        go_roundg ko
        case measure => have := HI.out; omega
        case rel => exact ⟨k + 1, _, by rw [← HZ.out]; rfl, ⟨by have := HI.out; omega, by have := HI.out; have := HC.out.2.2; omega⟩, ⟨by rw [HQ2.out, List.append_assoc], by rw [List.length_append, HM.out]; omega⟩, ⟨hbld1⟩, ⟨HW.out.trans hbel1⟩, ⟨hsz1⟩⟩
      · have d4 : ((((s[z.toNat]'hat).toNat : Nat) : Int) == 38) = false := beq_false_of_ne (fun e => h1 (by rw [← HC.out.1]; exact UInt8.toNat_inj.1 (by have h38 : UInt8.toNat 38 = 38 := rfl; omega)))
        by_cases h2 : c = 92
        · have d5 : (((s[z.toNat]'hat).toNat : Nat) : Int) = 92 := by rw [HC.out.1, h2]; rfl
          clear d4
          by_cases h3 : k + 1 < s.size
          · have d6 : decide (z + 1 < (s.size : Int)) = true := decide_eq_true (by have := HZ.out; omega)
            have d7 : z + 1 < (s.size : Int) := by have := HZ.out; omega
            have d8 : 0 ≤ z + 1 := by omega
            have d9 : z + 1 + 1 < 9223372036854775808 := by omega
            have hat2 : (z + 1).toNat < s.size := by omega
            obtain ⟨d, hdd⟩ : ∃ d, s[(z + 1).toNat]'hat2 = d := ⟨_, rfl⟩
            have hd2 : s.data.toList.drop (k + 1) = d :: s.data.toList.drop (k + 2) := by rw [drop_at s (k + 1) h3, ← hdd]; simp only [show (z + 1).toNat = k + 1 by have := HZ.out; omega]
            rw [h2, hd2, putL_esc] at hq
            have HQ2 := Aside0.mk hq
            have HD := Aside0.mk (⟨hdd, h3⟩ : s[(z + 1).toNat]'hat2 = d ∧ k + 1 < s.size)
            clear hq h1 h2 h3 hdd hd2
            obtain ⟨ko2, rfl⟩ : ∃ ko2, ko = ko2 + 1 := ⟨ko - 1, by have := HI.out; have := HD.out.2; omega⟩
            go_wp2_with (fail)
            have hw := Bld.writeByte B B _ (s[(z + 1).toNat]'hat2) _ HB.out (by have := HC.out.2.2; omega) HS.out
            refine hw.mono ?_
            rintro e w1 ⟨rfl, hbld1, hbel1, -⟩
            have hsz1 : B ≤ w1.heap.size := Nat.le_trans HS.out hbel1.size
            rw [HD.out.1] at hbld1
            go_wp2_with (fail)
            go_roundg ko2
            case measure => have := HI.out; omega
            case rel => exact ⟨k + 2, _, by rw [← HZ.out]; simp; omega, ⟨by have := HI.out; omega, by have := HI.out; have := HD.out.2; omega⟩, ⟨by rw [HQ2.out]; simp, by simp; omega⟩, ⟨hbld1⟩, ⟨HW.out.trans hbel1⟩, ⟨hsz1⟩⟩
          · have d6 : decide (z + 1 < (s.size : Int)) = false := decide_eq_false (by have := HZ.out; omega)
            have hnil := drop_end s (k + 1) (by omega)
            rw [putL_one _ _ _ h1 (.inr hnil)] at hq
            have HQ2 := Aside0.mk hq
            clear hq h1 h2 h3 hnil
            go_wp2_with (fail)
            have hw := Bld.writeByte B B _ (s[z.toNat]'hat) _ HB.out (by have := HC.out.2.2; omega) HS.out
            rw [show ((((s[z.toNat]'hat).toNat : Nat) : Int)) = 92 from d5] at hw
            refine hw.mono ?_
            rintro e w1 ⟨rfl, hbld1, hbel1, -⟩
            have hsz1 : B ≤ w1.heap.size := Nat.le_trans HS.out hbel1.size
            rw [HC.out.1] at hbld1
            go_wp2_with (fail)
            go_roundg ko
            case measure => have := HI.out; omega
            case rel => exact ⟨k + 1, _, by rw [← HZ.out]; rfl, ⟨by have := HI.out; omega, by have := HI.out; have := HC.out.2.2; omega⟩, ⟨by rw [HQ2.out]; simp, by simp; omega⟩, ⟨hbld1⟩, ⟨HW.out.trans hbel1⟩, ⟨hsz1⟩⟩
        · have d5 : ((((s[z.toNat]'hat).toNat : Nat) : Int) == 92) = false := beq_false_of_ne (fun e => h2 (by rw [← HC.out.1]; exact UInt8.toNat_inj.1 (by have h92 : UInt8.toNat 92 = 92 := rfl; omega)))
          rw [putL_one _ _ _ h1 (.inl h2)] at hq
          have HQ2 := Aside0.mk hq
          clear hq h1 h2
          go_wp2_with (fail)
          have hw := Bld.writeByte B B _ (s[z.toNat]'hat) _ HB.out (by have := HC.out.2.2; omega) HS.out
          refine hw.mono ?_
          rintro e w1 ⟨rfl, hbld1, hbel1, -⟩
          have hsz1 : B ≤ w1.heap.size := Nat.le_trans HS.out hbel1.size
          rw [HC.out.1] at hbld1
          go_wp2_with (fail)
          go_roundg ko
          case measure => have := HI.out; omega
          case rel => exact ⟨k + 1, _, by rw [← HZ.out]; rfl, ⟨by have := HI.out; omega, by have := HI.out; have := HC.out.2.2; omega⟩, ⟨by rw [HQ2.out]; simp, by simp; omega⟩, ⟨hbld1⟩, ⟨HW.out.trans hbel1⟩, ⟨hsz1⟩⟩
    · have d0 : decide (z < (s.size : Int)) = false := decide_eq_false (by omega)
      have hq := HQ.out.1
      rw [drop_end s k (by omega)] at hq
      have HQ2 := Aside0.mk hq
      clear hq hk hz
      go_wp2_with (fail)
      refine (Bld.string B B _ _ HB.out HS.out).mono ?_
      rintro e w2 ⟨rfl, hbel2⟩
      go_wp2_with (fail)
      go_ret
      exact ⟨by rw [HQ2.out]; simp [putL], hB ▸ HW.out.trans hbel2⟩
end Go.Proofs.Ytnjpdhekeffpnaa.Rx
set_option linter.unusedVariables false
set_option linter.unusedSimpArgs false
namespace Go.Proofs.Ytnjpdhekeffpnaa.Rx
open Go.RowKit Go.Proofs.YtnjpdhekeffpnaaW.PrintWords Go.Proofs.YtnjpdhekeffpnaaW.PrintLast Go.Proofs.YtnjpdhekeffpnaaW.PrintMore

theorem stepL_last (s : ByteArray) (st : List Stp) (a : Nat) (m : List Bool) : ∀ (k n : Nat) (nx : List Bool) (sm : Bool) (la : Int),
    ((stepL s st a m k n nx sm la).2.2 = la ∨ (stepL s st a m k n nx sm la).2.2 = (a : Int)) ∧ ((stepL s st a m k n nx sm la).2.1 = true → sm = true ∨ a < s.size)
  | 0, n, nx, sm, la => ⟨.inl rfl, fun h => .inl h⟩
  | k + 1, n, nx, sm, la => by
    rw [stepL]
    split
    · split
      · exact stepL_last s st a m k (n + 1) nx sm la
      · split
        · have := stepL_last s st a m k (n + 1) nx sm (a : Int)
          exact ⟨.inr (this.1.elim id id), this.2⟩
        · split
          · rename_i h
            have := stepL_last s st a m k (n + 1) (walkP st false (decide (a + 1 = s.size)) (st.length + 1) nx (stp st n).nx) true la
            exact ⟨this.1, fun _ => .inr h.2.1⟩
          · exact stepL_last s st a m k (n + 1) nx sm la
    · exact ⟨.inl rfl, fun h => .inl h⟩
theorem longL_range (s : ByteArray) (st : List Stp) : ∀ (k a : Nat) (m : List Bool) (la : Int), a ≤ s.size →
    longL s st k a m la = la ∨ ((a : Int) ≤ longL s st k a m la ∧ longL s st k a m la ≤ (s.size : Int))
  | 0, a, m, la, h => .inl rfl
  | k + 1, a, m, la, h => by
    have hs := stepL_last s st a m (m.length + 1) 0 (List.replicate st.length false) false la
    rw [longL]
    split
    · rename_i hb
      have ha : a < s.size := by rcases hs.2 hb with h2 | h2; (· cases h2); (· exact h2)
      have ih := longL_range s st k (a + 1) (stepL s st a m (m.length + 1) 0 (List.replicate st.length false) false la).1 (stepL s st a m (m.length + 1) 0 (List.replicate st.length false) false la).2.2 ha
      rcases ih with ih | ih
      · rw [ih]
        rcases hs.1 with h3 | h3
        · exact .inl h3
        · right; rw [h3]; omega
      · right; omega
    · rcases hs.1 with h3 | h3
      · exact .inl h3
      · right; rw [h3]; omega
theorem longP_range (s : ByteArray) (st : List Stp) (fi a : Nat) (h : a ≤ s.size) (h0 : 0 ≤ longP s st fi a) : (a : Int) ≤ longP s st fi a ∧ longP s st fi a ≤ (s.size : Int) := by
  rcases longL_range s st (s.size + 2) a (walkP st (decide (a = 0)) (decide (a = s.size)) (st.length + 1) (List.replicate st.length false) fi) (-1) h with h1 | h1
  · unfold longP at h0; omega
  · exact h1
theorem findL_range (s : ByteArray) (st : List Stp) (fi : Nat) : ∀ (k n i : Nat) (z : Int), findL s st fi k n = some (i, z) → n ≤ i ∧ i ≤ s.size ∧ (i : Int) ≤ z ∧ z ≤ (s.size : Int)
  | 0, n, i, z, h => by cases h
  | k + 1, n, i, z, h => by
    rw [findL] at h
    split at h
    · cases h
    · rename_i hn
      split at h
      · rename_i h0
        injection h with h
        injection h with h1 h2
        subst h1
        rw [← h2]
        have := longP_range s st fi n (by omega) h0
        omega
      · have := findL_range s st fi k (n + 1) i z h
        omega
theorem findP_range (s : ByteArray) (st : List Stp) (fi a i : Nat) (z : Int) (h : findP s st fi (a : Int) = some (i, z)) : a ≤ i ∧ i ≤ s.size ∧ (i : Int) ≤ z ∧ z ≤ (s.size : Int) := by
  rw [findP, if_neg (by omega), Int.toNat_natCast] at h
  exact findL_range s st fi _ a i z h
/-- matches replaced -/
def replL (s by_ : ByteArray) (all : Bool) (st : List Stp) (fi : Nat) : Nat → Nat → Nat → List UInt8 → List UInt8
  | 0, done, _, acc => acc ++ s.data.toList.drop done
  | k + 1, done, at_, acc =>
    match findP s st fi (at_ : Int) with
    | none => acc ++ s.data.toList.drop done
    | some (i, z) =>
      if all = true then replL s by_ all st fi k z.toNat (max z.toNat (i + 1)) (acc ++ (s.extract done i).data.toList ++ putL (s.extract i z.toNat).data.toList by_.data.toList)
      else acc ++ (s.extract done i).data.toList ++ putL (s.extract i z.toNat).data.toList by_.data.toList ++ s.data.toList.drop z.toNat
def replP (s by_ : ByteArray) (all : Bool) (st : List Stp) (fi : Nat) : List UInt8 := replL s by_ all st fi (s.size + 2) 0 0 []
theorem RgX.below {w w' : World} {r : Nat} {p : ByteArray} (h : RgX w r p) (hb : Below w.heap.size w w') : RgX w' r p := by
  rcases h with h | h
  · exact .inl (blk_below h hb)
  · exact .inr (h.below hb)
theorem bld_blk {B b : Nat} {l : List UInt8} {w : World} (h : Bld B b l w) : ∃ cs, w.heap[b]? = some (.cells cs 87 (0, 0)) := by
  rcases h with h | h
  · obtain ⟨hB, v, hk, ho, hne⟩ := h
    exact ⟨_, hk⟩
  · obtain ⟨hB, v, hk, ho, hne⟩ := h
    exact ⟨_, hk⟩
theorem typ_ne {w : World} {a b : Nat} {c d : Array Value} {t u : Nat} {f g : Nat × Nat} (h : w.heap[a]? = some (.cells c t f)) (k : w.heap[b]? = some (.cells d u g)) (hn : t ≠ u) : a ≠ b := by
  rintro rfl
  rw [h] at k
  injection k with k
  injection k with _ k
  exact hn k
theorem RgX.others {w w' : World} {r B b : Nat} {l : List UInt8} {p : ByteArray} (h : RgX w r p) (o : Lib.OthersKept 5 (some b) w w') (hB : Bld B b l w) : RgX w' r p := by
  obtain ⟨cs, hb⟩ := bld_blk hB
  rcases h with h | h
  · exact .inl (o r _ h (fun e => by injection e with e; exact typ_ne h hb (by decide) e) (fun c fz e => by injection e with _ e; exact absurd e (by decide)))
  · obtain ⟨v, h1, h2⟩ := h
    refine .inr ⟨v, o r _ h1 (fun e => by injection e with e; exact typ_ne h1 hb (by decide) e) (fun c fz e => by injection e with _ e; exact absurd e (by decide)), ?_⟩
    have h3 := Kd.R_bound (Kd.R_types h2 hb (fun q hq => by rcases List.mem_cons.1 hq with rfl | hq; (· decide); (· cases hq)))
    refine Kd.R_mono (Kd.R_move h3 (fun k hk => ?_)) (fun _ _ => trivial)
    obtain ⟨⟨_, hne⟩, _, _, q, hq, cells, hc⟩ := hk
    have hq' : q = TS := by rcases List.mem_cons.1 hq with rfl | hq; (· rfl); (· cases hq)
    subst hq'
    exact (o k _ hc (fun e => by injection e with e; exact hne e) (fun c fz e => by injection e with _ e; exact absurd e (by decide))).trans hc.symm
theorem bld_mk {B b r : Nat} {l : List UInt8} {w w' : World} {cs : Array Value} (h : Bld B b l w) (k : Mk r w w') (hr : w.heap[r]? = some (.cells cs TR (0, 0))) : Bld B b l w' := by
  rcases h with h | h
  · have hlt := Lib.BuilderAt.lt h
    obtain ⟨hB, v, hk, ho, hne⟩ := h
    refine .inl ⟨hB, v, (k.keep b hlt (typ_ne hk hr (by decide))).trans hk, own_move ho (fun q hq => ?_), hne⟩
    obtain ⟨cq, hcq⟩ := own_typed ho q hq
    exact k.keep q (blk_lt hcq) (typ_ne hcq hr (by decide))
  · have hlt := Lib.BuilderAt.lt h
    obtain ⟨hB, v, hk, ho, hne⟩ := h
    refine .inr ⟨hB, v, (k.keep b hlt (typ_ne hk hr (by decide))).trans hk, own_move ho (fun q hq => ?_), hne⟩
    obtain ⟨cq, hcq⟩ := own_typed ho q hq
    exact k.keep q (blk_lt hcq) (typ_ne hcq hr (by decide))
theorem RgX.blk {w : World} {r : Nat} {p : ByteArray} (h : RgX w r p) : ∃ cs, w.heap[r]? = some (.cells cs TR (0, 0)) := by
  rcases h with h | ⟨v, h, _⟩
  · exact ⟨_, h⟩
  · exact ⟨_, h⟩
theorem Mk.more {r : Nat} {w a b : World} (h : Mk r w a) (k : Below w.heap.size a b) : Mk r w b :=
  ⟨fun B h1 h2 => (h.below B h1 h2).trans (Below.lower k h2), fun q h1 h2 => (k.block q h1).trans (h.keep q h1 h2)⟩
theorem ex_len (s : ByteArray) (a b : Nat) (h : b ≤ s.size) : (s.extract a b).data.toList.length = b - a := by
  rw [Array.length_toList]
  show (s.extract a b).size = b - a
  rw [ByteArray.size_extract, Nat.min_eq_left h]
theorem ex_drop (s : ByteArray) (a : Nat) : (s.extract a s.size).data.toList = s.data.toList.drop a := by
  rw [ByteArray.data_extract]
  show (s.data.extract a s.data.size).toList = _
  rw [Array.toList_extract]
  show List.take (s.data.size - a) (List.drop a s.data.toList) = _
  exact List.take_of_length_le (by rw [List.length_drop, Array.length_toList]; exact Nat.le_refl _)
set_option maxHeartbeats 8000000 in
set_option maxRecDepth 1000000 in
theorem replaceW (w : World) (r : Nat) (p s by_ : ByteArray) (all : Bool) (hs : p.size ≤ 200) (hz : s.size ≤ 1000) (hb : by_.size ≤ 1000) (h : RgX w r p) :
    Calls Try.prog 19 #[.pointer (some ⟨r, 0, none⟩), .string s, .string by_, .bool all] w fun e w' => e = .returned (.string ⟨(replP s by_ all (stepsB p) (firstB p)).toArray⟩) ∧ RgX w' r p ∧ Mk r w w' := by
  obtain ⟨B, hB⟩ : ∃ B, w.heap.size = B := ⟨_, rfl⟩
  obtain ⟨R, hR⟩ : ∃ R, replP s by_ all (stepsB p) (firstB p) = R := ⟨_, rfl⟩
  rw [hR]
  unfold replP at hR
  have HX0 := Aside0.mk h
  have HR := Aside0.mk (⟨hR, hs, hz, hb⟩ : replL s by_ all (stepsB p) (firstB p) (s.size + 2) 0 0 [] = R ∧ p.size ≤ 200 ∧ s.size ≤ 1000 ∧ by_.size ≤ 1000)
  clear hR h hs hz hb
  obtain ⟨N, hN⟩ : ∃ N, s.size + 2 = N := ⟨_, rfl⟩
  have HN := Aside0.mk hN
  clear hN
  go_enter Try.func19, Try.ntmps19
  go_wp2
  have hal : Below w.heap.size w (w.alloc (.cells #[.pointer none, .slice none 0 0] 87)) := (Below.refl _ _).alloc (Nat.le_refl _) _
  go_loopg [10, 11] (N + 1) (fun kq v10 v11 wr => ∃ (n dn a : Nat) (acc : List UInt8), v10 = .int .i64 (dn : Int) ∧ v11 = .int .i64 (a : Int) ∧ Aside0 (n + 1 = kq ∧ s.size + 2 ≤ n + a ∧ a ≤ s.size + 1 ∧ dn ≤ a ∧ dn ≤ s.size ∧ replL s by_ all (stepsB p) (firstB p) n dn a acc = R ∧ acc.length ≤ 1003000 * a) ∧ Aside0 (RgX wr r p) ∧ Aside0 (Mk r w wr) ∧ Aside0 (Bld B B acc wr) ∧ Aside0 (B ≤ wr.heap.size))
  case atStart =>
    subst hB
    exact ⟨N, 0, 0, [], rfl, rfl, ⟨rfl, by have := HN.out; omega, by omega, by omega, by omega, by rw [← HN.out]; exact HR.out.1, by simp⟩, ⟨HX0.out.below hal⟩, ⟨Mk.of hal⟩, ⟨Bld.fresh w⟩, ⟨by simp⟩⟩
  case round =>
    clear hal
    obtain ⟨n, dn, a, acc, rfl, rfl, HI, HX, HK, HB, HS⟩ := hrel
    obtain ⟨l, rfl⟩ : ∃ l, n = l + 1 := ⟨n - 1, by have := HI.out; omega⟩
    obtain ⟨ko, rfl⟩ : ∃ ko, gk = ko + 1 := ⟨gk - 1, by have := HI.out; omega⟩
    obtain ⟨dz, hdz⟩ : ∃ z : Int, (dn : Int) = z := ⟨_, rfl⟩
    obtain ⟨az, haz⟩ : ∃ z : Int, (a : Int) = z := ⟨_, rfl⟩
    have hF := findW wr r p s (a : Int) HR.out.2.1 (by have := HR.out; omega) HX.out
    have hq := HI.out.2.2.2.2.2.1
    rw [replL] at hq
    have hd0 : 0 ≤ dz := by omega
    have hd1 : dz ≤ (s.size : Int) := by have := HI.out; omega
    have HDZ := Aside0.mk (⟨hdz, haz⟩ : (dn : Int) = dz ∧ (a : Int) = az)
    have hdn : dz.toNat = dn := by omega
    cases hf : findP s (stepsB p) (firstB p) (a : Int) with
    | none =>
      rw [hf] at hF hq
      rw [haz] at hF
      dsimp only [findV] at hF hq
      have HQ := Aside0.mk hq
      have HDN := Aside0.mk hdn
      rw [hdz, haz]
      clear hq hf hdz haz hdn
      go_wp2_with (first | (go_at_call 15; refine hF.mono ?_; rintro e w2 ⟨rfl, hX2, hK2⟩) | fail)
      obtain ⟨cr, hcr⟩ := HX.out.blk
      have hbld2 := bld_mk HB.out hK2 hcr
      have hsz2 : B ≤ w2.heap.size := Nat.le_trans HS.out hK2.size
      have hexl : (s.extract dz.toNat s.size).size = s.size - dz.toNat := by rw [ByteArray.size_extract, Nat.min_self]
      have hw := Bld.writeString B B acc (s.extract dz.toNat s.size) w2 hbld2 (by rw [hexl]; have := HI.out; have := HR.out; omega) hsz2
      refine hw.mono ?_
      rintro e w3 ⟨rfl, hbld3, hbel3, hot3⟩
      have hX3 := RgX.others hX2 hot3 hbld2
      have hK3 := (HK.out.trans hK2).more (hB ▸ hbel3)
      have hsz3 : B ≤ w3.heap.size := Nat.le_trans hsz2 hbel3.size
      obtain ⟨A3, hA3⟩ : ∃ A3, acc ++ (s.extract dz.toNat s.size).data.toList = A3 := ⟨_, rfl⟩
      rw [hA3] at hbld3
      have HA3 := Aside0.mk hA3
      clear hw hA3
      go_wp2_with (fail)
      have h9 := Try.Builder_String_any_k B B _ w3 (Lib.IsBuilderF.of hbld3) hsz3
      refine h9.mono ?_
      rintro e w4 ⟨rfl, -, hbel4, hot4⟩
      go_wp2_with (fail)
      go_ret
      refine ⟨?_, RgX.others hX3 hot4 hbld3, hK3.more (hB ▸ hbel4)⟩
      rw [← HQ.out, ← ex_drop, ← HDN.out, HA3.out]; rfl
    | some q =>
      obtain ⟨i, kz⟩ := q
      obtain ⟨hr1, hr2, hr3, hr4⟩ := findP_range s _ _ a i kz hf
      rw [hf] at hF hq
      rw [haz] at hF
      obtain ⟨iz, hiz⟩ : ∃ z : Int, (i : Int) = z := ⟨_, rfl⟩
      dsimp only [findV] at hF hq
      rw [hiz] at hF
      have hin : iz.toNat = i := by omega
      have f1 : dz ≤ iz := by have := HI.out; omega
      have f2 : iz ≤ kz := by omega
      have f3 : iz ≤ (s.size : Int) := by omega
      have f4 : 0 ≤ iz := by omega
      have f5 : 0 ≤ kz := by omega
      have f6 : iz + 1 < 9223372036854775808 := by have := HR.out; omega
      have HQ := Aside0.mk hq
      have HDN := Aside0.mk (⟨hdn, hin⟩ : dz.toNat = dn ∧ iz.toNat = i)
      have HRN := Aside0.mk (⟨hr1, hr2, hr3, hiz⟩ : a ≤ i ∧ i ≤ s.size ∧ (i : Int) ≤ kz ∧ (i : Int) = iz)
      rw [hdz, haz]
      clear hq hf hdz haz hdn hr1 hr2 hr3 hiz hin
      go_wp2_with (first | (go_at_call 15; refine hF.mono ?_; rintro e w2 ⟨rfl, hX2, hK2⟩) | fail)
      obtain ⟨cr, hcr⟩ := HX.out.blk
      have hbld2 := bld_mk HB.out hK2 hcr
      have hsz2 : B ≤ w2.heap.size := Nat.le_trans HS.out hK2.size
      have hln : acc.length ≤ 1003000 * a := HI.out.2.2.2.2.2.2
      have hll : acc.length ≤ 1003000 * i := by have := HRN.out.1; omega
      have hii := HRN.out.2.1
      have hss := HR.out.2.2.1
      have hexl : (s.extract dz.toNat iz.toNat).data.toList.length = iz.toNat - dz.toNat := ex_len s _ _ (by omega)
      have hexs : (s.extract dz.toNat iz.toNat).size = iz.toNat - dz.toNat := by rw [← hexl, Array.length_toList]; rfl
      have hw := Bld.writeString B B acc (s.extract dz.toNat iz.toNat) w2 hbld2 (by rw [hexs]; omega) hsz2
      refine hw.mono ?_
      rintro e w3 ⟨rfl, hbld3, hbel3, hot3⟩
      have hX3 := RgX.others hX2 hot3 hbld2
      have hK3 := (HK.out.trans hK2).more (hB ▸ hbel3)
      have hsz3 : B ≤ w3.heap.size := Nat.le_trans hsz2 hbel3.size
      clear hw
      go_wp2_with (fail)
      have hexl2 : (s.extract iz.toNat kz.toNat).data.toList.length = kz.toNat - iz.toNat := ex_len s _ _ (by omega)
      have hexs2 : (s.extract iz.toNat kz.toNat).size = kz.toNat - iz.toNat := by rw [← hexl2, Array.length_toList]; rfl
      have hp := putW w3 by_ (s.extract iz.toNat kz.toNat) (by have := HR.out; omega) (by rw [hexs2]; omega)
      refine hp.mono ?_
      rintro e w4 ⟨rfl, hbel4⟩
      have hX4 := hX3.below hbel4
      have hbld4 := Bld.below hbld3 hbel4
      have hK4 := hK3.more (Below.lower hbel4 hK3.size)
      have hsz4 : B ≤ w4.heap.size := Nat.le_trans hsz3 hbel4.size
      clear hp
      have hpl : (putL (s.extract iz.toNat kz.toNat).data.toList by_.data.toList).length ≤ 1001000 := by
        refine Nat.le_trans (putL_len _ _) (Nat.le_trans (Nat.mul_le_mul (show by_.data.toList.length ≤ 1000 by rw [Array.length_toList]; exact HR.out.2.2.2) (show _ ≤ 1001 by rw [hexl2]; omega)) (by decide))
      obtain ⟨PP, hPP⟩ : ∃ PP, putL (s.extract iz.toNat kz.toNat).data.toList by_.data.toList = PP := ⟨_, rfl⟩
      rw [hPP] at hpl ⊢
      go_wp2_with (fail)
      have hps : (⟨PP.toArray⟩ : ByteArray).size = PP.length := by show PP.toArray.size = _; simp
      have hw5 := Bld.writeString B B _ ⟨PP.toArray⟩ w4 hbld4 (by rw [List.length_append, hexl, hps]; omega) hsz4
      refine hw5.mono ?_
      rintro e w5 ⟨rfl, hbld5, hbel5, hot5⟩
      have hX5 := RgX.others hX4 hot5 hbld4
      have hK5 := hK4.more (hB ▸ hbel5)
      have hsz5 : B ≤ w5.heap.size := Nat.le_trans hsz4 hbel5.size
      have f7 : kz ≤ (s.size : Int) := hr4
      have HLN := Aside0.mk (⟨hexl, hpl, hll⟩ : (s.extract dz.toNat iz.toNat).data.toList.length = iz.toNat - dz.toNat ∧ PP.length ≤ 1001000 ∧ acc.length ≤ 1003000 * i)
      have HPP := Aside0.mk hPP
      clear hw5 hexl hpl hll hexl2 hexs2 hexs hln hps hPP hii
      cases all with
      | true =>
        have hq := HQ.out
        rw [if_pos rfl] at hq
        have HQ2 := Aside0.mk hq
        clear hq
        by_cases hlt : iz < kz
        · have g1 : ¬ (iz + 1 > kz) := by omega
          have g2 : decide (iz + 1 > kz) = false := decide_eq_false g1
          have g3 : iz + 1 ≤ kz := by omega
          go_wp2_with (fail)
          go_roundg ko
          case measure => have := HI.out; omega
          case rel => exact ⟨l, kz.toNat, max kz.toNat (i + 1), _, by rw [Int.toNat_of_nonneg f5], by rw [Nat.max_eq_left (by have := HRN.out; omega), Int.toNat_of_nonneg f5]; first | done | rfl | (rw [Int.max_eq_left (by have := HRN.out; omega)]), ⟨by have := HI.out; omega, by have := HI.out; have := HRN.out; omega, by have := HRN.out; omega, by have := HRN.out; omega, by omega, by rw [← HQ2.out, ← HDN.out.1, ← HDN.out.2, HPP.out], by have := HLN.out; have := HRN.out; rw [List.length_append, List.length_append, HLN.out.1]; show _ + _ + PP.length ≤ _; omega⟩, ⟨hX5⟩, ⟨hK5⟩, ⟨hbld5⟩, ⟨hsz5⟩⟩
        · have g1 : iz + 1 > kz := by omega
          have g2 : decide (iz + 1 > kz) = true := decide_eq_true g1
          have g3 : kz < iz + 1 := by omega
          have g4 : ¬ (iz + 1 ≤ kz) := by omega
          have g5 : kz ≤ iz := by omega
          go_wp2_with (fail)
          go_roundg ko
          case measure => have := HI.out; omega
          case rel => exact ⟨l, kz.toNat, max kz.toNat (i + 1), _, by rw [Int.toNat_of_nonneg f5], by rw [Nat.max_eq_right (by have := HRN.out; omega), ← HRN.out.2.2.2, Int.max_eq_right (by have := HRN.out; omega)]; rfl, ⟨by have := HI.out; omega, by have := HI.out; have := HRN.out; omega, by have := HRN.out; omega, by have := HRN.out; omega, by omega, by rw [← HQ2.out, ← HDN.out.1, ← HDN.out.2, HPP.out], by have := HLN.out; have := HRN.out; rw [List.length_append, List.length_append, HLN.out.1]; show _ + _ + PP.length ≤ _; omega⟩, ⟨hX5⟩, ⟨hK5⟩, ⟨hbld5⟩, ⟨hsz5⟩⟩
      | false =>
        have hq := HQ.out
        rw [if_neg (by simp)] at hq
        have HQ2 := Aside0.mk hq
        clear hq
        go_wp2_with (fail)
        have hexl : (s.extract kz.toNat s.size).size = s.size - kz.toNat := by rw [ByteArray.size_extract, Nat.min_self]
        have hw := Bld.writeString B B _ (s.extract kz.toNat s.size) w5 hbld5 (by rw [hexl, List.length_append, List.length_append, HLN.out.1]; have := HLN.out; have := HRN.out; show _ + _ + PP.length + _ ≤ _; omega) hsz5
        refine hw.mono ?_
        rintro e w6 ⟨rfl, hbld6, hbel6, hot6⟩
        have hX6 := RgX.others hX5 hot6 hbld5
        have hK6 := hK5.more (hB ▸ hbel6)
        have hsz6 : B ≤ w6.heap.size := Nat.le_trans hsz5 hbel6.size
        obtain ⟨A3, hA3⟩ : ∃ A3, acc ++ (s.extract dz.toNat iz.toNat).data.toList ++ (⟨PP.toArray⟩ : ByteArray).data.toList ++ (s.extract kz.toNat s.size).data.toList = A3 := ⟨_, rfl⟩
        rw [hA3] at hbld6
        have HA3 := Aside0.mk hA3
        clear hw hA3
        go_wp2_with (fail)
        have h9 := Try.Builder_String_any_k B B _ w6 (Lib.IsBuilderF.of hbld6) hsz6
        refine h9.mono ?_
        rintro e w7 ⟨rfl, -, hbel7, hot7⟩
        go_wp2_with (fail)
        go_ret
        refine ⟨?_, RgX.others hX6 hot7 hbld6, hK6.more (hB ▸ hbel7)⟩
        rw [← HQ2.out, ← HDN.out.1, ← HDN.out.2, HPP.out, ← ex_drop]; rw [← HA3.out]; rfl
end Go.Proofs.Ytnjpdhekeffpnaa.Rx
