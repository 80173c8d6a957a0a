/- Find, Is, Text of an expression, walked. -/
import Derived.Test.YtnjpdhekeffpnaaRxJ
set_option linter.unusedVariables false
set_option linter.unusedSimpArgs false
namespace Go.Proofs.Ytnjpdhekeffpnaa.Rx
open Go.RowKit Go.Proofs.YtnjpdhekeffpnaaW.PrintWords Go.Proofs.YtnjpdhekeffpnaaW.PrintLast Go.Proofs.YtnjpdhekeffpnaaW.PrintMore

theorem RgX.c0 {w : World} {r : Nat} {p : ByteArray} (h : RgX w r p) : w.cell? ⟨r, 0, none⟩ = some (.string p) := by
  rcases h with h | h
  · exact (blk_cell h 0).trans rfl
  · obtain ⟨v, h1, h2⟩ := h
    exact (blk_cell h1 0).trans rfl
theorem RgX.c1 {w : World} {r : Nat} {p : ByteArray} (h : RgX w r p) : w.cell? ⟨r, 1, none⟩ = some (.bool true) := by
  rcases h with h | h
  · exact (blk_cell h 1).trans rfl
  · obtain ⟨v, h1, h2⟩ := h
    exact (blk_cell h1 1).trans rfl
theorem okNil (w : World) : Calls Try.prog 28 #[.pointer none] w fun e w' => e = .returned (.bool false) ∧ w' = w := by
  go_enter Try.func28, Try.ntmps28
  go_wp2_with (fail)
  go_ret
  exact ⟨rfl, rfl⟩
theorem okW (w : World) (r : Nat) (b : Bool) (h : w.cell? ⟨r, 1, none⟩ = some (.bool b)) : Calls Try.prog 28 #[.pointer (some ⟨r, 0, none⟩)] w fun e w' => e = .returned (.bool b) ∧ w' = w := by
  have hu58 := Try.underlying58
  go_enter Try.func28, Try.ntmps28
  go_wp2_with (fail)
  go_ret
  exact ⟨rfl, rfl⟩
theorem textW (w : World) (r : Nat) (p : ByteArray) (h : RgX w r p) : Calls Try.prog 13 #[.pointer (some ⟨r, 0, none⟩)] w fun e w' => e = .returned (.string p) ∧ w' = w := by
  have hu58 := Try.underlying58
  have hok := okW w r true h.c1
  have h0 := h.c0
  clear h
  go_enter Try.func13, Try.ntmps13
  go_wp2_with (first | (go_at_call 28; refine hok.mono ?_; rintro e w ⟨rfl, rfl⟩) | fail)
  go_ret
  exact ⟨rfl, rfl⟩
def isP (s : ByteArray) (st : List Stp) (first : Nat) : Bool := longP s st first 0 == (s.size : Int)
set_option maxHeartbeats 4000000 in
set_option maxRecDepth 100000 in
theorem isW (w : World) (r : Nat) (p s : ByteArray) (hs : p.size ≤ 200) (hz : s.size ≤ 1000000000) (h : RgX w r p) :
    Calls Try.prog 17 #[.pointer (some ⟨r, 0, none⟩), .string s] w fun e w' => e = .returned (.bool (isP s (stepsB p) (firstB p))) ∧ RgX w' r p ∧ Mk r w w' := by
  have hok := okW w r true h.c1
  have hlo := longestW w r p s 0 hs hz (Nat.zero_le _) h
  unfold isP
  obtain ⟨L, hL⟩ : ∃ L, longP s (stepsB p) (firstB p) 0 = L := ⟨_, rfl⟩
  rw [hL] at hlo ⊢
  clear h hL
  go_enter Try.func17, Try.ntmps17
  go_wp2_with (first | (go_at_call 28; refine hok.mono ?_; rintro e w ⟨rfl, rfl⟩) | (go_at_call 29; refine hlo.mono ?_; rintro e w2 ⟨rfl, hR, hK⟩) | fail)
  go_ret
  exact ⟨rfl, Or.inr hR, hK⟩
def findV : Option (Nat × Int) → Value
  | none => .tuple #[.int .i64 0, .int .i64 0, .bool false]
  | some (i, k) => .tuple #[.int .i64 (i : Int), .int .i64 k, .bool true]
set_option maxHeartbeats 8000000 in
set_option maxRecDepth 100000 in
theorem findW (w : World) (r : Nat) (p s : ByteArray) (z : Int) (hs : p.size ≤ 200) (hz : s.size ≤ 1000000000) (h : RgX w r p) :
    Calls Try.prog 15 #[.pointer (some ⟨r, 0, none⟩), .string s, .int .i64 z] w fun e w' => e = .returned (findV (findP s (stepsB p) (firstB p) z)) ∧ RgX w' r p ∧ Mk r w w' := by
  have hok := okW w r true h.c1
  obtain ⟨R, hR⟩ : ∃ R, findP s (stepsB p) (firstB p) z = R := ⟨_, rfl⟩
  rw [hR]
  by_cases hn : z < 0
  · have d0 : decide (z < 0) = true := decide_eq_true hn
    rw [findP, if_pos hn] at hR
    have HR := Aside0.mk (⟨hR, h⟩ : none = R ∧ RgX w r p)
    clear hR hn h
    go_enter Try.func15, Try.ntmps15
    go_wp2_with (first | (go_at_call 28; refine hok.mono ?_; rintro e w ⟨rfl, rfl⟩) | fail)
    refine bodyPost_ret (by simp [results, Try.results15, go_sem]; try rfl) rfl ?_
    exact ⟨by rw [← HR.out.1]; rfl, HR.out.2, Mk.refl _ _⟩
  · have d0 : decide (z < 0) = false := decide_eq_false hn
    rw [findP, if_neg hn] at hR
    have hz0 : ((z.toNat : Nat) : Int) = z := by omega
    have HR := Aside0.mk (⟨hR, h, hz0, hz⟩ : findL s (stepsB p) (firstB p) (s.size + 2) z.toNat = R ∧ RgX w r p ∧ ((z.toNat : Nat) : Int) = z ∧ s.size ≤ 1000000000)
    clear hR h hz0 hn
    have HSZ := Aside0.mk hs
    clear hz hs
    obtain ⟨N, hN⟩ : ∃ N, s.size + 2 = N := ⟨_, rfl⟩
    have HN := Aside0.mk hN
    clear hN
    go_enter Try.func15, Try.ntmps15
    go_wp2_with (first | (go_at_call 28; refine hok.mono ?_; rintro e w ⟨rfl, rfl⟩) | fail)
    go_loopg [9] (N + 1) (fun kq v9 wr => ∃ (n i : Nat), v9 = .int .i64 (i : Int) ∧ Aside0 (n + 1 = kq ∧ s.size + 2 ≤ n + i ∧ findL s (stepsB p) (firstB p) n i = R) ∧ Aside0 (RgX wr r p) ∧ Aside0 (Mk r w wr))
    case atStart =>
      exact ⟨N, z.toNat, by rw [HR.out.2.2.1], ⟨rfl, by have := HN.out; omega, by rw [← HN.out]; exact HR.out.1⟩, ⟨HR.out.2.1⟩, ⟨Mk.refl _ _⟩⟩
    case round =>
      obtain ⟨n, i, rfl, HI, HX, HK⟩ := hrel
      obtain ⟨az, haz⟩ : ∃ az : Int, (i : Int) = az := ⟨_, rfl⟩
      rw [haz]
      have HAZ := Aside0.mk haz
      by_cases hi : i ≤ s.size
      · have d1 : decide (az ≤ (s.size : Int)) = true := decide_eq_true (by omega)
        have d2 : az + 1 < 9223372036854775808 := by have := HR.out; omega
        have d3 : 0 ≤ az := by omega
        obtain ⟨l, rfl⟩ : ∃ l, n = l + 1 := ⟨n - 1, by have := HI.out; omega⟩
        obtain ⟨ko, rfl⟩ : ∃ ko, gk = ko + 1 := ⟨gk - 1, by have := HI.out; omega⟩
        have hlo := longestW wr r p s i HSZ.out HR.out.2.2.2 hi HX.out
        rw [haz] at hlo
        have hst := HI.out.2.2
        rw [findL, if_neg (by omega)] at hst
        obtain ⟨L, hL⟩ : ∃ L, longP s (stepsB p) (firstB p) i = L := ⟨_, rfl⟩
        rw [hL] at hlo hst
        have HST := Aside0.mk hst
        clear hst hL hi haz
        by_cases hl : 0 ≤ L
        · have d4 : decide (L ≥ 0) = true := decide_eq_true hl
          have hst := HST.out
          rw [if_pos hl] at hst
          have HST2 := Aside0.mk hst
          clear hst HST
          go_wp2_with (first | (go_at_call 29; refine hlo.mono ?_; rintro e w2 ⟨rfl, hR, hK⟩) | fail)
          refine bodyPost_ret (by simp [results, Try.results15, go_sem]; try rfl) rfl ?_
          exact ⟨by rw [← HST2.out, ← HAZ.out]; rfl, Or.inr hR, HK.out.trans hK⟩
        · have d4 : decide (L ≥ 0) = false := decide_eq_false hl
          have hst := HST.out
          rw [if_neg hl] at hst
          have HST2 := Aside0.mk hst
          clear hst HST hl
          go_wp2_with (first | (go_at_call 29; refine hlo.mono ?_; rintro e w2 ⟨rfl, hR, hK⟩) | fail)
          go_roundg ko
          case measure => have := HI.out; omega
          case rel => exact ⟨l, i + 1, by rw [← HAZ.out]; rfl, ⟨by have := HI.out; omega, by have := HI.out; omega, HST2.out⟩, ⟨Or.inr hR⟩, ⟨HK.out.trans hK⟩⟩
      · have d1 : decide (az ≤ (s.size : Int)) = false := decide_eq_false (by omega)
        have hst : none = R := by
          have := HI.out.2.2
          cases n with
          | zero => exact this
          | succ n => rw [findL, if_pos (by omega)] at this; exact this
        have HST := Aside0.mk hst
        clear hst hi haz
        go_wp2_with (fail)
        refine bodyPost_ret (by simp [results, Try.results15, go_sem]; try rfl) rfl ?_
        exact ⟨by rw [← HST.out]; rfl, HX.out, HK.out⟩
end Go.Proofs.Ytnjpdhekeffpnaa.Rx
