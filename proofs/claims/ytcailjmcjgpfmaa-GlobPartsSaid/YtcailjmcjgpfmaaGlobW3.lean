/- walks -/
import Derived.Test.YtcailjmcjgpfmaaGlobW2
set_option linter.unusedVariables false
namespace Go.Proofs.Ytcailjmcjgpfmaa
open Go.RowKit Ba

namespace GP
/-- the first thing of a pattern: how many bytes it has, and whether a byte is it -/
def oneK (p : List UInt8) : Nat :=
  if p.head? = some 92 then (if 1 < p.length then 2 else 1)
  else if p.head? = some 91 then (if 0 < brk p then brk p else 1)
  else 1
def oneB (p : List UInt8) (c : UInt8) : Bool :=
  if p.head? = some 63 then true
  else if p.head? = some 92 then (if 1 < p.length then p.getD 1 0 == c else 92 == c)
  else if p.head? = some 91 then (if 0 < brk p then has (p.take (brk p)) c else 91 == c)
  else p.head? == some c
theorem brk_bd (p : List UInt8) : brk p ≤ p.length ∧ (0 < brk p → 3 ≤ brk p) := by
  unfold brk
  obtain ⟨s, hs⟩ : ∃ s, (if 1 < p.length ∧ neg (p.getD 1 0) = true then 3 else 2) = s := ⟨_, rfl⟩
  have h2 : 2 ≤ s := by rw [← hs]; split <;> omega
  have h := ib_le (p.drop s) 93
  simp only [List.length_drop] at h
  simp only [hs]
  split
  · omega
  · split <;> omega
end GP

theorem head_get (p : ByteArray) (h : 0 < p.size) : p.data.toList.head? = some (p[0]) := by rw [cons1 p h]; rfl
theorem toNat_eq {x : UInt8} {k : Nat} (hk : k < 256) (h : ((x.toNat : Int) == (k : Int)) = true) : x = UInt8.ofNat k := by
  apply u8_eq
  have := beq_iff_eq.mp h
  rw [UInt8.toNat_ofNat_of_lt' (by simpa using hk)]
  omega
theorem toNat_ne {x : UInt8} {k : Nat} (hk : k < 256) (h : ((x.toNat : Int) == (k : Int)) = false) : x ≠ UInt8.ofNat k := by
  intro e; subst e
  rw [UInt8.toNat_ofNat_of_lt' (by simpa using hk)] at h
  simp at h
theorem u8_beq (x c : UInt8) : ((x.toNat : Int) == (c.toNat : Int)) = (x == c) := by
  rw [Bool.eq_iff_iff, beq_iff_eq, beq_iff_eq]
  exact ⟨fun h => u8_eq (by omega), fun h => by rw [h]⟩
theorem pair_eq {a b : ByteArray} {c d : Bool} (h : a.data.toList = b.data.toList) (h' : c = d) : Ending.returned (.tuple #[.string a, .bool c]) = .returned (.tuple #[.string b, .bool d]) := by rw [ba_ext h, h']

theorem one_res (p : ByteArray) (c : UInt8) (k : Nat) (b : Bool) (hk : GP.oneK p.data.toList = k) (hb : GP.oneB p.data.toList c = b) :
    Ending.returned (.tuple #[.string (p.extract k p.size), .bool b]) = .returned (.tuple #[.string (p.extract (GP.oneK p.data.toList) p.size), .bool (GP.oneB p.data.toList c)]) := by
  rw [hk, hb]

set_option maxHeartbeats 4000000 in
theorem one (p : ByteArray) (c : UInt8) (w : World) (h1 : 0 < p.size) (hp : p.size ≤ 140737488355328) :
    Calls Try.prog 20 #[.string p, .int .u8 c.toNat] w fun e w' => e = .returned (.tuple #[.string (p.extract (GP.oneK p.data.toList) p.size), .bool (GP.oneB p.data.toList c)]) ∧ ∃ n, w' = w.drewN n := by
  obtain ⟨x, hx⟩ : ∃ x, p[0]'h1 = x := ⟨_, rfl⟩
  have HH := Lib.hid ((head_get p h1).trans (congrArg some hx))
  have hb0 := GP.brk_bd p.data.toList
  rw [← size_len] at hb0
  obtain ⟨k, hk⟩ : ∃ k, GP.brk p.data.toList = k := ⟨_, rfl⟩
  rw [hk] at hb0
  have hs : (p.extract 0 k).size = k := by rw [ext_size]; omega
  have hb : k ≤ p.size := hb0.1
  have HB3 := Lib.hid hb0.2
  have HE := Lib.hid (size_len p)
  have HT : Hid ((p.extract 0 k).data.toList = p.data.toList.take k) := Lib.hid (by rw [data_extract]; rfl)
  have HC := Lib.hid (u8_beq x c)
  clear hb0
  by_cases x63 : (x.toNat : Int) = 63
  · have q63 : ((x.toNat : Int) == 63) = true := beq_iff_eq.mpr x63
    have E : Hid (x = 63) := Lib.hid (toNat_eq (k := 63) (by omega) q63)
    go_enter Try.func20, Try.ntmps20
    go_wp2
    go_ret2
    exact ⟨one_res p c 1 true (by simp [GP.oneK, HH.out, E.out]) (by simp [GP.oneB, HH.out, E.out]), 0, rfl⟩
  · have q63 : ((x.toNat : Int) == 63) = false := beq_eq_false_iff_ne.mpr x63
    have E : Hid (x ≠ 63) := Lib.hid (toNat_ne (k := 63) (by omega) q63)
    by_cases k0 : 0 < k
    · have ke := nonempty (p.extract 0 k) (by omega)
      have k3 : 3 ≤ k := HB3.out k0
      go_enter Try.func20, Try.ntmps20
      go_wp2_with (go_at_call 26; refine (bracket _ _ hp).mono ?_; rintro e w' ⟨rfl, rfl⟩)
      · have q : ((x.toNat : Int) == 92) = true := by assumption
        have hz : 1 < p.size := by first | omega | assumption
        go_quiet (fail)
        go_wp2
        go_ret2
        have F : x = 92 := toNat_eq (k := 92) (by omega) q
        have hz' : 1 < p.data.toList.length := by have := HE.out; omega
        exact ⟨one_res p c 2 _ (by simp only [GP.oneK, HH.out, F, hz', if_true]) (by simp only [GP.oneB, HH.out, F, hz', if_true]; rw [getD_get p 1 (by omega), u8_beq]; rfl), _, rfl⟩
      · have q : ((x.toNat : Int) == 92) = false := by assumption
        have q' : ((x.toNat : Int) == 91) = true := by assumption
        go_quiet ((go_at_call 27; exact Calls.quiet_of (has _ c _ (by omega) (by omega))))
        go_wp2
        go_ret2
        have F : x = 91 := toNat_eq (k := 91) (by omega) q'
        exact ⟨one_res p c k _ (by simp [GP.oneK, HH.out, F, hk, k0]) (by rw [HT.out]; simp [GP.oneB, HH.out, F, hk, k0]), _, rfl⟩
      · have q : ((x.toNat : Int) == 92) = false := by assumption
        have q' : ((x.toNat : Int) == 91) = false := by assumption
        go_quiet (fail)
        go_wp2
        go_ret2
        have F : x ≠ 92 := toNat_ne (k := 92) (by omega) q
        have G : x ≠ 91 := toNat_ne (k := 91) (by omega) q'
        exact ⟨one_res p c 1 _ (by simp [GP.oneK, HH.out, F, G]) (by rw [HC.out]; simp [GP.oneB, HH.out, F, G, E.out]), _, rfl⟩
    · have ke := empty (p.extract 0 k) (by omega)
      go_enter Try.func20, Try.ntmps20
      go_wp2_with (go_at_call 26; refine (bracket _ _ hp).mono ?_; rintro e w' ⟨rfl, rfl⟩)
      · have q : ((x.toNat : Int) == 92) = true := by assumption
        have hz : 1 < (p.size : Int) := by assumption
        go_quiet (fail)
        go_wp2
        go_ret2
        have F : x = 92 := toNat_eq (k := 92) (by omega) q
        have hz' : 1 < p.data.toList.length := by have := HE.out; omega
        exact ⟨one_res p c 2 _ (by simp only [GP.oneK, HH.out, F, hz', if_true]) (by simp only [GP.oneB, HH.out, F, hz', if_true]; rw [getD_get p 1 (by omega), u8_beq]; rfl), _, rfl⟩
      · have q : ((x.toNat : Int) == 92) = true := by assumption
        have hz : (p.size : Int) ≤ 1 := by assumption
        go_quiet (fail)
        go_wp2
        go_ret2
        have F : x = 92 := toNat_eq (k := 92) (by omega) q
        have hz' : ¬ 1 < p.data.toList.length := by have := HE.out; omega
        exact ⟨one_res p c 1 _ (by simp only [GP.oneK, HH.out, F, hz', if_true, if_false]) (by rw [HC.out]; simp only [GP.oneB, HH.out, F, hz', if_true, if_false]; rfl), _, rfl⟩
      · have q : ((x.toNat : Int) == 92) = false := by assumption
        have q' : ((x.toNat : Int) == 91) = true := by assumption
        go_quiet (fail)
        go_wp2
        go_ret2
        have F : x = 91 := toNat_eq (k := 91) (by omega) q'
        exact ⟨one_res p c 1 _ (by simp [GP.oneK, HH.out, F, hk, k0]) (by rw [HC.out]; simp [GP.oneB, HH.out, F, hk, k0]), _, rfl⟩
      · have q : ((x.toNat : Int) == 92) = false := by assumption
        have q' : ((x.toNat : Int) == 91) = false := by assumption
        go_quiet (fail)
        go_wp2
        go_ret2
        have F : x ≠ 92 := toNat_ne (k := 92) (by omega) q
        have G : x ≠ 91 := toNat_ne (k := 91) (by omega) q'
        exact ⟨one_res p c 1 _ (by simp [GP.oneK, HH.out, F, G]) (by rw [HC.out]; simp [GP.oneB, HH.out, F, G, E.out]), _, rfl⟩
end Go.Proofs.Ytcailjmcjgpfmaa
