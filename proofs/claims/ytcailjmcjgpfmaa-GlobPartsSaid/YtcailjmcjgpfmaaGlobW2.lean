/- walks -/
import Derived.Test.YtcailjmcjgpfmaaGlobW
set_option linter.unusedVariables false
namespace Go.Proofs.Ytcailjmcjgpfmaa
open Go.RowKit Ba

theorem among_lt3 (t : ByteArray) (c : UInt8) (h : 0 < t.size) (h2 : t.size ≤ 2) : GP.among t.data.toList c = ((t[0] == c) || GP.among (t.extract 1 t.size).data.toList c) := by
  have hl : (t.extract 1 t.size).data.toList.length ≤ 1 := by rw [← size_len, tail_size]; omega
  rw [cons1 t h]
  match hm : (t.extract 1 t.size).data.toList, hl with
  | [], _ => simp [GP.among]
  | [b], _ => simp [GP.among]
theorem among_plain (t : ByteArray) (c : UInt8) (h : 2 < t.size) (h1 : ((t[1].toNat : Int) == 45) = false) : GP.among t.data.toList c = ((t[0] == c) || GP.among (t.extract 1 t.size).data.toList c) := by
  have e : (t.extract 1 t.size).data.toList = t[1] :: t[2] :: (t.extract 3 t.size).data.toList := by
    rw [drop_ext, drop_cons t 1 (by omega), drop_cons t 2 h, drop_ext]
  have h1' : (t[1] == 45) = false := by
    rw [beq_eq_false_iff_ne] at h1 ⊢; intro h'; rw [h'] at h1; exact h1 rfl
  rw [e]; conv => lhs; rw [cons3 t h]
  rw [GP.among, h1']; simp
theorem among_range (t : ByteArray) (c : UInt8) (h : 2 < t.size) (h1 : ((t[1].toNat : Int) == 45) = true) : GP.among t.data.toList c = ((decide (t[0] ≤ c) && decide (c ≤ t[2])) || GP.among (t.extract 3 t.size).data.toList c) := by
  have h1' : t[1] = 45 := u8_eq (by have := beq_iff_eq.mp h1; have e : (45 : UInt8).toNat = 45 := rfl; omega)
  conv => lhs; rw [cons3 t h]
  rw [GP.among, h1']; simp

/-- What one round of 'has' does: t is what is left. -/
theorem among_yes (t : ByteArray) (c : UInt8) (h : 0 < t.size) (a : t[0].toNat ≤ c.toNat) (b : c.toNat ≤ t[0].toNat) (h2 : (t.size : Int) ≤ 2 ∨ ∃ h : 2 < t.size, ((t[1].toNat : Int) == 45) = false) : GP.among t.data.toList c = true := by
  have e : t[0] = c := u8_eq (by omega)
  rcases h2 with h2 | ⟨h2, h1⟩
  · rw [among_lt3 t c h (by omega), e]; simp
  · rw [among_plain t c h2 h1, e]; simp
theorem among_no (t : ByteArray) (c : UInt8) (h : 0 < t.size) (a : ¬ t[0].toNat ≤ c.toNat ∨ ¬ c.toNat ≤ t[0].toNat) (h2 : (t.size : Int) ≤ 2 ∨ ∃ h : 2 < t.size, ((t[1].toNat : Int) == 45) = false) : GP.among (t.extract 1 t.size).data.toList c = GP.among t.data.toList c := by
  have e : (t[0] == c) = false := beq_eq_false_iff_ne.mpr fun h => by rw [h] at a; omega
  rcases h2 with h2 | ⟨h2, h1⟩
  · rw [among_lt3 t c h (by omega), e]; simp
  · rw [among_plain t c h2 h1, e]; simp
theorem among_ryes (t : ByteArray) (c : UInt8) (h : 2 < (t.size : Int)) (h1 : (((t[1]'(by omega)).toNat : Int) == 45) = true) (a : (t[0]'(by omega)).toNat ≤ c.toNat) (b : c.toNat ≤ (t[2]'(by omega)).toNat) : GP.among t.data.toList c = true := by
  rw [among_range t c (by omega) h1, decide_eq_true (u8_le.mpr a), decide_eq_true (u8_le.mpr b)]; rfl
theorem among_rno (t : ByteArray) (c : UInt8) (h : 2 < (t.size : Int)) (h1 : (((t[1]'(by omega)).toNat : Int) == 45) = true) (a : ¬ (t[0]'(by omega)).toNat ≤ c.toNat ∨ ¬ c.toNat ≤ (t[2]'(by omega)).toNat) : GP.among (t.extract 3 t.size).data.toList c = GP.among t.data.toList c := by
  rw [among_range t c (by omega) h1]
  rcases a with a | a
  · rw [decide_eq_false (fun h => a (u8_le.mp h))]; rfl
  · rw [decide_eq_false (fun h => a (u8_le.mp h)), Bool.and_false]; rfl

theorem has_val (s : ByteArray) (c x : UInt8) (t0 : ByteArray) (h3 : 3 ≤ s.size) (g3 : 0 < t0.size) (hx : t0[0] = x) (ht : s.extract 1 (s.size - 1) = t0) :
    GP.has s.data.toList c = if 0 ≤ Lib.indexByte [33, 94] x then !GP.among (t0.extract 1 t0.size).data.toList c else GP.among t0.data.toList c := by
  have e : (s.data.toList.drop 1).take (s.data.toList.length - 2) = t0.data.toList := by
    rw [← ht, data_extract, ← size_len]; rfl
  unfold GP.has; simp only [e]
  rw [cons1 t0 g3, hx]
  simp only
  by_cases h : 0 ≤ Lib.indexByte [33, 94] x
  · rw [if_pos h, if_pos ((neg_iff x).mp h)]
  · rw [if_neg h, if_neg (fun h' => h ((neg_iff x).mpr h'))]

set_option maxHeartbeats 4000000 in
theorem has (s : ByteArray) (c : UInt8) (w : World) (h3 : 3 ≤ s.size) (hs : s.size ≤ 140737488355328) :
    Calls Try.prog 27 #[.string s, .int .u8 c.toNat] w fun e w' => e = .returned (.bool (GP.has s.data.toList c)) ∧ ∃ n, w' = w.drewN n := by
  have g1 : (1:Int) ≤ (s.size:Int) - 1 := by omega
  have g2 : (s.size:Int) - 1 ≤ (s.size:Int) := by omega
  have g3 : 0 < (s.extract 1 (s.size - 1)).size := by simp [ByteArray.size_extract]; omega
  have g4 : (s.extract 1 (s.size - 1)).size ≤ s.size := by simp [ByteArray.size_extract]; omega
  obtain ⟨x, hx⟩ : ∃ x, (s.extract 1 (s.size - 1))[0]'g3 = x := ⟨_, rfl⟩
  obtain ⟨t0, ht0⟩ : ∃ t0, s.extract 1 (s.size - 1) = t0 := ⟨_, rfl⟩
  simp only [ht0] at hx g3 g4
  have HV := Lib.hid (has_val s c x t0 h3 g3 hx ht0)
  by_cases hn : 0 ≤ Lib.indexByte [33, 94] x
  · have hd : decide (0 ≤ Lib.indexByte [33, 94] x) = true := decide_eq_true hn
    have HR := Lib.hid (HV.out.trans (if_pos hn))
    clear HV
    go_enter Try.func27, Try.ntmps27
    go_wp2_with (go_at_call 23; refine (Try.strings_IndexByte _ _ _).mono ?_; rintro e w' ⟨rfl, rfl⟩)
    go_loopw [0] (fun v wr => ∃ (t : ByteArray) (n : Nat), v = .string t ∧ t.size ≤ s.size ∧ (!GP.among t.data.toList c) = GP.has s.data.toList c ∧ wr = w'.drewN n) (fun v _ => strLen v)
    case atStart => exact ⟨_, 0, rfl, by rw [tail_size]; omega, HR.out.symm, rfl⟩
    case round =>
      obtain ⟨t, n, rfl, ht, hA, rfl⟩ := hrel
      have HA := Lib.hid hA
      clear hA
      by_cases hz : 0 < t.size
      · have he := nonempty t hz
        go_wp2
        go_quiet (fail)
        go_wp2
        · go_ret
          exact ⟨ret_bool (by rw [← HA.out, among_ryes t c ‹_› ‹_› ‹_› ‹_›]; rfl), _, rfl⟩
        · go_roundw
          case rel => exact ⟨_, _, rfl, by rw [tail_size]; omega, by rw [← HA.out, among_rno t c ‹_› ‹_› (.inr ‹_›)], rfl⟩
          case measure => simp only [strLen, tail_size]; omega
        · go_roundw
          case rel => exact ⟨_, _, rfl, by rw [tail_size]; omega, by rw [← HA.out, among_rno t c ‹_› ‹_› (.inl ‹_›)], rfl⟩
          case measure => simp only [strLen, tail_size]; omega
        · go_ret
          exact ⟨ret_bool (by rw [← HA.out, among_yes t c hz ‹_› ‹_› (.inr ⟨by omega, ‹_›⟩)]; rfl), _, rfl⟩
        · go_roundw
          case rel => exact ⟨_, _, rfl, by rw [tail_size]; omega, by rw [← HA.out, among_no t c hz (.inr ‹_›) (.inr ⟨by omega, ‹_›⟩)], rfl⟩
          case measure => simp only [strLen, tail_size]; omega
        · go_roundw
          case rel => exact ⟨_, _, rfl, by rw [tail_size]; omega, by rw [← HA.out, among_no t c hz (.inl ‹_›) (.inr ⟨by omega, ‹_›⟩)], rfl⟩
          case measure => simp only [strLen, tail_size]; omega
        · go_ret
          exact ⟨ret_bool (by rw [← HA.out, among_yes t c hz ‹_› ‹_› (.inl ‹_›)]; rfl), _, rfl⟩
        · go_roundw
          case rel => exact ⟨_, _, rfl, by rw [tail_size]; omega, by rw [← HA.out, among_no t c hz (.inr ‹_›) (.inl (by omega))], rfl⟩
          case measure => simp only [strLen, tail_size]; omega
        · go_roundw
          case rel => exact ⟨_, _, rfl, by rw [tail_size]; omega, by rw [← HA.out, among_no t c hz (.inl ‹_›) (.inl (by omega))], rfl⟩
          case measure => simp only [strLen, tail_size]; omega
      · have he := empty t hz
        have hnil := Lib.hid (nil0 t hz)
        go_wp2
        go_ret
        exact ⟨ret_bool (by rw [← HA.out, hnil.out]; rfl), _, rfl⟩
  · have hd : decide (0 ≤ Lib.indexByte [33, 94] x) = false := decide_eq_false hn
    have HR := Lib.hid (HV.out.trans (if_neg hn))
    clear HV
    go_enter Try.func27, Try.ntmps27
    go_wp2_with (go_at_call 23; refine (Try.strings_IndexByte _ _ _).mono ?_; rintro e w' ⟨rfl, rfl⟩)
    go_loopw [0] (fun v wr => ∃ (t : ByteArray) (n : Nat), v = .string t ∧ t.size ≤ s.size ∧ (GP.among t.data.toList c) = GP.has s.data.toList c ∧ wr = w'.drewN n) (fun v _ => strLen v)
    case atStart => exact ⟨_, 0, rfl, g4, HR.out.symm, rfl⟩
    case round =>
      obtain ⟨t, n, rfl, ht, hA, rfl⟩ := hrel
      have HA := Lib.hid hA
      clear hA
      by_cases hz : 0 < t.size
      · have he := nonempty t hz
        go_wp2
        go_quiet (fail)
        go_wp2
        · go_ret
          exact ⟨ret_bool (by rw [← HA.out, among_ryes t c ‹_› ‹_› ‹_› ‹_›]), _, rfl⟩
        · go_roundw
          case rel => exact ⟨_, _, rfl, by rw [tail_size]; omega, by rw [← HA.out, among_rno t c ‹_› ‹_› (.inr ‹_›)], rfl⟩
          case measure => simp only [strLen, tail_size]; omega
        · go_roundw
          case rel => exact ⟨_, _, rfl, by rw [tail_size]; omega, by rw [← HA.out, among_rno t c ‹_› ‹_› (.inl ‹_›)], rfl⟩
          case measure => simp only [strLen, tail_size]; omega
        · go_ret
          exact ⟨ret_bool (by rw [← HA.out, among_yes t c hz ‹_› ‹_› (.inr ⟨by omega, ‹_›⟩)]), _, rfl⟩
        · go_roundw
          case rel => exact ⟨_, _, rfl, by rw [tail_size]; omega, by rw [← HA.out, among_no t c hz (.inr ‹_›) (.inr ⟨by omega, ‹_›⟩)], rfl⟩
          case measure => simp only [strLen, tail_size]; omega
        · go_roundw
          case rel => exact ⟨_, _, rfl, by rw [tail_size]; omega, by rw [← HA.out, among_no t c hz (.inl ‹_›) (.inr ⟨by omega, ‹_›⟩)], rfl⟩
          case measure => simp only [strLen, tail_size]; omega
        · go_ret
          exact ⟨ret_bool (by rw [← HA.out, among_yes t c hz ‹_› ‹_› (.inl ‹_›)]), _, rfl⟩
        · go_roundw
          case rel => exact ⟨_, _, rfl, by rw [tail_size]; omega, by rw [← HA.out, among_no t c hz (.inr ‹_›) (.inl (by omega))], rfl⟩
          case measure => simp only [strLen, tail_size]; omega
        · go_roundw
          case rel => exact ⟨_, _, rfl, by rw [tail_size]; omega, by rw [← HA.out, among_no t c hz (.inl ‹_›) (.inl (by omega))], rfl⟩
          case measure => simp only [strLen, tail_size]; omega
      · have he := empty t hz
        have hnil := Lib.hid (nil0 t hz)
        go_wp2
        go_ret
        exact ⟨ret_bool (by rw [← HA.out, hnil.out]; rfl), _, rfl⟩
end Go.Proofs.Ytcailjmcjgpfmaa
