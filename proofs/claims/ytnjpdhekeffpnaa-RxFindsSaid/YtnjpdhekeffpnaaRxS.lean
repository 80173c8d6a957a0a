/- Sets of bytes as four words: a byte added, asked for; walked. -/
import Derived.Test.YtnjpdhekeffpnaaRxB
set_option linter.unusedVariables false
set_option linter.unusedSimpArgs false
namespace Go.Proofs.Ytnjpdhekeffpnaa.Rx
open Go.RowKit Go.Proofs.YtnjpdhekeffpnaaW.PrintWords Go.Proofs.YtnjpdhekeffpnaaW.PrintLast Go.Proofs.YtnjpdhekeffpnaaW.PrintMore

abbrev TE : Nat := 98
def sC (m : Nat) : Array Value := #[.int .u64 (wd m 0), .int .u64 (wd m 1), .int .u64 (wd m 2), .int .u64 (wd m 3)]
theorem wraps_u64 (n : Int) (h₀ : 0 ≤ n) (h₁ : n < 2 ^ 64) : IntKind.u64.wrap n = n := by simp [IntKind.wrap, IntKind.bits, IntKind.signed]; omega
theorem wd_nn (m i : Nat) : 0 ≤ wd m i := Int.natCast_nonneg _
theorem wd_lt (m i : Nat) : wd m i < 2 ^ 64 := by
  unfold wd
  have : m / 2 ^ (64 * i) % 2 ^ 64 < 2 ^ 64 := Nat.mod_lt _ (by decide)
  exact_mod_cast this
theorem wd_test (m i j : Nat) (hj : j < 64) : (m / 2 ^ (64 * i) % 2 ^ 64).testBit j = m.testBit (64 * i + j) := by
  rw [Nat.testBit_mod_two_pow, Nat.testBit_div_two_pow, decide_eq_true hj, Bool.true_and, Nat.add_comm]
theorem i64_and63 (x : Nat) (h : x < 2 ^ 62) : bits .and .i64 (x : Int) 63 = ((x % 64 : Nat) : Int) := by
  have := bits_mask .i64 62 (by decide) wraps_i64 6 (by decide) (x : Int) (by omega) (by omega)
  rw [show ((2 : Int) ^ 6 - 1) = 63 by decide] at this
  rw [this]; omega
/-- a byte's bit in its word -/
theorem wd_or (m c i : Nat) : wd (m ||| 2 ^ c) i = if c / 64 = i then bits .or .u64 (wd m i) ((2 ^ (c % 64) : Nat) : Int) else wd m i := by
  have hlt : m / 2 ^ (64 * i) % 2 ^ 64 < 2 ^ 64 := Nat.mod_lt _ (by decide)
  have key : (m ||| 2 ^ c) / 2 ^ (64 * i) % 2 ^ 64 = if c / 64 = i then (m / 2 ^ (64 * i) % 2 ^ 64) ||| 2 ^ (c % 64) else m / 2 ^ (64 * i) % 2 ^ 64 := by
    apply Nat.eq_of_testBit_eq
    intro j
    rw [Nat.testBit_mod_two_pow, Nat.testBit_div_two_pow, Nat.testBit_or, Nat.testBit_two_pow]
    split
    · rename_i h
      rw [Nat.testBit_or, Nat.testBit_mod_two_pow, Nat.testBit_div_two_pow, Nat.testBit_two_pow]
      by_cases hj : j < 64
      · rw [decide_eq_true hj, Bool.true_and, Bool.true_and]
        congr 1
        apply decide_eq_decide.2
        omega
      · rw [decide_eq_false hj, Bool.false_and, Bool.false_and, Bool.false_or]
        symm
        apply decide_eq_false
        omega
    · rename_i h
      rw [Nat.testBit_mod_two_pow, Nat.testBit_div_two_pow]
      by_cases hj : j < 64
      · rw [decide_eq_true hj, Bool.true_and, Bool.true_and, decide_eq_false (by omega), Bool.or_false]
      · rw [decide_eq_false hj, Bool.false_and, Bool.false_and]
  unfold wd
  rw [key]
  split
  · rw [(bits_nat .u64 64 (by decide) wraps_u64 _ _ hlt (Nat.pow_lt_pow_right (by decide) (Nat.mod_lt _ (by decide)))).2]
  · rfl
theorem sC_at (m i : Nat) (hi : i < 4) : (sC m)[i]? = some (.int .u64 (wd m i)) := by
  rcases (show i = 0 ∨ i = 1 ∨ i = 2 ∨ i = 3 by omega) with rfl | rfl | rfl | rfl <;> rfl
theorem sC_or (m c : Nat) (hc : c < 256) : (sC m).setIfInBounds (c / 64) (.int .u64 (bits .or .u64 (wd m (c / 64)) ((2 ^ (c % 64) : Nat) : Int))) = sC (m ||| 2 ^ c) := by
  have h : ∀ i, wd (m ||| 2 ^ c) i = if c / 64 = i then bits .or .u64 (wd m i) ((2 ^ (c % 64) : Nat) : Int) else wd m i := wd_or m c
  unfold sC
  rw [h 0, h 1, h 2, h 3]
  rcases (show c / 64 = 0 ∨ c / 64 = 1 ∨ c / 64 = 2 ∨ c / 64 = 3 by omega) with e | e | e | e <;> simp [e]
theorem pow_mod_lt (c : Nat) : (2 : Nat) ^ (c % 64) < 2 ^ 64 := Nat.pow_lt_pow_right (by decide) (Nat.mod_lt _ (by decide))
/-- all but one block stay -/
structure One (q : Nat) (w w' : World) : Prop where
  below : ∀ B, B ≤ q → Below B w w'
  keep : ∀ k, k ≠ q → w'.heap[k]? = w.heap[k]?
theorem One.refl (q : Nat) (w : World) : One q w w := ⟨fun _ _ => Below.refl _ _, fun _ _ => rfl⟩
theorem One.drew {q : Nat} {w w' : World} (h : One q w w') : One q w w'.drew := ⟨fun B hB => below_drew (h.below B hB), h.keep⟩
theorem One.set {q : Nat} {w w' : World} (h : One q w w') (j : Nat) (u : Value) : One q w (w'.setCell ⟨q, j, none⟩ u) :=
  ⟨fun B hB => (h.below B hB).setCell (p := ⟨q, j, none⟩) hB u, fun k hk => (Below.heap_setCell w' ⟨q, j, none⟩ u k hk).trans (h.keep k hk)⟩
set_option maxHeartbeats 8000000 in
set_option maxRecDepth 100000 in
theorem setAddW (w : World) (q m lo hi : Nat) (h : w.heap[q]? = some (.cells (sC m) TE (0, 0))) (h1 : lo < 256) (h2 : hi < 256) :
    Calls Try.prog 58 #[.pointer (some ⟨q, 0, none⟩), .int .u8 (lo : Int), .int .u8 (hi : Int)] w fun r w' => r = .returned (.tuple #[]) ∧ w'.heap[q]? = some (.cells (sC (addR m lo (hi + 1 - lo))) TE (0, 0)) ∧ One q w w' := by
  have hu98 := Try.underlying98
  have HH := Aside0.mk h
  clear h
  go_enter Try.func58, Try.ntmps58
  go_wp2_with (fail)
  go_loopg [6] (hi + 1 - lo + 1) (fun kq v6 wr => ∃ (c m' : Nat), v6 = .int .i64 (c : Int) ∧ Aside0 (lo ≤ c ∧ c + kq = max (hi + 1) lo + 1 ∧ addR m' c (hi + 1 - c) = addR m lo (hi + 1 - lo)) ∧ Aside0 (wr.heap[q]? = some (.cells (sC m') TE (0, 0))) ∧ Aside0 (One q w wr))
  case atStart => exact ⟨lo, m, rfl, ⟨Nat.le_refl _, by omega, rfl⟩, HH, ⟨One.refl _ _⟩⟩
  case round =>
    obtain ⟨c, m', rfl, HI, HQ, HO⟩ := hrel
    by_cases hc : c ≤ hi
    · obtain ⟨k1, rfl⟩ : ∃ k1, gk = k1 + 1 := ⟨gk - 1, by have := HI.out; omega⟩
      have d0 : decide ((c : Int) ≤ (hi : Int)) = true := decide_eq_true (by omega)
      obtain ⟨d, hd⟩ : ∃ d, c / 64 = d := ⟨_, rfl⟩
      obtain ⟨r, hr⟩ : ∃ r, c % 64 = r := ⟨_, rfl⟩
      have e1 : (c : Int) / 64 = (d : Int) := by omega
      have e2 : bits .and .i64 (c : Int) 63 = (r : Int) := by rw [i64_and63 c (by omega), hr]
      have x0 : wr.cell? ⟨q, d, none⟩ = some (.int .u64 (wd m' d)) := (blk_cell HQ.out _).trans (sC_at m' _ (by omega))
      have f0 := blk_frozen HQ.out d
      have hd4 : (d : Int) < 4 := by omega
      have hd0 : (0 : Int) ≤ (d : Int) := by omega
      have hr0 : (0 : Int) ≤ (r : Int) := by omega
      have hr4 : (r : Int) ≤ 64 := by omega
      have HD := Aside0.mk (⟨hd, hr⟩ : c / 64 = d ∧ c % 64 = r)
      clear hd hr
      go_wp2_with (fail)
      go_region
      have eP : IntKind.u64.wrap ((2 : Int) ^ r) = ((2 ^ r : Nat) : Int) := by
        rw [show ((2 : Int) ^ r) = ((2 ^ r : Nat) : Int) by simp]
        exact wraps_u64 _ (Int.natCast_nonneg _) (by have := pow_mod_lt c; rw [HD.out.2] at this; exact_mod_cast this)
      have hq2 := blk_set HQ.out d (.int .u64 (bits .or .u64 (wd m' d) (IntKind.u64.wrap ((2 : Int) ^ r))))
      rw [eP] at hq2
      have eC := sC_or m' c (by omega)
      rw [HD.out.1, HD.out.2] at eC
      rw [eC] at hq2
      have HO2 := Aside0.mk ((HO.out.set d (.int .u64 (bits .or .u64 (wd m' d) (IntKind.u64.wrap ((2 : Int) ^ r))))).drew)
      rw [eP] at HO2
      rw [eP]
      have HQ2 := Aside0.mk hq2
      clear hq2 eC x0 f0 e1 e2 hd4 hd0 hr0 hr4 eP
      generalize World.setCell wr ⟨q, d, none⟩ (.int .u64 (bits .or .u64 (wd m' d) ((2 ^ r : Nat) : Int))) = w5 at *
      go_wp2_with (fail)
      go_roundg k1
      case measure => have := HI.out; omega
      case rel =>
        refine ⟨c + 1, m' ||| 2 ^ c, by first | rfl | simp, ⟨by have := HI.out; omega, by have := HI.out; omega, ?_⟩, ⟨HQ2.out⟩, HO2⟩
        have := HI.out.2.2
        rw [show hi + 1 - c = (hi - c) + 1 by omega, addR] at this
        rw [show hi + 1 - (c + 1) = hi - c by omega]
        exact this
    · have d0 : decide ((c : Int) ≤ (hi : Int)) = false := decide_eq_false (by omega)
      have e := HI.out.2.2
      rw [show hi + 1 - c = 0 by omega, addR] at e
      have HE := Aside0.mk e
      clear e
      go_wp2_with (fail)
      (try go_end0)
      exact ⟨rfl, by rw [← HE.out]; exact HQ.out, HO.out⟩
/-- is a byte in a set -/
def hasM (m c : Nat) : Bool := m.testBit c
theorem u8_and63' (c : Nat) (h : c < 256) : bits .and .u8 (c : Int) 63 = ((c % 64 : Nat) : Int) := by
  have := bits_mask .u8 8 (by decide) wraps_u8 6 (by decide) (c : Int) (by omega) (by omega)
  rw [show ((2 : Int) ^ 6 - 1) = 63 by decide] at this
  rw [this]; omega
theorem has_bit (m d r : Nat) (hr : r < 64) : (bits .and .u64 (wd m d / 2 ^ r) 1 == 1) = m.testBit (64 * d + r) := by
  rw [← wd_test m d r hr, Nat.testBit_eq_decide_div_mod_eq]
  unfold wd
  have hlt : m / 2 ^ (64 * d) % 2 ^ 64 < 2 ^ 64 := Nat.mod_lt _ (by decide)
  generalize m / 2 ^ (64 * d) % 2 ^ 64 = x at *
  have e : ((x : Int) / 2 ^ r) = ((x / 2 ^ r : Nat) : Int) := by simp
  rw [e]
  have h2 : x / 2 ^ r < 2 ^ 64 := Nat.lt_of_le_of_lt (Nat.div_le_self _ _) hlt
  have := bits_mask .u64 64 (by decide) wraps_u64 1 (by decide) ((x / 2 ^ r : Nat) : Int) (Int.natCast_nonneg _) (by exact_mod_cast h2)
  rw [show ((2 : Int) ^ 1 - 1) = 1 by decide] at this
  rw [this, show ((2 : Int) ^ 1) = 2 by decide]
  generalize x / 2 ^ r = y
  by_cases h : y % 2 = 1
  · rw [decide_eq_true h]; exact beq_iff_eq.2 (by omega)
  · rw [decide_eq_false h]; exact beq_false_of_ne (by omega)
set_option maxHeartbeats 8000000 in
set_option maxRecDepth 100000 in
theorem setHasW (w : World) (q m c : Nat) (h : w.heap[q]? = some (.cells (sC m) TE (0, 0))) (h1 : c < 256) :
    Calls Try.prog 45 #[.pointer (some ⟨q, 0, none⟩), .int .u8 (c : Int)] w fun r w' => r = .returned (.bool (m.testBit c)) ∧ w' = w := by
  have hu98 := Try.underlying98
  obtain ⟨d, hd⟩ : ∃ d, c / 64 = d := ⟨_, rfl⟩
  obtain ⟨r, hr⟩ : ∃ r, c % 64 = r := ⟨_, rfl⟩
  have e1 : (c : Int) / 64 = (d : Int) := by omega
  have e2 : bits .and .u8 (c : Int) 63 = (r : Int) := by rw [u8_and63' c h1, hr]
  have x0 : w.cell? ⟨q, d, none⟩ = some (.int .u64 (wd m d)) := (blk_cell h _).trans (sC_at m _ (by omega))
  have hd4 : (d : Int) < 4 := by omega
  have hd0 : (0 : Int) ≤ (d : Int) := by omega
  have hr0 : (0 : Int) ≤ (r : Int) := by omega
  have hr4 : (r : Int) ≤ 64 := by omega
  have HD := Aside0.mk (⟨hd, hr⟩ : c / 64 = d ∧ c % 64 = r)
  clear hd hr h
  go_enter Try.func45, Try.ntmps45
  go_wp2_with (fail)
  go_ret
  refine ⟨?_, rfl⟩
  rw [has_bit m d r (by have := HD.out.2; omega), show 64 * d + r = c by have := HD.out; omega]
  rfl
end Go.Proofs.Ytnjpdhekeffpnaa.Rx
