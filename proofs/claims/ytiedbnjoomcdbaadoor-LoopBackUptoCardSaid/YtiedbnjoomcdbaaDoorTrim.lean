/- strings.TrimLeft at a set of two ASCII bytes or more. -/
import Derived.Test.YtiedbnjoomcdbaaDoorBase
import Derived.Test.YtiedbnjoomcdbaaDoorShelf
import Derived.Test.YtiedbnjoomcdbaaDoorWalk
import Derived.Lib.AsciiSet
import Derived.Lib.Hide
import Derived.Deep.LoopGhost
import Derived.Deep.QuietTactic
import Derived.BigQuiet
import Derived.Outline
import Derived.LoopTactic
import Derived.WalkKit
import Derived.Below
set_option linter.unusedVariables false
namespace Go.Proofs.YtiedbnjoomcdbaaDoor
open Go.RowKit Ba

theorem drop_while_cons (s : ByteArray) (p : UInt8 → Bool) (h : 0 < s.size) : s.data.toList.dropWhile p = if p s[0] = true then (s.extract 1 s.size).data.toList.dropWhile p else s.data.toList := by
  have e : (s.extract 1 s.size).data.toList = s.data.toList.drop 1 := by
    rw [data_extract, List.take_of_length_le (by rw [List.length_drop, ← size_len]; exact Nat.le_refl _)]
  rw [e, cons1 s h]
  by_cases hp : p s[0] = true
  · rw [if_pos hp, List.dropWhile_cons_of_pos hp]; rfl
  · rw [if_neg hp, List.dropWhile_cons_of_neg hp]

set_option maxRecDepth 1000000 in
theorem trimLeftASCII (s : ByteArray) (b : Nat) (p : UInt8 → Bool) (w : World) (hp : ∀ x : UInt8, w.cell? ⟨b, x.toNat, none⟩ = some (.bool (p x))) :
    Calls Tryd.prog 63 #[.string s, .pointer (some ⟨b, 0, none⟩)] w fun e w' => e = .returned (.string (S (s.data.toList.dropWhile p))) ∧ ∃ n, w' = w.drewN n := by
  have HP := Lib.hid hp
  clear hp
  go_enter Tryd.func63, Tryd.ntmps63
  go_wp2
  go_loopw [0] (fun v0 wr => ∃ t : ByteArray, v0 = .string t ∧ Hid (s.data.toList.dropWhile p = t.data.toList.dropWhile p) ∧ ∃ n, wr = w.drewN n) (fun v0 _ => strLen v0)
  case atStart => exact ⟨s, rfl, Lib.hid rfl, 0, rfl⟩
  case round =>
    obtain ⟨t, rfl, HT, n, rfl⟩ := hrel
    by_cases ht : 0 < t.size
    · obtain ⟨x, hx⟩ : ∃ x, t[0]'ht = x := ⟨_, rfl⟩
      have HD := Lib.hid (drop_while_cons t p ht)
      have hx' := Lib.hid hx
      have hc : (w.drewN n).cell? ⟨b, x.toNat, none⟩ = some (.bool (p x)) := HP.out x
      have hpos : decide ((0 : Int) < (t.size : Int)) = true := decide_eq_true (by omega)
      have h1 : 1 ≤ t.size := ht
      cases hpx : p x with
      | true =>
        rw [hpx] at hc
        go_wp2_with (go_at_call 79; refine (Tryd.asciiSet_contains _ _ _ _ hc).mono ?_; rintro e w' ⟨rfl, rfl⟩)
        go_round
        case rel => exact ⟨_, rfl, Lib.hid (by rw [HT.out, HD.out, hx'.out, if_pos hpx]), n, rfl⟩
        case measure => simp [strLen]; omega
      | false =>
        rw [hpx] at hc
        go_wp2_with (go_at_call 79; refine (Tryd.asciiSet_contains _ _ _ _ hc).mono ?_; rintro e w' ⟨rfl, rfl⟩)
        go_ret
        exact ⟨by rw [HT.out, HD.out, hx'.out, if_neg (by rw [hpx]; decide), S_data]; rfl, n, rfl⟩
    · have hpos : decide ((0 : Int) < (t.size : Int)) = false := decide_eq_false (by omega)
      go_wp2
      go_ret
      exact ⟨by rw [HT.out, nil0 t ht]; simp only [List.dropWhile_nil]; rw [← nil0 t ht, S_data]; rfl, n, rfl⟩

/-- a text without the bytes at its end -/
def trimR (p : UInt8 → Bool) (l : List UInt8) : List UInt8 := (l.reverse.dropWhile p).reverse
theorem last_cons (s : ByteArray) (h : 0 < s.size) : s.data.toList = (s.extract 0 (s.size - 1)).data.toList ++ [s[s.size - 1]'(by omega)] := by
  have := take_snoc s (s.size - 1) (by omega)
  rw [show s.size - 1 + 1 = s.size by omega, List.take_of_length_le (by rw [← size_len]; exact Nat.le_refl _)] at this
  conv => lhs; rw [this]
  rw [data_extract]; simp
theorem trimR_last (s : ByteArray) (p : UInt8 → Bool) (h : 0 < s.size) : trimR p s.data.toList = if p (s[s.size - 1]'(by omega)) = true then trimR p (s.extract 0 (s.size - 1)).data.toList else s.data.toList := by
  have e := last_cons s h
  unfold trimR
  conv => lhs; rw [e]
  rw [List.reverse_append, List.reverse_singleton, List.singleton_append]
  by_cases hp : p (s[s.size - 1]'(by omega)) = true
  · rw [if_pos hp, List.dropWhile_cons_of_pos hp]
  · rw [if_neg hp, List.dropWhile_cons_of_neg hp, List.reverse_cons, List.reverse_reverse, ← e]

set_option maxRecDepth 1000000 in
theorem trimRightASCII (s : ByteArray) (b : Nat) (p : UInt8 → Bool) (w : World) (hs : s.size ≤ 1000000000000) (hp : ∀ x : UInt8, w.cell? ⟨b, x.toNat, none⟩ = some (.bool (p x))) :
    Calls Tryd.prog 93 #[.string s, .pointer (some ⟨b, 0, none⟩)] w fun e w' => e = .returned (.string (S (trimR p s.data.toList))) ∧ ∃ n, w' = w.drewN n := by
  have HP := Lib.hid hp
  clear hp
  go_enter Tryd.func93, Tryd.ntmps93
  go_wp2
  go_loopw [0] (fun v0 wr => ∃ t : ByteArray, v0 = .string t ∧ t.size ≤ s.size ∧ Hid (trimR p s.data.toList = trimR p t.data.toList) ∧ ∃ n, wr = w.drewN n) (fun v0 _ => strLen v0)
  case atStart => exact ⟨s, rfl, Nat.le_refl _, Lib.hid rfl, 0, rfl⟩
  case round =>
    obtain ⟨t, rfl, hts, HT, n, rfl⟩ := hrel
    by_cases ht : 0 < t.size
    · have hz : t.size - 1 < t.size := by omega
      obtain ⟨x, hx⟩ : ∃ x, t[t.size - 1]'hz = x := ⟨_, rfl⟩
      have HD := Lib.hid (trimR_last t p ht)
      have hx' := Lib.hid hx
      have hc : (w.drewN n).cell? ⟨b, x.toNat, none⟩ = some (.bool (p x)) := HP.out x
      have hpos : decide ((0 : Int) < (t.size : Int)) = true := decide_eq_true (by omega)
      have i1 : IntKind.i64.wrap ((t.size : Int) - 1) = ((t.size - 1 : Nat) : Int) := by rw [wrap_small _ (by omega) (by omega)]; omega
      have h1 : t.size - 1 ≤ t.size := by omega
      have hdz : (t.extract 0 (t.size - 1)).size = t.size - 1 := by rw [ext_size]; omega
      cases hpx : p x with
      | true =>
        rw [hpx] at hc
        go_wp2_with (go_at_call 79; refine (Tryd.asciiSet_contains _ _ _ _ hc).mono ?_; rintro e w' ⟨rfl, rfl⟩)
        go_round
        case rel => exact ⟨_, rfl, by rw [hdz]; omega, Lib.hid (by rw [HT.out, HD.out, hx'.out, if_pos hpx]), n, rfl⟩
        case measure => simp [strLen]; omega
      | false =>
        rw [hpx] at hc
        go_wp2_with (go_at_call 79; refine (Tryd.asciiSet_contains _ _ _ _ hc).mono ?_; rintro e w' ⟨rfl, rfl⟩)
        go_ret
        exact ⟨by rw [HT.out, HD.out, hx'.out, if_neg (by rw [hpx]; decide), S_data]; rfl, n, rfl⟩
    · have hpos : decide ((0 : Int) < (t.size : Int)) = false := decide_eq_false (by omega)
      go_wp2
      go_ret
      exact ⟨by rw [HT.out, nil0 t ht]; simp only [trimR, List.reverse_nil, List.dropWhile_nil]; rw [← nil0 t ht, S_data]; rfl, n, rfl⟩

theorem zero256t : (Tryd.prog.info? 110).map (fun i => (i.zero, i.size)) = some (some (.agg (Array.replicate 256 (.bool false))), 256) := by kernel_rfl

set_option maxHeartbeats 8000000 in
set_option maxRecDepth 1000000 in
/-- strings.TrimLeft at an ASCII set. -/
theorem trimLeft (s chars : ByteArray) (w : World) (h2 : 2 ≤ chars.size) (hc : chars.size ≤ 1000) (hac : ∀ (j : Nat) b, chars.data.toList[j]? = some b → b.toNat < 128) :
    Calls Tryd.prog 50 #[.string s, .string chars] w fun e w' => e = .returned (.string (S (s.data.toList.dropWhile chars.data.toList.contains))) ∧ Below w.heap.size w w' := by
  have HA := Lib.hid hac
  clear hac
  have he := nonempty' chars (by omega)
  have hn1 : ((chars.size : Int) == 1) = false := beq_eq_false_iff_ne.2 (by omega)
  by_cases hs : 0 < s.size
  · have hs1 := nonempty' s hs
    have hz := Lib.setCells_size chars.data.toList
    have hM := Tryd.strings_makeASCIISet (zero_of_info zero256t).1 chars w (by omega) HA.out
    have hsc : (storeCells ⟨w.heap.size + 1, 0, none⟩ (Lib.setCells chars.data.toList).toList 0).run Tryd.prog ((w.alloc (.cells (Lib.setCells chars.data.toList) 110)).alloc (.cells Tryd.zeroCells110 110)) = .ok () ((w.alloc (.cells (Lib.setCells chars.data.toList) 110)).alloc (.cells (Lib.setCells chars.data.toList) 110)) := by
      have := run_storeCells_new (P := Tryd.prog) (w.alloc (.cells (Lib.setCells chars.data.toList) 110)) 110 Tryd.zeroCells110 (Lib.setCells chars.data.toList) (by rw [Lib.setCells_size]; exact (zero_of_info zero256t).2) (by rw [Lib.setCells_size]; kernel_rfl) (Lib.setCells_one _)
      simpa using this
    have HC : Hid (∀ x : UInt8, ((w.alloc (.cells (Lib.setCells chars.data.toList) 110)).alloc (.cells (Lib.setCells chars.data.toList) 110)).cell? ⟨w.heap.size + 1, x.toNat, none⟩ = some (.bool (chars.data.toList.contains x))) := Lib.hid fun x => by
      rw [World.cell?_alloc_at _ _ _ _ (by simp), Lib.setCells_at]
    obtain ⟨C, hC⟩ : ∃ C, Lib.setCells chars.data.toList = C := ⟨_, rfl⟩
    rw [hC] at hM hsc HC hz
    clear hC
    go_enter Tryd.func50, Tryd.ntmps50
    go_wp2_with (first | (go_at_call 62; refine hM.mono ?_; rintro e w' ⟨rfl, rfl⟩) | (go_at_call 63; refine (trimLeftASCII s _ _ _ HC.out).mono ?_; rintro e w' ⟨rfl, n, rfl⟩))
    go_ret
    exact ⟨rfl, below_dr (((Below.refl _ _).alloc (Nat.le_refl _) _).alloc (by simp) _) _⟩
  · have hs1 := empty' s hs
    go_enter Tryd.func50, Tryd.ntmps50
    go_wp2
    go_ret
    exact ⟨by rw [nil0 s hs]; simp only [List.dropWhile_nil]; rw [← nil0 s hs, S_data]; rfl, Below.refl _ _⟩
set_option maxHeartbeats 8000000 in
set_option maxRecDepth 1000000 in
/-- strings.Trim at an ASCII set. -/
theorem trimBoth (s chars : ByteArray) (w : World) (hs0 : s.size ≤ 1000000000000) (h2 : 2 ≤ chars.size) (hc : chars.size ≤ 1000) (hac : ∀ (j : Nat) b, chars.data.toList[j]? = some b → b.toNat < 128) :
    Calls Tryd.prog 83 #[.string s, .string chars] w fun e w' => e = .returned (.string (S ((trimR chars.data.toList.contains s.data.toList).dropWhile chars.data.toList.contains))) ∧ Below w.heap.size w w' := by
  have HA := Lib.hid hac
  clear hac
  have he := nonempty' chars (by omega)
  have hn1 : ((chars.size : Int) == 1) = false := beq_eq_false_iff_ne.2 (by omega)
  by_cases hs : 0 < s.size
  · have hs1 := nonempty' s hs
    have hz := Lib.setCells_size chars.data.toList
    have hM := Tryd.strings_makeASCIISet (zero_of_info zero256t).1 chars w (by omega) HA.out
    have hsc : (storeCells ⟨w.heap.size + 1, 0, none⟩ (Lib.setCells chars.data.toList).toList 0).run Tryd.prog ((w.alloc (.cells (Lib.setCells chars.data.toList) 110)).alloc (.cells Tryd.zeroCells110 110)) = .ok () ((w.alloc (.cells (Lib.setCells chars.data.toList) 110)).alloc (.cells (Lib.setCells chars.data.toList) 110)) := by
      have := run_storeCells_new (P := Tryd.prog) (w.alloc (.cells (Lib.setCells chars.data.toList) 110)) 110 Tryd.zeroCells110 (Lib.setCells chars.data.toList) (by rw [Lib.setCells_size]; exact (zero_of_info zero256t).2) (by rw [Lib.setCells_size]; kernel_rfl) (Lib.setCells_one _)
      simpa using this
    have HC : Hid (∀ x : UInt8, ((w.alloc (.cells (Lib.setCells chars.data.toList) 110)).alloc (.cells (Lib.setCells chars.data.toList) 110)).cell? ⟨w.heap.size + 1, x.toNat, none⟩ = some (.bool (chars.data.toList.contains x))) := Lib.hid fun x => by
      rw [World.cell?_alloc_at _ _ _ _ (by simp), Lib.setCells_at]
    obtain ⟨C, hC⟩ : ∃ C, Lib.setCells chars.data.toList = C := ⟨_, rfl⟩
    rw [hC] at hM hsc HC hz
    clear hC
    go_enter Tryd.func83, Tryd.ntmps83
    go_wp2_with (first | (go_at_call 62; refine hM.mono ?_; rintro e w' ⟨rfl, rfl⟩) | (go_at_call 93; refine (trimRightASCII s _ _ _ hs0 HC.out).mono ?_; rintro e w' ⟨rfl, n, rfl⟩) | (go_at_call 63; refine (trimLeftASCII (S (trimR chars.data.toList.contains s.data.toList)) _ chars.data.toList.contains _ (by exact fun x => HC.out x)).mono ?_; rintro e w' ⟨rfl, m, rfl⟩))
    go_ret
    exact ⟨rfl, below_dr (((Below.refl _ _).alloc (Nat.le_refl _) _).alloc (by simp) _) _⟩
  · have hs1 := empty' s hs
    go_enter Tryd.func83, Tryd.ntmps83
    go_wp2
    go_ret
    exact ⟨by rw [nil0 s hs]; simp only [trimR, List.reverse_nil, List.dropWhile_nil]; rw [← nil0 s hs, S_data]; rfl, Below.refl _ _⟩
end Go.Proofs.YtiedbnjoomcdbaaDoor
