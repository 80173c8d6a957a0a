/- strings.IndexRune at a rune beyond ASCII in an ASCII text, strings.IndexAny and ContainsAny at an ASCII set of two bytes or more and any text. -/
import Derived.Test.YtiedbnjoomcdbaaDoorBase
import Derived.Test.YtiedbnjoomcdbaaDoorShelf
import Derived.Test.YtiedbnjoomcdbaaDoorWalk
import Derived.Lib.Hide
import Derived.Lib.MapLaws
import Derived.Lib.DecodeN
import Derived.Lib.TrimUEq
import Derived.Lib.IndexAny
import Derived.Laws.Runes
import Derived.Laws.RangeAny
import Derived.Laws.RangeString
import Derived.Laws.Strings3
import Derived.Deep.LoopGhost
import Derived.Deep.QuietTactic
import Derived.BigQuiet
import Derived.Outline
import Derived.LoopTactic
import Derived.WalkKit
import Derived.Below
import Derived.Lib.OthersKept
set_option linter.unusedVariables false
namespace Go.Proofs.YtiedbnjoomcdbaaDoor
open Go.RowKit Ba

theorem cont_hi (x : Nat) (h : x / 64 = 2) : 128 ≤ x := by omega

/-- A rune that begins with a byte beyond ASCII: it is beyond ASCII itself, and so are all of its bytes. -/
theorem decode_hi (s : ByteArray) (i : Nat) (hi : i < s.size) (h : 128 ≤ (s[i]).toNat) :
    128 ≤ (Utf8.decode s i).1 ∧ (Utf8.decode s i).1 ≤ 1114111 ∧ 1 ≤ (Utf8.decode s i).2 ∧ i + (Utf8.decode s i).2 ≤ s.size ∧ ∀ j, i ≤ j → j < i + (Utf8.decode s i).2 → 128 ≤ (s.data.toList.getD j 0).toNat := by
  rw [Lib.decode_N, ← size_len]
  have hg : s.data.toList.getD i 0 = s[i] := by rw [List.getD_eq_getElem?_getD, data_get? s i hi]; rfl
  have h0 : 128 ≤ (s.data.toList.getD i 0).toNat := by rw [hg]; exact h
  generalize (s.data.toList.getD i 0).toNat = b0 at h0
  have e1 : (s.data.toList.getD (i + 1) 0).toNat = (s.data.toList.getD (i + 1) 0).toNat := rfl
  rcases Lib.decodeN_shape (s.size - i) b0 (s.data.toList.getD (i + 1) 0).toNat (s.data.toList.getD (i + 2) 0).toNat (s.data.toList.getD (i + 3) 0).toNat with h | h | h | h | h
  · omega
  · obtain ⟨a1, a2, a3, a4, a5⟩ := h
    rw [a5]
    refine ⟨a4, by omega, by omega, by simp only; omega, fun j h1 h2 => ?_⟩
    simp only at h2
    obtain rfl | rfl : j = i ∨ j = i + 1 := by omega
    · rw [hg]; exact ‹128 ≤ (s[j]).toNat›
    · exact cont_hi _ a3
  · obtain ⟨a1, a2, a3, a3', a4, a4', a5⟩ := h
    rw [a5]
    refine ⟨by simp only; omega, by simp only; omega, by simp only; omega, by simp only; omega, fun j h1 h2 => ?_⟩
    simp only at h2
    obtain rfl | rfl | rfl : j = i ∨ j = i + 1 ∨ j = i + 2 := by omega
    · rw [hg]; exact ‹128 ≤ (s[j]).toNat›
    · exact cont_hi _ a3
    · exact cont_hi _ a3'
  · obtain ⟨a1, a2, a3, a3', a3'', a4, a4', a5⟩ := h
    rw [a5]
    refine ⟨by simp only; omega, by simp only; omega, by simp only; omega, by simp only; omega, fun j h1 h2 => ?_⟩
    simp only at h2
    obtain rfl | rfl | rfl | rfl : j = i ∨ j = i + 1 ∨ j = i + 2 ∨ j = i + 3 := by omega
    · rw [hg]; exact ‹128 ≤ (s[j]).toNat›
    · exact cont_hi _ a3
    · exact cont_hi _ a3'
    · exact cont_hi _ a3''
  · rw [h]
    refine ⟨by simp only; omega, by simp only; omega, by simp only; omega, by simp only; omega, fun j h1 h2 => ?_⟩
    simp only at h2
    obtain rfl : j = i := by omega
    rw [hg]; exact ‹128 ≤ (s[j]).toNat›

set_option maxHeartbeats 8000000 in
set_option maxRecDepth 1000000 in
/-- strings.IndexRune: a rune beyond ASCII is not in an ASCII text. -/
theorem indexRune_hi (s : ByteArray) (r : Int) (w : World) (hs : s.size ≤ 1000) (ha : ∀ (j : Nat) b, s.data.toList[j]? = some b → b.toNat < 128) (h1 : 128 ≤ r) (h2 : r ≤ 1114111) :
    Calls Tryd.prog 90 #[.string s, .int .i32 r] w fun e w' => e = .returned (.int .i64 (-1)) ∧ Below w.heap.size w w' := by
  have HA := Lib.hid ha
  clear ha
  by_cases he : r = 65533
  · subst he
    have q : ((65533 : Int) == 65533) = true := rfl
    go_enter Tryd.func90, Tryd.ntmps90
    go_wp2
    go_loopg [5, 6] s.size (fun g _ _ wx => ∃ i : Nat, i + g = s.size ∧ wx = w.iter s i)
    case atStart => exact ⟨0, by omega, rfl⟩
    case round =>
      obtain ⟨i, hig, rfl⟩ := hrel
      cases gk with
      | zero =>
        obtain rfl : i = s.size := by omega
        have hnx := run_next_end (P := Tryd.prog) w s s.size
        go_wp2
        go_ret
        exact ⟨rfl, (Below.refl _ _).alloc (Nat.le_refl _) _⟩
      | succ g =>
        have hi : i < s.size := by omega
        obtain ⟨x, hx⟩ : ∃ x : UInt8, s[i]'hi = x := ⟨_, rfl⟩
        have hx128 : x.toNat < 128 := HA.out i x (by rw [← hx]; exact data_get? s i hi)
        have hnx := fun ty => run_next_ascii (P := Tryd.prog) w s i ty hi (by rw [hx]; exact hx128)
        rw [hx] at hnx
        have q2 : ((x.toNat : Int) == 65533) = false := beq_eq_false_iff_ne.mpr (by omega)
        clear hx
        go_wp2
        go_roundg g
        case measure => omega
        case rel => exact ⟨i + 1, by omega, rfl⟩
  · have q : (r == 65533) = false := beq_eq_false_iff_ne.mpr he
    cases hv : Lib.validRune r with
    | false =>
      go_enter Tryd.func90, Tryd.ntmps90
      go_wp2_with (go_at_call 96; refine (Tryd.utf8_ValidRune _ _).mono ?_; rintro e w' ⟨rfl, rfl⟩)
      go_ret
      exact ⟨rfl, Below.refl _ _⟩
    | true =>
      have hv' : Utf8.valid r = true := by rw [validRune_eq]; exact hv
      obtain ⟨f1, f2, f3⟩ := encode_facts r hv' h1
      obtain ⟨t, ht⟩ : ∃ t, Utf8.encode r = t := ⟨_, rfl⟩
      rw [ht] at f1 f2 f3
      have hz : t.size - 1 < t.size := by omega
      obtain ⟨d, hd⟩ : ∃ d, t[t.size - 1]'hz = d := ⟨_, rfl⟩
      have hd128 : 128 ≤ d.toNat := by rw [← hd]; exact f3 hz
      clear f3
      have hsz : (t.size : Int) - 1 = ((t.size - 1 : Nat) : Int) := by omega
      have hib : Lib.indexByte (List.take (s.size - (t.size - 1 + 1)) (List.drop (t.size - 1 + 1) s.data.toList)) d < 0 := by
        rw [List.take_of_length_le (by rw [List.length_drop, ← size_len]; exact Nat.le_refl _)]
        generalize t.size - 1 + 1 = k
        have h1 := ib_ge (s.data.toList.drop k) d
        by_cases h2 : Lib.indexByte (s.data.toList.drop k) d = -1
        · omega
        · exfalso
          obtain ⟨o, ho⟩ : ∃ o : Nat, Lib.indexByte (s.data.toList.drop k) d = o := ⟨(Lib.indexByte (s.data.toList.drop k) d).toNat, by omega⟩
          have := (Lib.indexByte_some ho).1
          rw [List.getElem?_drop] at this
          have := HA.out _ _ this
          omega
      by_cases hl : t.size - 1 < s.size
      · obtain ⟨y, hy⟩ : ∃ y, s[t.size - 1]'hl = y := ⟨_, rfl⟩
        have hy128 : y.toNat < 128 := HA.out _ y (by rw [← hy]; exact data_get? s _ hl)
        have qn : ((y.toNat : Int) != (d.toNat : Int)) = true := bne_iff_ne.mpr (by omega)
        go_enter Tryd.func90, Tryd.ntmps90
        go_wp2_with (go_at_call 96; refine (Tryd.utf8_ValidRune _ _).mono ?_; rintro e w' ⟨rfl, rfl⟩)
        go_step3
        go_wp2
        refine wp_loop_rounds 1 ?_
        rw [rounds_succ]
        go_wp2
        go_step3
        go_wp2
        go_quiet (fail)
        go_wp2
        have i1 : IntKind.i64.wrap (((t.size - 1 : Nat) : Int) + 1) = ((t.size - 1 : Nat) : Int) + 1 := wrap_small _ (by omega) (by omega)
        go_quiet ((go_at_call 53; exact q_addS (Tryd.strings_IndexByte _ _ _)))
        go_wp2
        rw [Exit.noGoto_ret]
        go_wp2
        rw [Exit.noGoto_ret]
        go_ret
        exact ⟨rfl, below_dr (Below.refl _ _) _⟩
      · go_enter Tryd.func90, Tryd.ntmps90
        go_wp2_with (go_at_call 96; refine (Tryd.utf8_ValidRune _ _).mono ?_; rintro e w' ⟨rfl, rfl⟩)
        go_step3
        go_wp2
        refine wp_loop_rounds 1 ?_
        rw [rounds_succ]
        go_wp2
        rw [Exit.noGoto_ret]
        go_ret
        exact ⟨rfl, Below.refl _ _⟩

theorem noAny_run {s chars : List UInt8} {i n : Nat} (h : Lib.NoAny s chars i) (hc : ∀ (j : Nat) b, chars[j]? = some b → b.toNat < 128) (hj : ∀ j, i ≤ j → j < i + n → 128 ≤ (s.getD j 0).toNat) : Lib.NoAny s chars (i + n) := by
  intro j b hjl hb
  by_cases hij : j < i
  · exact h j b hij hb
  · have h1 := hj j (by omega) hjl
    rw [List.getD_eq_getElem?_getD, hb] at h1
    cases hcon : chars.contains b with
    | false => rfl
    | true =>
      have hm := List.contains_iff_mem.mp hcon
      obtain ⟨k, hk, hkb⟩ := List.getElem_of_mem hm
      have := hc k b (by rw [List.getElem?_eq_getElem hk, hkb])
      simp at h1; omega

set_option maxHeartbeats 8000000 in
set_option maxRecDepth 1000000 in
/-- strings.IndexAny at a short text of whatever bytes. -/
theorem indexAny_short (s chars : ByteArray) (w : World) (h2 : 2 ≤ chars.size) (hc : chars.size ≤ 1000) (h8 : s.size ≤ 8) (hac : ∀ (j : Nat) b, chars.data.toList[j]? = some b → b.toNat < 128) :
    Calls Tryd.prog 82 #[.string s, .string chars] w fun e w' => e = .returned (.int .i64 (Lib.indexAny s.data.toList chars.data.toList)) ∧ Below w.heap.size w w' := by
  have HA := Lib.hid hac
  clear hac
  have he := nonempty' chars (by omega)
  have hn1 : ((chars.size : Int) == 1) = false := beq_eq_false_iff_ne.2 (by omega)
  have h8z : decide ((8 : Int) < (s.size : Int)) = false := decide_eq_false (by omega)
  go_enter Tryd.func82, Tryd.ntmps82
  go_wp2_with (go_at_call 91; refine (Tryd.strings_shouldUseASCIISet _ _).mono ?_; rintro e w' ⟨rfl, hw⟩; rw [hw, h8z])
  go_loopg [9, 10] s.size (fun g _ _ wx => ∃ i : Nat, i ≤ s.size ∧ s.size ≤ i + g ∧ wx.heap[w.heap.size]? = some (.stringIter s i) ∧ Below w.heap.size w wx ∧ Lib.NoAny s.data.toList chars.data.toList i)
  case atStart => exact ⟨0, Nat.zero_le _, by omega, World.iter_heap _ _ _, (Below.refl _ _).alloc (Nat.le_refl _) _, Lib.NoAny.zero _ _⟩
  case round =>
    obtain ⟨i, hile, hig, hk, hbl, hno⟩ := hrel
    have HN := Lib.hid hno
    have HK := Lib.hid hk
    have HBL := Lib.hid hbl
    clear hno hbl
    by_cases hi : i < s.size
    · obtain ⟨g, rfl⟩ : ∃ g, gk = g + 1 := ⟨gk - 1, by omega⟩
      obtain ⟨x, hx⟩ : ∃ x : UInt8, s[i]'hi = x := ⟨_, rfl⟩
      have Hx : Hid (s.data.toList[i]? = some x) := Lib.hid (by rw [← hx]; exact data_get? s i hi)
      by_cases h128 : x.toNat < 128
      · have hnx := fun ty => Lib.run_next_ascii_at (P := Tryd.prog) wr w.heap.size s i ty hk hi (by rw [hx]; exact h128)
        rw [hx] at hnx
        clear hx hk
        have hcon := Lib.contains_iff_indexByte chars.data.toList x
        have hback : ((x.toNat : Int)).toNat.toUInt8 = x := by simp
        cases hin : chars.data.toList.contains x
        · rw [hin] at hcon
          have hlt : ¬ ((0 : Int) ≤ Lib.indexByte chars.data.toList x) := of_decide_eq_false hcon.symm
          clear hcon
          go_wp2_with (go_at_call 90; refine (Tryd.strings_IndexRune_ascii _ _ _ (by omega) (by omega)).mono ?_; rintro e w' ⟨rfl, hw⟩; rw [hw, hback])
          go_roundg g
          case measure => omega
          case rel => exact ⟨i + 1, by omega, by omega, Lib.iterAt_heap _ _ _ _ _ HK.out, Lib.below_iterAt HBL.out (Nat.le_refl _) _ _, HN.out.succ Hx.out hin⟩
        · rw [hin] at hcon
          have hge : (0 : Int) ≤ Lib.indexByte chars.data.toList x := of_decide_eq_true hcon.symm
          clear hcon
          go_wp2_with (go_at_call 90; refine (Tryd.strings_IndexRune_ascii _ _ _ (by omega) (by omega)).mono ?_; rintro e w' ⟨rfl, hw⟩; rw [hw, hback])
          go_ret
          exact ⟨by rw [Lib.indexAny_hit HN.out Hx.out hin]; rfl, Lib.below_iterAt HBL.out (Nat.le_refl _) _ _⟩
      · have hd := decode_hi s i hi (by rw [hx]; omega)
        obtain ⟨d1, d2, d3, d4, d5⟩ := hd
        have D5 := Lib.hid d5
        clear d5 hx
        obtain ⟨r, hr⟩ : ∃ r, (Utf8.decode s i).1 = r := ⟨_, rfl⟩
        obtain ⟨m, hm⟩ : ∃ m, (Utf8.decode s i).2 = m := ⟨_, rfl⟩
        have hnx := fun ty => Lib.run_next_any_at (P := Tryd.prog) wr w.heap.size s i ty hk hi
        simp only [hr, hm] at hnx d1 d2 d3 d4 D5
        clear hr hm hk
        have hmi : ((-1 : Int) ≥ 0) = False := by simp
        go_wp2_with (go_at_call 90; refine (indexRune_hi _ _ _ (by omega) HA.out (by omega) (by omega)).mono ?_; rintro e w1 ⟨rfl, hb1⟩)
        have e1 : w1.heap[w.heap.size]? = some (.stringIter s (i + m)) := by
          have hsz := HBL.out.size
          have hit := Lib.iterAt_heap wr w.heap.size s i (i + m) HK.out
          rw [hb1.block w.heap.size (by
            have := (Array.getElem?_eq_some_iff.1 hit).1
            exact this)]
          exact hit
        go_roundg g
        case measure => omega
        case rel => exact ⟨i + m, by omega, by omega, e1, (Lib.below_iterAt HBL.out (Nat.le_refl _) _ _).trans (hb1.mono (by rw [Lib.iterAt_size]; exact HBL.out.size)), noAny_run HN.out HA.out D5.out⟩
    · obtain rfl : i = s.size := by omega
      have hnx := fun ty => Lib.run_next_end_at (P := Tryd.prog) wr w.heap.size s s.size ty hk (by omega)
      clear hk
      go_wp2
      go_ret
      exact ⟨by rw [Lib.indexAny_none (by rw [← Lib.size_eq]; exact HN.out)]; rfl, HBL.out⟩

theorem zero256 : (Tryd.prog.info? 110).map (fun i => (i.zero, i.size)) = some (some (.agg (Array.replicate 256 (.bool false))), 256) := by kernel_rfl

/-- strings.IndexAny at an ASCII set of two bytes or more. -/
theorem indexAny (s chars : ByteArray) (w : World) (h2 : 2 ≤ chars.size) (hc : chars.size ≤ 1000) (hs : s.size < 4294967281) (hac : ∀ (j : Nat) b, chars.data.toList[j]? = some b → b.toNat < 128) :
    Calls Tryd.prog 82 #[.string s, .string chars] w fun e w' => e = .returned (.int .i64 (Lib.indexAny s.data.toList chars.data.toList)) ∧ Below w.heap.size w w' := by
  by_cases h8 : s.size ≤ 8
  · exact indexAny_short s chars w h2 hc h8 hac
  · refine (Tryd.strings_IndexAny_long (zero_of_info zero256).1 s chars w h2 (by omega) hs (by omega) hac).mono ?_
    rintro e w' ⟨he, rfl⟩
    exact ⟨he, ((Below.refl _ _).alloc (Nat.le_refl _) _).alloc (by simp) _⟩


theorem containsAny_any (s chars : List UInt8) : Lib.containsAny s chars = s.any fun c => chars.contains c := by
  unfold Lib.containsAny
  induction s with
  | nil => simp [Lib.indexAny]
  | cons b l ih =>
    have hg := Lib.indexAny_ge chars l
    simp only [Lib.indexAny, List.any_cons]
    by_cases hb : chars.contains b = true
    · simp only [if_pos hb]; rw [hb]; simp
    · have hb' : chars.contains b = false := by simpa using hb
      simp only [if_neg hb]
      rw [hb', Bool.false_or, ← ih]
      by_cases h : Lib.indexAny l chars = -1
      · rw [h]; rfl
      · simp only [if_neg (show ¬ ((Lib.indexAny l chars == -1) = true) by simpa using h)]
        rw [Bool.eq_iff_iff, decide_eq_true_iff, decide_eq_true_iff]; omega
end Go.Proofs.YtiedbnjoomcdbaaDoor
