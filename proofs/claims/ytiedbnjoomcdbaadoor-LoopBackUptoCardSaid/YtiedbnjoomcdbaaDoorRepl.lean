/- strings.ReplaceAll of one byte by two bytes or more: no package-level variable is read. -/
import Derived.Test.YtiedbnjoomcdbaaDoorBase
import Derived.Test.YtiedbnjoomcdbaaDoorShelf
import Derived.Test.YtiedbnjoomcdbaaDoorWalk
import Derived.Test.YtiedbnjoomcdbaaDoorBld
import Derived.Test.YtiedbnjoomcdbaaDoorBld2
import Derived.Lib.Hide
import Derived.LoopTactic
import Derived.WalkKit
import Derived.Below
import Derived.Outline
set_option linter.unusedVariables false
namespace Go.Proofs.YtiedbnjoomcdbaaDoor
open Go.RowKit Ba

/-- a text with each c replaced -/
def repl (c : UInt8) (new l : List UInt8) : List UInt8 := l.flatMap fun x => if x = c then new else [x]
theorem repl_absent (c : UInt8) (new l : List UInt8) (h : l.count c = 0) : repl c new l = l := by
  induction l with
  | nil => rfl
  | cons a l ih =>
    rw [List.count_cons] at h
    have ha : a ≠ c := by rintro rfl; simp at h
    have := ih (by omega)
    unfold repl at this ⊢
    rw [List.flatMap_cons, if_neg ha, this]; rfl
theorem repl_hit (c : UInt8) (new : List UInt8) : ∀ (l : List UInt8), 0 < l.count c → ∃ j : Nat, Lib.indexByte l c = j ∧ j < l.length ∧ repl c new l = l.take j ++ new ++ repl c new (l.drop (j + 1)) ∧ l.count c = (l.drop (j + 1)).count c + 1
  | [], h => by simp at h
  | a :: l, h => by
    by_cases ha : a = c
    · subst ha
      exact ⟨0, by simp [Lib.indexByte], by simp, by simp [repl], by simp⟩
    · have hc : 0 < l.count c := by rw [List.count_cons, if_neg (by simpa using ha)] at h; exact h
      obtain ⟨j, h1, h2, h3, h4⟩ := repl_hit c new l hc
      refine ⟨j + 1, ?_, by simp; omega, ?_, ?_⟩
      · unfold Lib.indexByte
        rw [if_neg (by simpa using ha), h1, if_neg (by intro h; rw [beq_iff_eq] at h; omega)]; omega
      · unfold repl at h3 ⊢
        rw [List.flatMap_cons, if_neg ha, h3]; simp
      · rw [List.count_cons, if_neg (by simpa using ha), h4]; rfl

set_option maxHeartbeats 8000000 in
set_option maxRecDepth 1000000 in
theorem replace_one (s : ByteArray) (c : UInt8) (new : ByteArray) (w : World) (hs : s.size ≤ 100000000) (hn2 : 2 ≤ new.size) (hn8 : new.size ≤ 8) :
    Calls Tryd.prog 59 #[.string s, .string ⟨#[c]⟩, .string new, .int .i64 (-1)] w fun e w' => e = .returned (.string (S (repl c new.data.toList s.data.toList))) ∧ Below w.heap.size w w' := by
  obtain ⟨B, hB⟩ : ∃ B, w.heap.size = B := ⟨_, rfl⟩
  have hne : ((⟨#[c]⟩ : ByteArray).toList == new.toList) = false := by
    rw [beq_eq_false_iff_ne]
    intro h
    rw [Lib.toList_data, Lib.toList_data] at h
    have h1 : new.size = 1 := by rw [size_len, ← h]; rfl
    omega
  have ho1 : (⟨#[c]⟩ : ByteArray).size = 1 := rfl
  obtain ⟨m, hm⟩ : ∃ m : Nat, s.data.toList.count c = m := ⟨_, rfl⟩
  have hms : m ≤ s.size := by rw [← hm, size_len]; exact List.count_le_length
  have hC := Tryd.strings_Count_one s c
  have hI := fun (t : ByteArray) => Tryd.strings_Index_one t c
  obtain ⟨old, ho⟩ : ∃ old, (⟨#[c]⟩ : ByteArray) = old := ⟨_, rfl⟩
  rw [ho] at hne ho1 hC ⊢
  simp only [ho] at hI
  have hC' : ∀ w, Calls Tryd.prog 74 #[.string s, .string old] w fun e w' => e = .returned (.int .i64 m) ∧ w' = w := fun w => by rw [← hm]; exact hC w
  clear hC
  by_cases h0 : m = 0
  · subst h0
    have HA := Lib.hid (repl_absent c new.data.toList _ hm)
    go_enter Tryd.func59, Tryd.ntmps59
    go_wp2_with (go_at_call 74; refine (hC' _).mono ?_; rintro e w' ⟨rfl, rfl⟩)
    go_ret
    exact ⟨by rw [HA.out, S_data]; rfl, Below.refl _ _⟩
  · have z1 : ((m : Int) == 0) = false := beq_eq_false_iff_ne.mpr (by omega)
    have i1 : IntKind.i64.wrap ((new.size : Int) - 1) = ((new.size - 1 : Nat) : Int) := by rw [wrap_small _ (by omega) (by omega)]; omega
    obtain ⟨d, hd⟩ : ∃ d, new.size - 1 = d := ⟨_, rfl⟩
    have hmd : m * d ≤ 800000000 := Nat.le_trans (Nat.mul_le_mul (Nat.le_trans hms hs) (show d ≤ 8 by omega)) (by decide)
    have i2 : IntKind.i64.wrap ((m : Int) * ((new.size - 1 : Nat) : Int)) = ((m * d : Nat) : Int) := by rw [hd, ← Int.natCast_mul, wrap_small _ (by omega) (by omega)]
    have i3 : IntKind.i64.wrap ((s.size : Int) + ((m * d : Nat) : Int)) = ((s.size + m * d : Nat) : Int) := by rw [wrap_small _ (by omega) (by omega)]; omega
    have HM := Lib.hid hm
    go_enter Tryd.func59, Tryd.ntmps59
    go_wp2_with (go_at_call 74; refine (hC' _).mono ?_; rintro e w' ⟨rfl, rfl⟩)
    rw [show (s.size : Int) + (m : Int) * (d : Int) = ((s.size + m * d : Nat) : Int) by omega]
    refine (Tryd.Builder_Grow_fresh B B (s.size + m * d) _ (Nat.le_refl _) (by subst hB; unfold World.alloc; exact Array.getElem?_push_size) (by subst hB; unfold World.alloc; simp only [Array.size_push]; omega) (by omega)).mono ?_
    rintro e w1 ⟨rfl, hbld0, hbel0⟩
    have hb0 : Bld B B [] w1 := .inr hbld0
    clear hbld0
    have hbel : Below B w' w1 := ((Below.refl B w').alloc (by omega) _).trans hbel0
    have hsz1 : B ≤ w1.heap.size := hB ▸ hbel.size
    clear hbel0
    go_wp2
    go_loopw [11, 53] (fun v11 v53 wr => ∃ (k i : Nat) (acc : List UInt8), v11 = .int .i64 k ∧ v53 = .int .i64 i ∧ k ≤ s.size ∧ i + (s.data.toList.drop k).count c = m ∧ acc.length ≤ 8 * k ∧ Hid (repl c new.data.toList s.data.toList = acc ++ repl c new.data.toList (s.data.toList.drop k)) ∧ Bld B B acc wr ∧ Below B w' wr ∧ B ≤ wr.heap.size) (fun _ v53 _ => m - (intOf v53).toNat)
    case atStart => exact ⟨0, 0, [], rfl, rfl, Nat.zero_le _, by simpa using HM.out, by simp, Lib.hid rfl, hb0, hbel, hsz1⟩
    case round =>
      obtain ⟨k, i, acc, rfl, rfl, hk, hi, hal, HQ, hbld, hbel2, hsz⟩ := hrel
      obtain ⟨t, ht⟩ : ∃ t, s.extract k s.size = t := ⟨_, rfl⟩
      have hts : t.size = s.size - k := by rw [← ht, tail_size]
      have htd : t.data.toList = s.data.toList.drop k := by rw [← ht, data_extract, List.take_of_length_le (by rw [List.length_drop, ← size_len]; exact Nat.le_refl _)]
      have hk' : (k : Int) ≤ (s.size : Int) := by omega
      rw [← htd] at hi HQ
      by_cases hlt : i < m
      · have d0 : decide ((i : Int) < (m : Int)) = true := decide_eq_true (by omega)
        obtain ⟨j, h1, h2, h3, h4⟩ := repl_hit c new.data.toList t.data.toList (by omega)
        rw [← size_len] at h2
        have hI' := hI t
        rw [h1] at hI'
        clear h1
        obtain ⟨u, hu⟩ : ∃ u, s.extract k (k + j) = u := ⟨_, rfl⟩
        have hud : u.data.toList = t.data.toList.take j := by rw [← hu, data_extract, htd, Nat.add_sub_cancel_left]
        have hus : u.size = j := by rw [size_len, hud, List.length_take, ← size_len]; omega
        have hnl : new.data.toList.length = new.size := (size_len new).symm
        have HU := Lib.hid hud
        have HJ := Lib.hid h3
        have HD : Hid (t.data.toList.drop (j + 1) = s.data.toList.drop (k + j + 1)) := Lib.hid (by rw [htd, List.drop_drop, Nat.add_assoc])
        rw [HD.out] at h4
        clear hud h3 htd
        have i4 : IntKind.i64.wrap ((k : Int) + (j : Int)) = ((k + j : Nat) : Int) := by rw [wrap_small _ (by omega) (by omega)]; omega
        have i5 : IntKind.i64.wrap (((k + j : Nat) : Int) + 1) = ((k + j + 1 : Nat) : Int) := by rw [wrap_small _ (by omega) (by omega)]; omega
        have g1 : (k : Int) ≤ (k : Int) + (j : Int) := by omega
        have g2 : (k : Int) + (j : Int) ≤ (s.size : Int) := by omega
        have i6 : IntKind.i64.wrap ((i : Int) + 1) = (i : Int) + 1 := wrap_small _ (by omega) (by omega)
        go_wp2_with (go_at_call 76; refine (hI' _).mono ?_; rintro e w2 ⟨rfl, rfl⟩)
        refine (Bld.writeString B B acc u _ hbld (by omega) (by omega)).mono ?_
        rintro e w3 ⟨rfl, hbld2, hbel3, -⟩
        have hsz2 := hbel3.size
        have hul : u.data.toList.length = j := by rw [← size_len, hus]
        go_wp2_with (fail)
        refine (Bld.writeString B B _ new _ hbld2 (by rw [List.length_append]; omega) (by omega)).mono ?_
        rintro e w4 ⟨rfl, hbld3, hbel4, -⟩
        have hsz3 := hbel4.size
        go_wp2
        go_roundw
        case rel => exact ⟨k + j + 1, i + 1, _, by go_num, by go_num, by omega, by omega, by rw [List.length_append, List.length_append]; omega, Lib.hid (by rw [HQ.out, HJ.out, HD.out, HU.out]; simp), hbld3, (hbel2.trans hbel3).trans hbel4, by omega⟩
        case measure => simp [intOf]; omega
      · have HTD := Lib.hid htd
        clear htd
        have d0 : decide ((i : Int) < (m : Int)) = false := decide_eq_false (by omega)
        have HA := Lib.hid (repl_absent c new.data.toList t.data.toList (by omega))
        have htl : t.data.toList.length = t.size := (size_len t).symm
        go_wp2_with (fail)
        refine (Bld.writeString B B acc t _ hbld (by omega) (by omega)).mono ?_
        rintro e w2 ⟨rfl, hbld2, hbel3, -⟩
        have hsz2 := hbel3.size
        go_wp2_with (fail)
        refine (Bld.string B B _ _ hbld2 (by omega)).mono ?_
        rintro e w3 ⟨rfl, hbel4⟩
        go_wp2
        go_ret
        exact ⟨by rw [HQ.out, HA.out]; rfl, hB ▸ (hbel2.trans hbel3).trans hbel4⟩


/-- strings.ReplaceAll of one byte by two or more. -/
theorem replaceAll_one (s : ByteArray) (c : UInt8) (new : ByteArray) (w : World) (hs : s.size ≤ 100000000) (hn2 : 2 ≤ new.size) (hn8 : new.size ≤ 8) :
    Calls Tryd.prog 47 #[.string s, .string ⟨#[c]⟩, .string new] w fun e w' => e = .returned (.string (S (repl c new.data.toList s.data.toList))) ∧ Below w.heap.size w w' := by
  have h := replace_one s c new w hs hn2 hn8
  go_enter Tryd.func47, Tryd.ntmps47
  go_wp2_with (go_at_call 59; refine h.mono ?_; rintro e w' ⟨rfl, hb⟩)
  go_ret
  exact ⟨rfl, hb⟩
end Go.Proofs.YtiedbnjoomcdbaaDoor
