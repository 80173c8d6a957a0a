/- The walks of package rule's hand-told functions. -/
import Derived.Test.YtapfblaejmenlaaDoorRuleP
import Derived.Test.YtapfblaejmenlaaDoorFieldW
import Derived.Test.YtapfblaejmenlaaDoorBld2
import Derived.Test.YtapfblaejmenlaaDoorShelf
import Derived.Test.YtapfblaejmenlaaDoorTrim
import Derived.Test.YtapfblaejmenlaaDoorRune
set_option linter.unusedVariables false
set_option linter.unusedSimpArgs false
namespace Go.Proofs.YtapfblaejmenlaaDoor
open Go.RowKit Ba Go.Proofs.YtapfblaejmenlaaDoorW.PrintWords Go.Proofs.YtapfblaejmenlaaDoorW.PrintLast

def longFn : Nat := 20

set_option maxRecDepth 1000000 in
theorem indexLong (A : Option Addr) (cap : Nat) (l : List ByteArray) (w : World) (hr : Kd.C Kd.string w A l.length l) (hc : l.length ≤ cap) (hl : l.length ≤ 1000000000) :
    Calls Tryd.prog 36 #[.slice A l.length cap, .func (.func 20) #[] #[]] w fun e w' => ∃ r : Int, e = .returned (.int .i64 r) ∧ decide (r ≥ 0) = l.any (fun s => decide (255 < s.size)) ∧ Below w.heap.size w w' := by
  have HR := Lib.hid hr
  clear hr
  obtain ⟨B, hB⟩ : ∃ B, w.heap.size = B := ⟨_, rfl⟩
  go_enter Tryd.func36, Tryd.ntmps36
  go_wp2
  go_loopw [8] (fun v8 wr => ∃ k : Nat, k ≤ l.length ∧ v8 = .int .i64 k ∧ Hid (l.any (fun s => decide (255 < s.size)) = (l.drop k).any (fun s => decide (255 < s.size))) ∧ Below B w wr) (fun v8 _ => l.length - (intOf v8).toNat)
  case atStart => exact ⟨0, Nat.zero_le _, rfl, Lib.hid rfl, Below.refl _ _⟩
  case round =>
    obtain ⟨k, hk, rfl, HQ, hbel⟩ := hrel
    by_cases hlt : k < l.length
    · have d0 : decide ((k : Int) < (l.length : Int)) = true := decide_eq_true (by omega)
      obtain ⟨ad, ea, hx⟩ := Kd.at_string (Kd.C_below HR.out (hB ▸ hbel)) (k : Int) (by omega) (by omega)
      cases ea
      have hd : l.drop k = l[k] :: l.drop (k + 1) := List.drop_eq_getElem_cons hlt
      have hrd : rdOf ByteArray.empty l (k : Int) = l[k] := by unfold rdOf; simp [List.getD_eq_getElem?_getD, hlt]
      rw [hrd] at hx
      have HD := Lib.hid hd
      clear hd hrd
      generalize l[k] = t at hx HD
      have hx' : wr.cell? (ad.add k) = some (.string t) := hx
      clear hx
      have i1 : IntKind.i64.wrap ((k : Int) + 1) = (k : Int) + 1 := wrap_small _ (by omega) (by omega)
      by_cases ht : 255 < t.size
      · have d1 : decide ((255 : Int) < (t.size : Int)) = true := decide_eq_true (by omega)
        have dk : decide (0 ≤ (k : Int)) = true := decide_eq_true (by omega)
        go_wp2
        go_ret
        exact ⟨k, rfl, by rw [HQ.out, HD.out]; simp [ht], hB ▸ hbel⟩
      · have d1 : decide ((255 : Int) < (t.size : Int)) = false := decide_eq_false (by omega)
        go_wp2
        go_roundw
        case rel => exact ⟨k + 1, by omega, by go_num, Lib.hid (by rw [HQ.out, HD.out]; simp [ht]), hbel⟩
        case measure => simp [intOf]; omega
    · have d0 : decide ((k : Int) < (l.length : Int)) = false := decide_eq_false (by omega)
      have HZ : Hid (l.drop k = []) := Lib.hid (List.drop_of_length_le (by omega))
      go_wp2
      go_ret
      exact ⟨-1, rfl, by rw [HQ.out, HZ.out]; rfl, hB ▸ hbel⟩

theorem containsLong (A : Option Addr) (cap : Nat) (l : List ByteArray) (w : World) (hr : Kd.C Kd.string w A l.length l) (hc : l.length ≤ cap) (hl : l.length ≤ 1000000000) :
    Calls Tryd.prog 19 #[.slice A l.length cap, .func (.func longFn) #[] #[]] w fun e w' => e = .returned (.bool (l.any fun s => decide (255 < s.size))) ∧ Below w.heap.size w w' := by
  unfold longFn
  have h := indexLong A cap l w hr hc hl
  clear hr
  go_enter Tryd.func19, Tryd.ntmps19
  go_wp2_with (go_at_call 36; refine h.mono ?_; rintro e w' ⟨r, rfl, hr, hb⟩)
  go_ret
  exact ⟨rfl, hb⟩
end Go.Proofs.YtapfblaejmenlaaDoor
