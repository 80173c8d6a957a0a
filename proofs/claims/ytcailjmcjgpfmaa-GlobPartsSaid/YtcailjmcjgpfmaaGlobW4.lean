/- walks: Match -/
import Derived.Test.YtcailjmcjgpfmaaGlobM
set_option linter.unusedVariables false
namespace Go.Proofs.Ytcailjmcjgpfmaa
open Go.RowKit Ba

def isT : Value → Bool
  | .bool b => b
  | _ => false

/-- The loop of Match: what holds of its variables. -/
def MRel (p0 s0 : ByteArray) (w : World) (v0 v1 v5 v6 v7 : Value) (wr : World) : Prop :=
  ∃ (p s a r : ByteArray) (st : Bool) (n : Nat), v0 = .string p ∧ v1 = .string s ∧ v5 = .string a ∧ v6 = .string r ∧ v7 = .bool st ∧ wr = w.drewN n ∧
    p.size ≤ p0.size ∧ s.size ≤ s0.size ∧ a.size ≤ p0.size ∧ (st = true → r.size ≤ s0.size ∧ s.size ≤ r.size) ∧ GP.Kept p0.data.toList s0.data.toList p.data.toList s.data.toList a.data.toList r.data.toList st

set_option maxHeartbeats 4000000 in
theorem match_ (p0 s0 : ByteArray) (w : World) (hp : p0.size ≤ 140737488355328) (hs : s0.size ≤ 140737488355328) :
    Calls Try.prog 11 #[.string p0, .string s0] w fun e w' => e = .returned (.bool (GP.M p0.data.toList s0.data.toList)) ∧ ∃ n, w' = w.drewN n := by
  go_enter Try.func11, Try.ntmps11
  go_wp2
  go_loopw [0, 1, 5, 6, 7] (MRel p0 s0 w) (fun v0 v1 _ v6 v7 _ => GP.left (p0.size + s0.size) (strLen v0) (strLen v1) (strLen v6) (isT v7) s0.size)
  case atStart => exact ⟨p0, s0, _, _, false, 0, rfl, rfl, rfl, rfl, rfl, rfl, Nat.le_refl _, Nat.le_refl _, Nat.zero_le _, (fun h => absurd h Bool.false_ne_true), GP.Kept.start _ _ _ _⟩
  case round =>
    obtain ⟨p, s, a, r, st, n, rfl, rfl, rfl, rfl, rfl, rfl, hpl, hsl, hal, hrl, hk⟩ := hrel
    have HRL := Lib.hid hrl
    have HK := Lib.hid hk
    clear hrl hk
    by_cases p0z : 0 < p.size
    · have pe := nonempty p p0z
      have pe' := nonempty' p p0z
      obtain ⟨x, hx⟩ : ∃ x, p[0]'p0z = x := ⟨_, rfl⟩
      have HC : Hid (p.data.toList = x :: (p.extract 1 p.size).data.toList) := Lib.hid (by rw [← hx]; exact cons1 p p0z)
      by_cases x42 : (x.toNat : Int) = 42
      · have q42 : ((x.toNat : Int) == 42) = true := beq_iff_eq.mpr x42
        have F : Hid (x = 42) := Lib.hid (toNat_eq (k := 42) (by omega) q42)
        go_wp2
        go_roundw
        case rel =>
          have hk := HK.out
          rw [HC.out, F.out] at hk
          exact ⟨_, s, _, s, true, n, rfl, rfl, rfl, rfl, rfl, rfl, by rw [tail_size]; omega, hsl, by rw [tail_size]; omega, fun _ => ⟨hsl, Nat.le_refl _⟩, hk.star⟩
        case measure =>
          simp only [strLen, isT, tail_size]
          have h1 := GP.left_star (L := p0.size + s0.size) (p := p.size - 1) (s := s.size) (rest := r.size) (s0 := s0.size) (star := st) (by
            cases st with
            | true => exact (HRL.out (by simp)).2
            | false => simp; omega)
          rw [show p.size - 1 + 1 = p.size by omega] at h1
          exact h1
      · have q42 : ((x.toNat : Int) == 42) = false := beq_eq_false_iff_ne.mpr x42
        have F : Hid (x ≠ 42) := Lib.hid (toNat_ne (k := 42) (by omega) q42)
        by_cases s0z : 0 < s.size
        · have se := nonempty s s0z
          have se' := nonempty' s s0z
          obtain ⟨c, hc⟩ : ∃ c, s[0]'s0z = c := ⟨_, rfl⟩
          have HS : Hid (s.data.toList = c :: (s.extract 1 s.size).data.toList) := Lib.hid (by rw [← hc]; exact cons1 s s0z)
          have k1 := GP.oneK_pos p.data.toList
          by_cases ho : GP.oneB p.data.toList c = true
          · go_wp2_with (go_at_call 20; refine (one p c _ p0z (by omega)).mono ?_; rintro e w' ⟨rfl, m, rfl⟩)
            go_quiet (fail)
            go_wp2
            go_roundw
            case rel =>
              have hk := HK.out
              rw [HC.out, HS.out] at hk
              have ho' := ho
              rw [HC.out] at ho'
              refine ⟨_, _, a, r, st, _, rfl, rfl, rfl, rfl, rfl, World.drewN_drewN _ _ _, by rw [tail_size]; omega, by rw [tail_size]; omega, hal, fun h => ⟨(HRL.out h).1, by rw [tail_size]; have := (HRL.out h).2; omega⟩, ?_⟩
              rw [drop_ext, HC.out]
              exact hk.step F.out ho'
            case measure => exact GP.left_step (by simp only [strLen, tail_size]; omega)
          · have ho' : GP.oneB p.data.toList c = false := by simpa using ho
            have HM : Hid (p.data.toList = [] ∨ ∃ x r, p.data.toList = x :: r ∧ x ≠ 42 ∧ GP.oneB p.data.toList c = false) := Lib.hid (.inr ⟨x, _, HC.out, F.out, ho'⟩)
            by_cases r0z : 0 < r.size
            · have re := nonempty r r0z
              have re' := nonempty' r r0z
              cases st with
              | true =>
                go_wp2_with (go_at_call 20; refine (one p c _ p0z (by omega)).mono ?_; rintro e w' ⟨rfl, m, rfl⟩)
                go_roundw
                case rel =>
                  have hk := HK.out
                  rw [HS.out, cons1 r r0z] at hk
                  exact ⟨a, _, a, _, true, _, rfl, rfl, rfl, rfl, rfl, rfl, hal, by rw [tail_size]; have := (HRL.out (by simp)).1; omega, hal, fun _ => ⟨by rw [tail_size]; have := (HRL.out (by simp)).1; omega, Nat.le_refl _⟩, hk.again HM.out⟩
                case measure =>
                  simp only [strLen, isT, tail_size]
                  have h2 := HRL.out (by simp)
                  have h1 := GP.left_back (L := p0.size + s0.size) (p := p.size) (s := s.size) (rest := r.size - 1) (s0 := s0.size) (p' := a.size) (s' := r.size - 1) (by omega)
                  rw [show r.size - 1 + 1 = r.size by omega] at h1
                  exact h1
              | false =>
                go_wp2_with (go_at_call 20; refine (one p c _ p0z (by omega)).mono ?_; rintro e w' ⟨rfl, m, rfl⟩)
                go_ret
                have hk := HK.out
                rw [HS.out] at hk
                exact ⟨ret_bool (hk.none HM.out (.inl rfl)).symm, _, rfl⟩
            · have re := empty r r0z
              have re' := empty' r r0z
              have hn := Lib.hid (nil0 r r0z)
              cases st with
              | true =>
                go_wp2_with (go_at_call 20; refine (one p c _ p0z (by omega)).mono ?_; rintro e w' ⟨rfl, m, rfl⟩)
                go_ret
                have hk := HK.out
                rw [HS.out] at hk
                exact ⟨ret_bool (hk.none HM.out (.inr hn.out)).symm, _, rfl⟩
              | false =>
                go_wp2_with (go_at_call 20; refine (one p c _ p0z (by omega)).mono ?_; rintro e w' ⟨rfl, m, rfl⟩)
                go_ret
                have hk := HK.out
                rw [HS.out] at hk
                exact ⟨ret_bool (hk.none HM.out (.inl rfl)).symm, _, rfl⟩
        · have se := empty s s0z
          have se' := empty' s s0z
          have hn := Lib.hid (nil0 s s0z)
          go_wp2
          go_ret
          have hk := HK.out
          rw [hn.out] at hk
          refine ⟨ret_bool ?_, n, rfl⟩
          rw [hk.ended (by rw [HC.out]; simpa using F.out), HC.out]; rfl
    · have pe := empty p p0z
      have pe' := empty' p p0z
      have hp0 := Lib.hid (nil0 p p0z)
      by_cases s0z : 0 < s.size
      · have se := nonempty s s0z
        have se' := nonempty' s s0z
        have HS : Hid (s.data.toList = s[0] :: (s.extract 1 s.size).data.toList) := Lib.hid (cons1 s s0z)
        have HM : ∀ c, Hid (p.data.toList = [] ∨ ∃ x r, p.data.toList = x :: r ∧ x ≠ 42 ∧ GP.oneB p.data.toList c = false) := fun c => Lib.hid (.inl hp0.out)
        by_cases r0z : 0 < r.size
        · have re := nonempty r r0z
          have re' := nonempty' r r0z
          cases st with
          | true =>
            go_wp2
            go_roundw
            case rel =>
              have hk := HK.out
              rw [HS.out, cons1 r r0z] at hk
              exact ⟨a, _, a, _, true, _, rfl, rfl, rfl, rfl, rfl, rfl, hal, by rw [tail_size]; have := (HRL.out (by simp)).1; omega, hal, fun _ => ⟨by rw [tail_size]; have := (HRL.out (by simp)).1; omega, Nat.le_refl _⟩, hk.again (HM _).out⟩
            case measure =>
              simp only [strLen, isT, tail_size]
              have h2 := HRL.out (by simp)
              have h1 := GP.left_back (L := p0.size + s0.size) (p := p.size) (s := s.size) (rest := r.size - 1) (s0 := s0.size) (p' := a.size) (s' := r.size - 1) (by omega)
              rw [show r.size - 1 + 1 = r.size by omega] at h1
              exact h1
          | false =>
            go_wp2
            go_ret
            have hk := HK.out
            rw [HS.out] at hk
            exact ⟨ret_bool (hk.none (HM _).out (.inl rfl)).symm, _, rfl⟩
        · have re := empty r r0z
          have re' := empty' r r0z
          have hn := Lib.hid (nil0 r r0z)
          cases st with
          | true =>
            go_wp2
            go_ret
            have hk := HK.out
            rw [HS.out] at hk
            exact ⟨ret_bool (hk.none (HM _).out (.inr hn.out)).symm, _, rfl⟩
          | false =>
            go_wp2
            go_ret
            have hk := HK.out
            rw [HS.out] at hk
            exact ⟨ret_bool (hk.none (HM _).out (.inl rfl)).symm, _, rfl⟩
      · have se := empty s s0z
        have se' := empty' s s0z
        have hn := Lib.hid (nil0 s s0z)
        go_wp2
        go_ret
        have hk := HK.out
        rw [hn.out] at hk
        refine ⟨ret_bool ?_, n, rfl⟩
        rw [hk.ended (by rw [hp0.out]; simp), hp0.out]; rfl
end Go.Proofs.Ytcailjmcjgpfmaa
