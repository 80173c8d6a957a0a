/- The document's set: what it says of names, walked. -/
import Derived.Test.YtpgfffibiogekaaRefW
import Derived.Test.YtpgfffibiogekaaRefR
set_option linter.unusedVariables false
set_option linter.unusedSimpArgs false
namespace Go.Proofs.Ytpgfffibiogekaa.MS
open Go.RowKit Go.Proofs.YtpgfffibiogekaaW.PrintWords Go.Proofs.YtpgfffibiogekaaW.PrintLast Go.Proofs.YtpgfffibiogekaaW.PrintMore

def inL (l : List V3) (n : Int) (s : ByteArray) : Option ByteArray := (l.find? (hitV n s)).map fun x => x.2.2
theorem at_cases (n : Int) (s : ByteArray) : ∀ (l : List V3) (i : Nat), (l.find? (hitV n s) = none ∧ atR n s l i = -1) ∨ ∃ (j : Nat) (hj : j < l.length), atR n s l i = ((i + j : Nat) : Int) ∧ l.find? (hitV n s) = some l[j] ∧ hitV n s l[j] = true ∧ ∀ q (hq : q < l.length), q < j → hitV n s l[q] = false
  | [], i => .inl ⟨rfl, rfl⟩
  | x :: l, i => by
    cases hx : hitV n s x with
    | true => exact .inr ⟨0, by simp, by rw [atR, if_pos hx]; rfl, by rw [List.find?_cons, hx]; rfl, hx, fun q _ h => by omega⟩
    | false =>
      rcases at_cases n s l (i + 1) with ⟨h1, h2⟩ | ⟨j, hj, h1, h2, h3, h4⟩
      · exact .inl ⟨by rw [List.find?_cons, hx]; exact h1, by rw [atR, if_neg (by rw [hx]; simp)]; exact h2⟩
      · refine .inr ⟨j + 1, by simp; omega, by rw [atR, if_neg (by rw [hx]; simp), h1]; omega, by rw [List.find?_cons, hx]; exact h2, h3, fun q hq hlt => ?_⟩
        cases q with
        | zero => exact hx
        | succ q => exact h4 q (by simp at hq; omega) (by omega)
theorem scopeRW (z : Int) (w : World) : Calls Try.prog 45 #[.int .i64 z] w fun e w' => e = .returned (.bool (isSc z)) ∧ w' = w := by
  go_enter Try.func45, Try.ntmps45
  by_cases h1 : (1 : Int) ≤ z
  · by_cases h2 : z ≤ 4
    · have e1 : decide ((1 : Int) ≤ z) = true := decide_eq_true h1
      have e2 : decide (z ≤ (4 : Int)) = true := decide_eq_true h2
      go_wp2
      go_ret
      exact ⟨by simp [isSc, h1, h2], rfl⟩
    · have e1 : decide ((1 : Int) ≤ z) = true := decide_eq_true h1
      have e2 : decide (z ≤ (4 : Int)) = false := decide_eq_false h2
      go_wp2
      go_ret
      exact ⟨by simp [isSc, h1, h2], rfl⟩
  · have e1 : decide ((1 : Int) ≤ z) = false := decide_eq_false h1
    go_wp2
    go_ret
    exact ⟨by rw [isSc, decide_eq_false (by omega : ¬ (1 : Int) ≤ z)]; rfl, rfl⟩
set_option maxHeartbeats 8000000 in
set_option maxRecDepth 100000 in
theorem inRW (w : World) (base r : Nat) (X : Nat → Prop) (l : List V3) (n : Int) (s : ByteArray) (h : RAt w base r X l) (hl : l.length ≤ 1000000) :
    Calls Try.prog 22 #[.pointer (some ⟨r, 0, none⟩), .int .i64 n, .string s] w fun e w' => e = .returned (.tuple #[.string ((inL l n s).getD ByteArray.empty), .bool (inL l n s).isSome]) ∧ w' = w := by
  have hu65 := Try.underlying65
  have HA := atW w base r X l n s h hl
  obtain ⟨hb, hX, v, hblk, hR⟩ := h
  obtain ⟨A, c, rfl⟩ := Kd.R_slice hR
  have hK := Aside0.mk (Kd.R_reads' hR).2.2
  have x0 : w.cell? ⟨r, 0, none⟩ = some (.slice A l.length c) := (blk_cell hblk 0).trans rfl
  clear hR hblk
  go_enter Try.func22, Try.ntmps22
  rcases at_cases n s l 0 with ⟨h1, h2⟩ | ⟨j, hj, h2, h1, -, -⟩
  · have eI : inL l n s = none := by rw [inL, h1]; rfl
    rw [h2] at HA
    clear h1 h2
    go_wp2_with (go_at_call 38; refine HA.mono ?_; rintro e w ⟨rfl, rfl⟩)
    (try simp only [Exit.inBlock, Exit.then])
    refine bodyPost_ret (by simp [results, Try.results22, go_sem]; try rfl) rfl ?_
    exact ⟨by rw [eI]; rfl, rfl⟩
  · have eI : inL l n s = some l[j].2.2 := by rw [inL, h1]; rfl
    obtain ⟨ad, eA, c0, c1, c2⟩ := at_kv hK.out j hj
    obtain ⟨x, hx⟩ : ∃ x, l[j] = x := ⟨_, rfl⟩
    rw [hx] at c0 c1 c2 eI
    subst eA
    rw [Nat.zero_add] at h2
    rw [h2] at HA
    have d0 : decide ((j : Int) < 0) = false := decide_eq_false (by omega)
    clear h1 h2 hx c0 c1
    go_wp2_with (go_at_call 38; refine HA.mono ?_; rintro e w ⟨rfl, rfl⟩)
    (try simp only [Exit.inBlock, Exit.then])
    refine bodyPost_ret (by simp [results, Try.results22, go_sem]; try rfl) rfl ?_
    exact ⟨by rw [eI]; rfl, rfl⟩
def getL (l : List V3) (s : ByteArray) : Option ByteArray := (((inL l 1 s).or (inL l 2 s)).or (inL l 3 s)).or (inL l 4 s)
set_option maxHeartbeats 8000000 in
set_option maxRecDepth 100000 in
theorem getRW (w : World) (base r : Nat) (X : Nat → Prop) (l : List V3) (s : ByteArray) (h : RAt w base r X l) (hl : l.length ≤ 1000000) :
    Calls Try.prog 21 #[.pointer (some ⟨r, 0, none⟩), .string s] w fun e w' => e = .returned (.tuple #[.string ((getL l s).getD ByteArray.empty), .bool (getL l s).isSome]) ∧ w' = w := by
  have hu65 := Try.underlying65
  have HA := fun n : Int => atW w base r X l n s h hl
  obtain ⟨hb, hX, v, hblk, hR⟩ := h
  obtain ⟨A, c, rfl⟩ := Kd.R_slice hR
  have hK := Aside0.mk (Kd.R_reads' hR).2.2
  have x0 : w.cell? ⟨r, 0, none⟩ = some (.slice A l.length c) := (blk_cell hblk 0).trans rfl
  clear hR hblk
  go_enter Try.func21, Try.ntmps21
  go_wp2_with (fail)
  refine wp_loop_rounds 5 ?_
  rw [rounds_succ]
  rcases at_cases 1 s l 0 with ⟨h1, h2⟩ | ⟨j, hj, h2, h1, -, -⟩
  · have eI1 : inL l 1 s = none := by rw [inL, h1]; rfl
    clear h1
    go_wp2_with (go_at_call 38; refine (HA 1).mono ?_; rw [h2]; rintro e w ⟨rfl, rfl⟩)
    clear h2
    rw [rounds_succ]
    rcases at_cases 2 s l 0 with ⟨h1, h2⟩ | ⟨j, hj, h2, h1, -, -⟩
    · have eI2 : inL l 2 s = none := by rw [inL, h1]; rfl
      clear h1
      go_wp2_with (go_at_call 38; refine (HA 2).mono ?_; rw [h2]; rintro e w ⟨rfl, rfl⟩)
      clear h2
      rw [rounds_succ]
      rcases at_cases 3 s l 0 with ⟨h1, h2⟩ | ⟨j, hj, h2, h1, -, -⟩
      · have eI3 : inL l 3 s = none := by rw [inL, h1]; rfl
        clear h1
        go_wp2_with (go_at_call 38; refine (HA 3).mono ?_; rw [h2]; rintro e w ⟨rfl, rfl⟩)
        clear h2
        rw [rounds_succ]
        rcases at_cases 4 s l 0 with ⟨h1, h2⟩ | ⟨j, hj, h2, h1, -, -⟩
        · have eI4 : inL l 4 s = none := by rw [inL, h1]; rfl
          clear h1
          go_wp2_with (go_at_call 38; refine (HA 4).mono ?_; rw [h2]; rintro e w ⟨rfl, rfl⟩)
          clear h2
          rw [rounds_succ]
          go_wp2
          (try simp only [Exit.inBlock, Exit.then])
          refine bodyPost_ret (by simp [results, Try.results21, go_sem]; try rfl) rfl ?_
          exact ⟨by rw [getL, eI1, eI2, eI3, eI4]; rfl, rfl⟩
        · have eI4 : inL l 4 s = some l[j].2.2 := by rw [inL, h1]; rfl
          obtain ⟨ad, eA, c0, c1, c2⟩ := at_kv hK.out j hj
          obtain ⟨x, hx⟩ : ∃ x, l[j] = x := ⟨_, rfl⟩
          rw [hx] at c0 c1 c2 eI4
          subst eA
          rw [Nat.zero_add] at h2
          have d0 : decide ((0 : Int) ≤ (j : Int)) = true := decide_eq_true (by omega)
          clear h1 hx c0 c1
          go_wp2_with (go_at_call 38; refine (HA 4).mono ?_; rw [h2]; rintro e w ⟨rfl, rfl⟩)
          clear h2
          (try simp only [Exit.inBlock, Exit.then])
          refine bodyPost_ret (by simp [results, Try.results21, go_sem]; try rfl) rfl ?_
          exact ⟨by rw [getL, eI1, eI2, eI3, eI4]; rfl, rfl⟩
      · have eI3 : inL l 3 s = some l[j].2.2 := by rw [inL, h1]; rfl
        obtain ⟨ad, eA, c0, c1, c2⟩ := at_kv hK.out j hj
        obtain ⟨x, hx⟩ : ∃ x, l[j] = x := ⟨_, rfl⟩
        rw [hx] at c0 c1 c2 eI3
        subst eA
        rw [Nat.zero_add] at h2
        have d0 : decide ((0 : Int) ≤ (j : Int)) = true := decide_eq_true (by omega)
        clear h1 hx c0 c1
        go_wp2_with (go_at_call 38; refine (HA 3).mono ?_; rw [h2]; rintro e w ⟨rfl, rfl⟩)
        clear h2
        (try simp only [Exit.inBlock, Exit.then])
        refine bodyPost_ret (by simp [results, Try.results21, go_sem]; try rfl) rfl ?_
        exact ⟨by rw [getL, eI1, eI2, eI3]; rfl, rfl⟩
    · have eI2 : inL l 2 s = some l[j].2.2 := by rw [inL, h1]; rfl
      obtain ⟨ad, eA, c0, c1, c2⟩ := at_kv hK.out j hj
      obtain ⟨x, hx⟩ : ∃ x, l[j] = x := ⟨_, rfl⟩
      rw [hx] at c0 c1 c2 eI2
      subst eA
      rw [Nat.zero_add] at h2
      have d0 : decide ((0 : Int) ≤ (j : Int)) = true := decide_eq_true (by omega)
      clear h1 hx c0 c1
      go_wp2_with (go_at_call 38; refine (HA 2).mono ?_; rw [h2]; rintro e w ⟨rfl, rfl⟩)
      clear h2
      (try simp only [Exit.inBlock, Exit.then])
      refine bodyPost_ret (by simp [results, Try.results21, go_sem]; try rfl) rfl ?_
      exact ⟨by rw [getL, eI1, eI2]; rfl, rfl⟩
  · have eI1 : inL l 1 s = some l[j].2.2 := by rw [inL, h1]; rfl
    obtain ⟨ad, eA, c0, c1, c2⟩ := at_kv hK.out j hj
    obtain ⟨x, hx⟩ : ∃ x, l[j] = x := ⟨_, rfl⟩
    rw [hx] at c0 c1 c2 eI1
    subst eA
    rw [Nat.zero_add] at h2
    have d0 : decide ((0 : Int) ≤ (j : Int)) = true := decide_eq_true (by omega)
    clear h1 hx c0 c1
    go_wp2_with (go_at_call 38; refine (HA 1).mono ?_; rw [h2]; rintro e w ⟨rfl, rfl⟩)
    clear h2
    (try simp only [Exit.inBlock, Exit.then])
    refine bodyPost_ret (by simp [results, Try.results21, go_sem]; try rfl) rfl ?_
    exact ⟨by rw [getL, eI1]; rfl, rfl⟩
end Go.Proofs.Ytpgfffibiogekaa.MS
