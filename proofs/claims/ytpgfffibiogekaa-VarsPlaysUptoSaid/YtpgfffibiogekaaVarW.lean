/- The calls of a set of variables, walked: its five maps lie in five blocks. -/
import Derived.Test.YtpgfffibiogekaaMapS
import Derived.Test.YtpgfffibiogekaaWMore
import Derived.Test.YtpgfffibiogekaaRune
import Derived.Lib.SliceRun
import Derived.WalkSpells
import Derived.Deep.QuietTactic
import Derived.BigQuiet
import Derived.Deep.LoopGhost
import Derived.Maps.OwnOps
set_option linter.unusedVariables false
set_option linter.unusedSimpArgs false
namespace Go.Proofs.Ytpgfffibiogekaa.MS
open Go.RowKit Go.Proofs.YtpgfffibiogekaaW.PrintWords Go.Proofs.YtpgfffibiogekaaW.PrintLast Go.Proofs.YtpgfffibiogekaaW.PrintMore

structure SetAt (w : World) (base g : Nat) (m : Nat → Nat) (D : Nat → DataW Unit) : Prop where
  blk : w.heap[g]? = some (.cells #[.map (some (m 0)), .map (some (m 1)), .map (some (m 2)), .map (some (m 3)), .map (some (m 4))] 55 (0, 0))
  ne : ∀ i j, i < 5 → j < 5 → i ≠ j → m i ≠ m j
  ge : base ≤ g ∧ ∀ i, i < 5 → base ≤ m i
  own : ∀ i, i < 5 → Mp w (m i) (D i)
  val : ∀ i s v, i < 5 → look (D i) s = some v → v.size ≤ 65536
  cnt : ∀ i, i < 5 → Maps.size (D i) ≤ 1024
theorem lt5 {n : Nat} (h : n < 5) : n = 0 ∨ n = 1 ∨ n = 2 ∨ n = 3 ∨ n = 4 := by omega
theorem SetAt.cell {w : World} {base g : Nat} {m : Nat → Nat} {D : Nat → DataW Unit} (h : SetAt w base g m D) (n : Nat) (hn : n < 5) : w.cell? ⟨g, n, none⟩ = some (.map (some (m n))) := by
  rcases lt5 hn with rfl | rfl | rfl | rfl | rfl <;> exact (blk_cell h.blk _).trans rfl
theorem SetAt.below {w w' : World} {base g : Nat} {m : Nat → Nat} {D : Nat → DataW Unit} (h : SetAt w base g m D) (hb : Below w.heap.size w w') : SetAt w' base g m D :=
  ⟨blk_below h.blk hb, h.ne, h.ge, fun i hi => (h.own i hi).below hb, h.val, h.cnt⟩
/-- one map has turned -/
theorem SetAt.turn {w w' : World} {base g : Nat} {m : Nat → Nat} {D : Nat → DataW Unit} (h : SetAt w base g m D) {n : Nat} (hn : n < 5) {D' : DataW Unit} (hD : Mp w' (m n) D') (ht : w.mapTurned w' (m n)) (hv : ∀ s v, look D' s = some v → v.size ≤ 65536) (hc : Maps.size D' ≤ 1024) :
    SetAt w' base g m (fun i => if i = n then D' else D i) := by
  have hg := ht.grown
  have hgm : g ≠ m n := fun e => by
    obtain ⟨es, c, h1, _⟩ := h.own n hn
    have h2 := h.blk
    rw [e, h1] at h2
    simp at h2
  refine ⟨?_, h.ne, h.ge, fun i hi => ?_, fun i s v hi hl => ?_, fun i hi => ?_⟩
  · rw [hg.block g (blk_lt h.blk) (by simpa using hgm)]; exact h.blk
  · by_cases e : i = n
    · subst e; simpa using hD
    · simp only [if_neg e]
      exact (h.own i hi).kept hg (by simpa using h.ne i n hi hn e)
  · by_cases e : i = n
    · subst e; simp only [if_true] at hl; exact hv s v hl
    · simp only [if_neg e] at hl; exact h.val i s v hi hl
  · by_cases e : i = n
    · subst e; simpa using hc
    · simp only [if_neg e]; exact h.cnt i hi
theorem SetAt.turned {w w' : World} {base g : Nat} {m : Nat → Nat} {D : Nat → DataW Unit} (h : SetAt w base g m D) {n : Nat} (hn : n < 5) (ht : w.mapTurned w' (m n)) : Below base w w' := by
  have hb := h.ge.2 n hn
  have hl := (h.own n hn).lt
  exact (Below.refl base w).grown ht.grown (by omega) (fun k e => by cases e; exact hb)
theorem SetAt.base_le {w : World} {base g : Nat} {m : Nat → Nat} {D : Nat → DataW Unit} (h : SetAt w base g m D) : base ≤ w.heap.size := by
  have := blk_lt h.blk; have := h.ge.1; omega

def isSc (z : Int) : Bool := decide (1 ≤ z) && decide (z ≤ 4)
theorem isScopeW (z : Int) (w : World) : Calls Try.prog 29 #[.int .i64 z] w fun e w' => e = .returned (.bool (isSc z)) ∧ w' = w := by
  go_enter Try.func29, Try.ntmps29
  by_cases h1 : (1 : Int) ≤ z
  · by_cases h2 : z ≤ 4
    · have e1 : decide ((1 : Int) ≤ z) = true := decide_eq_true h1
      have e2 : decide (z ≤ (4 : Int)) = true := decide_eq_true h2
      go_wp2
      go_ret
      exact ⟨by simp [isSc, h1, h2], rfl⟩
    · have e1 : decide ((1 : Int) ≤ z) = true := decide_eq_true h1
      have e2 : decide (z ≤ (4 : Int)) = false := decide_eq_false h2
      go_wp2
      go_ret
      exact ⟨by simp [isSc, h1, h2], rfl⟩
  · have e1 : decide ((1 : Int) ≤ z) = false := decide_eq_false h1
    go_wp2
    go_ret
    exact ⟨by rw [isSc, decide_eq_false (by omega : ¬ (1 : Int) ≤ z)]; rfl, rfl⟩
theorem okW (w : World) (base g : Nat) (m : Nat → Nat) (D : Nat → DataW Unit) (h : SetAt w base g m D) : Calls Try.prog 28 #[.pointer (some ⟨g, 0, none⟩)] w fun e w' => e = .returned (.bool true) ∧ w' = w := by
  have c0 := h.cell 0 (by omega)
  have qT : ∀ (w : World) (r : Option Nat), (binOp .neq 52 (.map r) (.map none)).run Try.prog w = .ok (.bool (!r.isNone)) w := fun w r => run_neq_map_nil w _ _ _ r Try.underlying52
  go_enter Try.func28, Try.ntmps28
  go_wp2
  go_ret
  exact ⟨rfl, rfl⟩
theorem isSc_nat {z : Int} (h : isSc z = true) : ∃ n : Nat, z = (n : Int) ∧ 1 ≤ n ∧ n < 5 := by
  unfold isSc at h
  simp only [Bool.and_eq_true, decide_eq_true_eq] at h
  exact ⟨z.toNat, by omega, by omega, by omega⟩
/-- what a scope says of a name -/
def inSc (D : Nat → DataW Unit) (z : Int) (s : ByteArray) : Option ByteArray := if isSc z = true then look (D z.toNat) s else none

set_option maxHeartbeats 4000000 in
set_option maxRecDepth 100000 in
theorem inW (w : World) (base g : Nat) (m : Nat → Nat) (D : Nat → DataW Unit) (z : Int) (s : ByteArray) (h : SetAt w base g m D) (hs : s.size ≤ maxLen) :
    Calls Try.prog 15 #[.pointer (some ⟨g, 0, none⟩), .int .i64 z, .string s] w fun e w' => e = .returned (.tuple #[.string ((inSc D z s).getD ByteArray.empty), .bool (inSc D z s).isSome]) ∧ w' = w := by
  have ho := fun w h => okW w base g m D h
  have HB := Aside0.mk (Below.refl w.heap.size w)
  have HS := Aside0.mk h
  go_enter Try.func15, Try.ntmps15
  cases hz : isSc z with
  | false =>
    go_wp2_with (first | (go_at_call 28; refine (ho _ HS.out).mono ?_; rintro e w1 ⟨rfl, rfl⟩) | (go_at_call 29; refine (isScopeW z _).mono ?_; rintro e w1 ⟨rfl, rfl⟩))
    (try simp only [Exit.inBlock, Exit.then])
    refine bodyPost_ret (by simp [results, Try.results15, go_sem]; try rfl) rfl ?_
    exact ⟨by rw [inSc, hz]; rfl, rfl⟩
  | true =>
    obtain ⟨n, rfl, hn1, hn⟩ := isSc_nat hz
    have c := h.cell n hn
    go_wp2_with (first | (go_at_call 28; refine (ho _ HS.out).mono ?_; rintro e w1 ⟨rfl, rfl⟩) | (go_at_call 29; refine (isScopeW _ _).mono ?_; rintro e w1 ⟨rfl, rfl⟩) | (at_lookup; refine wpList_look _ rfl _ _ 52 rfl rfl (m n) (D n) s rfl (HS.out.own n hn) rfl hs ?_))
    (try simp only [Exit.inBlock, Exit.then])
    refine bodyPost_ret (by simp [results, Try.results15, go_sem]; try rfl) rfl ?_
    exact ⟨by rw [inSc, hz, if_pos rfl, Int.toNat_natCast], rfl⟩
theorem ix0 (w : World) (x0 x1 x2 x3 x4 : Option Nat) : (Instr.index 53 (.agg #[.map x0, .map x1, .map x2, .map x3, .map x4]) (.int .i64 0)).run Try.prog w = .ok (.map x0) w := by kernel_rfl
theorem ix1 (w : World) (x0 x1 x2 x3 x4 : Option Nat) : (Instr.index 53 (.agg #[.map x0, .map x1, .map x2, .map x3, .map x4]) (.int .i64 1)).run Try.prog w = .ok (.map x1) w := by kernel_rfl
theorem ix2 (w : World) (x0 x1 x2 x3 x4 : Option Nat) : (Instr.index 53 (.agg #[.map x0, .map x1, .map x2, .map x3, .map x4]) (.int .i64 2)).run Try.prog w = .ok (.map x2) w := by kernel_rfl
theorem ix3 (w : World) (x0 x1 x2 x3 x4 : Option Nat) : (Instr.index 53 (.agg #[.map x0, .map x1, .map x2, .map x3, .map x4]) (.int .i64 3)).run Try.prog w = .ok (.map x3) w := by kernel_rfl
theorem ix4 (w : World) (x0 x1 x2 x3 x4 : Option Nat) : (Instr.index 53 (.agg #[.map x0, .map x1, .map x2, .map x3, .map x4]) (.int .i64 4)).run Try.prog w = .ok (.map x4) w := by kernel_rfl
/-- what a set says of a name -/
def getV (D : Nat → DataW Unit) (s : ByteArray) : Option ByteArray := ((((look (D 0) s).or (look (D 1) s)).or (look (D 2) s)).or (look (D 3) s)).or (look (D 4) s)

set_option maxHeartbeats 4000000 in
set_option maxRecDepth 100000 in
theorem getW (w : World) (base g : Nat) (m : Nat → Nat) (D : Nat → DataW Unit) (s : ByteArray) (h : SetAt w base g m D) (hs : s.size ≤ maxLen) :
    Calls Try.prog 13 #[.pointer (some ⟨g, 0, none⟩), .string s] w fun e w' => e = .returned (.tuple #[.string ((getV D s).getD ByteArray.empty), .bool (getV D s).isSome]) ∧ w' = w := by
  have ho := fun w h => okW w base g m D h
  have HS := Aside0.mk h
  have c0 := h.cell 0 (by omega)
  have c1 := h.cell 1 (by omega)
  have c2 := h.cell 2 (by omega)
  have c3 := h.cell 3 (by omega)
  have c4 := h.cell 4 (by omega)
  have hi0 := ix0
  have hi1 := ix1
  have hi2 := ix2
  have hi3 := ix3
  have hi4 := ix4
  go_enter Try.func13, Try.ntmps13
  go_wp2_with (first | (go_at_call 28; refine (ho _ HS.out).mono ?_; rintro e w1 ⟨rfl, rfl⟩))
  refine wp_loop_rounds 6 ?_
  rw [rounds_succ]
  cases e0 : look (D 0) s with
  | some v0 =>
    go_wp2_with (first | (at_lookup; refine wpList_look _ rfl _ _ 52 rfl rfl (m 0) (D 0) s rfl (HS.out.own 0 (by omega)) rfl hs ?_))
    (try simp only [Exit.inBlock, Exit.then])
    refine bodyPost_ret (by simp [results, Try.results13, go_sem]; try rfl) rfl ?_
    exact ⟨by rw [getV, e0]; rfl, rfl⟩
  | none =>
    go_wp2_with (first | (at_lookup; refine wpList_look _ rfl _ _ 52 rfl rfl (m 0) (D 0) s rfl (HS.out.own 0 (by omega)) rfl hs ?_))
    rw [rounds_succ]
    cases e1 : look (D 1) s with
    | some v1 =>
      go_wp2_with (first | (at_lookup; refine wpList_look _ rfl _ _ 52 rfl rfl (m 1) (D 1) s rfl (HS.out.own 1 (by omega)) rfl hs ?_))
      (try simp only [Exit.inBlock, Exit.then])
      refine bodyPost_ret (by simp [results, Try.results13, go_sem]; try rfl) rfl ?_
      exact ⟨by rw [getV, e0, e1]; rfl, rfl⟩
    | none =>
      go_wp2_with (first | (at_lookup; refine wpList_look _ rfl _ _ 52 rfl rfl (m 1) (D 1) s rfl (HS.out.own 1 (by omega)) rfl hs ?_))
      rw [rounds_succ]
      cases e2 : look (D 2) s with
      | some v2 =>
        go_wp2_with (first | (at_lookup; refine wpList_look _ rfl _ _ 52 rfl rfl (m 2) (D 2) s rfl (HS.out.own 2 (by omega)) rfl hs ?_))
        (try simp only [Exit.inBlock, Exit.then])
        refine bodyPost_ret (by simp [results, Try.results13, go_sem]; try rfl) rfl ?_
        exact ⟨by rw [getV, e0, e1, e2]; rfl, rfl⟩
      | none =>
        go_wp2_with (first | (at_lookup; refine wpList_look _ rfl _ _ 52 rfl rfl (m 2) (D 2) s rfl (HS.out.own 2 (by omega)) rfl hs ?_))
        rw [rounds_succ]
        cases e3 : look (D 3) s with
        | some v3 =>
          go_wp2_with (first | (at_lookup; refine wpList_look _ rfl _ _ 52 rfl rfl (m 3) (D 3) s rfl (HS.out.own 3 (by omega)) rfl hs ?_))
          (try simp only [Exit.inBlock, Exit.then])
          refine bodyPost_ret (by simp [results, Try.results13, go_sem]; try rfl) rfl ?_
          exact ⟨by rw [getV, e0, e1, e2, e3]; rfl, rfl⟩
        | none =>
          go_wp2_with (first | (at_lookup; refine wpList_look _ rfl _ _ 52 rfl rfl (m 3) (D 3) s rfl (HS.out.own 3 (by omega)) rfl hs ?_))
          rw [rounds_succ]
          cases e4 : look (D 4) s with
          | some v4 =>
            go_wp2_with (first | (at_lookup; refine wpList_look _ rfl _ _ 52 rfl rfl (m 4) (D 4) s rfl (HS.out.own 4 (by omega)) rfl hs ?_))
            (try simp only [Exit.inBlock, Exit.then])
            refine bodyPost_ret (by simp [results, Try.results13, go_sem]; try rfl) rfl ?_
            exact ⟨by rw [getV, e0, e1, e2, e3, e4]; rfl, rfl⟩
          | none =>
            go_wp2_with (first | (at_lookup; refine wpList_look _ rfl _ _ 52 rfl rfl (m 4) (D 4) s rfl (HS.out.own 4 (by omega)) rfl hs ?_))
            rw [rounds_succ]
            go_wp2
            (try simp only [Exit.inBlock, Exit.then])
            refine bodyPost_ret (by simp [results, Try.results13, go_sem]; try rfl) rfl ?_
            exact ⟨by rw [getV, e0, e1, e2, e3, e4]; rfl, rfl⟩
/-- is a text a name? -/
def rg (s : ByteArray) : Bool := (!s.toList.isEmpty) && (decide ((s.size : Int) ≤ 64) && !(Lib.containsAny s.data.toList [32, 9, 10, 36, 58, 61, 123, 125, 40, 41, 35]))
set_option maxHeartbeats 4000000 in
theorem rightW (s : ByteArray) (w : World) : Calls Try.prog 18 #[.string s] w fun e w' => e = .returned (.bool (rg s)) ∧ Below w.heap.size w w' := by
  go_enter Try.func18, Try.ntmps18
  cases h1 : s.toList.isEmpty with
  | true =>
    go_wp2
    go_ret
    exact ⟨by rw [rg, h1]; rfl, Below.refl _ _⟩
  | false =>
    by_cases h2 : (s.size : Int) ≤ 64
    · have e2 : decide ((s.size : Int) ≤ 64) = true := decide_eq_true h2
      have hc := fun w => containsAny s ⟨#[32, 9, 10, 36, 58, 61, 123, 125, 40, 41, 35]⟩ w (by decide) (by decide) (by omega) (by
        intro j b hb
        have : b ∈ ([32, 9, 10, 36, 58, 61, 123, 125, 40, 41, 35] : List UInt8) := List.mem_of_getElem? hb
        have hall : (([32, 9, 10, 36, 58, 61, 123, 125, 40, 41, 35] : List UInt8).all fun b => decide (b.toNat < 128)) = true := by decide
        exact of_decide_eq_true (List.all_eq_true.1 hall b this))
      clear h2
      go_wp2_with (go_at_call 32; refine (hc _).mono ?_; rintro e w1 ⟨rfl, hw⟩)
      go_ret
      exact ⟨by rw [rg, h1, e2]; rfl, hw⟩
    · have e2 : decide ((s.size : Int) ≤ 64) = false := decide_eq_false h2
      go_wp2
      go_ret
      exact ⟨by rw [rg, h1, e2]; rfl, Below.refl _ _⟩
def putE (D : Nat → DataW Unit) (z : Int) (s v : ByteArray) : Int :=
  if (isSc z && rg s) = true then (if v.size > 65536 ∨ (look (D z.toNat) s = none ∧ 1024 ≤ Maps.size (D z.toNat)) then 5 else 0) else 1
def putD (D : Nat → DataW Unit) (z : Int) (s v : ByteArray) : Nat → DataW Unit :=
  if putE D z s v = 0 then (fun i => if i = z.toNat then (D z.toNat).put (key s) (str v) else D i) else D
set_option maxHeartbeats 8000000 in
set_option maxRecDepth 100000 in
theorem putW (w : World) (base g : Nat) (m : Nat → Nat) (D : Nat → DataW Unit) (z : Int) (s v : ByteArray) (h : SetAt w base g m D) (hs : s.size ≤ maxLen) (hv : v.size ≤ 1000000000) :
    Calls Try.prog 14 #[.pointer (some ⟨g, 0, none⟩), .int .i64 z, .string s, .string v] w fun e w' => e = .returned (.int .i64 (putE D z s v)) ∧ SetAt w' base g m (putD D z s v) ∧ Below base w w' := by
  have ho := fun w h => okW w base g m D h
  have HS := Aside0.mk h
  have hbl := h.base_le
  go_enter Try.func14, Try.ntmps14
  cases hz : isSc z with
  | false =>
    have eE : putE D z s v = 1 := by rw [putE, hz]; rfl
    go_wp2_with (first | (go_at_call 28; refine (ho _ HS.out).mono ?_; rintro e w1 ⟨rfl, rfl⟩) | (go_at_call 29; refine (isScopeW _ _).mono ?_; rintro e w1 ⟨rfl, rfl⟩))
    go_ret
    exact ⟨by rw [eE]; rfl, by rw [putD, eE, if_neg (by decide)]; exact HS.out, Below.refl _ _⟩
  | true =>
    obtain ⟨n, rfl, hn1, hn⟩ := isSc_nat hz
    cases hr : rg s with
    | false =>
      have eE : putE D n s v = 1 := by rw [putE, hz, hr]; rfl
      go_wp2_with (first | (go_at_call 28; refine (ho _ HS.out).mono ?_; rintro e w1 ⟨rfl, rfl⟩) | (go_at_call 29; refine (isScopeW _ _).mono ?_; rintro e w1 ⟨rfl, rfl⟩) | (go_at_call 18; refine (rightW _ _).mono ?_; rintro e w1 ⟨rfl, hb1⟩))
      go_ret
      exact ⟨by rw [eE]; rfl, by rw [putD, eE, if_neg (by decide)]; exact HS.out.below hb1, below_then (Below.refl _ _) hbl hb1⟩
    | true =>
      go_wp2_with (first | (go_at_call 28; refine (ho _ HS.out).mono ?_; rintro e w1 ⟨rfl, rfl⟩) | (go_at_call 29; refine (isScopeW _ _).mono ?_; rintro e w1 ⟨rfl, rfl⟩) | fail)
      refine (rightW _ _).mono ?_
      rintro e w2 ⟨rfl, hb2⟩
      have hS2 := HS.out.below hb2
      have hB2 := below_then (Below.refl base w1) hbl hb2
      have c := hS2.cell n hn
      have hl := (hS2.own n hn).len 3
      have ht := (hS2.own n hn).tidy
      have hcn := hS2.cnt n hn
      rw [hr]
      clear hb2 HS ho hbl
      by_cases hvb : v.size > 65536
      · have dv : decide ((65536 : Int) < (v.size : Int)) = true := decide_eq_true (by omega)
        have eE : putE D n s v = 5 := by rw [putE, hz, hr, if_pos (by rfl), if_pos (.inl hvb)]
        go_wp2_with (first | (at_lookup; refine wpList_look _ rfl _ _ 52 rfl rfl (m n) (D n) s rfl (hS2.own n hn) rfl hs ?_))
        go_ret
        exact ⟨by rw [eE]; rfl, by rw [putD, eE, if_neg (by decide)]; exact hS2, hB2⟩
      · have dv : decide ((65536 : Int) < (v.size : Int)) = false := decide_eq_false (by omega)
        cases hL : look (D n) s with
        | some u =>
          have eE : putE D n s v = 0 := by rw [putE, hz, hr, if_pos (by rfl), Int.toNat_natCast, if_neg (by rw [hL]; rintro (e | ⟨e, -⟩); exact hvb e; cases e)]
          go_wp2_with (first | (at_lookup; refine wpList_look _ rfl _ _ 52 rfl rfl (m n) (D n) s rfl (hS2.own n hn) rfl hs ?_) | (at_mapUpdate; refine wpList_store _ rfl _ _ _ 52 rfl rfl (m n) (D n) s v rfl (hS2.own n hn) (Nat.lt_of_le_of_lt hcn (by decide)) rfl rfl hs (Nat.le_trans hv (by decide)) ?_; intro w3 hM3 hT3))
          go_ret
          refine ⟨by rw [eE]; rfl, ?_, hB2.trans (hS2.turned hn hT3)⟩
          rw [putD, eE, if_pos rfl, Int.toNat_natCast]
          exact hS2.turn hn hM3 hT3 (fun t u hu => by
            rw [look_put _ ht.isMap] at hu
            split at hu
            · cases hu; omega
            · exact hS2.val n t u hn hu) (by rw [size_put _ ht, hL]; simp only [Option.isSome_none, Option.isSome_some, if_true, Bool.false_eq_true, if_false]; omega)
        | none =>
          by_cases hcb : 1024 ≤ Maps.size (D n)
          · have dc : decide ((1024 : Int) ≤ (Maps.size (D n) : Int)) = true := decide_eq_true (by omega)
            have eE : putE D n s v = 5 := by rw [putE, hz, hr, if_pos (by rfl), Int.toNat_natCast, if_pos (.inr ⟨hL, hcb⟩)]
            go_wp2_with (first | (at_lookup; refine wpList_look _ rfl _ _ 52 rfl rfl (m n) (D n) s rfl (hS2.own n hn) rfl hs ?_))
            go_ret
            exact ⟨by rw [eE]; rfl, by rw [putD, eE, if_neg (by decide)]; exact hS2, hB2⟩
          · have dc : decide ((1024 : Int) ≤ (Maps.size (D n) : Int)) = false := decide_eq_false (by omega)
            have eE : putE D n s v = 0 := by rw [putE, hz, hr, if_pos (by rfl), Int.toNat_natCast, if_neg (by rintro (e | ⟨-, e⟩); exact hvb e; exact hcb e)]
            go_wp2_with (first | (at_lookup; refine wpList_look _ rfl _ _ 52 rfl rfl (m n) (D n) s rfl (hS2.own n hn) rfl hs ?_) | (at_mapUpdate; refine wpList_store _ rfl _ _ _ 52 rfl rfl (m n) (D n) s v rfl (hS2.own n hn) (Nat.lt_of_le_of_lt hcn (by decide)) rfl rfl hs (Nat.le_trans hv (by decide)) ?_; intro w3 hM3 hT3))
            go_ret
            refine ⟨by rw [eE]; rfl, ?_, hB2.trans (hS2.turned hn hT3)⟩
            rw [putD, eE, if_pos rfl, Int.toNat_natCast]
            exact hS2.turn hn hM3 hT3 (fun t u hu => by
              rw [look_put _ ht.isMap] at hu
              split at hu
              · cases hu; omega
              · exact hS2.val n t u hn hu) (by rw [size_put _ ht, hL]; simp only [Option.isSome_none, Option.isSome_some, if_true, Bool.false_eq_true, if_false]; omega)
def dropE (D : Nat → DataW Unit) (z : Int) (s : ByteArray) : Int := if isSc z = true then (if look (D z.toNat) s = none then 6 else 0) else 1
def dropD (D : Nat → DataW Unit) (z : Int) (s : ByteArray) : Nat → DataW Unit :=
  if dropE D z s = 0 then (fun i => if i = z.toNat then (D z.toNat).del (key s) else D i) else D
set_option maxHeartbeats 8000000 in
set_option maxRecDepth 100000 in
theorem dropW (w : World) (base g : Nat) (m : Nat → Nat) (D : Nat → DataW Unit) (z : Int) (s : ByteArray) (h : SetAt w base g m D) (hs : s.size ≤ maxLen) :
    Calls Try.prog 12 #[.pointer (some ⟨g, 0, none⟩), .int .i64 z, .string s] w fun e w' => e = .returned (.int .i64 (dropE D z s)) ∧ SetAt w' base g m (dropD D z s) ∧ Below base w w' := by
  have ho := fun w h => okW w base g m D h
  have HS := Aside0.mk h
  go_enter Try.func12, Try.ntmps12
  cases hz : isSc z with
  | false =>
    have eE : dropE D z s = 1 := by rw [dropE, hz]; rfl
    go_wp2_with (first | (go_at_call 28; refine (ho _ HS.out).mono ?_; rintro e w1 ⟨rfl, rfl⟩) | (go_at_call 29; refine (isScopeW _ _).mono ?_; rintro e w1 ⟨rfl, rfl⟩))
    go_ret
    exact ⟨by rw [eE]; rfl, by rw [dropD, eE, if_neg (by decide)]; exact HS.out, Below.refl _ _⟩
  | true =>
    obtain ⟨n, rfl, hn1, hn⟩ := isSc_nat hz
    have c := h.cell n hn
    have hS2 := h
    cases hL : look (D n) s with
    | none =>
      have eE : dropE D n s = 6 := by rw [dropE, hz, if_pos rfl, Int.toNat_natCast, if_pos hL]
      have eI : inSc D n s = none := by rw [inSc, hz, if_pos rfl, Int.toNat_natCast, hL]
      go_wp2_with (first | (go_at_call 28; refine (ho _ HS.out).mono ?_; rintro e w1 ⟨rfl, rfl⟩) | (go_at_call 29; refine (isScopeW _ _).mono ?_; rintro e w1 ⟨rfl, rfl⟩) | (go_at_call 15; refine (inW _ base g m D n s HS.out hs).mono ?_; rw [eI]; rintro e w1 ⟨rfl, rfl⟩))
      go_ret
      exact ⟨by rw [eE]; rfl, by rw [dropD, eE, if_neg (by decide)]; exact HS.out, Below.refl _ _⟩
    | some u =>
      have eE : dropE D n s = 0 := by rw [dropE, hz, if_pos rfl, Int.toNat_natCast, if_neg (by rw [hL]; simp)]
      have eI : inSc D n s = some u := by rw [inSc, hz, if_pos rfl, Int.toNat_natCast, hL]
      go_wp2_with (first | (go_at_call 28; refine (ho _ HS.out).mono ?_; rintro e w1 ⟨rfl, rfl⟩) | (go_at_call 29; refine (isScopeW _ _).mono ?_; rintro e w1 ⟨rfl, rfl⟩) | (go_at_call 15; refine (inW _ base g m D n s HS.out hs).mono ?_; rw [eI]; rintro e w1 ⟨rfl, rfl⟩) | (at_delete; refine wpList_drop _ rfl _ _ 52 9 rfl rfl rfl (m n) (D n) s rfl (HS.out.own n hn) rfl hs ?_; intro w3 hM3 hT3))
      go_ret
      refine ⟨by rw [eE]; rfl, ?_, hS2.turned hn hT3⟩
      rw [dropD, eE, if_pos rfl, Int.toNat_natCast]
      exact hS2.turn hn hM3 hT3 (fun t u hu => by
        rw [look_del] at hu
        split at hu
        · cases hu
        · exact hS2.val n t u hn hu) (by
          have h1 := size_del (D n) (hS2.own n hn).tidy s
          have h2 := hS2.cnt n hn
          omega)
def clearD (D : Nat → DataW Unit) (z : Int) : Nat → DataW Unit := if isSc z = true then (fun i => if i = z.toNat then .map [] else D i) else D
def clearN (D : Nat → DataW Unit) (z : Int) : Int := if isSc z = true then (Maps.size (D z.toNat) : Int) else 0
set_option maxHeartbeats 8000000 in
set_option maxRecDepth 100000 in
theorem clearW (w : World) (base g : Nat) (m : Nat → Nat) (D : Nat → DataW Unit) (z : Int) (h : SetAt w base g m D) :
    Calls Try.prog 17 #[.pointer (some ⟨g, 0, none⟩), .int .i64 z] w fun e w' => e = .returned (.int .i64 (clearN D z)) ∧ SetAt w' base g m (clearD D z) ∧ Below base w w' := by
  have ho := fun w h => okW w base g m D h
  have HS := Aside0.mk h
  go_enter Try.func17, Try.ntmps17
  cases hz : isSc z with
  | false =>
    go_wp2_with (first | (go_at_call 28; refine (ho _ HS.out).mono ?_; rintro e w1 ⟨rfl, rfl⟩) | (go_at_call 29; refine (isScopeW _ _).mono ?_; rintro e w1 ⟨rfl, rfl⟩))
    go_ret
    exact ⟨by rw [clearN, hz]; rfl, by rw [clearD, hz, if_neg (by simp)]; exact HS.out, Below.refl _ _⟩
  | true =>
    obtain ⟨n, rfl, hn1, hn⟩ := isSc_nat hz
    have c := h.cell n hn
    have hS2 := h
    have hl := (h.own n hn).len 3
    obtain ⟨w3, hrun, hM3, hT3⟩ := (h.own n hn).clear 0
    go_wp2_with (first | (go_at_call 28; refine (ho _ HS.out).mono ?_; rintro e w1 ⟨rfl, rfl⟩) | (go_at_call 29; refine (isScopeW _ _).mono ?_; rintro e w1 ⟨rfl, rfl⟩))
    go_ret
    refine ⟨by rw [clearN, hz, if_pos rfl, Int.toNat_natCast]; rfl, ?_, hS2.turned hn hT3⟩
    rw [clearD, hz, if_pos rfl, Int.toNat_natCast]
    exact hS2.turn hn hM3 hT3 (fun t u hu => by rw [look_nil] at hu; cases hu) (by simp [Maps.size])
end Go.Proofs.Ytpgfffibiogekaa.MS
