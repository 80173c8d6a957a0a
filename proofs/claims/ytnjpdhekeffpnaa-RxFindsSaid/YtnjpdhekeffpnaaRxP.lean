/- What the program's reader of expressions makes, as plain functions; what they keep. -/
import Derived.Test.YtnjpdhekeffpnaaWMore
set_option linter.unusedVariables false
set_option linter.unusedSimpArgs false
namespace Go.Proofs.Ytnjpdhekeffpnaa.Rx
open Go.RowKit Go.Proofs.YtnjpdhekeffpnaaW.PrintWords Go.Proofs.YtnjpdhekeffpnaaW.PrintLast Go.Proofs.YtnjpdhekeffpnaaW.PrintMore

/-- a step: its kind, its set as a mask, where it goes on, the second way -/
structure Stp where
  k : Nat
  m : Nat
  nx : Nat
  ot : Nat
deriving DecidableEq
/-- a reader's state: the place, the fault (its number less 1, its place), the steps -/
structure BS where
  at_ : Nat
  F : Option (Nat × Nat)
  st : List Stp
abbrev Part := Nat × List Nat

def peekB (s : ByteArray) (S : BS) : Option Int := if S.F = none ∧ S.at_ < s.size then some (bt s S.at_) else none
def wrongB (e at_ : Nat) (S : BS) : BS := match S.F with
  | none => ⟨S.at_, some (e, at_), S.st⟩
  | some _ => S
def skip (S : BS) (n : Nat) : BS := ⟨S.at_ + n, S.F, S.st⟩
def addB (x : Stp) (S : BS) : BS := ⟨S.at_, S.F, S.st ++ [x]⟩
def set1 (st : List Stp) (o next : Nat) : List Stp := st.modify (o / 2) fun x => if o % 2 = 1 then ⟨x.k, x.m, x.nx, next⟩ else ⟨x.k, x.m, next, x.ot⟩
def patchL (outs : List Nat) (next : Nat) (st : List Stp) : List Stp := outs.foldl (fun st o => set1 st o next) st
def patchB (outs : List Nat) (next : Nat) (S : BS) : BS := ⟨S.at_, S.F, patchL outs next S.st⟩
def single (x : Stp) (S : BS) : Part × BS := ((S.st.length, [2 * S.st.length]), addB x S)
/-- n bytes from lo on, added to a set -/
def addR (m lo : Nat) : Nat → Nat
  | 0 => m
  | n + 1 => addR (m ||| 2 ^ lo) (lo + 1) n
def byteOf (c : Nat) (S : BS) : Part × BS := single ⟨0, addR 0 c 1, 0, 0⟩ S
def full : Nat := 2 ^ 256 - 1
/-- a set's bytes, from behind the bracket and its '^' on -/
def brL (s : ByteArray) (b0 : Nat) : Nat → Nat → BS → Bool × Nat × BS
  | 0, _, S => (false, 0, wrongB 3 s.size S)
  | n + 1, m, S => match peekB s S with
    | none => (false, 0, wrongB 3 s.size S)
    | some c =>
      if c = 93 ∧ b0 < S.at_ then (true, m, skip S 1)
      else if s.size - S.at_ < 3 ∨ bt s ((S.at_ : Int) + 1) ≠ 45 ∨ bt s ((S.at_ : Int) + 2) = 93 then brL s b0 n (addR m c.toNat 1) (skip S 1)
      else if bt s ((S.at_ : Int) + 2) < c then (false, 0, wrongB 2 (S.at_ + 1) S)
      else brL s b0 n (addR m c.toNat ((bt s ((S.at_ : Int) + 2)).toNat + 1 - c.toNat)) (skip S 3)
def bracketB (s : ByteArray) (S : BS) : Nat × BS :=
  if peekB s S = some 94 then
    (let r := brL s (S.at_ + 1) (s.size + 1) 0 (skip S 1); (if r.1 then full ^^^ r.2.1 else 0, r.2.2))
  else (let r := brL s S.at_ (s.size + 1) 0 S; (r.2.1, r.2.2))
def thingB (grp : Nat → BS → Part × BS) (s : ByteArray) (S : BS) : Part × BS :=
  let c := (peekB s S).getD 0
  let S1 := skip S 1
  if c = 42 ∨ c = 43 ∨ c = 63 then byteOf c.toNat (wrongB 2 S.at_ S1)
  else if c = 46 then single ⟨0, addR 0 0 256, 0, 0⟩ S1
  else if c = 94 then single ⟨2, 0, 0, 0⟩ S1
  else if c = 36 then single ⟨3, 0, 0, 0⟩ S1
  else if c = 91 then (let r := bracketB s S1; single ⟨0, r.1, 0, 0⟩ r.2)
  else if c = 40 then grp S.at_ S1
  else if c = 92 then byteOf ((peekB s S1).getD 0).toNat (skip (if (peekB s S1).isNone then wrongB 3 s.size S1 else S1) 1)
  else byteOf c.toNat S1
def repB (s : ByteArray) (p : Part) (S : BS) : Part × BS :=
  match peekB s S with
  | none => (p, S)
  | some c =>
    if c = 63 then ((S.st.length, p.2 ++ [2 * S.st.length + 1]), addB ⟨1, 0, p.1, 0⟩ (skip S 1))
    else if c = 43 then ((p.1, [2 * S.st.length + 1]), patchB p.2 S.st.length (addB ⟨1, 0, p.1, 0⟩ (skip S 1)))
    else if c = 42 then ((S.st.length, [2 * S.st.length + 1]), patchB p.2 S.st.length (addB ⟨1, 0, p.1, 0⟩ (skip S 1)))
    else (p, S)
def wayL (th : BS → Part × BS) (s : ByteArray) : Nat → Part → BS → Part × BS
  | 0, p, S => (p, S)
  | n + 1, p, S => match peekB s S with
    | none => (p, S)
    | some c =>
      if c = 124 ∨ c = 41 then (p, S)
      else
        let r := th S
        let q := repB s r.1 r.2
        wayL th s n (p.1, q.1.2) (patchB p.2 q.1.1 q.2)
def wayB (th : BS → Part × BS) (s : ByteArray) (S : BS) : Part × BS :=
  wayL th s (s.size + 1) (S.st.length, [2 * S.st.length, 2 * S.st.length + 1]) (addB ⟨1, 0, 0, 0⟩ S)
def waysL (th : BS → Part × BS) (s : ByteArray) : Nat → Part → BS → Part × BS
  | 0, p, S => (p, S)
  | n + 1, p, S =>
    if peekB s S = some 124 then
      let q := wayB th s (skip S 1)
      waysL th s n (q.2.st.length, p.2 ++ q.1.2) (addB ⟨1, 0, p.1, q.1.1⟩ q.2)
    else (p, S)
def waysF (th : BS → Part × BS) (s : ByteArray) (S : BS) : Part × BS :=
  let p := wayB th s S
  waysL th s (s.size + 1) p.1 p.2
def grpF (wys : BS → Part × BS) (s : ByteArray) (_at : Nat) (S : BS) : Part × BS :=
  let p := wys S
  (p.1, skip (if peekB s p.2 = some 41 then p.2 else wrongB 3 s.size p.2) 1)
/-- the ways, d brackets more may be opened -/
def waysB (s : ByteArray) : Nat → BS → Part × BS
  | 0 => waysF (thingB (fun at_ S => ((0, []), wrongB 4 at_ S)) s) s
  | d + 1 => waysF (thingB (grpF (waysB s d) s) s) s
def thB (s : ByteArray) : Nat → BS → Part × BS
  | 0 => thingB (fun at_ S => ((0, []), wrongB 4 at_ S)) s
  | d + 1 => thingB (grpF (waysB s d) s) s
theorem waysB_eq (s : ByteArray) (d : Nat) : waysB s d = waysF (thB s d) s := by cases d <;> rfl
def readB (s : ByteArray) : Part × BS := waysB s 16 ⟨0, none, []⟩
/-- the fault of a text, if it is no expression -/
def faultB (s : ByteArray) : Option (Nat × Nat) :=
  if 200 < s.size then some (4, 0)
  else (if (readB s).2.at_ < s.size then wrongB 2 (readB s).2.at_ (readB s).2 else (readB s).2).F
/-- the steps of an expression, and the first one -/
def stepsB (s : ByteArray) : List Stp := (patchB (readB s).1.2 (readB s).2.st.length (addB ⟨4, 0, 0, 0⟩ (readB s).2)).st
def firstB (s : ByteArray) : Nat := (readB s).1.1

/-! ### what is kept: a thing's growth -/
structure Gr (c : Nat) (S : BS) (r : Part × BS) : Prop where
  at_ : S.at_ ≤ r.2.at_
  le : S.st.length ≤ r.2.st.length
  up : r.2.st.length ≤ S.st.length + 2 * (r.2.at_ - S.at_) + c
  first : r.1.1 < r.2.st.length
  outs : ∀ o ∈ r.1.2, o / 2 < r.2.st.length
  many : r.1.2.length ≤ 2 * (r.2.at_ - S.at_) + 2 * c
theorem set1_len (st : List Stp) (o n : Nat) : (set1 st o n).length = st.length := by unfold set1; rw [List.length_modify]
theorem patchL_len (outs : List Nat) (n : Nat) (st : List Stp) : (patchL outs n st).length = st.length := by
  unfold patchL
  induction outs generalizing st with
  | nil => rfl
  | cons o outs ih => rw [List.foldl_cons, ih, set1_len]
theorem patchB_len (outs : List Nat) (n : Nat) (S : BS) : (patchB outs n S).st.length = S.st.length := patchL_len _ _ _
theorem patchB_at (outs : List Nat) (n : Nat) (S : BS) : (patchB outs n S).at_ = S.at_ := rfl
theorem wrongB_at (e a : Nat) (S : BS) : (wrongB e a S).at_ = S.at_ := by unfold wrongB; split <;> rfl
theorem wrongB_st (e a : Nat) (S : BS) : (wrongB e a S).st = S.st := by unfold wrongB; split <;> rfl
theorem skip_st (S : BS) (n : Nat) : (skip S n).st = S.st := rfl
theorem skip_at (S : BS) (n : Nat) : (skip S n).at_ = S.at_ + n := rfl
theorem addB_at (x : Stp) (S : BS) : (addB x S).at_ = S.at_ := rfl
theorem addB_len (x : Stp) (S : BS) : (addB x S).st.length = S.st.length + 1 := by unfold addB; simp
theorem single_gr (x : Stp) (S S0 : BS) (ha : S0.at_ + 1 ≤ S.at_) (hs : S.st = S0.st) : Gr 0 S0 (single x S) := by
  unfold single
  refine ⟨?_, ?_, ?_, ?_, ?_, ?_⟩
  · show S0.at_ ≤ S.at_; omega
  · rw [addB_len, hs]; omega
  · rw [addB_len, hs, addB_at]; show S0.st.length + 1 ≤ _; omega
  · rw [addB_len]; show S.st.length < _; omega
  · intro o ho
    rw [addB_len]
    have : o = 2 * S.st.length := by simpa using ho
    omega
  · show 1 ≤ 2 * (S.at_ - S0.at_) + 2 * 0; omega
theorem brL_at (s : ByteArray) (b0 : Nat) : ∀ (n m : Nat) (S : BS), S.at_ ≤ (brL s b0 n m S).2.2.at_ ∧ (brL s b0 n m S).2.2.st = S.st
  | 0, m, S => by rw [brL]; exact ⟨by rw [wrongB_at]; omega, wrongB_st _ _ _⟩
  | n + 1, m, S => by
    rw [brL]
    split
    · exact ⟨by rw [wrongB_at]; omega, wrongB_st _ _ _⟩
    · split
      · exact ⟨by rw [skip_at]; omega, rfl⟩
      · split
        · have := brL_at s b0 n (addR m (‹Int›).toNat 1) (skip S 1)
          rw [skip_at, skip_st] at this
          exact ⟨by omega, this.2⟩
        · split
          · exact ⟨by rw [wrongB_at]; omega, wrongB_st _ _ _⟩
          · have := brL_at s b0 n (addR m (‹Int›).toNat ((bt s ((S.at_ : Int) + 2)).toNat + 1 - (‹Int›).toNat)) (skip S 3)
            rw [skip_at, skip_st] at this
            exact ⟨by omega, this.2⟩
theorem bracketB_at (s : ByteArray) (S : BS) : S.at_ ≤ (bracketB s S).2.at_ ∧ (bracketB s S).2.st = S.st := by
  unfold bracketB
  split
  · have := brL_at s (S.at_ + 1) (s.size + 1) 0 (skip S 1)
    rw [skip_at, skip_st] at this
    exact ⟨by show S.at_ ≤ (brL s (S.at_ + 1) (s.size + 1) 0 (skip S 1)).2.2.at_; omega, this.2⟩
  · exact brL_at s S.at_ (s.size + 1) 0 S
theorem thing_gr {grp : Nat → BS → Part × BS} (s : ByteArray) (hg : ∀ (S0 : BS), 0 < S0.st.length → Gr 0 S0 (grp S0.at_ (skip S0 1))) (S : BS) (h0 : 0 < S.st.length) : Gr 0 S (thingB grp s S) := by
  unfold thingB
  dsimp only
  have e1 : S.at_ + 1 ≤ (skip S 1).at_ := Nat.le_refl _
  split
  · exact single_gr _ _ _ (by rw [wrongB_at]; exact e1) (wrongB_st _ _ _)
  · split
    · exact single_gr _ _ _ e1 rfl
    · split
      · exact single_gr _ _ _ e1 rfl
      · split
        · exact single_gr _ _ _ e1 rfl
        · split
          · have := bracketB_at s (skip S 1)
            rw [skip_at, skip_st] at this
            exact single_gr _ _ _ this.1 this.2
          · split
            · exact hg S h0
            · split
              · refine single_gr _ _ _ ?_ ?_
                · rw [skip_at]; split
                  · rw [wrongB_at, skip_at]; omega
                  · rw [skip_at]; omega
                · rw [skip_st]; split
                  · rw [wrongB_st, skip_st]
                  · rfl
              · exact single_gr _ _ _ e1 rfl
theorem rep_gr (s : ByteArray) {S0 : BS} {r : Part × BS} (h : Gr 0 S0 r) : Gr 0 S0 (repB s r.1 r.2) := by
  unfold repB
  obtain ⟨h1, h2, h3, h4, h5, h6⟩ := h
  split
  · exact ⟨h1, h2, h3, h4, h5, h6⟩
  · split
    · refine ⟨?_, ?_, ?_, ?_, ?_, ?_⟩
      · show S0.at_ ≤ r.2.at_ + 1; omega
      · rw [addB_len, skip_st]; omega
      · rw [addB_len, skip_st, addB_at, skip_at]; omega
      · rw [addB_len, skip_st]; show r.2.st.length < _; omega
      · intro o ho
        rw [addB_len, skip_st]
        rcases List.mem_append.1 ho with ho | ho
        · have := h5 o ho; omega
        · have : o = 2 * r.2.st.length + 1 := by simpa using ho
          omega
      · rw [addB_at, skip_at]
        show (r.1.2 ++ [2 * r.2.st.length + 1]).length ≤ _
        rw [List.length_append, List.length_singleton]; omega
    · split
      · refine ⟨?_, ?_, ?_, ?_, ?_, ?_⟩
        · show S0.at_ ≤ r.2.at_ + 1; omega
        · rw [patchB_len, addB_len, skip_st]; omega
        · rw [patchB_len, addB_len, skip_st, patchB_at, addB_at, skip_at]; omega
        · rw [patchB_len, addB_len, skip_st]; show r.1.1 < _; omega
        · intro o ho
          rw [patchB_len, addB_len, skip_st]
          have : o = 2 * r.2.st.length + 1 := by simpa using ho
          omega
        · rw [patchB_at, addB_at, skip_at]
          show 1 ≤ _; omega
      · split
        · refine ⟨?_, ?_, ?_, ?_, ?_, ?_⟩
          · show S0.at_ ≤ r.2.at_ + 1; omega
          · rw [patchB_len, addB_len, skip_st]; omega
          · rw [patchB_len, addB_len, skip_st, patchB_at, addB_at, skip_at]; omega
          · rw [patchB_len, addB_len, skip_st]; show r.2.st.length < _; omega
          · intro o ho
            rw [patchB_len, addB_len, skip_st]
            have : o = 2 * r.2.st.length + 1 := by simpa using ho
            omega
          · rw [patchB_at, addB_at, skip_at]
            show 1 ≤ _; omega
        · exact ⟨h1, h2, h3, h4, h5, h6⟩
theorem wayL_gr {th : BS → Part × BS} (s : ByteArray) (hth : ∀ S, 0 < S.st.length → Gr 0 S (th S)) (S0 : BS) : ∀ (n : Nat) (p : Part) (S : BS), Gr 1 S0 (p, S) → 0 < S.st.length → Gr 1 S0 (wayL th s n p S)
  | 0, p, S, h, h0 => h
  | n + 1, p, S, h, h0 => by
    rw [wayL]
    split
    · exact h
    · split
      · exact h
      · have hq := rep_gr s (hth S h0)
        obtain ⟨h1, h2, h3, h4, h5, h6⟩ := h
        obtain ⟨k1, k2, k3, k4, k5, k6⟩ := hq
        dsimp only at h1 h2 h3 h4 h5 h6 ⊢
        refine wayL_gr s hth S0 n _ _ ⟨?_, ?_, ?_, ?_, ?_, ?_⟩ (by rw [patchB_len]; omega)
        · rw [patchB_at]; omega
        · rw [patchB_len]; omega
        · rw [patchB_len, patchB_at]; omega
        · rw [patchB_len]; show p.1 < _; omega
        · intro o ho; rw [patchB_len]; exact k5 o ho
        · rw [patchB_at]
          show (repB s (th S).1 (th S).2).1.2.length ≤ _
          omega
theorem way_start (S : BS) : Gr 1 S ((S.st.length, [2 * S.st.length, 2 * S.st.length + 1]), addB ⟨1, 0, 0, 0⟩ S) := by
  refine ⟨Nat.le_refl _, ?_, ?_, ?_, ?_, ?_⟩
  · rw [addB_len]; omega
  · rw [addB_len]; omega
  · rw [addB_len]; exact Nat.lt_succ_self _
  · intro o ho
    rw [addB_len]
    have : o = 2 * S.st.length ∨ o = 2 * S.st.length + 1 := by simpa using ho
    omega
  · show 2 ≤ _; omega
theorem wayB_gr {th : BS → Part × BS} (s : ByteArray) (hth : ∀ S, 0 < S.st.length → Gr 0 S (th S)) (S : BS) : Gr 1 S (wayB th s S) :=
  wayL_gr s hth S _ _ _ (way_start S) (by rw [addB_len]; omega)
theorem waysL_gr {th : BS → Part × BS} (s : ByteArray) (hth : ∀ S, 0 < S.st.length → Gr 0 S (th S)) (S0 : BS) : ∀ (n : Nat) (p : Part) (S : BS), Gr 1 S0 (p, S) → Gr 1 S0 (waysL th s n p S)
  | 0, p, S, h => h
  | n + 1, p, S, h => by
    rw [waysL]
    split
    · obtain ⟨h1, h2, h3, h4, h5, h6⟩ := h
      obtain ⟨k1, k2, k3, k4, k5, k6⟩ := wayB_gr s hth (skip S 1)
      rw [skip_at] at k1 k3 k6
      rw [skip_st] at k2 k3
      dsimp only at h1 h2 h3 h4 h5 h6 ⊢
      refine waysL_gr s hth S0 n _ _ ⟨?_, ?_, ?_, ?_, ?_, ?_⟩
      · rw [addB_at]; omega
      · rw [addB_len]; omega
      · rw [addB_len, addB_at]; omega
      · rw [addB_len]; exact Nat.lt_succ_self _
      · intro o ho
        rw [addB_len]
        rcases List.mem_append.1 ho with ho | ho
        · have := h5 o ho; omega
        · have := k5 o ho; omega
      · rw [addB_at]
        show (p.2 ++ (wayB th s (skip S 1)).1.2).length ≤ _
        rw [List.length_append]; omega
    · exact h
theorem waysF_gr {th : BS → Part × BS} (s : ByteArray) (hth : ∀ S, 0 < S.st.length → Gr 0 S (th S)) (S : BS) : Gr 1 S (waysF th s S) :=
  waysL_gr s hth S _ _ _ (wayB_gr s hth S)
theorem grpF_gr {wys : BS → Part × BS} (s : ByteArray) (hw : ∀ S, Gr 1 S (wys S)) (S : BS) (at_ : Nat) : Gr 0 S (grpF wys s at_ (skip S 1)) := by
  unfold grpF
  obtain ⟨k1, k2, k3, k4, k5, k6⟩ := hw (skip S 1)
  rw [skip_at] at k1 k3 k6
  rw [skip_st] at k2 k3
  have e1 : (if peekB s (wys (skip S 1)).2 = some 41 then (wys (skip S 1)).2 else wrongB 3 s.size (wys (skip S 1)).2).at_ = (wys (skip S 1)).2.at_ := by
    split
    · rfl
    · rw [wrongB_at]
  have e2 : (if peekB s (wys (skip S 1)).2 = some 41 then (wys (skip S 1)).2 else wrongB 3 s.size (wys (skip S 1)).2).st = (wys (skip S 1)).2.st := by
    split
    · rfl
    · rw [wrongB_st]
  refine ⟨?_, ?_, ?_, ?_, ?_, ?_⟩
  · rw [skip_at, e1]; omega
  · rw [skip_st, e2]; exact k2
  · rw [skip_st, skip_at, e1, e2]; omega
  · rw [skip_st, e2]; exact k4
  · rw [skip_st, e2]; exact k5
  · rw [skip_at, e1]; show (wys (skip S 1)).1.2.length ≤ _; omega
theorem group0_gr (S : BS) (at_ : Nat) (h0 : 0 < S.st.length) : Gr 0 S (((0, []), wrongB 4 at_ (skip S 1)) : Part × BS) := by
  refine ⟨?_, ?_, ?_, ?_, ?_, ?_⟩
  · show _ ≤ (wrongB 4 at_ (skip S 1)).at_; rw [wrongB_at, skip_at]; omega
  · show _ ≤ (wrongB 4 at_ (skip S 1)).st.length; rw [wrongB_st, skip_st]; omega
  · show (wrongB 4 at_ (skip S 1)).st.length ≤ _; rw [wrongB_st, skip_st]; omega
  · show 0 < (wrongB 4 at_ (skip S 1)).st.length; rw [wrongB_st, skip_st]; exact h0
  · intro o ho; simp at ho
  · show 0 ≤ _; omega
theorem thB_gr (s : ByteArray) : ∀ (d : Nat) (S : BS), 0 < S.st.length → Gr 0 S (thB s d S)
  | 0, S, h => thing_gr (grp := fun at_ S => ((0, []), wrongB 4 at_ S)) s (fun S0 h0 => group0_gr S0 S0.at_ h0) S h
  | d + 1, S, h => thing_gr (grp := grpF (waysB s d) s) s (fun S0 h0 => grpF_gr s (fun S1 => by rw [waysB_eq]; exact waysF_gr s (thB_gr s d) S1) S0 S0.at_) S h
theorem waysB_gr (s : ByteArray) (d : Nat) (S : BS) : Gr 1 S (waysB s d S) := by
  rw [waysB_eq]; exact waysF_gr s (thB_gr s d) S
/-! ### how far the place comes -/
theorem peek_lt {s : ByteArray} {S : BS} {c : Int} (h : peekB s S = some c) : S.at_ < s.size ∧ S.F = none ∧ c = bt s S.at_ := by
  unfold peekB at h
  split at h
  · rename_i e; injection h with h; exact ⟨e.2, e.1, h.symm⟩
  · cases h
theorem peek_none {s : ByteArray} {S : BS} (h : s.size ≤ S.at_) : peekB s S = none := by
  unfold peekB
  rw [if_neg (by rintro ⟨-, e⟩; omega)]
theorem brL_up (s : ByteArray) (b0 : Nat) : ∀ (n m : Nat) (S : BS), S.at_ ≤ s.size → (brL s b0 n m S).2.2.at_ ≤ s.size
  | 0, m, S, h => by rw [brL]; show (wrongB 3 s.size S).at_ ≤ _; rw [wrongB_at]; exact h
  | n + 1, m, S, h => by
    rw [brL]
    split
    · show (wrongB 3 s.size S).at_ ≤ _; rw [wrongB_at]; exact h
    · rename_i c hc
      have := (peek_lt hc).1
      split
      · show S.at_ + 1 ≤ _; omega
      · split
        · exact brL_up s b0 n _ _ (by rw [skip_at]; omega)
        · split
          · show (wrongB 2 (S.at_ + 1) S).at_ ≤ _; rw [wrongB_at]; exact h
          · exact brL_up s b0 n _ _ (by rw [skip_at]; omega)
theorem bracketB_up (s : ByteArray) (S : BS) (h : S.at_ ≤ s.size) : (bracketB s S).2.at_ ≤ s.size := by
  unfold bracketB
  split
  · rename_i e
    have := (peek_lt e).1
    exact brL_up s _ _ _ _ (by rw [skip_at]; omega)
  · exact brL_up s _ _ _ _ h
theorem thing_up {grp : Nat → BS → Part × BS} (s : ByteArray) (k : Nat) (hk : 2 ≤ k) (hg : ∀ (S0 : BS), S0.at_ < s.size → (grp S0.at_ (skip S0 1)).2.at_ ≤ s.size + k) (S : BS) (h : S.at_ < s.size) : (thingB grp s S).2.at_ ≤ s.size + k := by
  have hs : ∀ (x : Stp) (S : BS), (single x S).2.at_ = S.at_ := fun _ _ => rfl
  unfold thingB byteOf
  dsimp only
  split
  · rw [hs, wrongB_at, skip_at]; omega
  · split
    · rw [hs, skip_at]; omega
    · split
      · rw [hs, skip_at]; omega
      · split
        · rw [hs, skip_at]; omega
        · split
          · rw [hs]; have := bracketB_up s (skip S 1) (by rw [skip_at]; omega); omega
          · split
            · exact hg S h
            · split
              · rw [hs, skip_at]; split
                · rw [wrongB_at, skip_at]; omega
                · rw [skip_at]; omega
              · rw [hs, skip_at]; omega
theorem rep_up (s : ByteArray) (p : Part) (S : BS) (k : Nat) (h : S.at_ ≤ s.size + k) : (repB s p S).2.at_ ≤ s.size + k := by
  unfold repB
  split
  · exact h
  · rename_i c hc
    have := (peek_lt hc).1
    split
    · show S.at_ + 1 ≤ _; omega
    · split
      · show S.at_ + 1 ≤ _; omega
      · split
        · show S.at_ + 1 ≤ _; omega
        · exact h
theorem wayL_up {th : BS → Part × BS} (s : ByteArray) (k : Nat) (hth : ∀ S, S.at_ < s.size → (th S).2.at_ ≤ s.size + k) : ∀ (n : Nat) (p : Part) (S : BS), S.at_ ≤ s.size + k → (wayL th s n p S).2.at_ ≤ s.size + k
  | 0, p, S, h => h
  | n + 1, p, S, h => by
    rw [wayL]
    split
    · exact h
    · rename_i c hc
      split
      · exact h
      · exact wayL_up s k hth n _ _ (by rw [patchB_at]; exact rep_up s _ _ k (hth S (peek_lt hc).1))
theorem wayB_up {th : BS → Part × BS} (s : ByteArray) (k : Nat) (hth : ∀ S, S.at_ < s.size → (th S).2.at_ ≤ s.size + k) (S : BS) (h : S.at_ ≤ s.size + k) : (wayB th s S).2.at_ ≤ s.size + k :=
  wayL_up s k hth _ _ _ h
theorem waysL_up {th : BS → Part × BS} (s : ByteArray) (k : Nat) (hth : ∀ S, S.at_ < s.size → (th S).2.at_ ≤ s.size + k) : ∀ (n : Nat) (p : Part) (S : BS), S.at_ ≤ s.size + k → (waysL th s n p S).2.at_ ≤ s.size + k
  | 0, p, S, h => h
  | n + 1, p, S, h => by
    rw [waysL]
    split
    · rename_i hc
      exact waysL_up s k hth n _ _ (wayB_up s k hth _ (by rw [skip_at]; have := (peek_lt hc).1; omega))
    · exact h
theorem waysF_up {th : BS → Part × BS} (s : ByteArray) (k : Nat) (hth : ∀ S, S.at_ < s.size → (th S).2.at_ ≤ s.size + k) (S : BS) (h : S.at_ ≤ s.size + k) : (waysF th s S).2.at_ ≤ s.size + k :=
  waysL_up s k hth _ _ _ (wayB_up s k hth S h)
theorem thB_up (s : ByteArray) : ∀ (d : Nat) (S : BS), S.at_ < s.size → (thB s d S).2.at_ ≤ s.size + (d + 2)
  | 0, S, h => thing_up (grp := fun at_ S => ((0, []), wrongB 4 at_ S)) s 2 (by omega) (fun S0 h0 => by show (wrongB 4 S0.at_ (skip S0 1)).at_ ≤ _; rw [wrongB_at, skip_at]; omega) S h
  | d + 1, S, h => thing_up (grp := grpF (waysB s d) s) s (d + 1 + 2) (by omega) (fun S0 h0 => by
      unfold grpF
      have h1 := waysF_up s (d + 2) (thB_up s d) (skip S0 1) (by rw [skip_at]; omega)
      rw [← waysB_eq] at h1
      show (skip _ 1).at_ ≤ _
      rw [skip_at]
      split
      · omega
      · rw [wrongB_at]; omega) S h
theorem waysB_up (s : ByteArray) (d : Nat) (S : BS) (h : S.at_ ≤ s.size + (d + 2)) : (waysB s d S).2.at_ ≤ s.size + (d + 2) := by
  rw [waysB_eq]; exact waysF_up s (d + 2) (thB_up s d) S h
theorem thing_pos {grp : Nat → BS → Part × BS} (s : ByteArray) (hg : ∀ S0 : BS, S0.at_ + 1 ≤ (grp S0.at_ (skip S0 1)).2.at_) (S : BS) : S.at_ + 1 ≤ (thingB grp s S).2.at_ := by
  have hs : ∀ (x : Stp) (S : BS), (single x S).2.at_ = S.at_ := fun _ _ => rfl
  unfold thingB byteOf
  dsimp only
  split
  · rw [hs, wrongB_at, skip_at]; omega
  · split
    · rw [hs, skip_at]; omega
    · split
      · rw [hs, skip_at]; omega
      · split
        · rw [hs, skip_at]; omega
        · split
          · rw [hs]; have := (bracketB_at s (skip S 1)).1; rw [skip_at] at this; exact this
          · split
            · exact hg S
            · split
              · rw [hs, skip_at]; split
                · rw [wrongB_at, skip_at]; omega
                · rw [skip_at]; omega
              · rw [hs, skip_at]; omega
theorem thB_pos (s : ByteArray) : ∀ (d : Nat) (S : BS), S.at_ + 1 ≤ (thB s d S).2.at_
  | 0, S => thing_pos (grp := fun at_ S => ((0, []), wrongB 4 at_ S)) s (fun S0 => by show _ ≤ (wrongB 4 S0.at_ (skip S0 1)).at_; rw [wrongB_at, skip_at]; omega) S
  | d + 1, S => thing_pos (grp := grpF (waysB s d) s) s (fun S0 => by
      unfold grpF
      have h1 := (waysB_gr s d (skip S0 1)).at_
      rw [skip_at] at h1
      show _ ≤ (skip _ 1).at_
      rw [skip_at]
      split
      · omega
      · rw [wrongB_at]; omega) S
end Go.Proofs.Ytnjpdhekeffpnaa.Rx
