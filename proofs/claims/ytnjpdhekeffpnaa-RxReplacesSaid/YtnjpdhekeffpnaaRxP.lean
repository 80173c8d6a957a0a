/- What the program's reader of expressions makes, as plain functions; what they keep. -/
import Derived.Test.YtnjpdhekeffpnaaWMore
set_option linter.unusedVariables false
set_option linter.unusedSimpArgs false
namespace Go.Proofs.Ytnjpdhekeffpnaa.Rx
open Go.RowKit Go.Proofs.YtnjpdhekeffpnaaW.PrintWords Go.Proofs.YtnjpdhekeffpnaaW.PrintLast Go.Proofs.YtnjpdhekeffpnaaW.PrintMore

/-- a step: its kind, its set as a mask, where it goes on, the second way -/
structure Stp where
  k : Nat
  m : Nat
  nx : Nat
  ot : Nat
deriving DecidableEq
/-- a reader's state: the place, the fault (its number less 1, its place), the steps -/
structure BS where
  at_ : Nat
  F : Option (Nat × Nat)
  st : List Stp
abbrev Part := Nat × List Nat

def peekB (s : ByteArray) (S : BS) : Option Int := if S.F = none ∧ S.at_ < s.size then some (bt s S.at_) else none
def wrongB (e at_ : Nat) (S : BS) : BS := match S.F with
  | none => ⟨S.at_, some (e, at_), S.st⟩
  | some _ => S
def skip (S : BS) (n : Nat) : BS := ⟨S.at_ + n, S.F, S.st⟩
def addB (x : Stp) (S : BS) : BS := ⟨S.at_, S.F, S.st ++ [x]⟩
def set1 (st : List Stp) (o next : Nat) : List Stp := st.modify (o / 2) fun x => if o % 2 = 1 then ⟨x.k, x.m, x.nx, next⟩ else ⟨x.k, x.m, next, x.ot⟩
def patchL (outs : List Nat) (next : Nat) (st : List Stp) : List Stp := outs.foldl (fun st o => set1 st o next) st
def patchB (outs : List Nat) (next : Nat) (S : BS) : BS := ⟨S.at_, S.F, patchL outs next S.st⟩
def single (x : Stp) (S : BS) : Part × BS := ((S.st.length, [2 * S.st.length]), addB x S)
/-- n bytes from lo on, added to a set -/
def addR (m lo : Nat) : Nat → Nat
  | 0 => m
  | n + 1 => addR (m ||| 2 ^ lo) (lo + 1) n
def byteOf (c : Nat) (S : BS) : Part × BS := single ⟨0, addR 0 c 1, 0, 0⟩ S
def full : Nat := 2 ^ 256 - 1
/-- a set's bytes, from behind the bracket and its '^' on -/
def brL (s : ByteArray) (b0 : Nat) : Nat → Nat → BS → Bool × Nat × BS
  | 0, _, S => (false, 0, wrongB 3 s.size S)
  | n + 1, m, S => match peekB s S with
    | none => (false, 0, wrongB 3 s.size S)
    | some c =>
      if c = 93 ∧ b0 < S.at_ then (true, m, skip S 1)
      else if s.size - S.at_ < 3 ∨ bt s ((S.at_ : Int) + 1) ≠ 45 ∨ bt s ((S.at_ : Int) + 2) = 93 then brL s b0 n (addR m c.toNat 1) (skip S 1)
      else if bt s ((S.at_ : Int) + 2) < c then (false, 0, wrongB 2 (S.at_ + 1) S)
      else brL s b0 n (addR m c.toNat ((bt s ((S.at_ : Int) + 2)).toNat + 1 - c.toNat)) (skip S 3)
def bracketB (s : ByteArray) (S : BS) : Nat × BS :=
  if peekB s S = some 94 then
    (let r := brL s (S.at_ + 1) (s.size + 1) 0 (skip S 1); (if r.1 then full ^^^ r.2.1 else 0, r.2.2))
  else (let r := brL s S.at_ (s.size + 1) 0 S; (r.2.1, r.2.2))
def thingB (grp : Nat → BS → Part × BS) (s : ByteArray) (S : BS) : Part × BS :=
  let c := (peekB s S).getD 0
  let S1 := skip S 1
  if c = 42 ∨ c = 43 ∨ c = 63 then byteOf c.toNat (wrongB 2 S.at_ S1)
  else if c = 46 then single ⟨0, addR 0 0 256, 0, 0⟩ S1
  else if c = 94 then single ⟨2, 0, 0, 0⟩ S1
  else if c = 36 then single ⟨3, 0, 0, 0⟩ S1
  else if c = 91 then (let r := bracketB s S1; single ⟨0, r.1, 0, 0⟩ r.2)
  else if c = 40 then grp S.at_ S1
  else if c = 92 then byteOf ((peekB s S1).getD 0).toNat (skip (if (peekB s S1).isNone then wrongB 3 s.size S1 else S1) 1)
  else byteOf c.toNat S1
def repB (s : ByteArray) (p : Part) (S : BS) : Part × BS :=
  match peekB s S with
  | none => (p, S)
  | some c =>
    if c = 63 then ((S.st.length, p.2 ++ [2 * S.st.length + 1]), addB ⟨1, 0, p.1, 0⟩ (skip S 1))
    else if c = 43 then ((p.1, [2 * S.st.length + 1]), patchB p.2 S.st.length (addB ⟨1, 0, p.1, 0⟩ (skip S 1)))
    else if c = 42 then ((S.st.length, [2 * S.st.length + 1]), patchB p.2 S.st.length (addB ⟨1, 0, p.1, 0⟩ (skip S 1)))
    else (p, S)
def wayL (th : BS → Part × BS) (s : ByteArray) : Nat → Part → BS → Part × BS
  | 0, p, S => (p, S)
  | n + 1, p, S => match peekB s S with
    | none => (p, S)
    | some c =>
      if c = 124 ∨ c = 41 then (p, S)
      else
        let r := th S
        let q := repB s r.1 r.2
        wayL th s n (p.1, q.1.2) (patchB p.2 q.1.1 q.2)
def wayB (th : BS → Part × BS) (s : ByteArray) (S : BS) : Part × BS :=
  wayL th s (s.size + 1) (S.st.length, [2 * S.st.length, 2 * S.st.length + 1]) (addB ⟨1, 0, 0, 0⟩ S)
def waysL (th : BS → Part × BS) (s : ByteArray) : Nat → Part → BS → Part × BS
  | 0, p, S => (p, S)
  | n + 1, p, S =>
    if peekB s S = some 124 then
      let q := wayB th s (skip S 1)
      waysL th s n (q.2.st.length, p.2 ++ q.1.2) (addB ⟨1, 0, p.1, q.1.1⟩ q.2)
    else (p, S)
def waysF (th : BS → Part × BS) (s : ByteArray) (S : BS) : Part × BS :=
  let p := wayB th s S
  waysL th s (s.size + 1) p.1 p.2
def grpF (wys : BS → Part × BS) (s : ByteArray) (_at : Nat) (S : BS) : Part × BS :=
  let p := wys S
  (p.1, skip (if peekB s p.2 = some 41 then p.2 else wrongB 3 s.size p.2) 1)
/-- the ways, d brackets more may be opened -/
def waysB (s : ByteArray) : Nat → BS → Part × BS
  | 0 => waysF (thingB (fun at_ S => ((0, []), wrongB 4 at_ S)) s) s
  | d + 1 => waysF (thingB (grpF (waysB s d) s) s) s
def thB (s : ByteArray) : Nat → BS → Part × BS
  | 0 => thingB (fun at_ S => ((0, []), wrongB 4 at_ S)) s
  | d + 1 => thingB (grpF (waysB s d) s) s
theorem waysB_eq (s : ByteArray) (d : Nat) : waysB s d = waysF (thB s d) s := by cases d <;> rfl
def readB (s : ByteArray) : Part × BS := waysB s 16 ⟨0, none, []⟩
/-- the fault of a text, if it is no expression -/
def faultB (s : ByteArray) : Option (Nat × Nat) :=
  if 200 < s.size then some (4, 0)
  else (if (readB s).2.at_ < s.size then wrongB 2 (readB s).2.at_ (readB s).2 else (readB s).2).F
/-- the steps of an expression, and the first one -/
def stepsB (s : ByteArray) : List Stp := (patchB (readB s).1.2 (readB s).2.st.length (addB ⟨4, 0, 0, 0⟩ (readB s).2)).st
def firstB (s : ByteArray) : Nat := (readB s).1.1

/-! ### what is kept: a thing's growth -/
structure Gr (c : Nat) (S : BS) (r : Part × BS) : Prop where
  at_ : S.at_ ≤ r.2.at_
  le : S.st.length ≤ r.2.st.length
  up : r.2.st.length ≤ S.st.length + 2 * (r.2.at_ - S.at_) + c
  first : r.1.1 < r.2.st.length
  outs : ∀ o ∈ r.1.2, o / 2 < r.2.st.length
  many : r.1.2.length ≤ 2 * (r.2.at_ - S.at_) + 2 * c
theorem set1_len (st : List Stp) (o n : Nat) : (set1 st o n).length = st.length := by unfold set1; rw [List.length_modify]
theorem patchL_len (outs : List Nat) (n : Nat) (st : List Stp) : (patchL outs n st).length = st.length := by
  unfold patchL
  induction outs generalizing st with
  | nil => rfl
  | cons o outs ih => rw [List.foldl_cons, ih, set1_len]
theorem patchB_len (outs : List Nat) (n : Nat) (S : BS) : (patchB outs n S).st.length = S.st.length := patchL_len _ _ _
theorem patchB_at (outs : List Nat) (n : Nat) (S : BS) : (patchB outs n S).at_ = S.at_ := rfl
theorem wrongB_at (e a : Nat) (S : BS) : (wrongB e a S).at_ = S.at_ := by unfold wrongB; split <;> rfl
theorem wrongB_st (e a : Nat) (S : BS) : (wrongB e a S).st = S.st := by unfold wrongB; split <;> rfl
theorem skip_st (S : BS) (n : Nat) : (skip S n).st = S.st := rfl
theorem skip_at (S : BS) (n : Nat) : (skip S n).at_ = S.at_ + n := rfl
theorem addB_at (x : Stp) (S : BS) : (addB x S).at_ = S.at_ := rfl
theorem addB_len (x : Stp) (S : BS) : (addB x S).st.length = S.st.length + 1 := by unfold addB; simp
theorem single_gr (x : Stp) (S S0 : BS) (ha : S0.at_ + 1 ≤ S.at_) (hs : S.st = S0.st) : Gr 0 S0 (single x S) := by
  unfold single
  refine ⟨?_, ?_, ?_, ?_, ?_, ?_⟩
  · show S0.at_ ≤ S.at_; omega
  · rw [addB_len, hs]; omega
  · rw [addB_len, hs, addB_at]; show S0.st.length + 1 ≤ _; omega
  · rw [addB_len]; show S.st.length < _; omega
  · intro o ho
    rw [addB_len]
    have : o = 2 * S.st.length := by simpa using ho
    omega
  · show 1 ≤ 2 * (S.at_ - S0.at_) + 2 * 0; omega
theorem brL_at (s : ByteArray) (b0 : Nat) : ∀ (n m : Nat) (S : BS), S.at_ ≤ (brL s b0 n m S).2.2.at_ ∧ (brL s b0 n m S).2.2.st = S.st
  | 0, m, S => by rw [brL]; exact ⟨by rw [wrongB_at]; omega, wrongB_st _ _ _⟩
  | n + 1, m, S => by
    rw [brL]
    split
    · exact ⟨by rw [wrongB_at]; omega, wrongB_st _ _ _⟩
    · split
      · exact ⟨by rw [skip_at]; omega, rfl⟩
      · split
        · have := brL_at s b0 n (addR m (‹Int›).toNat 1) (skip S 1)
          rw [skip_at, skip_st] at this
          exact ⟨by omega, this.2⟩
        · split
          · exact ⟨by rw [wrongB_at]; omega, wrongB_st _ _ _⟩
          · have := brL_at s b0 n (addR m (‹Int›).toNat ((bt s ((S.at_ : Int) + 2)).toNat + 1 - (‹Int›).toNat)) (skip S 3)
            rw [skip_at, skip_st] at this
            exact ⟨by omega, this.2⟩
theorem bracketB_at (s : ByteArray) (S : BS) : S.at_ ≤ (bracketB s S).2.at_ ∧ (bracketB s S).2.st = S.st := by
  unfold bracketB
  split
  · have := brL_at s (S.at_ + 1) (s.size + 1) 0 (skip S 1)
    rw [skip_at, skip_st] at this
    exact ⟨by show S.at_ ≤ (brL s (S.at_ + 1) (s.size + 1) 0 (skip S 1)).2.2.at_; omega, this.2⟩
  · exact brL_at s S.at_ (s.size + 1) 0 S
theorem thing_gr {grp : Nat → BS → Part × BS} (s : ByteArray) (hg : ∀ (S0 : BS), 0 < S0.st.length → Gr 0 S0 (grp S0.at_ (skip S0 1))) (S : BS) (h0 : 0 < S.st.length) : Gr 0 S (thingB grp s S) := by
  unfold thingB
  dsimp only
  have e1 : S.at_ + 1 ≤ (skip S 1).at_ := Nat.le_refl _
  split
  · exact single_gr _ _ _ (by rw [wrongB_at]; exact e1) (wrongB_st _ _ _)
  · split
    · exact single_gr _ _ _ e1 rfl
    · split
      · exact single_gr _ _ _ e1 rfl
      · split
        · exact single_gr _ _ _ e1 rfl
        · split
          · have := bracketB_at s (skip S 1)
            rw [skip_at, skip_st] at this
            exact single_gr _ _ _ this.1 this.2
          · split
            · exact hg S h0
            · split
              · refine single_gr _ _ _ ?_ ?_
                · rw [skip_at]; split
                  · rw [wrongB_at, skip_at]; omega
                  · rw [skip_at]; omega
                · rw [skip_st]; split
                  · rw [wrongB_st, skip_st]
                  · rfl
              · exact single_gr _ _ _ e1 rfl
theorem rep_gr (s : ByteArray) {S0 : BS} {r : Part × BS} (h : Gr 0 S0 r) : Gr 0 S0 (repB s r.1 r.2) := by
  unfold repB
  obtain ⟨h1, h2, h3, h4, h5, h6⟩ := h
  split
  · exact ⟨h1, h2, h3, h4, h5, h6⟩
  · split
    · refine ⟨?_, ?_, ?_, ?_, ?_, ?_⟩
      · show S0.at_ ≤ r.2.at_ + 1; omega
      · rw [addB_len, skip_st]; omega
      · rw [addB_len, skip_st, addB_at, skip_at]; omega
      · rw [addB_len, skip_st]; show r.2.st.length < _; omega
      · intro o ho
        rw [addB_len, skip_st]
        rcases List.mem_append.1 ho with ho | ho
        · have := h5 o ho; omega
        · have : o = 2 * r.2.st.length + 1 := by simpa using ho
          omega
      · rw [addB_at, skip_at]
        show (r.1.2 ++ [2 * r.2.st.length + 1]).length ≤ _
        rw [List.length_append, List.length_singleton]; omega
    · split
      · refine ⟨?_, ?_, ?_, ?_, ?_, ?_⟩
        · show S0.at_ ≤ r.2.at_ + 1; omega
        · rw [patchB_len, addB_len, skip_st]; omega
        · rw [patchB_len, addB_len, skip_st, patchB_at, addB_at, skip_at]; omega
        · rw [patchB_len, addB_len, skip_st]; show r.1.1 < _; omega
        · intro o ho
          rw [patchB_len, addB_len, skip_st]
          have : o = 2 * r.2.st.length + 1 := by simpa using ho
          omega
        · rw [patchB_at, addB_at, skip_at]
          show 1 ≤ _; omega
      · split
        · refine ⟨?_, ?_, ?_, ?_, ?_, ?_⟩
          · show S0.at_ ≤ r.2.at_ + 1; omega
          · rw [patchB_len, addB_len, skip_st]; omega
          · rw [patchB_len, addB_len, skip_st, patchB_at, addB_at, skip_at]; omega
          · rw [patchB_len, addB_len, skip_st]; show r.2.st.length < _; omega
          · intro o ho
            rw [patchB_len, addB_len, skip_st]
            have : o = 2 * r.2.st.length + 1 := by simpa using ho
            omega
          · rw [patchB_at, addB_at, skip_at]
            show 1 ≤ _; omega
        · exact ⟨h1, h2, h3, h4, h5, h6⟩
theorem wayL_gr {th : BS → Part × BS} (s : ByteArray) (hth : ∀ S, 0 < S.st.length → Gr 0 S (th S)) (S0 : BS) : ∀ (n : Nat) (p : Part) (S : BS), Gr 1 S0 (p, S) → 0 < S.st.length → Gr 1 S0 (wayL th s n p S)
  | 0, p, S, h, h0 => h
  | n + 1, p, S, h, h0 => by
    rw [wayL]
    split
    · exact h
    · split
      · exact h
      · have hq := rep_gr s (hth S h0)
        obtain ⟨h1, h2, h3, h4, h5, h6⟩ := h
        obtain ⟨k1, k2, k3, k4, k5, k6⟩ := hq
        dsimp only at h1 h2 h3 h4 h5 h6 ⊢
        refine wayL_gr s hth S0 n _ _ ⟨?_, ?_, ?_, ?_, ?_, ?_⟩ (by rw [patchB_len]; omega)
        · rw [patchB_at]; omega
        · rw [patchB_len]; omega
        · rw [patchB_len, patchB_at]; omega
        · rw [patchB_len]; show p.1 < _; omega
        · intro o ho; rw [patchB_len]; exact k5 o ho
        · rw [patchB_at]
          show (repB s (th S).1 (th S).2).1.2.length ≤ _
          omega
theorem way_start (S : BS) : Gr 1 S ((S.st.length, [2 * S.st.length, 2 * S.st.length + 1]), addB ⟨1, 0, 0, 0⟩ S) := by
  refine ⟨Nat.le_refl _, ?_, ?_, ?_, ?_, ?_⟩
  · rw [addB_len]; omega
  · rw [addB_len]; omega
  · rw [addB_len]; exact Nat.lt_succ_self _
  · intro o ho
    rw [addB_len]
    have : o = 2 * S.st.length ∨ o = 2 * S.st.length + 1 := by simpa using ho
    omega
  · show 2 ≤ _; omega
theorem wayB_gr {th : BS → Part × BS} (s : ByteArray) (hth : ∀ S, 0 < S.st.length → Gr 0 S (th S)) (S : BS) : Gr 1 S (wayB th s S) :=
  wayL_gr s hth S _ _ _ (way_start S) (by rw [addB_len]; omega)
theorem waysL_gr {th : BS → Part × BS} (s : ByteArray) (hth : ∀ S, 0 < S.st.length → Gr 0 S (th S)) (S0 : BS) : ∀ (n : Nat) (p : Part) (S : BS), Gr 1 S0 (p, S) → Gr 1 S0 (waysL th s n p S)
  | 0, p, S, h => h
  | n + 1, p, S, h => by
    rw [waysL]
    split
    · obtain ⟨h1, h2, h3, h4, h5, h6⟩ := h
      obtain ⟨k1, k2, k3, k4, k5, k6⟩ := wayB_gr s hth (skip S 1)
      rw [skip_at] at k1 k3 k6
      rw [skip_st] at k2 k3
      dsimp only at h1 h2 h3 h4 h5 h6 ⊢
      refine waysL_gr s hth S0 n _ _ ⟨?_, ?_, ?_, ?_, ?_, ?_⟩
      · rw [addB_at]; omega
      · rw [addB_len]; omega
      · rw [addB_len, addB_at]; omega
      · rw [addB_len]; exact Nat.lt_succ_self _
      · intro o ho
        rw [addB_len]
        rcases List.mem_append.1 ho with ho | ho
        · have := h5 o ho; omega
        · have := k5 o ho; omega
      · rw [addB_at]
        show (p.2 ++ (wayB th s (skip S 1)).1.2).length ≤ _
        rw [List.length_append]; omega
    · exact h
theorem waysF_gr {th : BS → Part × BS} (s : ByteArray) (hth : ∀ S, 0 < S.st.length → Gr 0 S (th S)) (S : BS) : Gr 1 S (waysF th s S) :=
  waysL_gr s hth S _ _ _ (wayB_gr s hth S)
theorem grpF_gr {wys : BS → Part × BS} (s : ByteArray) (hw : ∀ S, Gr 1 S (wys S)) (S : BS) (at_ : Nat) : Gr 0 S (grpF wys s at_ (skip S 1)) := by
  unfold grpF
  obtain ⟨k1, k2, k3, k4, k5, k6⟩ := hw (skip S 1)
  rw [skip_at] at k1 k3 k6
  rw [skip_st] at k2 k3
  have e1 : (if peekB s (wys (skip S 1)).2 = some 41 then (wys (skip S 1)).2 else wrongB 3 s.size (wys (skip S 1)).2).at_ = (wys (skip S 1)).2.at_ := by
    split
    · rfl
    · rw [wrongB_at]
  have e2 : (if peekB s (wys (skip S 1)).2 = some 41 then (wys (skip S 1)).2 else wrongB 3 s.size (wys (skip S 1)).2).st = (wys (skip S 1)).2.st := by
    split
    · rfl
    · rw [wrongB_st]
  refine ⟨?_, ?_, ?_, ?_, ?_, ?_⟩
  · rw [skip_at, e1]; omega
  · rw [skip_st, e2]; exact k2
  · rw [skip_st, skip_at, e1, e2]; omega
  · rw [skip_st, e2]; exact k4
  · rw [skip_st, e2]; exact k5
  · rw [skip_at, e1]; show (wys (skip S 1)).1.2.length ≤ _; omega
theorem group0_gr (S : BS) (at_ : Nat) (h0 : 0 < S.st.length) : Gr 0 S (((0, []), wrongB 4 at_ (skip S 1)) : Part × BS) := by
  refine ⟨?_, ?_, ?_, ?_, ?_, ?_⟩
  · show _ ≤ (wrongB 4 at_ (skip S 1)).at_; rw [wrongB_at, skip_at]; omega
  · show _ ≤ (wrongB 4 at_ (skip S 1)).st.length; rw [wrongB_st, skip_st]; omega
  · show (wrongB 4 at_ (skip S 1)).st.length ≤ _; rw [wrongB_st, skip_st]; omega
  · show 0 < (wrongB 4 at_ (skip S 1)).st.length; rw [wrongB_st, skip_st]; exact h0
  · intro o ho; simp at ho
  · show 0 ≤ _; omega
theorem thB_gr (s : ByteArray) : ∀ (d : Nat) (S : BS), 0 < S.st.length → Gr 0 S (thB s d S)
  | 0, S, h => thing_gr (grp := fun at_ S => ((0, []), wrongB 4 at_ S)) s (fun S0 h0 => group0_gr S0 S0.at_ h0) S h
  | d + 1, S, h => thing_gr (grp := grpF (waysB s d) s) s (fun S0 h0 => grpF_gr s (fun S1 => by rw [waysB_eq]; exact waysF_gr s (thB_gr s d) S1) S0 S0.at_) S h
theorem waysB_gr (s : ByteArray) (d : Nat) (S : BS) : Gr 1 S (waysB s d S) := by
  rw [waysB_eq]; exact waysF_gr s (thB_gr s d) S
/-! ### how far the place comes -/
theorem peek_lt {s : ByteArray} {S : BS} {c : Int} (h : peekB s S = some c) : S.at_ < s.size ∧ S.F = none ∧ c = bt s S.at_ := by
  unfold peekB at h
  split at h
  · rename_i e; injection h with h; exact ⟨e.2, e.1, h.symm⟩
  · cases h
theorem peek_none {s : ByteArray} {S : BS} (h : s.size ≤ S.at_) : peekB s S = none := by
  unfold peekB
  rw [if_neg (by rintro ⟨-, e⟩; omega)]
theorem brL_up (s : ByteArray) (b0 : Nat) : ∀ (n m : Nat) (S : BS), S.at_ ≤ s.size → (brL s b0 n m S).2.2.at_ ≤ s.size
  | 0, m, S, h => by rw [brL]; show (wrongB 3 s.size S).at_ ≤ _; rw [wrongB_at]; exact h
  | n + 1, m, S, h => by
    rw [brL]
    split
    · show (wrongB 3 s.size S).at_ ≤ _; rw [wrongB_at]; exact h
    · rename_i c hc
      have := (peek_lt hc).1
      split
      · show S.at_ + 1 ≤ _; omega
      · split
        · exact brL_up s b0 n _ _ (by rw [skip_at]; omega)
        · split
          · show (wrongB 2 (S.at_ + 1) S).at_ ≤ _; rw [wrongB_at]; exact h
          · exact brL_up s b0 n _ _ (by rw [skip_at]; omega)
theorem bracketB_up (s : ByteArray) (S : BS) (h : S.at_ ≤ s.size) : (bracketB s S).2.at_ ≤ s.size := by
  unfold bracketB
  split
  · rename_i e
    have := (peek_lt e).1
    exact brL_up s _ _ _ _ (by rw [skip_at]; omega)
  · exact brL_up s _ _ _ _ h
theorem thing_up {grp : Nat → BS → Part × BS} (s : ByteArray) (k : Nat) (hk : 2 ≤ k) (hg : ∀ (S0 : BS), S0.at_ < s.size → (grp S0.at_ (skip S0 1)).2.at_ ≤ s.size + k) (S : BS) (h : S.at_ < s.size) : (thingB grp s S).2.at_ ≤ s.size + k := by
  have hs : ∀ (x : Stp) (S : BS), (single x S).2.at_ = S.at_ := fun _ _ => rfl
  unfold thingB byteOf
  dsimp only
  split
  · rw [hs, wrongB_at, skip_at]; omega
  · split
    · rw [hs, skip_at]; omega
    · split
      · rw [hs, skip_at]; omega
      · split
        · rw [hs, skip_at]; omega
        · split
          · rw [hs]; have := bracketB_up s (skip S 1) (by rw [skip_at]; omega); omega
          · split
            · exact hg S h
            · split
              · rw [hs, skip_at]; split
                · rw [wrongB_at, skip_at]; omega
                · rw [skip_at]; omega
              · rw [hs, skip_at]; omega
theorem rep_up (s : ByteArray) (p : Part) (S : BS) (k : Nat) (h : S.at_ ≤ s.size + k) : (repB s p S).2.at_ ≤ s.size + k := by
  unfold repB
  split
  · exact h
  · rename_i c hc
    have := (peek_lt hc).1
    split
    · show S.at_ + 1 ≤ _; omega
    · split
      · show S.at_ + 1 ≤ _; omega
      · split
        · show S.at_ + 1 ≤ _; omega
        · exact h
theorem wayL_up {th : BS → Part × BS} (s : ByteArray) (k : Nat) (hth : ∀ S, S.at_ < s.size → (th S).2.at_ ≤ s.size + k) : ∀ (n : Nat) (p : Part) (S : BS), S.at_ ≤ s.size + k → (wayL th s n p S).2.at_ ≤ s.size + k
  | 0, p, S, h => h
  | n + 1, p, S, h => by
    rw [wayL]
    split
    · exact h
    · rename_i c hc
      split
      · exact h
      · exact wayL_up s k hth n _ _ (by rw [patchB_at]; exact rep_up s _ _ k (hth S (peek_lt hc).1))
theorem wayB_up {th : BS → Part × BS} (s : ByteArray) (k : Nat) (hth : ∀ S, S.at_ < s.size → (th S).2.at_ ≤ s.size + k) (S : BS) (h : S.at_ ≤ s.size + k) : (wayB th s S).2.at_ ≤ s.size + k :=
  wayL_up s k hth _ _ _ h
theorem waysL_up {th : BS → Part × BS} (s : ByteArray) (k : Nat) (hth : ∀ S, S.at_ < s.size → (th S).2.at_ ≤ s.size + k) : ∀ (n : Nat) (p : Part) (S : BS), S.at_ ≤ s.size + k → (waysL th s n p S).2.at_ ≤ s.size + k
  | 0, p, S, h => h
  | n + 1, p, S, h => by
    rw [waysL]
    split
    · rename_i hc
      exact waysL_up s k hth n _ _ (wayB_up s k hth _ (by rw [skip_at]; have := (peek_lt hc).1; omega))
    · exact h
theorem waysF_up {th : BS → Part × BS} (s : ByteArray) (k : Nat) (hth : ∀ S, S.at_ < s.size → (th S).2.at_ ≤ s.size + k) (S : BS) (h : S.at_ ≤ s.size + k) : (waysF th s S).2.at_ ≤ s.size + k :=
  waysL_up s k hth _ _ _ (wayB_up s k hth S h)
theorem thB_up (s : ByteArray) : ∀ (d : Nat) (S : BS), S.at_ < s.size → (thB s d S).2.at_ ≤ s.size + (d + 2)
  | 0, S, h => thing_up (grp := fun at_ S => ((0, []), wrongB 4 at_ S)) s 2 (by omega) (fun S0 h0 => by show (wrongB 4 S0.at_ (skip S0 1)).at_ ≤ _; rw [wrongB_at, skip_at]; omega) S h
  | d + 1, S, h => thing_up (grp := grpF (waysB s d) s) s (d + 1 + 2) (by omega) (fun S0 h0 => by
      unfold grpF
      have h1 := waysF_up s (d + 2) (thB_up s d) (skip S0 1) (by rw [skip_at]; omega)
      rw [← waysB_eq] at h1
      show (skip _ 1).at_ ≤ _
      rw [skip_at]
      split
      · omega
      · rw [wrongB_at]; omega) S h
theorem waysB_up (s : ByteArray) (d : Nat) (S : BS) (h : S.at_ ≤ s.size + (d + 2)) : (waysB s d S).2.at_ ≤ s.size + (d + 2) := by
  rw [waysB_eq]; exact waysF_up s (d + 2) (thB_up s d) S h
theorem thing_pos {grp : Nat → BS → Part × BS} (s : ByteArray) (hg : ∀ S0 : BS, S0.at_ + 1 ≤ (grp S0.at_ (skip S0 1)).2.at_) (S : BS) : S.at_ + 1 ≤ (thingB grp s S).2.at_ := by
  have hs : ∀ (x : Stp) (S : BS), (single x S).2.at_ = S.at_ := fun _ _ => rfl
  unfold thingB byteOf
  dsimp only
  split
  · rw [hs, wrongB_at, skip_at]; omega
  · split
    · rw [hs, skip_at]; omega
    · split
      · rw [hs, skip_at]; omega
      · split
        · rw [hs, skip_at]; omega
        · split
          · rw [hs]; have := (bracketB_at s (skip S 1)).1; rw [skip_at] at this; exact this
          · split
            · exact hg S
            · split
              · rw [hs, skip_at]; split
                · rw [wrongB_at, skip_at]; omega
                · rw [skip_at]; omega
              · rw [hs, skip_at]; omega
theorem thB_pos (s : ByteArray) : ∀ (d : Nat) (S : BS), S.at_ + 1 ≤ (thB s d S).2.at_
  | 0, S => thing_pos (grp := fun at_ S => ((0, []), wrongB 4 at_ S)) s (fun S0 => by show _ ≤ (wrongB 4 S0.at_ (skip S0 1)).at_; rw [wrongB_at, skip_at]; omega) S
  | d + 1, S => thing_pos (grp := grpF (waysB s d) s) s (fun S0 => by
      unfold grpF
      have h1 := (waysB_gr s d (skip S0 1)).at_
      rw [skip_at] at h1
      show _ ≤ (skip _ 1).at_
      rw [skip_at]
      split
      · omega
      · rw [wrongB_at]; omega) S
end Go.Proofs.Ytnjpdhekeffpnaa.Rx
set_option linter.unusedVariables false
set_option linter.unusedSimpArgs false
namespace Go.Proofs.Ytnjpdhekeffpnaa.Rx
open Go.RowKit Go.Proofs.YtnjpdhekeffpnaaW.PrintWords Go.Proofs.YtnjpdhekeffpnaaW.PrintLast Go.Proofs.YtnjpdhekeffpnaaW.PrintMore

def stp (st : List Stp) (n : Nat) : Stp := st.getD n ⟨4, 0, 0, 0⟩
/-- all steps that are come to from step n, no byte taken, are marked -/
def walkP (st : List Stp) (b e : Bool) : Nat → List Bool → Nat → List Bool
  | 0, m, _ => m
  | k + 1, m, n =>
    if m.getD n true = true then m
    else if (stp st n).k = 1 then walkP st b e k (walkP st b e k (m.set n true) (stp st n).nx) (stp st n).ot
    else if (stp st n).k = 2 then (if b = true then walkP st b e k (m.set n true) (stp st n).nx else m.set n true)
    else if (stp st n).k = 3 then (if e = true then walkP st b e k (m.set n true) (stp st n).nx else m.set n true)
    else m.set n true
/-- how many are not marked -/
def free (m : List Bool) : Nat := m.countP (fun x => !x)
/-- steps that lead to steps -/
def WfS (st : List Stp) : Prop := ∀ x ∈ st, x.nx < st.length ∧ x.ot < st.length
theorem walkP_len (st : List Stp) (b e : Bool) : ∀ (k : Nat) (m : List Bool) (n : Nat), (walkP st b e k m n).length = m.length
  | 0, m, n => rfl
  | k + 1, m, n => by
    rw [walkP]
    split
    · rfl
    · split
      · rw [walkP_len, walkP_len, List.length_set]
      · split
        · split
          · rw [walkP_len, List.length_set]
          · rw [List.length_set]
        · split
          · split
            · rw [walkP_len, List.length_set]
            · rw [List.length_set]
          · rw [List.length_set]
theorem free_set (m : List Bool) (n : Nat) (h : m.getD n true = false) : free (m.set n true) + 1 = free m := by
  induction m generalizing n with
  | nil => simp at h
  | cons x m ih =>
    cases n with
    | zero =>
      have : x = false := by simpa using h
      subst this
      simp [free]
    | succ n =>
      have h' : m.getD n true = false := by simpa using h
      have := ih n h'
      unfold free at this ⊢
      rw [List.set_cons_succ, List.countP_cons, List.countP_cons]
      omega
theorem free_le (st : List Stp) (b e : Bool) : ∀ (k : Nat) (m : List Bool) (n : Nat), free (walkP st b e k m n) ≤ free m
  | 0, m, n => Nat.le_refl _
  | k + 1, m, n => by
    rw [walkP]
    split
    · exact Nat.le_refl _
    · rename_i h
      have h1 : free (m.set n true) ≤ free m := by
        have := free_set m n (by simpa using h)
        omega
      split
      · exact Nat.le_trans (free_le st b e k _ _) (Nat.le_trans (free_le st b e k _ _) h1)
      · split
        · split
          · exact Nat.le_trans (free_le st b e k _ _) h1
          · exact h1
        · split
          · split
            · exact Nat.le_trans (free_le st b e k _ _) h1
            · exact h1
          · exact h1
/-- one text's byte taken: the steps behind it -/
def stepL (s : ByteArray) (st : List Stp) (at_ : Nat) (marks : List Bool) : Nat → Nat → List Bool → Bool → Int → List Bool × Bool × Int
  | 0, _, next, some_, last => (next, some_, last)
  | k + 1, n, next, some_, last =>
    if n < marks.length then
      if marks.getD n false = false then stepL s st at_ marks k (n + 1) next some_ last
      else if (stp st n).k = 4 then stepL s st at_ marks k (n + 1) next some_ (at_ : Int)
      else if (stp st n).k = 0 ∧ at_ < s.size ∧ (stp st n).m.testBit (bt s at_).toNat = true then stepL s st at_ marks k (n + 1) (walkP st false (decide (at_ + 1 = s.size)) (st.length + 1) next (stp st n).nx) true last
      else stepL s st at_ marks k (n + 1) next some_ last
    else (next, some_, last)
/-- where the longest match ends, or -1 -/
def longL (s : ByteArray) (st : List Stp) : Nat → Nat → List Bool → Int → Int
  | 0, _, _, last => last
  | k + 1, at_, marks, last =>
    let r := stepL s st at_ marks (marks.length + 1) 0 (List.replicate st.length false) false last
    if r.2.1 = true then longL s st k (at_ + 1) r.1 r.2.2 else r.2.2
def longP (s : ByteArray) (st : List Stp) (first at_ : Nat) : Int :=
  longL s st (s.size + 2) at_ (walkP st (decide (at_ = 0)) (decide (at_ = s.size)) (st.length + 1) (List.replicate st.length false) first) (-1)
def findL (s : ByteArray) (st : List Stp) (first : Nat) : Nat → Nat → Option (Nat × Int)
  | 0, _ => none
  | k + 1, i => if s.size < i then none else if 0 ≤ longP s st first i then some (i, longP s st first i) else findL s st first k (i + 1)
def findP (s : ByteArray) (st : List Stp) (first : Nat) (from_ : Int) : Option (Nat × Int) := if from_ < 0 then none else findL s st first (s.size + 2) from_.toNat
def toS (s : String) : ByteArray := s.toUTF8
set_option maxRecDepth 100000 in
theorem alive1 : faultB ⟨#[97, 124, 97, 98]⟩ = none ∧ faultB ⟨#[98, 43]⟩ = none := by decide +kernel
set_option maxRecDepth 100000 in
theorem alive2 : findP ⟨#[120, 97, 98]⟩ (stepsB ⟨#[97, 124, 97, 98]⟩) (firstB ⟨#[97, 124, 97, 98]⟩) 0 = some (1, 3) := by decide +kernel
set_option maxRecDepth 100000 in
theorem alive3 : longP ⟨#[98, 98]⟩ (stepsB ⟨#[98, 43]⟩) (firstB ⟨#[98, 43]⟩) 0 = 2 := by decide +kernel
end Go.Proofs.Ytnjpdhekeffpnaa.Rx
set_option linter.unusedVariables false
set_option linter.unusedSimpArgs false
namespace Go.Proofs.Ytnjpdhekeffpnaa.Rx
open Go.RowKit Go.Proofs.YtnjpdhekeffpnaaW.PrintWords Go.Proofs.YtnjpdhekeffpnaaW.PrintLast Go.Proofs.YtnjpdhekeffpnaaW.PrintMore

inductive Re where
  | eps | byte (m : Nat) | beg | fin
  | cat (a b : Re) | alt (a b : Re) | star (a : Re) | plus (a : Re) | opt (a : Re)
inductive Star (R : Nat → Nat → Prop) : Nat → Nat → Prop where
  | nil (i : Nat) : Star R i i
  | cons {i k j : Nat} : R i k → Star R k j → Star R i j
theorem Star.one {R : Nat → Nat → Prop} {i j : Nat} (h : R i j) : Star R i j := .cons h (.nil j)
theorem Star.trans {R : Nat → Nat → Prop} {i k j : Nat} (h : Star R i k) (g : Star R k j) : Star R i j := by
  induction h with
  | nil => exact g
  | cons h1 _ ih => exact .cons h1 (ih g)
/-- which stretches of a text an expression is -/
def M (s : ByteArray) : Re → Nat → Nat → Prop
  | .eps, i, j => i = j
  | .byte m, i, j => i < s.size ∧ m.testBit (bt s i).toNat = true ∧ j = i + 1
  | .beg, i, j => i = 0 ∧ j = i
  | .fin, i, j => i = s.size ∧ j = i
  | .cat a b, i, j => ∃ k, M s a i k ∧ M s b k j
  | .alt a b, i, j => M s a i j ∨ M s b i j
  | .star a, i, j => Star (M s a) i j
  | .plus a, i, j => ∃ k, M s a i k ∧ Star (M s a) k j
  | .opt a, i, j => i = j ∨ M s a i j
theorem Star.le {R : Nat → Nat → Prop} (hR : ∀ i j, R i j → i ≤ j) {i j : Nat} (h : Star R i j) : i ≤ j := by
  induction h with
  | nil => exact Nat.le_refl _
  | cons h1 _ ih => exact Nat.le_trans (hR _ _ h1) ih
theorem M_le (s : ByteArray) : ∀ (e : Re) (i j : Nat), M s e i j → i ≤ j
  | .eps, i, j, h => Nat.le_of_eq h
  | .byte m, i, j, h => by have := h.2.2; omega
  | .beg, i, j, h => by have := h.2; omega
  | .fin, i, j, h => by have := h.2; omega
  | .cat a b, i, j, h => by obtain ⟨k, h1, h2⟩ := h; exact Nat.le_trans (M_le s a i k h1) (M_le s b k j h2)
  | .alt a b, i, j, h => by rcases h with h | h; (· exact M_le s a i j h); (· exact M_le s b i j h)
  | .star a, i, j, h => Star.le (M_le s a) h
  | .plus a, i, j, h => by obtain ⟨k, h1, h2⟩ := h; exact Nat.le_trans (M_le s a i k h1) (Star.le (M_le s a) h2)
  | .opt a, i, j, h => by rcases h with h | h; (· exact Nat.le_of_eq h); (· exact M_le s a i j h)
/-- one move: from step n at place i -/
inductive Go1 (s : ByteArray) (st : List Stp) : Nat → Nat → Nat → Nat → Prop where
  | byte {n i : Nat} : (stp st n).k = 0 → i < s.size → (stp st n).m.testBit (bt s i).toNat = true → Go1 s st n i (stp st n).nx (i + 1)
  | nx {n i : Nat} : (stp st n).k = 1 → Go1 s st n i (stp st n).nx i
  | ot {n i : Nat} : (stp st n).k = 1 → Go1 s st n i (stp st n).ot i
  | beg {n i : Nat} : (stp st n).k = 2 → i = 0 → Go1 s st n i (stp st n).nx i
  | fin {n i : Nat} : (stp st n).k = 3 → i = s.size → Go1 s st n i (stp st n).nx i
/-- l moves lead from step n at i to an end at j -/
inductive Acc (s : ByteArray) (st : List Stp) : Nat → Nat → Nat → Nat → Prop where
  | done {n j : Nat} : (stp st n).k = 4 → Acc s st 0 n j j
  | move {l n i n' i' j : Nat} : Go1 s st n i n' i' → Acc s st l n' i' j → Acc s st (l + 1) n i j
/-- an expression's steps, from f on, go on at nxt -/
inductive Bt (st : List Stp) : Re → Nat → Nat → Prop where
  | byte {n m o x : Nat} : stp st n = ⟨0, m, x, o⟩ → Bt st (.byte m) n x
  | beg {n m o x : Nat} : stp st n = ⟨2, m, x, o⟩ → Bt st .beg n x
  | fin {n m o x : Nat} : stp st n = ⟨3, m, x, o⟩ → Bt st .fin n x
  | eps {n m x : Nat} : stp st n = ⟨1, m, x, x⟩ → Bt st .eps n x
  | cat {a b : Re} {f g x : Nat} : Bt st a f g → Bt st b g x → Bt st (.cat a b) f x
  | alt {a b : Re} {n m f g x : Nat} : stp st n = ⟨1, m, f, g⟩ → Bt st a f x → Bt st b g x → Bt st (.alt a b) n x
  | opt {a : Re} {n m f x : Nat} : stp st n = ⟨1, m, f, x⟩ → Bt st a f x → Bt st (.opt a) n x
  | star {a : Re} {n m f x : Nat} : stp st n = ⟨1, m, f, x⟩ → Bt st a f n → Bt st (.star a) n x
  | plus {a : Re} {n m f x : Nat} : stp st n = ⟨1, m, f, x⟩ → Bt st a f n → Bt st (.plus a) f x
/-- an end of some length -/
def Ac (s : ByteArray) (st : List Stp) (n i j : Nat) : Prop := ∃ l, Acc s st l n i j
theorem Ac.nx {s : ByteArray} {st : List Stp} {n m f x i j : Nat} (h : stp st n = ⟨1, m, f, x⟩) (a : Ac s st f i j) : Ac s st n i j := by
  obtain ⟨l, a⟩ := a
  have g : Go1 s st n i (stp st n).nx i := .nx (by rw [h])
  rw [h] at g
  exact ⟨l + 1, .move g a⟩
theorem Ac.ot {s : ByteArray} {st : List Stp} {n m f x i j : Nat} (h : stp st n = ⟨1, m, f, x⟩) (a : Ac s st x i j) : Ac s st n i j := by
  obtain ⟨l, a⟩ := a
  have g : Go1 s st n i (stp st n).ot i := .ot (by rw [h])
  rw [h] at g
  exact ⟨l + 1, .move g a⟩
/-- what an expression matches, its steps do -/
theorem bt_does (s : ByteArray) (st : List Stp) {e : Re} {f x : Nat} (h : Bt st e f x) : ∀ {i k j : Nat}, M s e i k → Ac s st x k j → Ac s st f i j := by
  induction h with
  | @byte n m o x hn =>
    rintro i k j ⟨h1, h2, rfl⟩ ⟨l, a⟩
    have g : Go1 s st n i (stp st n).nx (i + 1) := .byte (by rw [hn]) h1 (by rw [hn]; exact h2)
    rw [hn] at g
    exact ⟨l + 1, .move g a⟩
  | @beg n m o x hn =>
    rintro i k j ⟨rfl, rfl⟩ ⟨l, a⟩
    have g : Go1 s st n 0 (stp st n).nx 0 := .beg (by rw [hn]) rfl
    rw [hn] at g
    exact ⟨l + 1, .move g a⟩
  | @fin n m o x hn =>
    rintro i k j ⟨h1, h2⟩ ⟨l, a⟩
    rw [h2] at a
    have g : Go1 s st n i (stp st n).nx i := .fin (by rw [hn]) h1
    rw [hn] at g
    exact ⟨l + 1, .move g a⟩
  | eps hn => rintro i k j rfl a; exact a.nx hn
  | cat _ _ ih1 ih2 => rintro i k j ⟨q, h1, h2⟩ a; exact ih1 h1 (ih2 h2 a)
  | alt hn _ _ ih1 ih2 =>
    rintro i k j (h | h) a
    · exact (ih1 h a).nx hn
    · exact (ih2 h a).ot hn
  | opt hn _ ih =>
    rintro i k j (rfl | h) a
    · exact a.ot hn
    · exact (ih h a).nx hn
  | star hn _ ih =>
    intro i k j h a
    have h' : Star (M s _) i k := h
    clear h
    induction h' with
    | nil => exact a.ot hn
    | cons h1 _ ih2 => exact (ih h1 (ih2 a)).nx hn
  | plus hn _ ih =>
    rintro i k j ⟨q, h1, h2⟩ a
    refine ih h1 ?_
    clear h1
    induction h2 with
    | nil => exact a.ot hn
    | cons h1 _ ih2 => exact (ih h1 (ih2 a)).nx hn
theorem Acc.one {s : ByteArray} {st : List Stp} {l n m f x i j : Nat} (h : stp st n = ⟨1, m, f, x⟩) (a : Acc s st l n i j) : ∃ l', l' < l ∧ (Acc s st l' f i j ∨ Acc s st l' x i j) := by
  cases a with
  | done hk => rw [h] at hk; cases hk
  | move g a =>
    refine ⟨_, Nat.lt_succ_self _, ?_⟩
    cases g with
    | byte hk => rw [h] at hk; cases hk
    | nx hk => rw [h] at a; exact .inl a
    | ot hk => rw [h] at a; exact .inr a
    | beg hk => rw [h] at hk; cases hk
    | fin hk => rw [h] at hk; cases hk
/-- what the steps do, the expression matches -/
theorem bt_only (s : ByteArray) (st : List Stp) {e : Re} {f x : Nat} (h : Bt st e f x) : ∀ {l i j : Nat}, Acc s st l f i j → ∃ k l', l' < l ∧ M s e i k ∧ Acc s st l' x k j := by
  induction h with
  | byte hn =>
    intro l i j a
    cases a with
    | done hk => rw [hn] at hk; cases hk
    | move g a =>
      cases g with
      | byte hk h1 h2 => rw [hn] at a h2; exact ⟨_, _, Nat.lt_succ_self _, ⟨h1, h2, rfl⟩, a⟩
      | nx hk => rw [hn] at hk; cases hk
      | ot hk => rw [hn] at hk; cases hk
      | beg hk => rw [hn] at hk; cases hk
      | fin hk => rw [hn] at hk; cases hk
  | beg hn =>
    intro l i j a
    cases a with
    | done hk => rw [hn] at hk; cases hk
    | move g a =>
      cases g with
      | byte hk h1 h2 => rw [hn] at hk; cases hk
      | nx hk => rw [hn] at hk; cases hk
      | ot hk => rw [hn] at hk; cases hk
      | beg hk h0 => rw [hn] at a; exact ⟨_, _, Nat.lt_succ_self _, ⟨h0, rfl⟩, a⟩
      | fin hk => rw [hn] at hk; cases hk
  | fin hn =>
    intro l i j a
    cases a with
    | done hk => rw [hn] at hk; cases hk
    | move g a =>
      cases g with
      | byte hk h1 h2 => rw [hn] at hk; cases hk
      | nx hk => rw [hn] at hk; cases hk
      | ot hk => rw [hn] at hk; cases hk
      | beg hk h0 => rw [hn] at hk; cases hk
      | fin hk h0 => rw [hn] at a; exact ⟨_, _, Nat.lt_succ_self _, ⟨h0, rfl⟩, a⟩
  | eps hn =>
    intro l i j a
    obtain ⟨l', h1, h2⟩ := a.one hn
    exact ⟨i, l', h1, rfl, h2.elim id id⟩
  | cat _ _ ih1 ih2 =>
    intro l i j a
    obtain ⟨k, l1, h1, h2, h3⟩ := ih1 a
    obtain ⟨k2, l2, h4, h5, h6⟩ := ih2 h3
    exact ⟨k2, l2, by omega, ⟨k, h2, h5⟩, h6⟩
  | alt hn _ _ ih1 ih2 =>
    intro l i j a
    obtain ⟨l', h1, h2 | h2⟩ := a.one hn
    · obtain ⟨k, l1, h3, h4, h5⟩ := ih1 h2
      exact ⟨k, l1, by omega, .inl h4, h5⟩
    · obtain ⟨k, l1, h3, h4, h5⟩ := ih2 h2
      exact ⟨k, l1, by omega, .inr h4, h5⟩
  | opt hn _ ih =>
    intro l i j a
    obtain ⟨l', h1, h2 | h2⟩ := a.one hn
    · obtain ⟨k, l1, h3, h4, h5⟩ := ih h2
      exact ⟨k, l1, by omega, .inr h4, h5⟩
    · exact ⟨i, l', h1, .inl rfl, h2⟩
  | @star a n m f x hn _ ih =>
    intro l
    induction l using Nat.strongRecOn with
    | _ l hl =>
      intro i j ac
      obtain ⟨l', h1, h2 | h2⟩ := ac.one hn
      · obtain ⟨k, l1, h3, h4, h5⟩ := ih h2
        obtain ⟨k2, l2, h6, h7, h8⟩ := hl l1 (by omega) h5
        exact ⟨k2, l2, by omega, Star.cons h4 h7, h8⟩
      · exact ⟨i, l', h1, Star.nil i, h2⟩
  | @plus a n m f x hn _ ih =>
    have hst : ∀ (l : Nat) {i j : Nat}, Acc s st l n i j → ∃ k l', l' < l ∧ Star (M s a) i k ∧ Acc s st l' x k j := by
      intro l
      induction l using Nat.strongRecOn with
      | _ l hl =>
        intro i j ac
        obtain ⟨l', h1, h2 | h2⟩ := ac.one hn
        · obtain ⟨k, l1, h3, h4, h5⟩ := ih h2
          obtain ⟨k2, l2, h6, h7, h8⟩ := hl l1 (by omega) h5
          exact ⟨k2, l2, by omega, Star.cons h4 h7, h8⟩
        · exact ⟨i, l', h1, Star.nil i, h2⟩
    intro l i j ac
    obtain ⟨k, l1, h3, h4, h5⟩ := ih ac
    obtain ⟨k2, l2, h6, h7, h8⟩ := hst l1 h5
    exact ⟨k2, l2, by omega, ⟨k, h4, h7⟩, h8⟩
/-- an expression whose steps go on at an end -/
theorem bt_iff (s : ByteArray) (st : List Stp) {e : Re} {f x : Nat} (h : Bt st e f x) (hx : (stp st x).k = 4) (i j : Nat) : Ac s st f i j ↔ M s e i j := by
  constructor
  · rintro ⟨l, a⟩
    obtain ⟨k, l', _, h1, h2⟩ := bt_only s st h a
    cases h2 with
    | done _ => exact h1
    | move g _ => cases g <;> (rename_i hk; first | (rw [hx] at hk; cases hk) | skip) <;> (simp_all)
  · intro hm
    exact bt_does s st h hm ⟨0, .done hx⟩
end Go.Proofs.Ytnjpdhekeffpnaa.Rx

/- Marks: what walkP marks is what is come to: plain. -/
set_option linter.unusedVariables false
set_option linter.unusedSimpArgs false
namespace Go.Proofs.Ytnjpdhekeffpnaa.Rx
open Go.RowKit Go.Proofs.YtnjpdhekeffpnaaW.PrintWords Go.Proofs.YtnjpdhekeffpnaaW.PrintLast Go.Proofs.YtnjpdhekeffpnaaW.PrintMore

def On (m : List Bool) (n : Nat) : Prop := m.getD n false = true
/-- one step that takes no byte -/
def Nb (st : List Stp) (b e : Bool) (n x : Nat) : Prop :=
  ((stp st n).k = 1 ∧ (x = (stp st n).nx ∨ x = (stp st n).ot)) ∨ ((stp st n).k = 2 ∧ b = true ∧ x = (stp st n).nx) ∨ ((stp st n).k = 3 ∧ e = true ∧ x = (stp st n).nx)
inductive Ep (st : List Stp) (b e : Bool) : Nat → Nat → Prop where
  | refl (n : Nat) : Ep st b e n n
  | step {n x y : Nat} : Nb st b e n x → Ep st b e x y → Ep st b e n y
theorem on_set (m : List Bool) (n x : Nat) (hn : n < m.length) : On (m.set n true) x ↔ x = n ∨ On m x := by
  unfold On
  rw [List.getD_eq_getElem?_getD, List.getD_eq_getElem?_getD, List.getElem?_set]
  by_cases h : n = x
  · subst h; simp [hn]
  · rw [if_neg h]
    constructor
    · intro h2; exact .inr h2
    · rintro (h2 | h2)
      · exact absurd h2.symm h
      · exact h2
theorem getD_true (m : List Bool) (n : Nat) (hn : n < m.length) : (m.getD n true = true) ↔ On m n := by
  unfold On
  simp [List.getD_eq_getElem?_getD, List.getElem?_eq_getElem hn]
theorem stp_wf {st : List Stp} (h : WfS st) {n : Nat} (hn : n < st.length) : (stp st n).nx < st.length ∧ (stp st n).ot < st.length := by
  have := h (st[n]) (List.getElem_mem _)
  simpa [stp, List.getD_eq_getElem?_getD, List.getElem?_eq_getElem hn] using this
structure Wk (st : List Stp) (b e : Bool) (m : List Bool) (n : Nat) (m' : List Bool) : Prop where
  up : ∀ x, On m x → On m' x
  at_ : On m' n
  cl : ∀ x, On m' x → ¬ On m x → ∀ y, Nb st b e x y → On m' y
  only : ∀ x, On m' x → On m x ∨ Ep st b e n x
theorem free_lt (m : List Bool) (n k : Nat) (hk : free m < k + 1) (hf : m.getD n true = false) : free (m.set n true) < k := by
  have := free_set m n hf
  omega
theorem walkP_spec (st : List Stp) (b e : Bool) (hw : WfS st) : ∀ (k : Nat) (m : List Bool) (n : Nat), free m < k → m.length = st.length → n < st.length → Wk st b e m n (walkP st b e k m n)
  | 0, m, n, h, _, _ => absurd h (Nat.not_lt_zero _)
  | k + 1, m, n, h, hl, hn => by
    have hnl : n < m.length := by omega
    have hwf := stp_wf hw hn
    rw [walkP]
    split
    · rename_i h1
      have h2 := (getD_true m n hnl).1 h1
      exact ⟨fun _ h => h, h2, fun x h3 h4 => absurd h3 h4, fun x h => .inl h⟩
    · rename_i h1
      have hno : ¬ On m n := fun h2 => h1 ((getD_true m n hnl).2 h2)
      have hfr := free_lt m n k h (by simpa using h1)
      have hls : (m.set n true).length = st.length := by rw [List.length_set]; exact hl
      have hself : On (m.set n true) n := (on_set m n n hnl).2 (.inl rfl)
      have hup : ∀ x, On m x → On (m.set n true) x := fun x hx => (on_set m n x hnl).2 (.inr hx)
      split
      · rename_i hk
        have w1 := walkP_spec st b e hw k (m.set n true) (stp st n).nx hfr hls hwf.1
        have hf2 : free (walkP st b e k (m.set n true) (stp st n).nx) < k := Nat.lt_of_le_of_lt (free_le _ _ _ _ _ _) hfr
        have w2 := walkP_spec st b e hw k _ (stp st n).ot hf2 (by rw [walkP_len]; exact hls) hwf.2
        refine ⟨fun x hx => w2.up x (w1.up x (hup x hx)), w2.up n (w1.up n hself), ?_, ?_⟩
        · intro x hx hxm y hy
          by_cases h3 : On (walkP st b e k (m.set n true) (stp st n).nx) x
          · by_cases h4 : On (m.set n true) x
            · rcases (on_set m n x hnl).1 h4 with rfl | h5
              · rcases hy with ⟨_, rfl | rfl⟩ | ⟨h6, _⟩ | ⟨h6, _⟩
                · exact w2.up _ w1.at_
                · exact w2.at_
                · rw [hk] at h6; cases h6
                · rw [hk] at h6; cases h6
              · exact absurd h5 hxm
            · exact w2.up y (w1.cl x h3 h4 y hy)
          · exact w2.cl x hx h3 y hy
        · intro x hx
          rcases w2.only x hx with h3 | h3
          · rcases w1.only x h3 with h4 | h4
            · rcases (on_set m n x hnl).1 h4 with rfl | h5
              · exact .inr (.refl _)
              · exact .inl h5
            · exact .inr (.step (.inl ⟨hk, .inl rfl⟩) h4)
          · exact .inr (.step (.inl ⟨hk, .inr rfl⟩) h3)
      · rename_i hk1
        have alone : (∀ y, ¬ Nb st b e n y) → Wk st b e m n (m.set n true) := fun hnn =>
          ⟨hup, hself, fun x hx hxm y hy => by
            rcases (on_set m n x hnl).1 hx with rfl | h5
            · exact absurd hy (hnn y)
            · exact absurd h5 hxm, fun x hx => by
            rcases (on_set m n x hnl).1 hx with rfl | h5
            · exact .inr (.refl _)
            · exact .inl h5⟩
        have single : Nb st b e n (stp st n).nx → (∀ y, Nb st b e n y → y = (stp st n).nx) → Wk st b e m n (walkP st b e k (m.set n true) (stp st n).nx) := fun hnb hon => by
          have w1 := walkP_spec st b e hw k (m.set n true) (stp st n).nx hfr hls hwf.1
          refine ⟨fun x hx => w1.up x (hup x hx), w1.up n hself, ?_, ?_⟩
          · intro x hx hxm y hy
            by_cases h4 : On (m.set n true) x
            · rcases (on_set m n x hnl).1 h4 with rfl | h5
              · rw [hon y hy]; exact w1.at_
              · exact absurd h5 hxm
            · exact w1.cl x hx h4 y hy
          · intro x hx
            rcases w1.only x hx with h4 | h4
            · rcases (on_set m n x hnl).1 h4 with rfl | h5
              · exact .inr (.refl _)
              · exact .inl h5
            · exact .inr (.step hnb h4)
        split
        · rename_i hk2
          split
          · rename_i hb
            exact single (.inr (.inl ⟨hk2, hb, rfl⟩)) (fun y hy => by
              rcases hy with ⟨h6, _⟩ | ⟨_, _, h7⟩ | ⟨h6, _⟩
              · rw [hk2] at h6; cases h6
              · exact h7
              · rw [hk2] at h6; cases h6)
          · rename_i hb
            exact alone (fun y hy => by
              rcases hy with ⟨h6, _⟩ | ⟨_, h7, _⟩ | ⟨h6, _⟩
              · rw [hk2] at h6; cases h6
              · exact hb h7
              · rw [hk2] at h6; cases h6)
        · rename_i hk2
          split
          · rename_i hk3
            split
            · rename_i hb
              exact single (.inr (.inr ⟨hk3, hb, rfl⟩)) (fun y hy => by
                rcases hy with ⟨h6, _⟩ | ⟨h6, _⟩ | ⟨_, _, h7⟩
                · rw [hk3] at h6; cases h6
                · rw [hk3] at h6; cases h6
                · exact h7)
            · rename_i hb
              exact alone (fun y hy => by
                rcases hy with ⟨h6, _⟩ | ⟨h6, _⟩ | ⟨_, h7, _⟩
                · rw [hk3] at h6; cases h6
                · rw [hk3] at h6; cases h6
                · exact hb h7)
          · rename_i hk3
            exact alone (fun y hy => by
              rcases hy with ⟨h6, _⟩ | ⟨h6, _⟩ | ⟨h6, _⟩
              · exact hk1 h6
              · exact hk2 h6
              · exact hk3 h6)
/-- marks that are closed: what is come to with no byte is marked too -/
def Cl (st : List Stp) (b e : Bool) (m : List Bool) : Prop := ∀ x, On m x → ∀ y, Nb st b e x y → On m y
theorem Wk.closed {st : List Stp} {b e : Bool} {m m' : List Bool} {n : Nat} (h : Wk st b e m n m') (hc : Cl st b e m) : Cl st b e m' := by
  intro x hx y hy
  by_cases h1 : On m x
  · exact h.up y (hc x h1 y hy)
  · exact h.cl x hx h1 y hy
theorem Cl.ep {st : List Stp} {b e : Bool} {m : List Bool} (hc : Cl st b e m) {n x : Nat} (h : Ep st b e n x) (hn : On m n) : On m x := by
  induction h with
  | refl => exact hn
  | step h1 _ ih => exact ih (hc _ hn _ h1)
theorem Wk.iff {st : List Stp} {b e : Bool} {m m' : List Bool} {n : Nat} (h : Wk st b e m n m') (hc : Cl st b e m) (x : Nat) : On m' x ↔ On m x ∨ Ep st b e n x :=
  ⟨h.only x, fun h1 => h1.elim (h.up x) (fun h2 => (h.closed hc).ep h2 h.at_)⟩
theorem on_rep (n x : Nat) : ¬ On (List.replicate n false) x := by
  unfold On
  simp [List.getD_eq_getElem?_getD, List.getElem?_replicate]
  split <;> simp
theorem cl_rep (st : List Stp) (b e : Bool) (n : Nat) : Cl st b e (List.replicate n false) := fun x hx => absurd hx (on_rep n x)
end Go.Proofs.Ytnjpdhekeffpnaa.Rx
set_option linter.unusedVariables false
set_option linter.unusedSimpArgs false
namespace Go.Proofs.Ytnjpdhekeffpnaa.Rx
open Go.RowKit Go.Proofs.YtnjpdhekeffpnaaW.PrintWords Go.Proofs.YtnjpdhekeffpnaaW.PrintLast Go.Proofs.YtnjpdhekeffpnaaW.PrintMore

theorem wf_add {st : List Stp} (h : WfS st) (x : Stp) (h1 : x.nx ≤ st.length) (h2 : x.ot ≤ st.length) : WfS (st ++ [x]) := by
  intro y hy
  rw [List.length_append, List.length_singleton]
  rcases List.mem_append.1 hy with hy | hy
  · have := h y hy; omega
  · rw [List.mem_singleton.1 hy]; omega
theorem wf_set1 {st : List Stp} (h : WfS st) (o next : Nat) (hn : next < st.length) : WfS (set1 st o next) := by
  intro y hy
  rw [set1_len]
  unfold set1 at hy
  obtain ⟨i, hi, rfl⟩ := List.mem_iff_getElem.1 hy
  rw [List.getElem_modify]
  have hi' : i < st.length := by rw [List.length_modify] at hi; exact hi
  have := h st[i] (List.getElem_mem hi')
  split
  · split
    · exact ⟨this.1, hn⟩
    · exact ⟨hn, this.2⟩
  · exact this
theorem wf_patch {st : List Stp} (h : WfS st) (outs : List Nat) (next : Nat) (hn : next < st.length) : WfS (patchL outs next st) := by
  unfold patchL
  induction outs generalizing st with
  | nil => exact h
  | cons o outs ih =>
    rw [List.foldl_cons]
    exact ih (wf_set1 h o next hn) (by rw [set1_len]; exact hn)
theorem wf_single (k m : Nat) (S : BS) (h : WfS S.st) : WfS (single ⟨k, m, 0, 0⟩ S).2.st := wf_add h _ (Nat.zero_le _) (Nat.zero_le _)
theorem wf_thing {grp : Nat → BS → Part × BS} (s : ByteArray) (hg : ∀ S0 : BS, 0 < S0.st.length → WfS S0.st → WfS (grp S0.at_ (skip S0 1)).2.st) (S : BS) (h0 : 0 < S.st.length) (h : WfS S.st) : WfS (thingB grp s S).2.st := by
  unfold thingB byteOf
  dsimp only
  split
  · exact wf_single _ _ _ (by rw [wrongB_st]; exact h)
  · split
    · exact wf_single _ _ _ h
    · split
      · exact wf_single _ _ _ h
      · split
        · exact wf_single _ _ _ h
        · split
          · exact wf_single _ _ _ (by rw [(bracketB_at s (skip S 1)).2]; exact h)
          · split
            · exact hg S h0 h
            · split
              · refine wf_single _ _ _ ?_
                rw [skip_st]
                split
                · rw [wrongB_st]; exact h
                · exact h
              · exact wf_single _ _ _ h
theorem wf_rep (s : ByteArray) (p : Part) (S : BS) (h : WfS S.st) (hp : p.1 < S.st.length) : WfS (repB s p S).2.st := by
  have ha : WfS (addB ⟨1, 0, p.1, 0⟩ (skip S 1)).st := wf_add h _ (Nat.le_of_lt hp) (Nat.zero_le _)
  have hl : S.st.length < (addB ⟨1, 0, p.1, 0⟩ (skip S 1)).st.length := by rw [addB_len, skip_st]; omega
  unfold repB
  split
  · exact h
  · split
    · exact ha
    · split
      · exact wf_patch ha _ _ hl
      · split
        · exact wf_patch ha _ _ hl
        · exact h
theorem wf_wayL {th : BS → Part × BS} (s : ByteArray) (hth : ∀ S, 0 < S.st.length → Gr 0 S (th S)) (hw : ∀ S, 0 < S.st.length → WfS S.st → WfS (th S).2.st) : ∀ (n : Nat) (p : Part) (S : BS), 0 < S.st.length → WfS S.st → WfS (wayL th s n p S).2.st
  | 0, p, S, h0, h => h
  | n + 1, p, S, h0, h => by
    rw [wayL]
    split
    · exact h
    · split
      · exact h
      · have g := hth S h0
        have g2 := rep_gr s g
        refine wf_wayL s hth hw n _ _ (by rw [patchB_len]; exact Nat.lt_of_lt_of_le h0 g2.le) (wf_patch (wf_rep s _ _ (hw S h0 h) g.first) _ _ g2.first)
theorem wf_wayB {th : BS → Part × BS} (s : ByteArray) (hth : ∀ S, 0 < S.st.length → Gr 0 S (th S)) (hw : ∀ S, 0 < S.st.length → WfS S.st → WfS (th S).2.st) (S : BS) (h : WfS S.st) : WfS (wayB th s S).2.st :=
  wf_wayL s hth hw _ _ _ (by rw [addB_len]; omega) (wf_add h _ (Nat.zero_le _) (Nat.zero_le _))
theorem wf_waysL {th : BS → Part × BS} (s : ByteArray) (hth : ∀ S, 0 < S.st.length → Gr 0 S (th S)) (hw : ∀ S, 0 < S.st.length → WfS S.st → WfS (th S).2.st) : ∀ (n : Nat) (p : Part) (S : BS), p.1 < S.st.length → WfS S.st → WfS (waysL th s n p S).2.st
  | 0, p, S, h0, h => h
  | n + 1, p, S, h0, h => by
    rw [waysL]
    split
    · have g := wayB_gr s hth (skip S 1)
      have g1 := g.le
      rw [skip_st] at g1
      refine wf_waysL s hth hw n _ _ (by rw [addB_len]; exact Nat.lt_succ_self _) (wf_add (wf_wayB s hth hw (skip S 1) h) _ ?_ (Nat.le_of_lt g.first))
      show p.1 ≤ _; omega
    · exact h
theorem wf_waysF {th : BS → Part × BS} (s : ByteArray) (hth : ∀ S, 0 < S.st.length → Gr 0 S (th S)) (hw : ∀ S, 0 < S.st.length → WfS S.st → WfS (th S).2.st) (S : BS) (h : WfS S.st) : WfS (waysF th s S).2.st :=
  wf_waysL s hth hw _ _ _ (wayB_gr s hth S).first (wf_wayB s hth hw S h)
theorem wf_thB (s : ByteArray) : ∀ (d : Nat) (S : BS), 0 < S.st.length → WfS S.st → WfS (thB s d S).2.st
  | 0, S, h0, h => wf_thing (grp := fun at_ S => ((0, []), wrongB 4 at_ S)) s (fun S0 _ h => by show WfS (wrongB 4 S0.at_ (skip S0 1)).st; rw [wrongB_st]; exact h) S h0 h
  | d + 1, S, h0, h => wf_thing (grp := grpF (waysB s d) s) s (fun S0 _ h => by
      unfold grpF
      show WfS (skip _ 1).st
      rw [skip_st]
      have := wf_waysF s (thB_gr s d) (wf_thB s d) (skip S0 1) h
      rw [← waysB_eq] at this
      split
      · exact this
      · rw [wrongB_st]; exact this) S h0 h
theorem wf_read (s : ByteArray) : WfS (readB s).2.st := by
  have := wf_waysF s (thB_gr s 16) (wf_thB s 16) ⟨0, none, []⟩ (fun x hx => by cases hx)
  rw [← waysB_eq] at this
  exact this
theorem wf_steps (s : ByteArray) : WfS (stepsB s) ∧ firstB s < (stepsB s).length ∧ (stepsB s).length ≤ 2 * (s.size + 18) + 2 := by
  have hg := waysB_gr s 16 ⟨0, none, []⟩
  have hu := waysB_up s 16 ⟨0, none, []⟩ (by show 0 ≤ _; omega)
  have h := wf_read s
  have e : readB s = waysB s 16 ⟨0, none, []⟩ := rfl
  rw [← e] at hg hu
  have h1 := hg.up
  have h2 := hg.first
  have e0 : (⟨0, none, []⟩ : BS).st.length = 0 := rfl
  have e1 : (⟨0, none, []⟩ : BS).at_ = 0 := rfl
  rw [e0, e1] at h1
  have hl : (stepsB s).length = (readB s).2.st.length + 1 := by unfold stepsB; rw [patchB_len, addB_len]
  refine ⟨?_, ?_, ?_⟩
  · unfold stepsB
    exact wf_patch (wf_add h _ (Nat.zero_le _) (Nat.zero_le _)) _ _ (by show _ < (addB ⟨4, 0, 0, 0⟩ (readB s).2).st.length; rw [addB_len]; omega)
  · rw [hl]; unfold firstB; omega
  · rw [hl]; omega
end Go.Proofs.Ytnjpdhekeffpnaa.Rx
