/- The reader read as trees; steps as they are patched: plain. -/
import Derived.Test.YtnjpdhekeffpnaaRxEc
set_option linter.unusedVariables false
set_option linter.unusedSimpArgs false
namespace Go.Proofs.Ytnjpdhekeffpnaa.Rx
open Go.RowKit Go.Proofs.YtnjpdhekeffpnaaW.PrintWords Go.Proofs.YtnjpdhekeffpnaaW.PrintLast Go.Proofs.YtnjpdhekeffpnaaW.PrintMore

/-- a reader's state without its steps -/
def zB (S : BS) : BS := ⟨S.at_, S.F, []⟩
theorem peek_z (s : ByteArray) (S : BS) : peekB s (zB S) = peekB s S := rfl
theorem wrong_z (e a : Nat) (S : BS) : wrongB e a (zB S) = zB (wrongB e a S) := by obtain ⟨at_, F, st⟩ := S; cases F <;> rfl
theorem skip_z (S : BS) (n : Nat) : skip (zB S) n = zB (skip S n) := rfl
theorem brL_z (s : ByteArray) (b0 : Nat) : ∀ (n m : Nat) (S : BS), brL s b0 n m (zB S) = ((brL s b0 n m S).1, (brL s b0 n m S).2.1, zB (brL s b0 n m S).2.2)
  | 0, m, S => by rw [brL, brL, wrong_z]
  | n + 1, m, S => by
    rw [brL, brL, peek_z, wrong_z]
    cases peekB s S with
    | none => rfl
    | some c =>
      dsimp only
      rw [show (zB S).at_ = S.at_ from rfl, skip_z, skip_z, wrong_z, brL_z, brL_z]
      split
      · rfl
      · split
        · rfl
        · split <;> rfl
theorem bracket_z (s : ByteArray) (S : BS) : bracketB s (zB S) = ((bracketB s S).1, zB (bracketB s S).2) := by
  unfold bracketB
  rw [peek_z, skip_z, brL_z, brL_z, show (zB S).at_ = S.at_ from rfl]
  split <;> rfl
theorem zz (S : BS) : zB (zB S) = zB S := rfl
/-- a thing's tree -/
def thingE (grp : Nat → BS → Re × BS) (s : ByteArray) (S : BS) : Re × BS :=
  let c := (peekB s S).getD 0
  let S1 := skip S 1
  if c = 42 ∨ c = 43 ∨ c = 63 then (.byte (addR 0 c.toNat 1), wrongB 2 S.at_ S1)
  else if c = 46 then (.byte (addR 0 0 256), S1)
  else if c = 94 then (.beg, S1)
  else if c = 36 then (.fin, S1)
  else if c = 91 then (.byte (bracketB s S1).1, (bracketB s S1).2)
  else if c = 40 then grp S.at_ S1
  else if c = 92 then (.byte (addR 0 ((peekB s S1).getD 0).toNat 1), skip (if (peekB s S1).isNone then wrongB 3 s.size S1 else S1) 1)
  else (.byte (addR 0 c.toNat 1), S1)
def repE (s : ByteArray) (e : Re) (S : BS) : Re × BS :=
  match peekB s S with
  | none => (e, S)
  | some c => if c = 63 then (.opt e, skip S 1) else if c = 43 then (.plus e, skip S 1) else if c = 42 then (.star e, skip S 1) else (e, S)
def wayLE (th : BS → Re × BS) (s : ByteArray) : Nat → Re → BS → Re × BS
  | 0, e, S => (e, S)
  | n + 1, e, S => match peekB s S with
    | none => (e, S)
    | some c =>
      if c = 124 ∨ c = 41 then (e, S)
      else wayLE th s n (.cat e (repE s (th S).1 (th S).2).1) (repE s (th S).1 (th S).2).2
def wayE (th : BS → Re × BS) (s : ByteArray) (S : BS) : Re × BS := wayLE th s (s.size + 1) .eps S
def waysLE (th : BS → Re × BS) (s : ByteArray) : Nat → Re → BS → Re × BS
  | 0, e, S => (e, S)
  | n + 1, e, S =>
    if peekB s S = some 124 then waysLE th s n (.alt e (wayE th s (skip S 1)).1) (wayE th s (skip S 1)).2
    else (e, S)
def waysFE (th : BS → Re × BS) (s : ByteArray) (S : BS) : Re × BS := waysLE th s (s.size + 1) (wayE th s S).1 (wayE th s S).2
def grpFE (wys : BS → Re × BS) (s : ByteArray) (_at : Nat) (S : BS) : Re × BS :=
  ((wys S).1, skip (if peekB s (wys S).2 = some 41 then (wys S).2 else wrongB 3 s.size (wys S).2) 1)
def thE (s : ByteArray) : Nat → BS → Re × BS
  | 0 => thingE (fun at_ S => (.eps, wrongB 4 at_ S)) s
  | d + 1 => thingE (grpFE (waysFE (thE s d) s) s) s
def waysE (s : ByteArray) (d : Nat) : BS → Re × BS := waysFE (thE s d) s
/-- an expression's tree -/
def readE (s : ByteArray) : Re × BS := waysE s 16 ⟨0, none, []⟩
/-- a step whose outs lead to x -/
def pt (outs : List Nat) (x n : Nat) (y : Stp) : Stp := ⟨y.k, y.m, if 2 * n ∈ outs then x else y.nx, if 2 * n + 1 ∈ outs then x else y.ot⟩
theorem stp_set1 (st : List Stp) (o x n : Nat) (hn : n < st.length) : stp (set1 st o x) n = pt [o] x n (stp st n) := by
  unfold stp set1 pt
  rw [List.getD_eq_getElem?_getD, List.getD_eq_getElem?_getD, List.getElem?_modify, List.getElem?_eq_getElem hn]
  by_cases h : o / 2 = n
  · by_cases h2 : o % 2 = 1
    · rw [if_neg (show ¬ 2 * n ∈ [o] by simp; omega), if_pos (show 2 * n + 1 ∈ [o] by simp; omega)]
      simp [h, h2]
    · rw [if_pos (show 2 * n ∈ [o] by simp; omega), if_neg (show ¬ 2 * n + 1 ∈ [o] by simp; omega)]
      simp [h, h2]
  · rw [if_neg (show ¬ 2 * n ∈ [o] by simp; omega), if_neg (show ¬ 2 * n + 1 ∈ [o] by simp; omega)]
    simp [h]
theorem stp_patch : ∀ (outs : List Nat) (x : Nat) (st : List Stp) (n : Nat), n < st.length → stp (patchL outs x st) n = pt outs x n (stp st n)
  | [], x, st, n, hn => by simp [patchL, pt]
  | o :: outs, x, st, n, hn => by
    rw [show patchL (o :: outs) x st = patchL outs x (set1 st o x) from rfl, stp_patch outs x (set1 st o x) n (by rw [set1_len]; exact hn), stp_set1 st o x n hn]
    unfold pt
    simp only [List.mem_cons, List.not_mem_nil, or_false]
    congr 1
    · by_cases h1 : 2 * n ∈ outs <;> by_cases h2 : 2 * n = o <;> simp [h1, h2]
    · by_cases h1 : 2 * n + 1 ∈ outs <;> by_cases h2 : 2 * n + 1 = o <;> simp [h1, h2]
theorem pt_none (outs : List Nat) (x n : Nat) (y : Stp) (h : ∀ o ∈ outs, o / 2 ≠ n) : pt outs x n y = y := by
  unfold pt
  rw [if_neg (fun h1 => h _ h1 (by omega)), if_neg (fun h1 => h _ h1 (by omega))]
theorem stp_add_lt (st : List Stp) (x : Stp) (n : Nat) (hn : n < st.length) : stp (st ++ [x]) n = stp st n := by
  simp [stp, List.getD_eq_getElem?_getD, List.getElem?_append_left hn]
theorem stp_add_eq (st : List Stp) (x : Stp) : stp (st ++ [x]) st.length = x := by
  simp [stp, List.getD_eq_getElem?_getD]
/-- steps read are a tree's, however what stands behind them and ahead of them is -/
structure Sp (S : BS) (r : Part × BS) (e : Re) : Prop where
  le : S.st.length ≤ r.2.st.length
  pre : ∀ n, n < S.st.length → stp r.2.st n = stp S.st n
  outs : ∀ o ∈ r.1.2, S.st.length ≤ o / 2 ∧ o / 2 < r.2.st.length
  bt : ∀ (st' : List Stp) (x : Nat), (∀ n, S.st.length ≤ n → n < r.2.st.length → stp st' n = pt r.1.2 x n (stp r.2.st n)) → Bt st' e r.1.1 x
theorem sp_single (S : BS) (x : Stp) (e : Re) (h : ∀ st' n y, stp st' n = ⟨x.k, x.m, y, x.ot⟩ → Bt st' e n y) : Sp S (single x S) e := by
  refine ⟨by simp [single, addB], fun n hn => stp_add_lt _ _ _ hn, fun o ho => ?_, fun st' y hst => ?_⟩
  · have : o = 2 * S.st.length := by simpa [single] using ho
    subst this
    simp [single, addB]
  · have h1 := hst S.st.length (Nat.le_refl _) (by simp [single, addB])
    refine h st' _ y (h1.trans ?_)
    show pt [2 * S.st.length] y S.st.length (stp (S.st ++ [x]) S.st.length) = _
    rw [stp_add_eq]
    unfold pt
    rw [if_pos (by simp), if_neg (by simp)]
end Go.Proofs.Ytnjpdhekeffpnaa.Rx
