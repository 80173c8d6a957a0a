/- longP is the greatest end, or -1: plain. -/
import Derived.Test.YtnjpdhekeffpnaaRxEb
set_option linter.unusedVariables false
set_option linter.unusedSimpArgs false
namespace Go.Proofs.Ytnjpdhekeffpnaa.Rx
open Go.RowKit Go.Proofs.YtnjpdhekeffpnaaW.PrintWords Go.Proofs.YtnjpdhekeffpnaaW.PrintLast Go.Proofs.YtnjpdhekeffpnaaW.PrintMore

theorem Wy.le {s : ByteArray} {st : List Stp} {f i x j : Nat} (h : Wy s st f i x j) : i ≤ j := by
  induction h with
  | refl => exact Nat.le_refl _
  | snoc _ g ih => rcases go1_cases g with ⟨rfl, _⟩ | ⟨rfl, _⟩ <;> omega
theorem longL_spec (s : ByteArray) (st : List Stp) (f i : Nat) (hw : WfS st) : ∀ (k a : Nat) (m : List Bool) (la : Int), s.size < a + k → a ≤ s.size → i ≤ a → m.length = st.length → (∀ x, On m x ↔ Wy s st f i x a) →
    (longL s st k a m la = la ∧ ∀ j, a ≤ j → ¬ Ac s st f i j) ∨ (∃ j, a ≤ j ∧ longL s st k a m la = (j : Int) ∧ Ac s st f i j ∧ ∀ j', Ac s st f i j' → j' ≤ j)
  | 0, a, m, la, h, h1, _, _, _ => absurd h (by omega)
  | k + 1, a, m, la, h, h1, hi, hm, hon => by
    have hs := stepL_spec s st a m hw hm (m.length + 1) 0 (List.replicate st.length false) false la (by omega) List.length_replicate (cl_rep _ _ _ _)
    rw [longL]
    obtain ⟨r0, hr0⟩ : ∃ r0, stepL s st a m (m.length + 1) 0 (List.replicate st.length false) false la = r0 := ⟨_, rfl⟩
    simp only [hr0] at hs ⊢
    have hA : Ac s st f i a ↔ ∃ q, 0 ≤ q ∧ On m q ∧ (stp st q).k = 4 := by
      rw [ac_iff]
      exact ⟨fun ⟨x, h2, h3⟩ => ⟨x, Nat.zero_le _, (hon x).2 h2, h3⟩, fun ⟨x, _, h2, h3⟩ => ⟨x, (hon x).1 h2, h3⟩⟩
    have fin : (∀ j, a + 1 ≤ j → ¬ Ac s st f i j) → (r0.2.2 = la ∧ ∀ j, a ≤ j → ¬ Ac s st f i j) ∨ (∃ j, a ≤ j ∧ r0.2.2 = (j : Int) ∧ Ac s st f i j ∧ ∀ j', Ac s st f i j' → j' ≤ j) := by
      intro hn
      rcases hs.la with ⟨h2, h3⟩ | ⟨h2, h3⟩
      · refine .inl ⟨h2, fun j hj ha => ?_⟩
        rcases Nat.eq_or_lt_of_le hj with rfl | h4
        · exact h3 (hA.1 ha)
        · exact hn j h4 ha
      · refine .inr ⟨a, Nat.le_refl _, h2, hA.2 h3, fun j' hj => ?_⟩
        rcases Nat.lt_or_ge a j' with h4 | h4
        · exact absurd hj (hn j' h4)
        · exact h4
    split
    · rename_i hb
      obtain ⟨q, _, hq, hbm⟩ : ∃ q, 0 ≤ q ∧ On m q ∧ BM s st a q := by
        rcases hs.sm.1 hb with h2 | h2
        · cases h2
        · exact h2
      have hlt : a < s.size := hbm.2.1
      have hon2 : ∀ x, On r0.1 x ↔ Wy s st f i x (a + 1) := by
        intro x
        rw [hs.on x]
        constructor
        · rintro (h2 | ⟨q, _, h2, h3, h4⟩)
          · exact absurd h2 (on_rep _ _)
          · have hw2 : Wy s st f i (stp st q).nx (a + 1) := ((hon q).1 h2).snoc (.byte h3.1 h3.2.1 h3.2.2)
            refine Wy.ep ?_ hw2
            rw [decide_eq_false (show ¬ a + 1 = 0 by omega)]
            exact h4
        · intro h2
          rcases h2.cases' with ⟨h3, _⟩ | ⟨a2, q, h3, _, h4, h5, h6⟩
          · omega
          · obtain rfl : a = a2 := by omega
            exact .inr ⟨q, Nat.zero_le _, (hon q).2 h4, h5, h6⟩
      rcases longL_spec s st f i hw k (a + 1) r0.1 r0.2.2 (by omega) hlt (by omega) hs.len hon2 with ⟨h2, h3⟩ | ⟨j, h2, h3, h4, h5⟩
      · rw [h2]
        exact fin h3
      · exact .inr ⟨j, by omega, h3, h4, h5⟩
    · rename_i hb
      refine fin (fun j hj ha => ?_)
      obtain ⟨x, hx, _⟩ := (ac_iff s st f i j).1 ha
      obtain ⟨q, h2, h3⟩ := hx.pass hi hj
      exact hb (hs.sm.2 (.inr ⟨q, Nat.zero_le _, (hon q).2 h2, h3⟩))
/-- the longest match is the longest -/
theorem longP_spec (s : ByteArray) (st : List Stp) (f i : Nat) (hw : WfS st) (hf : f < st.length) (hi : i ≤ s.size) :
    (longP s st f i = -1 ∧ ∀ j, ¬ Ac s st f i j) ∨ (∃ j, i ≤ j ∧ longP s st f i = (j : Int) ∧ Ac s st f i j ∧ ∀ j', Ac s st f i j' → j' ≤ j) := by
  have wk := walkP_spec st (decide (i = 0)) (decide (i = s.size)) hw (st.length + 1) (List.replicate st.length false) f (by rw [free_rep]; omega) List.length_replicate hf
  have hon : ∀ x, On (walkP st (decide (i = 0)) (decide (i = s.size)) (st.length + 1) (List.replicate st.length false) f) x ↔ Wy s st f i x i := by
    intro x
    rw [wk.iff (cl_rep _ _ _ _) x]
    constructor
    · rintro (h | h)
      · exact absurd h (on_rep _ _)
      · exact Wy.ep h .refl
    · intro h
      rcases h.cases' with ⟨_, h2⟩ | ⟨a, q, h3, h4, _⟩
      · exact .inr h2
      · omega
  rcases longL_spec s st f i hw (s.size + 2) i _ (-1) (by omega) hi (Nat.le_refl _) (by rw [walkP_len, List.length_replicate]) hon with ⟨h1, h2⟩ | h
  · refine .inl ⟨h1, fun j hj => h2 j ?_ hj⟩
    obtain ⟨x, hx, _⟩ := (ac_iff s st f i j).1 hj
    exact hx.le
  · exact .inr h
/-- where steps are an expression's: the longest match is the expression's -/
theorem longP_M (s : ByteArray) (st : List Stp) (e : Re) (f x i : Nat) (hw : WfS st) (hf : f < st.length) (hi : i ≤ s.size) (hb : Bt st e f x) (hx : (stp st x).k = 4) :
    (longP s st f i = -1 ∧ ∀ j, ¬ M s e i j) ∨ (∃ j, i ≤ j ∧ longP s st f i = (j : Int) ∧ M s e i j ∧ ∀ j', M s e i j' → j' ≤ j) := by
  have h := longP_spec s st f i hw hf hi
  simp only [bt_iff s st hb hx] at h
  exact h
end Go.Proofs.Ytnjpdhekeffpnaa.Rx

/- The reader read as trees; steps as they are patched: plain. -/
set_option linter.unusedVariables false
set_option linter.unusedSimpArgs false
namespace Go.Proofs.Ytnjpdhekeffpnaa.Rx
open Go.RowKit Go.Proofs.YtnjpdhekeffpnaaW.PrintWords Go.Proofs.YtnjpdhekeffpnaaW.PrintLast Go.Proofs.YtnjpdhekeffpnaaW.PrintMore

/-- a reader's state without its steps -/
def zB (S : BS) : BS := ⟨S.at_, S.F, []⟩
theorem peek_z (s : ByteArray) (S : BS) : peekB s (zB S) = peekB s S := rfl
theorem wrong_z (e a : Nat) (S : BS) : wrongB e a (zB S) = zB (wrongB e a S) := by obtain ⟨at_, F, st⟩ := S; cases F <;> rfl
theorem skip_z (S : BS) (n : Nat) : skip (zB S) n = zB (skip S n) := rfl
theorem brL_z (s : ByteArray) (b0 : Nat) : ∀ (n m : Nat) (S : BS), brL s b0 n m (zB S) = ((brL s b0 n m S).1, (brL s b0 n m S).2.1, zB (brL s b0 n m S).2.2)
  | 0, m, S => by rw [brL, brL, wrong_z]
  | n + 1, m, S => by
    rw [brL, brL, peek_z, wrong_z]
    cases peekB s S with
    | none => rfl
    | some c =>
      dsimp only
      rw [show (zB S).at_ = S.at_ from rfl, skip_z, skip_z, wrong_z, brL_z, brL_z]
      split
      · rfl
      · split
        · rfl
        · split <;> rfl
theorem bracket_z (s : ByteArray) (S : BS) : bracketB s (zB S) = ((bracketB s S).1, zB (bracketB s S).2) := by
  unfold bracketB
  rw [peek_z, skip_z, brL_z, brL_z, show (zB S).at_ = S.at_ from rfl]
  split <;> rfl
theorem zz (S : BS) : zB (zB S) = zB S := rfl
/-- a thing's tree -/
def thingE (grp : Nat → BS → Re × BS) (s : ByteArray) (S : BS) : Re × BS :=
  let c := (peekB s S).getD 0
  let S1 := skip S 1
  if c = 42 ∨ c = 43 ∨ c = 63 then (.byte (addR 0 c.toNat 1), wrongB 2 S.at_ S1)
  else if c = 46 then (.byte (addR 0 0 256), S1)
  else if c = 94 then (.beg, S1)
  else if c = 36 then (.fin, S1)
  else if c = 91 then (.byte (bracketB s S1).1, (bracketB s S1).2)
  else if c = 40 then grp S.at_ S1
  else if c = 92 then (.byte (addR 0 ((peekB s S1).getD 0).toNat 1), skip (if (peekB s S1).isNone then wrongB 3 s.size S1 else S1) 1)
  else (.byte (addR 0 c.toNat 1), S1)
def repE (s : ByteArray) (e : Re) (S : BS) : Re × BS :=
  match peekB s S with
  | none => (e, S)
  | some c => if c = 63 then (.opt e, skip S 1) else if c = 43 then (.plus e, skip S 1) else if c = 42 then (.star e, skip S 1) else (e, S)
def wayLE (th : BS → Re × BS) (s : ByteArray) : Nat → Re → BS → Re × BS
  | 0, e, S => (e, S)
  | n + 1, e, S => match peekB s S with
    | none => (e, S)
    | some c =>
      if c = 124 ∨ c = 41 then (e, S)
      else wayLE th s n (.cat e (repE s (th S).1 (th S).2).1) (repE s (th S).1 (th S).2).2
def wayE (th : BS → Re × BS) (s : ByteArray) (S : BS) : Re × BS := wayLE th s (s.size + 1) .eps S
def waysLE (th : BS → Re × BS) (s : ByteArray) : Nat → Re → BS → Re × BS
  | 0, e, S => (e, S)
  | n + 1, e, S =>
    if peekB s S = some 124 then waysLE th s n (.alt e (wayE th s (skip S 1)).1) (wayE th s (skip S 1)).2
    else (e, S)
def waysFE (th : BS → Re × BS) (s : ByteArray) (S : BS) : Re × BS := waysLE th s (s.size + 1) (wayE th s S).1 (wayE th s S).2
def grpFE (wys : BS → Re × BS) (s : ByteArray) (_at : Nat) (S : BS) : Re × BS :=
  ((wys S).1, skip (if peekB s (wys S).2 = some 41 then (wys S).2 else wrongB 3 s.size (wys S).2) 1)
def thE (s : ByteArray) : Nat → BS → Re × BS
  | 0 => thingE (fun at_ S => (.eps, wrongB 4 at_ S)) s
  | d + 1 => thingE (grpFE (waysFE (thE s d) s) s) s
def waysE (s : ByteArray) (d : Nat) : BS → Re × BS := waysFE (thE s d) s
/-- an expression's tree -/
def readE (s : ByteArray) : Re × BS := waysE s 16 ⟨0, none, []⟩
/-- a step whose outs lead to x -/
def pt (outs : List Nat) (x n : Nat) (y : Stp) : Stp := ⟨y.k, y.m, if 2 * n ∈ outs then x else y.nx, if 2 * n + 1 ∈ outs then x else y.ot⟩
theorem stp_set1 (st : List Stp) (o x n : Nat) (hn : n < st.length) : stp (set1 st o x) n = pt [o] x n (stp st n) := by
  unfold stp set1 pt
  rw [List.getD_eq_getElem?_getD, List.getD_eq_getElem?_getD, List.getElem?_modify, List.getElem?_eq_getElem hn]
  by_cases h : o / 2 = n
  · by_cases h2 : o % 2 = 1
    · rw [if_neg (show ¬ 2 * n ∈ [o] by simp; omega), if_pos (show 2 * n + 1 ∈ [o] by simp; omega)]
      simp [h, h2]
    · rw [if_pos (show 2 * n ∈ [o] by simp; omega), if_neg (show ¬ 2 * n + 1 ∈ [o] by simp; omega)]
      simp [h, h2]
  · rw [if_neg (show ¬ 2 * n ∈ [o] by simp; omega), if_neg (show ¬ 2 * n + 1 ∈ [o] by simp; omega)]
    simp [h]
theorem stp_patch : ∀ (outs : List Nat) (x : Nat) (st : List Stp) (n : Nat), n < st.length → stp (patchL outs x st) n = pt outs x n (stp st n)
  | [], x, st, n, hn => by simp [patchL, pt]
  | o :: outs, x, st, n, hn => by
    rw [show patchL (o :: outs) x st = patchL outs x (set1 st o x) from rfl, stp_patch outs x (set1 st o x) n (by rw [set1_len]; exact hn), stp_set1 st o x n hn]
    unfold pt
    simp only [List.mem_cons, List.not_mem_nil, or_false]
    congr 1
    · by_cases h1 : 2 * n ∈ outs <;> by_cases h2 : 2 * n = o <;> simp [h1, h2]
    · by_cases h1 : 2 * n + 1 ∈ outs <;> by_cases h2 : 2 * n + 1 = o <;> simp [h1, h2]
theorem pt_none (outs : List Nat) (x n : Nat) (y : Stp) (h : ∀ o ∈ outs, o / 2 ≠ n) : pt outs x n y = y := by
  unfold pt
  rw [if_neg (fun h1 => h _ h1 (by omega)), if_neg (fun h1 => h _ h1 (by omega))]
theorem stp_add_lt (st : List Stp) (x : Stp) (n : Nat) (hn : n < st.length) : stp (st ++ [x]) n = stp st n := by
  simp [stp, List.getD_eq_getElem?_getD, List.getElem?_append_left hn]
theorem stp_add_eq (st : List Stp) (x : Stp) : stp (st ++ [x]) st.length = x := by
  simp [stp, List.getD_eq_getElem?_getD]
/-- steps read are a tree's, however what stands behind them and ahead of them is -/
structure Sp (S : BS) (r : Part × BS) (e : Re) : Prop where
  le : S.st.length ≤ r.2.st.length
  pre : ∀ n, n < S.st.length → stp r.2.st n = stp S.st n
  outs : ∀ o ∈ r.1.2, S.st.length ≤ o / 2 ∧ o / 2 < r.2.st.length
  bt : ∀ (st' : List Stp) (x : Nat), (∀ n, S.st.length ≤ n → n < r.2.st.length → stp st' n = pt r.1.2 x n (stp r.2.st n)) → Bt st' e r.1.1 x
theorem sp_single (S : BS) (x : Stp) (e : Re) (h : ∀ st' n y, stp st' n = ⟨x.k, x.m, y, x.ot⟩ → Bt st' e n y) : Sp S (single x S) e := by
  refine ⟨by simp [single, addB], fun n hn => stp_add_lt _ _ _ hn, fun o ho => ?_, fun st' y hst => ?_⟩
  · have : o = 2 * S.st.length := by simpa [single] using ho
    subst this
    simp [single, addB]
  · have h1 := hst S.st.length (Nat.le_refl _) (by simp [single, addB])
    refine h st' _ y (h1.trans ?_)
    show pt [2 * S.st.length] y S.st.length (stp (S.st ++ [x]) S.st.length) = _
    rw [stp_add_eq]
    unfold pt
    rw [if_pos (by simp), if_neg (by simp)]
end Go.Proofs.Ytnjpdhekeffpnaa.Rx

/- The reader's steps are its tree's: plain. -/
set_option linter.unusedVariables false
set_option linter.unusedSimpArgs false
namespace Go.Proofs.Ytnjpdhekeffpnaa.Rx
open Go.RowKit Go.Proofs.YtnjpdhekeffpnaaW.PrintWords Go.Proofs.YtnjpdhekeffpnaaW.PrintLast Go.Proofs.YtnjpdhekeffpnaaW.PrintMore

theorem wrong_F (e a : Nat) (S : BS) : (wrongB e a S).F ≠ none := by obtain ⟨at_, F, st⟩ := S; cases F <;> simp [wrongB]
theorem pt_app_none (o1 o2 : List Nat) (x n : Nat) (y : Stp) (h : ∀ o ∈ o2, o / 2 ≠ n) : pt (o1 ++ o2) x n y = pt o1 x n y := by
  have h1 : ¬ 2 * n ∈ o2 := fun h1 => h _ h1 (by omega)
  have h2 : ¬ 2 * n + 1 ∈ o2 := fun h1 => h _ h1 (by omega)
  unfold pt
  simp [List.mem_append, h1, h2]
theorem pt_app_none' (o1 o2 : List Nat) (x n : Nat) (y : Stp) (h : ∀ o ∈ o1, o / 2 ≠ n) : pt (o1 ++ o2) x n y = pt o2 x n y := by
  have h1 : ¬ 2 * n ∈ o1 := fun h1 => h _ h1 (by omega)
  have h2 : ¬ 2 * n + 1 ∈ o1 := fun h1 => h _ h1 (by omega)
  unfold pt
  simp [List.mem_append, h1, h2]
theorem Sp.st {S S' : BS} {r : Part × BS} {e : Re} (h : Sp S r e) (hs : S.st = S'.st) : Sp S' r e := by
  obtain ⟨h1, h2, h3, h4⟩ := h
  rw [hs] at h1 h2 h3 h4
  exact ⟨h1, h2, h3, h4⟩
theorem pt_ot (n x f : Nat) (m : Nat) : pt [2 * n + 1] x n ⟨1, m, f, 0⟩ = ⟨1, m, f, x⟩ := by
  unfold pt
  rw [if_neg (by simp), if_pos (by simp)]
theorem sp_rep (s : ByteArray) (S0 S : BS) (p : Part) (e : Re) (h : Sp S0 (p, S) e) : Sp S0 (repB s p S) (repE s e (zB S)).1 ∧ zB (repB s p S).2 = (repE s e (zB S)).2 ∧ (repB s p S).2.F = S.F := by
  have hle : S0.st.length ≤ S.st.length := h.le
  have hout : ∀ o ∈ p.2, o / 2 ≠ S.st.length := fun o ho => by have := (h.outs o ho).2; dsimp only at this; omega
  unfold repB repE
  rw [peek_z]
  cases peekB s S with
  | none => exact ⟨h, rfl, rfl⟩
  | some c =>
    dsimp only
    by_cases h63 : c = 63
    · rw [if_pos h63, if_pos h63]
      refine ⟨⟨by simp [addB, skip]; omega, fun n hn => (stp_add_lt _ _ _ (by show n < S.st.length; omega)).trans (h.pre n hn), fun o ho => ?_, fun st' x hst => ?_⟩, rfl, rfl⟩
      · rcases List.mem_append.1 ho with ho | ho
        · have h9 := h.outs o ho; dsimp only at h9; simp [addB, skip]; omega
        · have : o = 2 * S.st.length + 1 := by simpa using ho
          subst this
          simp [addB, skip]; omega
      · have h1 : stp st' S.st.length = ⟨1, 0, p.1, x⟩ := by
          refine (hst S.st.length hle (by simp [addB, skip])).trans ?_
          show pt (p.2 ++ [2 * S.st.length + 1]) x S.st.length (stp (S.st ++ [⟨1, 0, p.1, 0⟩]) S.st.length) = _
          rw [stp_add_eq, pt_app_none' _ _ _ _ _ hout, pt_ot]
        refine .opt h1 (h.bt st' x (fun n h2 h3 => ?_))
        refine (hst n h2 (by simp [addB, skip]; exact Nat.lt_succ_of_lt h3)).trans ?_
        show pt (p.2 ++ [2 * S.st.length + 1]) x n (stp (S.st ++ [⟨1, 0, p.1, 0⟩]) n) = pt p.2 x n (stp S.st n)
        have h3' : n < S.st.length := h3
        rw [stp_add_lt _ _ _ h3, pt_app_none _ _ _ _ _ (fun o ho => by (have h9 : o = 2 * S.st.length + 1 := (by simpa using ho)); omega)]
    · rw [if_neg h63, if_neg h63]
      have both : ∀ q : Nat, (∀ st' x, stp st' S.st.length = ⟨1, 0, p.1, x⟩ → Bt st' e p.1 S.st.length → ∀ e', (e' = Re.plus e ∧ q = p.1 ∨ e' = Re.star e ∧ q = S.st.length) → Bt st' e' q x) := by
        rintro q st' x h1 h2 e' (⟨rfl, rfl⟩ | ⟨rfl, rfl⟩)
        · exact .plus h1 h2
        · exact .star h1 h2
      have main : ∀ (q : Nat) (e' : Re), (e' = Re.plus e ∧ q = p.1 ∨ e' = Re.star e ∧ q = S.st.length) → Sp S0 ((q, [2 * S.st.length + 1]), patchB p.2 S.st.length (addB ⟨1, 0, p.1, 0⟩ (skip S 1))) e' := by
        intro q e' hq
        have hlen : (patchB p.2 S.st.length (addB ⟨1, 0, p.1, 0⟩ (skip S 1))).st.length = S.st.length + 1 := by rw [patchB_len]; simp [addB, skip]
        have hstp : ∀ n, n < S.st.length + 1 → stp (patchB p.2 S.st.length (addB ⟨1, 0, p.1, 0⟩ (skip S 1))).st n = pt p.2 S.st.length n (stp (S.st ++ [⟨1, 0, p.1, 0⟩]) n) := fun n hn => stp_patch _ _ _ _ (by simp [addB, skip]; omega)
        refine ⟨by rw [hlen]; omega, fun n hn => ?_, fun o ho => ?_, fun st' x hst => ?_⟩
        · rw [hstp n (by omega), stp_add_lt _ _ _ (by omega), pt_none _ _ _ _ (fun o ho => by have := (h.outs o ho).1; omega)]
          exact h.pre n hn
        · have : o = 2 * S.st.length + 1 := by simpa using ho
          subst this
          rw [hlen]; omega
        · rw [hlen] at hst
          have h1 : stp st' S.st.length = ⟨1, 0, p.1, x⟩ := by
            refine (hst S.st.length hle (by omega)).trans ?_
            show pt [2 * S.st.length + 1] x S.st.length _ = _
            rw [hstp _ (by omega), stp_add_eq, pt_none _ _ _ _ hout, pt_ot]
          refine both q st' x h1 (h.bt st' _ (fun n h2 h3 => ?_)) e' hq
          have h3' : n < S.st.length := h3
          refine (hst n h2 (by omega)).trans ?_
          show pt [2 * S.st.length + 1] x n _ = pt p.2 S.st.length n (stp S.st n)
          rw [hstp n (by omega), stp_add_lt _ _ _ h3', pt_none [2 * S.st.length + 1] x n _ (fun o ho => by (have h9 : o = 2 * S.st.length + 1 := (by simpa using ho)); omega)]
      by_cases h43 : c = 43
      · rw [if_pos h43, if_pos h43]
        exact ⟨main _ _ (.inl ⟨rfl, rfl⟩), rfl, rfl⟩
      · rw [if_neg h43, if_neg h43]
        by_cases h42 : c = 42
        · rw [if_pos h42, if_pos h42]
          exact ⟨main _ _ (.inr ⟨rfl, rfl⟩), rfl, rfl⟩
        · rw [if_neg h42, if_neg h42]
          exact ⟨h, rfl, rfl⟩
end Go.Proofs.Ytnjpdhekeffpnaa.Rx

/- The reader's steps are its tree's, put together: plain. -/
set_option linter.unusedVariables false
set_option linter.unusedSimpArgs false
namespace Go.Proofs.Ytnjpdhekeffpnaa.Rx
open Go.RowKit Go.Proofs.YtnjpdhekeffpnaaW.PrintWords Go.Proofs.YtnjpdhekeffpnaaW.PrintLast Go.Proofs.YtnjpdhekeffpnaaW.PrintMore

theorem sp_cat (S0 S1 S2 : BS) (p q : Part) (a b : Re) (hp : Sp S0 (p, S1) a) (hq : Sp S1 (q, S2) b) : Sp S0 ((p.1, q.2), patchB p.2 q.1 S2) (.cat a b) := by
  have l1 : S0.st.length ≤ S1.st.length := hp.le
  have l2 : S1.st.length ≤ S2.st.length := hq.le
  have o1 : ∀ o ∈ p.2, S0.st.length ≤ o / 2 ∧ o / 2 < S1.st.length := hp.outs
  have o2 : ∀ o ∈ q.2, S1.st.length ≤ o / 2 ∧ o / 2 < S2.st.length := hq.outs
  have hstp : ∀ n, n < S2.st.length → stp (patchB p.2 q.1 S2).st n = pt p.2 q.1 n (stp S2.st n) := fun n hn => stp_patch _ _ _ _ hn
  refine ⟨by rw [patchB_len]; omega, fun n hn => ?_, fun o ho => ?_, fun st' x hst => ?_⟩
  · rw [hstp n (by omega), pt_none _ _ _ _ (fun o ho => by have := o1 o ho; omega)]
    exact (hq.pre n (by omega)).trans (hp.pre n hn)
  · rw [patchB_len]
    have := o2 o ho
    exact ⟨by omega, this.2⟩
  · rw [patchB_len] at hst
    refine .cat (hp.bt st' q.1 (fun n h2 h3 => ?_)) (hq.bt st' x (fun n h2 h3 => ?_))
    · have h3' : n < S1.st.length := h3
      refine (hst n h2 (by omega)).trans ?_
      show pt q.2 x n _ = pt p.2 q.1 n (stp S1.st n)
      rw [hstp n (by omega), pt_none q.2 x n _ (fun o ho => by have := o2 o ho; omega), hq.pre n h3']
    · have h3' : n < S2.st.length := h3
      refine (hst n (by omega) h3').trans ?_
      show pt q.2 x n _ = pt q.2 x n (stp S2.st n)
      rw [hstp n h3', pt_none p.2 q.1 n _ (fun o ho => by have := o1 o ho; omega)]
theorem sp_eps (S : BS) : Sp S ((S.st.length, [2 * S.st.length, 2 * S.st.length + 1]), addB ⟨1, 0, 0, 0⟩ S) .eps := by
  refine ⟨by simp [addB], fun n hn => stp_add_lt _ _ _ hn, fun o ho => ?_, fun st' x hst => ?_⟩
  · have : o = 2 * S.st.length ∨ o = 2 * S.st.length + 1 := by simpa using ho
    simp [addB]; omega
  · refine .eps (m := 0) ((hst S.st.length (Nat.le_refl _) (by simp [addB])).trans ?_)
    show pt _ x S.st.length (stp (S.st ++ [⟨1, 0, 0, 0⟩]) S.st.length) = _
    rw [stp_add_eq]
    unfold pt
    rw [if_pos (by simp), if_pos (by simp)]
theorem sp_alt (S0 S1 S2 : BS) (p q : Part) (a b : Re) (hp : Sp S0 (p, S1) a) (hq : Sp S1 (q, S2) b) : Sp S0 ((S2.st.length, p.2 ++ q.2), addB ⟨1, 0, p.1, q.1⟩ S2) (.alt a b) := by
  have l1 : S0.st.length ≤ S1.st.length := hp.le
  have l2 : S1.st.length ≤ S2.st.length := hq.le
  have o1 : ∀ o ∈ p.2, S0.st.length ≤ o / 2 ∧ o / 2 < S1.st.length := hp.outs
  have o2 : ∀ o ∈ q.2, S1.st.length ≤ o / 2 ∧ o / 2 < S2.st.length := hq.outs
  have hlen : (addB ⟨1, 0, p.1, q.1⟩ S2).st.length = S2.st.length + 1 := by simp [addB]
  have hstp : ∀ n, n < S2.st.length → stp (addB ⟨1, 0, p.1, q.1⟩ S2).st n = stp S2.st n := fun n hn => stp_add_lt _ _ _ hn
  refine ⟨by rw [hlen]; omega, fun n hn => ?_, fun o ho => ?_, fun st' x hst => ?_⟩
  · rw [hstp n (by omega)]
    exact (hq.pre n (by omega)).trans (hp.pre n hn)
  · rw [hlen]
    rcases List.mem_append.1 ho with h | h
    · have := o1 o h; omega
    · have := o2 o h; omega
  · rw [hlen] at hst
    have h1 : stp st' S2.st.length = ⟨1, 0, p.1, q.1⟩ := by
      refine (hst S2.st.length (by omega) (by omega)).trans ?_
      show pt (p.2 ++ q.2) x S2.st.length (stp (S2.st ++ [⟨1, 0, p.1, q.1⟩]) S2.st.length) = _
      rw [stp_add_eq, pt_none _ _ _ _ (fun o ho => by
        rcases List.mem_append.1 ho with h | h
        · have := o1 o h; omega
        · have := o2 o h; omega)]
    refine .alt h1 (hp.bt st' x (fun n h2 h3 => ?_)) (hq.bt st' x (fun n h2 h3 => ?_))
    · have h3' : n < S1.st.length := h3
      refine (hst n h2 (by omega)).trans ?_
      show pt (p.2 ++ q.2) x n _ = pt p.2 x n (stp S1.st n)
      rw [hstp n (by omega), pt_app_none _ _ _ _ _ (fun o ho => by have := o2 o ho; omega), hq.pre n h3']
    · have h3' : n < S2.st.length := h3
      refine (hst n (by omega) (by omega)).trans ?_
      show pt (p.2 ++ q.2) x n _ = pt q.2 x n (stp S2.st n)
      rw [hstp n h3', pt_app_none' _ _ _ _ _ (fun o ho => by have := o1 o ho; omega)]
/-- a reader and its trees -/
def Ok (th : BS → Part × BS) (te : BS → Re × BS) : Prop := ∀ S, zB (th S).2 = (te (zB S)).2 ∧ ((th S).2.F = none → S.F = none ∧ Sp S (th S) (te (zB S)).1)
theorem wayL_ok {th : BS → Part × BS} {te : BS → Re × BS} (ht : Ok th te) (s : ByteArray) (S0 : BS) : ∀ (n : Nat) (p : Part) (S : BS) (e : Re), (S.F = none → Sp S0 (p, S) e) →
    zB (wayL th s n p S).2 = (wayLE te s n e (zB S)).2 ∧ ((wayL th s n p S).2.F = none → S.F = none ∧ Sp S0 (wayL th s n p S) (wayLE te s n e (zB S)).1)
  | 0, p, S, e, h => ⟨rfl, fun hF => ⟨hF, h hF⟩⟩
  | n + 1, p, S, e, h => by
    rw [wayL, wayLE, peek_z]
    cases peekB s S with
    | none => exact ⟨rfl, fun hF => ⟨hF, h hF⟩⟩
    | some c =>
      dsimp only
      by_cases hc : c = 124 ∨ c = 41
      · rw [if_pos hc, if_pos hc]
        exact ⟨rfl, fun hF => ⟨hF, h hF⟩⟩
      · rw [if_neg hc, if_neg hc]
        obtain ⟨z1, h1⟩ := ht S
        rw [← z1]
        have z2 : zB (repB s (th S).1 (th S).2).2 = (repE s (te (zB S)).1 (zB (th S).2)).2 ∧ (repB s (th S).1 (th S).2).2.F = (th S).2.F := by
          unfold repB repE
          rw [peek_z]
          cases peekB s (th S).2 with
          | none => exact ⟨rfl, rfl⟩
          | some c => dsimp only; split; (· exact ⟨rfl, rfl⟩); (· split; (· exact ⟨rfl, rfl⟩); (· split <;> exact ⟨rfl, rfl⟩))
        rw [← z2.1]
        have ih := wayL_ok ht s S0 n (p.1, (repB s (th S).1 (th S).2).1.2) (patchB p.2 (repB s (th S).1 (th S).2).1.1 (repB s (th S).1 (th S).2).2) (.cat e (repE s (te (zB S)).1 (zB (th S).2)).1) (fun hF => by
          have hF1 : (th S).2.F = none := z2.2.symm.trans hF
          obtain ⟨h2, h3⟩ := h1 hF1
          exact sp_cat S0 S _ p _ e _ (h h2) (sp_rep s S (th S).2 (th S).1 _ h3).1)
        refine ⟨ih.1, fun hF => ?_⟩
        obtain ⟨h2, h3⟩ := ih.2 hF
        have hF1 : (th S).2.F = none := z2.2.symm.trans h2
        exact ⟨(h1 hF1).1, h3⟩
theorem way_ok {th : BS → Part × BS} {te : BS → Re × BS} (ht : Ok th te) (s : ByteArray) : Ok (wayB th s) (wayE te s) := by
  intro S
  have h := wayL_ok ht s S (s.size + 1) (S.st.length, [2 * S.st.length, 2 * S.st.length + 1]) (addB ⟨1, 0, 0, 0⟩ S) .eps (fun _ => sp_eps S)
  exact h
theorem waysL_ok {th : BS → Part × BS} {te : BS → Re × BS} (ht : Ok th te) (s : ByteArray) (S0 : BS) : ∀ (n : Nat) (p : Part) (S : BS) (e : Re), (S.F = none → Sp S0 (p, S) e) →
    zB (waysL th s n p S).2 = (waysLE te s n e (zB S)).2 ∧ ((waysL th s n p S).2.F = none → S.F = none ∧ Sp S0 (waysL th s n p S) (waysLE te s n e (zB S)).1)
  | 0, p, S, e, h => ⟨rfl, fun hF => ⟨hF, h hF⟩⟩
  | n + 1, p, S, e, h => by
    rw [waysL, waysLE, peek_z]
    by_cases hc : peekB s S = some 124
    · rw [if_pos hc, if_pos hc]
      obtain ⟨z1, h1⟩ := way_ok ht s (skip S 1)
      rw [skip_z, ← z1]
      have ih := waysL_ok ht s S0 n ((wayB th s (skip S 1)).2.st.length, p.2 ++ (wayB th s (skip S 1)).1.2) (addB ⟨1, 0, p.1, (wayB th s (skip S 1)).1.1⟩ (wayB th s (skip S 1)).2) (.alt e (wayE te s (zB (skip S 1))).1) (fun hF => by
        obtain ⟨h2, h3⟩ := h1 hF
        exact sp_alt S0 S _ p _ e _ (h h2) (h3.st rfl))
      refine ⟨ih.1, fun hF => ?_⟩
      obtain ⟨h2, h3⟩ := ih.2 hF
      exact ⟨(h1 h2).1, h3⟩
    · rw [if_neg hc, if_neg hc]
      exact ⟨rfl, fun hF => ⟨hF, h hF⟩⟩
theorem ways_ok {th : BS → Part × BS} {te : BS → Re × BS} (ht : Ok th te) (s : ByteArray) : Ok (waysF th s) (waysFE te s) := by
  intro S
  obtain ⟨z1, h1⟩ := way_ok ht s S
  have h := waysL_ok ht s S (s.size + 1) (wayB th s S).1 (wayB th s S).2 (wayE te s (zB S)).1 (fun hF => (h1 hF).2)
  rw [z1] at h
  exact ⟨h.1, fun hF => ⟨(h1 (h.2 hF).1).1, (h.2 hF).2⟩⟩
end Go.Proofs.Ytnjpdhekeffpnaa.Rx

/- An expression's steps do what its tree says: plain. -/
set_option linter.unusedVariables false
set_option linter.unusedSimpArgs false
namespace Go.Proofs.Ytnjpdhekeffpnaa.Rx
open Go.RowKit Go.Proofs.YtnjpdhekeffpnaaW.PrintWords Go.Proofs.YtnjpdhekeffpnaaW.PrintLast Go.Proofs.YtnjpdhekeffpnaaW.PrintMore

theorem brL_F (s : ByteArray) (b0 : Nat) : ∀ (n m : Nat) (S : BS), (brL s b0 n m S).2.2.F = none → S.F = none
  | 0, m, S, h => absurd h (wrong_F _ _ _)
  | n + 1, m, S, h => by
    rw [brL] at h
    cases hp : peekB s S with
    | none => rw [hp] at h; exact absurd h (wrong_F _ _ _)
    | some c =>
      unfold peekB at hp
      split at hp
      · rename_i h1; exact h1.1
      · cases hp
theorem bracket_F (s : ByteArray) (S : BS) (h : (bracketB s S).2.F = none) : S.F = none := by
  unfold bracketB at h
  split at h
  · exact brL_F s (S.at_ + 1) (s.size + 1) 0 (skip S 1) h
  · exact brL_F s S.at_ (s.size + 1) 0 S h
theorem Sp.r {S S1 S2 : BS} {p : Part} {e : Re} (h : Sp S (p, S1) e) (hs : S1.st = S2.st) : Sp S (p, S2) e := by
  obtain ⟨h1, h2, h3, h4⟩ := h
  dsimp only at h1 h2 h3 h4
  rw [hs] at h1 h2 h3 h4
  exact ⟨h1, h2, h3, h4⟩
theorem grp_ok {wys : BS → Part × BS} {we : BS → Re × BS} (hw : Ok wys we) (s : ByteArray) (a : Nat) : Ok (grpF wys s a) (grpFE we s a) := by
  intro S
  obtain ⟨z1, h1⟩ := hw S
  unfold grpF grpFE
  dsimp only
  rw [← z1, peek_z, wrong_z]
  by_cases hc : peekB s (wys S).2 = some 41
  · rw [if_pos hc, if_pos hc, skip_z]
    exact ⟨rfl, fun hF => ⟨(h1 hF).1, Sp.r (S1 := (wys S).2) (h1 hF).2 rfl⟩⟩
  · rw [if_neg hc, if_neg hc, skip_z]
    exact ⟨rfl, fun hF => absurd hF (wrong_F _ _ _)⟩
theorem byte_ok (S S1 : BS) (m : Nat) (hs : S.st = S1.st) : Sp S (single ⟨0, m, 0, 0⟩ S1) (.byte m) :=
  (sp_single S1 ⟨0, m, 0, 0⟩ (.byte m) (fun st' n y h => .byte h)).st hs.symm
theorem thing_ok {grp : Nat → BS → Part × BS} {ge : Nat → BS → Re × BS} (hg : ∀ a, Ok (grp a) (ge a)) (s : ByteArray) : Ok (thingB grp s) (thingE ge s) := by
  intro S
  unfold thingB thingE
  dsimp only
  rw [peek_z, skip_z, peek_z, wrong_z, wrong_z, show (zB S).at_ = S.at_ from rfl, bracket_z]
  obtain ⟨c, hc⟩ : ∃ c, (peekB s S).getD 0 = c := ⟨_, rfl⟩
  rw [hc]
  split
  · exact ⟨rfl, fun hF => absurd hF (wrong_F _ _ _)⟩
  · split
    · exact ⟨rfl, fun hF => ⟨hF, byte_ok S _ _ rfl⟩⟩
    · split
      · exact ⟨rfl, fun hF => ⟨hF, (sp_single (skip S 1) ⟨2, 0, 0, 0⟩ .beg (fun st' n y h => .beg h)).st rfl⟩⟩
      · split
        · exact ⟨rfl, fun hF => ⟨hF, (sp_single (skip S 1) ⟨3, 0, 0, 0⟩ .fin (fun st' n y h => .fin h)).st rfl⟩⟩
        · split
          · exact ⟨rfl, fun hF => ⟨bracket_F s (skip S 1) hF, byte_ok S _ _ (bracketB_at s (skip S 1)).2.symm⟩⟩
          · split
            · obtain ⟨z1, h1⟩ := hg S.at_ (skip S 1)
              exact ⟨z1, fun hF => ⟨(h1 hF).1, (h1 hF).2.st rfl⟩⟩
            · split
              · by_cases hn : (peekB s (skip S 1)).isNone = true
                · rw [if_pos hn, if_pos hn]
                  exact ⟨rfl, fun hF => absurd hF (wrong_F _ _ _)⟩
                · rw [if_neg hn, if_neg hn]
                  exact ⟨rfl, fun hF => ⟨hF, byte_ok S _ _ rfl⟩⟩
              · exact ⟨rfl, fun hF => ⟨hF, byte_ok S _ _ rfl⟩⟩
theorem th_ok (s : ByteArray) : ∀ d, Ok (thB s d) (thE s d)
  | 0 => thing_ok (fun a S => ⟨(wrong_z 4 a S).symm, fun hF => absurd hF (wrong_F _ _ _)⟩) s
  | d + 1 => by
    show Ok (thingB (grpF (waysB s d) s) s) (thingE (grpFE (waysFE (thE s d) s) s) s)
    refine thing_ok (fun a => grp_ok ?_ s a) s
    rw [waysB_eq]
    exact ways_ok (th_ok s d) s
theorem read_ok (s : ByteArray) : zB (readB s).2 = (readE s).2 ∧ ((readB s).2.F = none → Sp ⟨0, none, []⟩ (readB s) (readE s).1) := by
  have h := ways_ok (th_ok s 16) s ⟨0, none, []⟩
  rw [← waysB_eq] at h
  exact ⟨h.1, fun hF => (h.2 hF).2⟩
theorem fault_none (s : ByteArray) (h : faultB s = none) : s.size ≤ 200 ∧ (readB s).2.F = none ∧ s.size ≤ (readB s).2.at_ := by
  unfold faultB at h
  split at h
  · cases h
  · rename_i h1
    split at h
    · exact absurd h (wrong_F _ _ _)
    · exact ⟨by omega, h, by omega⟩
/-- an expression's steps are its tree's -/
theorem read_bt (s : ByteArray) (h : faultB s = none) : ∃ x, Bt (stepsB s) (readE s).1 (firstB s) x ∧ (stp (stepsB s) x).k = 4 := by
  have hs := (read_ok s).2 (fault_none s h).2.1
  have hst : ∀ n, n < (readB s).2.st.length + 1 → stp (stepsB s) n = pt (readB s).1.2 (readB s).2.st.length n (stp ((readB s).2.st ++ [⟨4, 0, 0, 0⟩]) n) := fun n hn => stp_patch _ _ _ _ (by simp [addB]; omega)
  refine ⟨(readB s).2.st.length, hs.bt _ _ (fun n _ hn => ?_), ?_⟩
  · rw [hst n (by omega), stp_add_lt _ _ _ hn]
  · rw [hst _ (by omega), stp_add_eq]
    rfl
/-- longP of an expression's steps -/
theorem long_M (p s : ByteArray) (h : faultB p = none) (i : Nat) (hi : i ≤ s.size) :
    (longP s (stepsB p) (firstB p) i = -1 ∧ ∀ j, ¬ M s (readE p).1 i j) ∨ (∃ j, i ≤ j ∧ longP s (stepsB p) (firstB p) i = (j : Int) ∧ M s (readE p).1 i j ∧ ∀ j', M s (readE p).1 i j' → j' ≤ j) := by
  obtain ⟨x, h1, h2⟩ := read_bt p h
  have hw := wf_steps p
  exact longP_M s _ _ _ x i hw.1 hw.2.1 hi h1 h2
end Go.Proofs.Ytnjpdhekeffpnaa.Rx

/- Is and Find, told by the tree: plain. -/
set_option linter.unusedVariables false
set_option linter.unusedSimpArgs false
namespace Go.Proofs.Ytnjpdhekeffpnaa.Rx
open Go.RowKit Go.Proofs.YtnjpdhekeffpnaaW.PrintWords Go.Proofs.YtnjpdhekeffpnaaW.PrintLast Go.Proofs.YtnjpdhekeffpnaaW.PrintMore

theorem Star.hi {R : Nat → Nat → Prop} {N : Nat} (hR : ∀ i j, R i j → i ≤ N → j ≤ N) {i j : Nat} (h : Star R i j) : i ≤ N → j ≤ N := by
  induction h with
  | nil => exact id
  | cons h1 _ ih => exact fun h => ih (hR _ _ h1 h)
theorem M_hi (s : ByteArray) : ∀ (e : Re) (i j : Nat), M s e i j → i ≤ s.size → j ≤ s.size
  | .eps, i, j, h, hi => by have h : i = j := h; omega
  | .byte m, i, j, h, hi => by have h1 := h.1; have h2 := h.2.2; omega
  | .beg, i, j, h, hi => by have := h.2; omega
  | .fin, i, j, h, hi => by have := h.2; omega
  | .cat a b, i, j, h, hi => by obtain ⟨k, h1, h2⟩ := h; exact M_hi s b k j h2 (M_hi s a i k h1 hi)
  | .alt a b, i, j, h, hi => by rcases h with h | h; (· exact M_hi s a i j h hi); (· exact M_hi s b i j h hi)
  | .star a, i, j, h, hi => Star.hi (M_hi s a) h hi
  | .plus a, i, j, h, hi => by obtain ⟨k, h1, h2⟩ := h; exact Star.hi (M_hi s a) h2 (M_hi s a i k h1 hi)
  | .opt a, i, j, h, hi => by rcases h with h | h; (· omega); (· exact M_hi s a i j h hi)
theorem isP_M (p s : ByteArray) (h : faultB p = none) : isP s (stepsB p) (firstB p) = true ↔ M s (readE p).1 0 s.size := by
  unfold isP
  rcases long_M p s h 0 (Nat.zero_le _) with ⟨h1, h2⟩ | ⟨j, h1, h2, h3, h4⟩
  · rw [h1]
    constructor
    · intro h3; have := beq_iff_eq.1 h3; omega
    · intro h3; exact absurd h3 (h2 _)
  · rw [h2]
    constructor
    · intro h5
      have h6 : j = s.size := by have := beq_iff_eq.1 h5; omega
      rw [← h6]; exact h3
    · intro h5
      have h6 := h4 _ h5
      have h7 := M_hi s _ _ _ h3 (Nat.zero_le _)
      exact beq_iff_eq.2 (by omega)
/-- what Find tells -/
def FindS (s : ByteArray) (e : Re) (n : Nat) : Option (Nat × Int) → Prop
  | none => ∀ (i j : Nat), n ≤ i → i ≤ s.size → ¬ M s e i j
  | some (i, z) => n ≤ i ∧ i ≤ s.size ∧ (∃ j : Nat, z = (j : Int) ∧ M s e i j ∧ ∀ j' : Nat, M s e i j' → j' ≤ j) ∧ ∀ (i' j : Nat), n ≤ i' → i' < i → ¬ M s e i' j
theorem findL_M (p s : ByteArray) (h : faultB p = none) : ∀ (k n : Nat), s.size < n + k → FindS s (readE p).1 n (findL s (stepsB p) (firstB p) k n)
  | 0, n, hk => fun i j h1 h2 => absurd h2 (by omega)
  | k + 1, n, hk => by
    rw [findL]
    split
    · intro i j h1 h2
      omega
    · rename_i hn
      rcases long_M p s h n (by omega) with ⟨h1, h2⟩ | ⟨j, h1, h2, h3, h4⟩
      · rw [h1, if_neg (by omega)]
        have ih := findL_M p s h k (n + 1) (by omega)
        cases hf : findL s (stepsB p) (firstB p) k (n + 1) with
        | none =>
          rw [hf] at ih
          intro i j h3 h4
          rcases Nat.eq_or_lt_of_le h3 with rfl | h5
          · exact h2 j
          · exact ih i j h5 h4
        | some q =>
          obtain ⟨i, z⟩ := q
          rw [hf] at ih
          obtain ⟨g1, g2, g3, g4⟩ := ih
          refine ⟨by omega, g2, g3, fun i' j h3 h4 => ?_⟩
          rcases Nat.eq_or_lt_of_le h3 with rfl | h5
          · exact h2 j
          · exact g4 i' j h5 h4
      · rw [h2, if_pos (by omega)]
        exact ⟨Nat.le_refl _, by omega, ⟨j, rfl, h3, h4⟩, fun i' j h5 h6 => by omega⟩
theorem findP_M (p s : ByteArray) (h : faultB p = none) (n : Nat) : FindS s (readE p).1 n (findP s (stepsB p) (firstB p) (n : Int)) := by
  rw [findP, if_neg (by omega), Int.toNat_natCast]
  exact findL_M p s h _ n (by omega)
end Go.Proofs.Ytnjpdhekeffpnaa.Rx

/- A row of single bytes as a tree: plain. -/
set_option linter.unusedVariables false
set_option linter.unusedSimpArgs false
namespace Go.Proofs.Ytnjpdhekeffpnaa.Rx
open Go.RowKit Go.Proofs.YtnjpdhekeffpnaaW.PrintWords Go.Proofs.YtnjpdhekeffpnaaW.PrintLast Go.Proofs.YtnjpdhekeffpnaaW.PrintMore

def catB (e : Re) (l : List UInt8) : Re := l.foldl (fun e c => .cat e (.byte (addR 0 c.toNat 1))) e
theorem one_bit (c x : Nat) : (addR 0 c 1).testBit x = true ↔ x = c := by
  show (0 ||| 2 ^ c).testBit x = true ↔ _
  rw [Nat.zero_or, Nat.testBit_two_pow]
  simp [eq_comm]
/-- the bytes l stand in s from i on -/
def Stands (s : ByteArray) : List UInt8 → Nat → Prop
  | [], _ => True
  | c :: l, i => i < s.size ∧ (bt s (i : Int)).toNat = c.toNat ∧ Stands s l (i + 1)
theorem catB_M (s : ByteArray) : ∀ (l : List UInt8) (e : Re) (i j : Nat), M s (catB e l) i j ↔ ∃ k, M s e i k ∧ Stands s l k ∧ j = k + l.length
  | [], e, i, j => ⟨fun h => ⟨j, h, trivial, rfl⟩, fun ⟨k, h1, _, h3⟩ => by have h3 : j = k := h3; rw [h3]; exact h1⟩
  | c :: l, e, i, j => by
    rw [show catB e (c :: l) = catB (.cat e (.byte (addR 0 c.toNat 1))) l from rfl, catB_M s l]
    constructor
    · rintro ⟨k, ⟨q, h1, h2, h3, rfl⟩, h4, h5⟩
      exact ⟨q, h1, ⟨h2, (one_bit _ _).1 h3, h4⟩, by rw [List.length_cons]; omega⟩
    · rintro ⟨k, h1, ⟨h2, h3, h4⟩, h5⟩
      rw [List.length_cons] at h5
      exact ⟨k + 1, ⟨k, h1, h2, (one_bit _ _).2 h3, rfl⟩, h4, by omega⟩
end Go.Proofs.Ytnjpdhekeffpnaa.Rx
