/- An expression read in round brackets is what it is alone: plain. -/
import Derived.Test.YtnjpdhekeffpnaaRxEj
set_option linter.unusedVariables false
set_option linter.unusedSimpArgs false
namespace Go.Proofs.Ytnjpdhekeffpnaa.Rx
open Go.RowKit Go.Proofs.YtnjpdhekeffpnaaW.PrintWords Go.Proofs.YtnjpdhekeffpnaaW.PrintLast Go.Proofs.YtnjpdhekeffpnaaW.PrintMore

/-! ### a fault stays -/
theorem peek_F {p : ByteArray} {S : BS} {x : Nat × Nat} (h : S.F = some x) : peekB p S = none := by
  unfold peekB
  rw [if_neg]
  rintro ⟨h1, _⟩
  rw [h] at h1
  cases h1
theorem th_F {ge : Nat → BS → Re × BS} {p : ByteArray} {S : BS} {x : Nat × Nat} (h : S.F = some x) : (thingE ge p S).2.F = some x := by
  unfold thingE
  rw [peek_F h]
  exact h
theorem rep_F {p : ByteArray} {e : Re} {S : BS} {x : Nat × Nat} (h : S.F = some x) : repE p e S = (e, S) := by
  unfold repE
  rw [peek_F h]
theorem way_F {th : BS → Re × BS} {p : ByteArray} {n : Nat} {e : Re} {S : BS} {x : Nat × Nat} (h : S.F = some x) : wayLE th p n e S = (e, S) := by
  cases n with
  | zero => rfl
  | succ n => rw [wayLE, peek_F h]
theorem ways_F {th : BS → Re × BS} {p : ByteArray} {n : Nat} {e : Re} {S : BS} {x : Nat × Nat} (h : S.F = some x) : waysLE th p n e S = (e, S) := by
  cases n with
  | zero => rfl
  | succ n => rw [waysLE, peek_F h, if_neg (by simp)]
theorem wrong_some {e a : Nat} {S : BS} {x : Nat × Nat} (h : S.F = some x) : wrongB e a S = S := by unfold wrongB; rw [h]
theorem wrong_ne (e a : Nat) (S : BS) : (wrongB e a S).F ≠ none := wrong_F _ _ _
/-! ### in brackets -/
/-- the text t goes on as p does, and then with a closing bracket -/
def Sim (p t : ByteArray) (suf : List UInt8) (S S' : BS) : Prop := S.F = none ∧ S'.F = none ∧ t.data.toList.drop S'.at_ = p.data.toList.drop S.at_ ++ 41 :: suf
def Many (S : BS) : Prop := ∃ a, S.F = some (4, a)
theorem Sim.end {p t : ByteArray} {suf : List UInt8} {S S' : BS} (h : Sim p t suf S S') (he : p.data.toList.drop S.at_ = []) : peekB p S = none ∧ peekB t S' = some 41 ∧ t.data.toList.drop (S'.at_ + 1) = suf := by
  obtain ⟨h1, h2, h3⟩ := h
  rw [he, List.nil_append] at h3
  exact ⟨peek_end he, peek_drop h2 h3, (bt_drop h3).2.2⟩
theorem Sim.cons {p t : ByteArray} {suf : List UInt8} {S S' : BS} (h : Sim p t suf S S') {c : UInt8} {l : List UInt8} (he : p.data.toList.drop S.at_ = c :: l) : peekB p S = some (c.toNat : Int) ∧ peekB t S' = some (c.toNat : Int) ∧ Sim p t suf (skip S 1) (skip S' 1) ∧ p.data.toList.drop (skip S 1).at_ = l := by
  obtain ⟨h1, h2, h3⟩ := h
  have h4 := h3
  rw [he, List.cons_append] at h4
  refine ⟨peek_drop h1 he, peek_drop h2 h4, ⟨h1, h2, ?_⟩, (bt_drop he).2.2⟩
  show t.data.toList.drop (S'.at_ + 1) = p.data.toList.drop (S.at_ + 1) ++ 41 :: suf
  rw [(bt_drop he).2.2, (bt_drop h4).2.2]
theorem size_drop {p : ByteArray} {k : Nat} {l : List UInt8} (h : p.data.toList.drop k = l) : p.size - k = l.length := by
  rw [← h, List.length_drop, Array.length_toList]; rfl
theorem bt_drop2 {p : ByteArray} {k : Nat} {c d : UInt8} {l : List UInt8} (h : p.data.toList.drop k = c :: d :: l) : bt p ((k : Int) + 1) = (d.toNat : Int) := by
  have := (bt_drop (bt_drop h).2.2).2.1
  rwa [show ((k + 1 : Nat) : Int) = (k : Int) + 1 by omega] at this
theorem bt_drop3 {p : ByteArray} {k : Nat} {c d e : UInt8} {l : List UInt8} (h : p.data.toList.drop k = c :: d :: e :: l) : bt p ((k : Int) + 2) = (e.toNat : Int) := by
  have := (bt_drop (bt_drop (bt_drop h).2.2).2.2).2.1
  rwa [show ((k + 1 + 1 : Nat) : Int) = (k : Int) + 2 by omega] at this
theorem brL_c {s : ByteArray} {b0 n m : Nat} {S : BS} {c : Int} (h : peekB s S = some c) : brL s b0 (n + 1) m S =
      (if c = 93 ∧ b0 < S.at_ then (true, m, skip S 1)
      else if s.size - S.at_ < 3 ∨ bt s ((S.at_ : Int) + 1) ≠ 45 ∨ bt s ((S.at_ : Int) + 2) = 93 then brL s b0 n (addR m c.toNat 1) (skip S 1)
      else if bt s ((S.at_ : Int) + 2) < c then (false, 0, wrongB 2 (S.at_ + 1) S)
      else brL s b0 n (addR m c.toNat ((bt s ((S.at_ : Int) + 2)).toNat + 1 - c.toNat)) (skip S 3)) := by rw [brL, h]
theorem way_c {th : BS → Re × BS} {s : ByteArray} {n : Nat} {e : Re} {S : BS} {c : Int} (h : peekB s S = some c) : wayLE th s (n + 1) e S =
      (if c = 124 ∨ c = 41 then (e, S) else wayLE th s n (.cat e (repE s (th S).1 (th S).2).1) (repE s (th S).1 (th S).2).2) := by rw [wayLE, h]
theorem way_n {th : BS → Re × BS} {s : ByteArray} {n : Nat} {e : Re} {S : BS} (h : peekB s S = none) : wayLE th s (n + 1) e S = (e, S) := by rw [wayLE, h]
theorem ways_c {th : BS → Re × BS} {s : ByteArray} {n : Nat} {e : Re} {S : BS} : waysLE th s (n + 1) e S =
      (if peekB s S = some 124 then waysLE th s n (.alt e (wayE th s (skip S 1)).1) (wayE th s (skip S 1)).2 else (e, S)) := by rw [waysLE]
/-- a set's end is missed -/
theorem brL_short {p : ByteArray} {b0 : Nat} {n m : Nat} {S : BS} (hF : S.F = none) (h : p.data.toList.drop S.at_ = [] ∨ p.data.toList.drop S.at_ = [45]) : (brL p b0 n m S).2.2.F ≠ none := by
  cases n with
  | zero => exact wrong_ne _ _ _
  | succ n =>
    rw [brL]
    rcases h with h | h
    · rw [peek_end h]; exact wrong_ne _ _ _
    · rw [peek_drop hF h]
      dsimp only
      rw [if_neg (fun g => absurd g.1 (by decide)), if_pos (by left; rw [size_drop h]; decide)]
      have h2 : p.data.toList.drop (skip S 1).at_ = [] := (bt_drop h).2.2
      cases n with
      | zero => exact wrong_ne _ _ _
      | succ n => rw [brL, peek_end h2]; exact wrong_ne _ _ _
theorem brL_sim {p t : ByteArray} {suf : List UInt8} {b0 b0' : Nat} : ∀ (n n' m : Nat) (S S' : BS), Sim p t suf S S' → b0 + S'.at_ = b0' + S.at_ → (p.data.toList.drop S.at_).length < n → (p.data.toList.drop S.at_).length < n' → (brL p b0 n m S).2.2.F = none →
    (brL t b0' n' m S').1 = (brL p b0 n m S).1 ∧ (brL t b0' n' m S').2.1 = (brL p b0 n m S).2.1 ∧ Sim p t suf (brL p b0 n m S).2.2 (brL t b0' n' m S').2.2
  | n + 1, n' + 1, m, S, S', h, hb, hn, hn', hF => by
    cases hl : p.data.toList.drop S.at_ with
    | nil => exact absurd hF (brL_short h.1 (.inl hl))
    | cons c l =>
      obtain ⟨h1, h2, h3, h4⟩ := h.cons hl
      rw [hl, List.length_cons] at hn hn'
      have h5 := h.2.2
      rw [hl] at h5
      have z1 := size_drop hl
      have z2 := size_drop h5
      have e1 : (skip S 1).at_ = S.at_ + 1 := rfl
      have e2 : (skip S' 1).at_ = S'.at_ + 1 := rfl
      rw [brL_c h1] at hF ⊢
      rw [brL_c h2]
      by_cases c1 : (c.toNat : Int) = 93 ∧ b0 < S.at_
      · rw [if_pos c1, if_pos ⟨c1.1, by omega⟩]
        exact ⟨rfl, rfl, h3⟩
      · rw [if_neg c1] at hF ⊢
        rw [if_neg (show ¬ ((c.toNat : Int) = 93 ∧ b0' < S'.at_) from fun g => c1 ⟨g.1, by omega⟩)]
        have one : (brL p b0 n (addR m ((c.toNat : Int)).toNat 1) (skip S 1)).2.2.F = none → (brL t b0' n' (addR m ((c.toNat : Int)).toNat 1) (skip S' 1)).1 = (brL p b0 n (addR m ((c.toNat : Int)).toNat 1) (skip S 1)).1 ∧ (brL t b0' n' (addR m ((c.toNat : Int)).toNat 1) (skip S' 1)).2.1 = (brL p b0 n (addR m ((c.toNat : Int)).toNat 1) (skip S 1)).2.1 ∧ Sim p t suf (brL p b0 n (addR m ((c.toNat : Int)).toNat 1) (skip S 1)).2.2 (brL t b0' n' (addR m ((c.toNat : Int)).toNat 1) (skip S' 1)).2.2 :=
          fun hF => brL_sim n n' _ _ _ h3 (by omega) (by rw [h4]; omega) (by rw [h4]; omega) hF
        match l, hl with
        | [], hl =>
          rw [if_pos (show p.size - S.at_ < 3 ∨ _ from .inl (by rw [z1]; simp))] at hF
          exact absurd hF (brL_short h3.1 (.inl h4))
        | [d], hl =>
          rw [if_pos (show p.size - S.at_ < 3 ∨ _ from .inl (by rw [z1]; simp))] at hF ⊢
          by_cases hd : d = 45
          · rw [hd] at h4
            exact absurd hF (brL_short h3.1 (.inr h4))
          · have g1 := bt_drop2 h5
            rw [if_pos (show t.size - S'.at_ < 3 ∨ _ from .inr (.inl (by
              rw [g1]; intro g; exact hd (UInt8.toNat_inj.1 (by show d.toNat = 45; omega)))))]
            exact one hF
        | d :: e :: r, hl =>
          have g1 := bt_drop2 h5
          have g2 := bt_drop3 h5
          have g3 := bt_drop2 hl
          have g4 := bt_drop3 hl
          rw [g3, g4] at hF ⊢
          rw [g1, g2]
          by_cases cd : p.size - S.at_ < 3 ∨ (d.toNat : Int) ≠ 45 ∨ (e.toNat : Int) = 93
          · rw [if_pos cd] at hF ⊢
            rw [if_pos (show t.size - S'.at_ < 3 ∨ (d.toNat : Int) ≠ 45 ∨ (e.toNat : Int) = 93 from .inr (cd.resolve_left (by rw [z1]; simp)))]
            exact one hF
          · rw [if_neg cd] at hF ⊢
            rw [if_neg (show ¬ (t.size - S'.at_ < 3 ∨ (d.toNat : Int) ≠ 45 ∨ (e.toNat : Int) = 93) from fun g => g.elim (by rw [z2]; simp) (fun g => cd (.inr g)))]
            split at hF
            · exact absurd hF (wrong_ne _ _ _)
            · rename_i ce
              rw [if_neg ce, if_neg ce]
              have h6 : p.data.toList.drop (skip S 3).at_ = r := (bt_drop (bt_drop (bt_drop hl).2.2).2.2).2.2
              have h7 : t.data.toList.drop (skip S' 3).at_ = r ++ 41 :: suf := (bt_drop (bt_drop (bt_drop h5).2.2).2.2).2.2
              rw [List.length_cons, List.length_cons] at hn hn'
              exact brL_sim n n' _ _ _ ⟨h.1, h.2.1, by rw [h7, h6]⟩ (by show b0 + (S'.at_ + 3) = b0' + (S.at_ + 3); omega) (by rw [h6]; omega) (by rw [h6]; omega) hF
theorem bracket_sim {p t : ByteArray} {suf : List UInt8} {S S' : BS} (h : Sim p t suf S S') (hF : (bracketB p S).2.F = none) :
    (bracketB t S').1 = (bracketB p S).1 ∧ Sim p t suf (bracketB p S).2 (bracketB t S').2 := by
  have hlp : (p.data.toList.drop S.at_).length < p.size + 1 := by rw [List.length_drop, Array.length_toList]; show p.data.size - _ < p.data.size + 1; omega
  have hlt : (p.data.toList.drop S.at_).length < t.size + 1 := by
    have := congrArg List.length h.2.2
    rw [List.length_append, List.length_cons, List.length_drop (l := t.data.toList), Array.length_toList] at this
    show _ < t.data.size + 1
    omega
  unfold bracketB at hF ⊢
  cases hl : p.data.toList.drop S.at_ with
  | nil =>
    rw [(h.end hl).1, if_neg (by simp)] at hF
    exact absurd hF (brL_short h.1 (.inl hl))
  | cons c l =>
    obtain ⟨h1, h2, h3, h4⟩ := h.cons hl
    rw [h1] at hF ⊢
    rw [h2]
    rw [hl, List.length_cons] at hlp hlt
    by_cases hc : some (c.toNat : Int) = some 94
    · rw [if_pos hc] at hF ⊢
      rw [if_pos hc]
      have := brL_sim (b0 := S.at_ + 1) (b0' := S'.at_ + 1) (p.size + 1) (t.size + 1) 0 _ _ h3 (by show S.at_ + 1 + (S'.at_ + 1) = S'.at_ + 1 + (S.at_ + 1); omega) (by rw [h4]; omega) (by rw [h4]; omega) hF
      obtain ⟨g1, g2, g3⟩ := this
      dsimp only
      rw [g1, g2]
      exact ⟨rfl, g3⟩
    · rw [if_neg hc] at hF ⊢
      rw [if_neg hc]
      have := brL_sim (b0 := S.at_) (b0' := S'.at_) (p.size + 1) (t.size + 1) 0 _ _ h (by omega) (by rw [hl, List.length_cons]; omega) (by rw [hl, List.length_cons]; omega) hF
      obtain ⟨g1, g2, g3⟩ := this
      exact ⟨g2, g3⟩
/-- a reader that does alike in both texts, or opens too many brackets -/
def Cx (p t : ByteArray) (suf : List UInt8) (f f' : BS → Re × BS) : Prop :=
  ∀ S S', Sim p t suf S S' → (f S).2.F = none → Many (f' S').2 ∨ ((f' S').1 = (f S).1 ∧ Sim p t suf (f S).2 (f' S').2)
def CxT (p t : ByteArray) (suf : List UInt8) (f f' : BS → Re × BS) : Prop :=
  ∀ S S', Sim p t suf S S' → p.data.toList.drop S.at_ ≠ [] → (f S).2.F = none → Many (f' S').2 ∨ ((f' S').1 = (f S).1 ∧ Sim p t suf (f S).2 (f' S').2)
theorem thing_sim {p t : ByteArray} {suf : List UInt8} {ge ge' : Nat → BS → Re × BS} (hg : ∀ a a', Cx p t suf (ge a) (ge' a')) : CxT p t suf (thingE ge p) (thingE ge' t) := by
  intro S S' h hne hF
  cases hl : p.data.toList.drop S.at_ with
  | nil => exact absurd hl hne
  | cons c l =>
    obtain ⟨h1, h2, h3, h4⟩ := h.cons hl
    unfold thingE at hF ⊢
    rw [h1] at hF ⊢
    rw [h2]
    dsimp only [Option.getD] at hF ⊢
    split at hF
    · exact absurd hF (wrong_ne _ _ _)
    · rename_i c1
      rw [if_neg c1, if_neg c1]
      split at hF
      · rename_i c2
        rw [if_pos c2, if_pos c2]
        exact .inr ⟨rfl, h3⟩
      · rename_i c2
        rw [if_neg c2, if_neg c2]
        split at hF
        · rename_i c3
          rw [if_pos c3, if_pos c3]
          exact .inr ⟨rfl, h3⟩
        · rename_i c3
          rw [if_neg c3, if_neg c3]
          split at hF
          · rename_i c4
            rw [if_pos c4, if_pos c4]
            exact .inr ⟨rfl, h3⟩
          · rename_i c4
            rw [if_neg c4, if_neg c4]
            split at hF
            · rename_i c5
              rw [if_pos c5, if_pos c5]
              obtain ⟨g1, g2⟩ := bracket_sim h3 hF
              exact .inr ⟨by rw [g1], g2⟩
            · rename_i c5
              rw [if_neg c5, if_neg c5]
              split at hF
              · rename_i c6
                rw [if_pos c6, if_pos c6]
                exact hg _ _ _ _ h3 hF
              · rename_i c6
                rw [if_neg c6, if_neg c6]
                split at hF
                · rename_i c7
                  rw [if_pos c7, if_pos c7]
                  cases hl2 : p.data.toList.drop (skip S 1).at_ with
                  | nil =>
                    rw [(h3.end hl2).1] at hF
                    exact absurd hF (wrong_ne 3 p.size (skip S 1))
                  | cons d r =>
                    obtain ⟨k1, k2, k3, k4⟩ := h3.cons hl2
                    rw [k1, k2]
                    exact .inr ⟨rfl, k3⟩
                · rename_i c7
                  rw [if_neg c7, if_neg c7]
                  exact .inr ⟨rfl, h3⟩
theorem rep_sim {p t : ByteArray} {suf : List UInt8} {S S' : BS} (e : Re) (h : Sim p t suf S S') : (repE t e S').1 = (repE p e S).1 ∧ Sim p t suf (repE p e S).2 (repE t e S').2 := by
  unfold repE
  cases hl : p.data.toList.drop S.at_ with
  | nil =>
    obtain ⟨h1, h2, _⟩ := h.end hl
    rw [h1, h2]
    exact ⟨rfl, h⟩
  | cons c l =>
    obtain ⟨h1, h2, h3, h4⟩ := h.cons hl
    rw [h1, h2]
    dsimp only
    split
    · exact ⟨rfl, h3⟩
    · split
      · exact ⟨rfl, h3⟩
      · split
        · exact ⟨rfl, h3⟩
        · exact ⟨rfl, h⟩
theorem len_drop_lt {p : ByteArray} {k : Nat} {c : UInt8} {l : List UInt8} {k' : Nat} (h : p.data.toList.drop k = c :: l) (hk : k < k') : (p.data.toList.drop k').length < (p.data.toList.drop k).length := by
  have h1 := congrArg List.length h
  rw [List.length_drop, List.length_cons] at h1
  rw [List.length_drop, List.length_drop]
  omega
theorem rep_at (p : ByteArray) (e : Re) (S : BS) : S.at_ ≤ (repE p e S).2.at_ := by
  unfold repE
  split
  · exact Nat.le_refl _
  · split
    · exact Nat.le_succ _
    · split
      · exact Nat.le_succ _
      · split
        · exact Nat.le_succ _
        · exact Nat.le_refl _
theorem way_sim {p t : ByteArray} {suf : List UInt8} {th th' : BS → Re × BS} (ht : CxT p t suf th th') (hpos : ∀ S, S.at_ + 1 ≤ (th S).2.at_) (hs : ∀ S x, S.F = some x → (th' S).2.F = some x) : ∀ (n n' : Nat) (e : Re) (S S' : BS), Sim p t suf S S' → (p.data.toList.drop S.at_).length < n → (p.data.toList.drop S.at_).length < n' → (wayLE th p n e S).2.F = none →
    Many (wayLE th' t n' e S').2 ∨ ((wayLE th' t n' e S').1 = (wayLE th p n e S).1 ∧ Sim p t suf (wayLE th p n e S).2 (wayLE th' t n' e S').2)
  | n + 1, n' + 1, e, S, S', h, hn, hn', hF => by
    cases hl : p.data.toList.drop S.at_ with
    | nil =>
      obtain ⟨h1, h2, _⟩ := h.end hl
      rw [way_n h1, way_c h2]
      exact .inr ⟨rfl, h⟩
    | cons c l =>
      obtain ⟨h1, h2, h3, h4⟩ := h.cons hl
      rw [way_c h1] at hF ⊢
      rw [way_c h2]
      split at hF
      · rename_i c1
        rw [if_pos c1, if_pos c1]
        exact .inr ⟨rfl, h⟩
      · rename_i c1
        rw [if_neg c1, if_neg c1]
        have hF1 : (th S).2.F = none := by
          cases hx : (th S).2.F with
          | none => rfl
          | some x =>
            rw [rep_F hx, way_F hx, hx] at hF
            cases hF
        rcases ht S S' h (by rw [hl]; simp) hF1 with ⟨a, ha⟩ | ⟨g1, g2⟩
        · left
          rw [rep_F ha, way_F ha]
          exact ⟨a, ha⟩
        · obtain ⟨g3, g4⟩ := rep_sim (th S).1 g2
          rw [g1]
          rw [g3]
          have hd := len_drop_lt hl (show S.at_ < (repE p (th S).1 (th S).2).2.at_ by have := hpos S; have := rep_at p (th S).1 (th S).2; omega)
          exact way_sim ht hpos hs n n' _ _ _ g4 (by omega) (by omega) hF
theorem way_at {th : BS → Re × BS} (p : ByteArray) (hpos : ∀ S, S.at_ + 1 ≤ (th S).2.at_) : ∀ (n : Nat) (e : Re) (S : BS), S.at_ ≤ (wayLE th p n e S).2.at_
  | 0, e, S => Nat.le_refl _
  | n + 1, e, S => by
    rw [wayLE]
    split
    · exact Nat.le_refl _
    · split
      · exact Nat.le_refl _
      · have h1 := way_at p hpos n (.cat e (repE p (th S).1 (th S).2).1) (repE p (th S).1 (th S).2).2
        have h2 := hpos S
        have h3 := rep_at p (th S).1 (th S).2
        omega
theorem fuel_p (p : ByteArray) (k : Nat) : (p.data.toList.drop k).length < p.size + 1 := by
  rw [List.length_drop, Array.length_toList]; show p.data.size - _ < p.data.size + 1; omega
theorem Sim.fuel {p t : ByteArray} {suf : List UInt8} {S S' : BS} (h : Sim p t suf S S') : (p.data.toList.drop S.at_).length < t.size + 1 := by
  have := congrArg List.length h.2.2
  rw [List.length_append, List.length_cons, List.length_drop (l := t.data.toList), Array.length_toList] at this
  show _ < t.data.size + 1
  omega
theorem wayE_sim {p t : ByteArray} {suf : List UInt8} {th th' : BS → Re × BS} (ht : CxT p t suf th th') (hpos : ∀ S, S.at_ + 1 ≤ (th S).2.at_) (hs : ∀ S x, S.F = some x → (th' S).2.F = some x) : Cx p t suf (wayE th p) (wayE th' t) :=
  fun S S' h hF => way_sim ht hpos hs _ _ _ S S' h (fuel_p _ _) h.fuel hF
theorem ways_sim {p t : ByteArray} {suf : List UInt8} {th th' : BS → Re × BS} (ht : CxT p t suf th th') (hpos : ∀ S, S.at_ + 1 ≤ (th S).2.at_) (hs : ∀ S x, S.F = some x → (th' S).2.F = some x) : ∀ (n n' : Nat) (e : Re) (S S' : BS), Sim p t suf S S' → (p.data.toList.drop S.at_).length < n → (p.data.toList.drop S.at_).length < n' → (waysLE th p n e S).2.F = none →
    Many (waysLE th' t n' e S').2 ∨ ((waysLE th' t n' e S').1 = (waysLE th p n e S).1 ∧ Sim p t suf (waysLE th p n e S).2 (waysLE th' t n' e S').2)
  | n + 1, n' + 1, e, S, S', h, hn, hn', hF => by
    rw [ways_c] at hF
    rw [ways_c (th := th), ways_c (th := th')]
    cases hl : p.data.toList.drop S.at_ with
    | nil =>
      obtain ⟨h1, h2, _⟩ := h.end hl
      rw [h1, h2, if_neg (by simp), if_neg (by simp)]
      exact .inr ⟨rfl, h⟩
    | cons c l =>
      obtain ⟨h1, h2, h3, h4⟩ := h.cons hl
      rw [h1] at hF
      rw [h1, h2]
      split at hF
      · rename_i c1
        rw [if_pos c1, if_pos c1]
        have hF1 : (wayE th p (skip S 1)).2.F = none := by
          cases hx : (wayE th p (skip S 1)).2.F with
          | none => rfl
          | some x =>
            rw [ways_F hx, hx] at hF
            cases hF
        rcases wayE_sim ht hpos hs _ _ h3 hF1 with ⟨a, ha⟩ | ⟨g1, g2⟩
        · left
          rw [ways_F ha]
          exact ⟨a, ha⟩
        · rw [g1]
          have hd := len_drop_lt hl (show S.at_ < (wayE th p (skip S 1)).2.at_ from way_at p hpos _ _ (skip S 1))
          exact ways_sim ht hpos hs n n' _ _ _ g2 (by omega) (by omega) hF
      · rename_i c1
        rw [if_neg c1, if_neg c1]
        exact .inr ⟨rfl, h⟩
theorem waysF_sim {p t : ByteArray} {suf : List UInt8} {th th' : BS → Re × BS} (ht : CxT p t suf th th') (hpos : ∀ S, S.at_ + 1 ≤ (th S).2.at_) (hs : ∀ S x, S.F = some x → (th' S).2.F = some x) : Cx p t suf (waysFE th p) (waysFE th' t) := by
  intro S S' h hF
  unfold waysFE at hF ⊢
  have hF1 : (wayE th p S).2.F = none := by
    cases hx : (wayE th p S).2.F with
    | none => rfl
    | some x =>
      rw [ways_F hx, hx] at hF
      cases hF
  rcases wayE_sim ht hpos hs _ _ h hF1 with ⟨a, ha⟩ | ⟨g1, g2⟩
  · left
    rw [ways_F ha]
    exact ⟨a, ha⟩
  · rw [g1]
    exact ways_sim ht hpos hs _ _ _ _ _ g2 (fuel_p _ _) g2.fuel hF
theorem grp_sim {p t : ByteArray} {suf : List UInt8} {wys wys' : BS → Re × BS} (hw : Cx p t suf wys wys') (a a' : Nat) : Cx p t suf (grpFE wys p a) (grpFE wys' t a') := by
  intro S S' h hF
  unfold grpFE at hF ⊢
  dsimp only at hF ⊢
  by_cases hc : peekB p (wys S).2 = some 41
  · rw [if_pos hc] at hF ⊢
    have hF1 : (wys S).2.F = none := hF
    rcases hw S S' h hF1 with ⟨b, hb⟩ | ⟨g1, g2⟩
    · left
      rw [if_neg (by rw [peek_F hb]; simp), wrong_some hb]
      exact ⟨b, hb⟩
    · right
      cases hl : p.data.toList.drop (wys S).2.at_ with
      | nil => rw [peek_end hl] at hc; cases hc
      | cons c l =>
        obtain ⟨h1, h2, h3, h4⟩ := g2.cons hl
        rw [h1] at hc
        rw [h2, if_pos hc]
        exact ⟨g1, h3⟩
  · rw [if_neg hc] at hF
    exact absurd hF (wrong_ne _ _ _)
theorem brL_posE (s : ByteArray) (S : BS) : S.at_ ≤ (bracketB s S).2.at_ := (bracketB_at s S).1
theorem thing_posE {ge : Nat → BS → Re × BS} (p : ByteArray) (hg : ∀ a S, S.at_ ≤ (ge a S).2.at_) (S : BS) : S.at_ + 1 ≤ (thingE ge p S).2.at_ := by
  unfold thingE
  dsimp only
  split
  · rw [wrongB_at]; exact Nat.le_refl _
  · split
    · exact Nat.le_refl _
    · split
      · exact Nat.le_refl _
      · split
        · exact Nat.le_refl _
        · split
          · exact brL_posE p (skip S 1)
          · split
            · exact hg _ (skip S 1)
            · split
              · show S.at_ + 1 ≤ BS.at_ (ite _ _ _) + 1
                split
                · rw [wrongB_at, skip_at]; omega
                · rw [skip_at]; omega
              · exact Nat.le_refl _
theorem ways_at {th : BS → Re × BS} (p : ByteArray) (hpos : ∀ S, S.at_ + 1 ≤ (th S).2.at_) : ∀ (n : Nat) (e : Re) (S : BS), S.at_ ≤ (waysLE th p n e S).2.at_
  | 0, e, S => Nat.le_refl _
  | n + 1, e, S => by
    rw [waysLE]
    split
    · have h1 := ways_at p hpos n (.alt e (wayE th p (skip S 1)).1) (wayE th p (skip S 1)).2
      have h2 : (skip S 1).at_ ≤ (wayE th p (skip S 1)).2.at_ := way_at p hpos _ _ _
      rw [skip_at] at h2
      omega
    · exact Nat.le_refl _
theorem waysF_at {th : BS → Re × BS} (p : ByteArray) (hpos : ∀ S, S.at_ + 1 ≤ (th S).2.at_) (S : BS) : S.at_ ≤ (waysFE th p S).2.at_ :=
  Nat.le_trans (way_at p hpos _ _ S) (ways_at p hpos _ _ _)
theorem grp_at {wys : BS → Re × BS} (p : ByteArray) (hw : ∀ S, S.at_ ≤ (wys S).2.at_) (a : Nat) (S : BS) : S.at_ ≤ (grpFE wys p a S).2.at_ := by
  unfold grpFE
  show S.at_ ≤ BS.at_ (ite _ _ _) + 1
  have := hw S
  split
  · omega
  · rw [wrongB_at]; omega
theorem thE_pos (p : ByteArray) : ∀ (d : Nat) (S : BS), S.at_ + 1 ≤ (thE p d S).2.at_
  | 0, S => thing_posE (ge := fun at_ S => (.eps, wrongB 4 at_ S)) p (fun a S => by rw [wrongB_at]; exact Nat.le_refl _) S
  | d + 1, S => thing_posE (ge := grpFE (waysFE (thE p d) p) p) p (fun a S => grp_at p (waysF_at p (thE_pos p d)) a S) S
theorem thE_F (p : ByteArray) (d : Nat) (S : BS) (x : Nat × Nat) (h : S.F = some x) : (thE p d S).2.F = some x := by
  cases d with
  | zero => exact th_F (ge := fun at_ S => (.eps, wrongB 4 at_ S)) h
  | succ d => exact th_F (ge := grpFE (waysFE (thE p d) p) p) h
/-- things, d brackets more may be opened, and fewer -/
theorem thE_sim (p t : ByteArray) (suf : List UInt8) : ∀ (d' d : Nat), d' ≤ d → CxT p t suf (thE p d) (thE t d')
  | 0, 0, _ => thing_sim (ge := fun at_ S => (.eps, wrongB 4 at_ S)) (ge' := fun at_ S => (.eps, wrongB 4 at_ S)) (fun a a' S S' h hF => absurd hF (wrong_ne _ _ _))
  | 0, d + 1, _ => thing_sim (ge := grpFE (waysFE (thE p d) p) p) (ge' := fun at_ S => (.eps, wrongB 4 at_ S)) (fun a a' S S' h hF => .inl ⟨a', by show (wrongB 4 a' S').F = _; rw [wrongB, h.2.1]⟩)
  | d' + 1, d + 1, hd => thing_sim (ge := grpFE (waysFE (thE p d) p) p) (ge' := grpFE (waysFE (thE t d') t) t) (fun a a' => grp_sim (waysF_sim (thE_sim p t suf d' d (by omega)) (thE_pos p d) (thE_F t d')) a a')
/-- an expression in brackets, read -/
theorem group_read {p t : ByteArray} {suf : List UInt8} {S' : BS} (hp : faultB p = none) (hF : S'.F = none) (ht : t.data.toList.drop S'.at_ = 40 :: (p.data.toList ++ 41 :: suf)) :
    Many (thE t 16 S').2 ∨ ((thE t 16 S').1 = (readE p).1 ∧ (thE t 16 S').2.F = none ∧ t.data.toList.drop (thE t 16 S').2.at_ = suf) := by
  have hr := read_ok p
  have hn := fault_none p hp
  have h1 : (readE p).2.F = none := by rw [← hr.1]; exact hn.2.1
  have h2 : p.size ≤ (readE p).2.at_ := by rw [← hr.1]; exact hn.2.2
  show Many (thingE (grpFE (waysFE (thE t 15) t) t) t S').2 ∨ _ ∧ _
  have e0 : thE t 16 S' = grpFE (waysFE (thE t 15) t) t S'.at_ (skip S' 1) := by
    show thingE (grpFE (waysFE (thE t 15) t) t) t S' = _
    unfold thingE
    rw [peek_drop hF ht]
    dsimp only [Option.getD]
    rw [if_neg (by decide), if_neg (by decide), if_neg (by decide), if_neg (by decide), if_neg (by decide), if_pos (by decide)]
  have e1 : thingE (grpFE (waysFE (thE t 15) t) t) t S' = grpFE (waysFE (thE t 15) t) t S'.at_ (skip S' 1) := e0
  rw [e0, e1]
  have hs : Sim p t suf ⟨0, none, []⟩ (skip S' 1) := ⟨rfl, hF, by show t.data.toList.drop (S'.at_ + 1) = _; rw [(bt_drop ht).2.2]; rfl⟩
  have hw := waysF_sim (thE_sim p t suf 15 16 (by omega)) (thE_pos p 16) (thE_F t 15) _ _ hs h1
  unfold grpFE
  dsimp only
  rcases hw with ⟨b, hb⟩ | ⟨g1, g2⟩
  · left
    rw [if_neg (by rw [peek_F hb]; simp), wrong_some hb]
    exact ⟨b, hb⟩
  · right
    have he := g2.end (drop_end p _ h2)
    rw [if_pos he.2.1]
    exact ⟨g1, g2.2.1, he.2.2⟩
theorem way_stop {th : BS → Re × BS} {t : ByteArray} {n : Nat} {e : Re} {S : BS} (hF : S.F = none) (h : t.data.toList.drop S.at_ = [] ∨ ∃ r, t.data.toList.drop S.at_ = 124 :: r) : wayLE th t n e S = (e, S) := by
  cases n with
  | zero => rfl
  | succ n =>
    rw [wayLE]
    rcases h with h | ⟨r, h⟩
    · rw [peek_end h]
    · rw [peek_drop hF h]
      rfl
theorem way_one {th : BS → Re × BS} {t : ByteArray} {n : Nat} {e : Re} {S : BS} {r : List UInt8} (hF : S.F = none) (h : t.data.toList.drop S.at_ = 40 :: r) : wayLE th t (n + 1) e S = wayLE th t n (.cat e (repE t (th S).1 (th S).2).1) (repE t (th S).1 (th S).2).2 := by
  rw [wayLE, peek_drop hF h]
  rfl
theorem rep_none {t : ByteArray} {e : Re} {S : BS} (hF : S.F = none) (h : t.data.toList.drop S.at_ = [] ∨ ∃ c r, t.data.toList.drop S.at_ = c :: r ∧ (c = 124 ∨ c = 40)) : repE t e S = (e, S) := by
  unfold repE
  rcases h with h | ⟨c, r, h, rfl | rfl⟩
  · rw [peek_end h]
  · rw [peek_drop hF h]; rfl
  · rw [peek_drop hF h]; rfl
theorem many_fault {t : ByteArray} (h : Many (readE t).2) (hz : t.size ≤ 200) : ∃ a, faultB t = some (4, a) := by
  obtain ⟨a, h⟩ := h
  rw [fault_E, if_neg (by omega)]
  refine ⟨a, ?_⟩
  split
  · rw [wrong_some h, h]
  · exact h
theorem end_fault {t : ByteArray} (h1 : (readE t).2.F = none) (h2 : t.data.toList.drop (readE t).2.at_ = []) (hz : t.size ≤ 200) : faultB t = none := by
  rw [fault_E, if_neg (by omega)]
  have := congrArg List.length h2
  rw [List.length_drop, Array.length_toList, List.length_nil] at this
  have h3 : t.size ≤ (readE t).2.at_ := by show t.data.size ≤ _; omega
  rw [if_neg (by omega)]
  exact h1
/-- "(p)|(q)" -/
theorem read_alt {p q t : ByteArray} (hp : faultB p = none) (hq : faultB q = none) (hz : t.size ≤ 200) (ht : t.data.toList = 40 :: (p.data.toList ++ 41 :: 124 :: 40 :: (q.data.toList ++ [41]))) :
    (∃ a, faultB t = some (4, a)) ∨ (faultB t = none ∧ ∀ s i j, M s (readE t).1 i j ↔ M s (readE p).1 i j ∨ M s (readE q).1 i j) := by
  have ht0 : t.data.toList.drop (⟨0, none, []⟩ : BS).at_ = 40 :: (p.data.toList ++ 41 :: 124 :: 40 :: (q.data.toList ++ [41])) := ht
  have hpos : 0 < t.size := (bt_drop ht0).1
  obtain ⟨N, hN⟩ : ∃ N, t.size = N + 1 := ⟨t.size - 1, by omega⟩
  have hw0 : wayE (thE t 16) t ⟨0, none, []⟩ = wayLE (thE t 16) t (N + 1) (.cat .eps (repE t (thE t 16 ⟨0, none, []⟩).1 (thE t 16 ⟨0, none, []⟩).2).1) (repE t (thE t 16 ⟨0, none, []⟩).1 (thE t 16 ⟨0, none, []⟩).2).2 := by
    rw [wayE, hN]
    exact way_one rfl ht0
  have hr : readE t = waysLE (thE t 16) t (t.size + 1) (wayE (thE t 16) t ⟨0, none, []⟩).1 (wayE (thE t 16) t ⟨0, none, []⟩).2 := rfl
  rw [hw0] at hr
  rcases group_read (S' := ⟨0, none, []⟩) hp rfl ht0 with ⟨a, ha⟩ | ⟨g1, g2, g3⟩
  · left
    rw [rep_F ha, way_F ha, ways_F ha] at hr
    exact many_fault (by rw [hr]; exact ⟨a, ha⟩) hz
  · rw [rep_none g2 (.inr ⟨_, _, g3, .inl rfl⟩), way_stop g2 (.inr ⟨_, g3⟩), waysLE, peek_drop g2 g3, if_pos (by decide)] at hr
    obtain ⟨S1, hS1⟩ : ∃ S1, skip (thE t 16 ⟨0, none, []⟩).2 1 = S1 := ⟨_, rfl⟩
    have hF1 : S1.F = none := by rw [← hS1]; exact g2
    have hd1 : t.data.toList.drop S1.at_ = 40 :: (q.data.toList ++ 41 :: []) := by rw [← hS1]; exact (bt_drop g3).2.2
    rw [hS1] at hr
    have hw1 : wayE (thE t 16) t S1 = wayLE (thE t 16) t (N + 1) (.cat .eps (repE t (thE t 16 S1).1 (thE t 16 S1).2).1) (repE t (thE t 16 S1).1 (thE t 16 S1).2).2 := by
      rw [wayE, hN]
      exact way_one hF1 hd1
    rw [hw1] at hr
    rcases group_read hq hF1 hd1 with ⟨a, ha⟩ | ⟨k1, k2, k3⟩
    · left
      rw [rep_F ha, way_F ha, ways_F ha] at hr
      exact many_fault (by rw [hr]; exact ⟨a, ha⟩) hz
    · right
      rw [rep_none k2 (.inl k3), way_stop k2 (.inl k3)] at hr
      rw [hN, waysLE, peek_end k3, if_neg (by simp)] at hr
      dsimp only at hr
      refine ⟨end_fault (by rw [hr]; exact k2) (by rw [hr]; exact k3) hz, fun s i j => ?_⟩
      rw [hr, g1, k1]
      constructor
      · rintro (⟨x, h1, h2⟩ | ⟨x, h1, h2⟩)
        · have h1 : i = x := h1
          rw [h1]; exact .inl h2
        · have h1 : i = x := h1
          rw [h1]; exact .inr h2
      · rintro (h | h)
        · exact .inl ⟨i, rfl, h⟩
        · exact .inr ⟨i, rfl, h⟩
/-- "(p)+" -/
theorem read_plus {p t : ByteArray} (hp : faultB p = none) (hz : t.size ≤ 200) (ht : t.data.toList = 40 :: (p.data.toList ++ [41, 43])) :
    (∃ a, faultB t = some (4, a)) ∨ (faultB t = none ∧ ∀ s i j, M s (readE t).1 i j ↔ ∃ k, M s (readE p).1 i k ∧ Star (M s (readE p).1) k j) := by
  have ht0 : t.data.toList.drop (⟨0, none, []⟩ : BS).at_ = 40 :: (p.data.toList ++ 41 :: [43]) := ht
  have hpos : 0 < t.size := (bt_drop ht0).1
  obtain ⟨N, hN⟩ : ∃ N, t.size = N + 1 := ⟨t.size - 1, by omega⟩
  have hw0 : wayE (thE t 16) t ⟨0, none, []⟩ = wayLE (thE t 16) t (N + 1) (.cat .eps (repE t (thE t 16 ⟨0, none, []⟩).1 (thE t 16 ⟨0, none, []⟩).2).1) (repE t (thE t 16 ⟨0, none, []⟩).1 (thE t 16 ⟨0, none, []⟩).2).2 := by
    rw [wayE, hN]
    exact way_one rfl ht0
  have hr : readE t = waysLE (thE t 16) t (t.size + 1) (wayE (thE t 16) t ⟨0, none, []⟩).1 (wayE (thE t 16) t ⟨0, none, []⟩).2 := rfl
  rw [hw0] at hr
  rcases group_read (S' := ⟨0, none, []⟩) hp rfl ht0 with ⟨a, ha⟩ | ⟨g1, g2, g3⟩
  · left
    rw [rep_F ha, way_F ha, ways_F ha] at hr
    exact many_fault (by rw [hr]; exact ⟨a, ha⟩) hz
  · right
    have hrep : repE t (thE t 16 ⟨0, none, []⟩).1 (thE t 16 ⟨0, none, []⟩).2 = (.plus (thE t 16 ⟨0, none, []⟩).1, skip (thE t 16 ⟨0, none, []⟩).2 1) := by
      unfold repE
      rw [peek_drop g2 g3]
      rfl
    have g4 : t.data.toList.drop (skip (thE t 16 ⟨0, none, []⟩).2 1).at_ = [] := (bt_drop g3).2.2
    rw [hrep, way_stop (S := skip (thE t 16 ⟨0, none, []⟩).2 1) g2 (.inl g4), waysLE, peek_end g4, if_neg (by simp)] at hr
    refine ⟨end_fault (by rw [hr]; exact g2) (by rw [hr]; exact g4) hz, fun s i j => ?_⟩
    rw [hr, g1]
    constructor
    · rintro ⟨x, h1, h2⟩
      have h1 : i = x := h1
      rw [h1]; exact h2
    · intro h
      exact ⟨i, rfl, h⟩
/-- "(p)(p)*" -/
theorem read_star {p t : ByteArray} (hp : faultB p = none) (hz : t.size ≤ 200) (ht : t.data.toList = 40 :: (p.data.toList ++ 41 :: 40 :: (p.data.toList ++ [41, 42]))) :
    (∃ a, faultB t = some (4, a)) ∨ (faultB t = none ∧ ∀ s i j, M s (readE t).1 i j ↔ ∃ k, M s (readE p).1 i k ∧ Star (M s (readE p).1) k j) := by
  have ht0 : t.data.toList.drop (⟨0, none, []⟩ : BS).at_ = 40 :: (p.data.toList ++ 41 :: 40 :: (p.data.toList ++ [41, 42])) := ht
  have hpos : 0 < t.size := (bt_drop ht0).1
  have hpos2 : 1 < t.size := by
    have := congrArg List.length ht
    rw [Array.length_toList] at this
    simp only [List.length_cons, List.length_append] at this
    show 1 < t.data.size
    omega
  obtain ⟨N, hN⟩ : ∃ N, t.size = N + 1 + 1 := ⟨t.size - 2, by omega⟩
  have hw0 : wayE (thE t 16) t ⟨0, none, []⟩ = wayLE (thE t 16) t (N + 1 + 1) (.cat .eps (repE t (thE t 16 ⟨0, none, []⟩).1 (thE t 16 ⟨0, none, []⟩).2).1) (repE t (thE t 16 ⟨0, none, []⟩).1 (thE t 16 ⟨0, none, []⟩).2).2 := by
    rw [wayE, hN]
    exact way_one rfl ht0
  have hr : readE t = waysLE (thE t 16) t (t.size + 1) (wayE (thE t 16) t ⟨0, none, []⟩).1 (wayE (thE t 16) t ⟨0, none, []⟩).2 := rfl
  rw [hw0] at hr
  rcases group_read (S' := ⟨0, none, []⟩) hp rfl ht0 with ⟨a, ha⟩ | ⟨g1, g2, g3⟩
  · left
    rw [rep_F ha, way_F ha, ways_F ha] at hr
    exact many_fault (by rw [hr]; exact ⟨a, ha⟩) hz
  · obtain ⟨S1, hS1⟩ : ∃ S1, (thE t 16 ⟨0, none, []⟩).2 = S1 := ⟨_, rfl⟩
    rw [hS1] at g2 g3
    rw [hS1, rep_none g2 (.inr ⟨_, _, g3, .inr rfl⟩), way_one g2 g3] at hr
    rcases group_read (suf := [42]) hp g2 (by rw [g3]) with ⟨a, ha⟩ | ⟨k1, k2, k3⟩
    · left
      rw [rep_F ha, way_F ha, ways_F ha] at hr
      exact many_fault (by rw [hr]; exact ⟨a, ha⟩) hz
    · right
      have hrep : repE t (thE t 16 S1).1 (thE t 16 S1).2 = (.star (thE t 16 S1).1, skip (thE t 16 S1).2 1) := by
        unfold repE
        rw [peek_drop k2 k3]
        rfl
      have k4 : t.data.toList.drop (skip (thE t 16 S1).2 1).at_ = [] := (bt_drop k3).2.2
      rw [hrep, way_stop (S := skip (thE t 16 S1).2 1) k2 (.inl k4), waysLE, peek_end k4, if_neg (by simp)] at hr
      refine ⟨end_fault (by rw [hr]; exact k2) (by rw [hr]; exact k4) hz, fun s i j => ?_⟩
      rw [hr, g1, k1]
      constructor
      · rintro ⟨y, ⟨x, h1, h2⟩, h3⟩
        have h1 : i = x := h1
        rw [h1]; exact ⟨y, h2, h3⟩
      · rintro ⟨y, h2, h3⟩
        exact ⟨y, ⟨i, rfl, h2⟩, h3⟩
end Go.Proofs.Ytnjpdhekeffpnaa.Rx
