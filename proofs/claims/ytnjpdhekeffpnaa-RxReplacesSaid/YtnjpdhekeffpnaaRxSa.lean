/- Where parts of an expression may end: rows of places, walked. -/
import Derived.Test.YtnjpdhekeffpnaaRxRh
set_option linter.unusedVariables false
set_option linter.unusedSimpArgs false
namespace Go.Proofs.Ytnjpdhekeffpnaa.Rx
open Go.RowKit Go.Proofs.YtnjpdhekeffpnaaW.PrintWords Go.Proofs.YtnjpdhekeffpnaaW.PrintLast Go.Proofs.YtnjpdhekeffpnaaW.PrintMore

def bothL (a b : List Bool) : List Bool := List.zipWith (· || ·) a b
theorem bothL_len (a b : List Bool) (h : a.length = b.length) : (bothL a b).length = a.length := by simp [bothL, h]
theorem bothL_get (a b : List Bool) (h : a.length = b.length) (i : Nat) : (bothL a b).getD i false = (a.getD i false || b.getD i false) := by
  unfold bothL
  rw [List.getD_eq_getElem?_getD, List.getD_eq_getElem?_getD, List.getD_eq_getElem?_getD, List.getElem?_zipWith]
  by_cases hi : i < a.length
  · rw [List.getElem?_eq_getElem hi, List.getElem?_eq_getElem (by omega)]
    rfl
  · rw [List.getElem?_eq_none (by omega), List.getElem?_eq_none (by omega)]
    rfl
/-- the first z places are a's, the others are none -/
def bothH (a b : List Bool) (z : Nat) : List Bool := (bothL a b).take z ++ List.replicate (a.length - z) false
theorem bothH_len (a b : List Bool) (h : a.length = b.length) (z : Nat) (hz : z ≤ a.length) : (bothH a b z).length = a.length := by
  simp [bothH, bothL_len a b h]; omega
theorem bothH_set (a b : List Bool) (h : a.length = b.length) (z : Nat) (hz : z < a.length) : (bothH a b z).set z (a.getD z false || b.getD z false) = bothH a b (z + 1) := by
  have hl := bothL_len a b h
  have e0 : (a.getD z false || b.getD z false) = (bothL a b)[z]'(by omega) := by
    rw [← bothL_get a b h z, List.getD_eq_getElem?_getD, List.getElem?_eq_getElem (by omega)]; rfl
  rw [e0]
  have e : ∀ (k : Nat) (hk : k ≤ a.length) (i : Nat) (hj : i < (bothH a b k).length), (bothH a b k)[i]'hj = if i < k then (bothL a b).getD i false else false := by
    intro k hk i hj
    have hi : i < a.length := by rw [bothH_len a b h k hk] at hj; exact hj
    simp only [bothH]
    by_cases hik : i < k
    · rw [if_pos hik, List.getElem_append_left (by simp; omega), List.getElem_take, List.getD_eq_getElem?_getD, List.getElem?_eq_getElem (by omega)]
      rfl
    · rw [if_neg hik, List.getElem_append_right (by simp; omega)]
      simp
  apply List.ext_getElem
  · rw [List.length_set, bothH_len a b h z (by omega), bothH_len a b h (z + 1) (by omega)]
  · intro i h1 h2
    rw [List.length_set, bothH_len a b h z (by omega)] at h1
    rw [List.getElem_set, e z (by omega) i (by rw [bothH_len a b h z (by omega)]; exact h1), e (z + 1) (by omega) i h2]
    by_cases hi : z = i
    · subst hi
      rw [if_pos rfl, if_pos (by omega), List.getD_eq_getElem?_getD, List.getElem?_eq_getElem (by omega)]
      rfl
    · rw [if_neg hi]
      by_cases hlt : i < z
      · rw [if_pos hlt, if_pos (by omega)]
      · rw [if_neg hlt, if_neg (by omega)]
theorem bothH_end (a b : List Bool) (h : a.length = b.length) : bothH a b a.length = bothL a b := by
  unfold bothH
  rw [List.take_of_length_le (by rw [bothL_len a b h]; exact Nat.le_refl _), Nat.sub_self]
  simp
theorem BoolAt.below {w w' : World} {base g c : Nat} {m : List Bool} (h : BoolAt w base g c m) (hb : Below w.heap.size w w') : BoolAt w' base g c m := Kd.R_below h hb
theorem BoolAt.lt {w : World} {base g c : Nat} {m : List Bool} (h : BoolAt w base g c m) : g < w.heap.size := by
  obtain ⟨cs, hc⟩ := h.blk
  exact blk_lt hc
set_option maxHeartbeats 8000000 in
set_option maxRecDepth 100000 in
theorem bothW (w : World) (ga ca gb cb : Nat) (a b : List Bool) (ha : BoolAt w 0 ga ca a) (hb : BoolAt w 0 gb cb b) (hab : a.length = b.length) (hn : 0 < a.length) (hN : a.length ≤ 1000000) :
    Calls Try.prog 46 #[.slice (some ⟨ga, 0, none⟩) a.length ca, .slice (some ⟨gb, 0, none⟩) b.length cb] w fun e w' => ∃ g c, e = .returned (.slice (some ⟨g, 0, none⟩) a.length c) ∧ BoolAt w' 0 g c (bothL a b) ∧ Below w.heap.size w w' := by
  have HA := Aside0.mk (⟨ha, hb, hab⟩ : BoolAt w 0 ga ca a ∧ BoolAt w 0 gb cb b ∧ a.length = b.length)
  rw [← hab]
  obtain ⟨n, hnn⟩ : ∃ n : Nat, a.length = n := ⟨_, rfl⟩
  rw [hnn] at hn hN ⊢
  have HN := Aside0.mk hnn
  clear ha hb hab hnn
  go_enter Try.func46, Try.ntmps46
  go_wp2_with (first | ((with_reducible refine gate_dst (N := 9) rfl ?_); refine Kd.R_make Kd.bool (w0 := w) 0 TO rfl (N := 9) rfl 29 _ _ rfl ((n : Int)) rfl rfl Try.underlying29 (.bool false) 1 infoO rfl (by decide) (by decide) false (ok := fun _ => True) (okp := fun _ => True) rfl (fun _ _ => trivial) trivial ?m0 ?mL (Below.refl _ _) (Nat.zero_le _) ?_; (case m0 => omega); (case mL => omega); intro v9 w9 hR9 hB9 hg9 hat9; obtain ⟨g, c, e9, -⟩ := Kd.R_form hR9 (by rw [List.length_replicate]; omega); rw [List.length_replicate] at e9; subst e9; have hl9 := grown_below hg9) | fail)
  have HG := Aside0.mk (show w.heap.size ≤ g by obtain ⟨b9, h9, h10⟩ := hat9; simp [Value.ownBlock] at h9; omega)
  have hM : BoolAt w9 0 g c (bothH a b 0) := by
    have h0 : bothH a b 0 = List.replicate n false := by rw [bothH, HN.out]; simp
    unfold BoolAt
    rw [h0, List.length_replicate]
    exact hR9
  have HM9 := Aside0.mk hM
  have HL9 := Aside0.mk hl9
  clear hR9 hB9 hg9 hat9 hl9 hM
  go_loopg [6] (n + 1) (fun kq v6 wr => ∃ z : Int, v6 = .int .i64 z ∧ Aside0 (0 ≤ z ∧ z ≤ (n : Int) ∧ z + kq = (n : Int) + 1) ∧ Aside0 (BoolAt wr 0 g c (bothH a b z.toNat)) ∧ Aside0 (Below w.heap.size w wr))
  case atStart => exact ⟨0, rfl, ⟨by omega, by omega, by omega⟩, HM9, HL9⟩
  case round =>
    clear HM9 HL9
    obtain ⟨z, rfl, HI, HM, HW⟩ := hrel
    have d1 : 0 ≤ z := HI.out.1
    by_cases hz : z < (n : Int)
    · have d0 : decide (z < (n : Int)) = true := decide_eq_true hz
      obtain ⟨ko, rfl⟩ : ∃ ko, gk = ko + 1 := ⟨gk - 1, by have := HI.out; omega⟩
      have hal := HN.out
      have hbl := HA.out.2.2
      have ca' := ((HA.out.1.below HW.out).at z.toNat (by omega))
      have cb' := ((HA.out.2.1.below HW.out).at z.toNat (by omega))
      have hln := bothH_len a b HA.out.2.2 z.toNat (by omega)
      have cz := HM.out.at z.toNat (by omega)
      have fz := HM.out.frozen z.toNat
      have hst := bothH_set a b HA.out.2.2 z.toNat (by omega)
      obtain ⟨xa, hxa⟩ : ∃ x, a.getD z.toNat false = x := ⟨_, rfl⟩
      obtain ⟨xb, hxb⟩ : ∃ x, b.getD z.toNat false = x := ⟨_, rfl⟩
      rw [hxa] at ca' hst
      rw [hxb] at cb' hst
      have HST := Aside0.mk hst
      have dn : z + 1 < 9223372036854775808 := by omega
      clear hxa hxb hst hln hal hbl
      cases xa
      · go_wp2_with (fail)
        go_roundg ko
        case measure => have := HI.out; omega
        case rel =>
          refine ⟨z + 1, rfl, ⟨by omega, by omega, by have := HI.out; omega⟩, ⟨?_⟩, ⟨HW.out.setCell (p := ⟨g, z.toNat, none⟩) HG.out _⟩⟩
          rw [show (z + 1).toNat = z.toNat + 1 by omega, ← HST.out, Bool.false_or]
          exact HM.out.set z.toNat xb
      · go_wp2_with (fail)
        go_roundg ko
        case measure => have := HI.out; omega
        case rel =>
          refine ⟨z + 1, rfl, ⟨by omega, by omega, by have := HI.out; omega⟩, ⟨?_⟩, ⟨HW.out.setCell (p := ⟨g, z.toNat, none⟩) HG.out _⟩⟩
          rw [show (z + 1).toNat = z.toNat + 1 by omega, ← HST.out, Bool.true_or]
          exact HM.out.set z.toNat true
    · have d0 : decide (z < (n : Int)) = false := decide_eq_false hz
      have HM2 := HM.out
      rw [show z.toNat = a.length by have := HI.out; have := HN.out; omega, bothH_end a b HA.out.2.2] at HM2
      have HM3 := Aside0.mk HM2
      clear HM2 hz
      go_wp2_with (fail)
      go_ret
      exact ⟨g, c, rfl, HM3.out, HW.out⟩
/-- the place i alone -/
def fromL (n i : Nat) : List Bool := (List.replicate n false).set i true
theorem fromL_len (n i : Nat) : (fromL n i).length = n := by simp [fromL]
theorem fromL_get (n i j : Nat) (h : i < n) : (fromL n i).getD j false = true ↔ j = i := by
  unfold fromL
  rw [List.getD_eq_getElem?_getD, List.getElem?_set]
  by_cases hij : i = j
  · subst hij; simp [h]
  · rw [if_neg hij, List.getElem?_replicate]
    split <;> simp <;> omega
set_option maxHeartbeats 8000000 in
set_option maxRecDepth 100000 in
theorem fromW (w : World) (s : ByteArray) (i : Int) (h0 : 0 ≤ i) (hi : i ≤ (s.size : Int)) (hs : s.size ≤ 1000000) :
    Calls Try.prog 31 #[.string s, .int .i64 i] w fun e w' => ∃ g c, e = .returned (.slice (some ⟨g, 0, none⟩) (s.size + 1) c) ∧ BoolAt w' 0 g c (fromL (s.size + 1) i.toNat) ∧ Below w.heap.size w w' := by
  obtain ⟨n, hn⟩ : ∃ n : Nat, s.size = n := ⟨_, rfl⟩
  have e1 : (s.size : Int) = (n : Int) := by rw [hn]
  rw [hn] at hi hs ⊢
  have hnn : ((n + 1 : Nat) : Int) = (n : Int) + 1 := by omega
  go_enter Try.func31, Try.ntmps31
  go_wp2_with (first | (((with_reducible refine gate_dst (N := 9) rfl ?_); refine Kd.R_make Kd.bool (w0 := w) 0 TO rfl (N := 9) rfl 29 _ _ rfl ((n : Int) + 1) rfl rfl Try.underlying29 (.bool false) 1 infoO rfl (by decide) (by decide) false (ok := fun _ => True) (okp := fun _ => True) rfl (fun _ _ => trivial) trivial ?m0 ?mL (Below.refl _ _) (Nat.zero_le _) ?_; (case m0 => omega); (case mL => omega); intro v9 w9 hR9 hB9 hg9 hat9; obtain ⟨g, c, e9, -⟩ := Kd.R_form hR9 (by rw [List.length_replicate]; omega); rw [List.length_replicate] at e9; subst e9; have hl9 := grown_below hg9); rw [show ((n : Int) + 1).toNat = n + 1 by omega] at hR9; have hM : BoolAt w9 0 g c (List.replicate (n + 1) false) := (by unfold BoolAt; rw [List.length_replicate]; exact hR9); have cz := hM.at i.toNat (by rw [List.length_replicate]; omega); have fz := hM.frozen i.toNat) | fail)
  have hgw : w.heap.size ≤ g := by obtain ⟨b9, h9, h10⟩ := hat9; simp [Value.ownBlock] at h9; omega
  go_ret
  exact ⟨g, c, rfl, hM.set i.toNat true, hl9.setCell (p := ⟨g, i.toNat, none⟩) hgw _⟩
/-! ### what places a part leads to -/
def OutS (s : ByteArray) (e : Re) (a out : List Bool) : Prop := out.length = s.size + 1 ∧ ∀ j, j ≤ s.size → (out.getD j false = true ↔ ∃ i, i ≤ s.size ∧ a.getD i false = true ∧ M s e i j)
theorem OutS.eps (s : ByteArray) (a : List Bool) (ha : a.length = s.size + 1) : OutS s .eps a a :=
  ⟨ha, fun j hj => ⟨fun h => ⟨j, hj, h, rfl⟩, fun ⟨i, _, h, h2⟩ => by have h2 : i = j := h2; rw [← h2]; exact h⟩⟩
theorem OutS.cat {s : ByteArray} {e f : Re} {a b c : List Bool} (h : OutS s e a b) (g : OutS s f b c) : OutS s (.cat e f) a c :=
  ⟨g.1, fun j hj => by
    rw [g.2 j hj]
    constructor
    · rintro ⟨k, hk, h1, h2⟩
      obtain ⟨i, hi, h3, h4⟩ := (h.2 k hk).1 h1
      exact ⟨i, hi, h3, k, h4, h2⟩
    · rintro ⟨i, hi, h3, k, h4, h2⟩
      have hk := M_hi s e i k h4 hi
      exact ⟨k, hk, (h.2 k hk).2 ⟨i, hi, h3, h4⟩, h2⟩⟩
theorem OutS.or {s : ByteArray} {e f g : Re} {a b c : List Bool} (h : OutS s e a b) (h2 : OutS s f a c) (hg : ∀ i j, M s g i j ↔ M s e i j ∨ M s f i j) : OutS s g a (bothL b c) :=
  ⟨by rw [bothL_len b c (h.1.trans h2.1.symm)]; exact h.1, fun j hj => by
    rw [bothL_get b c (h.1.trans h2.1.symm), Bool.or_eq_true, h.2 j hj, h2.2 j hj]
    constructor
    · rintro (⟨i, h3, h4, h5⟩ | ⟨i, h3, h4, h5⟩)
      · exact ⟨i, h3, h4, (hg i j).2 (.inl h5)⟩
      · exact ⟨i, h3, h4, (hg i j).2 (.inr h5)⟩
    · rintro ⟨i, h3, h4, h5⟩
      rcases (hg i j).1 h5 with h5 | h5
      · exact .inl ⟨i, h3, h4, h5⟩
      · exact .inr ⟨i, h3, h4, h5⟩⟩
/-- at most k times -/
def StLe (R : Nat → Nat → Prop) : Nat → Nat → Nat → Prop
  | 0, i, j => i = j
  | k + 1, i, j => StLe R k i j ∨ ∃ m, StLe R k i m ∧ R m j
theorem StLe.star {R : Nat → Nat → Prop} : ∀ (k : Nat) {i j : Nat}, StLe R k i j → Star R i j
  | 0, i, j, h => by have h : i = j := h; rw [h]; exact .nil j
  | k + 1, i, j, h => by
    rcases h with h | ⟨m, h1, h2⟩
    · exact StLe.star k h
    · exact (StLe.star k h1).trans (Star.one h2)
theorem StLe.mono {R : Nat → Nat → Prop} {k l i j : Nat} (h : StLe R k i j) (hk : k ≤ l) : StLe R l i j := by
  induction hk with
  | refl => exact h
  | step _ ih => exact .inl ih
theorem StLe.front {R : Nat → Nat → Prop} {i m : Nat} (h : R i m) : ∀ (k : Nat) {j : Nat}, StLe R k m j → StLe R (k + 1) i j
  | 0, j, g => by have g : m = j := g; rw [← g]; exact .inr ⟨i, StLe.mono (k := 0) rfl (Nat.zero_le _), h⟩
  | k + 1, j, g => by
    rcases g with g | ⟨q, g1, g2⟩
    · exact .inl (StLe.front h k g)
    · exact .inr ⟨q, StLe.front h k g1, g2⟩
theorem Star.few {R : Nat → Nat → Prop} (hR : ∀ i j, R i j → i ≤ j) {i j : Nat} (h : Star R i j) : StLe R (j - i) i j := by
  induction h with
  | nil i => exact StLe.mono (k := 0) rfl (Nat.zero_le _)
  | @cons i m j h1 h2 ih =>
    have g1 := hR _ _ h1
    have g2 := Star.le hR h2
    by_cases he : i = m
    · rw [he]; exact ih
    · exact StLe.mono (StLe.front h1 _ ih) (by omega)
/-- at most k times, from places a on -/
def OutK (s : ByteArray) (e : Re) (k : Nat) (a out : List Bool) : Prop := out.length = s.size + 1 ∧ ∀ j, j ≤ s.size → (out.getD j false = true ↔ ∃ i, i ≤ s.size ∧ a.getD i false = true ∧ StLe (M s e) k i j)
theorem OutK.zero (s : ByteArray) (e : Re) (a : List Bool) (ha : a.length = s.size + 1) : OutK s e 0 a a :=
  ⟨ha, fun j hj => ⟨fun h => ⟨j, hj, h, rfl⟩, fun ⟨i, _, h, h2⟩ => by have h2 : i = j := h2; rw [← h2]; exact h⟩⟩
theorem OutK.succ {s : ByteArray} {e : Re} {k : Nat} {a b c : List Bool} (h : OutK s e k a b) (g : OutS s e b c) : OutK s e (k + 1) a (bothL b c) :=
  ⟨by rw [bothL_len b c (h.1.trans g.1.symm)]; exact h.1, fun j hj => by
    rw [bothL_get b c (h.1.trans g.1.symm), Bool.or_eq_true, h.2 j hj, g.2 j hj]
    constructor
    · rintro (⟨i, h3, h4, h5⟩ | ⟨m, h3, h4, h5⟩)
      · exact ⟨i, h3, h4, .inl h5⟩
      · obtain ⟨i, h6, h7, h8⟩ := (h.2 m h3).1 h4
        exact ⟨i, h6, h7, .inr ⟨m, h8, h5⟩⟩
    · rintro ⟨i, h3, h4, h5 | ⟨m, h5, h6⟩⟩
      · exact .inl ⟨i, h3, h4, h5⟩
      · have hm : m ≤ s.size := Star.hi (M_hi s e) (StLe.star k h5) h3
        exact .inr ⟨m, hm, (h.2 m hm).2 ⟨i, h3, h4, h5⟩, h6⟩⟩
theorem OutK.star {s : ByteArray} {e : Re} {k : Nat} {a b : List Bool} (h : OutK s e k a b) (hk : s.size ≤ k) : OutS s (.star e) a b :=
  ⟨h.1, fun j hj => by
    rw [h.2 j hj]
    constructor
    · rintro ⟨i, h3, h4, h5⟩
      exact ⟨i, h3, h4, StLe.star k h5⟩
    · rintro ⟨i, h3, h4, h5⟩
      exact ⟨i, h3, h4, StLe.mono (Star.few (M_le s e) h5) (by omega)⟩⟩
theorem OutS.plus {s : ByteArray} {e : Re} {a b c : List Bool} (h : OutS s e a b) (g : OutS s (.star e) b c) : OutS s (.plus e) a c := OutS.cat h g
theorem OutS.opt {s : ByteArray} {e : Re} {a b : List Bool} (ha : a.length = s.size + 1) (h : OutS s e a b) : OutS s (.opt e) a (bothL a b) := OutS.or (OutS.eps s a ha) h (fun i j => Iff.rfl)
/-! ### a row of parts -/
theorem RC.list {l : List Nd} {e : Re} (h : RC l e) : ∃ es : List Re, es.length = l.length ∧ e = es.foldl .cat .eps ∧ ∀ (j : Nat) (h1 : j < l.length) (h2 : j < es.length), RT l[j] es[j] := by
  match h with
  | .nil => exact ⟨[], rfl, rfl, fun j h1 => absurd h1 (Nat.not_lt_zero _)⟩
  | .snoc (l := l) (e := e) (n := n) (f := f) h1 h2 =>
    obtain ⟨es, g1, g2, g3⟩ := RC.list h1
    refine ⟨es ++ [f], by simp [g1], by rw [List.foldl_append, ← g2]; rfl, fun j hj hj2 => ?_⟩
    by_cases hjl : j < l.length
    · rw [List.getElem_append_left hjl, List.getElem_append_left (by omega)]
      exact g3 j hjl (by omega)
    · have : j = l.length := by simp at hj; omega
      subst this
      simp [g1]
      exact h2
theorem RA.list {l : List Nd} {e : Re} (h : RA l e) : ∃ es : List Re, es.length = l.length ∧ (∀ s i j, M s e i j ↔ ∃ x ∈ es, M s x i j) ∧ ∀ (j : Nat) (h1 : j < l.length) (h2 : j < es.length), RT l[j] es[j] := by
  match h with
  | .one (n := n) (e := e) h1 =>
    refine ⟨[e], rfl, fun s i j => by simp, fun j hj hj2 => ?_⟩
    have : j = 0 := by simp at hj; omega
    subst this
    exact h1
  | .snoc (l := l) (e := e) (n := n) (f := f) h1 h2 =>
    obtain ⟨es, g1, g2, g3⟩ := RA.list h1
    refine ⟨es ++ [f], by simp [g1], fun s i j => ?_, fun j hj hj2 => ?_⟩
    · show M s e i j ∨ M s f i j ↔ _
      rw [g2 s i j]
      simp only [List.mem_append, List.mem_singleton]
      constructor
      · rintro (⟨x, hx, h⟩ | h)
        · exact ⟨x, .inl hx, h⟩
        · exact ⟨f, .inr rfl, h⟩
      · rintro ⟨x, hx | rfl, h⟩
        · exact .inl ⟨x, hx, h⟩
        · exact .inr h
    · by_cases hjl : j < l.length
      · rw [List.getElem_append_left hjl, List.getElem_append_left (by omega)]
        exact g3 j hjl (by omega)
      · have : j = l.length := by simp at hj; omega
        subst this
        simp [g1]
        exact h2
/-- of some ways, the first j -/
def OutA (s : ByteArray) (es : List Re) (a out : List Bool) : Prop := out.length = s.size + 1 ∧ ∀ j, j ≤ s.size → (out.getD j false = true ↔ ∃ i, i ≤ s.size ∧ a.getD i false = true ∧ ∃ x ∈ es, M s x i j)
theorem OutA.none (s : ByteArray) (a : List Bool) : OutA s [] a (List.replicate (s.size + 1) false) := by
  refine ⟨by simp, fun j hj => ?_⟩
  simp [List.getD_eq_getElem?_getD, List.getElem?_replicate]
  split <;> simp
theorem OutA.snoc {s : ByteArray} {es : List Re} {x : Re} {a b c : List Bool} (h : OutA s es a b) (g : OutS s x a c) : OutA s (es ++ [x]) a (bothL b c) :=
  ⟨by rw [bothL_len b c (h.1.trans g.1.symm)]; exact h.1, fun j hj => by
    rw [bothL_get b c (h.1.trans g.1.symm), Bool.or_eq_true, h.2 j hj, g.2 j hj]
    constructor
    · rintro (⟨i, h3, h4, y, hy, h5⟩ | ⟨i, h3, h4, h5⟩)
      · exact ⟨i, h3, h4, y, List.mem_append_left _ hy, h5⟩
      · exact ⟨i, h3, h4, x, by simp, h5⟩
    · rintro ⟨i, h3, h4, y, hy, h5⟩
      rcases List.mem_append.1 hy with hy | hy
      · exact .inl ⟨i, h3, h4, y, hy, h5⟩
      · have : y = x := by simpa using hy
        subst this
        exact .inr ⟨i, h3, h4, h5⟩⟩
theorem OutA.whole {s : ByteArray} {es : List Re} {e : Re} {a b : List Bool} (h : OutA s es a b) (he : ∀ s i j, M s e i j ↔ ∃ x ∈ es, M s x i j) : OutS s e a b :=
  ⟨h.1, fun j hj => by rw [h.2 j hj]; exact ⟨fun ⟨i, h1, h2, h3⟩ => ⟨i, h1, h2, (he s i j).2 h3⟩, fun ⟨i, h1, h2, h3⟩ => ⟨i, h1, h2, (he s i j).1 h3⟩⟩⟩
end Go.Proofs.Ytnjpdhekeffpnaa.Rx
