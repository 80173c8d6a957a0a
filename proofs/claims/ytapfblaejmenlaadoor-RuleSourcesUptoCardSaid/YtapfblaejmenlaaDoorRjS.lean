/- Joined rules: one target each, each that is not Double once; joined again they are the same. Plain. -/
import Derived.Test.YtapfblaejmenlaaDoorRjP
import Derived.Test.YtapfblaejmenlaaDoorRjW
import Derived.Test.YtapfblaejmenlaaDoorPJx17
import Derived.Test.YtapfblaejmenlaaDoorPJx20
set_option linter.unusedVariables false
namespace Go.Proofs.YtapfblaejmenlaaDoor.Rj

/-- what joined rules are -/
structure Fine (out : List Rl) : Prop where
  one_ : ∀ y ∈ out, ∃ t, y.t = [t]
  apart : out.Pairwise (fun x y => x.t = y.t → x.k = 3 ∧ y.k = 3)
theorem Fine.nil : Fine [] := ⟨(fun y h => absurd h List.not_mem_nil), List.Pairwise.nil⟩
theorem find_none {out : List Rl} {t : ByteArray} (h : find out t = none) : ∀ y ∈ out, y.t ≠ [t] := by
  unfold find at h
  rw [List.findIdx?_eq_none_iff] at h
  intro y hy
  have := h y.t (List.mem_map_of_mem hy)
  simpa using this
/-- two rules of one name -/
theorem Fine.two {out : List Rl} (h : Fine out) {i j : Nat} {x y : Rl} (hi : out[i]? = some x) (hj : out[j]? = some y) (hne : i ≠ j) (ht : x.t = y.t) : x.k = 3 ∧ y.k = 3 := by
  obtain ⟨hi1, hi2⟩ := List.getElem?_eq_some_iff.1 hi
  obtain ⟨hj1, hj2⟩ := List.getElem?_eq_some_iff.1 hj
  have hp := List.pairwise_iff_getElem.1 h.apart
  rcases Nat.lt_or_gt_of_ne hne with hlt | hlt
  · have := hp i j hi1 hj1 hlt
    rw [hi2, hj2] at this
    exact this ht
  · have := hp j i hj1 hi1 hlt
    rw [hi2, hj2] at this
    exact (this ht.symm).symm
theorem Fine.snoc {out : List Rl} (h : Fine out) {x : Rl} {t : ByteArray} (hx : x.t = [t]) (hp : ∀ y ∈ out, y.t = [t] → y.k = 3 ∧ x.k = 3) : Fine (out ++ [x]) := by
  refine ⟨fun y hy => ?_, ?_⟩
  · rcases List.mem_append.1 hy with hy | hy
    · exact h.one_ y hy
    · rw [List.mem_singleton.1 hy]; exact ⟨t, hx⟩
  · rw [List.pairwise_append]
    refine ⟨h.apart, List.pairwise_singleton _ _, fun y hy z hz e => ?_⟩
    rw [List.mem_singleton.1 hz] at e ⊢
    exact hp y hy (e.trans hx)
theorem getD_get {out : List Rl} {i : Nat} (h : i < out.length) : out[i]? = some (out.getD i Rj.nil) := by
  rw [List.getD_eq_getElem?_getD, List.getElem?_eq_getElem h]; rfl
theorem Fine.put {out o : List Rl} {r : Rl} {t : ByteArray} (h : Fine out) (hp : putJ out r t = some o) : Fine o := by
  unfold putJ at hp
  cases hf : find out t with
  | none =>
    rw [hf] at hp
    obtain rfl := Option.some.inj hp
    exact h.snoc (x := one r t) rfl (fun y hy e => absurd e (find_none hf y hy))
  | some i =>
    rw [hf] at hp
    have hil := find_lt hf
    have hit := find_is hf
    have hgi := getD_get hil
    simp only at hp
    generalize out.getD i Rj.nil = y at hp hit hgi
    by_cases k3 : r.k = 3
    · rw [if_pos k3] at hp
      by_cases yk : y.k = 3
      · rw [if_pos yk] at hp
        obtain rfl := Option.some.inj hp
        refine h.snoc (x := one r t) rfl (fun z hz e => ⟨?_, k3⟩)
        obtain ⟨j, hj⟩ := List.mem_iff_getElem?.1 hz
        by_cases hij : i = j
        · subst hij
          rw [hgi] at hj
          rw [← Option.some.inj hj]; exact yk
        · exact (h.two hgi hj hij (hit.trans e.symm)).2
      · rw [if_neg yk] at hp; cases hp
    · rw [if_neg k3] at hp
      by_cases yk : y.k = 3
      · rw [if_pos yk] at hp; cases hp
      · rw [if_neg yk] at hp
        split at hp
        · cases hp
        · obtain rfl := Option.some.inj hp
          have hmk : (mrg r y).k ≠ 3 := by
            simp only [mrg]
            split
            · decide
            · exact yk
          refine ⟨fun z hz => ?_, List.pairwise_iff_getElem.2 fun a b ha hb hab e => ?_⟩
          · rcases List.mem_or_eq_of_mem_set hz with hz | hz
            · exact h.one_ z hz
            · rw [hz]; exact ⟨t, hit⟩
          · rw [List.length_set] at ha hb
            have hga : out[a]? = some out[a] := List.getElem?_eq_getElem ha
            have hgb : out[b]? = some out[b] := List.getElem?_eq_getElem hb
            rw [List.getElem_set, List.getElem_set] at e ⊢
            by_cases hia : i = a
            · subst hia
              have hib : i ≠ b := by omega
              rw [if_pos rfl, if_neg hib] at e
              exact absurd (h.two hgi hgb hib e).1 yk
            · by_cases hib : i = b
              · subst hib
                rw [if_neg hia, if_pos rfl] at e
                exact absurd (h.two hga hgi (Ne.symm hia) e).2 yk
              · rw [if_neg hia, if_neg hib] at e ⊢
                exact h.two hga hgb (by omega) e
theorem Fine.row {r : Rl} : ∀ {ts : List ByteArray} {out o : List Rl}, Fine out → rowJ r ts out = some o → Fine o
  | [], out, o, h, e => by
    rw [rowJ] at e
    rw [← Option.some.inj e]; exact h
  | t :: ts, out, o, h, e => by
    rw [rowJ] at e
    obtain ⟨o1, h1, h2⟩ := Option.bind_eq_some_iff.1 e
    exact Fine.row (h.put h1) h2
theorem Fine.join : ∀ {l out o : List Rl}, Fine out → joinJ l out = .inl o → Fine o
  | [], out, o, h, e => by
    rw [joinJ] at e
    rw [← Sum.inl.inj e]; exact h
  | r :: rs, out, o, h, e => by
    rw [joinJ] at e
    cases hr : rowJ r r.t out with
    | none => rw [hr] at e; cases e
    | some o1 =>
      rw [hr] at e
      exact Fine.join (h.row hr) e
/-- joined again they are the same -/
theorem again : ∀ (rest acc : List Rl), Fine (acc ++ rest) → joinJ rest acc = .inl (acc ++ rest)
  | [], acc, _ => by rw [joinJ, List.append_nil]
  | r :: rest, acc, h => by
    obtain ⟨t, ht⟩ := h.one_ r (by simp)
    have e1 : one r t = r := by
      cases r; simp only at ht; subst ht; rfl
    have hput : putJ acc r t = some (acc ++ [r]) := by
      unfold putJ
      cases hf : find acc t with
      | none => simp only [e1]
      | some i =>
        have hil := find_lt hf
        have hit := find_is hf
        have hgi := getD_get hil
        simp only
        generalize acc.getD i Rj.nil = y at hit hgi
        have h2 := h.two (i := i) (j := acc.length) (x := y) (y := r) (by rw [List.getElem?_append_left hil]; exact hgi) (by simp) (by omega) (hit.trans ht.symm)
        rw [if_pos h2.2, if_pos h2.1, e1]
    rw [joinJ, ht, rowJ, hput, Option.bind_some, rowJ]
    have := again rest (acc ++ [r]) (by simpa using h)
    simpa using this
end Go.Proofs.YtapfblaejmenlaaDoor.Rj
set_option linter.unusedVariables false
set_option linter.unusedSimpArgs false
namespace Go.Proofs.YtapfblaejmenlaaDoor.Rj
open Go.RowKit Go.Proofs.YtapfblaejmenlaaDoorW.PrintWords Go.Proofs.YtapfblaejmenlaaDoorW.PrintLast Go.Proofs.YtapfblaejmenlaaDoorW.PrintMore

def toS (x : Rl) : PJ.S24 := ⟨x.t, x.k, x.s, x.c, x.a⟩
theorem K_to {w : World} {x : Rl} {cs : List Value} (h : kR.K w x cs) : PJ.k24.K w (toS x) cs := by
  obtain ⟨A0, c0, A2, c2, A3, c3, rfl, ⟨l0, l2, l3⟩, g0, g2, g3⟩ := h
  exact PJ.k24_mk w (toS x) l0 g0 l2 g2 l3 g3
theorem C_to {w : World} {A : Option Addr} {n : Nat} {l : List Rl} (h : Kd.C kR w A n l) : Kd.C PJ.k24 w A n (l.map toS) := by
  obtain ⟨h1, h2, h3⟩ := h
  refine ⟨by rw [List.length_map]; exact h1, h2, fun hn => ?_⟩
  obtain ⟨ad, e, hc⟩ := h3 hn
  refine ⟨ad, e, fun j p hj => ?_⟩
  rw [List.getElem?_map] at hj
  obtain ⟨x, hx, rfl⟩ := Option.map_eq_some_iff.1 hj
  obtain ⟨c, h4, h5, h6⟩ := hc j x hx
  exact ⟨c, h4, K_to h5, h6⟩
theorem wrap_in (z : Int) (h0 : 0 ≤ z) (h1 : z ≤ 1000000000000) : wrap64 z = z := by unfold wrap64; omega
theorem same_l (l : List ByteArray) (hl : l.length ≤ 100000000000) : ∀ (n i : Nat), i ≤ l.length → l.length - i < n → PJ.bobstayref01_Same.l0 n l l (i : Int) = some true
  | 0, i, _, h => by omega
  | n + 1, i, hi, h => by
    unfold PJ.bobstayref01_Same.l0
    by_cases hlt : i < l.length
    · rw [if_pos (by omega), if_pos (by omega), if_pos (by omega), if_pos rfl, wrap_in _ (by omega) (by omega)]
      exact same_l l hl n (i + 1) (by omega) (by omega)
    · rw [if_neg (by omega)]
theorem same_s (l : List ByteArray) (hl : l.length ≤ 100000000000) (n : Nat) (hn : l.length < n) : PJ.bobstayref01_Same.f n l l = some true := by
  unfold PJ.bobstayref01_Same.f
  rw [if_pos rfl]
  exact same_l l hl n 0 (by omega) (by omega)
theorem same_r (x : Rl) (n : Nat) (ht : x.t.length ≤ 100000000000) (hs : x.s.length ≤ 100000000000) (hc : x.c.length ≤ 100000000000) (hn : 100000000000 < n) : PJ.bobstayref13_Same.f n x.t x.k x.s x.c x.a x.t x.k x.s x.c x.a = some true := by
  unfold PJ.bobstayref13_Same.f
  rw [if_pos rfl, if_pos rfl, same_s _ ht n (by omega), Option.bind_some, if_pos rfl, same_s _ hs n (by omega), Option.bind_some, if_pos rfl, same_s _ hc n (by omega)]
  rfl
theorem rd_to (l : List Rl) (i : Nat) (h : i < l.length) : PJ.rd_T24 (l.map toS) (i : Int) = toS l[i] := by
  unfold PJ.rd_T24
  rw [List.getD_eq_getElem?_getD, Int.toNat_natCast, List.getElem?_map, List.getElem?_eq_getElem h]
  rfl
theorem all_l (l : List Rl) (hl : l.length ≤ 100000000000) (hb : ∀ x ∈ l, x.t.length ≤ 100000000000 ∧ x.s.length ≤ 100000000000 ∧ x.c.length ≤ 100000000000) : ∀ (n i : Nat), i ≤ l.length → l.length - i + 100000000001 < n → PJ.bobstayref13_All.l0 n (l.map toS) (l.map toS) (i : Int) = some true
  | 0, i, _, h => by omega
  | n + 1, i, hi, h => by
    unfold PJ.bobstayref13_All.l0
    rw [List.length_map]
    by_cases hlt : i < l.length
    · have hm := hb l[i] (List.getElem_mem hlt)
      rw [if_pos (by omega), if_pos (by omega), if_pos (by omega), rd_to l i hlt]
      have hs := same_r l[i] n hm.1 hm.2.1 hm.2.2 (by omega)
      simp only [toS]
      rw [hs, Option.bind_some, if_pos rfl, wrap_in _ (by omega) (by omega)]
      exact all_l l hl hb n (i + 1) (by omega) (by omega)
    · rw [if_neg (by omega)]
theorem allW (A A' : Option Addr) (c c' : Nat) (l : List Rl) (w : World) (h : Kd.C kR w A l.length l) (h' : Kd.C kR w A' l.length l) (hc : l.length ≤ c) (hc' : l.length ≤ c') (hl : l.length ≤ 100000000000) (hb : ∀ x ∈ l, x.t.length ≤ 100000000000 ∧ x.s.length ≤ 100000000000 ∧ x.c.length ≤ 100000000000) :
    Calls Tryd.prog 13 #[.slice A l.length c, .slice A' l.length c'] w fun e w' => e = .returned (.bool true) ∧ Below w.heap.size w w' := by
  have e : (l.map toS).length = l.length := List.length_map _
  have hf : PJ.bobstayref13_All.f (l.length + 100000000002) (l.map toS) (l.map toS) = some true := by
    unfold PJ.bobstayref13_All.f
    rw [if_pos rfl]
    exact all_l l hl hb _ 0 (by omega) (by omega)
  have := PJ.bobstayref13_All.calls (l.length + 100000000002) A c (l.map toS) A' c' (l.map toS) true w (by rw [e]; exact C_to h) (by rw [e]; exact hc) (by rw [e]; exact C_to h') (by rw [e]; exact hc') hf
  rw [e] at this
  exact this
theorem alive0 : PJ.bobstaylaw13_alive.f 40 = some true := by decide +kernel
theorem aliveW (w : World) : Calls Tryd.prog 10 #[] w fun e w' => e = .returned (.bool true) ∧ Below w.heap.size w w' := PJ.bobstaylaw13_alive.calls 40 true w alive0

/-- how many targets the rules have -/
def nT (l : List Rl) : Nat := (l.map fun r => min r.t.length 1000).sum
theorem far_l (l y : List Rl) (hy : y.length ≤ 200) : ∀ (n i s : Nat), i ≤ y.length → y.length - i < n → s ≤ i * 1000 → PJ.bobstaylaw13_far.l0 n (l.map toS) (s : Int) (y.map toS) (y.length : Int) (i : Int) = some (decide (100 < l.length ∨ 300 < s + nT (y.drop i)))
  | 0, i, s, _, h, _ => by omega
  | n + 1, i, s, hi, h, hs => by
    unfold PJ.bobstaylaw13_far.l0
    rw [List.length_map, List.length_map]
    by_cases hlt : i < y.length
    · rw [if_pos (by omega), if_pos (by omega), if_pos (by omega), rd_to y i hlt]
      have hm : mn ((toS y[i]).f0.length : Int) 1000 = ((min y[i].t.length 1000 : Nat) : Int) := by
        simp only [toS]
        unfold mn
        split <;> omega
      rw [hm, wrap_in _ (by omega) (by omega), wrap_in _ (by omega) (by omega)]
      have := far_l l y hy n (i + 1) (s + min y[i].t.length 1000) (by omega) (by omega) (by omega)
      rw [List.drop_eq_getElem_cons hlt]
      simp only [nT, List.map_cons, List.sum_cons] at this ⊢
      push_cast at this ⊢
      rw [this]
      simp only [Nat.add_assoc]
    · rw [if_neg (by omega), List.drop_of_length_le (by omega)]
      simp only [nT, List.map_nil, List.sum_nil, Nat.add_zero]
      by_cases h1 : 100 < l.length
      · rw [if_pos (by omega)]; simp [h1]
      · rw [if_neg (by omega)]
        congr 1
        rw [Bool.eq_iff_iff]
        simp only [decide_eq_true_eq]
        omega
def farB (l : List Rl) : Bool := decide (100 < l.length ∨ 300 < nT (l.take 200))
theorem farW (A : Option Addr) (c : Nat) (l : List Rl) (w : World) (h : Kd.C kR w A l.length l) (hc : l.length ≤ c) :
    Calls Tryd.prog 11 #[.slice A l.length c] w fun e w' => e = .returned (.bool (farB l)) ∧ Below w.heap.size w w' := by
  have e : (l.map toS).length = l.length := List.length_map _
  have hf : PJ.bobstaylaw13_far.f 300 (l.map toS) = some (farB l) := by
    unfold PJ.bobstaylaw13_far.f
    rw [e]
    have hm : mn (l.length : Int) 200 = ((min l.length 200 : Nat) : Int) := by
      unfold mn
      split <;> omega
    rw [hm, if_pos (by omega), if_pos (by omega), Option.bind_some, Int.toNat_natCast, ← List.map_take, show l.take (min l.length 200) = l.take 200 by
      rcases Nat.le_total l.length 200 with h2 | h2
      · rw [Nat.min_eq_left h2, List.take_length, List.take_of_length_le h2]
      · rw [Nat.min_eq_right h2]]
    have h3 : (l.take 200).length ≤ 200 := by rw [List.length_take]; omega
    have := far_l l (l.take 200) h3 300 0 0 (by omega) (by omega) (by omega)
    rw [List.length_map]
    simpa [farB] using this
  have := PJ.bobstaylaw13_far.calls 300 A c (l.map toS) (farB l) w (by rw [e]; exact C_to h) (by rw [e]; exact hc) hf
  rw [e] at this
  exact this
end Go.Proofs.YtapfblaejmenlaaDoor.Rj
