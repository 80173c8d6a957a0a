/- RuleSources: each name has all sources (and commands) of its rules, in order: plain, then the law's walk. -/
import Derived.Test.YtapfblaejmenlaaDoorRjO
import Derived.Test.YtapfblaejmenlaaDoorRjR
set_option linter.unusedVariables false
set_option linter.unusedSimpArgs false
namespace Go.Proofs.YtapfblaejmenlaaDoor.Rj
open Go.RowKit Go.Proofs.YtapfblaejmenlaaDoorW.PrintWords Go.Proofs.YtapfblaejmenlaaDoorW.PrintLast Go.Proofs.YtapfblaejmenlaaDoorW.PrintMore

/-- what a rule has for a name, by p (sources, commands) -/
def rowOf (p : Rl → List ByteArray) (r : Rl) (ts : List ByteArray) (u : ByteArray) : List ByteArray := (ts.filter fun s => decide (s = u)).flatMap fun _ => p r
/-- what the rules of a name have -/
def allOf (p : Rl → List ByteArray) (l : List Rl) (u : ByteArray) : List ByteArray := l.flatMap fun y => rowOf p y y.t u
theorem allOf_append (p : Rl → List ByteArray) (a b : List Rl) (u : ByteArray) : allOf p (a ++ b) u = allOf p a u ++ allOf p b u := by
  simp [allOf]
theorem allOf_cons (p : Rl → List ByteArray) (a : Rl) (b : List Rl) (u : ByteArray) : allOf p (a :: b) u = rowOf p a a.t u ++ allOf p b u := by
  simp [allOf]
theorem rowOf_one (p : Rl → List ByteArray) (x : Rl) (s u : ByteArray) : rowOf p x [s] u = if s = u then p x else [] := by
  by_cases h : s = u <;> simp [rowOf, h]
theorem rowOf_append (p : Rl → List ByteArray) (x : Rl) (a b : List ByteArray) (u : ByteArray) : rowOf p x (a ++ b) u = rowOf p x a u ++ rowOf p x b u := by
  simp [rowOf]
theorem allOf_none (p : Rl → List ByteArray) (l : List Rl) (u : ByteArray) (h : ∀ y ∈ l, ∀ s ∈ y.t, s ≠ u) : allOf p l u = [] := by
  unfold allOf
  rw [List.flatMap_eq_nil_iff]
  intro y hy
  have h2 : y.t.filter (fun s => decide (s = u)) = [] := by
    rw [List.filter_eq_nil_iff]
    intro s hs
    simpa using h y hy s hs
  rw [rowOf, h2]; rfl
theorem all_put (p : Rl → List ByteArray) (h1 : ∀ r t, p (one r t) = p r) (h2 : ∀ r y, p (mrg r y) = p y ++ p r) {out o : List Rl} {r : Rl} {t : ByteArray} (h : Fine out) (hp : putJ out r t = some o) (u : ByteArray) :
    allOf p o u = allOf p out u ++ rowOf p r [t] u := by
  have hap : allOf p (out ++ [one r t]) u = allOf p out u ++ rowOf p r [t] u := by
    rw [allOf_append, allOf_cons, show (one r t).t = [t] from rfl, rowOf_one, rowOf_one, h1]
    simp [allOf]
  unfold putJ at hp
  cases hf : find out t with
  | none =>
    rw [hf] at hp
    obtain rfl := Option.some.inj hp
    exact hap
  | some i =>
    rw [hf] at hp
    have hil := find_lt hf
    have hit := find_is hf
    have hgi := getD_get hil
    simp only at hp
    generalize out.getD i Rj.nil = y at hp hit hgi
    by_cases k3 : r.k = 3
    · rw [if_pos k3] at hp
      by_cases yk : y.k = 3
      · rw [if_pos yk] at hp
        obtain rfl := Option.some.inj hp
        exact hap
      · rw [if_neg yk] at hp; cases hp
    · rw [if_neg k3] at hp
      by_cases yk : y.k = 3
      · rw [if_pos yk] at hp; cases hp
      · rw [if_neg yk] at hp
        split at hp
        · cases hp
        · obtain rfl := Option.some.inj hp
          have hy : out[i] = y := by
            rw [List.getElem?_eq_getElem hil] at hgi
            exact Option.some.inj hgi
          have e1 : out = out.take i ++ y :: out.drop (i + 1) := by
            rw [← hy, ← List.drop_eq_getElem_cons hil, List.take_append_drop]
          have e2 : out.set i (mrg r y) = out.take i ++ mrg r y :: out.drop (i + 1) := List.set_eq_take_append_cons_drop.trans (if_pos hil)
          have hno : allOf p (out.drop (i + 1)) t = [] := by
            refine allOf_none p _ t fun z hz s hs e => ?_
            obtain ⟨j, hj⟩ := List.mem_iff_getElem?.1 hz
            rw [List.getElem?_drop] at hj
            obtain ⟨s', hs'⟩ := h.one_ z (List.mem_of_getElem? hj)
            rw [hs', List.mem_singleton] at hs
            subst hs
            subst e
            exact yk (h.two hgi hj (by omega) (hit.trans hs'.symm)).1
          rw [e2]
          conv => rhs; rw [e1]
          rw [allOf_append, allOf_append, allOf_cons, allOf_cons, show (mrg r y).t = y.t from rfl, hit, rowOf_one, rowOf_one, rowOf_one, h2]
          by_cases e : t = u
          · subst e
            rw [if_pos rfl, if_pos rfl, if_pos rfl, hno]
            simp
          · rw [if_neg e, if_neg e, if_neg e]
            simp
theorem all_row (p : Rl → List ByteArray) (h1 : ∀ r t, p (one r t) = p r) (h2 : ∀ r y, p (mrg r y) = p y ++ p r) (u : ByteArray) {r : Rl} : ∀ {ts : List ByteArray} {out o : List Rl}, Fine out → rowJ r ts out = some o → allOf p o u = allOf p out u ++ rowOf p r ts u
  | [], out, o, h, e => by
    rw [rowJ] at e
    rw [← Option.some.inj e]
    simp [rowOf]
  | t :: ts, out, o, h, e => by
    rw [rowJ] at e
    obtain ⟨o1, ha, hb⟩ := Option.bind_eq_some_iff.1 e
    rw [all_row p h1 h2 u (h.put ha) hb, all_put p h1 h2 h ha u, List.append_assoc, ← rowOf_append]
    rfl
theorem all_join (p : Rl → List ByteArray) (h1 : ∀ r t, p (one r t) = p r) (h2 : ∀ r y, p (mrg r y) = p y ++ p r) (u : ByteArray) : ∀ {l out o : List Rl}, Fine out → joinJ l out = .inl o → allOf p o u = allOf p out u ++ allOf p l u
  | [], out, o, h, e => by
    rw [joinJ] at e
    rw [← Sum.inl.inj e]
    simp [allOf]
  | r :: rs, out, o, h, e => by
    rw [joinJ] at e
    cases hr : rowJ r r.t out with
    | none => rw [hr] at e; cases e
    | some o1 =>
      rw [hr] at e
      rw [all_join p h1 h2 u (h.row hr) e, all_row p h1 h2 u h hr, allOf_cons, List.append_assoc]
theorem all_s (u : ByteArray) {l o : List Rl} (e : joinJ l [] = .inl o) : allOf Rl.s o u = allOf Rl.s l u := by
  have := all_join Rl.s (fun _ _ => rfl) (fun _ _ => rfl) u Fine.nil e
  rw [this]; simp [allOf]
theorem all_c (u : ByteArray) {l o : List Rl} (e : joinJ l [] = .inl o) : allOf Rl.c o u = allOf Rl.c l u := by
  have := all_join Rl.c (fun _ _ => rfl) (fun _ _ => rfl) u Fine.nil e
  rw [this]; simp [allOf]

/-! ### sizes -/
theorem rowOf_len (p : Rl → List ByteArray) (hp : ∀ r, (p r).length ≤ w1 r) (r : Rl) (u : ByteArray) : ∀ ts : List ByteArray, (rowOf p r ts u).length ≤ ts.length * w1 r
  | [] => by simp [rowOf]
  | t :: ts => by
    have ih := rowOf_len p hp r u ts
    have h := hp r
    have e : rowOf p r (t :: ts) u = rowOf p r [t] u ++ rowOf p r ts u := rowOf_append p r [t] ts u
    rw [e, rowOf_one, List.length_append, List.length_cons, Nat.succ_mul]
    split
    · omega
    · simp only [List.length_nil]; omega
theorem allOf_len (p : Rl → List ByteArray) (hp : ∀ r, (p r).length ≤ w1 r) (u : ByteArray) : ∀ l : List Rl, (allOf p l u).length ≤ wL l
  | [] => by simp [allOf]
  | r :: l => by
    have ih := allOf_len p hp u l
    have h := rowOf_len p hp r u r.t
    rw [allOf_cons, List.length_append, wL_cons]
    omega
theorem s_le (r : Rl) : r.s.length ≤ w1 r := by unfold w1; omega
theorem c_le (r : Rl) : r.c.length ≤ w1 r := by unfold w1; omega
/-- what is had behind i rules, and behind j names of the next one -/
def mid (p : Rl → List ByteArray) (l : List Rl) (i j : Nat) (u : ByteArray) : List ByteArray := allOf p (l.take i) u ++ rowOf p (l.getD i nil) ((l.getD i nil).t.take j) u
theorem mid_zero (p : Rl → List ByteArray) (l : List Rl) (i : Nat) (u : ByteArray) : mid p l i 0 u = allOf p (l.take i) u := by
  simp [mid, rowOf]
theorem mid_next (p : Rl → List ByteArray) (l : List Rl) (i j : Nat) (u : ByteArray) (hj : j < (l.getD i nil).t.length) :
    mid p l i (j + 1) u = mid p l i j u ++ if (l.getD i nil).t.getD j ByteArray.empty = u then p (l.getD i nil) else [] := by
  unfold mid
  rw [List.append_assoc]
  congr 1
  have e : (l.getD i nil).t.take (j + 1) = (l.getD i nil).t.take j ++ [(l.getD i nil).t.getD j ByteArray.empty] := by
    rw [List.take_add_one, List.getElem?_eq_getElem hj, List.getD_eq_getElem?_getD (l := (l.getD i nil).t), List.getElem?_eq_getElem hj]
    rfl
  rw [e, rowOf_append, rowOf_one]
theorem take_next (l : List Rl) (i : Nat) (h : i < l.length) : l.take (i + 1) = l.take i ++ [l.getD i nil] := by
  rw [List.take_add_one, getD_get h]
  rfl
theorem mid_end (p : Rl → List ByteArray) (l : List Rl) (i : Nat) (u : ByteArray) (h : i < l.length) : mid p l i (l.getD i nil).t.length u = allOf p (l.take (i + 1)) u := by
  rw [take_next l i h, allOf_append, allOf_cons]
  simp [mid, allOf]
theorem all_end (p : Rl → List ByteArray) (l : List Rl) (u : ByteArray) (n : Nat) (h : l.length ≤ n) : allOf p (l.take n) u = allOf p l u := by
  rw [List.take_of_length_le h]
theorem wL_append (a b : List Rl) : wL (a ++ b) = wL a + wL b := by simp [wL]
theorem wL_take (l : List Rl) (i : Nat) : wL (l.take i) ≤ wL l := by
  conv => rhs; rw [← List.take_append_drop i l, wL_append]
  omega
theorem mid_len (p : Rl → List ByteArray) (hp : ∀ r, (p r).length ≤ w1 r) (l : List Rl) (i j : Nat) (u : ByteArray) (h : i < l.length) (hj : j < (l.getD i nil).t.length) : (mid p l i j u).length + (p (l.getD i nil)).length ≤ wL l := by
  unfold mid
  have h1 := allOf_len p hp u (l.take i)
  have h2 := rowOf_len p hp (l.getD i nil) u ((l.getD i nil).t.take j)
  have h3 := hp (l.getD i nil)
  have h4 := wL_take l (i + 1)
  rw [take_next l i h, wL_append, wL_cons, show wL [] = 0 from rfl] at h4
  rw [List.length_take, Nat.min_eq_left (by omega)] at h2
  have h5 := Nat.mul_le_mul_right (w1 (l.getD i nil)) (show j + 1 ≤ (l.getD i nil).t.length from hj)
  rw [Nat.succ_mul] at h5
  rw [List.length_append]
  omega
theorem all_next (p : Rl → List ByteArray) (l : List Rl) (i : Nat) (u s : ByteArray) (h : i < l.length) (hs : (l.getD i nil).t = [s]) : allOf p (l.take (i + 1)) u = allOf p (l.take i) u ++ if s = u then p (l.getD i nil) else [] := by
  rw [take_next l i h, allOf_append, allOf_cons, hs, rowOf_one]
  simp [allOf]
theorem all_len (p : Rl → List ByteArray) (hp : ∀ r, (p r).length ≤ w1 r) (l : List Rl) (i : Nat) (u s : ByteArray) (h : i < l.length) (hs : (l.getD i nil).t = [s]) : (allOf p (l.take i) u).length + (p (l.getD i nil)).length ≤ wL l := by
  have h0 := mid_len p hp l i 0 u h (by rw [hs]; simp)
  rw [mid_zero] at h0
  exact h0
theorem t_le (l : List Rl) (i : Nat) (h : i < l.length) : (l.getD i nil).t.length ≤ wL l := by
  have h4 := wL_take l (i + 1)
  rw [take_next l i h, wL_append, wL_cons, show wL [] = 0 from rfl] at h4
  have h5 := Nat.le_mul_of_pos_right (l.getD i nil).t.length (show 0 < w1 (l.getD i nil) by unfold w1; omega)
  omega
theorem apart_ty {α : Type} {d : Kd α} {e t base g : Nat} {ok : Nat → Prop} {w : World} {v : Value} {xs : List α} {cells : Array Value} {o : Nat × Nat} (h : d.R e w base ok v xs) (hb : w.heap[g]? = some (.cells cells t o)) (ht : e ≠ t) : some g ≠ v.ownBlock := fun he => by
  obtain ⟨c2, h2⟩ := Kd.R_typed h g he.symm
  rw [hb] at h2
  injection h2 with h2
  injection h2 with _ h2
  exact ht h2.symm
/-- two rows of the call's own, apart -/
structure Two (B : Nat) (w : World) (v u : Value) (xs ys : List ByteArray) : Prop where
  rv : Kd.string.R TS w B (fun _ => True) v xs
  ru : Kd.string.R TS w B (fun _ => True) u ys
  ap : ∀ k, v.ownBlock = some k → u.ownBlock ≠ some k
theorem Two.nil (B : Nat) (w : World) : Two B w (.slice none 0 0) (.slice none 0 0) [] [] := ⟨Kd.R_nil _ _ _ _ _, Kd.R_nil _ _ _ _ _, fun k h => by simp [Value.ownBlock] at h⟩
theorem Two.swap {B : Nat} {w : World} {v u : Value} {xs ys : List ByteArray} (h : Two B w v u xs ys) : Two B w u v ys xs := ⟨h.ru, h.rv, fun k h1 h2 => h.ap k h2 h1⟩
theorem Two.below {B : Nat} {w w1 : World} {v u : Value} {xs ys : List ByteArray} (h : Two B w v u xs ys) (hb : Below w.heap.size w w1) : Two B w1 v u xs ys := ⟨Kd.R_below h.rv hb, Kd.R_below h.ru hb, h.ap⟩
theorem Two.fst {B : Nat} {w w1 : World} {v u v1 : Value} {xs ys xs1 : List ByteArray} (h : Two B w v u xs ys) (hR : Kd.string.R TS w1 B (fun _ => True) v1 xs1) (hg : w.grownBy w1 v.ownBlock) (hat : v1.ownBlock = v.ownBlock ∨ ∃ b, v1.ownBlock = some b ∧ w.heap.size ≤ b) : Two B w1 v1 u xs1 ys := by
  refine ⟨hR, Kd.R_mono (Kd.R_grown (Kd.R_tight rfl h.ru) hg fun k hk he => h.ap k he.symm hk.symm) (fun _ _ => trivial), fun k hk hu => ?_⟩
  rcases hat with hat | ⟨b, hb, hle⟩
  · exact h.ap k (hat.symm.trans hk) hu
  · rw [hb] at hk
    injection hk with hk
    have := Kd.R_lt h.ru k hu
    omega
theorem cap1 (s : ByteArray) (c : Nat) (h : [s].length ≤ c) : 1 ≤ c := h
set_option maxHeartbeats 16000000 in
set_option maxRecDepth 100000 in
theorem RuleSourcesWalk (W : World) (A : Option Addr) (cap : Nat) (l : List Rl) (hr : Kd.C kR W A l.length l) (hc : l.length ≤ cap) (hk : ∀ r ∈ l, ∀ t ∈ r.t, t.size ≤ 1000000000 ∧ r.t.length ≤ bound) (hw : 2 * wL l + l.length ≤ bound ∨ farB l = true) :
    Calls Tryd.prog 5 #[.slice A l.length cap] W fun e W' => e = .returned (.bool true) ∧ Below W.heap.size W W' := by
  have HR := Aside0.mk hr
  have HC := Aside0.mk hc
  have HK := Aside0.mk hk
  have HW := Aside0.mk hw
  clear hr hc hk hw
  have hu27 := Tryd.underlying27
  have hu24 := Tryd.underlying24
  go_enter Tryd.func5, Tryd.ntmps5
  go_wp2_with (fail)
  refine (farW A cap l W HR.out HC.out).mono ?_
  rintro e w1 ⟨rfl, hb1⟩
  have HB1 := Aside0.mk hb1
  clear hb1
  cases hf : farB l with
  | true =>
    go_wp2_with (fail)
    refine (aliveW _).mono ?_
    rintro e w2 ⟨rfl, hb2⟩
    go_wp2_with (fail)
    go_ret
    exact ⟨rfl, below_then HB1.out HB1.out.size hb2⟩
  | false =>
    have hwl : 2 * wL l + l.length ≤ bound := by
      rcases HW.out with h | h
      · exact h
      · rw [hf] at h; cases h
    have HWL := Aside0.mk hwl
    clear hwl
    go_wp2_with (fail)
    refine (joinW A cap l w1 (Kd.C_below HR.out HB1.out) HC.out (by have := HWL.out; omega) HK.out).mono ?_
    intro e w2 ha
    cases hj : joinJ l [] with
    | inr z =>
      rw [hj] at ha
      obtain ⟨rfl, hb2⟩ := ha
      have HB2 := Aside0.mk (below_then HB1.out HB1.out.size hb2)
      clear hb2
      go_wp2_with (fail)
      refine (aliveW _).mono ?_
      rintro e w3 ⟨rfl, hb3⟩
      have hb4 := below_then (below_alloc HB2.out (.cells #[.int .i64 14, .int .i64 z] 27)) (below_alloc HB2.out _).size hb3
      go_wp2_with (fail)
      go_ret
      exact ⟨rfl, hb4⟩
    | inl out =>
      rw [hj] at ha
      obtain ⟨v, rfl, hR, hb2⟩ := ha
      have HB2 := Aside0.mk (below_then HB1.out HB1.out.size hb2)
      have HF := Aside0.mk (Fine.nil.join hj)
      obtain ⟨A2, c2, rfl, hc2, hC2⟩ := Kd.R_reads hR
      have HC2 := Aside0.mk hC2
      have hlo : out.length ≤ 100000000000 := by
        have h1 := wO_len out
        have h2 := wO_join hj
        have h3 := HWL.out
        unfold bound at h3
        simp only [wO, List.map_nil, List.sum_nil] at h2
        unfold wO at h1
        omega
      have hll : l.length ≤ 100000000000 := by
        have h3 := HWL.out
        unfold bound at h3
        omega
      have HWO := Aside0.mk (show wL out ≤ 100000000000 by
        have h2 := fine_bound HF.out hj HWL.out
        unfold bound at h2
        omega)
      clear hb2 hR hC2
      go_wp2_with (fail)
      have HB3 := Aside0.mk (below_alloc HB2.out (.cells #[.int .i64 0, .int .i64 0] 27))
      have HC3 := Aside0.mk (Kd.C_below HC2.out (below_alloc (Below.refl _ _) (.cells #[.int .i64 0, .int .i64 0] 27)))
      generalize w2.alloc (.cells #[.int .i64 0, .int .i64 0] 27) = W3 at *
      go_loopw [31] (fun v31 wr => ∃ i : Int, v31 = .int .i64 i ∧ 0 ≤ i ∧ i ≤ out.length ∧ Aside0 (Below W.heap.size W wr) ∧ Aside0 (Kd.C kR wr A2 out.length out)) (fun v31 _ => out.length - (intOf v31).toNat)
      case atStart => exact ⟨0, rfl, by omega, by omega, HB3, HC3⟩
      case round =>
        obtain ⟨i, rfl, hi0, hi1, HBr, HCr⟩ := hrel
        by_cases hlt : i < out.length
        · have d0 : decide (i < (out.length : Int)) = true := decide_eq_true hlt
          have HII := Aside0.mk (And.intro hi0 hlt)
          obtain ⟨ad, c, e, hcl, hKc, hcc⟩ := Kd.C_get HCr.out nil i hi0 hlt
          subst e
          have hmem : out[i.toNat]? = some (out.getD i.toNat nil) := getD_get (by omega)
          obtain ⟨u, hu⟩ := HF.out.one_ (out.getD i.toNat nil) (List.mem_of_getElem? hmem)
          generalize out.getD i.toNat nil = y at hKc hmem hu
          obtain ⟨yt, yk, ys, yc, ya⟩ := y
          simp only at hu
          subst hu
          obtain ⟨A0, c0, A4, c4, A5, c5, rfl, ⟨hl0, hl2, hl3⟩, hC0, hC4, hC5⟩ := hKc
          have x0 := hcc 0 _ rfl
          have x1 := hcc 1 _ rfl
          have x2 := hcc 2 _ rfl
          have x3 := hcc 3 _ rfl
          have x4 := hcc 4 _ rfl
          simp only [kR, Nat.add_zero, List.length_cons, List.length_nil] at x0 x1 x2 x3 x4
          rw [add_field _ _ 1 (by omega)] at x1
          rw [add_field _ _ 2 (by omega)] at x2
          rw [add_field _ _ 3 (by omega)] at x3
          rw [add_field _ _ 4 (by omega)] at x4
          have HC0 := Aside0.mk hC0
          have HM := Aside0.mk hmem
          clear hcl hcc hC0 hC4 hC5 hmem hl0 hl2 hl3
          go_wp2_with (fail)
          obtain ⟨b6, hb6⟩ : ∃ b, wr.heap.size = b := ⟨_, rfl⟩
          have hbe := below_alloc (Below.refl _ wr) (.cells #[.slice A0 1 c0, .int .i64 yk, .slice A4 ys.length c4, .slice A5 yc.length c5, .int .i64 ya] TR (0, 0))
          have hk6 := heap_alloc_new wr (.cells #[.slice A0 1 c0, .int .i64 yk, .slice A4 ys.length c4, .slice A5 yc.length c5, .int .i64 ya] TR (0, 0))
          rw [hb6] at hk6
          simp only [hb6]
          have HK6 := Aside0.mk hk6
          have HB6 := Aside0.mk (below_then HBr.out HBr.out.size hbe)
          have HC6 := Aside0.mk (Kd.C_below HCr.out hbe)
          have HL6 := Aside0.mk (Kd.C_below HR.out (below_then HBr.out HBr.out.size hbe))
          have H06 := Aside0.mk (Kd.C_below HC0.out hbe)
          clear hk6 hbe x0 x1 x2 x3 x4
          generalize wr.alloc (.cells #[.slice A0 1 c0, .int .i64 yk, .slice A4 ys.length c4, .slice A5 yc.length c5, .int .i64 ya] TR (0, 0)) = W6 at *
          obtain ⟨a0, ea0, hx0⟩ := Kd.at_string H06.out 0 (by omega) (by simp)
          subst ea0
          have hx0' : W6.cell? a0 = some (.string u) := by
            have h : W6.cell? (a0.add 0) = some (.string u) := hx0
            rwa [add0] at h
          have HX0 := Aside0.mk hx0'
          clear hx0 hx0'
          go_loopw [37, 7, 9] (fun v37 v7 v9 wq => ∃ j : Int, v37 = .int .i64 j ∧ 0 ≤ j ∧ j ≤ l.length ∧ Aside0 (Below W6.heap.size W6 wq) ∧ Aside0 (Two W6.heap.size wq v7 v9 (allOf Rl.s (l.take j.toNat) u) (allOf Rl.c (l.take j.toNat) u))) (fun v37 _ _ _ => l.length - (intOf v37).toNat)
          case atStart => exact ⟨0, rfl, by omega, by omega, ⟨Below.refl _ _⟩, ⟨Two.nil _ _⟩⟩
          case round =>
            obtain ⟨j, rfl, hj0, hj1, HBq, HT⟩ := hrel
            by_cases hjt : j < l.length
            · have d1 : decide (j < (l.length : Int)) = true := decide_eq_true hjt
              have HJJ := Aside0.mk (And.intro hj0 hjt)
              obtain ⟨ad', c', e', hcl', hKc', hcc'⟩ := Kd.C_get HL6.out nil j hj0 (by omega)
              subst e'
              obtain ⟨z, hz⟩ : ∃ z, l.getD j.toNat nil = z := ⟨_, rfl⟩
              rw [hz] at hKc'
              have HZE := Aside0.mk hz
              obtain ⟨B0, k0, B4, k4, B5, k5, rfl, ⟨hm0, hm2, hm3⟩, hD0, hD4, hD5⟩ := hKc'
              have z0 := pw_cell_below HBq.out (hcc' 0 _ rfl)
              have z1 := pw_cell_below HBq.out (hcc' 1 _ rfl)
              have z2 := pw_cell_below HBq.out (hcc' 2 _ rfl)
              have z3 := pw_cell_below HBq.out (hcc' 3 _ rfl)
              have z4 := pw_cell_below HBq.out (hcc' 4 _ rfl)
              simp only [kR, Nat.add_zero] at z0 z1 z2 z3 z4
              rw [add_field _ _ 1 (by omega)] at z1
              rw [add_field _ _ 2 (by omega)] at z2
              rw [add_field _ _ 3 (by omega)] at z3
              rw [add_field _ _ 4 (by omega)] at z4
              have HD0 := Aside0.mk hD0
              have HD4 := Aside0.mk hD4
              have HD5 := Aside0.mk hD5
              have hzl : z.t.length ≤ 100000000000 := by
                have h1 := t_le l j.toNat (by omega)
                have h2 := HWL.out
                rw [HZE.out] at h1
                unfold bound at h2
                omega
              clear hcl' hcc' hD0 hD4 hD5 hz
              go_wp2_with (fail)
              obtain ⟨b12, hb12⟩ : ∃ b, wr.heap.size = b := ⟨_, rfl⟩
              have hbe := below_alloc (Below.refl _ wr) (.cells #[.slice B0 z.t.length k0, .int .i64 z.k, .slice B4 z.s.length k4, .slice B5 z.c.length k5, .int .i64 z.a] TR (0, 0))
              have hk12 := heap_alloc_new wr (.cells #[.slice B0 z.t.length k0, .int .i64 z.k, .slice B4 z.s.length k4, .slice B5 z.c.length k5, .int .i64 z.a] TR (0, 0))
              have HBB := Aside0.mk (show W6.heap.size ≤ b12 by rw [← hb12]; exact HBq.out.size)
              rw [hb12] at hk12
              simp only [hb12]
              have HK12 := Aside0.mk hk12
              have HBz := Aside0.mk (below_then HBq.out HBq.out.size hbe)
              have HTz := Aside0.mk (HT.out.below hbe)
              clear hk12 hbe z0 z1 z2 z3 z4
              generalize wr.alloc (.cells #[.slice B0 z.t.length k0, .int .i64 z.k, .slice B4 z.s.length k4, .slice B5 z.c.length k5, .int .i64 z.a] TR (0, 0)) = Wz at *
              have q0 : Wz.cell? ⟨b12, 0, none⟩ = some (.slice B0 z.t.length k0) := (blk_cell HK12.out 0).trans rfl
              go_loopw [44, 7, 9] (fun v44 v7 v9 wz => ∃ k : Int, v44 = .int .i64 k ∧ 0 ≤ k ∧ k ≤ z.t.length ∧ Aside0 (Below W6.heap.size W6 wz) ∧ Aside0 (wz.heap[b12]? = some (.cells #[.slice B0 z.t.length k0, .int .i64 z.k, .slice B4 z.s.length k4, .slice B5 z.c.length k5, .int .i64 z.a] TR (0, 0))) ∧ Aside0 (Two W6.heap.size wz v7 v9 (mid Rl.s l j.toNat k.toNat u) (mid Rl.c l j.toNat k.toNat u))) (fun v44 _ _ _ => z.t.length - (intOf v44).toNat)
              case atStart => exact ⟨0, rfl, by omega, by omega, HBz, HK12, ⟨by rw [show (0 : Int).toNat = 0 from rfl, mid_zero, mid_zero]; exact HTz.out⟩⟩
              case round =>
                obtain ⟨k, rfl, hk0, hk1, HBy, HKy, HTy⟩ := hrel
                by_cases hkt : k < z.t.length
                · have d2 : decide (k < (z.t.length : Int)) = true := decide_eq_true hkt
                  have HKK := Aside0.mk (And.intro hk0 hkt)
                  obtain ⟨a1, ea1, hx1⟩ := Kd.at_string (Kd.C_below HD0.out HBy.out) k hk0 hkt
                  subst ea1
                  have hq6 := blk_below HK6.out HBy.out
                  have x0 : wr.cell? ⟨b6, 0, none⟩ = some (.slice (some a0) 1 c0) := (blk_cell hq6 0).trans rfl
                  have xu : wr.cell? a0 = some (.string u) := pw_cell_below HBy.out HX0.out
                  have y2 : wr.cell? ⟨b12, 2, none⟩ = some (.slice B4 z.s.length k4) := (blk_cell HKy.out 2).trans rfl
                  have HNX := Aside0.mk (And.intro (mid_next Rl.s l j.toNat k.toNat u (by rw [HZE.out]; omega)) (mid_next Rl.c l j.toNat k.toNat u (by rw [HZE.out]; omega)))
                  have HML := Aside0.mk (And.intro (mid_len Rl.s s_le l j.toNat k.toNat u (by omega) (by rw [HZE.out]; omega)) (mid_len Rl.c c_le l j.toNat k.toNat u (by omega) (by rw [HZE.out]; omega)))
                  rw [HZE.out] at HNX HML
                  rw [show (z.t.getD k.toNat ByteArray.empty) = rdOf ByteArray.empty z.t k from rfl] at HNX
                  have HK1 := Aside0.mk (show (k + 1).toNat = k.toNat + 1 by omega)
                  generalize rdOf ByteArray.empty z.t k = t at hx1 HNX
                  clear hq6
                  by_cases he : t = u
                  · subst he
                    rw [if_pos rfl, if_pos rfl] at HNX
                    go_wp2_with (((with_reducible refine gate_builtin (b := .append) (xs := #[.tmp 54, .tmp 56]) rfl ?_); at_builtin; refine Kd.R_append_rows Kd.string (w0 := W6) (Rr := Kd.string.K wr) W6.heap.size rfl (.tmp 54) (.tmp 56) 22 9 (.string ⟨#[]⟩) 16 rfl Tryd.underlying22 infoS rfl (by decide) (by decide) u7 (mid Rl.s l j.toNat k.toNat t) (z.s) B4 (z.s).length k4 (fun _ => True) (fun _ => False) rfl rfl ?aO ?aR ?aK ?aF ?aN ?aB ?aS ?aL ?_))
                    case aO => exact HTy.out.rv
                    case aR => exact Kd.C_below HD4.out HBy.out
                    case aK => exact fun x cs h => h
                    case aF => exact fun _ h => h.elim
                    case aN => exact fun _ _ => trivial
                    case aB => exact HBy.out
                    case aS => exact HBy.out.size
                    case aL => have h1 := HML.out.1; have h2 := HWL.out; unfold bound at h2; omega
                    intro v17 w17 hR5 hB5 hg5 hat5
                    have HT5 := Aside0.mk (HTy.out.fst hR5 hg5 hat5)
                    have HK5 := Aside0.mk ((hg5.block b12 (blk_lt HKy.out) (apart_ty HTy.out.rv HKy.out (by decide))).trans HKy.out)
                    have HB5 := Aside0.mk hB5
                    have y3 : w17.cell? ⟨b12, 3, none⟩ = some (.slice B5 z.c.length k5) := (blk_cell HK5.out 3).trans rfl
                    clear hR5 hB5 hg5 hat5 x0 xu y2 hx1
                    go_wp2_with (((with_reducible refine gate_builtin (b := .append) (xs := #[.tmp 58, .tmp 60]) rfl ?_); at_builtin; refine Kd.R_append_rows Kd.string (w0 := W6) (Rr := Kd.string.K w17) W6.heap.size rfl (.tmp 58) (.tmp 60) 22 9 (.string ⟨#[]⟩) 16 rfl Tryd.underlying22 infoS rfl (by decide) (by decide) u9 (mid Rl.c l j.toNat k.toNat t) (z.c) B5 (z.c).length k5 (fun _ => True) (fun _ => False) rfl rfl ?aO ?aR ?aK ?aF ?aN ?aB ?aS ?aL ?_))
                    case aO => exact HT5.out.ru
                    case aR => exact Kd.C_below HD5.out HB5.out
                    case aK => exact fun x cs h => h
                    case aF => exact fun _ h => h.elim
                    case aN => exact fun _ _ => trivial
                    case aB => exact HB5.out
                    case aS => exact HB5.out.size
                    case aL => have h1 := HML.out.2; have h2 := HWL.out; unfold bound at h2; omega
                    intro v18 w18 hR6 hB6 hg6 hat6
                    have HT6 := Aside0.mk (HT5.out.swap.fst hR6 hg6 hat6).swap
                    have HK6' := Aside0.mk ((hg6.block b12 (blk_lt HK5.out) (apart_ty HT5.out.ru HK5.out (by decide))).trans HK5.out)
                    have HB6' := Aside0.mk hB6
                    clear hR6 hB6 hg6 hat6 y3
                    go_wp2_with (fail)
                    go_roundw
                    case measure => exact msr HKK.out.1 HKK.out.2
                    case rel => exact ⟨k + 1, by go_num, (nxt HKK.out.1 HKK.out.2).1, (nxt HKK.out.1 HKK.out.2).2, HB6', HK6', ⟨by rw [HK1.out, HNX.out.1, HNX.out.2]; exact HT6.out⟩⟩
                  · rw [if_neg he, if_neg he, List.append_nil, List.append_nil] at HNX
                    have s1 : ¬ t.toList = u.toList := fun e => he (ba_toList e)
                    have s2 : (t.toList == u.toList) = false := by simpa using s1
                    have s3 : decide (t.toList = u.toList) = false := decide_eq_false s1
                    have s5 : decide (t = u) = false := decide_eq_false he
                    go_wp2_with (fail)
                    go_roundw
                    case measure => exact msr HKK.out.1 HKK.out.2
                    case rel => exact ⟨k + 1, by go_num, (nxt HKK.out.1 HKK.out.2).1, (nxt HKK.out.1 HKK.out.2).2, HBy, HKy, ⟨by rw [HK1.out, HNX.out.1, HNX.out.2]; exact HTy.out⟩⟩
                · have d2 : decide (k < (z.t.length : Int)) = false := decide_eq_false hkt
                  have HKE := Aside0.mk (show k.toNat = z.t.length by omega)
                  go_wp2_with (fail)
                  go_roundw
                  case measure => exact msr HJJ.out.1 HJJ.out.2
                  case rel => exact ⟨j + 1, by go_num, (nxt HJJ.out.1 HJJ.out.2).1, (nxt HJJ.out.1 HJJ.out.2).2, HBy, ⟨by
                    have h1 := mid_end Rl.s l j.toNat u (by have := HJJ.out; omega)
                    have h2 := mid_end Rl.c l j.toNat u (by have := HJJ.out; omega)
                    rw [show (j + 1).toNat = j.toNat + 1 by have := HJJ.out; omega, ← h1, ← h2, HZE.out, ← HKE.out]; exact HTy.out⟩⟩
            · have d1 : decide (j < (l.length : Int)) = false := decide_eq_false hjt
              rw [all_end _ _ _ _ (by omega), all_end _ _ _ _ (by omega)] at HT
              obtain ⟨A7, c7, ev7, hc7, hC7⟩ := Kd.R_reads HT.out.rv
              obtain ⟨A9, c9, ev9, hc9, hC9⟩ := Kd.R_reads HT.out.ru
              have HC7 := Aside0.mk hC7
              have HC9 := Aside0.mk hC9
              have HL7 := Aside0.mk (allOf_len Rl.s s_le u l)
              have HL9 := Aside0.mk (allOf_len Rl.c c_le u l)
              have HES := Aside0.mk (all_s u hj)
              have HEC := Aside0.mk (all_c u hj)
              subst ev7 ev9
              clear hC7 hC9 HT
              generalize allOf Rl.s l u = want at *
              generalize allOf Rl.c l u = comm at *
              obtain ⟨W9, hW9⟩ : ∃ x, x = wr := ⟨_, rfl⟩
              subst hW9
              have HO6 := Aside0.mk (Kd.C_below HC6.out HBq.out)
              have HK7 := Aside0.mk (blk_below HK6.out HBq.out)
              have HX7 := Aside0.mk (pw_cell_below HBq.out HX0.out)
              have HBW := Aside0.mk (below_then HB6.out HB6.out.size HBq.out)
              go_wp2_with (fail)
              go_loopw [66, 8, 10] (fun v66 v8 v10 wq => ∃ j : Int, v66 = .int .i64 j ∧ 0 ≤ j ∧ j ≤ out.length ∧ Aside0 (Below W9.heap.size W9 wq) ∧ Aside0 (Two W9.heap.size wq v8 v10 (allOf Rl.s (out.take j.toNat) u) (allOf Rl.c (out.take j.toNat) u))) (fun v66 _ _ _ => out.length - (intOf v66).toNat)
              case atStart => exact ⟨0, rfl, by omega, by omega, ⟨Below.refl _ _⟩, ⟨Two.nil _ _⟩⟩
              case round =>
                obtain ⟨j, rfl, hj0, hj1, HBy, HTy⟩ := hrel
                by_cases hjo : j < out.length
                · have d3 : decide (j < (out.length : Int)) = true := decide_eq_true hjo
                  have HJJ := Aside0.mk (And.intro hj0 hjo)
                  obtain ⟨ad', c', e', hcl', hKc', hcc'⟩ := Kd.C_get HO6.out nil j hj0 (by omega)
                  injection e' with e'
                  subst e'
                  have hmem' : out[j.toNat]? = some (out.getD j.toNat nil) := getD_get (by omega)
                  obtain ⟨s, hs⟩ := HF.out.one_ (out.getD j.toNat nil) (List.mem_of_getElem? hmem')
                  have HNX := Aside0.mk (And.intro (all_next Rl.s out j.toNat u s (by omega) hs) (all_next Rl.c out j.toNat u s (by omega) hs))
                  have HML := Aside0.mk (And.intro (all_len Rl.s s_le out j.toNat u s (by omega) hs) (all_len Rl.c c_le out j.toNat u s (by omega) hs))
                  have HK1 := Aside0.mk (show (j + 1).toNat = j.toNat + 1 by omega)
                  generalize out.getD j.toNat nil = z at hKc' hmem' hs HNX HML
                  obtain ⟨B0, k0, B4, k4, B5, k5, rfl, ⟨hm0, hm2, hm3⟩, hD0, hD4, hD5⟩ := hKc'
                  have z0 := pw_cell_below HBy.out (hcc' 0 _ rfl)
                  have z1 := pw_cell_below HBy.out (hcc' 1 _ rfl)
                  have z2 := pw_cell_below HBy.out (hcc' 2 _ rfl)
                  have z3 := pw_cell_below HBy.out (hcc' 3 _ rfl)
                  have z4 := pw_cell_below HBy.out (hcc' 4 _ rfl)
                  simp only [kR, Nat.add_zero] at z0 z1 z2 z3 z4
                  rw [add_field _ _ 1 (by omega)] at z1
                  rw [add_field _ _ 2 (by omega)] at z2
                  rw [add_field _ _ 3 (by omega)] at z3
                  rw [add_field _ _ 4 (by omega)] at z4
                  rw [hs] at hD0 z0
                  have z0 : wr.cell? (ad.add (j.toNat * 5)) = some (.slice B0 1 k0) := z0
                  have HD0 := Aside0.mk hD0
                  have HD4 := Aside0.mk hD4
                  have HD5 := Aside0.mk hD5
                  clear hcl' hcc' hD0 hD4 hD5 hmem'
                  go_wp2_with (fail)
                  obtain ⟨b16, hb16⟩ : ∃ b, wr.heap.size = b := ⟨_, rfl⟩
                  have hbe := below_alloc (Below.refl _ wr) (.cells #[.slice B0 1 k0, .int .i64 z.k, .slice B4 z.s.length k4, .slice B5 z.c.length k5, .int .i64 z.a] TR (0, 0))
                  have hk16 := heap_alloc_new wr (.cells #[.slice B0 1 k0, .int .i64 z.k, .slice B4 z.s.length k4, .slice B5 z.c.length k5, .int .i64 z.a] TR (0, 0))
                  rw [hb16] at hk16
                  simp only [hb16]
                  have HBz := Aside0.mk (below_then HBy.out HBy.out.size hbe)
                  have HTz := Aside0.mk (HTy.out.below hbe)
                  have HK16 := Aside0.mk hk16
                  have HE0 := Aside0.mk (Kd.C_below HD0.out HBz.out)
                  clear hk16 hbe z0 z1 z2 z3 z4
                  generalize wr.alloc (.cells #[.slice B0 1 k0, .int .i64 z.k, .slice B4 z.s.length k4, .slice B5 z.c.length k5, .int .i64 z.a] TR (0, 0)) = W8 at *
                  obtain ⟨a1, ea1, hx1⟩ := Kd.at_string HE0.out 0 (by omega) (by simp)
                  subst ea1
                  have hx1' : W8.cell? a1 = some (.string s) := by
                    have h : W8.cell? (a1.add 0) = some (.string s) := hx1
                    rwa [add0] at h
                  have hq6 := blk_below HK7.out HBz.out
                  have x0 : W8.cell? ⟨b6, 0, none⟩ = some (.slice (some a0) 1 c0) := (blk_cell hq6 0).trans rfl
                  have xu : W8.cell? a0 = some (.string u) := pw_cell_below HBz.out HX7.out
                  have y0 : W8.cell? ⟨b16, 0, none⟩ = some (.slice (some a1) 1 k0) := (blk_cell HK16.out 0).trans rfl
                  clear hq6 hx1
                  by_cases he : s = u
                  · subst he
                    rw [if_pos rfl, if_pos rfl] at HNX
                    (try simp only [Act.put, List.setIfInBounds_toArray, List.set_cons_succ, List.set_cons_zero])
                    go_quiet (fail)
                    all_goals
                      generalize hqd : World.drewN W8 _ = Wd
                      have hbd : Below W8.heap.size W8 Wd := by rw [← hqd]; exact pw_below_drewN (Below.refl _ _) _
                      have HTd := Aside0.mk (HTz.out.below hbd)
                      have HBd := Aside0.mk (below_then HBz.out HBz.out.size hbd)
                      have HKd := Aside0.mk (blk_below HK16.out hbd)
                      have y2 : Wd.cell? ⟨b16, 2, none⟩ = some (.slice B4 z.s.length k4) := (blk_cell HKd.out 2).trans rfl
                      clear hqd hbd x0 xu y0 hx1'
                      go_wp2_with (((with_reducible refine gate_builtin (b := .append) (xs := #[.tmp 79, .tmp 81]) rfl ?_); at_builtin; refine Kd.R_append_rows Kd.string (w0 := W9) (Rr := Kd.string.K Wd) W9.heap.size rfl (.tmp 79) (.tmp 81) 22 9 (.string ⟨#[]⟩) 16 rfl Tryd.underlying22 infoS rfl (by decide) (by decide) u8 (allOf Rl.s (out.take j.toNat) s) (z.s) B4 (z.s).length k4 (fun _ => True) (fun _ => False) rfl rfl ?aO ?aR ?aK ?aF ?aN ?aB ?aS ?aL ?_))
                      case aO => exact HTd.out.rv
                      case aR => exact Kd.C_below HD4.out HBd.out
                      case aK => exact fun x cs h => h
                      case aF => exact fun _ h => h.elim
                      case aN => exact fun _ _ => trivial
                      case aB => exact HBd.out
                      case aS => exact HBd.out.size
                      case aL => have h1 := HML.out.1; have h2 := HWO.out; omega
                      intro v17 w17 hR5 hB5 hg5 hat5
                      have HT5 := Aside0.mk (HTd.out.fst hR5 hg5 hat5)
                      have HK5 := Aside0.mk ((hg5.block b16 (blk_lt HKd.out) (apart_ty HTd.out.rv HKd.out (by decide))).trans HKd.out)
                      have HB5 := Aside0.mk hB5
                      have y3 : w17.cell? ⟨b16, 3, none⟩ = some (.slice B5 z.c.length k5) := (blk_cell HK5.out 3).trans rfl
                      clear hR5 hB5 hg5 hat5 y2
                      go_wp2_with (((with_reducible refine gate_builtin (b := .append) (xs := #[.tmp 83, .tmp 85]) rfl ?_); at_builtin; refine Kd.R_append_rows Kd.string (w0 := W9) (Rr := Kd.string.K w17) W9.heap.size rfl (.tmp 83) (.tmp 85) 22 9 (.string ⟨#[]⟩) 16 rfl Tryd.underlying22 infoS rfl (by decide) (by decide) u10 (allOf Rl.c (out.take j.toNat) s) (z.c) B5 (z.c).length k5 (fun _ => True) (fun _ => False) rfl rfl ?aO ?aR ?aK ?aF ?aN ?aB ?aS ?aL ?_))
                      case aO => exact HT5.out.ru
                      case aR => exact Kd.C_below HD5.out HB5.out
                      case aK => exact fun x cs h => h
                      case aF => exact fun _ h => h.elim
                      case aN => exact fun _ _ => trivial
                      case aB => exact HB5.out
                      case aS => exact HB5.out.size
                      case aL => have h1 := HML.out.2; have h2 := HWO.out; omega
                      intro v18 w18 hR6 hB6 hg6 hat6
                      have HT6 := Aside0.mk (HT5.out.swap.fst hR6 hg6 hat6).swap
                      have HB6' := Aside0.mk hB6
                      clear hR6 hB6 hg6 hat6 y3
                      go_wp2_with (fail)
                      go_roundw
                      case measure => exact msr HJJ.out.1 HJJ.out.2
                      case rel => exact ⟨j + 1, by go_num, (nxt HJJ.out.1 HJJ.out.2).1, (nxt HJJ.out.1 HJJ.out.2).2, HB6', ⟨by rw [HK1.out, HNX.out.1, HNX.out.2]; exact HT6.out⟩⟩
                  · rw [if_neg he, if_neg he, List.append_nil, List.append_nil] at HNX
                    have s1 : ¬ s.toList = u.toList := fun e => he (ba_toList e)
                    have s2 : (s.toList == u.toList) = false := by simpa using s1
                    have s3 : decide (s.toList = u.toList) = false := decide_eq_false s1
                    have s5 : decide (s = u) = false := decide_eq_false he
                    (try simp only [Act.put, List.setIfInBounds_toArray, List.set_cons_succ, List.set_cons_zero])
                    go_quiet (fail)
                    all_goals
                      go_wp2_with (fail)
                      go_roundw
                      case measure => exact msr HJJ.out.1 HJJ.out.2
                      case rel => exact ⟨j + 1, by go_num, (nxt HJJ.out.1 HJJ.out.2).1, (nxt HJJ.out.1 HJJ.out.2).2, ⟨pw_below_drewN HBz.out _⟩, ⟨by rw [HK1.out, HNX.out.1, HNX.out.2]; exact HTz.out.below (pw_below_drewN (Below.refl _ _) _)⟩⟩
                · have d3 : decide (j < (out.length : Int)) = false := decide_eq_false hjo
                  rw [all_end _ _ _ _ (by omega), all_end _ _ _ _ (by omega), HES.out, HEC.out] at HTy
                  obtain ⟨A8, c8, ev8, hc8, hC8⟩ := Kd.R_reads HTy.out.rv
                  obtain ⟨A10, c10, ev10, hc10, hC10⟩ := Kd.R_reads HTy.out.ru
                  subst ev8 ev10
                  have hw1 : want.length ≤ 100000000000 := by have := HL7.out; have := HWL.out; unfold bound at this; omega
                  have hw2 : comm.length ≤ 100000000000 := by have := HL9.out; have := HWL.out; unfold bound at this; omega
                  have hs1 := same_s want hw1 100000000001 (by omega)
                  have hs2 := same_s comm hw2 100000000001 (by omega)
                  have HBX := Aside0.mk (below_then HBW.out HBW.out.size HBy.out)
                  have K1 := PJ.bobstayref01_Same.calls 100000000001 A7 c7 want A8 c8 want true wr (Kd.C_below HC7.out HBy.out) hc7 hC8 hc8 hs1
                  have HC9' := Aside0.mk (Kd.C_below HC9.out HBy.out)
                  have HC10 := Aside0.mk hC10
                  clear hC8 hC10 HTy hs1
                  go_wp2_with (fail)
                  refine K1.mono ?_
                  rintro e w11 ⟨rfl, hd11⟩
                  have hb11 := hd11.below
                  have K2 := PJ.bobstayref01_Same.calls 100000000001 A9 c9 comm A10 c10 comm true w11 (Kd.C_below HC9'.out hb11) hc9 (Kd.C_below HC10.out hb11) hc10 hs2
                  have HB11 := Aside0.mk (below_then HBX.out HBX.out.size hb11)
                  have HBW := Aside0.mk (Kd.C_below (Kd.C_below HC6.out HBq.out) (below_then HBy.out HBy.out.size hb11))
                  clear hb11
                  go_wp2_with (fail)
                  refine K2.mono ?_
                  rintro e w12 ⟨rfl, hd12⟩
                  have hb12 := hd12.below
                  have HB12 := Aside0.mk (below_then HB11.out HB11.out.size hb12)
                  have HC12 := Aside0.mk (Kd.C_below HBW.out hb12)
                  clear hb12
                  go_wp2_with (fail)
                  go_roundw
                  case measure => exact msr HII.out.1 HII.out.2
                  case rel => exact ⟨i + 1, by go_num, (nxt HII.out.1 HII.out.2).1, (nxt HII.out.1 HII.out.2).2, HB12, HC12⟩
        · have d0 : decide (i < (out.length : Int)) = false := decide_eq_false hlt
          go_wp2_with (fail)
          refine (aliveW _).mono ?_
          rintro e w8 ⟨rfl, hb8⟩
          go_wp2_with (fail)
          go_ret
          exact ⟨rfl, below_then HBr.out HBr.out.size hb8⟩
theorem RuleSourcesRow (W : World) (A : Option Addr) (cap : Nat) (l : List Rl) (hr : Kd.C kR W A l.length l) (hc : l.length ≤ cap) (hb : Ba.totR l ≤ 1048576) :
    Calls Tryd.prog 5 #[.slice A l.length cap] W fun e W' => e = .returned (.bool true) ∧ Below W.heap.size W W' :=
  RuleSourcesWalk W A cap l hr hc (names_row' hb) (weight_row hb)
end Go.Proofs.YtapfblaejmenlaaDoor.Rj
