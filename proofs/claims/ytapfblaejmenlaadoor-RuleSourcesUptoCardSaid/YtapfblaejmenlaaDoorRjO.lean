/- The law RuleOnce, walked. -/
import Derived.Test.YtapfblaejmenlaaDoorRjS
import Derived.Deep.LoopGhost
import Derived.Deep.QuietTactic
import Derived.BigQuiet
import Derived.Deep.RegionHeld3
set_option linter.unusedVariables false
set_option linter.unusedSimpArgs false
namespace Go.Proofs.YtapfblaejmenlaaDoor.Rj
open Go.RowKit Go.Proofs.YtapfblaejmenlaaDoorW.PrintWords Go.Proofs.YtapfblaejmenlaaDoorW.PrintLast Go.Proofs.YtapfblaejmenlaaDoorW.PrintMore

theorem add0 (a : Addr) : a.add 0 = a := by
  unfold Addr.add
  split
  · simp
  · rename_i h
    cases a; simp_all
theorem msr2 {i j : Int} (h0 : 0 ≤ j) (h1 : j < i) : i.toNat - (j + 1).toNat < i.toNat - j.toNat := by omega
theorem ba_toList {s t : ByteArray} (h : s.toList = t.toList) : s = t := by
  rw [ByteArray.toList_eq, ByteArray.toList_eq] at h
  cases s; cases t
  simp only [ByteArray.mk.injEq]
  exact Array.toList_inj.1 h
theorem wO_put {out o : List Rl} {r : Rl} {t : ByteArray} (hp : putJ out r t = some o) : wO o ≤ wO out + w1 r := by
  unfold putJ at hp
  have ho : wO (out ++ [one r t]) = wO out + w1 r := by
    rw [wO_append]; simp [wO, one, w1]
  cases hf : find out t with
  | none =>
    rw [hf] at hp
    obtain rfl := Option.some.inj hp
    omega
  | some i =>
    rw [hf] at hp
    simp only at hp
    split at hp
    · split at hp
      · obtain rfl := Option.some.inj hp; omega
      · cases hp
    · split at hp
      · cases hp
      · split at hp
        · cases hp
        · obtain rfl := Option.some.inj hp
          have := wO_set (find_lt hf) r
          omega
theorem wO_row {r : Rl} : ∀ {ts : List ByteArray} {out o : List Rl}, rowJ r ts out = some o → wO o ≤ wO out + ts.length * w1 r
  | [], out, o, e => by
    rw [rowJ] at e
    rw [← Option.some.inj e]; omega
  | t :: ts, out, o, e => by
    rw [rowJ] at e
    obtain ⟨o1, h1, h2⟩ := Option.bind_eq_some_iff.1 e
    have := wO_put h1
    have := wO_row h2
    rw [List.length_cons, Nat.succ_mul]
    omega
theorem wO_join : ∀ {l out o : List Rl}, joinJ l out = .inl o → wO o ≤ wO out + wL l
  | [], out, o, e => by
    rw [joinJ] at e
    rw [← Sum.inl.inj e]; omega
  | r :: rs, out, o, e => by
    rw [joinJ] at e
    cases hr : rowJ r r.t out with
    | none => rw [hr] at e; cases e
    | some o1 =>
      rw [hr] at e
      have := wO_row hr
      have := wO_join e
      rw [wL_cons]
      omega
theorem wL_fine : ∀ {out : List Rl}, (∀ y ∈ out, ∃ t, y.t = [t]) → wL out = wO out
  | [], _ => rfl
  | y :: out, h => by
    have ih := wL_fine (out := out) (fun z hz => h z (List.mem_cons_of_mem _ hz))
    obtain ⟨t, ht⟩ := h y List.mem_cons_self
    rw [wL_cons, ih, ht]
    simp only [wO, w1, List.map_cons, List.sum_cons, List.length_cons, List.length_nil]
    omega
theorem fine_bound {l out : List Rl} (h : Fine out) (hj : joinJ l [] = .inl out) (hb : 2 * wL l + l.length ≤ bound) : wL out + out.length ≤ bound := by
  have h1 := wO_join hj
  have h2 := wO_len out
  rw [wL_fine h.one_]
  simp only [wO, List.map_nil, List.sum_nil] at h1 h2 ⊢
  omega
def Nm (y : Rl) : Prop := ∀ t ∈ y.t, t.size ≤ 1000000000
theorem names_put {out o : List Rl} {r : Rl} {t : ByteArray} (h : ∀ y ∈ out, Nm y) (ht : t.size ≤ 1000000000) (hp : putJ out r t = some o) : ∀ y ∈ o, Nm y := by
  have h1 : Nm (one r t) := fun s hs => by
    simp only [one, List.mem_singleton] at hs
    rw [hs]; exact ht
  have ha : ∀ y ∈ out ++ [one r t], Nm y := fun y hy => by
    rcases List.mem_append.1 hy with hy | hy
    · exact h y hy
    · rw [List.mem_singleton.1 hy]; exact h1
  unfold putJ at hp
  cases hf : find out t with
  | none =>
    rw [hf] at hp
    obtain rfl := Option.some.inj hp
    exact ha
  | some i =>
    rw [hf] at hp
    simp only at hp
    split at hp
    · split at hp
      · obtain rfl := Option.some.inj hp; exact ha
      · cases hp
    · split at hp
      · cases hp
      · split at hp
        · cases hp
        · obtain rfl := Option.some.inj hp
          intro y hy
          rcases List.mem_or_eq_of_mem_set hy with hy | hy
          · exact h y hy
          · have hm := List.mem_of_getElem? (getD_get (find_lt hf))
            rw [hy]
            exact fun s hs => h _ hm s hs
theorem names_row {r : Rl} : ∀ {ts : List ByteArray} {out o : List Rl}, (∀ y ∈ out, Nm y) → (∀ t ∈ ts, t.size ≤ 1000000000) → rowJ r ts out = some o → ∀ y ∈ o, Nm y
  | [], out, o, h, _, e => by
    rw [rowJ] at e
    rw [← Option.some.inj e]; exact h
  | t :: ts, out, o, h, ht, e => by
    rw [rowJ] at e
    obtain ⟨o1, h1, h2⟩ := Option.bind_eq_some_iff.1 e
    exact names_row (names_put h (ht t List.mem_cons_self) h1) (fun s hs => ht s (List.mem_cons_of_mem _ hs)) h2
theorem names_join : ∀ {l out o : List Rl}, (∀ y ∈ out, Nm y) → (∀ r ∈ l, Nm r) → joinJ l out = .inl o → ∀ y ∈ o, Nm y
  | [], out, o, h, _, e => by
    rw [joinJ] at e
    rw [← Sum.inl.inj e]; exact h
  | r :: rs, out, o, h, hl, e => by
    rw [joinJ] at e
    cases hr : rowJ r r.t out with
    | none => rw [hr] at e; cases e
    | some o1 =>
      rw [hr] at e
      exact names_join (names_row h (hl r List.mem_cons_self) hr) (fun s hs => hl s (List.mem_cons_of_mem _ hs)) e
theorem fine_names {l out : List Rl} (h : Fine out) (hj : joinJ l [] = .inl out) (hk : ∀ r ∈ l, ∀ t ∈ r.t, t.size ≤ 1000000000 ∧ r.t.length ≤ bound) : ∀ y ∈ out, ∀ t ∈ y.t, t.size ≤ 1000000000 ∧ y.t.length ≤ bound := fun y hy t ht => by
  refine ⟨names_join (fun _ h => absurd h List.not_mem_nil) (fun r hr s hs => (hk r hr s hs).1) hj y hy t ht, ?_⟩
  obtain ⟨s, hs⟩ := h.one_ y hy
  rw [hs]
  simp [bound]
set_option maxHeartbeats 8000000 in
set_option maxRecDepth 100000 in
theorem RuleOnceWalk (W : World) (A : Option Addr) (cap : Nat) (l : List Rl) (hr : Kd.C kR W A l.length l) (hc : l.length ≤ cap) (hk : ∀ r ∈ l, ∀ t ∈ r.t, t.size ≤ 1000000000 ∧ r.t.length ≤ bound) (hw : 2 * wL l + l.length ≤ bound ∨ farB l = true) :
    Calls Tryd.prog 4 #[.slice A l.length cap] W fun e W' => e = .returned (.bool true) ∧ Below W.heap.size W W' := by
  have HR := Aside0.mk hr
  have HC := Aside0.mk hc
  have HK := Aside0.mk hk
  have HW := Aside0.mk hw
  clear hr hc hk hw
  have hu27 := Tryd.underlying27
  have hu24 := Tryd.underlying24
  go_enter Tryd.func4, Tryd.ntmps4
  go_wp2_with (fail)
  refine (farW A cap l W HR.out HC.out).mono ?_
  rintro e w1 ⟨rfl, hb1⟩
  have HB1 := Aside0.mk hb1
  clear hb1
  cases hf : farB l with
  | true =>
    go_wp2_with (fail)
    refine (aliveW _).mono ?_
    rintro e w2 ⟨rfl, hb2⟩
    go_wp2_with (fail)
    go_ret
    exact ⟨rfl, below_then HB1.out HB1.out.size hb2⟩
  | false =>
    have hwl : 2 * wL l + l.length ≤ bound := by
      rcases HW.out with h | h
      · exact h
      · rw [hf] at h; cases h
    have HWL := Aside0.mk hwl
    clear hwl
    go_wp2_with (fail)
    refine (joinW A cap l w1 (Kd.C_below HR.out HB1.out) HC.out (by have := HWL.out; omega) HK.out).mono ?_
    intro e w2 ha
    cases hj : joinJ l [] with
    | inr z =>
      rw [hj] at ha
      obtain ⟨rfl, hb2⟩ := ha
      have HB2 := Aside0.mk (below_then HB1.out HB1.out.size hb2)
      clear hb2
      go_wp2_with (fail)
      refine (aliveW _).mono ?_
      rintro e w3 ⟨rfl, hb3⟩
      have hb4 := below_then (below_alloc HB2.out (.cells #[.int .i64 14, .int .i64 z] 27)) (below_alloc HB2.out _).size hb3
      go_wp2_with (fail)
      go_ret
      exact ⟨rfl, hb4⟩
    | inl out =>
      rw [hj] at ha
      obtain ⟨v, rfl, hR, hb2⟩ := ha
      have HB2 := Aside0.mk (below_then HB1.out HB1.out.size hb2)
      have HF := Aside0.mk (Fine.nil.join hj)
      obtain ⟨A2, c2, rfl, hc2, hC2⟩ := Kd.R_reads hR
      have HC2 := Aside0.mk hC2
      have hlo : out.length ≤ 100000000000 := by
        have h1 := wO_len out
        have h2 := wO_join hj
        have h3 := HWL.out
        unfold bound at h3
        simp only [wO, List.map_nil, List.sum_nil] at h2
        unfold wO at h1
        omega
      clear hb2 hR hC2
      go_wp2_with (fail)
      have HB3 := Aside0.mk (below_alloc HB2.out (.cells #[.int .i64 0, .int .i64 0] 27))
      have HC3 := Aside0.mk (Kd.C_below HC2.out (below_alloc (Below.refl _ _) (.cells #[.int .i64 0, .int .i64 0] 27)))
      generalize w2.alloc (.cells #[.int .i64 0, .int .i64 0] 27) = W3 at *
      go_loopw [30] (fun v30 wr => ∃ i : Int, v30 = .int .i64 i ∧ 0 ≤ i ∧ i ≤ out.length ∧ Aside0 (Below W.heap.size W wr) ∧ Aside0 (Kd.C kR wr A2 out.length out)) (fun v30 _ => out.length - (intOf v30).toNat)
      case atStart => exact ⟨0, rfl, by omega, by omega, HB3, HC3⟩
      case round =>
        obtain ⟨i, rfl, hi0, hi1, HBr, HCr⟩ := hrel
        by_cases hlt : i < out.length
        · have d0 : decide (i < (out.length : Int)) = true := decide_eq_true hlt
          have HII := Aside0.mk (And.intro hi0 hlt)
          obtain ⟨ad, c, e, hcl, hKc, hcc⟩ := Kd.C_get HCr.out nil i hi0 hlt
          subst e
          have hmem : out[i.toNat]? = some (out.getD i.toNat nil) := getD_get (by omega)
          obtain ⟨t, ht⟩ := HF.out.one_ (out.getD i.toNat nil) (List.mem_of_getElem? hmem)
          generalize out.getD i.toNat nil = y at hKc hmem ht
          obtain ⟨yt, yk, ys, yc, ya⟩ := y
          simp only at ht
          subst ht
          obtain ⟨A0, c0, A4, c4, A5, c5, rfl, ⟨hl0, hl2, hl3⟩, hC0, hC4, hC5⟩ := hKc
          have x0 := hcc 0 _ rfl
          have x1 := hcc 1 _ rfl
          have x2 := hcc 2 _ rfl
          have x3 := hcc 3 _ rfl
          have x4 := hcc 4 _ rfl
          simp only [kR, Nat.add_zero, List.length_cons, List.length_nil] at x0 x1 x2 x3 x4
          rw [add_field _ _ 1 (by omega)] at x1
          rw [add_field _ _ 2 (by omega)] at x2
          rw [add_field _ _ 3 (by omega)] at x3
          rw [add_field _ _ 4 (by omega)] at x4
          have HC0 := Aside0.mk hC0
          have HM := Aside0.mk hmem
          clear hcl hcc hC0 hC4 hC5 hmem hl0 hl2 hl3
          have hmx : max i 0 = i := by omega
          go_wp2_with (fail)
          obtain ⟨b6, hb6⟩ : ∃ b, wr.heap.size = b := ⟨_, rfl⟩
          have hbe := below_alloc (Below.refl _ wr) (.cells #[.slice A0 1 c0, .int .i64 yk, .slice A4 ys.length c4, .slice A5 yc.length c5, .int .i64 ya] TR (0, 0))
          have hk6 := heap_alloc_new wr (.cells #[.slice A0 1 c0, .int .i64 yk, .slice A4 ys.length c4, .slice A5 yc.length c5, .int .i64 ya] TR (0, 0))
          rw [hb6] at hk6
          simp only [hb6]
          have HK6 := Aside0.mk hk6
          have HB6 := Aside0.mk (below_then HBr.out HBr.out.size hbe)
          have HC6 := Aside0.mk (Kd.C_below HCr.out hbe)
          have H06 := Aside0.mk (Kd.C_below HC0.out hbe)
          clear hk6 hbe x0 x1 x2 x3 x4
          generalize wr.alloc (.cells #[.slice A0 1 c0, .int .i64 yk, .slice A4 ys.length c4, .slice A5 yc.length c5, .int .i64 ya] TR (0, 0)) = W6 at *
          go_loopw [43] (fun v43 wq => ∃ j : Int, v43 = .int .i64 j ∧ 0 ≤ j ∧ j ≤ i ∧ Aside0 (Below W.heap.size W wq) ∧ Aside0 (Kd.C kR wq (some ad) out.length out) ∧ Aside0 (wq.heap[b6]? = some (.cells #[.slice A0 1 c0, .int .i64 yk, .slice A4 ys.length c4, .slice A5 yc.length c5, .int .i64 ya] TR (0, 0))) ∧ Aside0 (Kd.string.C wq A0 [t].length [t])) (fun v43 _ => i.toNat - (intOf v43).toNat)
          case atStart => exact ⟨0, rfl, by omega, by omega, HB6, HC6, HK6, H06⟩
          case round =>
            obtain ⟨j, rfl, hj0, hj1, HBq, HCq, HKq, H0q⟩ := hrel
            by_cases hjt : j < i
            · have d1 : decide (j < i) = true := decide_eq_true hjt
              have HJJ := Aside0.mk (And.intro hj0 hjt)
              obtain ⟨ad', c', e', hcl', hKc', hcc'⟩ := Kd.C_get HCq.out nil j hj0 (by omega)
              injection e' with e'
              subst e'
              have hmem' : out[j.toNat]? = some (out.getD j.toNat nil) := getD_get (by omega)
              obtain ⟨t', ht'⟩ := HF.out.one_ (out.getD j.toNat nil) (List.mem_of_getElem? hmem')
              generalize out.getD j.toNat nil = z at hKc' hmem' ht'
              obtain ⟨zt, zk, zs, zc, za⟩ := z
              simp only at ht'
              subst ht'
              obtain ⟨B0, k0, B4, k4, B5, k5, rfl, ⟨_, _, _⟩, hD0, _, _⟩ := hKc'
              have z0 := hcc' 0 _ rfl
              have z1 := hcc' 1 _ rfl
              have z2 := hcc' 2 _ rfl
              have z3 := hcc' 3 _ rfl
              have z4 := hcc' 4 _ rfl
              simp only [kR, Nat.add_zero, List.length_cons, List.length_nil] at z0 z1 z2 z3 z4
              rw [add_field _ _ 1 (by omega)] at z1
              rw [add_field _ _ 2 (by omega)] at z2
              rw [add_field _ _ 3 (by omega)] at z3
              rw [add_field _ _ 4 (by omega)] at z4
              have y0 := (blk_cell HKq.out 0).trans rfl
              have y1 := (blk_cell HKq.out 1).trans rfl
              obtain ⟨a0, ea0, hx0⟩ := Kd.at_string H0q.out 0 (by omega) (by simp)
              subst ea0
              obtain ⟨a1, ea1, hx1⟩ := Kd.at_string hD0 0 (by omega) (by simp)
              subst ea1
              have hx0' : wr.cell? (a0.add 0) = some (.string t) := hx0
              have hx1' : wr.cell? (a1.add 0) = some (.string t') := hx1
              have HEQ := Aside0.mk (show t = t' → yk = 3 ∧ zk = 3 from fun e => HF.out.two (i := i.toNat) (j := j.toNat) HM.out hmem' (by omega) (by simp only [e]))
              clear hcl' hcc' hD0 hmem' hx0 hx1
              go_wp2_with (fail)
              obtain ⟨b8, hb8⟩ : ∃ b, wr.heap.size = b := ⟨_, rfl⟩
              have hbe := below_alloc (Below.refl _ wr) (.cells #[.slice (some a1) 1 k0, .int .i64 zk, .slice B4 zs.length k4, .slice B5 zc.length k5, .int .i64 za] TR (0, 0))
              have hk8 := heap_alloc_new wr (.cells #[.slice (some a1) 1 k0, .int .i64 zk, .slice B4 zs.length k4, .slice B5 zc.length k5, .int .i64 za] TR (0, 0))
              rw [hb8] at hk8
              simp only [hb8]
              have HB8 := Aside0.mk (below_then HBq.out HBq.out.size hbe)
              have HC8 := Aside0.mk (Kd.C_below HCq.out hbe)
              have HK8 := Aside0.mk (blk_below HKq.out hbe)
              have H08 := Aside0.mk (Kd.C_below H0q.out hbe)
              have hx0'' := pw_cell_below hbe hx0'
              have hx1'' := pw_cell_below hbe hx1'
              have HK9 := Aside0.mk hk8
              clear hbe hk8 hx0' hx1' z0 z1 z2 z3 z4 y0 y1
              generalize wr.alloc (.cells #[.slice (some a1) 1 k0, .int .i64 zk, .slice B4 zs.length k4, .slice B5 zc.length k5, .int .i64 za] TR (0, 0)) = W8 at *
              have y0 : W8.cell? ⟨b6, 0, none⟩ = some (.slice (some a0) 1 c0) := (blk_cell HK8.out 0).trans rfl
              have y1 : W8.cell? ⟨b6, 1, none⟩ = some (.int .i64 yk) := (blk_cell HK8.out 1).trans rfl
              have q0 : W8.cell? ⟨b8, 0, none⟩ = some (.slice (some a1) 1 k0) := (blk_cell HK9.out 0).trans rfl
              have q1 : W8.cell? ⟨b8, 1, none⟩ = some (.int .i64 zk) := (blk_cell HK9.out 1).trans rfl
              have hx0z : W8.cell? a0 = some (.string t) := by have h := hx0''; rwa [add0] at h
              have hx1z : W8.cell? a1 = some (.string t') := by have h := hx1''; rwa [add0] at h
              by_cases he : t = t'
              · obtain ⟨rfl, rfl⟩ := HEQ.out he
                subst he
                (try simp only [Act.put, List.setIfInBounds_toArray, List.set_cons_succ, List.set_cons_zero])
                go_quiet (fail)
                all_goals
                  go_wp2_with (fail)
                  go_roundw
                  case measure => exact msr2 HJJ.out.1 HJJ.out.2
                  case rel => exact ⟨j + 1, by go_num, by have := HJJ.out; omega, by have := HJJ.out; omega, ⟨pw_below_drewN HB8.out _⟩, ⟨Kd.C_below HC8.out (pw_below_drewN (Below.refl _ _) _)⟩, HK8, ⟨Kd.C_below H08.out (pw_below_drewN (Below.refl _ _) _)⟩⟩
              · have s1 : ¬ t.toList = t'.toList := fun e => he (ba_toList e)
                have s2 : (t.toList == t'.toList) = false := by simpa using s1
                have s3 : decide (t.toList = t'.toList) = false := decide_eq_false s1
                have s5 : decide (t = t') = false := decide_eq_false he
                (try simp only [Act.put, List.setIfInBounds_toArray, List.set_cons_succ, List.set_cons_zero])
                go_quiet (fail)
                all_goals
                  go_wp2_with (fail)
                  go_roundw
                  case measure => exact msr2 HJJ.out.1 HJJ.out.2
                  case rel => exact ⟨j + 1, by go_num, by have := HJJ.out; omega, by have := HJJ.out; omega, ⟨pw_below_drewN HB8.out _⟩, ⟨Kd.C_below HC8.out (pw_below_drewN (Below.refl _ _) _)⟩, HK8, ⟨Kd.C_below H08.out (pw_below_drewN (Below.refl _ _) _)⟩⟩
            · have d1 : decide (j < i) = false := decide_eq_false hjt
              go_wp2_with (fail)
              go_roundw
              case measure => exact msr HII.out.1 HII.out.2
              case rel => exact ⟨i + 1, by go_num, (nxt HII.out.1 HII.out.2).1, (nxt HII.out.1 HII.out.2).2, HBq, HCq⟩
        · have d0 : decide (i < (out.length : Int)) = false := decide_eq_false hlt
          have HBD := Aside0.mk (show ∀ x ∈ out, x.t.length ≤ 100000000000 ∧ x.s.length ≤ 100000000000 ∧ x.c.length ≤ 100000000000 from fun x hx => by
            have h1 := wO_join hj
            have h2 := HWL.out
            unfold bound at h2
            obtain ⟨i, hi⟩ := List.mem_iff_getElem?.1 hx
            have hil := (List.getElem?_eq_some_iff.1 hi).1
            have h3 := wO_at hil
            have h4 := getD_get hil
            rw [hi] at h4
            rw [← Option.some.inj h4] at h3
            obtain ⟨s, hs⟩ := HF.out.one_ x hx
            rw [hs]
            simp only [wO, List.map_nil, List.sum_nil, List.length_cons, List.length_nil] at h1 h3 ⊢
            omega)
          go_wp2_with (fail)
          refine (joinW A2 c2 out wr HCr.out hc2 (fine_bound HF.out hj HWL.out) (fine_names HF.out hj HK.out)).mono ?_
          intro e w5 ha
          rw [again out [] HF.out, List.nil_append] at ha
          obtain ⟨v5, rfl, hR5, hb5⟩ := ha
          have HB5 := Aside0.mk (below_then HBr.out HBr.out.size hb5)
          have HC5 := Aside0.mk (Kd.C_below HCr.out hb5)
          obtain ⟨A5, c5, rfl, hc5, hC5⟩ := Kd.R_reads hR5
          have HD5 := Aside0.mk hC5
          clear hb5 hR5 hC5
          go_wp2_with (fail)
          have HB7 := Aside0.mk (below_alloc HB5.out (.cells #[.int .i64 0, .int .i64 0] 27 (0, 0)))
          refine (allW A2 A5 c2 c5 out _ (Kd.C_below HC5.out (below_alloc (Below.refl _ _) _)) (Kd.C_below HD5.out (below_alloc (Below.refl _ _) _)) hc2 hc5 hlo HBD.out).mono ?_
          rintro e w7 ⟨rfl, hb7⟩
          have HB8 := Aside0.mk (below_then HB7.out HB7.out.size hb7)
          go_wp2_with (fail)
          refine (aliveW _).mono ?_
          rintro e w8 ⟨rfl, hb8⟩
          go_wp2_with (fail)
          go_ret
          exact ⟨rfl, below_then HB8.out HB8.out.size hb8⟩
end Go.Proofs.YtapfblaejmenlaaDoor.Rj
