/- The document's Find and Is, walked. -/
import Derived.Test.YtnjpdhekeffpnaaRxSb
import Derived.Test.YtnjpdhekeffpnaaRxLa
set_option linter.unusedVariables false
set_option linter.unusedSimpArgs false
namespace Go.Proofs.Ytnjpdhekeffpnaa.Rx
open Go.RowKit Go.Proofs.YtnjpdhekeffpnaaW.PrintWords Go.Proofs.YtnjpdhekeffpnaaW.PrintLast Go.Proofs.YtnjpdhekeffpnaaW.PrintMore

theorem first_hit {s : ByteArray} {e : Re} {n i k : Nat} {R : Option (Nat × Int)} (h : FindS s e n R) (hn : n ≤ i) (hi : i ≤ s.size) (hm : M s e i k) (h1 : ∀ i' j : Nat, n ≤ i' → i' < i → ¬ M s e i' j) (h2 : ∀ j : Nat, k < j → ¬ M s e i j) : R = some (i, (k : Int)) := by
  cases R with
  | none => exact absurd hm (h i k hn hi)
  | some q =>
    obtain ⟨i', z⟩ := q
    obtain ⟨g1, g2, ⟨j, rfl, g3, g4⟩, g5⟩ := h
    rcases Nat.lt_trichotomy i i' with g | rfl | g
    · exact absurd hm (g5 i k hn g)
    · rcases Nat.lt_trichotomy j k with g | rfl | g
      · have := g4 k hm; omega
      · rfl
      · exact absurd g3 (h2 j g)
    · exact absurd g3 (h1 i' j g1 g)
theorem first_none {s : ByteArray} {e : Re} {n : Nat} {R : Option (Nat × Int)} (h : FindS s e n R) (h1 : ∀ i' j : Nat, n ≤ i' → i' ≤ s.size → ¬ M s e i' j) : R = none := by
  cases R with
  | none => rfl
  | some q =>
    obtain ⟨i', z⟩ := q
    obtain ⟨g1, g2, ⟨j, rfl, g3, g4⟩, g5⟩ := h
    exact absurd g3 (h1 i' j g1 g2)
theorem find_far (p s : ByteArray) (z : Int) (h : z < 0 ∨ (s.size : Int) < z) : findP s (stepsB p) (firstB p) z = none := by
  unfold findP
  split
  · rfl
  · rw [findL, if_pos (by omega)]
theorem out_from {s : ByteArray} {e : Re} {i : Nat} {out : List Bool} (h : OutS s e (fromL (s.size + 1) i) out) (hi : i ≤ s.size) (j : Nat) (hj : j ≤ s.size) : out.getD j false = true ↔ M s e i j := by
  rw [h.2 j hj]
  constructor
  · rintro ⟨k, h1, h2, h3⟩
    have := (fromL_get (s.size + 1) i k (by omega)).1 h2
    rw [← this]; exact h3
  · intro h1
    exact ⟨i, hi, (fromL_get (s.size + 1) i i (by omega)).2 rfl, h1⟩
set_option maxHeartbeats 8000000 in
set_option maxRecDepth 100000 in
theorem refIsW (w : World) (p s : ByteArray) (nd : Nd) (k : Int) (As : Option Addr) (ns cs : Nat) (Al : Option Addr) (nl cl : Nat) (hM : knd.M w 0 (fun _ => True) nd [.int .i64 k, .slice As ns cs, .slice Al nl cl]) (hf : faultB p = none) (hRT : RT nd (readE p).1) (hs : s.size ≤ 100000) :
    Calls Try.prog 18 #[.agg #[.int .i64 k, .slice As ns cs, .slice Al nl cl], .string s] w fun e w' => e = .returned (.bool (isP s (stepsB p) (firstB p))) ∧ Below w.heap.size w w' := by
  have hu32 := Try.underlying32
  have HE := Aside0.mk (⟨endsW s hs nd _ hRT, hf⟩ : EndsOk s nd (readE p).1 ∧ faultB p = none)
  have HM := Aside0.mk hM
  have hsz : (s.size : Int) ≤ 100000 := by omega
  have hsz0 : (0 : Int) ≤ (s.size : Int) := Int.natCast_nonneg _
  have HS := Aside0.mk hs
  clear hM hf hRT hs
  go_enter Try.func18, Try.ntmps18
  go_wp2_with (first | (((with_reducible refine gate_dst (N := 2) rfl ?_); (try (refine gate_guard (by rfl) ?_; dsimp only)); refine box_event ?hg (N := 2) ?hd (cs := #[.int .i64 k, .slice As ns cs, .slice Al nl cl]) (t := TN) ?hr ?_; (case hd => rfl); (case hg => rfl); (case hr => first | (go_simp; done) | (go_simp; rfl)); intro x ex wx hx lx; have Ex := Aside0.mk ex; clear ex); have hxx := hx; (have x0 : wx.cell? ⟨x, 0, none⟩ = some (.int .i64 (k)) := (blk_cell hxx 0).trans rfl; have x1 : wx.cell? ⟨x, 1, none⟩ = some (.slice As ns cs) := (blk_cell hxx 1).trans rfl; have x2 : wx.cell? ⟨x, 2, none⟩ = some (.slice Al nl cl) := (blk_cell hxx 2).trans rfl)) | fail)
  have hF := fun (W : World) => fromW W s 0 (Int.le_refl _) hsz0 (by omega)
  (try go_wp2_with (fail))
  go_region_with (first
    | (go_at_call 31; (with_reducible refine (hF _).mono ?_); rintro e2 w2 ⟨g2, c2, rfl, hA2, hl2⟩; have hl3 : Below wx.heap.size wx w2 := below_then (below_drew (Below.refl _ _)) (Nat.le_refl _) hl2; have r0 := pw_cell_below hl3 x0; have r1 := pw_cell_below hl3 x1; have r2 := pw_cell_below hl3 x2; have ihE := HE.out.1 w2 k As ns cs Al nl cl g2 c2 _ (Kd.M_below (Kd.M_below HM.out lx) hl3) hA2 (fromL_len _ _))
    | (go_at_call 30; (with_reducible refine ihE.mono ?_); rintro e3 w3 ⟨g3, c3, o3, rfl, hA3, hO3, hl4⟩; have ce := hA3.at s.size (by rw [hO3.1]; omega))
    | fail)
  all_goals
    (try go_wp2_with (fail))
    go_ret
    have hb : o3.getD s.size false = isP s (stepsB p) (firstB p) := by
      rw [Bool.eq_iff_iff, isP_M _ _ HE.out.2]
      exact out_from hO3 (Nat.zero_le _) s.size (Nat.le_refl _)
    exact ⟨by rw [← hb]; try rfl, below_then (below_then lx lx.size hl3) (Nat.le_trans lx.size hl3.size) hl4⟩
theorem findV_some (i : Nat) (k : Int) : findV (some (i, k)) = .tuple #[.int .i64 (i : Int), .int .i64 k, .bool true] := rfl
set_option maxHeartbeats 16000000 in
set_option maxRecDepth 100000 in
theorem refFindW (w : World) (p s : ByteArray) (z : Int) (nd : Nd) (k : Int) (As : Option Addr) (ns cs : Nat) (Al : Option Addr) (nl cl : Nat) (hM : knd.M w 0 (fun _ => True) nd [.int .i64 k, .slice As ns cs, .slice Al nl cl]) (hf : faultB p = none) (hRT : RT nd (readE p).1) (hs : s.size ≤ 100000) :
    Calls Try.prog 16 #[.agg #[.int .i64 k, .slice As ns cs, .slice Al nl cl], .string s, .int .i64 z] w fun e w' => e = .returned (findV (findP s (stepsB p) (firstB p) z)) ∧ Below w.heap.size w w' := by
  have hu32 := Try.underlying32
  obtain ⟨R, hR⟩ : ∃ R, findP s (stepsB p) (firstB p) z = R := ⟨_, rfl⟩
  rw [hR]
  have HE := Aside0.mk (⟨endsW s hs nd _ hRT, hf, hR⟩ : EndsOk s nd (readE p).1 ∧ faultB p = none ∧ findP s (stepsB p) (firstB p) z = R)
  have HM := Aside0.mk hM
  have hsz : (s.size : Int) ≤ 100000 := by omega
  have hsz0 : (0 : Int) ≤ (s.size : Int) := Int.natCast_nonneg _
  clear hM hf hRT hR
  go_enter Try.func16, Try.ntmps16
  by_cases hz : z < 0
  · have d0 : decide (z < 0) = true := decide_eq_true hz
    have hRn : R = none := by rw [← HE.out.2.2, findP, if_pos hz]
    subst hRn
    clear hz
    go_wp2_with (first | (((with_reducible refine gate_dst (N := 3) rfl ?_); (try (refine gate_guard (by rfl) ?_; dsimp only)); refine box_event ?hg (N := 3) ?hd (cs := #[.int .i64 k, .slice As ns cs, .slice Al nl cl]) (t := TN) ?hr ?_; (case hd => rfl); (case hg => rfl); (case hr => first | (go_simp; done) | (go_simp; rfl)); intro x ex wx hx lx; have Ex := Aside0.mk ex; clear ex)) | fail)
    refine bodyPost_ret (by simp [results, Try.results16, go_sem]; try rfl) rfl ?_
    exact ⟨rfl, lx⟩
  · have d0 : decide (z < 0) = false := decide_eq_false hz
    have z0 : 0 ≤ z := by omega
    have HFS := Aside0.mk (show FindS s (readE p).1 z.toNat R by rw [← HE.out.2.2]; have := findP_M p s HE.out.2.1 z.toNat; rwa [Int.toNat_of_nonneg z0] at this)
    have HZ := Aside0.mk hz
    clear hz
    go_wp2_with (first | (((with_reducible refine gate_dst (N := 3) rfl ?_); (try (refine gate_guard (by rfl) ?_; dsimp only)); refine box_event ?hg (N := 3) ?hd (cs := #[.int .i64 k, .slice As ns cs, .slice Al nl cl]) (t := TN) ?hr ?_; (case hd => rfl); (case hg => rfl); (case hr => first | (go_simp; done) | (go_simp; rfl)); intro x ex wx hx lx; have Ex := Aside0.mk ex; clear ex)) | fail)
    have HX1 := Aside0.mk hx
    have HL1 := Aside0.mk lx
    clear hx lx
    go_loopg [9] ((s.size : Int) + 2).toNat (fun kq v9 wr => ∃ i : Int, v9 = .int .i64 i ∧ Aside0 (z ≤ i ∧ (i ≤ (s.size : Int) + 1 ∨ i = z) ∧ i + kq ≥ (s.size : Int) + 2 ∧ ∀ i' j : Nat, z.toNat ≤ i' → (i' : Int) < i → ¬ M s (readE p).1 i' j) ∧ Aside0 (wr.heap[x]? = some (.cells #[.int .i64 k, .slice As ns cs, .slice Al nl cl] TN (0, 0))) ∧ Aside0 (Below w.heap.size w wr))
    case atStart => exact ⟨z, rfl, ⟨by omega, .inr rfl, by omega, fun i' j h1 h2 => by omega⟩, HX1, HL1⟩
    case round =>
      clear HX1 HL1
      obtain ⟨i, rfl, HI, HX, HW⟩ := hrel
      have i0 : 0 ≤ i := by have := HI.out; omega
      by_cases hi : i ≤ (s.size : Int)
      · have d1 : decide (i ≤ (s.size : Int)) = true := decide_eq_true hi
        obtain ⟨ko, rfl⟩ : ∃ ko, gk = ko + 1 := ⟨gk - 1, by have := HI.out; omega⟩
        have hxx := HX.out
        (have x0 : wr.cell? ⟨x, 0, none⟩ = some (.int .i64 (k)) := (blk_cell hxx 0).trans rfl; have x1 : wr.cell? ⟨x, 1, none⟩ = some (.slice As ns cs) := (blk_cell hxx 1).trans rfl; have x2 : wr.cell? ⟨x, 2, none⟩ = some (.slice Al nl cl) := (blk_cell hxx 2).trans rfl)
        have hF := fun (W : World) => fromW W s i i0 hi (by omega)
        have dn : i + 1 < 9223372036854775808 := by omega
        clear hxx
        go_wp2_with (fail)
        go_region_with (first
          | (go_at_call 31; (with_reducible refine (hF _).mono ?_); rintro e2 w2 ⟨g2, c2, rfl, hA2, hl2⟩; have hl3 : Below wr.heap.size wr w2 := below_then (below_drew (Below.refl _ _)) (Nat.le_refl _) hl2; have r0 := pw_cell_below hl3 x0; have r1 := pw_cell_below hl3 x1; have r2 := pw_cell_below hl3 x2; have ihE := HE.out.1 w2 k As ns cs Al nl cl g2 c2 _ (Kd.M_below (Kd.M_below HM.out HW.out) hl3) hA2 (fromL_len _ _))
          | (go_at_call 30; (with_reducible refine ihE.mono ?_); rintro e3 w3 ⟨g3, c3, o3, rfl, hA3, hO3, hl4⟩)
          | fail)
        all_goals
          have hl5 := below_then hl3 hl3.size hl4
          have HO := Aside0.mk (show ∀ j, j ≤ s.size → (o3.getD j false = true ↔ M s (readE p).1 i.toNat j) from fun j hj => out_from hO3 (by omega) j hj)
          have HOL := Aside0.mk hO3.1
          have HX2 := Aside0.mk (blk_below HX.out hl5)
          have HW2 := Aside0.mk (below_then HW.out HW.out.size hl5)
          have HA2 := Aside0.mk hA3
          clear hA3 hO3 hl4 hl5 hl3 hl2 hA2 ihE x0 x1 x2 r0 r1 r2 hF
          (try go_wp2_with (fail))
          go_loopg [11] ((s.size : Int) + 2).toNat (fun kq v11 wi => ∃ q : Int, v11 = .int .i64 q ∧ Aside0 (i ≤ q + 1 ∧ q ≤ (s.size : Int) ∧ q + 2 ≤ kq ∧ 1 ≤ kq ∧ ∀ j : Nat, q < (j : Int) → ¬ M s (readE p).1 i.toNat j) ∧ Aside0 (BoolAt wi 0 g3 c3 o3) ∧ Aside0 (wi.heap[x]? = some (.cells #[.int .i64 k, .slice As ns cs, .slice Al nl cl] TN (0, 0))) ∧ Aside0 (Below w.heap.size w wi))
          case atStart => exact ⟨(s.size : Int), rfl, ⟨by omega, by omega, by omega, by omega, fun j hj hm => by have := M_hi s _ _ _ hm (by omega); omega⟩, HA2, HX2, HW2⟩
          case round =>
            clear HA2 HX2 HW2 HX HW
            obtain ⟨q, rfl, HQ, HA, HX, HW⟩ := hrel
            by_cases hq : q ≥ i
            · have d2 : decide (q ≥ i) = true := decide_eq_true hq
              have q0 : 0 ≤ q := by omega
              have q1 : q < (s.size : Int) + 1 := by have := HQ.out; omega
              obtain ⟨k1, rfl⟩ : ∃ k1, gk = k1 + 1 := ⟨gk - 1, by have := HQ.out; omega⟩
              have cq := HA.out.at q.toNat (by rw [HOL.out]; omega)
              have hiff := HO.out q.toNat (by omega)
              obtain ⟨xb, hxb⟩ : ∃ xb, o3.getD q.toNat false = xb := ⟨_, rfl⟩
              rw [hxb] at cq hiff
              cases xb
              · have HM2 := Aside0.mk (show ¬ M s (readE p).1 i.toNat q.toNat from fun h => by have := hiff.2 h; cases this)
                have HQQ := Aside0.mk hq
                clear hiff hxb hq
                go_wp2_with (fail)
                go_roundg k1
                case measure => have := HQ.out; omega
                case rel =>
                  refine ⟨q - 1, rfl, ⟨by have := HQQ.out; omega, by omega, by have := HQ.out; omega, by have := HQ.out; have := HQQ.out; omega, fun j hj => ?_⟩, HA, HX, HW⟩
                  by_cases hjq : (j : Int) = q
                  · rw [show j = q.toNat by omega]; exact HM2.out
                  · exact HQ.out.2.2.2.2 j (by omega)
              · have hm := hiff.1 rfl
                have hR2 := first_hit HFS.out (i := i.toNat) (k := q.toNat) (by have := HI.out; omega) (by omega) hm (fun i' j h1 h2 => HI.out.2.2.2 i' j h1 (by omega)) (fun j h1 => HQ.out.2.2.2.2 j (by omega))
                have HR2 := Aside0.mk hR2
                clear hiff hxb hm hR2 hq
                go_wp2_with (fail)
                refine bodyPost_ret (by simp [results, Try.results16, go_sem]; try rfl) rfl ?_
                refine ⟨?_, HW.out⟩
                rw [HR2.out, findV_some, Int.toNat_of_nonneg i0, Int.toNat_of_nonneg q0]
            · have d2 : decide (q ≥ i) = false := decide_eq_false hq
              have HNN := Aside0.mk (show ∀ j : Nat, ¬ M s (readE p).1 i.toNat j from fun j hm => by
                have h1 := M_le s _ _ _ hm
                exact HQ.out.2.2.2.2 j (by omega) hm)
              clear hq
              go_wp2_with (fail)
              go_roundg ko
              case measure => have := HI.out; omega
              case rel =>
                refine ⟨i + 1, rfl, ⟨by have := HI.out; omega, .inl (by omega), by have := HI.out; omega, fun i' j h1 h2 => ?_⟩, HX, HW⟩
                by_cases hji : (i' : Int) = i
                · rw [show i' = i.toNat by omega]; exact HNN.out j
                · exact HI.out.2.2.2 i' j h1 (by omega)
      · have d1 : decide (i ≤ (s.size : Int)) = false := decide_eq_false hi
        have hRn := first_none HFS.out (fun i' j h1 h2 => HI.out.2.2.2 i' j h1 (by omega))
        subst hRn
        clear hi
        go_wp2_with (fail)
        refine bodyPost_ret (by simp [results, Try.results16, go_sem]; try rfl) rfl ?_
        exact ⟨rfl, HW.out⟩
theorem comp_blk {w6 : World} {p f : Nat} {y0 y1 y2 : Value} (hp : w6.heap[p]? = some (.cells #[y0, y1, y2] TN (0, 0))) (hpf : p ≠ f) (k : Int) (vs vk : Value) (a c : Int) :
    ∀ w9, ((((w6.setCell ⟨p, 0, none⟩ (.int .i64 k)).setCell ⟨p, 1, none⟩ vs).setCell ⟨p, 2, none⟩ vk).setCell ⟨f, 0, none⟩ (.int .i64 a)).setCell ⟨f, 1, none⟩ (.int .i64 c) = w9 →
      w9.heap[p]? = some (.cells #[.int .i64 k, vs, vk] TN (0, 0)) := by
  rintro w9 rfl
  have h3 := set3 hp (.int .i64 k) vs vk
  exact (Below.heap_setCell _ ⟨f, 1, none⟩ (.int .i64 c) p hpf).trans ((Below.heap_setCell _ ⟨f, 0, none⟩ (.int .i64 a) p hpf).trans h3)
theorem knd_mk0 {b base : Nat} {w w' : World} {nd : Nd} {cs : List Value} (h : knd.M w base (fun _ => True) nd cs) (k : Mk b w w') (hb : b < base) : knd.M w' base (fun _ => True) nd cs :=
  knd.M_mono (fun _ _ => trivial) (Kd.M_step (knd.M_bound h) (fun q hq hs => k.keep q hs (by have := hq.2.1; omega)))
end Go.Proofs.Ytnjpdhekeffpnaa.Rx
