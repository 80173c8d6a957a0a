/- The document's set: Put, walked. -/
import Derived.Test.YtpgfffibiogekaaRefV
import Derived.Test.YtpgfffibiogekaaVarF
set_option linter.unusedVariables false
set_option linter.unusedSimpArgs false
namespace Go.Proofs.Ytpgfffibiogekaa.MS
open Go.RowKit Go.Proofs.YtpgfffibiogekaaW.PrintWords Go.Proofs.YtpgfffibiogekaaW.PrintLast Go.Proofs.YtpgfffibiogekaaW.PrintMore

theorem infoV : (Try.prog.info? 65).map (fun i => (i.zero, i.size, i.bytes)) = some (some (.agg #[.int .i64 0, .string ⟨#[]⟩, .string ⟨#[]⟩]), 3, 40) := by kernel_rfl
def setL (l : List V3) (n : Int) (s v : ByteArray) : List V3 := if atR n s l 0 < 0 then l ++ [(n, s, v)] else l.set (atR n s l 0).toNat ((l.getD (atR n s l 0).toNat (0, ByteArray.empty, ByteArray.empty)).1, (l.getD (atR n s l 0).toNat (0, ByteArray.empty, ByteArray.empty)).2.1, v)
def putRE (l : List V3) (n : Int) (s v : ByteArray) : Int := if (isSc n && rg s) = true then (if v.size > 65536 ∨ (atR n s l 0 < 0 ∧ 1024 ≤ manyR n l) then 5 else 0) else 1
def putRL (l : List V3) (n : Int) (s v : ByteArray) : List V3 := if putRE l n s v = 0 then setL l n s v else l
theorem getD_at (l : List V3) (j : Nat) (hj : j < l.length) (d : V3) : l.getD j d = l[j] := by simp [List.getD, List.getElem?_eq_getElem hj]
theorem kv_cells {w : World} {g n : Nat} {l : List V3} (h : Kd.C kv w (some ⟨g, 0, none⟩) n l) (j : Nat) (hj : j < l.length) : ∀ q u, ([.int .i64 l[j].1, .string l[j].2.1, .string l[j].2.2] : List Value)[q]? = some u → w.cell? ⟨g, (j : Int).toNat * kv.sz + q, none⟩ = some u := by
  obtain ⟨ad, e, h0, h1, h2⟩ := at_kv h j hj
  cases e
  have ha : (⟨g, 0, none⟩ : Addr).add (j * 3) = ⟨g, j * 3, none⟩ := by
    unfold Addr.add
    split
    · rename_i h; rw [h]
    · simp
  rw [ha] at h0 h1 h2
  have hz : kv.sz = 3 := rfl
  rw [Int.toNat_natCast, hz]
  intro q u hq
  match q, hq with
  | 0, hq => cases hq; exact h0
  | 1, hq => cases hq; exact h1
  | 2, hq => cases hq; exact h2
  | (q + 3), hq => simp at hq
theorem x0_far {w w' : World} {r j : Nat} (h : Below w.heap.size w w') (hr : r < w.heap.size) : w'.cell? ⟨r, j, none⟩ = w.cell? ⟨r, j, none⟩ := by
  unfold World.cell?
  rw [h.block r hr]
theorem RAt.put {w w' : World} {base r : Nat} {X : Nat → Prop} {l l' : List V3} {v' : Value} (h : RAt w base r X l) (hb : Below w.heap.size w w') (hR : Kd.R kv 65 w' base (fun k => k ≠ r ∧ ¬ X k) v' l') :
    RAt (w'.setCell ⟨r, 0, none⟩ v') base r X l' ∧ Fr base (fun _ => r) w (w'.setCell ⟨r, 0, none⟩ v') := by
  obtain ⟨h1, hX, v, h2, h3⟩ := h
  have hlt := blk_lt h2
  refine ⟨⟨h1, fun k hk => ?_, v', ?_, Kd.R_far (p := ⟨r, 0, none⟩) hR (fun k hk => hk.1) v'⟩, (below_then (Below.refl base w) (by omega) hb).setCell (p := ⟨r, 0, none⟩) h1 v', fun k hk hne => ?_⟩
  · have := hX k hk; have := hb.size; simp; omega
  · simpa using blk_set (blk_below h2 hb) 0 v'
  · rw [Below.heap_setCell w' ⟨r, 0, none⟩ v' k (hne 0 (by omega))]
    exact hb.block k hk
set_option maxHeartbeats 8000000 in
set_option maxRecDepth 100000 in
theorem putRW (w : World) (base r : Nat) (X : Nat → Prop) (l : List V3) (n : Int) (s v : ByteArray) (h : RAt w base r X l) (hl : l.length ≤ 500000) (hs : s.size ≤ 1000000000) (hv : v.size ≤ 1000000000) :
    Calls Try.prog 33 #[.pointer (some ⟨r, 0, none⟩), .int .i64 n, .string s, .string v] w fun e w' => e = .returned (.int .i64 (putRE l n s v)) ∧ RAt w' base r X (putRL l n s v) ∧ Fr base (fun _ => r) w w' := by
  have hu65 := Try.underlying65
  have HS := Aside0.mk h
  have hbl : base ≤ w.heap.size := by have := h.1; obtain ⟨_, _, vv, hh, _⟩ := h; have := blk_lt hh; omega
  go_enter Try.func33, Try.ntmps33
  cases hz : isSc n with
  | false =>
    have eE : putRE l n s v = 1 := by rw [putRE, hz]; rfl
    go_wp2_with (go_at_call 45; refine (scopeRW n _).mono ?_; rw [hz]; rintro e w1 ⟨rfl, rfl⟩)
    go_ret
    exact ⟨by rw [eE]; rfl, by rw [putRL, eE, if_neg (by decide)]; exact HS.out, Fr.refl _ _ _⟩
  | true =>
    go_wp2_with (first | (go_at_call 45; refine (scopeRW n _).mono ?_; rw [hz]; rintro e w ⟨rfl, rfl⟩) | fail)
    refine (rightRW s w hs).mono ?_
    rintro e w2 ⟨rfl, hb2⟩
    have hS2 := HS.out.below hb2
    have hF2 := Fr.of (m := fun _ => r) hbl hb2
    cases hr : rg s with
    | false =>
      have eE : putRE l n s v = 1 := by rw [putRE, hz, hr]; rfl
      go_wp2_with (fail)
      go_ret
      exact ⟨by rw [eE]; rfl, by rw [putRL, eE, if_neg (by decide)]; exact hS2, hF2⟩
    | true =>
      obtain ⟨q, hq⟩ : ∃ q, atR n s l 0 = q := ⟨_, rfl⟩
      have HA := atW w2 base r X l n s hS2 (by omega)
      have HM := manyRW w2 base r X l n hS2 (by omega)
      rw [hq] at HA
      go_wp2_with (fail)
      refine HA.mono ?_
      rintro e w3 ⟨rfl, rfl⟩
      have hAC := at_cases n s l 0
      rw [hq] at hAC
      have hF3 : Fr base (fun _ => r) w w3 := hF2
      obtain ⟨hb0, hX0, v0, hblk, hR⟩ := hS2
      have HS3 := Aside0.mk (show RAt w3 base r X l from ⟨hb0, hX0, v0, hblk, hR⟩)
      have hrl := blk_lt hblk
      obtain ⟨A, c, rfl⟩ := Kd.R_slice hR
      have hK := Aside0.mk (Kd.R_reads' hR).2.2
      have x0 : w3.cell? ⟨r, 0, none⟩ = some (.slice A l.length c) := (blk_cell hblk 0).trans rfl
      have HN := Aside0.mk (show ∀ k, w3.heap.size ≤ k → (k ≠ r ∧ ¬ X k) from fun k hk => ⟨by omega, fun hx => by have := hX0 k hx; omega⟩)
      have HBw := Aside0.mk hF3.1
      have HBs := Aside0.mk (show base ≤ w3.heap.size by omega)
      have HF3 := Aside0.mk hF3
      have HB0 := Aside0.mk hb0
      have hrl := Aside0.mk hrl
      have hblk := Aside0.mk hblk
      clear HA hR hX0 hF3 hF2 hb0 HS hb2
      by_cases hvb : v.size > 65536
      · have dv : decide ((65536 : Int) < (v.size : Int)) = true := decide_eq_true (by omega)
        have eE : putRE l n s v = 5 := by rw [putRE, hz, hr, if_pos (by rfl), if_pos (.inl hvb)]
        go_wp2_with (fail)
        go_ret
        exact ⟨by rw [eE]; rfl, by rw [putRL, eE, if_neg (by decide)]; exact HS3.out, HF3.out⟩
      · have dv : decide ((65536 : Int) < (v.size : Int)) = false := decide_eq_false (by omega)
        rcases hAC with ⟨-, hq2⟩ | ⟨j, hj, hq2, -, -, -⟩
        · have dq : decide (q < 0) = true := decide_eq_true (by omega)
          by_cases hcb : 1024 ≤ manyR n l
          · have dc : decide ((1024 : Int) ≤ (manyR n l : Int)) = true := decide_eq_true (by omega)
            have eE : putRE l n s v = 5 := by rw [putRE, hz, hr, if_pos (by rfl), hq, if_pos (.inr ⟨by omega, hcb⟩)]
            clear hq hq2
            go_wp2_with (go_at_call 46; refine HM.mono ?_; rintro e w3 ⟨rfl, rfl⟩)
            go_ret
            exact ⟨by rw [eE]; rfl, by rw [putRL, eE, if_neg (by decide)]; exact HS3.out, HF3.out⟩
          · have dc : decide ((1024 : Int) ≤ (manyR n l : Int)) = false := decide_eq_false (by omega)
            have eE : putRE l n s v = 0 := by rw [putRE, hz, hr, if_pos (by rfl), hq, if_neg (by rintro (e | ⟨-, e⟩); exact hvb e; exact hcb e)]
            have eL : putRL l n s v = l ++ [(n, s, v)] := by rw [putRL, eE, if_pos rfl, setL, hq, if_pos (by omega)]
            clear hq hq2
            go_wp2_with (first | (go_at_call 46; refine HM.mono ?_; rintro e w3 ⟨rfl, rfl⟩) | ((with_reducible refine gate_builtin (b := .append) (xs := #[.const (.slice none 0 0), .tmp 39]) rfl ?_); at_builtin; refine Kd.R_append_rows kv (w0 := w3) (Rr := kv.K w3) w3.heap.size rfl (.const (.slice none 0 0)) (.tmp 39) 43 65 (.agg #[.int .i64 0, .string ⟨#[]⟩, .string ⟨#[]⟩]) 40 rfl Try.underlying43 infoV rfl (by decide) (by decide) (.slice none 0 0) [] l A l.length c (fun _ => True) (fun _ => False) rfl rfl ?aO ?aR ?aK ?aF ?aN ?aB ?aS ?aL ?_; (case aO => exact Kd.R_nil _ _ _ _ _); (case aR => exact hK.out); (case aK => exact fun x cs hk => by rw [kv_open hk]; exact kv_mkM _ _ _ x); (case aF => exact fun _ hk => hk.elim); (case aN => exact fun _ _ => trivial); (case aB => exact Below.refl _ _); (case aS => exact Nat.le_refl _); (case aL => simp; omega); intro v1 w5 hR5 hB5 hg5 hat5; have HR5 := Aside0.mk hR5; have HB5 := Aside0.mk hB5; clear hR5 hB5 hg5 hat5) | ((with_reducible refine gate_builtin (b := .append) (xs := #[.tmp 43, .tmp 48]) rfl ?_); at_builtin; refine Kd.R_append kv (w0 := w3) w3.heap.size rfl (.tmp 43) (.tmp 48) 43 65 (.agg #[.int .i64 0, .string ⟨#[]⟩, .string ⟨#[]⟩]) 40 rfl Try.underlying43 infoV rfl (by decide) (by decide) v1 l (n, s, v) [.int .i64 n, .string s, .string v] (fun _ => True) (fun _ => False) rfl rfl ?aP ?aF ?aN ?aO ?aB ?aS ?aL ?_; (case aP => exact kv_mkM _ _ _ (n, s, v)); (case aF => exact fun _ hk => hk.elim); (case aN => exact fun _ _ => trivial); (case aO => exact HR5.out); (case aB => exact HB5.out); (case aS => exact HB5.out.size); (case aL => omega); intro v2 w6 hR6 hB6 hg6 hat6; obtain ⟨A6, c6, e6⟩ := Kd.R_slice hR6; subst e6; have k6 := blk_below hblk.out hB6; have x6 : w6.cell? ⟨r, 0, none⟩ = some (.slice A l.length c) := (blk_cell k6 0).trans rfl; have f6 := blk_frozen k6 0; clear k6; have HR6 := Aside0.mk hR6; have HB6 := Aside0.mk hB6; clear hR6 hB6 hg6 hat6))
            go_ret
            obtain ⟨h1, h2⟩ := RAt.put HS3.out HB6.out (Kd.R_lower (Kd.R_mono (Kd.R_bound HR6.out) (fun k hk => HN.out k hk.2.1)) HBs.out)
            rw [List.length_append, List.length_singleton] at h1 h2
            exact ⟨by rw [eE]; rfl, by rw [eL]; exact h1, Fr.trans HF3.out h2⟩
        · have dq : decide (q < 0) = false := decide_eq_false (by omega)
          have eE : putRE l n s v = 0 := by rw [putRE, hz, hr, if_pos (by rfl), hq, if_neg (by rintro (e | ⟨e, -⟩); exact hvb e; omega)]
          have eL : putRL l n s v = l.set j (l[j].1, l[j].2.1, v) := by rw [putRL, eE, if_pos rfl, setL, hq, if_neg (by omega), hq2, Nat.zero_add, Int.toNat_natCast, getD_at l j hj]
          rw [Nat.zero_add] at hq2
          subst hq2
          have hpos := Aside0.mk (show 0 < l.length by omega)
          have hjj := Aside0.mk hj
          go_wp2_with (first | ((with_reducible refine gate_builtin (b := .append) (xs := #[.const (.slice none 0 0), .tmp 39]) rfl ?_); at_builtin; refine Kd.R_append_rows kv (w0 := w3) (Rr := kv.K w3) w3.heap.size rfl (.const (.slice none 0 0)) (.tmp 39) 43 65 (.agg #[.int .i64 0, .string ⟨#[]⟩, .string ⟨#[]⟩]) 40 rfl Try.underlying43 infoV rfl (by decide) (by decide) (.slice none 0 0) [] l A l.length c (fun _ => True) (fun _ => False) rfl rfl ?aO ?aR ?aK ?aF ?aN ?aB ?aS ?aL ?_; (case aO => exact Kd.R_nil _ _ _ _ _); (case aR => exact hK.out); (case aK => exact fun x cs hk => by rw [kv_open hk]; exact kv_mkM _ _ _ x); (case aF => exact fun _ hk => hk.elim); (case aN => exact fun _ _ => trivial); (case aB => exact Below.refl _ _); (case aS => exact Nat.le_refl _); (case aL => simp; omega); intro v1 w5 hR5 hB5 hg5 hat5; obtain ⟨g5, c5, e5, -⟩ := Kd.R_form hR5 hpos.out; subst e5; have HR5 := Aside0.mk hR5; have HB5 := Aside0.mk hB5; clear hR5 hB5 hg5 hat5) | ((with_reducible refine gate_store (p := 54) rfl ?_); refine Kd.R_store kv (w0 := w3) w3.heap.size rfl rfl 9 (.tmp 54) (.tmp 52) rfl 65 (g := g5) (n := l.length) (cap := c5) (j : Int) 2 l (l[j].1, l[j].2.1, v) (.string v) [.string v] [.int .i64 l[j].1, .string l[j].2.1, .string l[j].2.2] (fun _ => True) (fun _ => False) rfl ?sB rfl rfl ?sT ?s1 ?sO (Int.natCast_nonneg _) ?sI rfl ?sC (Nat.le_refl 3) ?sM (fun _ hk => hk.elim) ?sW ?_; (case sB => simp [Int.toNat_natCast]; rfl); (case sT => kernel_rfl); (case s1 => simp [Value.oneCell']); (case sO => exact HR5.out); (case sI => exact Int.ofNat_lt.mpr hjj.out); (case sC => exact kv_cells (Kd.R_reads' HR5.out).2.2 j hjj.out); (case sM => exact kv_mkM _ _ _ (l[j].1, l[j].2.1, v)); (case sW => exact HB5.out); intro w6 hR6 hB6 hg6; have k6 := blk_below hblk.out hB6; have x6 : w6.cell? ⟨r, 0, none⟩ = some (.slice A l.length c) := (blk_cell k6 0).trans rfl; have f6 := blk_frozen k6 0; clear k6; have HR6 := Aside0.mk hR6; have HB6 := Aside0.mk hB6; clear hR6 hB6 hg6))
          go_ret
          rw [Int.toNat_natCast] at HR6
          obtain ⟨h1, h2⟩ := RAt.put HS3.out HB6.out (Kd.R_lower (Kd.R_mono (Kd.R_bound HR6.out) (fun k hk => HN.out k hk.2.1)) HBs.out)
          exact ⟨by rw [eE]; rfl, by rw [eL]; exact h1, Fr.trans HF3.out h2⟩
end Go.Proofs.Ytpgfffibiogekaa.MS
