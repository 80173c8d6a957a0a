/- The document's set: Drop, walked. -/
import Derived.Test.YtpgfffibiogekaaRefP
import Derived.Deep.RegionHeld3
set_option linter.unusedVariables false
set_option linter.unusedSimpArgs false
namespace Go.Proofs.Ytpgfffibiogekaa.MS
open Go.RowKit Go.Proofs.YtpgfffibiogekaaW.PrintWords Go.Proofs.YtpgfffibiogekaaW.PrintLast Go.Proofs.YtpgfffibiogekaaW.PrintMore

theorem wrap1 (j : Nat) (h : j < 1000000) : IntKind.i64.wrap ((j : Int) + 1) = (j : Int) + 1 := by simp [IntKind.wrap, IntKind.bits, IntKind.signed]; omega
theorem takeC {w w' : World} {A : Option Addr} {l : List V3} (h : Kd.C kv w A l.length l) (hb : Below w.heap.size w w') {j : Nat} (hj : j < l.length) : Kd.C kv w' A j (l.take j) := by
  have h1 := Kd.C_below (Kd.C_take h (Nat.le_of_lt hj)) hb
  rwa [List.length_take, Nat.min_eq_left (Nat.le_of_lt hj)] at h1
theorem dropC {w w' : World} {ad : Addr} {l : List V3} {c : Nat} (h : Kd.C kv w (some ad) l.length l) (hb : Below w.heap.size w w') {j : Nat} (hj : j < l.length) (hc : l.length ≤ c) : Kd.C kv w' (if c = j + 1 then some ad else some (ad.add ((j + 1) * 3))) (l.length - (j + 1)) (l.drop (j + 1)) := by
  have h1 := Kd.C_below (Kd.C_drop (m := j + 1) (c := c) h (by omega) hc) hb
  rwa [List.length_drop] at h1
def dropRE (l : List V3) (n : Int) (s : ByteArray) : Int := if isSc n = true then (if atR n s l 0 < 0 then 6 else 0) else 1
def dropRL (l : List V3) (n : Int) (s : ByteArray) : List V3 := if dropRE l n s = 0 then l.eraseIdx (atR n s l 0).toNat else l
set_option maxHeartbeats 8000000 in
set_option maxRecDepth 100000 in
theorem dropRW (w : World) (base r : Nat) (X : Nat → Prop) (l : List V3) (n : Int) (s : ByteArray) (h : RAt w base r X l) (hl : l.length ≤ 500000) :
    Calls Try.prog 36 #[.pointer (some ⟨r, 0, none⟩), .int .i64 n, .string s] w fun e w' => e = .returned (.int .i64 (dropRE l n s)) ∧ RAt w' base r X (dropRL l n s) ∧ Fr base (fun _ => r) w w' := by
  have hu65 := Try.underlying65
  have hu43 := Try.underlying43
  have HS := Aside0.mk h
  have HA := atW w base r X l n s h (by omega)
  have HZ := scopeRW n w
  obtain ⟨hb, hX, vv, hblk, hR⟩ := h
  have hrl := Aside0.mk (blk_lt hblk)
  obtain ⟨A, c, rfl⟩ := Kd.R_slice hR
  have hcc := (Kd.R_reads' hR).2.1
  have hK := Aside0.mk (Kd.R_reads' hR).2.2
  have x0 : w.cell? ⟨r, 0, none⟩ = some (.slice A l.length c) := (blk_cell hblk 0).trans rfl
  have f0 := blk_frozen hblk 0
  have hblk := Aside0.mk hblk
  have HX := Aside0.mk hX
  have Hb := Aside0.mk hb
  clear hR hX hb
  go_enter Try.func36, Try.ntmps36
  cases hz : isSc n with
  | false =>
    have eE : dropRE l n s = 1 := by rw [dropRE, hz]; rfl
    rw [hz] at HZ
    go_wp2_with (first | (go_at_call 45; refine HZ.mono ?_; rintro e w ⟨rfl, rfl⟩))
    go_ret
    exact ⟨by rw [eE]; rfl, by rw [dropRL, eE, if_neg (by decide)]; exact HS.out, Fr.refl _ _ _⟩
  | true =>
    rw [hz] at HZ
    rcases at_cases n s l 0 with ⟨h1, h2⟩ | ⟨j, hj, h2, h1, -, -⟩
    · have eE : dropRE l n s = 6 := by rw [dropRE, hz, if_pos rfl, h2]; rfl
      rw [h2] at HA
      clear h1 h2
      go_wp2_with (first | (go_at_call 45; refine HZ.mono ?_; rintro e w ⟨rfl, rfl⟩) | (go_at_call 38; refine HA.mono ?_; rintro e w ⟨rfl, rfl⟩))
      go_ret
      exact ⟨by rw [eE]; rfl, by rw [dropRL, eE, if_neg (by decide)]; exact HS.out, Fr.refl _ _ _⟩
    · have eE : dropRE l n s = 0 := by rw [dropRE, hz, if_pos rfl, h2, if_neg (by omega)]
      have eL : dropRL l n s = l.eraseIdx j := by rw [dropRL, eE, if_pos rfl, h2, Nat.zero_add, Int.toNat_natCast]
      rw [Nat.zero_add] at h2
      rw [h2] at HA
      obtain ⟨ad, eA, -, -, -⟩ := at_kv hK.out j hj
      subst eA
      have d0 : decide ((j : Int) < 0) = false := decide_eq_false (by omega)
      clear h1 h2
      have i0 : (0 : Int) ≤ (j : Int) := by omega
      have i1 : (j : Int) ≤ (l.length : Int) := by omega
      have i2 : (j : Int) ≤ (c : Int) := by omega
      have i3 : (0 : Int) ≤ (j : Int) + 1 := by omega
      have i4 : (j : Int) + 1 ≤ (l.length : Int) := by omega
      have i5 : (l.length : Int) ≤ (c : Int) := by omega
      have i6 : IntKind.i64.wrap ((j : Int) + 1) = (j : Int) + 1 := wrap1 j (by omega)
      go_wp2_with (first | (go_at_call 45; refine HZ.mono ?_; rintro e w ⟨rfl, rfl⟩) | (go_at_call 38; refine HA.mono ?_; rintro e w ⟨rfl, rfl⟩))
      go_region_law
        (first | (refine Kd.R_append_rows_step kv (w0 := w) (Rr := kv.K w) w.heap.size (by rfl) (.const (.slice none 0 0)) (.tmp 23) 43 65 (.agg #[.int .i64 0, .string ⟨#[]⟩, .string ⟨#[]⟩]) 40 (by rfl) Try.underlying43 infoV (by rfl) (by decide) (by decide) (.slice none 0 0) [] (l.take j) (some ad) j c (fun _ => True) (fun _ => False) (by rfl) (by rfl) (Kd.R_nil _ _ _ _ _) (takeC hK.out (by first | exact below_drew (Below.refl _ _) | exact Below.refl _ _) hj) (fun x cs hk => by rw [kv_open hk]; exact kv_mkM _ _ _ x) (fun _ hk => hk.elim) (fun _ _ => trivial) (by first | exact below_drew (Below.refl _ _) | exact Below.refl _ _) (by simp) (by simp; omega) ?_; intro v5 w5 hR5 hB5 hg5 hat5; have x5 : w5.cell? ⟨r, 0, none⟩ = some (.slice (some ad) l.length c) := (x0_far hB5 hrl.out).trans x0) | (refine Kd.R_append_rows_step kv (w0 := w) (Rr := kv.K w) w.heap.size (by rfl) (.tmp 24) (.tmp 31) 43 65 (.agg #[.int .i64 0, .string ⟨#[]⟩, .string ⟨#[]⟩]) 40 (by rfl) Try.underlying43 infoV (by rfl) (by decide) (by decide) v5 (l.take j) (l.drop (j + 1)) (if c = j + 1 then some ad else some (ad.add ((j + 1) * 3))) (l.length - (j + 1)) (c - (j + 1)) (fun _ => True) (fun _ => False) (by rfl) (by rfl) hR5 (dropC hK.out hB5 hj hcc) (fun x cs hk => by rw [kv_open hk]; exact kv_mkM _ _ _ x) (fun _ hk => hk.elim) (fun _ _ => trivial) hB5 hB5.size (by simp; omega) ?_; intro v6 w6 hR6 hB6 hg6 hat6; obtain ⟨A6, c6, e6⟩ := Kd.R_slice hR6; subst e6; have x6 : w6.cell? ⟨r, 0, none⟩ = some (.slice (some ad) l.length c) := (x0_far hB6 hrl.out).trans x0; have f6 := blk_frozen (blk_below hblk.out hB6) 0))
      all_goals go_wp2_with (fail)
      all_goals
        go_ret
        have hR6 := hR6
        obtain ⟨h1, h2⟩ := RAt.put HS.out hB6 (Kd.R_lower (Kd.R_mono (Kd.R_bound hR6) (fun k hk => (⟨by have := hk.2.1; have := hrl.out; omega, fun hx => by have := HX.out k hx; have := hk.2.1; omega⟩ : k ≠ r ∧ ¬ X k))) (by have := hrl.out; have := Hb.out; omega))
        simp only [List.length_append, List.length_take, List.length_drop] at h1 h2
        exact ⟨by first | rfl | (rw [eE]; rfl), by (try rw [eL]); rw [List.eraseIdx_eq_take_drop_succ]; exact h1, h2⟩
end Go.Proofs.Ytpgfffibiogekaa.MS
