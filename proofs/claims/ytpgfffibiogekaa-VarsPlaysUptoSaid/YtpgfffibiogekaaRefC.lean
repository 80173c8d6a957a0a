/- The document's set: Clear, walked. -/
import Derived.Test.YtpgfffibiogekaaRefP
set_option linter.unusedVariables false
set_option linter.unusedSimpArgs false
namespace Go.Proofs.Ytpgfffibiogekaa.MS
open Go.RowKit Go.Proofs.YtpgfffibiogekaaW.PrintWords Go.Proofs.YtpgfffibiogekaaW.PrintLast Go.Proofs.YtpgfffibiogekaaW.PrintMore

def clearRL (l : List V3) (n : Int) : List V3 := l.filter fun x => x.1 != n
theorem filter_take (p : V3 → Bool) (l : List V3) (i : Nat) (hi : i < l.length) : (l.take (i + 1)).filter p = (l.take i).filter p ++ (if p l[i] = true then [l[i]] else []) := by
  rw [List.take_succ_eq_append_getElem hi, List.filter_append]
  cases h : p l[i] <;> simp [List.filter_cons, h]
theorem filter_len (p : V3 → Bool) (l : List V3) (i : Nat) : ((l.take i).filter p).length ≤ l.length := Nat.le_trans (List.length_filter_le _ _) (List.length_take_le' ..)
set_option maxHeartbeats 8000000 in
set_option maxRecDepth 100000 in
theorem clearRW (w : World) (base r : Nat) (X : Nat → Prop) (l : List V3) (n : Int) (h : RAt w base r X l) (hl : l.length ≤ 500000) :
    Calls Try.prog 37 #[.pointer (some ⟨r, 0, none⟩), .int .i64 n] w fun e w' => (∃ k : Int, e = .returned (.int .i64 k)) ∧ RAt w' base r X (clearRL l n) ∧ Fr base (fun _ => r) w w' := by
  have hu65 := Try.underlying65
  have HS := Aside0.mk h
  obtain ⟨hb, hX, v, hblk, hR⟩ := h
  have hrl := Aside0.mk (blk_lt hblk)
  obtain ⟨A, c, rfl⟩ := Kd.R_slice hR
  have hK := Aside0.mk (Kd.R_reads' hR).2.2
  have x0 : w.cell? ⟨r, 0, none⟩ = some (.slice A l.length c) := (blk_cell hblk 0).trans rfl
  have hblk := Aside0.mk hblk
  have HX := Aside0.mk hX
  have Hb := Aside0.mk hb
  clear hR hX hb
  obtain ⟨L, hL⟩ : ∃ L, l.length = L := ⟨_, rfl⟩
  rw [hL] at x0 hl
  go_enter Try.func37, Try.ntmps37
  go_wp2_with (fail)
  go_loopg [5, 6] (L + 1) (fun kq v5 v6 wr => ∃ (i : Nat) (v : Value), v6 = .int .i64 (i : Int) ∧ v = v5 ∧ Aside0 (i + kq = L + 1) ∧ Aside0 (Kd.R kv 65 wr w.heap.size (fun _ => True) v ((l.take i).filter fun x => x.1 != n)) ∧ Aside0 (Below w.heap.size w wr))
  case atStart => exact ⟨0, _, rfl, rfl, ⟨by omega⟩, ⟨Kd.R_nil _ _ _ _ _⟩, ⟨Below.refl _ _⟩⟩
  case round =>
    obtain ⟨i, v, rfl, rfl, HI, HR, HB⟩ := hrel
    have xr : wr.cell? ⟨r, 0, none⟩ = some (.slice A L c) := (x0_far HB.out hrl.out).trans x0
    clear x0
    by_cases hi : i < L
    · obtain ⟨k1, rfl⟩ : ∃ k1, gk = k1 + 1 := ⟨gk - 1, by have := HI.out; omega⟩
      have d0 : decide ((i : Int) < (L : Int)) = true := decide_eq_true (by omega)
      have d1 : decide ((0 : Int) ≤ (i : Int)) = true := decide_eq_true (by omega)
      have hil : i < l.length := by omega
      have hft := filter_take (fun x => x.1 != n) l i hil
      have hlen := Aside0.mk (show (((l.take i).filter fun x => x.1 != n).length + 1) * 40 ≤ 140737488355328 by have := filter_len (fun x => x.1 != n) l i; omega)
      obtain ⟨ad, eA, c0, c1, c2⟩ := at_kv (Kd.C_below hK.out HB.out) i hil
      obtain ⟨x, hx⟩ : ∃ x, l[i] = x := ⟨_, rfl⟩
      rw [hx] at c0 c1 c2 hft
      subst eA
      cases b1 : (x.1 == n) with
      | true =>
        rw [if_neg (by simp [bne, b1]), List.append_nil] at hft
        have hft := Aside0.mk hft
        clear hx c1 c2 hil
        go_wp2_with (fail)
        go_roundg k1
        case measure => have := HI.out; omega
        case rel => exact ⟨i + 1, _, by first | rfl | simp, rfl, ⟨by have := HI.out; omega⟩, ⟨by rw [hft.out]; exact HR.out⟩, HB⟩
      | false =>
        rw [if_pos (by simp [bne, b1])] at hft
        have hft := Aside0.mk hft
        clear hx hil
        go_wp2_with (first | ((with_reducible refine gate_builtin (b := .append) (xs := #[.tmp 27, .tmp 35]) rfl ?_); at_builtin; refine Kd.R_append kv (w0 := w) w.heap.size rfl (.tmp 27) (.tmp 35) 43 65 (.agg #[.int .i64 0, .string ⟨#[]⟩, .string ⟨#[]⟩]) 40 rfl Try.underlying43 infoV rfl (by decide) (by decide) v ((l.take i).filter fun x => x.1 != n) x [.int .i64 x.1, .string x.2.1, .string x.2.2] (fun _ => True) (fun _ => False) rfl rfl ?aP ?aF ?aN ?aO ?aB ?aS ?aL ?_; (case aP => exact kv_mkM _ _ _ x); (case aF => exact fun _ hk => hk.elim); (case aN => exact fun _ _ => trivial); (case aO => exact HR.out); (case aB => exact HB.out); (case aS => exact HB.out.size); (case aL => exact hlen.out); intro v6 w6 hR6 hB6 hg6 hat6; have HR6 := Aside0.mk hR6; have HB6 := Aside0.mk hB6; clear hR6 hB6 hg6 hat6))
        go_roundg k1
        case measure => have := HI.out; omega
        case rel => exact ⟨i + 1, _, by first | rfl | simp, rfl, ⟨by have := HI.out; omega⟩, ⟨by rw [hft.out]; exact HR6.out⟩, HB6⟩
    · have d0 : decide ((i : Int) < (L : Int)) = false := decide_eq_false (by omega)
      have hR := HR.out
      rw [List.take_of_length_le (by omega)] at hR
      obtain ⟨A6, c6, e6⟩ := Kd.R_slice hR
      subst e6
      have fr := blk_frozen (blk_below hblk.out HB.out) 0
      have HR := Aside0.mk hR
      obtain ⟨q, hq⟩ : ∃ q, (l.filter fun x => x.1 != n).length = q := ⟨_, rfl⟩
      rw [hq]
      clear hR
      go_wp2_with (fail)
      go_ret
      obtain ⟨h1, h2⟩ := RAt.put HS.out HB.out (Kd.R_lower (Kd.R_mono (Kd.R_bound HR.out) (fun k hk => (⟨by have := hk.2.1; have := hrl.out; omega, fun hx => by have := HX.out k hx; have := hk.2.1; omega⟩ : k ≠ r ∧ ¬ X k))) (by have := hrl.out; have := Hb.out; omega))
      rw [hq] at h1 h2
      exact ⟨⟨_, rfl⟩, h1, h2⟩
end Go.Proofs.Ytpgfffibiogekaa.MS
