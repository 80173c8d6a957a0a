/- The document's set: Names, walked. -/
import Derived.Test.YtpgfffibiogekaaRefS
set_option linter.unusedVariables false
set_option linter.unusedSimpArgs false
namespace Go.Proofs.Ytpgfffibiogekaa.MS
open Go.RowKit Go.Proofs.YtpgfffibiogekaaW.PrintWords Go.Proofs.YtpgfffibiogekaaW.PrintLast Go.Proofs.YtpgfffibiogekaaW.PrintMore

def nmR (n : Int) (l : List V3) : List ByteArray := (l.filter fun x => x.1 == n).map fun x => x.2.1
theorem nmR_take (n : Int) (l : List V3) (i : Nat) (hi : i < l.length) : nmR n (l.take (i + 1)) = nmR n (l.take i) ++ (if (l[i].1 == n) = true then [l[i].2.1] else []) := by
  unfold nmR
  rw [filter_take (fun x => x.1 == n) l i hi, List.map_append]
  split <;> rfl
theorem nmR_len (n : Int) (l : List V3) : (nmR n l).length = manyR n l := by rw [nmR, List.length_map]; rfl
theorem nmR_le (n : Int) (l : List V3) : (nmR n l).length ≤ l.length := by rw [nmR, List.length_map]; exact List.length_filter_le _ _
set_option maxHeartbeats 8000000 in
set_option maxRecDepth 100000 in
theorem namesRW (w : World) (base r : Nat) (X : Nat → Prop) (l : List V3) (n : Int) (h : RAt w base r X l) (hl : l.length ≤ 500000) :
    Calls Try.prog 24 #[.pointer (some ⟨r, 0, none⟩), .int .i64 n] w fun e w' => (∃ A c, e = .returned (.slice A (manyR n l) c) ∧ SC w' A (manyR n l) (sortR (manyR n l) (nmR n l)) ∧ manyR n l ≤ c) ∧ Below w.heap.size w w' := by
  have hu65 := Try.underlying65
  obtain ⟨hb, hX, v, hblk, hR⟩ := h
  have hrl := Aside0.mk (blk_lt hblk)
  obtain ⟨A, c, rfl⟩ := Kd.R_slice hR
  have hK := Aside0.mk (Kd.R_reads' hR).2.2
  have x0 : w.cell? ⟨r, 0, none⟩ = some (.slice A l.length c) := (blk_cell hblk 0).trans rfl
  clear hR hX hb hblk
  obtain ⟨L, hL⟩ : ∃ L, l.length = L := ⟨_, rfl⟩
  rw [hL] at x0 hl
  go_enter Try.func24, Try.ntmps24
  go_wp2_with (fail)
  go_loopg [5, 6] (L + 1) (fun kq v5 v6 wr => ∃ (i : Nat) (v : Value), v6 = .int .i64 (i : Int) ∧ v = v5 ∧ Aside0 (i + kq = L + 1) ∧ Aside0 (Kd.R Kd.string 9 wr w.heap.size (fun _ => True) v (nmR n (l.take i))) ∧ Aside0 (Below w.heap.size w wr))
  case atStart => exact ⟨0, _, rfl, rfl, ⟨by omega⟩, ⟨Kd.R_nil _ _ _ _ _⟩, ⟨Below.refl _ _⟩⟩
  case round =>
    obtain ⟨i, v, rfl, rfl, HI, HR, HB⟩ := hrel
    have xr : wr.cell? ⟨r, 0, none⟩ = some (.slice A L c) := (x0_far HB.out hrl.out).trans x0
    clear x0
    by_cases hi : i < L
    · obtain ⟨k1, rfl⟩ : ∃ k1, gk = k1 + 1 := ⟨gk - 1, by have := HI.out; omega⟩
      have d0 : decide ((i : Int) < (L : Int)) = true := decide_eq_true (by omega)
      have d1 : decide ((0 : Int) ≤ (i : Int)) = true := decide_eq_true (by omega)
      have hil : i < l.length := by omega
      have hft := nmR_take n l i hil
      have hlen := Aside0.mk (show ((nmR n (l.take i)).length + 1) * 16 ≤ 140737488355328 by have h1 := nmR_le n (l.take i); have h2 : (l.take i).length ≤ l.length := List.length_take_le' ..; omega)
      obtain ⟨ad, eA, c0, c1, c2⟩ := at_kv (Kd.C_below hK.out HB.out) i hil
      obtain ⟨x, hx⟩ : ∃ x, l[i] = x := ⟨_, rfl⟩
      rw [hx] at c0 c1 c2 hft
      subst eA
      cases b1 : (x.1 == n) with
      | false =>
        rw [b1, if_neg (by simp), List.append_nil] at hft
        have hft := Aside0.mk hft
        clear hx c1 c2 hil
        go_wp2_with (fail)
        go_roundg k1
        case measure => have := HI.out; omega
        case rel => exact ⟨i + 1, _, by first | rfl | simp, rfl, ⟨by have := HI.out; omega⟩, ⟨by rw [hft.out]; exact HR.out⟩, HB⟩
      | true =>
        rw [b1, if_pos rfl] at hft
        have hft := Aside0.mk hft
        clear hx hil c2
        go_wp2_with (first | ((with_reducible refine gate_builtin (b := .append) (xs := #[.tmp 26, .tmp 35]) rfl ?_); at_builtin; refine Kd.R_append Kd.string (w0 := w) w.heap.size rfl (.tmp 26) (.tmp 35) 39 9 (.string ⟨#[]⟩) 16 rfl Try.underlying39 infoS rfl (by decide) (by decide) v (nmR n (l.take i)) x.2.1 [.string x.2.1] (fun _ => True) (fun _ => False) rfl rfl ?aP ?aF ?aN ?aO ?aB ?aS ?aL ?_; (case aP => exact rfl); (case aF => exact fun _ hk => hk.elim); (case aN => exact fun _ _ => trivial); (case aO => exact HR.out); (case aB => exact HB.out); (case aS => exact HB.out.size); (case aL => exact hlen.out); intro v6 w6 hR6 hB6 hg6 hat6; have HR6 := Aside0.mk hR6; have HB6 := Aside0.mk hB6; clear hR6 hB6 hg6 hat6))
        go_roundg k1
        case measure => have := HI.out; omega
        case rel => exact ⟨i + 1, _, by first | rfl | simp, rfl, ⟨by have := HI.out; omega⟩, ⟨by rw [hft.out]; exact HR6.out⟩, HB6⟩
    · have d0 : decide ((i : Int) < (L : Int)) = false := decide_eq_false (by omega)
      have hR := HR.out
      rw [List.take_of_length_le (by omega)] at hR
      obtain ⟨A6, c6, e6⟩ := Kd.R_slice hR
      rw [nmR_len] at e6
      subst e6
      obtain ⟨-, hc6, hC6⟩ := Kd.R_reads' hR
      have hlm := nmR_le n l
      rw [nmR_len] at hC6 hlm
      have HSo := sortedRW (manyR n l) wr A6 c6 (manyR n l) (nmR n l) (Nat.le_refl _) (by omega) hc6 hC6
      clear hR hc6 hC6 hlm
      go_wp2_with (fail)
      refine HSo.mono ?_
      rintro e w7 ⟨⟨A7, c7, rfl, hC7, hc7⟩, hb7⟩
      go_wp2_with (fail)
      go_ret
      exact ⟨⟨_, _, rfl, hC7, hc7⟩, below_then HB.out HB.out.size hb7⟩
end Go.Proofs.Ytpgfffibiogekaa.MS
