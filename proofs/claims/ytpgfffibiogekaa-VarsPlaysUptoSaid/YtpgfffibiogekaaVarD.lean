/- One call of a script on a set of variables, walked; and 'alive'. -/
import Derived.Test.YtpgfffibiogekaaVarW2
set_option linter.unusedVariables false
set_option linter.unusedSimpArgs false
namespace Go.Proofs.Ytpgfffibiogekaa.MS
open Go.RowKit Go.Proofs.YtpgfffibiogekaaW.PrintWords Go.Proofs.YtpgfffibiogekaaW.PrintLast Go.Proofs.YtpgfffibiogekaaW.PrintMore

/-- a call of a script: its kind, scope, name, value -/
structure Ac where
  k : Int
  z : Int
  s : ByteArray
  v : ByteArray
def actV (a : Ac) : Value := .agg #[.int .u8 a.k, .int .i64 a.z, .string a.s, .string a.v]
def doE (D : Nat → DataW Unit) (a : Ac) : Int :=
  if (a.k % 5 == 0) = true then putE D a.z a.s a.v else if (a.k % 5 == 1) = true then putE D a.z a.s (addV D a.z a.s a.v) else if (a.k % 5 == 2) = true then defE D a.z a.s a.v else if (a.k % 5 == 3) = true then dropE D a.z a.s else 0
def doD (D : Nat → DataW Unit) (a : Ac) : Nat → DataW Unit :=
  if (a.k % 5 == 0) = true then putD D a.z a.s a.v else if (a.k % 5 == 1) = true then putD D a.z a.s (addV D a.z a.s a.v) else if (a.k % 5 == 2) = true then defD D a.z a.s a.v else if (a.k % 5 == 3) = true then dropD D a.z a.s else clearD D a.z
set_option maxHeartbeats 8000000 in
set_option maxRecDepth 100000 in
theorem doesW (w : World) (base g : Nat) (m : Nat → Nat) (D : Nat → DataW Unit) (a : Ac) (h : SetAt w base g m D) (hs : a.s.size ≤ maxLen) (hv : a.v.size ≤ 100000000) (hk : 0 ≤ a.k ∧ a.k < 256) :
    Calls Try.prog 11 #[.pointer (some ⟨g, 0, none⟩), actV a] w fun e w' => e = .returned (.int .i64 (doE D a)) ∧ SetAt w' base g m (doD D a) ∧ Below base w w' := by
  have hu28 := Try.underlying28
  have HS := Aside0.mk h
  have hbl := h.base_le
  unfold actV
  go_enter Try.func11, Try.ntmps11
  go_wp2_with (first
    | ((with_reducible refine gate_dst (N := 3) rfl ?_); (try (refine gate_guard (by rfl) ?_; dsimp only)); refine box_event ?hg (N := 3) ?hd (cs := #[.int .u8 a.k, .int .i64 a.z, .string a.s, .string a.v]) (t := 28) ?hr ?_; (case hd => rfl); (case hg => rfl); (case hr => first | (go_simp; done) | (go_simp; rfl)); intro b3 e3 w3 hb3 hl3; have hS3 := HS.out.below hl3; have hB3 := below_then (Below.refl base w) hbl hl3; have x0 : w3.cell? ⟨b3, 0, none⟩ = some (.int .u8 a.k) := (blk_cell hb3 0).trans rfl; have x1 : w3.cell? ⟨b3, 1, none⟩ = some (.int .i64 a.z) := (blk_cell hb3 1).trans rfl; have x2 : w3.cell? ⟨b3, 2, none⟩ = some (.string a.s) := (blk_cell hb3 2).trans rfl; have x3 : w3.cell? ⟨b3, 3, none⟩ = some (.string a.v) := (blk_cell hb3 3).trans rfl; clear e3 hb3 hl3)
    | fail)
  · have h0 : (a.k % 5 == 0) = true := by assumption
    have eE : doE D a = putE D a.z a.s a.v := by rw [doE, if_pos h0]
    have eD : doD D a = putD D a.z a.s a.v := by rw [doD, if_pos h0]
    refine (putW _ base g m D a.z a.s a.v hS3 hs (by omega)).mono ?_
    rintro e w4 ⟨rfl, hS4, hB4⟩
    go_wp2_with (fail)
    go_ret
    exact ⟨by rw [eE]; rfl, by rw [eD]; exact hS4, hB3.trans hB4⟩
  · have h0 : (a.k % 5 == 0) = false := by assumption
    have h1 : (a.k % 5 == 1) = true := by assumption
    have eE : doE D a = putE D a.z a.s (addV D a.z a.s a.v) := by rw [doE, if_neg (by rw [h0]; simp), if_pos h1]
    have eD : doD D a = putD D a.z a.s (addV D a.z a.s a.v) := by rw [doD, if_neg (by rw [h0]; simp), if_pos h1]
    refine (addW _ base g m D a.z a.s a.v hS3 hs hv).mono ?_
    rintro e w4 ⟨rfl, hS4, hB4⟩
    go_wp2_with (fail)
    go_ret
    exact ⟨by rw [eE]; rfl, by rw [eD]; exact hS4, hB3.trans hB4⟩
  · have h0 : (a.k % 5 == 0) = false := by assumption
    have h1 : (a.k % 5 == 1) = false := by assumption
    have h2 : (a.k % 5 == 2) = true := by assumption
    have eE : doE D a = defE D a.z a.s a.v := by rw [doE, if_neg (by rw [h0]; simp), if_neg (by rw [h1]; simp), if_pos h2]
    have eD : doD D a = defD D a.z a.s a.v := by rw [doD, if_neg (by rw [h0]; simp), if_neg (by rw [h1]; simp), if_pos h2]
    refine (defW _ base g m D a.z a.s a.v hS3 hs hv).mono ?_
    rintro e w4 ⟨rfl, hS4, hB4⟩
    go_wp2_with (fail)
    go_ret
    exact ⟨by rw [eE]; rfl, by rw [eD]; exact hS4, hB3.trans hB4⟩
  · have h0 : (a.k % 5 == 0) = false := by assumption
    have h1 : (a.k % 5 == 1) = false := by assumption
    have h2 : (a.k % 5 == 2) = false := by assumption
    have h3 : (a.k % 5 == 3) = true := by assumption
    have eE : doE D a = dropE D a.z a.s := by rw [doE, if_neg (by rw [h0]; simp), if_neg (by rw [h1]; simp), if_neg (by rw [h2]; simp), if_pos h3]
    have eD : doD D a = dropD D a.z a.s := by rw [doD, if_neg (by rw [h0]; simp), if_neg (by rw [h1]; simp), if_neg (by rw [h2]; simp), if_pos h3]
    refine (dropW _ base g m D a.z a.s hS3 hs).mono ?_
    rintro e w4 ⟨rfl, hS4, hB4⟩
    go_wp2_with (fail)
    go_ret
    exact ⟨by rw [eE]; rfl, by rw [eD]; exact hS4, hB3.trans hB4⟩
  · have h0 : (a.k % 5 == 0) = false := by assumption
    have h1 : (a.k % 5 == 1) = false := by assumption
    have h2 : (a.k % 5 == 2) = false := by assumption
    have h3 : (a.k % 5 == 3) = false := by assumption
    have eE : doE D a = 0 := by rw [doE, if_neg (by rw [h0]; simp), if_neg (by rw [h1]; simp), if_neg (by rw [h2]; simp), if_neg (by rw [h3]; simp)]
    have eD : doD D a = clearD D a.z := by rw [doD, if_neg (by rw [h0]; simp), if_neg (by rw [h1]; simp), if_neg (by rw [h2]; simp), if_neg (by rw [h3]; simp)]
    refine (clearW _ base g m D a.z hS3).mono ?_
    rintro e w4 ⟨rfl, hS4, hB4⟩
    go_wp2_with (fail)
    go_ret
    exact ⟨by rw [eE]; rfl, by rw [eD]; exact hS4, hB3.trans hB4⟩

theorem aliveE : putE (fun _ => .map []) 3 ⟨#[67, 67]⟩ ⟨#[103, 99, 99]⟩ = 0 := by decide +kernel
theorem aliveE2 : putE (putD (fun _ => .map []) 3 ⟨#[67, 67]⟩ ⟨#[103, 99, 99]⟩) 2 ⟨#[67, 67]⟩ ⟨#[99, 99]⟩ = 0 := by decide +kernel
def D2 : Nat → DataW Unit := putD (putD (fun _ => .map []) 3 ⟨#[67, 67]⟩ ⟨#[103, 99, 99]⟩) 2 ⟨#[67, 67]⟩ ⟨#[99, 99]⟩
theorem aliveG : getV D2 ⟨#[67, 67]⟩ = some ⟨#[99, 99]⟩ := by decide +kernel
theorem aliveD : dropE D2 2 ⟨#[67, 67]⟩ = 0 := by decide +kernel
theorem aliveH : getV (dropD D2 2 ⟨#[67, 67]⟩) ⟨#[67, 67]⟩ = some ⟨#[103, 99, 99]⟩ := by decide +kernel
theorem aliveR : rg ⟨#[67, 67]⟩ = true := by decide +kernel
set_option maxHeartbeats 8000000 in
set_option maxRecDepth 100000 in
theorem aliveW (w : World) : Calls Try.prog 9 #[] w fun e w' => e = .returned (.bool true) ∧ Below w.heap.size w w' := by
  have hn := fun w => newW w
  obtain ⟨B, hB⟩ : ∃ B, w.heap.size = B := ⟨_, rfl⟩
  have HB := Aside0.mk hB
  go_enter Try.func9, Try.ntmps9
  go_wp2_with (fail)
  refine (newW w).mono ?_
  rintro e w1 ⟨⟨g, m, rfl, hS1⟩, hB1⟩
  rw [hB] at hS1 hB1
  clear hB hn
  go_wp2_with (fail)
  refine (putW _ B g m _ 3 ⟨#[67, 67]⟩ ⟨#[103, 99, 99]⟩ hS1 (by decide) (by decide)).mono ?_
  rw [aliveE]
  rintro e w2 ⟨rfl, hS2, hB2⟩
  go_wp2_with (fail)
  refine (putW _ B g m _ 2 ⟨#[67, 67]⟩ ⟨#[99, 99]⟩ hS2 (by decide) (by decide)).mono ?_
  rw [aliveE2]
  rintro e w3 ⟨rfl, hS3, hB3⟩
  have hS3' : SetAt w3 B g m D2 := hS3
  clear hS3 hS2 hS1
  have hBB := hB1.trans (hB2.trans hB3)
  clear hB1 hB2 hB3
  go_wp2_with (fail)
  refine (getW _ B g m _ ⟨#[67, 67]⟩ hS3' (by decide)).mono ?_
  rw [aliveG]
  rintro e w4 ⟨rfl, rfl⟩
  go_wp2_with (fail)
  refine (dropW _ B g m _ 2 ⟨#[67, 67]⟩ hS3' (by decide)).mono ?_
  rw [aliveD]
  rintro e w5 ⟨rfl, hS5, hB5⟩
  go_wp2_with (fail)
  refine (getW _ B g m _ ⟨#[67, 67]⟩ hS5 (by decide)).mono ?_
  rw [aliveH]
  rintro e w6 ⟨rfl, rfl⟩
  have hB6 := hBB.trans hB5
  have hle := hS5.base_le
  clear hBB hB5 hS5 hS3'
  go_wp2_with (fail)
  refine (rightW ⟨#[67, 67]⟩ _).mono ?_
  rw [aliveR]
  rintro e w7 ⟨rfl, hB7⟩
  go_wp2_with (fail)
  go_ret
  exact ⟨rfl, HB.out.symm ▸ below_then hB6 hle hB7⟩
end Go.Proofs.Ytpgfffibiogekaa.MS
