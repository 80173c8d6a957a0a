/- One call of a script on the document's set, walked. -/
import Derived.Test.YtpgfffibiogekaaRefN
import Derived.Test.YtpgfffibiogekaaRefD
import Derived.Test.YtpgfffibiogekaaRefQ
set_option linter.unusedVariables false
set_option linter.unusedSimpArgs false
namespace Go.Proofs.Ytpgfffibiogekaa.MS
open Go.RowKit Go.Proofs.YtpgfffibiogekaaW.PrintWords Go.Proofs.YtpgfffibiogekaaW.PrintLast Go.Proofs.YtpgfffibiogekaaW.PrintMore

def woE (l : List V3) (a : Ac) : Int :=
  if (a.k % 5 == 0) = true then putRE l a.z a.s a.v else if (a.k % 5 == 1) = true then putRE l a.z a.s (addL l a.z a.s a.v) else if (a.k % 5 == 2) = true then defRE l a.z a.s a.v else if (a.k % 5 == 3) = true then dropRE l a.z a.s else 0
def woL (l : List V3) (a : Ac) : List V3 :=
  if (a.k % 5 == 0) = true then putRL l a.z a.s a.v else if (a.k % 5 == 1) = true then putRL l a.z a.s (addL l a.z a.s a.v) else if (a.k % 5 == 2) = true then defRL l a.z a.s a.v else if (a.k % 5 == 3) = true then dropRL l a.z a.s else clearRL l a.z
set_option maxHeartbeats 8000000 in
set_option maxRecDepth 100000 in
theorem wouldRW (w : World) (base r : Nat) (X : Nat → Prop) (l : List V3) (a : Ac) (h : RAt w base r X l) (hl : l.length ≤ 500000) (hs : a.s.size ≤ 1000000000) (hv : a.v.size ≤ 100000000) (hval : ∀ x ∈ l, x.2.2.size ≤ 100000) (hk : 0 ≤ a.k ∧ a.k < 256) :
    Calls Try.prog 20 #[.pointer (some ⟨r, 0, none⟩), actV a] w fun e w' => e = .returned (.int .i64 (woE l a)) ∧ RAt w' base r X (woL l a) ∧ Fr base (fun _ => r) w w' := by
  have hu28 := Try.underlying28
  have HS := Aside0.mk h
  have hbl : base ≤ w.heap.size := by have := h.1; obtain ⟨_, _, vv, hh, _⟩ := h; have := blk_lt hh; omega
  have hval := Aside0.mk hval
  unfold actV
  go_enter Try.func20, Try.ntmps20
  go_wp2_with (first
    | ((with_reducible refine gate_dst (N := 3) rfl ?_); (try (refine gate_guard (by rfl) ?_; dsimp only)); refine box_event ?hg (N := 3) ?hd (cs := #[.int .u8 a.k, .int .i64 a.z, .string a.s, .string a.v]) (t := 28) ?hr ?_; (case hd => rfl); (case hg => rfl); (case hr => first | (go_simp; done) | (go_simp; rfl)); intro b3 e3 w3 hb3 hl3; have hS3 := HS.out.below hl3; have hB3 := (Fr.of hbl hl3 : Fr base (fun _ => r) w w3); have x0 : w3.cell? ⟨b3, 0, none⟩ = some (.int .u8 a.k) := (blk_cell hb3 0).trans rfl; have x1 : w3.cell? ⟨b3, 1, none⟩ = some (.int .i64 a.z) := (blk_cell hb3 1).trans rfl; have x2 : w3.cell? ⟨b3, 2, none⟩ = some (.string a.s) := (blk_cell hb3 2).trans rfl; have x3 : w3.cell? ⟨b3, 3, none⟩ = some (.string a.v) := (blk_cell hb3 3).trans rfl; clear e3 hb3 hl3)
    | fail)
  · have h0 : (a.k % 5 == 0) = true := by assumption
    have eE : woE l a = putRE l a.z a.s a.v := by rw [woE, if_pos h0]
    have eD : woL l a = putRL l a.z a.s a.v := by rw [woL, if_pos h0]
    refine (putRW _ base r X l a.z a.s a.v hS3 hl hs (by omega)).mono ?_
    rintro e w4 ⟨rfl, hS4, hB4⟩
    go_wp2_with (fail)
    go_ret
    exact ⟨by rw [eE]; rfl, by rw [eD]; exact hS4, hB3.trans hB4⟩
  · have h0 : (a.k % 5 == 0) = false := by assumption
    have h1 : (a.k % 5 == 1) = true := by assumption
    have eE : woE l a = putRE l a.z a.s (addL l a.z a.s a.v) := by rw [woE, if_neg (by rw [h0]; simp), if_pos h1]
    have eD : woL l a = putRL l a.z a.s (addL l a.z a.s a.v) := by rw [woL, if_neg (by rw [h0]; simp), if_pos h1]
    refine (addRW _ base r X l a.z a.s a.v hS3 hl hs hv hval.out).mono ?_
    rintro e w4 ⟨rfl, hS4, hB4⟩
    go_wp2_with (fail)
    go_ret
    exact ⟨by rw [eE]; rfl, by rw [eD]; exact hS4, hB3.trans hB4⟩
  · have h0 : (a.k % 5 == 0) = false := by assumption
    have h1 : (a.k % 5 == 1) = false := by assumption
    have h2 : (a.k % 5 == 2) = true := by assumption
    have eE : woE l a = defRE l a.z a.s a.v := by rw [woE, if_neg (by rw [h0]; simp), if_neg (by rw [h1]; simp), if_pos h2]
    have eD : woL l a = defRL l a.z a.s a.v := by rw [woL, if_neg (by rw [h0]; simp), if_neg (by rw [h1]; simp), if_pos h2]
    refine (defRW _ base r X l a.z a.s a.v hS3 hl hs hv).mono ?_
    rintro e w4 ⟨rfl, hS4, hB4⟩
    go_wp2_with (fail)
    go_ret
    exact ⟨by rw [eE]; rfl, by rw [eD]; exact hS4, hB3.trans hB4⟩
  · have h0 : (a.k % 5 == 0) = false := by assumption
    have h1 : (a.k % 5 == 1) = false := by assumption
    have h2 : (a.k % 5 == 2) = false := by assumption
    have h3 : (a.k % 5 == 3) = true := by assumption
    have eE : woE l a = dropRE l a.z a.s := by rw [woE, if_neg (by rw [h0]; simp), if_neg (by rw [h1]; simp), if_neg (by rw [h2]; simp), if_pos h3]
    have eD : woL l a = dropRL l a.z a.s := by rw [woL, if_neg (by rw [h0]; simp), if_neg (by rw [h1]; simp), if_neg (by rw [h2]; simp), if_pos h3]
    refine (dropRW _ base r X l a.z a.s hS3 hl).mono ?_
    rintro e w4 ⟨rfl, hS4, hB4⟩
    go_wp2_with (fail)
    go_ret
    exact ⟨by rw [eE]; rfl, by rw [eD]; exact hS4, hB3.trans hB4⟩
  · have h0 : (a.k % 5 == 0) = false := by assumption
    have h1 : (a.k % 5 == 1) = false := by assumption
    have h2 : (a.k % 5 == 2) = false := by assumption
    have h3 : (a.k % 5 == 3) = false := by assumption
    have eE : woE l a = 0 := by rw [woE, if_neg (by rw [h0]; simp), if_neg (by rw [h1]; simp), if_neg (by rw [h2]; simp), if_neg (by rw [h3]; simp)]
    have eD : woL l a = clearRL l a.z := by rw [woL, if_neg (by rw [h0]; simp), if_neg (by rw [h1]; simp), if_neg (by rw [h2]; simp), if_neg (by rw [h3]; simp)]
    refine (clearRW _ base r X l a.z hS3 hl).mono ?_
    rintro e w4 ⟨⟨kk, rfl⟩, hS4, hB4⟩
    go_wp2_with (fail)
    go_ret
    exact ⟨by rw [eE]; rfl, by rw [eD]; exact hS4, hB3.trans hB4⟩

end Go.Proofs.Ytpgfffibiogekaa.MS
