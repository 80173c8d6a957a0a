/- The document's set: Add, Default, walked. -/
import Derived.Test.YtpgfffibiogekaaRefP
set_option linter.unusedVariables false
set_option linter.unusedSimpArgs false
namespace Go.Proofs.Ytpgfffibiogekaa.MS
open Go.RowKit Go.Proofs.YtpgfffibiogekaaW.PrintWords Go.Proofs.YtpgfffibiogekaaW.PrintLast Go.Proofs.YtpgfffibiogekaaW.PrintMore

def addL (l : List V3) (n : Int) (s v : ByteArray) : ByteArray := match inL l n s with
  | some o => (o ++ (⟨#[32]⟩ : ByteArray)) ++ v
  | none => v
def defRE (l : List V3) (n : Int) (s v : ByteArray) : Int := if ((getL l s).isSome && isSc n) = true then 0 else putRE l n s v
def defRL (l : List V3) (n : Int) (s v : ByteArray) : List V3 := if ((getL l s).isSome && isSc n) = true then l else putRL l n s v
set_option maxHeartbeats 8000000 in
set_option maxRecDepth 100000 in
theorem addRW (w : World) (base r : Nat) (X : Nat → Prop) (l : List V3) (n : Int) (s v : ByteArray) (h : RAt w base r X l) (hl : l.length ≤ 500000) (hs : s.size ≤ 1000000000) (hv : v.size ≤ 100000000) (hval : ∀ x ∈ l, x.2.2.size ≤ 100000) :
    Calls Try.prog 34 #[.pointer (some ⟨r, 0, none⟩), .int .i64 n, .string s, .string v] w fun e w' => e = .returned (.int .i64 (putRE l n s (addL l n s v))) ∧ RAt w' base r X (putRL l n s (addL l n s v)) ∧ Fr base (fun _ => r) w w' := by
  have hu65 := Try.underlying65
  have HS := Aside0.mk h
  have HA := atW w base r X l n s h (by omega)
  obtain ⟨hb, hX, vv, hblk, hR⟩ := h
  obtain ⟨A, c, rfl⟩ := Kd.R_slice hR
  have hK := Aside0.mk (Kd.R_reads' hR).2.2
  have x0 : w.cell? ⟨r, 0, none⟩ = some (.slice A l.length c) := (blk_cell hblk 0).trans rfl
  clear hR hblk hX hb
  go_enter Try.func34, Try.ntmps34
  rcases at_cases n s l 0 with ⟨h1, h2⟩ | ⟨j, hj, h2, h1, -, -⟩
  · have eI : inL l n s = none := by rw [inL, h1]; rfl
    have eV : addL l n s v = v := by rw [addL, eI]
    rw [h2] at HA
    rw [eV]
    clear h1 h2
    go_wp2_with (first | (go_at_call 38; refine HA.mono ?_; rintro e w ⟨rfl, rfl⟩) | fail)
    refine (putRW _ base r X l n s v HS.out hl hs (by omega)).mono ?_
    rintro e w2 ⟨rfl, hS2, hB2⟩
    go_wp2_with (fail)
    go_ret
    exact ⟨rfl, hS2, hB2⟩
  · have eI : inL l n s = some l[j].2.2 := by rw [inL, h1]; rfl
    have hvx := hval _ (List.getElem_mem hj)
    obtain ⟨ad, eA, c0, c1, c2⟩ := at_kv hK.out j hj
    obtain ⟨x, hx⟩ : ∃ x, l[j] = x := ⟨_, rfl⟩
    rw [hx] at c0 c1 c2 eI hvx
    obtain ⟨o, ho⟩ : ∃ o, x.2.2 = o := ⟨_, rfl⟩
    rw [ho] at c2 eI hvx
    have eV : addL l n s v = (o ++ (⟨#[32]⟩ : ByteArray)) ++ v := by rw [addL, eI]
    have e1 : (o ++ (⟨#[32]⟩ : ByteArray)).size = o.size + 1 := by rw [ByteArray.size_append]; rfl
    have e2 : ((o ++ (⟨#[32]⟩ : ByteArray)) ++ v).size = o.size + 1 + v.size := by rw [ByteArray.size_append, e1]
    rw [eV]
    subst eA
    rw [Nat.zero_add] at h2
    rw [h2] at HA
    have d0 : decide ((0 : Int) ≤ (j : Int)) = true := decide_eq_true (by omega)
    clear h1 h2 hx c0 c1 hval
    go_wp2_with (first | (go_at_call 38; refine HA.mono ?_; rintro e w ⟨rfl, rfl⟩) | fail)
    refine (putRW _ base r X l n s ((o ++ (⟨#[32]⟩ : ByteArray)) ++ v) HS.out hl hs (by omega)).mono ?_
    rintro e w2 ⟨rfl, hS2, hB2⟩
    go_wp2_with (fail)
    go_ret
    exact ⟨rfl, hS2, hB2⟩
set_option maxHeartbeats 8000000 in
set_option maxRecDepth 100000 in
theorem defRW (w : World) (base r : Nat) (X : Nat → Prop) (l : List V3) (n : Int) (s v : ByteArray) (h : RAt w base r X l) (hl : l.length ≤ 500000) (hs : s.size ≤ 1000000000) (hv : v.size ≤ 100000000) :
    Calls Try.prog 35 #[.pointer (some ⟨r, 0, none⟩), .int .i64 n, .string s, .string v] w fun e w' => e = .returned (.int .i64 (defRE l n s v)) ∧ RAt w' base r X (defRL l n s v) ∧ Fr base (fun _ => r) w w' := by
  have HS := Aside0.mk h
  have HG := getRW w base r X l s h (by omega)
  have HP := putRW w base r X l n s v h hl hs (by omega)
  have HZ := scopeRW n w
  clear h
  go_enter Try.func35, Try.ntmps35
  cases hg : (getL l s).isSome with
  | false =>
    have eE : defRE l n s v = putRE l n s v := by rw [defRE, hg]; rfl
    have eD : defRL l n s v = putRL l n s v := by rw [defRL, hg]; rfl
    rw [eE, eD]
    rw [hg] at HG
    go_wp2_with (first | (go_at_call 21; refine HG.mono ?_; rintro e w1 ⟨rfl, rfl⟩) | (go_at_call 33; refine HP.mono ?_; rintro e w2 ⟨rfl, hS2, hB2⟩))
    go_ret
    exact ⟨rfl, hS2, hB2⟩
  | true =>
    rw [hg] at HG
    cases hz : isSc n with
    | false =>
      have eE : defRE l n s v = putRE l n s v := by rw [defRE, hg, hz]; rfl
      have eD : defRL l n s v = putRL l n s v := by rw [defRL, hg, hz]; rfl
      rw [eE, eD]
      rw [hz] at HZ
      go_wp2_with (first | (go_at_call 21; refine HG.mono ?_; rintro e w1 ⟨rfl, rfl⟩) | (go_at_call 45; refine HZ.mono ?_; rintro e w1 ⟨rfl, rfl⟩) | (go_at_call 33; refine HP.mono ?_; rintro e w2 ⟨rfl, hS2, hB2⟩))
      go_ret
      exact ⟨rfl, hS2, hB2⟩
    | true =>
      have eE : defRE l n s v = 0 := by rw [defRE, hg, hz]; rfl
      have eD : defRL l n s v = l := by rw [defRL, hg, hz]; rfl
      rw [eE, eD]
      rw [hz] at HZ
      go_wp2_with (first | (go_at_call 21; refine HG.mono ?_; rintro e w1 ⟨rfl, rfl⟩) | (go_at_call 45; refine HZ.mono ?_; rintro e w1 ⟨rfl, rfl⟩))
      go_ret
      exact ⟨rfl, HS.out, Fr.refl _ _ _⟩
end Go.Proofs.Ytpgfffibiogekaa.MS
