/- How many names a scope of a set has: the call walked. (The contracts ahead of it are those that the kit's command on 'slices.Sorted(maps.Keys(m))' has laid.) -/
import Derived.Test.YtpgfffibiogekaaVarW2
import Derived.Test.YtpgfffibiogekaaIter
set_option linter.unusedVariables false
set_option linter.unusedSimpArgs false

namespace Go.Proofs.Ytpgfffibiogekaa.MS
open Go.RowKit Go.Maps Go.Sort Go.Shelf Go.Proofs.YtpgfffibiogekaaW.PrintWords Go.Proofs.YtpgfffibiogekaaW.PrintLast Go.Proofs.YtpgfffibiogekaaW.PrintMore

def nmN (D : Nat → DataW Unit) (z : Int) : Nat := if isSc z = true then Maps.size (D z.toNat) else 0
theorem keys_len (D : DataW Unit) (h : Maps.IsMap D) : (strKeys D).length = Maps.size D := by
  obtain ⟨es, rfl⟩ := h
  simp [strKeys, Maps.size]
set_option maxHeartbeats 8000000 in
set_option maxRecDepth 100000 in
theorem namesW (w : World) (base g : Nat) (m : Nat → Nat) (D : Nat → DataW Unit) (z : Int) (h : SetAt w base g m D) :
    Calls Try.prog 16 #[.pointer (some ⟨g, 0, none⟩), .int .i64 z] w fun e w' => (∃ A c, e = .returned (.slice A (nmN D z) c)) ∧ Below w.heap.size w w' := by
  refine (callsIn_wide (n := 6)).1 ?_
  have hf0 : Fence.wide.fn 28 := trivial
  have hf1 : Fence.wide.fn 29 := trivial
  have hfK : Fence.wide.fn 31 := trivial
  have hfS : Fence.wide.fn 30 := trivial
  have ho := fun w (h : SetAt w base g m D) => (callsIn_wide (n := 5)).2 (okW w base g m D h)
  have hi := fun z w => (callsIn_wide (n := 5)).2 (isScopeW z w)
  have HS := Aside0.mk h
  refine callsIn_of_wp Try.func16 rfl trivial ?_ rfl
  simp only [Try.ntmps16, List.size_toArray, List.length_cons, List.length_nil, Nat.reduceAdd, Nat.reduceSub, Array.replicate_succ, Array.replicate_zero, List.push_toArray, List.append_toArray, List.nil_append, List.cons_append]
  cases hz : isSc z with
  | false =>
    gi_wp2_with (first
      | (gi_at_call 28; refine (ho _ HS.out).mono ?_; rintro e w1 ⟨rfl, rfl⟩)
      | (gi_at_call 29; refine (hi _ _).mono ?_; rintro e w1 ⟨rfl, rfl⟩))
    go_ret
    exact ⟨⟨none, 0, by rw [nmN, hz]; rfl⟩, Below.refl _ _⟩
  | true =>
    obtain ⟨n, rfl, hn1, hn⟩ := isSc_nat hz
    have c := h.cell n hn
    have hown := h.own n hn
    have hcn := h.cnt n hn
    gi_wp2_with (first
      | (gi_at_call 28; refine (ho _ HS.out).mono ?_; rintro e w1 ⟨rfl, rfl⟩)
      | (gi_at_call 29; refine (hi _ _).mono ?_; rintro e w1 ⟨rfl, rfl⟩)
      | (gi_at_call 31; refine (Try.maps_Keys_31 _ _).mono ?_; rintro e w' ⟨rfl, rfl⟩)
      | (gi_at_call 30; refine (Try.slices_Sorted_keys_30_31 (m n) _ (D n) _ _ hown (Nat.le_trans hcn (by decide)) (by omega)).mono ?_; rintro e w' ⟨v, ss, rfl, hS, hrow, hnil, hb⟩))
    have hlen : ss.length = nmN D n := by rw [hS.length_eq, keys_len _ hown.isMap, nmN, hz, if_pos rfl, Int.toNat_natCast]
    obtain ⟨A, c2, rfl⟩ : ∃ A c2, v = .slice A ss.length c2 := by
      rcases hrow.2 with ⟨hv, _⟩ | ⟨g2, cap, cur, hv, _⟩
      · exact ⟨none, 0, by rw [hv, hnil.1 hv]; rfl⟩
      · exact ⟨_, _, hv⟩
    go_ret
    exact ⟨⟨A, c2, by first | rfl | (rw [hlen]; rfl)⟩, ((Below.refl _ _).alloc (Nat.le_refl _) _).trans (hb.mono (by simp))⟩
end Go.Proofs.Ytpgfffibiogekaa.MS
