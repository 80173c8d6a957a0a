/- The names of a scope, as a list, and lists held against one another. -/
import Derived.Test.YtpgfffibiogekaaVarN
import Derived.Test.YtpgfffibiogekaaVarC
import Derived.Test.YtpgfffibiogekaaPVx1
set_option linter.unusedVariables false
set_option linter.unusedSimpArgs false
namespace Go.Proofs.Ytpgfffibiogekaa.MS
open Go.RowKit Go.Maps Go.Sort Go.Shelf Go.Proofs.YtpgfffibiogekaaW.PrintWords Go.Proofs.YtpgfffibiogekaaW.PrintLast Go.Proofs.YtpgfffibiogekaaW.PrintMore

def toB (l : List UInt8) : ByteArray := ⟨l.toArray⟩
def sortN (D : DataW Unit) : List ByteArray := ((strKeys D).mergeSort leB).map toB
def nmL (D : Nat → DataW Unit) (z : Int) : List ByteArray := if isSc z = true then sortN (D z.toNat) else []
theorem sortN_len (D : DataW Unit) (h : IsMap D) : (sortN D).length = Maps.size D := by
  rw [sortN, List.length_map, List.length_mergeSort, keys_len D h]
theorem sortN_size {w : World} {b : Nat} {D : DataW Unit} (h : Mp w b D) : ∀ x ∈ sortN D, x.size ≤ maxLen := by
  intro x hx
  obtain ⟨l, hl, rfl⟩ := List.mem_map.1 hx
  have hl := (List.mergeSort_perm _ _).mem_iff.1 hl
  obtain ⟨es, rfl, hk⟩ := World.ownsMap.keysOf h
  obtain ⟨p, hp, rfl⟩ := List.mem_map.1 hl
  obtain ⟨kv, hkv⟩ := hk p hp
  obtain ⟨y, _, hy, hle⟩ := Maps.keyOf_str Try.underlying9 hkv
  rw [hy]
  show (toB y).size ≤ maxLen
  have : (toB y).size = y.length := by simp [toB, ByteArray.size]
  rw [this]; exact hle
set_option maxHeartbeats 8000000 in
set_option maxRecDepth 100000 in
theorem namesL (w : World) (base g : Nat) (m : Nat → Nat) (D : Nat → DataW Unit) (z : Int) (h : SetAt w base g m D) :
    Calls Try.prog 16 #[.pointer (some ⟨g, 0, none⟩), .int .i64 z] w fun e w' => ∃ v, e = .returned v ∧ Kd.R Kd.string 9 w' w.heap.size (fun _ => True) v (nmL D z) ∧ Below w.heap.size w w' := by
  refine (callsIn_wide (n := 6)).1 ?_
  have hf0 : Fence.wide.fn 28 := trivial
  have hf1 : Fence.wide.fn 29 := trivial
  have hfK : Fence.wide.fn 31 := trivial
  have hfS : Fence.wide.fn 30 := trivial
  have ho := fun w (h : SetAt w base g m D) => (callsIn_wide (n := 5)).2 (okW w base g m D h)
  have hi := fun z w => (callsIn_wide (n := 5)).2 (isScopeW z w)
  have HS := Aside0.mk h
  refine callsIn_of_wp Try.func16 rfl trivial ?_ rfl
  simp only [Try.ntmps16, List.size_toArray, List.length_cons, List.length_nil, Nat.reduceAdd, Nat.reduceSub, Array.replicate_succ, Array.replicate_zero, List.push_toArray, List.append_toArray, List.nil_append, List.cons_append]
  cases hz : isSc z with
  | false =>
    gi_wp2_with (first
      | (gi_at_call 28; refine (ho _ HS.out).mono ?_; rintro e w1 ⟨rfl, rfl⟩)
      | (gi_at_call 29; refine (hi _ _).mono ?_; rintro e w1 ⟨rfl, rfl⟩))
    go_ret
    exact ⟨_, rfl, by rw [nmL, hz]; exact Kd.R_nil _ _ _ _ _, Below.refl _ _⟩
  | true =>
    obtain ⟨n, rfl, hn1, hn⟩ := isSc_nat hz
    have c := h.cell n hn
    have hown := h.own n hn
    have hcn := h.cnt n hn
    gi_wp2_with (first
      | (gi_at_call 28; refine (ho _ HS.out).mono ?_; rintro e w1 ⟨rfl, rfl⟩)
      | (gi_at_call 29; refine (hi _ _).mono ?_; rintro e w1 ⟨rfl, rfl⟩)
      | (gi_at_call 31; refine (Try.maps_Keys_31 _ _).mono ?_; rintro e w' ⟨rfl, rfl⟩)
      | (gi_at_call 30; refine (Try.slices_Sorted_keys_30_31 (m n) _ (D n) _ _ hown (Nat.le_trans hcn (by decide)) (by omega)).mono ?_; rintro e w' ⟨v, ss, rfl, hS, hrow, hnil, hb⟩))
    have hL : nmL D (n : Int) = (ss.mergeSort leB).map toB := by
      rw [nmL, hz, if_pos rfl, Int.toNat_natCast, sortN, mergeSort_of_perm hS]
    go_ret
    refine ⟨_, rfl, ?_, ((Below.refl _ _).alloc (Nat.le_refl _) _).trans (hb.mono (by simp))⟩
    rw [hL]
    refine Kd.R_of_own ?_ (fun _ _ => trivial)
    have hrow2 := ownsRow_base_a hrow (base' := _) (show w1.heap.size ≤ _ by simp)
    have e1 : ((ss.mergeSort leB).map toB).length = ss.length := by rw [List.length_map, List.length_mergeSort]
    have e2 : encs Value.string ((ss.mergeSort leB).map toB) = (ss.mergeSort leB).map encStr := by rw [encs, List.map_map]; rfl
    rw [e1, e2]
    exact hrow2
theorem sameL (l : List ByteArray) (hl : l.length ≤ 1024) : PV.bobstayref01_Same.f 2000 l l = some true := by
  have h : ∀ (k i : Nat), i ≤ l.length → l.length < i + k → PV.bobstayref01_Same.l0 k l l (i : Int) = some true := by
    intro k
    induction k with
    | zero => intro i h1 h2; omega
    | succ k ih =>
      intro i h1 h2
      rw [PV.bobstayref01_Same.l0]
      by_cases hi : i < l.length
      · have hw : wrap64 ((i : Int) + 1) = ((i + 1 : Nat) : Int) := by unfold wrap64; omega
        rw [if_pos (by omega), if_pos (by omega), if_pos (by omega), if_pos rfl, hw]
        exact ih (i + 1) (by omega) (by omega)
      · rw [if_neg (by omega)]
  unfold PV.bobstayref01_Same.f
  rw [if_pos rfl]
  exact h 2000 0 (by omega) (by omega)
end Go.Proofs.Ytpgfffibiogekaa.MS
