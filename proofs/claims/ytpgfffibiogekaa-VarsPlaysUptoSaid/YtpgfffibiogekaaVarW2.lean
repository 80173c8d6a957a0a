/- Further calls of a set of variables, walked: Add, Default, New. -/
import Derived.Test.YtpgfffibiogekaaVarW
import Derived.Carry
set_option linter.unusedVariables false
set_option linter.unusedSimpArgs false
namespace Go.Proofs.Ytpgfffibiogekaa.MS
open Go.RowKit Go.Proofs.YtpgfffibiogekaaW.PrintWords Go.Proofs.YtpgfffibiogekaaW.PrintLast Go.Proofs.YtpgfffibiogekaaW.PrintMore

def addV (D : Nat → DataW Unit) (z : Int) (s v : ByteArray) : ByteArray := match inSc D z s with | some o => (o ++ (⟨#[32]⟩ : ByteArray)) ++ v | none => v
theorem inSc_le {w : World} {base g : Nat} {m : Nat → Nat} {D : Nat → DataW Unit} (h : SetAt w base g m D) {z : Int} {s o : ByteArray} (ho : inSc D z s = some o) : o.size ≤ 65536 := by
  unfold inSc at ho
  split at ho
  · rename_i hz
    obtain ⟨n, rfl, hn1, hn⟩ := isSc_nat hz
    rw [Int.toNat_natCast] at ho
    exact h.val n s o hn ho
  · cases ho
set_option maxHeartbeats 8000000 in
set_option maxRecDepth 100000 in
theorem addW (w : World) (base g : Nat) (m : Nat → Nat) (D : Nat → DataW Unit) (z : Int) (s v : ByteArray) (h : SetAt w base g m D) (hs : s.size ≤ maxLen) (hv : v.size ≤ 100000000) :
    Calls Try.prog 26 #[.pointer (some ⟨g, 0, none⟩), .int .i64 z, .string s, .string v] w fun e w' => e = .returned (.int .i64 (putE D z s (addV D z s v))) ∧ SetAt w' base g m (putD D z s (addV D z s v)) ∧ Below base w w' := by
  have HS := Aside0.mk h
  go_enter Try.func26, Try.ntmps26
  cases hL : inSc D z s with
  | none =>
    have eV : addV D z s v = v := by rw [addV, hL]
    rw [eV]
    go_wp2_with (first | (go_at_call 15; refine (inW _ base g m D z s HS.out hs).mono ?_; rw [hL]; rintro e w1 ⟨rfl, rfl⟩) | (go_at_call 14; refine (putW _ base g m D z s v HS.out hs (by omega)).mono ?_; rintro e w2 ⟨rfl, hS2, hB2⟩))
    go_ret
    exact ⟨rfl, hS2, hB2⟩
  | some o =>
    have ho := inSc_le h hL
    have e1 : (o ++ (⟨#[32]⟩ : ByteArray)).size = o.size + 1 := by rw [ByteArray.size_append]; rfl
    have e2 : ((o ++ (⟨#[32]⟩ : ByteArray)) ++ v).size = o.size + 1 + v.size := by rw [ByteArray.size_append, e1]
    have eV : addV D z s v = (o ++ (⟨#[32]⟩ : ByteArray)) ++ v := by rw [addV, hL]
    rw [eV]
    go_wp2_with (first | (go_at_call 15; refine (inW _ base g m D z s HS.out hs).mono ?_; rw [hL]; rintro e w1 ⟨rfl, rfl⟩) | (go_at_call 14; refine (putW _ base g m D z s ((o ++ (⟨#[32]⟩ : ByteArray)) ++ v) HS.out hs (by omega)).mono ?_; rintro e w2 ⟨rfl, hS2, hB2⟩))
    all_goals
      go_ret
      exact ⟨rfl, hS2, hB2⟩
def defE (D : Nat → DataW Unit) (z : Int) (s v : ByteArray) : Int := if ((getV D s).isSome && isSc z) = true then 0 else putE D z s v
def defD (D : Nat → DataW Unit) (z : Int) (s v : ByteArray) : Nat → DataW Unit := if ((getV D s).isSome && isSc z) = true then D else putD D z s v
set_option maxHeartbeats 8000000 in
set_option maxRecDepth 100000 in
theorem defW (w : World) (base g : Nat) (m : Nat → Nat) (D : Nat → DataW Unit) (z : Int) (s v : ByteArray) (h : SetAt w base g m D) (hs : s.size ≤ maxLen) (hv : v.size ≤ 100000000) :
    Calls Try.prog 27 #[.pointer (some ⟨g, 0, none⟩), .int .i64 z, .string s, .string v] w fun e w' => e = .returned (.int .i64 (defE D z s v)) ∧ SetAt w' base g m (defD D z s v) ∧ Below base w w' := by
  have HS := Aside0.mk h
  go_enter Try.func27, Try.ntmps27
  cases hg : (getV D s).isSome with
  | false =>
    have eE : defE D z s v = putE D z s v := by rw [defE, hg]; rfl
    have eD : defD D z s v = putD D z s v := by rw [defD, hg]; rfl
    rw [eE, eD]
    go_wp2_with (first | (go_at_call 13; refine (getW _ base g m D s HS.out hs).mono ?_; rw [hg]; rintro e w1 ⟨rfl, rfl⟩) | (go_at_call 14; refine (putW _ base g m D z s v HS.out hs (by omega)).mono ?_; rintro e w2 ⟨rfl, hS2, hB2⟩))
    go_ret
    exact ⟨rfl, hS2, hB2⟩
  | true =>
    cases hz : isSc z with
    | false =>
      have eE : defE D z s v = putE D z s v := by rw [defE, hg, hz]; rfl
      have eD : defD D z s v = putD D z s v := by rw [defD, hg, hz]; rfl
      rw [eE, eD]
      go_wp2_with (first | (go_at_call 13; refine (getW _ base g m D s HS.out hs).mono ?_; rw [hg]; rintro e w1 ⟨rfl, rfl⟩) | (go_at_call 29; refine (isScopeW z _).mono ?_; rw [hz]; rintro e w1 ⟨rfl, rfl⟩) | (go_at_call 14; refine (putW _ base g m D z s v HS.out hs (by omega)).mono ?_; rintro e w2 ⟨rfl, hS2, hB2⟩))
      go_ret
      exact ⟨rfl, hS2, hB2⟩
    | true =>
      have eE : defE D z s v = 0 := by rw [defE, hg, hz]; rfl
      have eD : defD D z s v = D := by rw [defD, hg, hz]; rfl
      rw [eE, eD]
      go_wp2_with (first | (go_at_call 13; refine (getW _ base g m D s HS.out hs).mono ?_; rw [hg]; rintro e w1 ⟨rfl, rfl⟩) | (go_at_call 29; refine (isScopeW z _).mono ?_; rw [hz]; rintro e w1 ⟨rfl, rfl⟩))
      go_ret
      exact ⟨rfl, HS.out, Below.refl _ _⟩
def five (a b c d e : Nat) : Nat → Nat
  | 0 => a | 1 => b | 2 => c | 3 => d | _ => e
set_option maxHeartbeats 8000000 in
set_option maxRecDepth 100000 in
theorem newW' (w : World) (B : Nat) (hB : w.heap.size = B) : Calls Try.prog 8 #[] w fun e w' => (∃ g m, e = .returned (.pointer (some ⟨g, 0, none⟩)) ∧ SetAt w' B g m (fun _ => .map [])) ∧ Below B w w' := by
  have hmm := @run_makeMap Try.prog
  have HB := Aside0.mk hB
  go_enter Try.func8, Try.ntmps8
  go_wp2_with (first
    | ((with_reducible refine gate_dst (N := 4) rfl ?_); (try (refine gate_guard (by rfl) ?_; dsimp only)); refine box_event ?hg (N := 4) ?hd (cs := #[.map none, .map none, .map none, .map none, .map none]) (t := 55) ?hr ?_; (case hd => rfl); (case hg => rfl); (case hr => first | (go_simp; done) | (go_simp; rfl)); intro g eg w0 p0 hl0; have EG := Aside0.mk eg; clear eg))
  have hgB : B ≤ g := by have := EG.out; omega
  have hb0 : Below B w w0 := by have := hl0; rw [hB] at this; exact this
  clear hl0 hB
  have hg0 := blk_lt p0
  have hB0 : B ≤ w0.heap.size := by omega
  have H0 := Aside0.mk (⟨hg0, hB0⟩ : g < w0.heap.size ∧ B ≤ w0.heap.size)
  clear hg0 hB0
  refine wp_loop_rounds 6 ?_
  rw [rounds_succ]
  have f0 : (w0.alloc (.map #[] 0)).frozen? ⟨g, 0, none⟩ = false := blk_frozen (blk_below p0 (below_alloc (Below.refl _ _) _)) 0
  have c0 : (w0.alloc (.map #[] 0)).cell? ⟨g, 0, none⟩ = some (.map none) := (blk_cell (blk_below p0 (below_alloc (Below.refl _ _) _)) 0).trans rfl
  go_wp2_with (fail)
  clear f0 c0
  have hgm0 : w0.heap.size ≠ g := by have := H0.out; omega
  have M0 := (Mp.made w0).setCell (a := ⟨g, 0, none⟩) hgm0 (.map (some w0.heap.size))
  have G0 := Aside0.mk hgm0
  have p1 : ((w0.alloc (.map #[] 0)).setCell ⟨g, 0, none⟩ (.map (some w0.heap.size))).heap[g]? = some (.cells #[.map (some w0.heap.size), .map none, .map none, .map none, .map none] 55 (0, 0)) := by
    simpa using blk_set (blk_below p0 (below_alloc (Below.refl _ _) (.map #[] 0))) 0 (.map (some w0.heap.size))
  have hb1 : Below B w ((w0.alloc (.map #[] 0)).setCell ⟨g, 0, none⟩ (.map (some w0.heap.size))) := (below_then hb0 H0.out.2 (below_alloc (Below.refl _ _) _)).setCell (p := ⟨g, 0, none⟩) hgB _
  have hS : ((w0.alloc (.map #[] 0)).setCell ⟨g, 0, none⟩ (.map (some w0.heap.size))).heap.size = w0.heap.size + 1 := by simp
  clear p0 hb0 hgm0
  generalize World.setCell (World.alloc w0 (.map #[] 0)) ⟨g, 0, none⟩ (.map (some w0.heap.size)) = w1 at *
  have H1 := Aside0.mk (⟨by have := H0.out; omega, by have := H0.out; omega⟩ : g < w1.heap.size ∧ B ≤ w1.heap.size)
  have S1 := Aside0.mk hS
  clear hS
  rw [rounds_succ]
  have f1 : (w1.alloc (.map #[] 0)).frozen? ⟨g, 1, none⟩ = false := blk_frozen (blk_below p1 (below_alloc (Below.refl _ _) _)) 1
  have c1 : (w1.alloc (.map #[] 0)).cell? ⟨g, 1, none⟩ = some (.map none) := (blk_cell (blk_below p1 (below_alloc (Below.refl _ _) _)) 1).trans rfl
  go_wp2_with (fail)
  clear f1 c1
  have hgm1 : w1.heap.size ≠ g := by have := H1.out; omega
  have M0 := (M0.alloc (.map #[] 0)).setCell (a := ⟨g, 1, none⟩) G0.out (.map (some w1.heap.size))
  have M1 := (Mp.made w1).setCell (a := ⟨g, 1, none⟩) hgm1 (.map (some w1.heap.size))
  have G1 := Aside0.mk hgm1
  have p2 : ((w1.alloc (.map #[] 0)).setCell ⟨g, 1, none⟩ (.map (some w1.heap.size))).heap[g]? = some (.cells #[.map (some w0.heap.size), .map (some w1.heap.size), .map none, .map none, .map none] 55 (0, 0)) := by
    simpa using blk_set (blk_below p1 (below_alloc (Below.refl _ _) (.map #[] 0))) 1 (.map (some w1.heap.size))
  have hb2 : Below B w ((w1.alloc (.map #[] 0)).setCell ⟨g, 1, none⟩ (.map (some w1.heap.size))) := (below_then hb1 H1.out.2 (below_alloc (Below.refl _ _) _)).setCell (p := ⟨g, 1, none⟩) hgB _
  have hS : ((w1.alloc (.map #[] 0)).setCell ⟨g, 1, none⟩ (.map (some w1.heap.size))).heap.size = w1.heap.size + 1 := by simp
  clear p1 hb1 hgm1
  generalize World.setCell (World.alloc w1 (.map #[] 0)) ⟨g, 1, none⟩ (.map (some w1.heap.size)) = w2 at *
  have H2 := Aside0.mk (⟨by have := H1.out; omega, by have := H1.out; omega⟩ : g < w2.heap.size ∧ B ≤ w2.heap.size)
  have S2 := Aside0.mk hS
  clear hS
  rw [rounds_succ]
  have f2 : (w2.alloc (.map #[] 0)).frozen? ⟨g, 2, none⟩ = false := blk_frozen (blk_below p2 (below_alloc (Below.refl _ _) _)) 2
  have c2 : (w2.alloc (.map #[] 0)).cell? ⟨g, 2, none⟩ = some (.map none) := (blk_cell (blk_below p2 (below_alloc (Below.refl _ _) _)) 2).trans rfl
  go_wp2_with (fail)
  clear f2 c2
  have hgm2 : w2.heap.size ≠ g := by have := H2.out; omega
  have M0 := (M0.alloc (.map #[] 0)).setCell (a := ⟨g, 2, none⟩) G0.out (.map (some w2.heap.size))
  have M1 := (M1.alloc (.map #[] 0)).setCell (a := ⟨g, 2, none⟩) G1.out (.map (some w2.heap.size))
  have M2 := (Mp.made w2).setCell (a := ⟨g, 2, none⟩) hgm2 (.map (some w2.heap.size))
  have G2 := Aside0.mk hgm2
  have p3 : ((w2.alloc (.map #[] 0)).setCell ⟨g, 2, none⟩ (.map (some w2.heap.size))).heap[g]? = some (.cells #[.map (some w0.heap.size), .map (some w1.heap.size), .map (some w2.heap.size), .map none, .map none] 55 (0, 0)) := by
    simpa using blk_set (blk_below p2 (below_alloc (Below.refl _ _) (.map #[] 0))) 2 (.map (some w2.heap.size))
  have hb3 : Below B w ((w2.alloc (.map #[] 0)).setCell ⟨g, 2, none⟩ (.map (some w2.heap.size))) := (below_then hb2 H2.out.2 (below_alloc (Below.refl _ _) _)).setCell (p := ⟨g, 2, none⟩) hgB _
  have hS : ((w2.alloc (.map #[] 0)).setCell ⟨g, 2, none⟩ (.map (some w2.heap.size))).heap.size = w2.heap.size + 1 := by simp
  clear p2 hb2 hgm2
  generalize World.setCell (World.alloc w2 (.map #[] 0)) ⟨g, 2, none⟩ (.map (some w2.heap.size)) = w3 at *
  have H3 := Aside0.mk (⟨by have := H2.out; omega, by have := H2.out; omega⟩ : g < w3.heap.size ∧ B ≤ w3.heap.size)
  have S3 := Aside0.mk hS
  clear hS
  rw [rounds_succ]
  have f3 : (w3.alloc (.map #[] 0)).frozen? ⟨g, 3, none⟩ = false := blk_frozen (blk_below p3 (below_alloc (Below.refl _ _) _)) 3
  have c3 : (w3.alloc (.map #[] 0)).cell? ⟨g, 3, none⟩ = some (.map none) := (blk_cell (blk_below p3 (below_alloc (Below.refl _ _) _)) 3).trans rfl
  go_wp2_with (fail)
  clear f3 c3
  have hgm3 : w3.heap.size ≠ g := by have := H3.out; omega
  have M0 := (M0.alloc (.map #[] 0)).setCell (a := ⟨g, 3, none⟩) G0.out (.map (some w3.heap.size))
  have M1 := (M1.alloc (.map #[] 0)).setCell (a := ⟨g, 3, none⟩) G1.out (.map (some w3.heap.size))
  have M2 := (M2.alloc (.map #[] 0)).setCell (a := ⟨g, 3, none⟩) G2.out (.map (some w3.heap.size))
  have M3 := (Mp.made w3).setCell (a := ⟨g, 3, none⟩) hgm3 (.map (some w3.heap.size))
  have G3 := Aside0.mk hgm3
  have p4 : ((w3.alloc (.map #[] 0)).setCell ⟨g, 3, none⟩ (.map (some w3.heap.size))).heap[g]? = some (.cells #[.map (some w0.heap.size), .map (some w1.heap.size), .map (some w2.heap.size), .map (some w3.heap.size), .map none] 55 (0, 0)) := by
    simpa using blk_set (blk_below p3 (below_alloc (Below.refl _ _) (.map #[] 0))) 3 (.map (some w3.heap.size))
  have hb4 : Below B w ((w3.alloc (.map #[] 0)).setCell ⟨g, 3, none⟩ (.map (some w3.heap.size))) := (below_then hb3 H3.out.2 (below_alloc (Below.refl _ _) _)).setCell (p := ⟨g, 3, none⟩) hgB _
  have hS : ((w3.alloc (.map #[] 0)).setCell ⟨g, 3, none⟩ (.map (some w3.heap.size))).heap.size = w3.heap.size + 1 := by simp
  clear p3 hb3 hgm3
  generalize World.setCell (World.alloc w3 (.map #[] 0)) ⟨g, 3, none⟩ (.map (some w3.heap.size)) = w4 at *
  have H4 := Aside0.mk (⟨by have := H3.out; omega, by have := H3.out; omega⟩ : g < w4.heap.size ∧ B ≤ w4.heap.size)
  have S4 := Aside0.mk hS
  clear hS
  rw [rounds_succ]
  have f4 : (w4.alloc (.map #[] 0)).frozen? ⟨g, 4, none⟩ = false := blk_frozen (blk_below p4 (below_alloc (Below.refl _ _) _)) 4
  have c4 : (w4.alloc (.map #[] 0)).cell? ⟨g, 4, none⟩ = some (.map none) := (blk_cell (blk_below p4 (below_alloc (Below.refl _ _) _)) 4).trans rfl
  go_wp2_with (fail)
  clear f4 c4
  have hgm4 : w4.heap.size ≠ g := by have := H4.out; omega
  have M0 := (M0.alloc (.map #[] 0)).setCell (a := ⟨g, 4, none⟩) G0.out (.map (some w4.heap.size))
  have M1 := (M1.alloc (.map #[] 0)).setCell (a := ⟨g, 4, none⟩) G1.out (.map (some w4.heap.size))
  have M2 := (M2.alloc (.map #[] 0)).setCell (a := ⟨g, 4, none⟩) G2.out (.map (some w4.heap.size))
  have M3 := (M3.alloc (.map #[] 0)).setCell (a := ⟨g, 4, none⟩) G3.out (.map (some w4.heap.size))
  have M4 := (Mp.made w4).setCell (a := ⟨g, 4, none⟩) hgm4 (.map (some w4.heap.size))
  have G4 := Aside0.mk hgm4
  have p5 : ((w4.alloc (.map #[] 0)).setCell ⟨g, 4, none⟩ (.map (some w4.heap.size))).heap[g]? = some (.cells #[.map (some w0.heap.size), .map (some w1.heap.size), .map (some w2.heap.size), .map (some w3.heap.size), .map (some w4.heap.size)] 55 (0, 0)) := by
    simpa using blk_set (blk_below p4 (below_alloc (Below.refl _ _) (.map #[] 0))) 4 (.map (some w4.heap.size))
  have hb5 : Below B w ((w4.alloc (.map #[] 0)).setCell ⟨g, 4, none⟩ (.map (some w4.heap.size))) := (below_then hb4 H4.out.2 (below_alloc (Below.refl _ _) _)).setCell (p := ⟨g, 4, none⟩) hgB _
  have hS : ((w4.alloc (.map #[] 0)).setCell ⟨g, 4, none⟩ (.map (some w4.heap.size))).heap.size = w4.heap.size + 1 := by simp
  clear p4 hb4 hgm4
  generalize World.setCell (World.alloc w4 (.map #[] 0)) ⟨g, 4, none⟩ (.map (some w4.heap.size)) = w5 at *
  have H5 := Aside0.mk (⟨by have := H4.out; omega, by have := H4.out; omega⟩ : g < w5.heap.size ∧ B ≤ w5.heap.size)
  have S5 := Aside0.mk hS
  clear hS
  rw [rounds_succ]
  go_wp2_with (fail)
  go_ret
  have s1 := S1.out
  have s2 := S2.out
  have s3 := S3.out
  have s4 := S4.out
  have h0 := H0.out
  refine ⟨⟨g, five w0.heap.size w1.heap.size w2.heap.size w3.heap.size w4.heap.size, rfl, p5, ?_, ⟨hgB, ?_⟩, ?_, ?_, ?_⟩, hb5⟩
  · intro i j hi hj hne
    rcases lt5 hi with rfl | rfl | rfl | rfl | rfl <;> rcases lt5 hj with rfl | rfl | rfl | rfl | rfl <;> simp only [five] <;> first | (exact absurd rfl hne) | omega
  · intro i hi
    rcases lt5 hi with rfl | rfl | rfl | rfl | rfl <;> simp only [five] <;> omega
  · intro i hi
    rcases lt5 hi with rfl | rfl | rfl | rfl | rfl
    · exact M0
    · exact M1
    · exact M2
    · exact M3
    · exact M4
  · intro i s v hi hl
    rw [look_nil] at hl; cases hl
  · intro i hi
    simp [Maps.size]
theorem newW (w : World) : Calls Try.prog 8 #[] w fun e w' => (∃ g m, e = .returned (.pointer (some ⟨g, 0, none⟩)) ∧ SetAt w' w.heap.size g m (fun _ => .map [])) ∧ Below w.heap.size w w' := newW' w _ rfl
end Go.Proofs.Ytpgfffibiogekaa.MS
