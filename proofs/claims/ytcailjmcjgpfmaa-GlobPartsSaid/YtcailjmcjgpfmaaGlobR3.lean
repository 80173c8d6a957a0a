/- walks: the document's Match -/
import Derived.Test.YtcailjmcjgpfmaaGlobR2
import Derived.Test.YtcailjmcjgpfmaaGlobN
import Derived.OwnWalk
import Derived.Laws.OwnMore
set_option linter.unusedVariables false
namespace Go.Proofs.Ytcailjmcjgpfmaa
open Go.RowKit Ba

theorem infoBool : (Try.prog.info? 4).map (fun i => (i.zero, i.size, i.bytes)) = some (some (.bool false), 1, 1) := by kernel_rfl

def bools (A : List Bool) : List Value := A.map Value.bool
theorem bools_get {A : List Bool} {i : Nat} (h : i < A.length) : (bools A)[i]? = some (.bool (A.getD i false)) := by
  simp [bools, List.getElem?_map, List.getD_eq_getElem?_getD, List.getElem?_eq_getElem h]
/-- a row of bools of the call's own -/
def Brow (B : Nat) (g n : Nat) (A : List Bool) (w : World) : Prop := A.length = n ∧ w.ownsRow B 4 1 (.slice (some ⟨g, 0, none⟩) n n) n (bools A)
theorem Brow.cell {B g n : Nat} {A : List Bool} {w : World} (h : Brow B g n A w) {i : Nat} (hi : i < n) : w.cell? ⟨g, i, none⟩ = some (.bool (A.getD i false)) := by
  rw [h.2.cellAt i (by omega), bools_get (by rw [h.1]; exact hi)]
theorem Brow.frozen {B g n : Nat} {A : List Bool} {w : World} (h : Brow B g n A w) (i : Nat) : w.frozen? ⟨g, i, none⟩ = false := h.2.frozenAt i
theorem Brow.lt {B g n : Nat} {A : List Bool} {w : World} (h : Brow B g n A w) : B ≤ g ∧ g < w.heap.size := h.2.lt g rfl
theorem Brow.store {B g n : Nat} {A : List Bool} {w : World} (h : Brow B g n A w) (i : Nat) (b : Bool) : Brow B g n (A.set i b) (w.setCell ⟨g, i, none⟩ (.bool b)) := by
  refine ⟨by rw [List.length_set]; exact h.1, ?_⟩
  have := (h.2.stored i (.bool b)).1
  rw [show (bools A).set i (.bool b) = bools (A.set i b) by simp [bools, List.map_set]] at this
  exact this
theorem Brow.other {B g g' n : Nat} {A : List Bool} {w : World} (h : Brow B g n A w) (hne : g ≠ g') (i : Nat) (v : Value) : Brow B g n A (w.setCell ⟨g', i, none⟩ v) := by
  refine ⟨h.1, h.2.kept (row := some g') ⟨rfl, rfl, rfl, by simp, fun k _ hk => Below.heap_setCell _ _ _ _ (fun e => hk (by simp [e]))⟩ (.inr ?_)⟩
  simp [Value.ownBlock]; exact hne
theorem Brow.kept {B g n : Nat} {A : List Bool} {w w' : World} (h : Brow B g n A w) (hg : w.grownBy w' none) : Brow B g n A w' := ⟨h.1, h.2.kept hg (.inr (by simp [Value.ownBlock]))⟩
theorem Brow.dr {B g n : Nat} {A : List Bool} {w : World} (h : Brow B g n A w) (k : Nat) : Brow B g n A (w.drewN k) := h
theorem Brow.make {B g n : Nat} {w : World} (h : w.ownsRow B 4 1 (.slice (some ⟨g, 0, none⟩) n n) n (madeCells #[.bool false] n).toList) : Brow B g n (List.replicate n false) w := by
  refine ⟨by simp, ?_⟩
  rw [toList_madeCells_one] at h
  rw [show bools (List.replicate n false) = List.replicate n (.bool false) by simp [bools]]
  exact h
theorem bel_make {B : Nat} {w0 w w' : World} (h : Below B w0 w) (hg : w.grownBy w' none) (hB : B ≤ w.heap.size) : Below B w0 w' := h.grown hg hB (fun k hk => by cases hk)

set_option maxHeartbeats 8000000 in
set_option maxRecDepth 100000 in
theorem rmatch (p0 s : ByteArray) (w : World) (hp : p0.size ≤ 1000000000) (hs : s.size ≤ 1000000000) :
    Calls Try.prog 12 #[.string p0, .string s] w fun e w' => e = .returned (.bool (GP.M p0.data.toList s.data.toList)) ∧ Below w.heap.size w w' := by
  obtain ⟨ib, hib, hb0, hb1, hb2⟩ := info_parts infoBool
  obtain ⟨B, hB⟩ : ∃ B, w.heap.size = B := ⟨_, rfl⟩
  have HL := Lib.hid (size_len s)
  have HB := Lib.hid hB
  go_enter Try.func12, Try.ntmps12
  go_wp2_with (at_make; refine wpList_make_full _ rfl _ _ 36 rfl B 4 ib (.bool false) 1 Try.underlying36 hib hb0 hb1 .i64 .i64 _ _ (s.size + 1) rfl rfl (by omega) (by omega) (by rw [hb2]; omega) (by unfold maxLen; omega) (by omega) ?_)
  intro w1 hown1 hg1
  have hr0 := Brow.make hown1
  have hbel1 : Below B w w1 := bel_make (Below.refl _ _) hg1 (by omega)
  have hc0 := hr0.cell (i := 0) (by omega)
  have hf0 := hr0.frozen 0
  have hst := hr0.store 0 true
  have hbel2 : Below B w (w1.setCell ⟨B, 0, none⟩ (.bool true)) := hbel1.setCell (p := ⟨B, 0, none⟩) (Nat.le_refl _) _
  have hsz1 := hbel1.size
  have hm0 := Lib.hid (GP.MV_start p0.data.toList s.data.toList)
  rw [← HL.out] at hm0
  go_wp2
  go_loopw [0, 5] (fun v0 v5 wr => ∃ (p : ByteArray) (A : List Bool) (g : Nat), v0 = .string p ∧ v5 = .slice (some ⟨g, 0, none⟩) (s.size + 1) (s.size + 1) ∧ p.size ≤ p0.size ∧ Brow B g (s.size + 1) A wr ∧ Below B w wr ∧ B ≤ wr.heap.size ∧ GP.MV A p.data.toList s.data.toList = GP.M p0.data.toList s.data.toList) (fun v0 _ _ => strLen v0)
  case atStart => exact ⟨p0, _, B, rfl, rfl, Nat.le_refl _, hst, hbel2, by simp; omega, hm0.out⟩
  case round =>
    clear hr0 hc0 hf0 hst hbel1 hbel2 hsz1 hm0 hown1 hg1
    obtain ⟨p, A, g, rfl, rfl, hple, hrow, hbel, hsz, hm⟩ := hrel
    have HM := Lib.hid hm
    have HR := Lib.hid hrow
    have HBEL := Lib.hid hbel
    clear hm hrow hbel
    by_cases pz : 0 < p.size
    · obtain ⟨x, hx⟩ : ∃ x, p[0]'pz = x := ⟨_, rfl⟩
      have HC : Hid (p.data.toList = x :: (p.extract 1 p.size).data.toList) := Lib.hid (by rw [← hx]; exact cons1 p pz)
      by_cases x42 : (x.toNat : Int) = 42
      · have q42 : ((x.toNat : Int) == 42) = true := beq_iff_eq.mpr x42
        have F : Hid (x = 42) := Lib.hid (toNat_eq (k := 42) (by omega) q42)
        go_wp2_with (at_make; refine wpList_make_full _ rfl _ _ 36 rfl B 4 ib (.bool false) 1 Try.underlying36 hib hb0 hb1 .i64 .i64 _ _ (s.size + 1) rfl rfl (by omega) (by omega) (by rw [hb2]; omega) (by unfold maxLen; omega) (by omega) ?_)
        intro w2 hown2 hg2
        have hn2 := Lib.hid (Brow.make hown2)
        have hr2 := Lib.hid (HR.out.kept hg2)
        have hb2' := Lib.hid (bel_make HBEL.out hg2 (by omega))
        have hlt := HR.out.lt
        have hsz2 : B ≤ w2.heap.size := hb2'.out.size |> fun h => by omega
        obtain ⟨g2, hg2e⟩ : ∃ g2, wr.heap.size = g2 := ⟨_, rfl⟩
        rw [hg2e] at hn2 hlt ⊢
        have hne : g ≠ g2 := by omega
        clear hown2 hg2
        go_wp2
        go_loopw [7, 8] (fun v7 v8 wq => ∃ i : Nat, i ≤ s.size + 1 ∧ v8 = .int .i64 i ∧ v7 = .bool (GP.orTo A i) ∧ Brow B g (s.size + 1) A wq ∧ Brow B g2 (s.size + 1) (GP.starC A (s.size + 1) i) wq ∧ Below B w wq ∧ B ≤ wq.heap.size) (fun _ v8 _ => s.size + 1 - (intOf v8).toNat)
        case atStart => exact ⟨0, by omega, rfl, rfl, hr2.out, by rw [GP.starC_zero]; exact hn2.out, hb2'.out, hsz2⟩
        case round =>
          obtain ⟨i, hi, rfl, rfl, ha, hn, hbl, hsq⟩ := hrel
          have hcn := hn.frozen i
          by_cases hlt' : i < s.size + 1
          · have c1 := ha.cell hlt'
            have c2 := hn.cell hlt'
            have st : ∀ b : Bool, b = GP.orTo A (i + 1) → Hid (Brow B g (s.size + 1) A (wr.setCell ⟨g2, i, none⟩ (.bool b)) ∧ Brow B g2 (s.size + 1) (GP.starC A (s.size + 1) (i + 1)) (wr.setCell ⟨g2, i, none⟩ (.bool b)) ∧ Below B w (wr.setCell ⟨g2, i, none⟩ (.bool b)) ∧ B ≤ (wr.setCell ⟨g2, i, none⟩ (.bool b)).heap.size) := fun b hb =>
              Lib.hid ⟨ha.other hne i _, by rw [hb, ← GP.starC_set A _ i hlt']; exact hn.store i _, hbl.setCell (p := ⟨g2, i, none⟩) hn.lt.1 _, by simp; omega⟩
            have HS := Lib.hid (GP.orTo_succ A i (by rw [ha.1]; exact hlt'))
            have hle : (i : Int) ≤ (s.size : Int) := by omega
            clear ha hn hbl
            cases ho : GP.orTo A i with
            | true =>
              have HO := Lib.hid ho
              clear ho
              have st1 := st true (by rw [HS.out, HO.out]; rfl)
              clear st
              go_wp2
              go_roundw
              case rel => exact ⟨i + 1, by omega, by go_num, by rw [HS.out, HO.out]; rfl, st1.out.1, st1.out.2.1, st1.out.2.2.1, st1.out.2.2.2⟩
              case measure => simp [intOf]; omega
            | false =>
              have HO := Lib.hid ho
              clear ho
              have st1 := st (A.getD i false) (by rw [HS.out, HO.out]; rfl)
              clear st
              go_wp2
              go_roundw
              case rel => exact ⟨i + 1, by omega, by go_num, by rw [HS.out, HO.out]; rfl, st1.out.1, st1.out.2.1, st1.out.2.2.1, st1.out.2.2.2⟩
              case measure => simp [intOf]; omega
          · have HI : Hid (i = s.size + 1) := Lib.hid (by omega)
            have hgt : (s.size : Int) < (i : Int) := by omega
            have HN : Hid (Brow B g2 (s.size + 1) (GP.starC A (s.size + 1) (s.size + 1)) wr) := Lib.hid (by have := hn; rw [HI.out] at this; exact this)
            have HBL := Lib.hid hbl
            clear ha hn hbl
            go_wp2
            go_roundw
            case rel =>
              have hm := HM.out
              rw [HC.out, F.out, ← GP.MV_star, ← HL.out] at hm
              exact ⟨_, _, g2, rfl, rfl, by rw [tail_size]; omega, HN.out, HBL.out, hsq, hm⟩
            case measure => simp only [strLen, tail_size]; omega
      · have q42 : ((x.toNat : Int) == 42) = false := beq_eq_false_iff_ne.mpr x42
        have F : Hid (x ≠ 42) := Lib.hid (toNat_ne (k := 42) (by omega) q42)
        have k1 := GP.oneK_pos p.data.toList
        have hk2 : GP.oneK p.data.toList ≤ p.size := by
          have h1 := GP.brk_bd p.data.toList
          rw [← size_len] at h1
          have h2 := size_len p
          unfold GP.oneK
          split
          · split <;> omega
          · split
            · split <;> omega
            · omega
        obtain ⟨K, hK⟩ : ∃ K, GP.oneK p.data.toList = K := ⟨_, rfl⟩
        rw [hK] at k1 hk2
        go_wp2_with ((at_make; refine wpList_make_full _ rfl _ _ 36 rfl B 4 ib (.bool false) 1 Try.underlying36 hib hb0 hb1 .i64 .i64 _ _ (s.size + 1) rfl rfl (by omega) (by omega) (by rw [hb2]; omega) (by unfold maxLen; omega) (by omega) ?_))
        intro w2 hown2 hg2
        have hn2 := Lib.hid (Brow.make hown2)
        have hr2 := Lib.hid (HR.out.kept hg2)
        have hb2' := Lib.hid (bel_make HBEL.out hg2 (by omega))
        have hlt := HR.out.lt
        have hsz2 : B ≤ w2.heap.size := hb2'.out.size |> fun h => by omega
        obtain ⟨g2, hg2e⟩ : ∃ g2, wr.heap.size = g2 := ⟨_, rfl⟩
        rw [hg2e] at hn2 hlt ⊢
        have hne : g ≠ g2 := by omega
        clear hown2 hg2
        go_wp2_with (go_at_call 21; refine (rfirst p 0 _ pz (by omega)).mono ?_; rintro e w' ⟨rfl, n1, rfl⟩)
        go_loopw [11] (fun v11 wr => ∃ i : Nat, i ≤ s.size ∧ v11 = .int .i64 i ∧ Brow B g (s.size + 1) A wr ∧ Brow B g2 (s.size + 1) (GP.oneC A p.data.toList s.data.toList (s.size + 1) i) wr ∧ Below B w wr ∧ B ≤ wr.heap.size) (fun v11 _ => s.size - (intOf v11).toNat)
        case atStart => exact ⟨0, by omega, rfl, hr2.out.dr _, by rw [GP.oneC_zero]; exact hn2.out.dr _, below_dr hb2'.out _, hsz2⟩
        case round =>
          obtain ⟨i, hi, rfl, ha, hn, hbl, hsq⟩ := hrel
          have hcn := hn.frozen (i + 1)
          by_cases hlt' : i < s.size
          · obtain ⟨c, hc⟩ : ∃ c, s[i]'hlt' = c := ⟨_, rfl⟩
            have HC' : Hid (s.data.toList.getD i 0 = c) := Lib.hid (by rw [← hc]; exact getD_get s i hlt')
            have c1 := ha.cell (i := i) (by omega)
            have c2 := hn.cell (i := i + 1) (by omega)
            have st : ∀ b : Bool, b = (A.getD i false && GP.oneB p.data.toList c) → ∀ n, Hid (Brow B g (s.size + 1) A ((wr.drewN n).setCell ⟨g2, i + 1, none⟩ (.bool b)) ∧ Brow B g2 (s.size + 1) (GP.oneC A p.data.toList s.data.toList (s.size + 1) (i + 1)) ((wr.drewN n).setCell ⟨g2, i + 1, none⟩ (.bool b)) ∧ Below B w ((wr.drewN n).setCell ⟨g2, i + 1, none⟩ (.bool b)) ∧ B ≤ ((wr.drewN n).setCell ⟨g2, i + 1, none⟩ (.bool b)).heap.size) := fun b hb n =>
              Lib.hid ⟨(ha.dr n).other hne (i + 1) _, by rw [hb, ← HC'.out, ← GP.oneC_set A _ _ _ i (by omega)]; exact (hn.dr n).store (i + 1) _, (below_dr hbl n).setCell (p := ⟨g2, i + 1, none⟩) hn.lt.1 _, by simp; omega⟩
            clear ha hn hbl
            cases hA : A.getD i false with
            | true =>
              rw [hA] at c1
              have st1 := st (GP.oneB p.data.toList c) (by rw [hA]; rfl)
              clear st hA
              go_wp2_with (go_at_call 21; refine (rfirst p c _ pz (by omega)).mono ?_; rintro e w' ⟨rfl, n1, rfl⟩)
              go_roundw
              case rel => exact ⟨i + 1, by omega, by go_num, (st1 n1).out⟩
              case measure => simp [intOf]; omega
            | false =>
              rw [hA] at c1
              have st1 := st false (by rw [hA]; rfl)
              clear st hA
              go_wp2_with (go_at_call 21; refine (rfirst p c _ pz (by omega)).mono ?_; rintro e w' ⟨rfl, n1, rfl⟩)
              go_roundw
              case rel => exact ⟨i + 1, by omega, by go_num, (st1 n1).out⟩
              case measure => simp [intOf]; omega
          · have HI : Hid (i = s.size) := Lib.hid (by omega)
            have hgt : (s.size : Int) ≤ (i : Int) := by omega
            have HN : Hid (Brow B g2 (s.size + 1) (GP.oneC A p.data.toList s.data.toList (s.size + 1) s.size) wr) := Lib.hid (by have := hn; rw [HI.out] at this; exact this)
            have HBL := Lib.hid hbl
            clear ha hn hbl
            go_wp2
            go_roundw
            case rel =>
              have hm := HM.out
              rw [HC.out, ← GP.MV_one _ _ _ _ F.out, ← HL.out, ← HC.out, hK] at hm
              exact ⟨_, _, g2, rfl, rfl, by rw [tail_size]; omega, HN.out, HBL.out, hsq, by rw [drop_ext]; exact hm⟩
            case measure => simp only [strLen, tail_size]; omega
    · have hz : p.size = 0 := by omega
      have hn := nil0 p pz
      have hm := HM.out
      rw [hn, GP.MV_nil, ← HL.out] at hm
      have HF := Lib.hid hm
      have c := HR.out.cell (i := s.size) (by omega)
      rw [HF.out] at c
      clear hn hm
      go_wp2
      go_ret
      exact ⟨rfl, hB ▸ HBEL.out⟩
end Go.Proofs.Ytcailjmcjgpfmaa
