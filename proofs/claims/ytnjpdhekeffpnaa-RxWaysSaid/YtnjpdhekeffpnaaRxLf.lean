/- The law on first matches, walked. -/
import Derived.Test.YtnjpdhekeffpnaaRxEk
import Derived.Test.YtnjpdhekeffpnaaRxLq
set_option linter.unusedVariables false
set_option linter.unusedSimpArgs false
namespace Go.Proofs.Ytnjpdhekeffpnaa.Rx
open Go.RowKit Go.Proofs.YtnjpdhekeffpnaaW.PrintWords Go.Proofs.YtnjpdhekeffpnaaW.PrintLast Go.Proofs.YtnjpdhekeffpnaaW.PrintMore

theorem farW (w : World) (a b : ByteArray) : Calls Try.prog 14 #[.string a, .string b] w fun e w' => e = .returned (.bool (decide (300 < a.size ∨ 60 < b.size))) ∧ w' = w := by
  go_enter Try.func14, Try.ntmps14
  by_cases h1 : 300 < a.size
  · have d1 : decide ((300 : Int) < (a.size : Int)) = true := decide_eq_true (by omega)
    rw [decide_eq_true (.inl h1)]
    clear h1
    go_wp2_with (fail)
    go_ret
    exact ⟨rfl, rfl⟩
  · have d1 : decide ((300 : Int) < (a.size : Int)) = false := decide_eq_false (by omega)
    by_cases h2 : 60 < b.size
    · have d2 : decide ((60 : Int) < (b.size : Int)) = true := decide_eq_true (by omega)
      rw [decide_eq_true (.inr h2)]
      clear h1 h2
      go_wp2_with (fail)
      go_ret
      exact ⟨rfl, rfl⟩
    · have d2 : decide ((60 : Int) < (b.size : Int)) = false := decide_eq_false (by omega)
      rw [decide_eq_false (by rintro (h | h); exact h1 h; exact h2 h)]
      clear h1 h2
      go_wp2_with (fail)
      go_ret
      exact ⟨rfl, rfl⟩
theorem compile_no (w : World) (s : ByteArray) (F : Nat × Nat) (hs : s.size ≤ 140737488355327) (hf : faultB s = some F) :
    Calls Try.prog 11 #[.string s] w fun e w' => e = .returned (.tuple #[.pointer none, .agg #[.int .i64 ((F.1 : Int) + 1), .int .i64 (F.2 : Int)]]) ∧ Below w.heap.size w w' := by
  refine (compileW w s hs).mono ?_
  rintro e w' ⟨h, hb⟩
  rw [hf] at h
  exact ⟨h, hb⟩
theorem pos_ne (n : Nat) : ((n : Int) + 1 == 0) = false := by
  apply beq_false_of_ne; omega
set_option maxHeartbeats 8000000 in
set_option maxRecDepth 1000000 in
theorem RxFirstWalk (W : World) (a : ByteArray) (ha : a.size ≤ 140737488351232) (b : ByteArray) (hb : b.size ≤ 140737488351232) (y : Int) (hy : (Lit.int .i64 y).wf = true) :
    Calls Try.prog 6 #[.string a, .string b, .int .i64 y] W fun e W' => e = .returned (.bool true) ∧ Below W.heap.size W W' := by
  have hu26 := Try.underlying26
  clear hy
  go_enter Try.func6, Try.ntmps6
  go_wp2_with (fail)
  refine (farW W a b).mono ?_
  rintro e w0 ⟨rfl, rfl⟩
  by_cases hs : 300 < a.size ∨ 60 < b.size
  · rw [decide_eq_true hs]
    go_wp2_with (fail)
    refine (aliveW _).mono ?_
    rintro e w9 ⟨rfl, hl9⟩
    go_wp2_with (fail)
    go_ret
    exact ⟨rfl, hl9⟩
  · rw [decide_eq_false hs]
    have HS := Aside0.mk (show a.size ≤ 300 ∧ b.size ≤ 60 by omega)
    clear hs ha hb
    have g1 : (a.size : Int) ≤ 300 := by have := HS.out; omega
    have g2 : (b.size : Int) ≤ 60 := by have := HS.out; omega
    go_wp2_with (fail)
    go_loopg [7] (a.size + 1) (fun kq v7 wr => ∃ z : Int, v7 = .int .i64 z ∧ Aside0 (0 ≤ z ∧ z ≤ (a.size : Int) ∧ z + kq = (a.size : Int) + 1 ∧ ∀ k : Nat, (k : Int) < z → bt a (k : Int) ≠ 94 ∧ bt a (k : Int) ≠ 36) ∧ Aside0 (wr = w0))
    case atStart =>
      exact ⟨0, rfl, ⟨by omega, by omega, by omega, fun k h => by omega⟩, ⟨rfl⟩⟩
    case round =>
      obtain ⟨z, rfl, HI, HE⟩ := hrel
      have hwr := HE.out.symm
      subst hwr
      by_cases hz : z < (a.size : Int)
      · have d2 : decide (z < (a.size : Int)) = true := decide_eq_true hz
        have d3 : 0 ≤ z := HI.out.1
        have hat : z.toNat < a.size := by omega
        obtain ⟨c, hc⟩ : ∃ c : Int, ((a[z.toNat]'hat).toNat : Int) = c := ⟨_, rfl⟩
        have hbt : bt a z = c := by rw [← hc]; unfold bt; rw [dif_pos hat]
        by_cases h94 : c = 94
        · have d4 : ((a[z.toNat]'hat).toNat : Int) = 94 := by rw [hc, h94]
          clear hc h94
          go_wp2_with (fail)
          refine (aliveW _).mono ?_
          rintro e w9 ⟨rfl, hl9⟩
          go_wp2_with (fail)
          go_ret
          exact ⟨rfl, hl9⟩
        · by_cases h36 : c = 36
          · have d4 : ((a[z.toNat]'hat).toNat : Int) = 36 := by rw [hc, h36]
            clear hc h36 h94
            go_wp2_with (fail)
            refine (aliveW _).mono ?_
            rintro e w9 ⟨rfl, hl9⟩
            go_wp2_with (fail)
            go_ret
            exact ⟨rfl, hl9⟩
          · have d4 : (((a[z.toNat]'hat).toNat : Int) == 94) = false := by rw [hc]; exact beq_false_of_ne h94
            have d5 : (((a[z.toNat]'hat).toNat : Int) == 36) = false := by rw [hc]; exact beq_false_of_ne h36
            have HN := Aside0.mk (⟨hbt, h94, h36⟩ : bt a z = c ∧ c ≠ 94 ∧ c ≠ 36)
            obtain ⟨ko, rfl⟩ : ∃ ko, gk = ko + 1 := ⟨gk - 1, by have := HI.out; omega⟩
            clear hc h94 h36 hbt
            go_wp2_with (fail)
            go_roundg ko
            case measure => have := HI.out; omega
            case rel =>
              refine ⟨z + 1, rfl, ⟨by omega, by omega, by have := HI.out; omega, fun k hk => ?_⟩, ⟨rfl⟩⟩
              by_cases hkz : (k : Int) = z
              · rw [hkz, HN.out.1]; exact HN.out.2
              · exact HI.out.2.2.2 k (by omega)
      · have d2 : decide (z < (a.size : Int)) = false := decide_eq_false hz
        have HNA := Aside0.mk (show NoA a from fun k hk => HI.out.2.2.2 k (by omega))
        clear hz HI
        cases hf : faultB a with
        | some F =>
          go_wp2_with (fail)
          refine (compile_no _ a F (by have := HS.out; omega) hf).mono ?_
          rintro e w2 ⟨rfl, hl2⟩
          have e0 := pos_ne F.1
          obtain ⟨fz, hfz⟩ : ∃ fz : Int, (F.1 : Int) + 1 = fz := ⟨_, rfl⟩
          obtain ⟨fy, hfy⟩ : ∃ fy : Int, (F.2 : Int) = fy := ⟨_, rfl⟩
          rw [hfz] at e0
          rw [hfz, hfy]
          clear hfz hfy
          go_wp2_with (first | (((with_reducible refine gate_dst (N := 9) rfl ?_); (try (refine gate_guard (by rfl) ?_; dsimp only)); refine box_event ?hg (N := 9) ?hd (cs := #[.int .i64 0, .int .i64 0]) (t := 26) ?hr ?_; (case hd => rfl); (case hg => rfl); (case hr => first | (go_simp; done) | (go_simp; rfl)); intro p ep wp hp lp; have Ep := Aside0.mk ep; clear ep); have vp0 : wp.cell? ⟨p, 0, none⟩ = some (.int .i64 0) := (blk_cell hp 0).trans rfl; have vp1 : wp.cell? ⟨p, 1, none⟩ = some (.int .i64 0) := (blk_cell hp 1).trans rfl; have fp0 := blk_frozen hp 0; have fp1 := blk_frozen hp 1; have hp4 := blk_set (blk_set hp 0 (.int .i64 fz)) 1 (.int .i64 fy); have u0 := (blk_cell hp4 0).trans (show _ = some (Value.int .i64 fz) from rfl); have u1 := (blk_cell hp4 1).trans (show _ = some (Value.int .i64 fy) from rfl)) | fail)
          have hpw : w0.heap.size ≤ p := by have := Ep.out; have := hl2.size; omega
          have hl5 := ((below_then hl2 hl2.size lp).setCell (p := ⟨p, 0, none⟩) hpw (.int .i64 fz)).setCell (p := ⟨p, 1, none⟩) hpw (.int .i64 fy)
          refine (aliveW _).mono ?_
          rintro e w9 ⟨rfl, hl9⟩
          go_wp2_with (fail)
          go_ret
          exact ⟨rfl, below_then hl5 hl5.size hl9⟩
        | none =>
          go_wp2_with (fail)
          refine (compile_ok _ a (by have := HS.out; omega) hf).mono ?_
          rintro e w2 ⟨r, rfl, hrw, hb2, hl2⟩
          go_wp2_with (first | (((with_reducible refine gate_dst (N := 9) rfl ?_); (try (refine gate_guard (by rfl) ?_; dsimp only)); refine box_event ?hg (N := 9) ?hd (cs := #[.int .i64 0, .int .i64 0]) (t := 26) ?hr ?_; (case hd => rfl); (case hg => rfl); (case hr => first | (go_simp; done) | (go_simp; rfl)); intro p ep wp hp lp; have Ep := Aside0.mk ep; clear ep); have vp0 : wp.cell? ⟨p, 0, none⟩ = some (.int .i64 0) := (blk_cell hp 0).trans rfl; have vp1 : wp.cell? ⟨p, 1, none⟩ = some (.int .i64 0) := (blk_cell hp 1).trans rfl; have fp0 := blk_frozen hp 0; have fp1 := blk_frozen hp 1; have hpr : r ≠ p := (by have := Ep.out; have := blk_lt hb2; omega); have hp4 := blk_set (blk_set hp 0 (.int .i64 0)) 1 (.int .i64 0); have u0 := (blk_cell hp4 0).trans (show _ = some (Value.int .i64 0) from rfl); have u1 := (blk_cell hp4 1).trans (show _ = some (Value.int .i64 0) from rfl)) | fail)
          have hb5 := blk_far (blk_far (blk_below hb2 lp) (p := ⟨p, 0, none⟩) hpr (.int .i64 0)) (p := ⟨p, 1, none⟩) hpr (.int .i64 0)
          have hpw : w0.heap.size ≤ p := by have := Ep.out; have := hl2.size; omega
          have hl5 := ((below_then hl2 hl2.size lp).setCell (p := ⟨p, 0, none⟩) hpw (.int .i64 0)).setCell (p := ⟨p, 1, none⟩) hpw (.int .i64 0)
          obtain ⟨w5, hw5⟩ : ∃ w5, World.setCell (World.setCell wp ⟨p, 0, none⟩ (.int .i64 0)) ⟨p, 1, none⟩ (.int .i64 0) = w5 := ⟨_, rfl⟩
          rw [hw5] at hb5 hl5
          rw [hw5]
          clear hw5 u0 u1 hp4 vp0 vp1 fp0 fp1 hp lp hb2 hl2 hpr hpw
          have HRW := Aside0.mk hrw
          have HFA := Aside0.mk hf
          have HQS := Aside0.mk (fault_none a hf).1
          have hF := findW w5 r a b y HQS.out (by have := HS.out; omega) (.inl hb5)
          obtain ⟨R, hR⟩ : ∃ R, findP b (stepsB a) (firstB a) y = R := ⟨_, rfl⟩
          rw [hR, findV_eq] at hF
          have HR := Aside0.mk hR
          refine hF.mono ?_
          rintro e w6 ⟨rfl, hX6, hK6⟩
          have hl6 := hl5.trans (hK6.below w0.heap.size hrw hl5.size)
          clear hF hK6 hl5 hb5 hR hrw hf
          have HX6 := Aside0.mk hX6
          have HL6 := Aside0.mk hl6
          clear hX6 hl6
          by_cases hy0 : y < 0
          · have d3 : decide (y < 0) = true := decide_eq_true hy0
            have hRn : R = none := by rw [← HR.out]; exact find_far a b y (.inl hy0)
            subst hRn
            dsimp only [fX, fY, Option.isSome]
            clear hy0
            have hA := aliveW w6
            go_wp2_with (first | (go_at_call 10; refine hA.mono ?_; rintro e w9 ⟨rfl, hl9⟩) | fail)
            go_ret
            exact ⟨rfl, below_then HL6.out HL6.out.size hl9⟩
          · have d3 : decide (y < 0) = false := decide_eq_false hy0
            by_cases hyb : y > (b.size : Int)
            · have d4 : decide (y > (b.size : Int)) = true := decide_eq_true hyb
              have hRn : R = none := by rw [← HR.out]; exact find_far a b y (.inr hyb)
              subst hRn
              dsimp only [fX, fY, Option.isSome]
              clear hy0 hyb
              have hA := aliveW w6
              go_wp2_with (first | (go_at_call 10; refine hA.mono ?_; rintro e w9 ⟨rfl, hl9⟩) | fail)
              go_ret
              exact ⟨rfl, below_then HL6.out HL6.out.size hl9⟩
            · have d4 : decide (y > (b.size : Int)) = false := decide_eq_false hyb
              have g3 : 0 ≤ y := by omega
              have g4 : y ≤ (b.size : Int) := by omega
              have HFS := Aside0.mk (show FindS b (readE a).1 y.toNat R by rw [← HR.out]; have := findP_M a b HFA.out y.toNat; rwa [Int.toNat_of_nonneg g3] at this)
              clear hy0 hyb HR
              go_wp2_with (fail)
              go_loopg [13] ((b.size : Int) + 2).toNat (fun kq v13 wr => ∃ i : Int, v13 = .int .i64 i ∧ Aside0 (y ≤ i ∧ i ≤ (b.size : Int) + 1 ∧ i + kq ≥ (b.size : Int) + 2 ∧ 1 ≤ kq ∧ ∀ i' j : Nat, y.toNat ≤ i' → (i' : Int) < i → ¬ M b (readE a).1 i' j) ∧ Aside0 (RgX wr r a) ∧ Aside0 (Below w0.heap.size w0 wr))
              case atStart =>
                exact ⟨y, rfl, ⟨by omega, by omega, by omega, by omega, fun i' j h1 h2 => by omega⟩, HX6, HL6⟩
              case round =>
                clear HX6 HL6
                obtain ⟨i, rfl, HI, HX, HW⟩ := hrel
                have g5 : 0 ≤ i := by have := HI.out; omega
                by_cases hi : i ≤ (b.size : Int)
                · have d5 : decide (i ≤ (b.size : Int)) = true := decide_eq_true hi
                  obtain ⟨ko, rfl⟩ : ∃ ko, gk = ko + 1 := ⟨gk - 1, by have := HI.out; omega⟩
                  go_wp2_with (fail)
                  go_loopg [14] ((b.size : Int) + 2).toNat (fun kq v14 wi => ∃ k : Int, v14 = .int .i64 k ∧ Aside0 (i ≤ k + 1 ∧ k ≤ (b.size : Int) ∧ k + 2 ≤ kq ∧ 1 ≤ kq ∧ ∀ j : Nat, k < (j : Int) → ¬ M b (readE a).1 i.toNat j) ∧ Aside0 (RgX wi r a) ∧ Aside0 (Below w0.heap.size w0 wi))
                  case atStart =>
                    exact ⟨(b.size : Int), rfl, ⟨by omega, by omega, by omega, by omega, fun j hj hm => by have := M_hi b _ _ _ hm (by omega); omega⟩, HX, HW⟩
                  case round =>
                    clear HX HW
                    obtain ⟨k, rfl, HK, HX, HW⟩ := hrel
                    by_cases hk : k ≥ i
                    · have d6 : decide (k ≥ i) = true := decide_eq_true hk
                      have g6 : k ≤ (b.size : Int) := HK.out.2.1
                      have g7 : 0 ≤ k := by omega
                      have g8 : i ≤ k := hk
                      obtain ⟨k1, rfl⟩ : ∃ k1, gk = k1 + 1 := ⟨gk - 1, by have := HK.out; omega⟩
                      obtain ⟨T, hT⟩ : ∃ T, b.extract i.toNat k.toNat = T := ⟨_, rfl⟩
                      have hIs := isW wr r a T HQS.out (by rw [← hT, ByteArray.size_extract]; omega) HX.out
                      have hiff := isP_ext a b i.toNat k.toNat HFA.out HNA.out (by omega) (by omega)
                      rw [hT] at hiff
                      go_wp2_with (fail)
                      (try rw [hT])
                      by_cases hm : M b (readE a).1 i.toNat k.toNat
                      · rw [hiff.2 hm] at hIs
                        have hR2 := first_hit HFS.out (i := i.toNat) (k := k.toNat) (by have := HI.out; omega) (by omega) hm (fun i' j h1 h2 => HI.out.2.2.2.2 i' j h1 (by omega)) (fun j h1 => HK.out.2.2.2.2 j (by omega))
                        rw [Int.toNat_of_nonneg g7] at hR2
                        have hfx : fX R = i := by rw [hR2]; exact Int.toNat_of_nonneg g5
                        have hfy : fY R = k := by rw [hR2]; rfl
                        have hfs : R.isSome = true := by rw [hR2]; rfl
                        rw [hfx, hfy, hfs]
                        clear hR2 hfx hfy hfs hm hiff hT
                        refine hIs.mono ?_
                        rintro e w7 ⟨rfl, hX7, hK7⟩
                        have hl7 := HW.out.trans (hK7.below w0.heap.size HRW.out HW.out.size)
                        have hA := aliveW w7
                        go_wp2_with (first | (go_at_call 10; refine hA.mono ?_; rintro e w9 ⟨rfl, hl9⟩) | fail)
                        go_ret
                        exact ⟨rfl, below_then hl7 hl7.size hl9⟩
                      · rw [show isP T (stepsB a) (firstB a) = false by simpa using fun h => hm (hiff.1 h)] at hIs
                        have HM := Aside0.mk hm
                        clear hm hiff hT
                        refine hIs.mono ?_
                        rintro e w7 ⟨rfl, hX7, hK7⟩
                        have hl7 := HW.out.trans (hK7.below w0.heap.size HRW.out HW.out.size)
                        go_wp2_with (fail)
                        go_roundg k1
                        case measure => have := HK.out; omega
                        case rel =>
                          refine ⟨k - 1, rfl, ⟨by omega, by omega, by have := HK.out; omega, by have := HK.out; omega, fun j hj => ?_⟩, ⟨hX7⟩, ⟨hl7⟩⟩
                          by_cases hjk : (j : Int) = k
                          · rw [show j = k.toNat by omega]; exact HM.out
                          · exact HK.out.2.2.2.2 j (by omega)
                    · have d6 : decide (k ≥ i) = false := decide_eq_false hk
                      have HNN := Aside0.mk (show ∀ j : Nat, ¬ M b (readE a).1 i.toNat j from fun j hm => by
                        have h1 := M_le b _ _ _ hm
                        exact HK.out.2.2.2.2 j (by omega) hm)
                      have HKK := Aside0.mk hk
                      clear hk HK
                      go_wp2_with (fail)
                      go_roundg ko
                      case measure => have := HI.out; omega
                      case rel =>
                        refine ⟨i + 1, rfl, ⟨by have := HI.out; omega, by omega, by have := HI.out; omega, by have := HI.out; omega, fun i' j h1 h2 => ?_⟩, HX, HW⟩
                        by_cases hji : (i' : Int) = i
                        · rw [show i' = i.toNat by omega]; exact HNN.out j
                        · exact HI.out.2.2.2.2 i' j h1 (by omega)
                · have d5 : decide (i ≤ (b.size : Int)) = false := decide_eq_false hi
                  have hRn := first_none HFS.out (fun i' j h1 h2 => HI.out.2.2.2.2 i' j h1 (by omega))
                  have hfs : R.isSome = false := by rw [hRn]; rfl
                  rw [hfs]
                  clear hRn hfs hi
                  have hA := aliveW wr
                  go_wp2_with (first | (go_at_call 10; refine hA.mono ?_; rintro e w9 ⟨rfl, hl9⟩) | fail)
                  go_ret
                  exact ⟨rfl, below_then HW.out HW.out.size hl9⟩
end Go.Proofs.Ytnjpdhekeffpnaa.Rx
