/- Blocks, walked. -/
import Derived.Test.YtiedbnjoomcdbaaDoorTrL
set_option linter.unusedVariables false
set_option linter.unusedSimpArgs false
namespace Go.Proofs.YtiedbnjoomcdbaaDoor.Tr
open Go.RowKit Go.Proofs.YtiedbnjoomcdbaaDoorW.PrintWords Go.Proofs.YtiedbnjoomcdbaaDoorW.PrintLast Go.Proofs.YtiedbnjoomcdbaaDoorW.PrintMore

theorem condN (w0 W : World) (g : Nat) (ls : List GL) (s : St) (l0 : GL) (d : ByteArray × ByteArray) (deep : Int) (bl : St → List Nd × St) (hR : RA w0 W g ls s) (hls : LsOk ls) (hi : s.i ≤ ls.length) (hbl : BlkOk w0 ls deep bl) (hfw : Fwd ls bl) :
    Calls Tryd.prog 41 #[.pointer (some ⟨g, 0, none⟩), .agg #[.string l0.f0, .int .i64 l0.f1, .bool l0.f2], .string d.1, .string d.2, .int .i64 deep] W (NdAt W w0 g ls (cndP ls bl l0 d s)) := by
  refine (condW w0 W g ls s l0 d.1 d.2 deep bl hR hls hi hbl hfw).mono ?_
  rintro e w' ⟨v, rfl, h1, h2, h3⟩
  exact ⟨v, .slice none 0 0, .slice none 0 0, rfl, h1, Kd.R_nil _ _ _ _ _, Kd.R_nil _ _ _ _ _, h2, h3⟩
theorem end_cases {d : ByteArray} (h : isEnd d = true) : d = wElif ∨ d = wElse ∨ d = wEndif ∨ d = wEndfor := by
  simpa [isEnd, or_assoc] using h
theorem if_cases {d : ByteArray} (h : isIf d = true) : d = wIf ∨ d = wIfdef ∨ d = wIfndef ∨ d = wIfmake ∨ d = wIfnmake := by
  simpa [isIf, or_assoc] using h
theorem end_not {d : ByteArray} (h : isEnd d = false) : ¬ d = wElif ∧ ¬ d = wElse ∧ ¬ d = wEndif ∧ ¬ d = wEndfor := by
  simpa [isEnd, and_assoc] using h
theorem if_not {d : ByteArray} (h : isIf d = false) : ¬ d = wIf ∧ ¬ d = wIfdef ∧ ¬ d = wIfndef ∧ ¬ d = wIfmake ∧ ¬ d = wIfnmake := by
  simpa [isIf, and_assoc] using h
theorem dw_size (l : List UInt8) : (l.dropWhile bl).length ≤ l.length := (List.dropWhile_suffix (p := bl) (l := l)).length_le
theorem dirR_size (u : List UInt8) : (dirR u).2.length ≤ u.length := by
  unfold dirR
  have h1 := (List.dropWhile_suffix (p := fun c => !ns c) (l := u)).length_le
  split
  · simp
  · split
    · simp
    · rename_i b q hq
      rw [hq] at h1
      split
      · exact Nat.le_trans (dw_size _) h1
      · simp
theorem dirP_size (x : GL) : (dirP x).2.size ≤ x.f0.size := by
  unfold dirP dirL
  rw [S_size, Ba.size_len x.f0]
  split
  · simp
  · split
    · simp
    · rename_i a r hr
      rw [hr]
      split
      · have h1 := dirR_size (r.dropWhile bl)
        have h2 := dw_size r
        simp only [List.length_cons]
        omega
      · simp
/-- a reader's answer, put behind the row -/
theorem nd_mk {w : World} {B n : Nat} {x : Nd} {vB vN vK : Value} (hB : B ≤ n) (h1 : Kd.R kB TGb w n (fun _ => True) vB (ndF x).2.2.2.2.1) (h2 : Kd.R Kd.string TStr w n (fun _ => True) vN (ndF x).2.2.2.2.2.1) (h3 : Kd.R kN TG w n (fun _ => True) vK (ndF x).2.2.2.2.2.2.2) :
    kN.M w B (fun k => n ≤ k) x [.int .i64 (ndF x).1, .string (ndF x).2.1, .int .i64 (ndF x).2.2.1, .bool (ndF x).2.2.2.1, vB, vN, .string (ndF x).2.2.2.2.2.2.1, vK] := by
  cases x
  exact knd_mk (Kd.R_lower (Kd.R_mono (Kd.R_bound h1) (fun k hk => hk.2.1)) hB) (Kd.R_lower (Kd.R_mono (Kd.R_bound h2) (fun k hk => hk.2.1)) hB) (Kd.R_lower (Kd.R_mono (Kd.R_bound h3) (fun k hk => hk.2.1)) hB)
set_option maxHeartbeats 32000000 in
set_option maxRecDepth 100000 in
theorem blocksStep (w0 : World) (ls : List GL) (hls : LsOk ls) (top : Bool) (deep : Int) (hd0 : 0 ≤ deep) (hd1 : deep ≤ 32) (htop : top = decide (deep = 32)) (cnd lop : GL → ByteArray × ByteArray → St → Nd × St)
    (hc : top = false → ∀ W g s l0 d, RA w0 W g ls s → s.i ≤ ls.length → Calls Tryd.prog 41 #[.pointer (some ⟨g, 0, none⟩), .agg #[.string l0.f0, .int .i64 l0.f1, .bool l0.f2], .string d.1, .string d.2, .int .i64 (deep + 1)] W (NdAt W w0 g ls (cnd l0 d s)))
    (hl : top = false → ∀ W g s l0 d, RA w0 W g ls s → s.i ≤ ls.length → d.2.size ≤ 1000000 → Calls Tryd.prog 42 #[.pointer (some ⟨g, 0, none⟩), .agg #[.string l0.f0, .int .i64 l0.f1, .bool l0.f2], .string d.1, .string d.2, .int .i64 (deep + 1)] W (NdAt W w0 g ls (lop l0 d s)))
    (hci : ∀ l d s, s.i ≤ ls.length → s.i ≤ (cnd l d s).2.i ∧ (cnd l d s).2.i ≤ ls.length) (hli : ∀ l d s, s.i ≤ ls.length → s.i ≤ (lop l d s).2.i ∧ (lop l d s).2.i ≤ ls.length) :
    BlkOk w0 ls deep (fun s => blkL ls top cnd lop (ls.length + 1) s []) := by
  intro W g s hR hi
  have hu34 := Tryd.underlying34
  have hu38 := Tryd.underlying38
  have hu56 := Tryd.underlying56
  have HR := Aside0.mk hR
  have HLS := Aside0.mk hls
  have HC := Aside0.mk hc
  have HL := Aside0.mk hl
  have HCI := Aside0.mk hci
  have HLI := Aside0.mk hli
  have HI := Aside0.mk hi
  have HTOP := Aside0.mk htop
  have HDD := Aside0.mk (And.intro hd0 hd1)
  have ng := hR.lt
  have n0 := hR.ge
  have n00 := hR.bel.size
  clear hR hls hc hl hci hli hi htop hd0 hd1
  obtain ⟨R, hRR⟩ : ∃ R, blkL ls top cnd lop (ls.length + 1) s [] = R := ⟨_, rfl⟩
  dsimp only
  rw [hRR]
  have HRR := Aside0.mk hRR
  clear hRR
  obtain ⟨B, hB⟩ : ∃ B, W.heap.size = B := ⟨_, rfl⟩
  have HBW := Aside0.mk hB
  have HRB := Aside0.mk (Kd.R_nil kN TG W B (fun _ => True))
  have HKW := Aside0.mk (KeepBut.refl W g none)
  have HN := Aside0.mk HLS.out.n
  rw [hB] at ng n00 ⊢
  clear hB
  go_enter Tryd.func27, Tryd.ntmps27
  go_wp2_with (fail)
  go_loopg [5] (ls.length + 2) (fun kq v5 wr => ∃ (n : Nat) (s' : St) (out : List Nd) (v : Value), v = v5 ∧ Aside0 (n + 1 = kq ∧ ls.length < s'.i + n ∧ s'.i ≤ ls.length ∧ blkL ls top cnd lop n s' out = R ∧ out.length ≤ s'.i) ∧ Aside0 (RA w0 wr g ls s') ∧ Aside0 (Kd.R kN TG wr B (fun _ => True) v out) ∧ Aside0 (KeepBut W wr g none))
  case atStart => exact ⟨ls.length + 1, s, [], _, rfl, ⟨rfl, by omega, HI.out, HRR.out, by simp⟩, HR, HRB, HKW⟩
  case round =>
    clear HRB HKW
    obtain ⟨n, s', out, v, rfl, HI', HA, HO, HK⟩ := hrel
    obtain ⟨m, rfl⟩ : ∃ m, n = m + 1 := ⟨n - 1, by have := HI'.out; omega⟩
    obtain ⟨k1, rfl⟩ : ∃ k1, gk = k1 + 1 := ⟨gk - 1, by have := HI'.out; omega⟩
    have hQ := HI'.out.2.2.2.1
    rw [blkL] at hQ
    obtain ⟨A0, c0, e0⟩ := Kd.R_slice HO.out
    subst e0
    obtain ⟨A, c, ⟨f0, f1, f2, f3, f4⟩, hC⟩ := HA.out.open_
    have HCC := Aside0.mk hC
    clear hC
    obtain ⟨z, hz⟩ : ∃ z : Int, (s'.i : Int) = z := ⟨_, rfl⟩
    rw [hz] at f1
    have HZ := Aside0.mk hz
    clear hz
    have HSZ := Aside0.mk (show B ≤ wr.heap.size by have := HK.out.1; have := HBW.out; omega)
    go_wp2_with (fail)
    by_cases hgo : Ok s' ∧ s'.i < ls.length
    · have hok := hgo.1
      have hlt := hgo.2
      rw [if_pos hgo] at hQ
      clear hgo
      obtain ⟨i, e, a⟩ := s'
      obtain ⟨rfl, rfl⟩ := hok
      dsimp only at hQ hlt f1 f2 f3 HZ
      have HLX := Aside0.mk (HLS.out.at_ hlt)
      have hzl : z < (ls.length : Int) := by have := HZ.out; omega
      have hz0 : 0 ≤ z := by have := HZ.out; omega
      have d5 : decide (z < (ls.length : Int)) = true := decide_eq_true hzl
      obtain ⟨x, hx⟩ : ∃ x, ls.getD i z0 = x := ⟨_, rfl⟩
      rw [hx] at hQ HLX
      have HX := Aside0.mk hx
      clear hx
      obtain ⟨d1, d2, hd⟩ : ∃ d1 d2, dirP x = (d1, d2) := ⟨_, _, rfl⟩
      have HDG := Aside0.mk (show PT.loop_Directive.f 1 x.f0 x.f1 x.f2 = some (d1, d2) by rw [← hd]; exact dirG x (by have := HLX.out; omega) 0)
      have HD2 := Aside0.mk (show d2.size ≤ 1000000 by have h1 := dirP_size x; rw [hd] at h1; have := HLX.out; dsimp only at h1; omega)
      rw [hd] at hQ
      clear hd
      dsimp only at hQ
      have HQ := Aside0.mk hQ
      clear hQ
      go_quiet (fail)
      go_wp2_with (fail)
      generalize hq : World.drewN wr _ = w5
      have hR5 : RA w0 w5 g ls ⟨i, 0, 0⟩ := by rw [← hq]; exact HA.out.below (pw_below_drewN (Below.refl _ _) _)
      have HO5 := Aside0.mk (show Kd.R kN TG w5 B (fun _ => True) (.slice A0 out.length c0) out by rw [← hq]; exact Kd.R_drewN HO.out _)
      have HK5 := Aside0.mk (show KeepBut W w5 g none by rw [← hq]; exact HK.out)
      have HS5 := Aside0.mk (show B ≤ w5.heap.size by rw [← hq]; exact HSZ.out)
      clear f0 f1 f2 f3 f4 hq HCC HA HO HK HSZ
      obtain ⟨A, c, ⟨f0, f1, f2, f3, f4⟩, hC⟩ := hR5.open_
      obtain ⟨ad, rfl, k0, k1, k2⟩ := PT.at_T34 hC z hz0 (by omega)
      have hrd : PT.rd_T34 ls z = x := by
        rw [← HX.out, ← HZ.out]; rfl
      rw [hrd] at k0 k1 k2
      dsimp only at f1
      rw [HZ.out] at f1
      have a0 := pw_cell_below (below_alloc (Below.refl _ w5) (.cells #[.string ⟨#[]⟩, .int .i64 0, .bool false] TL)) f0
      have a1 := pw_cell_below (below_alloc (Below.refl _ w5) (.cells #[.string ⟨#[]⟩, .int .i64 0, .bool false] TL)) f1
      have m0 := pw_cell_below (below_alloc (Below.refl _ w5) (.cells #[.string ⟨#[]⟩, .int .i64 0, .bool false] TL)) k0
      have m1 := pw_cell_below (below_alloc (Below.refl _ w5) (.cells #[.string ⟨#[]⟩, .int .i64 0, .bool false] TL)) k1
      have m2 := pw_cell_below (below_alloc (Below.refl _ w5) (.cells #[.string ⟨#[]⟩, .int .i64 0, .bool false] TL)) k2
      have HR5 := Aside0.mk hR5
      clear hC hrd hR5
      go_region
      all_goals
        generalize hq : World.drew (World.alloc w5 _) = w6
        have hl6 : Below w5.heap.size w5 w6 := by rw [← hq]; exact below_drew (below_alloc (Below.refl _ _) _)
        have hb8 : w6.heap[w5.heap.size]? = some (.cells #[.string x.f0, .int .i64 x.f1, .bool x.f2] TL (0, 0)) := by rw [← hq]; exact blk_new w5 _
        have n8 : B ≤ w5.heap.size := HS5.out
        have HR6 := Aside0.mk (HR5.out.below hl6)
        have HO6 := Aside0.mk (Kd.R_below HO5.out hl6)
        have HK6 := Aside0.mk (keep_below HK5.out hl6)
        have HS6 := Aside0.mk (show B ≤ w6.heap.size by have := hl6.size; omega)
        clear f0 f1 f2 f3 f4 k0 k1 k2 a0 a1 m0 m1 m2 hq hl6 HR5 HO5 HK5 HS5
        generalize w5.heap.size = b8 at *
        have z0 := (blk_cell hb8 0).trans rfl
        have z1 := (blk_cell hb8 1).trans rfl
        have z2 := (blk_cell hb8 2).trans rfl
        go_wp2_with (fail)
        refine (PT.loop_Directive.calls 1 x.f0 x.f1 x.f2 d1 d2 _ HDG.out).mono ?_
        rintro e w8 ⟨rfl, hl8⟩
        have HR8 := Aside0.mk (HR6.out.below hl8)
        have HO8 := Aside0.mk (Kd.R_below HO6.out hl8)
        have HK8 := Aside0.mk (keep_below HK6.out hl8)
        have HS8 := Aside0.mk (show B ≤ w8.heap.size by have := hl8.size; have := HS6.out; omega)
        have hb8' := blk_below hb8 hl8
        have y0 := (blk_cell hb8' 0).trans rfl
        have y1 := (blk_cell hb8' 1).trans rfl
        have y2 := (blk_cell hb8' 2).trans rfl
        have HB8 := Aside0.mk hb8'
        clear z0 z1 z2 hb8 hb8' hl8 HR6 HO6 HK6 HS6
        cases hE : isEnd d1 with
        | true =>
          have hQ := HQ.out
          rw [if_pos hE] at hQ
          have HQ2 := Aside0.mk hQ
          clear hQ
          rcases end_cases hE with rfl | rfl | rfl | rfl
          all_goals
            clear hE
            (first | unfold wElif | unfold wElse | unfold wEndif | unfold wEndfor)
            go_wp2_with (fail)
            go_ret
            exact ⟨_, rfl, by rw [← HQ2.out]; exact HO8.out, by rw [← HQ2.out]; exact HR8.out, HK8.out⟩
        | false =>
          obtain ⟨t1, t2, t3, t4⟩ := end_not hE
          have s1a := neq_l (l := [101, 108, 105, 102]) t1; have s1b : ((d1).toList == ([101, 108, 105, 102] : List UInt8)) = false := (by simpa using s1a); have s1c : decide ((d1).toList = ([101, 108, 105, 102] : List UInt8)) = false := decide_eq_false s1a
          have s2a := neq_l (l := [101, 108, 115, 101]) t2; have s2b : ((d1).toList == ([101, 108, 115, 101] : List UInt8)) = false := (by simpa using s2a); have s2c : decide ((d1).toList = ([101, 108, 115, 101] : List UInt8)) = false := decide_eq_false s2a
          have s3a := neq_l (l := [101, 110, 100, 105, 102]) t3; have s3b : ((d1).toList == ([101, 110, 100, 105, 102] : List UInt8)) = false := (by simpa using s3a); have s3c : decide ((d1).toList = ([101, 110, 100, 105, 102] : List UInt8)) = false := decide_eq_false s3a
          have s4a := neq_l (l := [101, 110, 100, 102, 111, 114]) t4; have s4b : ((d1).toList == ([101, 110, 100, 102, 111, 114] : List UInt8)) = false := (by simpa using s4a); have s4c : decide ((d1).toList = ([101, 110, 100, 102, 111, 114] : List UInt8)) = false := decide_eq_false s4a
          clear t1 t2 t3 t4
          have hQ := HQ.out
          rw [if_neg (by rw [hE]; decide)] at hQ
          clear hE
          cases hF : isIf d1 with
          | true =>
            rw [if_pos (.inl hF)] at hQ
            cases top with
            | true =>
              rw [if_pos rfl] at hQ
              rcases if_cases hF with rfl | rfl | rfl | rfl | rfl
              all_goals
                clear hF
                (first | unfold wIf | unfold wIfdef | unfold wIfndef | unfold wIfmake | unfold wIfnmake)
                obtain ⟨A', c', ⟨f0, f1, f2, f3, f4⟩, -⟩ := HR8.out.open_
                have hdd : (deep == 32) = true := by have h := HTOP.out; simpa using h
                have HQ2 := Aside0.mk hQ
                clear hQ
                go_wp2_with (fail)
                refine (wrongW w0 w8 g ls ⟨i, 0, 0⟩ 5 x.f1 HR8.out).mono ?_
                rintro e w10 ⟨rfl, hR10, hK10⟩
                have HR10 := Aside0.mk hR10
                have HO10 := Aside0.mk (rows_keep HO8.out hK10 ng)
                have HK10 := Aside0.mk (HK8.out.trans hK10 (.inl rfl))
                clear hR10 hK10 y0 y1 y2 f0 f1 f2 f3 f4
                go_wp2_with (fail)
                go_ret
                exact ⟨_, rfl, by rw [← HQ2.out]; exact HO10.out, by rw [← HQ2.out]; exact HR10.out, HK10.out⟩
            | false =>
              rw [if_neg (by decide), if_pos hF] at hQ
              have hdd : (deep == 32) = false := by have h := HTOP.out; simpa using h
              rcases if_cases hF with rfl | rfl | rfl | rfl | rfl
              · clear hF
                clear s1a s1b s1c s2a s2b s2c s3a s3b s3c s4a s4b s4c
                obtain ⟨A', c', ⟨f0, f1, f2, f3, f4⟩, -⟩ := HR8.out.open_
                dsimp only at f1
                rw [HZ.out] at f1
                have hw1 : wrap64 (z + 1) = z + 1 := by have := HN.out; unfold wrap64; omega
                have hw2 : wrap64 (deep + 1) = deep + 1 := by have := HDD.out; unfold wrap64; omega
                have p0 := (blk_cell (blk_far HB8.out (p := ⟨g, 1, none⟩) (by show b8 ≠ g; omega) (.int .i64 (z + 1))) 0).trans rfl
                have p1 := (blk_cell (blk_far HB8.out (p := ⟨g, 1, none⟩) (by show b8 ≠ g; omega) (.int .i64 (z + 1))) 1).trans rfl
                have p2 := (blk_cell (blk_far HB8.out (p := ⟨g, 1, none⟩) (by show b8 ≠ g; omega) (.int .i64 (z + 1))) 2).trans rfl
                have HR10 := Aside0.mk (HR8.out.step (i + 1) (z + 1) (by have := HZ.out; omega))
                have HO10 := Aside0.mk (rows_far (j := 1) (u := .int .i64 (z + 1)) HO8.out ng)
                have HK10 := Aside0.mk (keep_set (j := 1) HK8.out (.inl rfl) (.int .i64 (z + 1)))
                have HS10 := Aside0.mk (show B ≤ (w8.setCell ⟨g, 1, none⟩ (.int .i64 (z + 1))).heap.size by simpa using HS8.out)
                have KC := HC.out rfl (w8.setCell ⟨g, 1, none⟩ (.int .i64 (z + 1))) g ⟨i + 1, 0, 0⟩ x (wIf, d2) HR10.out (by have := HZ.out; show i + 1 ≤ ls.length; omega)
                obtain ⟨r, hr⟩ : ∃ r, cnd x (wIf, d2) ⟨i + 1, 0, 0⟩ = r := ⟨_, rfl⟩
                rw [hr] at KC hQ
                have hri := HCI.out x (wIf, d2) ⟨i + 1, 0, 0⟩ (by have := HZ.out; show i + 1 ≤ ls.length; omega)
                rw [hr] at hri
                have HRI := Aside0.mk hri
                have HQ2 := Aside0.mk hQ
                clear hr hri hQ
                unfold wIf at KC ⊢
                dsimp only at KC
                have KC := Aside0.mk KC
                go_wp2_with (fail)
                refine KC.out.mono ?_
                rintro e w11 ⟨vB, vN, vK, rfl, hvB, hvN, hvK, hR11, hK11⟩
                obtain ⟨AB, cB, eB⟩ := Kd.R_slice hvB
                obtain ⟨AN, cN, eN⟩ := Kd.R_slice hvN
                obtain ⟨AK, cK, eK⟩ := Kd.R_slice hvK
                obtain ⟨nB, hnB⟩ : ∃ k, (ndF r.1).2.2.2.2.1.length = k := ⟨_, rfl⟩
                obtain ⟨nN, hnN⟩ : ∃ k, (ndF r.1).2.2.2.2.2.1.length = k := ⟨_, rfl⟩
                obtain ⟨nK, hnK⟩ : ∃ k, (ndF r.1).2.2.2.2.2.2.2.length = k := ⟨_, rfl⟩
                rw [hnB] at eB
                rw [hnN] at eN
                rw [hnK] at eK
                subst eB eN eK
                have HMK := Aside0.mk (nd_mk HS10.out hvB hvN hvK)
                have HR11 := Aside0.mk hR11
                have HO11 := Aside0.mk (rows_keep HO10.out hK11 ng)
                have HK11 := Aside0.mk (HK10.out.trans hK11 (.inl rfl))
                have HS11 := Aside0.mk (Nat.le_trans HS10.out hK11.1)
                have HOW := Aside0.mk (Kd.R_lt HO10.out)
                clear hvB hvN hvK hR11 hK11 hnB hnN hnK KC HR10 HO10 HK10 f0 f1 f2 f3 f4 y0 y1 y2 p0 p1 p2
                go_wp2_with (((with_reducible refine gate_builtin (b := .append) (xs := #[.tmp 87, .tmp 95]) rfl ?_); at_builtin; refine Kd.R_append kN (w0 := w11) B rfl (.tmp 87) (.tmp 95) 35 TG (.agg #[.int .i64 0, .string ⟨#[]⟩, .int .i64 0, .bool false, .slice none 0 0, .slice none 0 0, .string ⟨#[]⟩, .slice none 0 0]) 128 rfl Tryd.underlying35 infoG rfl (by decide) (by decide) (.slice A0 out.length c0) out (r.1) ([.int .i64 (ndF r.1).1, .string (ndF r.1).2.1, .int .i64 (ndF r.1).2.2.1, .bool (ndF r.1).2.2.2.1, .slice AB nB cB, .slice AN nN cN, .string (ndF r.1).2.2.2.2.2.2.1, .slice AK nK cK]) (fun _ => True) (fun k => (w8.setCell ⟨g, 1, none⟩ (.int .i64 (z + 1))).heap.size ≤ k) rfl rfl ?aP ?aF ?aN ?aO ?aB ?aS ?aL ?_))
                case aP => exact HMK.out
                case aF => exact fun k hk => ⟨trivial, fun e => by have := HOW.out k e.symm; omega⟩
                case aN => exact fun _ _ => trivial
                case aO => exact HO11.out
                case aB => exact Below.refl _ _
                case aS => exact HS11.out
                case aL => have h1 := HI'.out.2.2.2.2; have h2 := HI'.out.2.2.1; have h3 := HN.out; (try dsimp only at h1 h2); omega
                intro v6 w12 hR6 hB6 hg6 hat6
                obtain ⟨A6, c6, e6⟩ := Kd.R_slice hR6
                obtain ⟨k6, hk6⟩ : ∃ k, (out ++ [r.1]).length = k := ⟨_, rfl⟩
                rw [hk6] at e6
                subst e6
                have HR12 := Aside0.mk (HR11.out.base hB6 ng n00)
                have HO12 := Aside0.mk hR6
                have HK12 := Aside0.mk (keep_base HK11.out hB6 (by have := HBW.out; omega))
                clear hR6 hB6 hg6 hat6 hk6
                go_wp2_with (fail)
                go_roundg (m + 1)
                case measure => have := HI'.out; omega
                case rel => exact ⟨m, r.2, out ++ [r.1], _, rfl, ⟨rfl, by have h1 := HI'.out.2.1; have h2 := HRI.out.1; (try dsimp only at h1 h2 ⊢); omega, HRI.out.2, HQ2.out, by have h1 := HI'.out.2.2.2.2; have h2 := HRI.out.1; (try dsimp only at h1 h2 ⊢); simp; omega⟩, HR12, HO12, HK12⟩
              · clear hF
                clear s1a s1b s1c s2a s2b s2c s3a s3b s3c s4a s4b s4c
                obtain ⟨A', c', ⟨f0, f1, f2, f3, f4⟩, -⟩ := HR8.out.open_
                dsimp only at f1
                rw [HZ.out] at f1
                have hw1 : wrap64 (z + 1) = z + 1 := by have := HN.out; unfold wrap64; omega
                have hw2 : wrap64 (deep + 1) = deep + 1 := by have := HDD.out; unfold wrap64; omega
                have p0 := (blk_cell (blk_far HB8.out (p := ⟨g, 1, none⟩) (by show b8 ≠ g; omega) (.int .i64 (z + 1))) 0).trans rfl
                have p1 := (blk_cell (blk_far HB8.out (p := ⟨g, 1, none⟩) (by show b8 ≠ g; omega) (.int .i64 (z + 1))) 1).trans rfl
                have p2 := (blk_cell (blk_far HB8.out (p := ⟨g, 1, none⟩) (by show b8 ≠ g; omega) (.int .i64 (z + 1))) 2).trans rfl
                have HR10 := Aside0.mk (HR8.out.step (i + 1) (z + 1) (by have := HZ.out; omega))
                have HO10 := Aside0.mk (rows_far (j := 1) (u := .int .i64 (z + 1)) HO8.out ng)
                have HK10 := Aside0.mk (keep_set (j := 1) HK8.out (.inl rfl) (.int .i64 (z + 1)))
                have HS10 := Aside0.mk (show B ≤ (w8.setCell ⟨g, 1, none⟩ (.int .i64 (z + 1))).heap.size by simpa using HS8.out)
                have KC := HC.out rfl (w8.setCell ⟨g, 1, none⟩ (.int .i64 (z + 1))) g ⟨i + 1, 0, 0⟩ x (wIfdef, d2) HR10.out (by have := HZ.out; show i + 1 ≤ ls.length; omega)
                obtain ⟨r, hr⟩ : ∃ r, cnd x (wIfdef, d2) ⟨i + 1, 0, 0⟩ = r := ⟨_, rfl⟩
                rw [hr] at KC hQ
                have hri := HCI.out x (wIfdef, d2) ⟨i + 1, 0, 0⟩ (by have := HZ.out; show i + 1 ≤ ls.length; omega)
                rw [hr] at hri
                have HRI := Aside0.mk hri
                have HQ2 := Aside0.mk hQ
                clear hr hri hQ
                unfold wIfdef at KC ⊢
                dsimp only at KC
                have KC := Aside0.mk KC
                go_wp2_with (fail)
                refine KC.out.mono ?_
                rintro e w11 ⟨vB, vN, vK, rfl, hvB, hvN, hvK, hR11, hK11⟩
                obtain ⟨AB, cB, eB⟩ := Kd.R_slice hvB
                obtain ⟨AN, cN, eN⟩ := Kd.R_slice hvN
                obtain ⟨AK, cK, eK⟩ := Kd.R_slice hvK
                obtain ⟨nB, hnB⟩ : ∃ k, (ndF r.1).2.2.2.2.1.length = k := ⟨_, rfl⟩
                obtain ⟨nN, hnN⟩ : ∃ k, (ndF r.1).2.2.2.2.2.1.length = k := ⟨_, rfl⟩
                obtain ⟨nK, hnK⟩ : ∃ k, (ndF r.1).2.2.2.2.2.2.2.length = k := ⟨_, rfl⟩
                rw [hnB] at eB
                rw [hnN] at eN
                rw [hnK] at eK
                subst eB eN eK
                have HMK := Aside0.mk (nd_mk HS10.out hvB hvN hvK)
                have HR11 := Aside0.mk hR11
                have HO11 := Aside0.mk (rows_keep HO10.out hK11 ng)
                have HK11 := Aside0.mk (HK10.out.trans hK11 (.inl rfl))
                have HS11 := Aside0.mk (Nat.le_trans HS10.out hK11.1)
                have HOW := Aside0.mk (Kd.R_lt HO10.out)
                clear hvB hvN hvK hR11 hK11 hnB hnN hnK KC HR10 HO10 HK10 f0 f1 f2 f3 f4 y0 y1 y2 p0 p1 p2
                go_wp2_with (((with_reducible refine gate_builtin (b := .append) (xs := #[.tmp 87, .tmp 95]) rfl ?_); at_builtin; refine Kd.R_append kN (w0 := w11) B rfl (.tmp 87) (.tmp 95) 35 TG (.agg #[.int .i64 0, .string ⟨#[]⟩, .int .i64 0, .bool false, .slice none 0 0, .slice none 0 0, .string ⟨#[]⟩, .slice none 0 0]) 128 rfl Tryd.underlying35 infoG rfl (by decide) (by decide) (.slice A0 out.length c0) out (r.1) ([.int .i64 (ndF r.1).1, .string (ndF r.1).2.1, .int .i64 (ndF r.1).2.2.1, .bool (ndF r.1).2.2.2.1, .slice AB nB cB, .slice AN nN cN, .string (ndF r.1).2.2.2.2.2.2.1, .slice AK nK cK]) (fun _ => True) (fun k => (w8.setCell ⟨g, 1, none⟩ (.int .i64 (z + 1))).heap.size ≤ k) rfl rfl ?aP ?aF ?aN ?aO ?aB ?aS ?aL ?_))
                case aP => exact HMK.out
                case aF => exact fun k hk => ⟨trivial, fun e => by have := HOW.out k e.symm; omega⟩
                case aN => exact fun _ _ => trivial
                case aO => exact HO11.out
                case aB => exact Below.refl _ _
                case aS => exact HS11.out
                case aL => have h1 := HI'.out.2.2.2.2; have h2 := HI'.out.2.2.1; have h3 := HN.out; (try dsimp only at h1 h2); omega
                intro v6 w12 hR6 hB6 hg6 hat6
                obtain ⟨A6, c6, e6⟩ := Kd.R_slice hR6
                obtain ⟨k6, hk6⟩ : ∃ k, (out ++ [r.1]).length = k := ⟨_, rfl⟩
                rw [hk6] at e6
                subst e6
                have HR12 := Aside0.mk (HR11.out.base hB6 ng n00)
                have HO12 := Aside0.mk hR6
                have HK12 := Aside0.mk (keep_base HK11.out hB6 (by have := HBW.out; omega))
                clear hR6 hB6 hg6 hat6 hk6
                go_wp2_with (fail)
                go_roundg (m + 1)
                case measure => have := HI'.out; omega
                case rel => exact ⟨m, r.2, out ++ [r.1], _, rfl, ⟨rfl, by have h1 := HI'.out.2.1; have h2 := HRI.out.1; (try dsimp only at h1 h2 ⊢); omega, HRI.out.2, HQ2.out, by have h1 := HI'.out.2.2.2.2; have h2 := HRI.out.1; (try dsimp only at h1 h2 ⊢); simp; omega⟩, HR12, HO12, HK12⟩
              · clear hF
                clear s1a s1b s1c s2a s2b s2c s3a s3b s3c s4a s4b s4c
                obtain ⟨A', c', ⟨f0, f1, f2, f3, f4⟩, -⟩ := HR8.out.open_
                dsimp only at f1
                rw [HZ.out] at f1
                have hw1 : wrap64 (z + 1) = z + 1 := by have := HN.out; unfold wrap64; omega
                have hw2 : wrap64 (deep + 1) = deep + 1 := by have := HDD.out; unfold wrap64; omega
                have p0 := (blk_cell (blk_far HB8.out (p := ⟨g, 1, none⟩) (by show b8 ≠ g; omega) (.int .i64 (z + 1))) 0).trans rfl
                have p1 := (blk_cell (blk_far HB8.out (p := ⟨g, 1, none⟩) (by show b8 ≠ g; omega) (.int .i64 (z + 1))) 1).trans rfl
                have p2 := (blk_cell (blk_far HB8.out (p := ⟨g, 1, none⟩) (by show b8 ≠ g; omega) (.int .i64 (z + 1))) 2).trans rfl
                have HR10 := Aside0.mk (HR8.out.step (i + 1) (z + 1) (by have := HZ.out; omega))
                have HO10 := Aside0.mk (rows_far (j := 1) (u := .int .i64 (z + 1)) HO8.out ng)
                have HK10 := Aside0.mk (keep_set (j := 1) HK8.out (.inl rfl) (.int .i64 (z + 1)))
                have HS10 := Aside0.mk (show B ≤ (w8.setCell ⟨g, 1, none⟩ (.int .i64 (z + 1))).heap.size by simpa using HS8.out)
                have KC := HC.out rfl (w8.setCell ⟨g, 1, none⟩ (.int .i64 (z + 1))) g ⟨i + 1, 0, 0⟩ x (wIfndef, d2) HR10.out (by have := HZ.out; show i + 1 ≤ ls.length; omega)
                obtain ⟨r, hr⟩ : ∃ r, cnd x (wIfndef, d2) ⟨i + 1, 0, 0⟩ = r := ⟨_, rfl⟩
                rw [hr] at KC hQ
                have hri := HCI.out x (wIfndef, d2) ⟨i + 1, 0, 0⟩ (by have := HZ.out; show i + 1 ≤ ls.length; omega)
                rw [hr] at hri
                have HRI := Aside0.mk hri
                have HQ2 := Aside0.mk hQ
                clear hr hri hQ
                unfold wIfndef at KC ⊢
                dsimp only at KC
                have KC := Aside0.mk KC
                go_wp2_with (fail)
                refine KC.out.mono ?_
                rintro e w11 ⟨vB, vN, vK, rfl, hvB, hvN, hvK, hR11, hK11⟩
                obtain ⟨AB, cB, eB⟩ := Kd.R_slice hvB
                obtain ⟨AN, cN, eN⟩ := Kd.R_slice hvN
                obtain ⟨AK, cK, eK⟩ := Kd.R_slice hvK
                obtain ⟨nB, hnB⟩ : ∃ k, (ndF r.1).2.2.2.2.1.length = k := ⟨_, rfl⟩
                obtain ⟨nN, hnN⟩ : ∃ k, (ndF r.1).2.2.2.2.2.1.length = k := ⟨_, rfl⟩
                obtain ⟨nK, hnK⟩ : ∃ k, (ndF r.1).2.2.2.2.2.2.2.length = k := ⟨_, rfl⟩
                rw [hnB] at eB
                rw [hnN] at eN
                rw [hnK] at eK
                subst eB eN eK
                have HMK := Aside0.mk (nd_mk HS10.out hvB hvN hvK)
                have HR11 := Aside0.mk hR11
                have HO11 := Aside0.mk (rows_keep HO10.out hK11 ng)
                have HK11 := Aside0.mk (HK10.out.trans hK11 (.inl rfl))
                have HS11 := Aside0.mk (Nat.le_trans HS10.out hK11.1)
                have HOW := Aside0.mk (Kd.R_lt HO10.out)
                clear hvB hvN hvK hR11 hK11 hnB hnN hnK KC HR10 HO10 HK10 f0 f1 f2 f3 f4 y0 y1 y2 p0 p1 p2
                go_wp2_with (((with_reducible refine gate_builtin (b := .append) (xs := #[.tmp 87, .tmp 95]) rfl ?_); at_builtin; refine Kd.R_append kN (w0 := w11) B rfl (.tmp 87) (.tmp 95) 35 TG (.agg #[.int .i64 0, .string ⟨#[]⟩, .int .i64 0, .bool false, .slice none 0 0, .slice none 0 0, .string ⟨#[]⟩, .slice none 0 0]) 128 rfl Tryd.underlying35 infoG rfl (by decide) (by decide) (.slice A0 out.length c0) out (r.1) ([.int .i64 (ndF r.1).1, .string (ndF r.1).2.1, .int .i64 (ndF r.1).2.2.1, .bool (ndF r.1).2.2.2.1, .slice AB nB cB, .slice AN nN cN, .string (ndF r.1).2.2.2.2.2.2.1, .slice AK nK cK]) (fun _ => True) (fun k => (w8.setCell ⟨g, 1, none⟩ (.int .i64 (z + 1))).heap.size ≤ k) rfl rfl ?aP ?aF ?aN ?aO ?aB ?aS ?aL ?_))
                case aP => exact HMK.out
                case aF => exact fun k hk => ⟨trivial, fun e => by have := HOW.out k e.symm; omega⟩
                case aN => exact fun _ _ => trivial
                case aO => exact HO11.out
                case aB => exact Below.refl _ _
                case aS => exact HS11.out
                case aL => have h1 := HI'.out.2.2.2.2; have h2 := HI'.out.2.2.1; have h3 := HN.out; (try dsimp only at h1 h2); omega
                intro v6 w12 hR6 hB6 hg6 hat6
                obtain ⟨A6, c6, e6⟩ := Kd.R_slice hR6
                obtain ⟨k6, hk6⟩ : ∃ k, (out ++ [r.1]).length = k := ⟨_, rfl⟩
                rw [hk6] at e6
                subst e6
                have HR12 := Aside0.mk (HR11.out.base hB6 ng n00)
                have HO12 := Aside0.mk hR6
                have HK12 := Aside0.mk (keep_base HK11.out hB6 (by have := HBW.out; omega))
                clear hR6 hB6 hg6 hat6 hk6
                go_wp2_with (fail)
                go_roundg (m + 1)
                case measure => have := HI'.out; omega
                case rel => exact ⟨m, r.2, out ++ [r.1], _, rfl, ⟨rfl, by have h1 := HI'.out.2.1; have h2 := HRI.out.1; (try dsimp only at h1 h2 ⊢); omega, HRI.out.2, HQ2.out, by have h1 := HI'.out.2.2.2.2; have h2 := HRI.out.1; (try dsimp only at h1 h2 ⊢); simp; omega⟩, HR12, HO12, HK12⟩
              · clear hF
                clear s1a s1b s1c s2a s2b s2c s3a s3b s3c s4a s4b s4c
                obtain ⟨A', c', ⟨f0, f1, f2, f3, f4⟩, -⟩ := HR8.out.open_
                dsimp only at f1
                rw [HZ.out] at f1
                have hw1 : wrap64 (z + 1) = z + 1 := by have := HN.out; unfold wrap64; omega
                have hw2 : wrap64 (deep + 1) = deep + 1 := by have := HDD.out; unfold wrap64; omega
                have p0 := (blk_cell (blk_far HB8.out (p := ⟨g, 1, none⟩) (by show b8 ≠ g; omega) (.int .i64 (z + 1))) 0).trans rfl
                have p1 := (blk_cell (blk_far HB8.out (p := ⟨g, 1, none⟩) (by show b8 ≠ g; omega) (.int .i64 (z + 1))) 1).trans rfl
                have p2 := (blk_cell (blk_far HB8.out (p := ⟨g, 1, none⟩) (by show b8 ≠ g; omega) (.int .i64 (z + 1))) 2).trans rfl
                have HR10 := Aside0.mk (HR8.out.step (i + 1) (z + 1) (by have := HZ.out; omega))
                have HO10 := Aside0.mk (rows_far (j := 1) (u := .int .i64 (z + 1)) HO8.out ng)
                have HK10 := Aside0.mk (keep_set (j := 1) HK8.out (.inl rfl) (.int .i64 (z + 1)))
                have HS10 := Aside0.mk (show B ≤ (w8.setCell ⟨g, 1, none⟩ (.int .i64 (z + 1))).heap.size by simpa using HS8.out)
                have KC := HC.out rfl (w8.setCell ⟨g, 1, none⟩ (.int .i64 (z + 1))) g ⟨i + 1, 0, 0⟩ x (wIfmake, d2) HR10.out (by have := HZ.out; show i + 1 ≤ ls.length; omega)
                obtain ⟨r, hr⟩ : ∃ r, cnd x (wIfmake, d2) ⟨i + 1, 0, 0⟩ = r := ⟨_, rfl⟩
                rw [hr] at KC hQ
                have hri := HCI.out x (wIfmake, d2) ⟨i + 1, 0, 0⟩ (by have := HZ.out; show i + 1 ≤ ls.length; omega)
                rw [hr] at hri
                have HRI := Aside0.mk hri
                have HQ2 := Aside0.mk hQ
                clear hr hri hQ
                unfold wIfmake at KC ⊢
                dsimp only at KC
                have KC := Aside0.mk KC
                go_wp2_with (fail)
                refine KC.out.mono ?_
                rintro e w11 ⟨vB, vN, vK, rfl, hvB, hvN, hvK, hR11, hK11⟩
                obtain ⟨AB, cB, eB⟩ := Kd.R_slice hvB
                obtain ⟨AN, cN, eN⟩ := Kd.R_slice hvN
                obtain ⟨AK, cK, eK⟩ := Kd.R_slice hvK
                obtain ⟨nB, hnB⟩ : ∃ k, (ndF r.1).2.2.2.2.1.length = k := ⟨_, rfl⟩
                obtain ⟨nN, hnN⟩ : ∃ k, (ndF r.1).2.2.2.2.2.1.length = k := ⟨_, rfl⟩
                obtain ⟨nK, hnK⟩ : ∃ k, (ndF r.1).2.2.2.2.2.2.2.length = k := ⟨_, rfl⟩
                rw [hnB] at eB
                rw [hnN] at eN
                rw [hnK] at eK
                subst eB eN eK
                have HMK := Aside0.mk (nd_mk HS10.out hvB hvN hvK)
                have HR11 := Aside0.mk hR11
                have HO11 := Aside0.mk (rows_keep HO10.out hK11 ng)
                have HK11 := Aside0.mk (HK10.out.trans hK11 (.inl rfl))
                have HS11 := Aside0.mk (Nat.le_trans HS10.out hK11.1)
                have HOW := Aside0.mk (Kd.R_lt HO10.out)
                clear hvB hvN hvK hR11 hK11 hnB hnN hnK KC HR10 HO10 HK10 f0 f1 f2 f3 f4 y0 y1 y2 p0 p1 p2
                go_wp2_with (((with_reducible refine gate_builtin (b := .append) (xs := #[.tmp 87, .tmp 95]) rfl ?_); at_builtin; refine Kd.R_append kN (w0 := w11) B rfl (.tmp 87) (.tmp 95) 35 TG (.agg #[.int .i64 0, .string ⟨#[]⟩, .int .i64 0, .bool false, .slice none 0 0, .slice none 0 0, .string ⟨#[]⟩, .slice none 0 0]) 128 rfl Tryd.underlying35 infoG rfl (by decide) (by decide) (.slice A0 out.length c0) out (r.1) ([.int .i64 (ndF r.1).1, .string (ndF r.1).2.1, .int .i64 (ndF r.1).2.2.1, .bool (ndF r.1).2.2.2.1, .slice AB nB cB, .slice AN nN cN, .string (ndF r.1).2.2.2.2.2.2.1, .slice AK nK cK]) (fun _ => True) (fun k => (w8.setCell ⟨g, 1, none⟩ (.int .i64 (z + 1))).heap.size ≤ k) rfl rfl ?aP ?aF ?aN ?aO ?aB ?aS ?aL ?_))
                case aP => exact HMK.out
                case aF => exact fun k hk => ⟨trivial, fun e => by have := HOW.out k e.symm; omega⟩
                case aN => exact fun _ _ => trivial
                case aO => exact HO11.out
                case aB => exact Below.refl _ _
                case aS => exact HS11.out
                case aL => have h1 := HI'.out.2.2.2.2; have h2 := HI'.out.2.2.1; have h3 := HN.out; (try dsimp only at h1 h2); omega
                intro v6 w12 hR6 hB6 hg6 hat6
                obtain ⟨A6, c6, e6⟩ := Kd.R_slice hR6
                obtain ⟨k6, hk6⟩ : ∃ k, (out ++ [r.1]).length = k := ⟨_, rfl⟩
                rw [hk6] at e6
                subst e6
                have HR12 := Aside0.mk (HR11.out.base hB6 ng n00)
                have HO12 := Aside0.mk hR6
                have HK12 := Aside0.mk (keep_base HK11.out hB6 (by have := HBW.out; omega))
                clear hR6 hB6 hg6 hat6 hk6
                go_wp2_with (fail)
                go_roundg (m + 1)
                case measure => have := HI'.out; omega
                case rel => exact ⟨m, r.2, out ++ [r.1], _, rfl, ⟨rfl, by have h1 := HI'.out.2.1; have h2 := HRI.out.1; (try dsimp only at h1 h2 ⊢); omega, HRI.out.2, HQ2.out, by have h1 := HI'.out.2.2.2.2; have h2 := HRI.out.1; (try dsimp only at h1 h2 ⊢); simp; omega⟩, HR12, HO12, HK12⟩
              · clear hF
                clear s1a s1b s1c s2a s2b s2c s3a s3b s3c s4a s4b s4c
                obtain ⟨A', c', ⟨f0, f1, f2, f3, f4⟩, -⟩ := HR8.out.open_
                dsimp only at f1
                rw [HZ.out] at f1
                have hw1 : wrap64 (z + 1) = z + 1 := by have := HN.out; unfold wrap64; omega
                have hw2 : wrap64 (deep + 1) = deep + 1 := by have := HDD.out; unfold wrap64; omega
                have p0 := (blk_cell (blk_far HB8.out (p := ⟨g, 1, none⟩) (by show b8 ≠ g; omega) (.int .i64 (z + 1))) 0).trans rfl
                have p1 := (blk_cell (blk_far HB8.out (p := ⟨g, 1, none⟩) (by show b8 ≠ g; omega) (.int .i64 (z + 1))) 1).trans rfl
                have p2 := (blk_cell (blk_far HB8.out (p := ⟨g, 1, none⟩) (by show b8 ≠ g; omega) (.int .i64 (z + 1))) 2).trans rfl
                have HR10 := Aside0.mk (HR8.out.step (i + 1) (z + 1) (by have := HZ.out; omega))
                have HO10 := Aside0.mk (rows_far (j := 1) (u := .int .i64 (z + 1)) HO8.out ng)
                have HK10 := Aside0.mk (keep_set (j := 1) HK8.out (.inl rfl) (.int .i64 (z + 1)))
                have HS10 := Aside0.mk (show B ≤ (w8.setCell ⟨g, 1, none⟩ (.int .i64 (z + 1))).heap.size by simpa using HS8.out)
                have KC := HC.out rfl (w8.setCell ⟨g, 1, none⟩ (.int .i64 (z + 1))) g ⟨i + 1, 0, 0⟩ x (wIfnmake, d2) HR10.out (by have := HZ.out; show i + 1 ≤ ls.length; omega)
                obtain ⟨r, hr⟩ : ∃ r, cnd x (wIfnmake, d2) ⟨i + 1, 0, 0⟩ = r := ⟨_, rfl⟩
                rw [hr] at KC hQ
                have hri := HCI.out x (wIfnmake, d2) ⟨i + 1, 0, 0⟩ (by have := HZ.out; show i + 1 ≤ ls.length; omega)
                rw [hr] at hri
                have HRI := Aside0.mk hri
                have HQ2 := Aside0.mk hQ
                clear hr hri hQ
                unfold wIfnmake at KC ⊢
                dsimp only at KC
                have KC := Aside0.mk KC
                go_wp2_with (fail)
                refine KC.out.mono ?_
                rintro e w11 ⟨vB, vN, vK, rfl, hvB, hvN, hvK, hR11, hK11⟩
                obtain ⟨AB, cB, eB⟩ := Kd.R_slice hvB
                obtain ⟨AN, cN, eN⟩ := Kd.R_slice hvN
                obtain ⟨AK, cK, eK⟩ := Kd.R_slice hvK
                obtain ⟨nB, hnB⟩ : ∃ k, (ndF r.1).2.2.2.2.1.length = k := ⟨_, rfl⟩
                obtain ⟨nN, hnN⟩ : ∃ k, (ndF r.1).2.2.2.2.2.1.length = k := ⟨_, rfl⟩
                obtain ⟨nK, hnK⟩ : ∃ k, (ndF r.1).2.2.2.2.2.2.2.length = k := ⟨_, rfl⟩
                rw [hnB] at eB
                rw [hnN] at eN
                rw [hnK] at eK
                subst eB eN eK
                have HMK := Aside0.mk (nd_mk HS10.out hvB hvN hvK)
                have HR11 := Aside0.mk hR11
                have HO11 := Aside0.mk (rows_keep HO10.out hK11 ng)
                have HK11 := Aside0.mk (HK10.out.trans hK11 (.inl rfl))
                have HS11 := Aside0.mk (Nat.le_trans HS10.out hK11.1)
                have HOW := Aside0.mk (Kd.R_lt HO10.out)
                clear hvB hvN hvK hR11 hK11 hnB hnN hnK KC HR10 HO10 HK10 f0 f1 f2 f3 f4 y0 y1 y2 p0 p1 p2
                go_wp2_with (((with_reducible refine gate_builtin (b := .append) (xs := #[.tmp 87, .tmp 95]) rfl ?_); at_builtin; refine Kd.R_append kN (w0 := w11) B rfl (.tmp 87) (.tmp 95) 35 TG (.agg #[.int .i64 0, .string ⟨#[]⟩, .int .i64 0, .bool false, .slice none 0 0, .slice none 0 0, .string ⟨#[]⟩, .slice none 0 0]) 128 rfl Tryd.underlying35 infoG rfl (by decide) (by decide) (.slice A0 out.length c0) out (r.1) ([.int .i64 (ndF r.1).1, .string (ndF r.1).2.1, .int .i64 (ndF r.1).2.2.1, .bool (ndF r.1).2.2.2.1, .slice AB nB cB, .slice AN nN cN, .string (ndF r.1).2.2.2.2.2.2.1, .slice AK nK cK]) (fun _ => True) (fun k => (w8.setCell ⟨g, 1, none⟩ (.int .i64 (z + 1))).heap.size ≤ k) rfl rfl ?aP ?aF ?aN ?aO ?aB ?aS ?aL ?_))
                case aP => exact HMK.out
                case aF => exact fun k hk => ⟨trivial, fun e => by have := HOW.out k e.symm; omega⟩
                case aN => exact fun _ _ => trivial
                case aO => exact HO11.out
                case aB => exact Below.refl _ _
                case aS => exact HS11.out
                case aL => have h1 := HI'.out.2.2.2.2; have h2 := HI'.out.2.2.1; have h3 := HN.out; (try dsimp only at h1 h2); omega
                intro v6 w12 hR6 hB6 hg6 hat6
                obtain ⟨A6, c6, e6⟩ := Kd.R_slice hR6
                obtain ⟨k6, hk6⟩ : ∃ k, (out ++ [r.1]).length = k := ⟨_, rfl⟩
                rw [hk6] at e6
                subst e6
                have HR12 := Aside0.mk (HR11.out.base hB6 ng n00)
                have HO12 := Aside0.mk hR6
                have HK12 := Aside0.mk (keep_base HK11.out hB6 (by have := HBW.out; omega))
                clear hR6 hB6 hg6 hat6 hk6
                go_wp2_with (fail)
                go_roundg (m + 1)
                case measure => have := HI'.out; omega
                case rel => exact ⟨m, r.2, out ++ [r.1], _, rfl, ⟨rfl, by have h1 := HI'.out.2.1; have h2 := HRI.out.1; (try dsimp only at h1 h2 ⊢); omega, HRI.out.2, HQ2.out, by have h1 := HI'.out.2.2.2.2; have h2 := HRI.out.1; (try dsimp only at h1 h2 ⊢); simp; omega⟩, HR12, HO12, HK12⟩
          | false =>
            obtain ⟨t1, t2, t3, t4, t5⟩ := if_not hF
            have s5a := neq_l (l := [105, 102]) t1; have s5b : ((d1).toList == ([105, 102] : List UInt8)) = false := (by simpa using s5a); have s5c : decide ((d1).toList = ([105, 102] : List UInt8)) = false := decide_eq_false s5a
            have s6a := neq_l (l := [105, 102, 100, 101, 102]) t2; have s6b : ((d1).toList == ([105, 102, 100, 101, 102] : List UInt8)) = false := (by simpa using s6a); have s6c : decide ((d1).toList = ([105, 102, 100, 101, 102] : List UInt8)) = false := decide_eq_false s6a
            have s7a := neq_l (l := [105, 102, 110, 100, 101, 102]) t3; have s7b : ((d1).toList == ([105, 102, 110, 100, 101, 102] : List UInt8)) = false := (by simpa using s7a); have s7c : decide ((d1).toList = ([105, 102, 110, 100, 101, 102] : List UInt8)) = false := decide_eq_false s7a
            have s8a := neq_l (l := [105, 102, 109, 97, 107, 101]) t4; have s8b : ((d1).toList == ([105, 102, 109, 97, 107, 101] : List UInt8)) = false := (by simpa using s8a); have s8c : decide ((d1).toList = ([105, 102, 109, 97, 107, 101] : List UInt8)) = false := decide_eq_false s8a
            have s9a := neq_l (l := [105, 102, 110, 109, 97, 107, 101]) t5; have s9b : ((d1).toList == ([105, 102, 110, 109, 97, 107, 101] : List UInt8)) = false := (by simpa using s9a); have s9c : decide ((d1).toList = ([105, 102, 110, 109, 97, 107, 101] : List UInt8)) = false := decide_eq_false s9a
            clear t1 t2 t3 t4 t5
            by_cases hG : d1 = wFor
            · subst hG
              clear s1a s1b s1c s2a s2b s2c s3a s3b s3c s4a s4b s4c s5a s5b s5c s6a s6b s6c s7a s7b s7c s8a s8b s8c s9a s9b s9c
              rw [if_pos (.inr rfl)] at hQ
              cases top with
              | true =>
                rw [if_pos rfl] at hQ
                clear hF
                unfold wFor
                obtain ⟨A', c', ⟨f0, f1, f2, f3, f4⟩, -⟩ := HR8.out.open_
                have hdd : (deep == 32) = true := by have h := HTOP.out; simpa using h
                have HQ2 := Aside0.mk hQ
                clear hQ
                go_wp2_with (fail)
                refine (wrongW w0 w8 g ls ⟨i, 0, 0⟩ 5 x.f1 HR8.out).mono ?_
                rintro e w10 ⟨rfl, hR10, hK10⟩
                have HR10 := Aside0.mk hR10
                have HO10 := Aside0.mk (rows_keep HO8.out hK10 ng)
                have HK10 := Aside0.mk (HK8.out.trans hK10 (.inl rfl))
                clear hR10 hK10 y0 y1 y2 f0 f1 f2 f3 f4
                go_wp2_with (fail)
                go_ret
                exact ⟨_, rfl, by rw [← HQ2.out]; exact HO10.out, by rw [← HQ2.out]; exact HR10.out, HK10.out⟩
              | false =>
                rw [if_neg (by decide), if_neg (by rw [hF]; decide)] at hQ
                have hdd : (deep == 32) = false := by have h := HTOP.out; simpa using h
                clear hF
                obtain ⟨A', c', ⟨f0, f1, f2, f3, f4⟩, -⟩ := HR8.out.open_
                dsimp only at f1
                rw [HZ.out] at f1
                have hw1 : wrap64 (z + 1) = z + 1 := by have := HN.out; unfold wrap64; omega
                have hw2 : wrap64 (deep + 1) = deep + 1 := by have := HDD.out; unfold wrap64; omega
                have p0 := (blk_cell (blk_far HB8.out (p := ⟨g, 1, none⟩) (by show b8 ≠ g; omega) (.int .i64 (z + 1))) 0).trans rfl
                have p1 := (blk_cell (blk_far HB8.out (p := ⟨g, 1, none⟩) (by show b8 ≠ g; omega) (.int .i64 (z + 1))) 1).trans rfl
                have p2 := (blk_cell (blk_far HB8.out (p := ⟨g, 1, none⟩) (by show b8 ≠ g; omega) (.int .i64 (z + 1))) 2).trans rfl
                have HR10 := Aside0.mk (HR8.out.step (i + 1) (z + 1) (by have := HZ.out; omega))
                have HO10 := Aside0.mk (rows_far (j := 1) (u := .int .i64 (z + 1)) HO8.out ng)
                have HK10 := Aside0.mk (keep_set (j := 1) HK8.out (.inl rfl) (.int .i64 (z + 1)))
                have HS10 := Aside0.mk (show B ≤ (w8.setCell ⟨g, 1, none⟩ (.int .i64 (z + 1))).heap.size by simpa using HS8.out)
                have KC := HL.out rfl (w8.setCell ⟨g, 1, none⟩ (.int .i64 (z + 1))) g ⟨i + 1, 0, 0⟩ x (wFor, d2) HR10.out (by have := HZ.out; show i + 1 ≤ ls.length; omega) HD2.out
                obtain ⟨r, hr⟩ : ∃ r, lop x (wFor, d2) ⟨i + 1, 0, 0⟩ = r := ⟨_, rfl⟩
                rw [hr] at KC hQ
                have hri := HLI.out x (wFor, d2) ⟨i + 1, 0, 0⟩ (by have := HZ.out; show i + 1 ≤ ls.length; omega)
                rw [hr] at hri
                have HRI := Aside0.mk hri
                have HQ2 := Aside0.mk hQ
                clear hr hri hQ
                unfold wFor at KC ⊢
                dsimp only at KC
                have KC := Aside0.mk KC
                go_wp2_with (fail)
                refine KC.out.mono ?_
                rintro e w11 ⟨vB, vN, vK, rfl, hvB, hvN, hvK, hR11, hK11⟩
                obtain ⟨AB, cB, eB⟩ := Kd.R_slice hvB
                obtain ⟨AN, cN, eN⟩ := Kd.R_slice hvN
                obtain ⟨AK, cK, eK⟩ := Kd.R_slice hvK
                obtain ⟨nB, hnB⟩ : ∃ k, (ndF r.1).2.2.2.2.1.length = k := ⟨_, rfl⟩
                obtain ⟨nN, hnN⟩ : ∃ k, (ndF r.1).2.2.2.2.2.1.length = k := ⟨_, rfl⟩
                obtain ⟨nK, hnK⟩ : ∃ k, (ndF r.1).2.2.2.2.2.2.2.length = k := ⟨_, rfl⟩
                rw [hnB] at eB
                rw [hnN] at eN
                rw [hnK] at eK
                subst eB eN eK
                have HMK := Aside0.mk (nd_mk HS10.out hvB hvN hvK)
                have HR11 := Aside0.mk hR11
                have HO11 := Aside0.mk (rows_keep HO10.out hK11 ng)
                have HK11 := Aside0.mk (HK10.out.trans hK11 (.inl rfl))
                have HS11 := Aside0.mk (Nat.le_trans HS10.out hK11.1)
                have HOW := Aside0.mk (Kd.R_lt HO10.out)
                clear hvB hvN hvK hR11 hK11 hnB hnN hnK KC HR10 HO10 HK10 f0 f1 f2 f3 f4 y0 y1 y2 p0 p1 p2
                go_wp2_with (((with_reducible refine gate_builtin (b := .append) (xs := #[.tmp 87, .tmp 95]) rfl ?_); at_builtin; refine Kd.R_append kN (w0 := w11) B rfl (.tmp 87) (.tmp 95) 35 TG (.agg #[.int .i64 0, .string ⟨#[]⟩, .int .i64 0, .bool false, .slice none 0 0, .slice none 0 0, .string ⟨#[]⟩, .slice none 0 0]) 128 rfl Tryd.underlying35 infoG rfl (by decide) (by decide) (.slice A0 out.length c0) out (r.1) ([.int .i64 (ndF r.1).1, .string (ndF r.1).2.1, .int .i64 (ndF r.1).2.2.1, .bool (ndF r.1).2.2.2.1, .slice AB nB cB, .slice AN nN cN, .string (ndF r.1).2.2.2.2.2.2.1, .slice AK nK cK]) (fun _ => True) (fun k => (w8.setCell ⟨g, 1, none⟩ (.int .i64 (z + 1))).heap.size ≤ k) rfl rfl ?aP ?aF ?aN ?aO ?aB ?aS ?aL ?_))
                case aP => exact HMK.out
                case aF => exact fun k hk => ⟨trivial, fun e => by have := HOW.out k e.symm; omega⟩
                case aN => exact fun _ _ => trivial
                case aO => exact HO11.out
                case aB => exact Below.refl _ _
                case aS => exact HS11.out
                case aL => have h1 := HI'.out.2.2.2.2; have h2 := HI'.out.2.2.1; have h3 := HN.out; (try dsimp only at h1 h2); omega
                intro v6 w12 hR6 hB6 hg6 hat6
                obtain ⟨A6, c6, e6⟩ := Kd.R_slice hR6
                obtain ⟨k6, hk6⟩ : ∃ k, (out ++ [r.1]).length = k := ⟨_, rfl⟩
                rw [hk6] at e6
                subst e6
                have HR12 := Aside0.mk (HR11.out.base hB6 ng n00)
                have HO12 := Aside0.mk hR6
                have HK12 := Aside0.mk (keep_base HK11.out hB6 (by have := HBW.out; omega))
                clear hR6 hB6 hg6 hat6 hk6
                go_wp2_with (fail)
                go_roundg (m + 1)
                case measure => have := HI'.out; omega
                case rel => exact ⟨m, r.2, out ++ [r.1], _, rfl, ⟨rfl, by have h1 := HI'.out.2.1; have h2 := HRI.out.1; (try dsimp only at h1 h2 ⊢); omega, HRI.out.2, HQ2.out, by have h1 := HI'.out.2.2.2.2; have h2 := HRI.out.1; (try dsimp only at h1 h2 ⊢); simp; omega⟩, HR12, HO12, HK12⟩
            · have s0a := neq_l (l := [102, 111, 114]) hG; have s0b : ((d1).toList == ([102, 111, 114] : List UInt8)) = false := (by simpa using s0a); have s0c : decide ((d1).toList = ([102, 111, 114] : List UInt8)) = false := decide_eq_false s0a
              rw [if_neg (by rw [hF]; simp [hG])] at hQ
              obtain ⟨A', c', ⟨f0, f1, f2, f3, f4⟩, -⟩ := HR8.out.open_
              dsimp only at f1
              rw [HZ.out] at f1
              have HQ2 := Aside0.mk hQ
              have HB0 := Aside0.mk (HR8.out.ge)
              clear hQ hF hG
              go_wp2_with (((with_reducible refine gate_builtin (b := .append) (xs := #[.tmp 46, .tmp 49]) rfl ?_); at_builtin; refine Kd.R_append kN (w0 := w8) B rfl (.tmp 46) (.tmp 49) 35 TG (.agg #[.int .i64 0, .string ⟨#[]⟩, .int .i64 0, .bool false, .slice none 0 0, .slice none 0 0, .string ⟨#[]⟩, .slice none 0 0]) 128 rfl Tryd.underlying35 infoG rfl (by decide) (by decide) (.slice A0 out.length c0) out (plainN x) ([.int .i64 1, .string x.f0, .int .i64 x.f1, .bool x.f2, .slice none 0 0, .slice none 0 0, .string ⟨#[]⟩, .slice none 0 0]) (fun _ => True) (fun _ => False) rfl rfl ?aP ?aF ?aN ?aO ?aB ?aS ?aL ?_))
              case aP => exact knd_mk (Kd.R_nil _ _ _ _ _) (Kd.R_nil _ _ _ _ _) (Kd.R_nil _ _ _ _ _)
              case aF => exact fun k hk => hk.elim
              case aN => exact fun _ _ => trivial
              case aO => exact HO8.out
              case aB => exact Below.refl _ _
              case aS => exact HS8.out
              case aL => have h1 := HI'.out.2.2.2.2; have h2 := HI'.out.2.2.1; have h3 := HN.out; (try dsimp only at h1 h2); omega
              intro v6 w9 hR6 hB6 hg6 hat6
              obtain ⟨A6, c6, e6⟩ := Kd.R_slice hR6
              obtain ⟨k6, hk6⟩ : ∃ k, (out ++ [plainN x]).length = k := ⟨_, rfl⟩
              rw [hk6] at e6
              subst e6
              have HR9 := Aside0.mk (HR8.out.base hB6 ng n00)
              have HO9 := Aside0.mk hR6
              have HK9 := Aside0.mk (keep_base HK8.out hB6 (by have := HBW.out; omega))
              have HS9 := Aside0.mk (show B ≤ w9.heap.size by have := hB6.size; have := HS8.out; omega)
              clear hR6 hB6 hg6 hat6 hk6 f0 f1 f2 f3 f4 y0 y1 y2
              obtain ⟨A', c', ⟨f0, f1, f2, f3, f4⟩, -⟩ := HR9.out.open_
              dsimp only at f1
              rw [HZ.out] at f1
              have hw1 : wrap64 (z + 1) = z + 1 := by have := HN.out; unfold wrap64; omega
              go_wp2_with (fail)
              have HR10 := Aside0.mk (HR9.out.step (i + 1) (z + 1) (by have := HZ.out; omega))
              have HO10 := Aside0.mk (rows_far (j := 1) (u := .int .i64 (z + 1)) HO9.out ng)
              have HK10 := Aside0.mk (keep_set (j := 1) HK9.out (.inl rfl) (.int .i64 (z + 1)))
              go_roundg (m + 1)
              case measure => have := HI'.out; omega
              case rel => exact ⟨m, ⟨i + 1, 0, 0⟩, out ++ [plainN x], _, rfl, ⟨rfl, by have h1 := HI'.out.2.1; (try dsimp only at h1 ⊢); omega, by have h1 := HZ.out; dsimp only; omega, HQ2.out, by have h1 := HI'.out.2.2.2.2; (try dsimp only at h1 ⊢); simp; omega⟩, HR10, HO10, HK10⟩
    · rw [if_neg hgo] at hQ
      have HQ := Aside0.mk hQ
      clear hQ
      rcases (show ((s'.e == 0) = false) ∨ (s'.e = 0 ∧ (s'.a == 0) = false) ∨ (s'.e = 0 ∧ s'.a = 0 ∧ s'.i = ls.length) by
        by_cases hk : Ok s'
        · exact .inr (.inr ⟨hk.1, hk.2, by have h1 := HI'.out.2.2.1; have h2 : ¬ s'.i < ls.length := fun h => hgo ⟨hk, h⟩; omega⟩)
        · rcases bad_or hk with h | h
          · exact .inl h
          · exact .inr (.inl h)) with d1 | ⟨d2, d1⟩ | ⟨d2, d3, d4⟩
      · clear hgo
        go_quiet (fail)
        all_goals
          go_wp2_with (fail)
          go_ret
          exact ⟨_, rfl, by rw [← HQ.out]; exact Kd.R_drewN HO.out _, by rw [← HQ.out]; exact HA.out.below (pw_below_drewN (Below.refl _ _) _), HK.out⟩
      · clear hgo
        rw [d2] at f2
        go_quiet (fail)
        all_goals
          go_wp2_with (fail)
          go_ret
          exact ⟨_, rfl, by rw [← HQ.out]; exact Kd.R_drewN HO.out _, by rw [← HQ.out]; exact HA.out.below (pw_below_drewN (Below.refl _ _) _), HK.out⟩
      · clear hgo
        rw [d2] at f2
        rw [d3] at f3
        have d5 : decide (z < (ls.length : Int)) = false := decide_eq_false (by have := HZ.out; omega)
        go_quiet (fail)
        all_goals
          go_wp2_with (fail)
          go_ret
          exact ⟨_, rfl, by rw [← HQ.out]; exact Kd.R_drewN HO.out _, by rw [← HQ.out]; exact HA.out.below (pw_below_drewN (Below.refl _ _) _), HK.out⟩
end Go.Proofs.YtiedbnjoomcdbaaDoor.Tr
