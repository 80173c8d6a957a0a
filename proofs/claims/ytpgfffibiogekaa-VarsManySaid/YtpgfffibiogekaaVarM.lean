/- A scope has at most 1024 names: the law walked. -/
import Derived.Test.YtpgfffibiogekaaVarN
import Derived.Test.YtpgfffibiogekaaVarD
set_option linter.unusedVariables false
set_option linter.unusedSimpArgs false
namespace Go.Proofs.Ytpgfffibiogekaa.MS
open Go.RowKit Go.Proofs.YtpgfffibiogekaaW.PrintWords Go.Proofs.YtpgfffibiogekaaW.PrintLast Go.Proofs.YtpgfffibiogekaaW.PrintMore

def nmB (i : Nat) : ByteArray := ⟨#[(97 + i % 26).toUInt8, (97 + i / 26 % 26).toUInt8, (97 + i / 676).toUInt8]⟩
def XX : ByteArray := ⟨#[120]⟩
def Dm (n : Nat) : Nat → Nat → DataW Unit
  | 0 => fun _ => .map []
  | i + 1 => putD (Dm n i) n (nmB i) XX
theorem nmB_inj {i j : Nat} (hi : i < 1060) (hj : j < 1060) (h : nmB i = nmB j) : i = j := by
  have h1 := congrArg (fun b : ByteArray => b.data.toList) h
  simp only [nmB, List.cons.injEq, and_true] at h1
  obtain ⟨a, b, c⟩ := h1
  have a := congrArg UInt8.toNat a
  have b := congrArg UInt8.toNat b
  have c := congrArg UInt8.toNat c
  simp at a b c
  omega
theorem nmB_ok : ∀ i, i < 1060 → rg (nmB i) = true := by decide +kernel
theorem nmB_size (i : Nat) : (nmB i).size = 3 := rfl
theorem isSc_n {n : Nat} (h1 : 1 ≤ n) (hn : n < 5) : isSc (n : Int) = true := by unfold isSc; simp; omega
structure Many (n i : Nat) : Prop where
  tidy : Maps.Tidy (Dm n i n)
  size : Maps.size (Dm n i n) = min i 1024
  in_ : ∀ j, j < min i 1024 → look (Dm n i n) (nmB j) = some XX
  out_ : ∀ j, min i 1024 ≤ j → j < 1060 → look (Dm n i n) (nmB j) = none
theorem many_put {n i : Nat} (h1 : 1 ≤ n) (hn : n < 5) (hi : i < 1060) (h : Many n i) : putE (Dm n i) (n : Int) (nmB i) XX = if i < 1024 then 0 else 5 := by
  unfold putE
  rw [isSc_n h1 hn, nmB_ok i hi, if_pos (by rfl), Int.toNat_natCast, h.out_ i (by omega) hi, h.size]
  have hx : ¬ XX.size > 65536 := by decide
  by_cases hc : i < 1024
  · rw [if_pos hc, if_neg (by rintro (e | ⟨-, e⟩); exact hx e; omega)]
  · rw [if_neg hc, if_pos (.inr ⟨rfl, by omega⟩)]
theorem many_all {n : Nat} (h1 : 1 ≤ n) (hn : n < 5) : ∀ i, i ≤ 1060 → Many n i
  | 0, _ => ⟨Maps.tidy_empty, rfl, fun j hj => by omega, fun j _ _ => rfl⟩
  | i + 1, hi => by
    have h := many_all h1 hn i (by omega)
    have hE := many_put h1 hn (by omega) h
    by_cases hc : i < 1024
    · rw [if_pos hc] at hE
      have hD : Dm n (i + 1) n = (Dm n i n).put (key (nmB i)) (str XX) := by
        show putD (Dm n i) n (nmB i) XX n = _
        rw [putD, if_pos hE]
        show (if n = (n : Int).toNat then _ else _) = _
        rw [Int.toNat_natCast, if_pos rfl]
      have hno := h.out_ i (by omega) (by omega)
      refine ⟨?_, ?_, fun j hj => ?_, fun j hj hj2 => ?_⟩
      · rw [hD]; exact h.tidy.put (key_ok _) _
      · rw [hD, size_put _ h.tidy, hno, h.size]
        simp only [Option.isSome_none, Bool.false_eq_true, if_false]
        omega
      · rw [hD, look_put _ h.tidy.isMap]
        by_cases e : nmB j = nmB i
        · rw [if_pos e]
        · rw [if_neg e]
          exact h.in_ j (by
            have : j ≠ i := fun q => e (by rw [q])
            omega)
      · rw [hD, look_put _ h.tidy.isMap, if_neg (fun e => by
          have := nmB_inj hj2 (by omega) e
          omega)]
        exact h.out_ j (by omega) hj2
    · rw [if_neg hc] at hE
      have hD : Dm n (i + 1) n = Dm n i n := by
        show putD (Dm n i) n (nmB i) XX n = _
        rw [putD, if_neg (by rw [hE]; decide)]
      have e1 : min (i + 1) 1024 = min i 1024 := by omega
      exact ⟨by rw [hD]; exact h.tidy, by rw [hD, e1]; exact h.size, by rw [hD, e1]; exact h.in_, by rw [hD, e1]; exact h.out_⟩
theorem conv3 (w : World) (i : Nat) (hi : i < 1060) : (convert 38 9 (.slice (some ⟨w.heap.size, 0, none⟩) 3 3)).run Try.prog (w.alloc (.cells #[.int .u8 (97 + (i : Int) % 26), .int .u8 (97 + (i : Int) / 26 % 26), .int .u8 (97 + (i : Int) / 676)] 5)) = .ok (.string (nmB i)) (w.alloc (.cells #[.int .u8 (97 + (i : Int) % 26), .int .u8 (97 + (i : Int) / 26 % 26), .int .u8 (97 + (i : Int) / 676)] 5)) := by
  have hb := blk_new w (.cells #[.int .u8 (97 + (i : Int) % 26), .int .u8 (97 + (i : Int) / 26 % 26), .int .u8 (97 + (i : Int) / 676)] 5)
  have hC : (Kd.int .u8).C (w.alloc (.cells #[.int .u8 (97 + (i : Int) % 26), .int .u8 (97 + (i : Int) / 26 % 26), .int .u8 (97 + (i : Int) / 676)] 5)) (some ⟨w.heap.size, 0, none⟩) 3 [97 + (i : Int) % 26, 97 + (i : Int) / 26 % 26, 97 + (i : Int) / 676] := by
    refine ⟨rfl, by decide, fun _ => ⟨_, rfl, fun j p hj => ?_⟩⟩
    match j, hj with
    | 0, hj =>
      obtain rfl := Option.some.inj hj
      refine ⟨[.int .u8 _], rfl, rfl, fun q u hu => ?_⟩
      match q, hu with
      | 0, hu => exact (blk_cell hb 0).trans hu
      | q + 1, hu => simp at hu
    | 1, hj =>
      obtain rfl := Option.some.inj hj
      refine ⟨[.int .u8 _], rfl, rfl, fun q u hu => ?_⟩
      match q, hu with
      | 0, hu => exact (blk_cell hb 1).trans hu
      | q + 1, hu => simp at hu
    | 2, hj =>
      obtain rfl := Option.some.inj hj
      refine ⟨[.int .u8 _], rfl, rfl, fun q u hu => ?_⟩
      match q, hu with
      | 0, hu => exact (blk_cell hb 2).trans hu
      | q + 1, hu => simp at hu
    | j + 3, hj => simp at hj
  have hs : strOfNums [97 + (i : Int) % 26, 97 + (i : Int) / 26 % 26, 97 + (i : Int) / 676] = nmB i := by
    have e1 : (97 + (i : Int) % 26).toNat = 97 + i % 26 := by omega
    have e2 : (97 + (i : Int) / 26 % 26).toNat = 97 + i / 26 % 26 := by omega
    have e3 : (97 + (i : Int) / 676).toNat = 97 + i / 676 := by omega
    unfold strOfNums nmB
    simp [e1, e2, e3]
  rw [Kd.C_string Try.underlying38 Try.underlying5 Try.underlying9 hC, hs]
set_option maxHeartbeats 16000000 in
set_option maxRecDepth 1000000 in
theorem manyW (w : World) (sc mn : Int) (h1 : 0 ≤ sc ∧ sc < 256) (h2 : 0 ≤ mn ∧ mn < 65536) :
    Calls Try.prog 4 #[.int .u8 sc, .int .u16 mn] w fun e w' => e = .returned (.bool true) ∧ Below w.heap.size w w' := by
  obtain ⟨n, hn⟩ : ∃ n : Nat, sc % 4 + 1 = (n : Int) := ⟨(sc % 4 + 1).toNat, by omega⟩
  have hn1 : 1 ≤ n ∧ n < 5 := by omega
  obtain ⟨k, hk⟩ : ∃ k : Nat, 1000 + mn % 60 = (k : Int) := ⟨(1000 + mn % 60).toNat, by omega⟩
  have hk1 : 1000 ≤ k ∧ k < 1060 := by omega
  go_enter Try.func4, Try.ntmps4
  go_wp2_with (fail)
  refine (newW w).mono ?_
  rintro e w1 ⟨⟨g, m, rfl, hS1⟩, hB1⟩
  go_wp2_with (fail)
  refine (aliveW w1).mono ?_
  rintro e w2 ⟨rfl, hb2⟩
  have hS2 := hS1.below hb2
  have hB2 := below_then hB1 hB1.size hb2
  clear hS1 hB1 hb2
  go_wp2_with (fail)
  have hS0 := Aside0.mk hS2
  have hB0 := Aside0.mk hB2
  clear hS2 hB2
  go_loopg [27] 2000 (fun kq v27 wr => ∃ (i : Nat), v27 = .int .i64 (i : Int) ∧ Aside0 (i + kq = 2000 ∧ i ≤ k) ∧ Aside0 (SetAt wr w.heap.size g m (Dm n i)) ∧ Aside0 (Below w.heap.size w wr))
  case atStart =>
    exact ⟨0, rfl, ⟨by omega, by omega⟩, hS0, hB0⟩
  case round =>
    obtain ⟨i, rfl, HI, HS, HB⟩ := hrel
    by_cases hi : i < k
    · obtain ⟨k1, rfl⟩ : ∃ k1, gk = k1 + 1 := ⟨gk - 1, by have := HI.out; omega⟩
      have e0 : decide ((i : Int) < (k : Int)) = true := decide_eq_true (by omega)
      have hcv := conv3 wr i (by omega)
      have hal := below_alloc (Below.refl wr.heap.size wr) (.cells #[.int .u8 (97 + (i : Int) % 26), .int .u8 (97 + (i : Int) / 26 % 26), .int .u8 (97 + (i : Int) / 676)] 5)
      have hS3 := HS.out.below hal
      have hB3 := below_then HB.out HB.out.size hal
      go_wp2_with (fail)
      have hM := many_all hn1.1 hn1.2 i (by omega)
      refine (putW _ _ g m _ n (nmB i) XX hS3 (by rw [nmB_size]; decide) (by decide)).mono ?_
      rw [many_put hn1.1 hn1.2 (by omega) hM]
      rintro e w4 ⟨rfl, hS4, hB4⟩
      have HS4 := Aside0.mk (show SetAt w4 w.heap.size g m (Dm n (i + 1)) from hS4)
      have HB4 := Aside0.mk (hB3.trans hB4)
      clear hS3 hB3 hB4 hS4 hal hcv hM
      have hii : (i : Int) + 1 < 9223372036854775808 := by omega
      by_cases hc : i < 1024
      · rw [if_pos hc]
        have d1 : decide ((i : Int) < 1024) = true := decide_eq_true (by omega)
        have d2 : decide ((1024 : Int) ≤ (i : Int)) = false := decide_eq_false (by omega)
        clear hc
        go_wp2_with (fail)
        go_roundg k1
        case measure => have := HI.out; omega
        case rel => exact ⟨i + 1, by first | rfl | simp, ⟨by have := HI.out; omega, by omega⟩, HS4, HB4⟩
      · rw [if_neg hc]
        have d1 : decide ((i : Int) < 1024) = false := decide_eq_false (by omega)
        have d2 : decide ((1024 : Int) ≤ (i : Int)) = true := decide_eq_true (by omega)
        clear hc
        go_wp2_with (fail)
        go_roundg k1
        case measure => have := HI.out; omega
        case rel => exact ⟨i + 1, by first | rfl | simp, ⟨by have := HI.out; omega, by omega⟩, HS4, HB4⟩
    · have e0 : decide ((i : Int) < (k : Int)) = false := decide_eq_false (by omega)
      have hik : i = k := by have := HI.out; omega
      subst hik
      have hM := many_all hn1.1 hn1.2 i (by omega)
      go_wp2_with (fail)
      refine (namesW _ _ g m _ n HS.out).mono ?_
      have hN : nmN (Dm n i) (n : Int) = min i 1024 := by rw [nmN, isSc_n hn1.1 hn1.2, if_pos rfl, Int.toNat_natCast, hM.size]
      rw [hN]
      rintro e w5 ⟨⟨A5, c5, rfl⟩, hb5⟩
      have hS5 := HS.out.below hb5
      have hB5 := below_then HB.out HB.out.size hb5
      have hmin : ((min i 1024 : Nat) : Int) = min (i : Int) 1024 := by omega
      go_wp2_with (fail)
      have hL : look (Dm n i n) (nmB 0) = some XX := hM.in_ 0 (by omega)
      have hP : putE (Dm n i) (n : Int) (nmB 0) ⟨#[121]⟩ = 0 := by
        rw [putE, isSc_n hn1.1 hn1.2, nmB_ok 0 (by omega), if_pos (by rfl), Int.toNat_natCast, hL, if_neg (by rintro (e | ⟨e, -⟩); exact absurd e (by decide); cases e)]
      have hQ : clearN (putD (Dm n i) (n : Int) (nmB 0) ⟨#[121]⟩) (n : Int) = ((min i 1024 : Nat) : Int) := by
        rw [clearN, isSc_n hn1.1 hn1.2, if_pos rfl, Int.toNat_natCast, putD, if_pos hP]
        show ((Maps.size (if n = (n : Int).toNat then _ else _) : Nat) : Int) = _
        rw [Int.toNat_natCast, if_pos rfl, size_put _ hM.tidy, hL, if_pos (by rfl), hM.size]
      refine (putW _ _ g m _ n (nmB 0) ⟨#[121]⟩ hS5 (by rw [nmB_size]; decide) (by decide)).mono ?_
      rw [hP]
      rintro e w6 ⟨rfl, hS6, hB6⟩
      have hB7 := hB5.trans hB6
      clear hB5 hB6 hb5
      go_wp2_with (fail)
      refine (clearW _ _ g m _ n hS6).mono ?_
      rw [hQ]
      rintro e w8 ⟨rfl, hS8, hB8⟩
      have hB9 := hB7.trans hB8
      clear hB7 hB8 hS6 hS8
      go_wp2_with (fail)
      go_ret
      exact ⟨rfl, hB9⟩
end Go.Proofs.Ytpgfffibiogekaa.MS
