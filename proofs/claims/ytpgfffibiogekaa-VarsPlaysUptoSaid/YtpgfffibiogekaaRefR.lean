/- The document's test of a name, walked: it is the program's. -/
import Derived.Test.YtpgfffibiogekaaVarW
set_option linter.unusedVariables false
set_option linter.unusedSimpArgs false
namespace Go.Proofs.Ytpgfffibiogekaa.MS
open Go.RowKit Go.Proofs.YtpgfffibiogekaaW.PrintWords Go.Proofs.YtpgfffibiogekaaW.PrintLast Go.Proofs.YtpgfffibiogekaaW.PrintMore

theorem size_toList (s : ByteArray) : s.toList.length = s.size := by rw [Lib.toList_data]; exact Array.length_toList
theorem below_draws {B : Nat} {w w' : World} (h : Below B w w') (n : Nat) : Below B w (w'.drewN n) := pw_below_drewN h n
def badL : List UInt8 := [32, 9, 10, 36, 58, 61, 123, 125, 40, 41, 35]
def BAD : ByteArray := ((⟨#[32]⟩ : ByteArray) ++ (⟨#[9, 10]⟩ : ByteArray)) ++ (⟨#[36, 58, 61, 123, 125, 40, 41, 35]⟩ : ByteArray)
theorem BAD_list : BAD.data.toList = badL := by decide +kernel
theorem BAD_size : BAD.size = 11 := by decide +kernel
theorem conv2 (w : World) : (convert 38 9 (.slice (some ⟨w.heap.size, 0, none⟩) 2 2)).run Try.prog (w.alloc (.cells #[.int .u8 9, .int .u8 10] 5)) = .ok (.string (⟨#[9, 10]⟩ : ByteArray)) (w.alloc (.cells #[.int .u8 9, .int .u8 10] 5)) := by
  have hb := blk_new w (.cells #[.int .u8 9, .int .u8 10] 5)
  have hC : (Kd.int .u8).C (w.alloc (.cells #[.int .u8 9, .int .u8 10] 5)) (some ⟨w.heap.size, 0, none⟩) 2 [9, 10] := by
    refine ⟨rfl, by decide, fun _ => ⟨_, rfl, fun j p hj => ?_⟩⟩
    match j, hj with
    | 0, hj =>
      obtain rfl := Option.some.inj hj
      refine ⟨[.int .u8 _], rfl, rfl, fun q u hu => ?_⟩
      match q, hu with
      | 0, hu => exact (blk_cell hb 0).trans hu
      | q + 1, hu => simp at hu
    | 1, hj =>
      obtain rfl := Option.some.inj hj
      refine ⟨[.int .u8 _], rfl, rfl, fun q u hu => ?_⟩
      match q, hu with
      | 0, hu => exact (blk_cell hb 1).trans hu
      | q + 1, hu => simp at hu
    | j + 2, hj => simp at hj
  have hs : strOfNums [9, 10] = (⟨#[9, 10]⟩ : ByteArray) := by decide +kernel
  rw [Kd.C_string Try.underlying38 Try.underlying5 Try.underlying9 hC, hs]
set_option maxHeartbeats 8000000 in
set_option maxRecDepth 100000 in
theorem rightRW (s : ByteArray) (w : World) (hs : s.size ≤ 1000000000) : Calls Try.prog 19 #[.string s] w fun e w' => e = .returned (.bool (rg s)) ∧ Below w.heap.size w w' := by
  have hcv := conv2 w
  have s1 : (⟨#[9, 10]⟩ : ByteArray).size = 2 := rfl
  have s2 : ((⟨#[32]⟩ : ByteArray) ++ (⟨#[9, 10]⟩ : ByteArray)).size = 3 := by decide +kernel
  have s3 : (⟨#[36, 58, 61, 123, 125, 40, 41, 35]⟩ : ByteArray).size = 8 := rfl
  have hB0 := below_alloc (Below.refl w.heap.size w) (.cells #[.int .u8 9, .int .u8 10] 5)
  go_enter Try.func19, Try.ntmps19
  go_wp2_with (fail)
  have hBl : (((⟨#[32]⟩ : ByteArray) ++ (⟨#[9, 10]⟩ : ByteArray)) ++ (⟨#[36, 58, 61, 123, 125, 40, 41, 35]⟩ : ByteArray)).data.toList = badL := BAD_list
  have hBs : (((⟨#[32]⟩ : ByteArray) ++ (⟨#[9, 10]⟩ : ByteArray)) ++ (⟨#[36, 58, 61, 123, 125, 40, 41, 35]⟩ : ByteArray)).size = 11 := BAD_size
  generalize (((⟨#[32]⟩ : ByteArray) ++ (⟨#[9, 10]⟩ : ByteArray)) ++ (⟨#[36, 58, 61, 123, 125, 40, 41, 35]⟩ : ByteArray)) = BD at *
  generalize World.alloc w _ = w1 at *
  have HB0 := Aside0.mk hB0
  have HBl := Aside0.mk hBl
  have HBs := Aside0.mk hBs
  clear hcv s1 s2 s3 hB0 hBl hBs
  go_loopg [4] (s.size + 1) (fun kq v4 wr => ∃ (i : Nat), v4 = .int .i64 (i : Int) ∧ Aside0 (i + kq = s.size + 1 ∧ ∀ c ∈ s.data.toList.take i, badL.contains c = false) ∧ Aside0 (Below w.heap.size w wr))
  case atStart => exact ⟨0, rfl, ⟨by omega, by simp⟩, HB0⟩
  case round =>
    obtain ⟨i, rfl, HI, HB⟩ := hrel
    by_cases hi : i < s.size
    · obtain ⟨k1, rfl⟩ : ∃ k1, gk = k1 + 1 := ⟨gk - 1, by have := HI.out; omega⟩
      have d0 : decide ((i : Int) < (s.size : Int)) = true := decide_eq_true (by omega)
      have d1 : decide ((0 : Int) ≤ (i : Int)) = true := decide_eq_true (by omega)
      go_wp2_with (fail)
      go_loopg [5] 12 (fun kq2 v5 wi => ∃ (j : Nat), v5 = .int .i64 (j : Int) ∧ Aside0 (j + kq2 = 12 ∧ ∀ d ∈ badL.take j, s.data.toList[i]? ≠ some d) ∧ Aside0 (Below w.heap.size w wi))
      case atStart => exact ⟨0, rfl, ⟨by omega, by simp⟩, HB⟩
      case round =>
        obtain ⟨j, rfl, HJ, HB2⟩ := hrel
        by_cases hj : j < 11
        · obtain ⟨k2, rfl⟩ : ∃ k2, gk = k2 + 1 := ⟨gk - 1, by have := HJ.out; omega⟩
          have d2 : decide ((j : Int) < (BD.size : Int)) = true := decide_eq_true (by have := HBs.out; omega)
          have d3 : decide ((0 : Int) ≤ (j : Int)) = true := decide_eq_true (by omega)
          have hjb : j < BD.size := by have := HBs.out; omega
          go_wp2_with (fail)
          go_quiet (fail)
          have hsi : s.data.toList[i]? = some s[i] := by rw [Array.getElem?_toList]; exact getElem?_pos s.data i hi
          have hbj : badL[j]? = some BD[j] := by rw [← HBl.out, Array.getElem?_toList]; exact getElem?_pos BD.data j hjb
          cases hE : (((s[i]).toNat : Int) == ((BD[j]).toNat : Int)) with
          | true =>
            have he : s[i] = BD[j] := UInt8.toNat_inj.mp (by have := beq_iff_eq.1 hE; omega)
            have hrg : rg s = false := by
              have hc : Lib.containsAny s.data.toList [32, 9, 10, 36, 58, 61, 123, 125, 40, 41, 35] = true := by
                rw [containsAny_any, List.any_eq_true]
                refine ⟨s[i], List.mem_of_getElem? hsi, ?_⟩
                rw [he]
                exact List.contains_iff_mem.2 (List.mem_of_getElem? hbj)
              rw [rg, hc]
              simp
            have HRG := Aside0.mk hrg
            have hB3 := below_draws HB2.out nq
            clear hsi hbj he hrg
            go_wp2_with (fail)
            go_ret
            exact ⟨by rw [HRG.out]; rfl, hB3⟩
          | false =>
            have he : s[i] ≠ BD[j] := fun e => by rw [e] at hE; simp at hE
            have HN := Aside0.mk (show ∀ d ∈ badL.take (j + 1), s.data.toList[i]? ≠ some d from fun d hd => by
              rw [List.take_add_one, hbj] at hd
              rcases List.mem_append.1 hd with q | q
              · exact HJ.out.2 d q
              · rw [hsi]
                intro e
                have q2 : d = BD[j] := by simpa using q
                exact he (by rw [← q2]; exact Option.some.inj e))
            have HB3 := Aside0.mk (below_draws HB2.out nq)
            have hjj : (j : Int) + 1 < 9223372036854775808 := by omega
            clear hsi hbj he
            go_wp2_with (fail)
            go_roundg k2
            case measure => have := HJ.out; omega
            case rel => exact ⟨j + 1, by first | rfl | simp, ⟨by have := HJ.out; omega, HN.out⟩, HB3⟩
        · have hjb : ¬ j < BD.size := by have := HBs.out; omega
          have hsi : s.data.toList[i]? = some s[i] := by rw [Array.getElem?_toList]; exact getElem?_pos s.data i hi
          have HN := Aside0.mk (show ∀ c ∈ s.data.toList.take (i + 1), badL.contains c = false from fun c hc => by
            rw [List.take_add_one, hsi] at hc
            rcases List.mem_append.1 hc with q | q
            · exact HI.out.2 c q
            · have q2 : c = s[i] := by simpa using q
              cases hcc : badL.contains c with
              | false => rfl
              | true =>
                have hm : c ∈ badL := List.contains_iff_mem.1 hcc
                have h11 : badL.take j = badL := List.take_of_length_le (by show 11 ≤ j; omega)
                have := HJ.out.2 c (by rw [h11]; exact hm)
                rw [hsi, q2] at this
                exact absurd rfl this)
          clear hsi hj
          go_wp2_with (fail)
          go_roundg k1
          case measure => have := HI.out; omega
          case rel => exact ⟨i + 1, by first | rfl | simp, ⟨by have := HI.out; omega, HN.out⟩, HB2⟩
    · have d0 : decide ((i : Int) < (s.size : Int)) = false := decide_eq_false (by omega)
      have hc : Lib.containsAny s.data.toList [32, 9, 10, 36, 58, 61, 123, 125, 40, 41, 35] = false := by
        rw [containsAny_any]
        cases hany : s.data.toList.any (fun c => ([32, 9, 10, 36, 58, 61, 123, 125, 40, 41, 35] : List UInt8).contains c) with
        | false => rfl
        | true =>
          obtain ⟨c, hcm, hcc⟩ := List.any_eq_true.1 hany
          have hall := HI.out.2 c (by rw [List.take_of_length_le (by rw [Array.length_toList]; show s.size ≤ i; omega)]; exact hcm)
          have : badL.contains c = true := hcc
          rw [hall] at this
          cases this
      have hrg : rg s = ((!s.toList.isEmpty) && decide ((s.size : Int) ≤ 64)) := by rw [rg, hc]; simp
      have HRG := Aside0.mk hrg
      clear hc hrg
      by_cases h1 : 1 ≤ s.size
      · have e1 : decide ((1 : Int) ≤ (s.size : Int)) = true := decide_eq_true (by omega)
        have hne : s.toList.isEmpty = false := by
          cases hl : s.toList with
          | nil =>
            have := size_toList s
            rw [hl] at this
            simp at this
            omega
          | cons a l => rfl
        go_wp2_with (fail)
        go_ret
        exact ⟨by rw [HRG.out, hne]; rfl, HB.out⟩
      · have e1 : decide ((1 : Int) ≤ (s.size : Int)) = false := decide_eq_false (by omega)
        have hne : s.toList.isEmpty = true := by
          cases hl : s.toList with
          | nil => rfl
          | cons a l =>
            have := size_toList s
            rw [hl] at this
            simp at this
            omega
        go_wp2_with (fail)
        go_ret
        exact ⟨by rw [HRG.out, hne]; rfl, HB.out⟩
end Go.Proofs.Ytpgfffibiogekaa.MS
