/- strings.Split at a line's end. -/
import Derived.Test.YthkndchbgiimnaaDoorLineP
import Derived.Test.YthkndchbgiimnaaDoorLineW
set_option linter.unusedVariables false
set_option linter.unusedSimpArgs false
namespace Go.Proofs.YthkndchbgiimnaaDoor
open Go.RowKit Ba Go.Proofs.YthkndchbgiimnaaDoorW.PrintWords Go.Proofs.YthkndchbgiimnaaDoorW.PrintLast

namespace LP
theorem splitA_run : ∀ (p h s : List UInt8), (∀ c ∈ p, c ≠ 10) → splitA h (p ++ s) = splitA (h ++ p) s
  | [], h, s, _ => by simp
  | c :: p, h, s, hp => by
    rw [List.cons_append, splitA, if_neg (hp c (List.mem_cons_self ..)), splitA_run p _ s fun d hd => hp d (List.mem_cons_of_mem _ hd)]
    simp
theorem splitL_at (p q : List UInt8) (h : ∀ c ∈ p, c ≠ 10) : splitL (p ++ 10 :: q) = p :: splitL q := by
  unfold splitL
  rw [splitA_run p [] _ h, List.nil_append, splitA, if_pos rfl]
end LP

set_option maxHeartbeats 8000000 in
set_option maxRecDepth 1000000 in
theorem genSplit1 (s : ByteArray) (w : World) (hs : s.size ≤ 100000000) :
    Calls Tryd.prog 34 #[.string s, .string ⟨#[10]⟩, .int .i64 0, .int .i64 (-1)] w fun e w' => ∃ v : Value, e = .returned v ∧ Kd.R Kd.string 9 w' w.heap.size (fun _ => True) v ((LP.splitL s.data.toList).map S) ∧ Below w.heap.size w w' := by
  obtain ⟨B, hB⟩ : ∃ B, w.heap.size = B := ⟨_, rfl⟩
  have hC := Tryd.strings_Count_one s 10
  have hI := fun (t : ByteArray) => Tryd.strings_Index_one t 10
  obtain ⟨n, hn⟩ : ∃ n : Nat, s.data.toList.count 10 = n := ⟨_, rfl⟩
  have hns : n ≤ s.size := by rw [← hn, size_len]; exact List.count_le_length
  obtain ⟨sep, hsep⟩ : ∃ sep, (⟨#[10]⟩ : ByteArray) = sep := ⟨_, rfl⟩
  have hs1 : sep.size = 1 := by rw [← hsep]; rfl
  have hne := nonempty' sep (by omega)
  rw [hsep] at hC ⊢
  simp only [hsep] at hI
  have hC' : ∀ w, Calls Tryd.prog 53 #[.string s, .string sep] w fun e w' => e = .returned (.int .i64 n) ∧ w' = w := fun w => by rw [← hn]; exact hC w
  clear hC
  have i1 : IntKind.i64.wrap ((n : Int) + 1) = ((n + 1 : Nat) : Int) := by rw [wrap_small _ (by omega) (by omega)]; omega
  have i2 : IntKind.i64.wrap ((s.size : Int) + 1) = ((s.size + 1 : Nat) : Int) := by rw [wrap_small _ (by omega) (by omega)]; omega
  have d1 : decide (((s.size + 1 : Nat) : Int) < ((n + 1 : Nat) : Int)) = false := decide_eq_false (by omega)
  have hmin : min (n : Int) (s.size : Int) = (n : Int) := Int.min_eq_left (by omega)
  have info9 : (Tryd.prog.info? 9).map (fun i => (i.zero, i.size, i.bytes)) = some (some (.string ⟨#[]⟩), 1, 16) := by kernel_rfl
  have HN := Lib.hid hn
  clear hn
  go_enter Tryd.func34, Tryd.ntmps34
  go_wp2_with (first | (go_at_call 53; refine (hC' _).mono ?_; rintro e w' ⟨rfl, rfl⟩) | ((with_reducible refine gate_dst (N := 31) rfl ?_); refine Kd.R_make Kd.string _ 9 rfl (N := 31) rfl 35 _ _ rfl ((n : Int) + 1) rfl rfl Tryd.underlying35 (.string ⟨#[]⟩) 16 info9 rfl (by decide) (by omega) (⟨#[]⟩ : ByteArray) (ok := fun _ => True) (okp := fun _ => True) rfl (fun _ hk => hk) trivial (by omega) (by omega) (Below.refl _ _) (Nat.le_refl _) ?_; intro v1 w1 ho1 hb1 hg_ hnew_; clear hg_ hnew_))
  have e0 : ((n : Int) + 1).toNat = n + 1 := by omega
  rw [e0] at ho1
  clear e0
  obtain ⟨g, cap, ev, hg1, hg2, cells0, hg3⟩ := Kd.R_form ho1 (by rw [List.length_replicate]; omega)
  subst ev
  have hcap : n + 1 ≤ cap := by
    have := (Kd.R_reads' ho1).2.1
    rw [List.length_replicate] at this
    exact this
  have hB1 : B ≤ g := by rw [← hB]; exact hg1
  rw [hB] at ho1 hb1 hg1
  clear hg3 hg2 hg1
  rw [List.length_replicate] at ho1 ⊢
  go_loopw [0, 10] (fun v0 v10 wr => ∃ (t : ByteArray) (ps : List (List UInt8)), v0 = .string t ∧ v10 = .int .i64 ps.length ∧ ps.length ≤ n ∧ t.size ≤ s.size ∧ t.data.toList.count 10 = n - ps.length ∧ Hid (LP.splitL s.data.toList = ps ++ LP.splitL t.data.toList) ∧ Kd.R Kd.string 9 wr B (fun _ => True) (.slice (some ⟨g, 0, none⟩) (n + 1) cap) (ps.map S ++ List.replicate (n + 1 - ps.length) (⟨#[]⟩ : ByteArray)) ∧ Below B w' wr) (fun _ v10 _ => n - (intOf v10).toNat)
  case atStart => exact ⟨s, [], rfl, rfl, Nat.zero_le _, Nat.le_refl _, by simpa using HN.out, Lib.hid rfl, by simpa using ho1, hb1⟩
  case round =>
    obtain ⟨t, ps, rfl, rfl, hpn, hts, hcnt, HQ, hR, hbel⟩ := hrel
    have hll : (ps.map S ++ List.replicate (n + 1 - ps.length) (⟨#[]⟩ : ByteArray)).length = n + 1 := by rw [List.length_append, List.length_map, List.length_replicate]; omega
    obtain ⟨hx, hf⟩ := Kd.R_celln (⟨#[]⟩ : ByteArray) hR (ps.length : Int) (by omega) (by omega)
    have hput := Kd.R_putn hR (ps.length : Int)
    rw [Int.toNat_natCast] at hx hf hput
    have hset : ∀ u : ByteArray, (ps.map S ++ List.replicate (n + 1 - ps.length) (⟨#[]⟩ : ByteArray)).set ps.length u = ps.map S ++ u :: List.replicate (n + 1 - (ps.length + 1)) (⟨#[]⟩ : ByteArray) := by
      intro u
      rw [List.set_append_right _ _ (by rw [List.length_map]; exact Nat.le_refl _), List.length_map, Nat.sub_self, show n + 1 - ps.length = (n + 1 - (ps.length + 1)) + 1 by omega, List.replicate_succ, List.set_cons_zero]
    have HS := Lib.hid hset
    have HPUT := Lib.hid hput
    clear hset hput hll
    rcases byte_find 10 t.data.toList with hn' | ⟨p, q, htd, hp⟩
    · have hz : n = ps.length := by
        have : t.data.toList.count 10 = 0 := List.count_eq_zero.mpr fun h => hn' 10 h rfl
        omega
      have d0 : decide ((ps.length : Int) < (n : Int)) = false := decide_eq_false (by omega)
      have d0n : decide (ps.length < n) = false := decide_eq_false (by omega)
      have d0p : (ps.length < n) = False := eq_false (by omega)
      have i3 : IntKind.i64.wrap ((ps.length : Int) + 1) = ((ps.length + 1 : Nat) : Int) := by rw [wrap_small _ (by omega) (by omega)]; omega
      have g0 : (0 : Int) ≤ (ps.length : Int) := by omega
      have g1 : (ps.length : Int) < (n : Int) + 1 := by omega
      have g2 : ps.length < n + 1 := by omega
      have g3 : ps.length + 1 ≤ cap := by omega
      have HP := Lib.hid (LP.splitA_none _ [] hn')
      have HZ := Lib.hid hz
      have hRr := Lib.hid (HPUT.out t)
      have hbs : Below B w' (wr.setCell ⟨g, ps.length, none⟩ (.string t)) := hbel.setCell hB1 _
      have HBS := Lib.hid hbs
      clear hbs hz
      go_wp2
      go_ret
      have hfin : ps.map S ++ t :: List.replicate (n + 1 - (ps.length + 1)) (⟨#[]⟩ : ByteArray) = (LP.splitL s.data.toList).map S := by
        have e := HZ.out
        rw [HQ.out, show LP.splitL t.data.toList = [t.data.toList] from HP.out, List.map_append, List.map_singleton, S_data, show n + 1 - (ps.length + 1) = 0 by omega]
        rfl
      have hres := hRr.out
      rw [HS.out, hfin] at hres
      rw [hB]
      refine ⟨_, rfl, ?_, HBS.out⟩
      have e := HZ.out
      have hn1 : n + 1 = ps.length + 1 := by omega
      rw [hn1] at hres
      exact hres
    · have hc1 : t.data.toList.count 10 = q.count 10 + 1 := by
        rw [htd, List.count_append, List.count_cons_self, List.count_eq_zero.mpr fun h => hp 10 h rfl]; omega
      have hlt : ps.length < n := by omega
      have d0 : decide ((ps.length : Int) < (n : Int)) = true := decide_eq_true (by omega)
      have d0n : decide (ps.length < n) = true := decide_eq_true (by omega)
      have d0p : (ps.length < n) = True := eq_true (by omega)
      have hI' := hI t
      rw [htd, ib_at p q 10 hp] at hI'
      have hz := size_app t p (10 :: q) htd
      rw [List.length_cons] at hz
      have e1 := S_take t p (10 :: q) htd
      have e2 := S_drop1 t p q 10 htd
      have HP := Lib.hid (LP.splitL_at p q hp)
      have HD := Lib.hid htd
      have hSq : (S q).size = q.length := S_size q
      have hSd := data_S q
      clear htd hp
      have d1 : decide ((p.length : Int) < 0) = false := decide_eq_false (by omega)
      have i3 : IntKind.i64.wrap ((ps.length : Int) + 1) = ((ps.length + 1 : Nat) : Int) := by rw [wrap_small _ (by omega) (by omega)]; omega
      have i4 : IntKind.i64.wrap ((p.length : Int) + 1) = ((p.length + 1 : Nat) : Int) := by rw [wrap_small _ (by omega) (by omega)]; omega
      have i5 : IntKind.i64.wrap ((p.length : Int) + 0) = (p.length : Int) := by rw [wrap_small _ (by omega) (by omega)]; omega
      have g0 : (0 : Int) ≤ (ps.length : Int) := by omega
      have g1 : (ps.length : Int) < (n : Int) + 1 := by omega
      have g2 : ps.length < n + 1 := by omega
      have g3 : p.length ≤ t.size := by omega
      have g4 : p.length + 1 ≤ t.size := by omega
      have hRr := Lib.hid (HPUT.out (S p))
      have HBS := Lib.hid (hbel.setCell hB1 _ : Below B w' (wr.setCell ⟨g, ps.length, none⟩ (.string (S p))))
      have HZ := Lib.hid hz
      clear hz
      go_wp2_with (go_at_call 54; refine (hI' _).mono ?_; rintro e w2 ⟨rfl, rfl⟩)
      have hpl : (ps ++ [p]).length = ps.length + 1 := by simp
      have hfin : ps.map S ++ S p :: List.replicate (n + 1 - (ps.length + 1)) (⟨#[]⟩ : ByteArray) = (ps ++ [p]).map S ++ List.replicate (n + 1 - (ps ++ [p]).length) (⟨#[]⟩ : ByteArray) := by
        rw [List.map_append, List.map_singleton, hpl, List.append_assoc, List.singleton_append]
      refine ⟨⟨S q, ps ++ [p], rfl, by rw [hpl]; go_num, by rw [hpl]; omega, by have := HZ.out; omega, by rw [hSd, hpl]; omega, Lib.hid (by rw [HQ.out, HD.out, HP.out, hSd]; simp), ?_, HBS.out⟩, by simp [intOf]; omega⟩
      have hres := hRr.out
      rw [HS.out, hfin] at hres
      exact hres

theorem split1 (s : ByteArray) (w : World) (hs : s.size ≤ 100000000) :
    Calls Tryd.prog 18 #[.string s, .string ⟨#[10]⟩] w fun e w' => ∃ v : Value, e = .returned v ∧ Kd.R Kd.string 9 w' w.heap.size (fun _ => True) v ((LP.splitL s.data.toList).map S) ∧ Below w.heap.size w w' := by
  have h := genSplit1 s w hs
  go_enter Tryd.func18, Tryd.ntmps18
  go_wp2_with (go_at_call 34; refine h.mono ?_; rintro e w' ⟨v, rfl, hR, hb⟩)
  go_ret
  exact ⟨v, rfl, hR, hb⟩
end Go.Proofs.YthkndchbgiimnaaDoor
