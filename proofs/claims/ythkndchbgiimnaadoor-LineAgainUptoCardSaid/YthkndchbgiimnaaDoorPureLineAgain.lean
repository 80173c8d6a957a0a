/- Lines that were read, written and read again, have the same texts. -/
import Derived.Test.YthkndchbgiimnaaDoorPLx27
import Derived.Test.YthkndchbgiimnaaDoorPureLineC
set_option linter.unusedVariables false
set_option linter.unusedSimpArgs false
namespace Go.Proofs.YthkndchbgiimnaaDoor.PureL
open Go.RowKit Go.Proofs.YthkndchbgiimnaaDoor.PL Go.Proofs.YthkndchbgiimnaaDoorW.PrintWords Go.Proofs.YthkndchbgiimnaaDoorW.PrintLast Go.Proofs.YthkndchbgiimnaaDoor.Ba

theorem st_l0 (s : List UInt8) (hs : s.length ≤ 10000000) : ∀ (m i n : Nat), s.length - i ≤ m → 1 ≤ i → m < n →
    ∃ b, bobstaylaw11_stroked.l0 n (S s) (i : Int) = some b ∧ (b = false → ∀ p q : List UInt8, s = p ++ 92 :: 35 :: q → p.length + 1 < i)
  | 0, i, n, hm, hi, hn => by
    obtain ⟨k, rfl⟩ : ∃ k, n = k + 1 := ⟨n - 1, by omega⟩
    refine ⟨false, ?_, ?_⟩
    · rw [bobstaylaw11_stroked.l0, S_size, if_neg (by omega)]
    · intro _ p q h
      have := congrArg List.length h
      rw [List.length_append, List.length_cons, List.length_cons] at this
      omega
  | m + 1, i, n, hm, hi, hn => by
    obtain ⟨k, rfl⟩ : ∃ k, n = k + 1 := ⟨n - 1, by omega⟩
    by_cases hlt : i < s.length
    · obtain ⟨b, hb, hb2⟩ := st_l0 s hs m (i + 1) k (by omega) (by omega) (by omega)
      have hw : wrap64 ((i : Int) + 1) = ((i + 1 : Nat) : Int) := by rw [w64 (by omega) (by omega)]; omega
      have hw2 : wrap64 ((i : Int) - 1) = ((i - 1 : Nat) : Int) := by rw [w64' (by omega) (by omega)]; omega
      have e1 : bt (S s) (i : Int) = ((s[i].toNat : Nat) : Int) := by rw [bt_get (S s) i (by rw [S_size]; exact hlt)]; rfl
      have e2 : bt (S s) ((i - 1 : Nat) : Int) = ((s[i - 1].toNat : Nat) : Int) := by rw [bt_get (S s) (i - 1) (by rw [S_size]; omega)]; rfl
      have u35 : (((s[i].toNat : Nat) : Int) = 35) = (s[i] = 35) := ue s[i] 35
      have u92 : (((s[i - 1].toNat : Nat) : Int) = 92) = (s[i - 1] = 92) := ue s[i - 1] 92
      have STEP : ∀ b', (b' = false → ∀ p q : List UInt8, s = p ++ 92 :: 35 :: q → p.length + 1 < i + 1) → ¬ (s[i] = 35 ∧ s[i - 1] = 92) → (b' = false → ∀ p q : List UInt8, s = p ++ 92 :: 35 :: q → p.length + 1 < i) := by
        intro b' h1 h2 hf p q h
        have h3 := h1 hf p q h
        by_cases h4 : p.length + 1 = i
        · exfalso
          apply h2
          subst h
          constructor
          · have : (p ++ 92 :: 35 :: q)[i]? = some 35 := by
              rw [List.getElem?_append_right (by omega), show i - p.length = 1 by omega]; rfl
            rw [List.getElem?_eq_getElem hlt] at this
            exact Option.some.inj this
          · have : (p ++ 92 :: 35 :: q)[i - 1]? = some 92 := by
              rw [List.getElem?_append_right (by omega), show i - 1 - p.length = 0 by omega]; rfl
            rw [List.getElem?_eq_getElem (by omega)] at this
            exact Option.some.inj this
        · omega
      rw [bobstaylaw11_stroked.l0, S_size, if_pos (by omega), if_pos (by omega), e1, hw, hw2]
      by_cases h35 : s[i] = 35
      · rw [if_pos (by rw [h35]; rfl), if_pos (by omega), if_pos (by omega), e2]
        by_cases h92 : s[i - 1] = 92
        · exact ⟨true, by rw [if_pos (by rw [h92]; rfl)], fun h => by cases h⟩
        · refine ⟨b, by rw [if_neg (fun h => h92 (u92.mp h))]; exact hb, STEP b hb2 fun h => h92 h.2⟩
      · refine ⟨b, by rw [if_neg (fun h => h35 (u35.mp h))]; exact hb, STEP b hb2 fun h => h35 h.1⟩
    · refine ⟨false, ?_, ?_⟩
      · rw [bobstaylaw11_stroked.l0, S_size, if_neg (by omega)]
      · intro _ p q h
        have := congrArg List.length h
        rw [List.length_append, List.length_cons, List.length_cons] at this
        omega
theorem st_f (s : List UInt8) (hs : s.length ≤ 10000000) (n : Nat) (hn : s.length < n) : ∃ b, bobstaylaw11_stroked.f n (S s) = some b ∧ (b = false → LP.noSt s) := by
  obtain ⟨b, h1, h2⟩ := st_l0 s hs s.length 1 n (by omega) (by omega) hn
  refine ⟨b, h1, fun hf p q h => ?_⟩
  have := h2 hf p q h
  omega
theorem num_len : ∀ (o : List LP.Ln) (k : Nat), (LP.number k o).length = o.length
  | [], k => rfl
  | x :: o, k => by rw [LP.number, List.length_cons, List.length_cons, num_len o (k + 1)]
theorem num_at : ∀ (o : List LP.Ln) (k i : Nat) (h : i < o.length) (h' : i < (LP.number k o).length), (LP.number k o)[i] = ⟨o[i].t, k + i + 1, o[i].c⟩
  | x :: o, k, 0, h, h' => rfl
  | x :: o, k, i + 1, h, h' => by
    have := num_at o (k + 1) i (by simpa using h) (by rw [num_len]; simpa using h)
    simp only [LP.number, List.getElem_cons_succ]
    rw [this]
    congr 1
    omega
theorem again_l2 (o : List LP.Ln) (ho : o.length ≤ 4096) : ∀ (m i n : Nat), o.length - i = m → i ≤ o.length → m + 41 ≤ n → bobstaylaw11_LineAgain.l2 n (o.map toS) ((LP.number 0 o).map toS) (o.length : Int) (i : Int) = some true
  | 0, i, n, hm, hi, hn => by
    obtain ⟨k, rfl⟩ : ∃ k, n = k + 1 := ⟨n - 1, by omega⟩
    rw [bobstaylaw11_LineAgain.l2, if_neg (by omega), alive' k (by omega)]; rfl
  | m + 1, i, n, hm, hi, hn => by
    obtain ⟨k, rfl⟩ : ∃ k, n = k + 1 := ⟨n - 1, by omega⟩
    have hlt : i < o.length := by omega
    have hnl := num_len o 0
    have hw : wrap64 ((i : Int) + 1) = ((i + 1 : Nat) : Int) := by rw [w64 (by omega) (by omega)]; omega
    have IH := again_l2 o ho m (i + 1) k (by omega) (by omega) (by omega)
    rw [bobstaylaw11_LineAgain.l2, rd_at o i hlt, rd_at (LP.number 0 o) i (by omega), num_at o 0 i hlt (by omega), hw]
    rw [if_pos (by omega), if_pos (by omega), if_pos (by rw [List.length_map, hnl]; omega), if_pos (by rw [List.length_map]; omega)]
    generalize o[i] = x
    have e1 : (toS ⟨x.t, 0 + i + 1, x.c⟩).f0 = (toS x).f0 := rfl
    have e2 : (toS ⟨x.t, 0 + i + 1, x.c⟩).f2 = (toS x).f2 := rfl
    have e3 : (toS ⟨x.t, 0 + i + 1, x.c⟩).f1 = ((i + 1 : Nat) : Int) := by show ((0 + i + 1 : Nat) : Int) = _; omega
    rw [e1, e2, e3, if_pos rfl, if_neg (by simp), if_pos rfl]
    exact IH
theorem wr_eq (o : List LP.Ln) : wrL ((o.map toS).map line_Write.tr) = LP.writeL o := by
  unfold wrL LP.writeL
  rw [List.map_map, List.flatMap_map]
  congr 1
theorem wt_eq (o : List LP.Ln) : wtot ((o.map toS).map line_Write.tr) = (o.map fun x => x.t.length + 2).sum := by
  unfold wtot
  rw [List.map_map, List.map_map]
  congr 2
theorem wt_le (o : List LP.Ln) : (o.map fun x => x.t.length + 2).sum ≤ 2 * (o.map fun x => x.t.length + 1).sum := by
  induction o with
  | nil => simp
  | cons x o ih => simp only [List.map_cons, List.sum_cons]; omega
theorem wl_le (o : List LP.Ln) : (LP.writeL o).length ≤ 2 * (o.map fun x => x.t.length + 2).sum := by
  induction o with
  | nil => simp [LP.writeL]
  | cons x o ih =>
    have h : LP.writeL (x :: o) = LP.lineOf x ++ [10] ++ LP.writeL o := by simp [LP.writeL]
    have hr := replL_len x.t
    have hlo : (LP.lineOf x).length ≤ 2 * x.t.length + 1 := by
      unfold LP.lineOf
      split
      · rw [List.length_cons]; omega
      · omega
    rw [h, List.length_append, List.length_append, List.length_singleton]
    simp only [List.map_cons, List.sum_cons]
    omega
theorem scan_l1 (o : List LP.Ln) (i : Nat) (hi : i ≤ 10000000) (t : List UInt8) (c' : Bool) (a : Int) (ht : t.length ≤ 10000000) (Q : Nat) (hQ : 50 ≤ Q)
    (E : (∀ c ∈ t, c ≠ 10) → ∀ n, Q ≤ n → bobstaylaw11_LineAgain.l0 n (o.map toS) (o.map toS) (o.length : Int) ((i + 1 : Nat) : Int) = some true) :
    ∀ (l p : List UInt8) (n : Nat), t = p ++ l → (∀ c ∈ p, c ≠ 10) → Q + l.length + 1 ≤ n →
      bobstaylaw11_LineAgain.l1 n (o.map toS) (p.length : Int) (o.map toS) (o.length : Int) (i : Int) (S t) a c' = some true
  | [], p, n, hp, hp2, hn => by
    obtain ⟨k, rfl⟩ : ∃ k, n = k + 1 := ⟨n - 1, by omega⟩
    have hw : wrap64 ((i : Int) + 1) = ((i + 1 : Nat) : Int) := by rw [w64 (by omega) (by omega)]; omega
    rw [List.append_nil] at hp
    rw [bobstaylaw11_LineAgain.l1, S_size, if_neg (by rw [hp]; omega), hw]
    exact E (by rw [hp]; exact hp2) k (by rw [List.length_nil] at hn; omega)
  | c :: l, p, n, hp, hp2, hn => by
    obtain ⟨k, rfl⟩ : ∃ k, n = k + 1 := ⟨n - 1, by omega⟩
    rw [List.length_cons] at hn
    have hz : t.length = p.length + (l.length + 1) := by rw [hp, List.length_append, List.length_cons]
    have e1 := bt_app (S t) p l c (by rw [data_S]; exact hp)
    have hwp : wrap64 ((p.length : Int) + 1) = ((p.length + 1 : Nat) : Int) := by rw [w64 (by omega) (by omega)]; omega
    have u10 : (((c.toNat : Nat) : Int) = 10) = (c = 10) := ue c 10
    have hk : Q + l.length + 1 ≤ k := by omega
    have hk2 : 40 ≤ k := by omega
    have g1 : (p.length : Int) < (t.length : Int) := by omega
    rw [bobstaylaw11_LineAgain.l1, S_size, if_pos g1, if_pos (Int.natCast_nonneg _), e1, hwp]
    by_cases hc : c = 10
    · rw [if_pos (by rw [hc]; rfl), alive' k hk2]; rfl
    · rw [if_neg (fun h => hc (u10.mp h))]
      have := scan_l1 o i hi t c' a ht Q hQ E l (p ++ [c]) k (by rw [hp]; simp) (by
        intro d hd
        rcases List.mem_append.mp hd with hd | hd
        · exact hp2 d hd
        · rw [List.mem_singleton] at hd; subst hd; exact hc) hk
      rw [List.length_append, List.length_singleton] at this
      exact this
section
variable (s : List UInt8) (o : List LP.Ln) (hr : LP.readS s = some o) (hs : s.length ≤ 2000000)
include hr hs
theorem again_end (hok : ∀ x ∈ o, LP.okL x) (n : Nat) (hn : 310000 ≤ n) : bobstaylaw11_LineAgain.l0 n (o.map toS) (o.map toS) (o.length : Int) (o.length : Int) = some true := by
  obtain ⟨k, rfl⟩ : ∃ k, n = k + 1 := ⟨n - 1, by omega⟩
  obtain ⟨r1, r2, r3⟩ := readS_ok _ _ hr
  have h4 := readS_tot _ _ hr
  have h5 := wt_le o
  have h6 := wl_le o
  have hw0 := wt_eq o
  obtain ⟨A, hA⟩ : ∃ A, (o.map fun x => x.t.length + 1).sum = A := ⟨_, rfl⟩
  obtain ⟨C, hC⟩ : ∃ C, (o.map fun x => x.t.length + 2).sum = C := ⟨_, rfl⟩
  rw [hA] at h4 h5
  rw [hC] at h5 h6 hw0
  clear hA hC r1 r2
  have hW : line_Write.f (o.map toS) = some (S (LP.writeL o)) := by
    unfold line_Write.f
    rw [hw0, if_pos (by omega), wr_eq]
  obtain ⟨e, g, he, hrd⟩ := read_f (LP.writeL o) (by omega) k (by omega)
  rw [bobstaylaw11_LineAgain.l0, if_neg (by omega), hW, Option.bind_some, hrd, Option.bind_some]
  by_cases hbig : (LP.writeL o).length ≤ 65536
  · rw [LP.again o hok r3 hbig]
    simp only []
    rw [if_neg (by decide), List.length_map, List.length_map, num_len, if_pos rfl]
    exact again_l2 o r3 o.length 0 k (by omega) (by omega) (by omega)
  · have hnone : LP.readS (LP.writeL o) = none := by unfold LP.readS; rw [if_pos (by omega)]
    rw [hnone]
    have hb : (e == 0) = false := beq_eq_false_iff_ne.mpr he
    simp only [hb]
    rw [if_pos (by rfl), Option.bind_some, S_size, if_pos (by omega), alive' k (by omega)]; rfl
theorem again_l0 : ∀ (m i n : Nat), o.length - i = m → i ≤ o.length → (∀ (j : Nat) (hj : j < o.length), j < i → LP.okL o[j]) → 310000 + ((o.drop i).map fun x => x.t.length + 4).sum ≤ n →
    bobstaylaw11_LineAgain.l0 n (o.map toS) (o.map toS) (o.length : Int) (i : Int) = some true
  | 0, i, n, hm, hi, hok, hn => by
    obtain rfl : i = o.length := by omega
    refine again_end s o hr hs ?_ n (by omega)
    intro x hx
    obtain ⟨j, hj, rfl⟩ := List.getElem_of_mem hx
    exact hok j hj hj
  | m + 1, i, n, hm, hi, hok, hn => by
    have hlt : i < o.length := by omega
    obtain ⟨r1, r2, r3⟩ := readS_ok _ _ hr
    have h4 := readS_tot _ _ hr
    have hx := r1 o[i] (List.getElem_mem hlt)
    have hxl := sum_le o o[i] (List.getElem_mem hlt)
    have hd : o.drop i = o[i] :: o.drop (i + 1) := List.drop_eq_getElem_cons hlt
    rw [hd, List.map_cons, List.sum_cons] at hn
    obtain ⟨Q, hQ⟩ : ∃ Q, ((o.drop (i + 1)).map fun x => x.t.length + 4).sum = Q := ⟨_, rfl⟩
    have NEXT : LP.okL o[i] → ∀ n', 310000 + Q ≤ n' → bobstaylaw11_LineAgain.l0 n' (o.map toS) (o.map toS) (o.length : Int) ((i + 1 : Nat) : Int) = some true := by
      intro hoki n' hn'
      refine again_l0 m (i + 1) n' (by omega) (by omega) ?_ (by rw [hQ]; exact hn')
      intro j hj hj2
      by_cases hji : j = i
      · subst hji; exact hoki
      · exact hok j hj (by omega)
    have hw : wrap64 ((i : Int) + 1) = ((i + 1 : Nat) : Int) := by rw [w64 (by omega) (by omega)]; omega
    rw [hQ] at hn
    obtain ⟨A, hA⟩ : ∃ A, (o.map fun x => x.t.length + 1).sum = A := ⟨_, rfl⟩
    rw [hA] at h4 hxl
    clear hA hQ hd r1 r2 hok
    obtain ⟨k, rfl⟩ : ∃ k, n = k + 1 := ⟨n - 1, by omega⟩
    rw [bobstaylaw11_LineAgain.l0, rd_at o i hlt, if_pos (by omega), if_pos (by omega), if_pos (by rw [List.length_map]; omega)]
    generalize o[i] = x at hx hxl hn NEXT
    have hne := all_ne _ hx.2.1
    have hxs : x.t.length ≤ 10000000 := by omega
    have hf0 : (toS x).f0 = S x.t := rfl
    have hf2 : (toS x).f2 = x.c := rfl
    rw [hf0, hf2]
    generalize (toS x).f1 = a
    have JT : ∀ n', 41 ≤ n' → bobstaylaw11_LineAgain.j1 n' (o.map toS) (o.map toS) (o.length : Int) (i : Int) true (S x.t) a x.c = some true := by
      intro n' hn'
      obtain ⟨k, rfl⟩ : ∃ k, n' = k + 1 := ⟨n' - 1, by omega⟩
      rw [bobstaylaw11_LineAgain.j1, if_pos rfl, alive' k (by omega)]; rfl
    have JF : ((∀ c ∈ x.t, c ≠ 10) → LP.okL x) → ∀ n', 310000 + Q + x.t.length + 2 ≤ n' → bobstaylaw11_LineAgain.j1 n' (o.map toS) (o.map toS) (o.length : Int) (i : Int) false (S x.t) a x.c = some true := by
      intro hokx n' hn'
      obtain ⟨k, rfl⟩ : ∃ k, n' = k + 1 := ⟨n' - 1, by omega⟩
      rw [bobstaylaw11_LineAgain.j1, if_neg Bool.false_ne_true]
      exact scan_l1 o i (by omega) x.t x.c a hxs (310000 + Q) (by omega) (fun hnl n' hn' => NEXT (hokx hnl) n' hn') x.t [] k rfl (by simp) (by omega)
    obtain ⟨t', d, ht⟩ : ∃ t' d, x.t = t' ++ [d] := ⟨x.t.dropLast, x.t.getLast hne, (List.dropLast_concat_getLast _).symm⟩
    have hsz2 : (S x.t).size = t'.length + 1 := by rw [S_size, ht, List.length_append, List.length_singleton]
    have htl : x.t.length = t'.length + 1 := by rw [ht, List.length_append, List.length_singleton]
    have hw2 : wrap64 (((S x.t).size : Int) - 1) = (t'.length : Int) := by rw [hsz2, w64' (by omega) (by omega)]; omega
    have hbl := bt_app (S x.t) t' [] d (by rw [data_S]; exact ht)
    have u92 : (((d.toNat : Nat) : Int) = 92) = (d = 92) := ue d 92
    have hlast : x.t.getLast? = some d := by rw [ht]; simp
    rw [if_neg (by rw [hsz2]; omega), hw2, if_pos (by omega), if_pos (by rw [hsz2]; omega), hbl]
    by_cases hd92 : d = 92
    · rw [if_pos (by rw [hd92]; rfl)]
      exact JT k (by omega)
    · rw [if_neg (fun h => hd92 (u92.mp h))]
      have hl92 : x.t.getLast? ≠ some 92 := by rw [hlast]; intro h; exact hd92 (Option.some.inj h)
      cases hc : x.c with
      | true =>
        rw [if_pos rfl]
        rw [hc] at JF
        refine JF (fun hnl => ⟨hx.2.1, hl92, hnl, fun h => ?_, fun h => ?_, fun h => ?_⟩) k (by omega)
        · rw [hc] at h; cases h
        · rw [hc] at h; cases h
        · rw [hc] at h; cases h
      | false =>
        rw [if_neg Bool.false_ne_true]
        rw [hc] at JT JF
        obtain ⟨b, hb1, hb2⟩ := st_f x.t (by omega) k (by omega)
        rw [hb1, Option.bind_some]
        cases b with
        | true => rw [if_pos rfl]; exact JT k (by omega)
        | false =>
          rw [if_neg Bool.false_ne_true, if_pos (by rw [hsz2]; omega)]
          obtain ⟨c0, t0, ht0⟩ : ∃ c0 t0, x.t = c0 :: t0 := by
            cases h : x.t with
            | nil => exact absurd h hne
            | cons c0 t0 => exact ⟨c0, t0, rfl⟩
          have hb0 : bt (S x.t) 0 = ((c0.toNat : Nat) : Int) := bt_app (S x.t) [] t0 c0 (by rw [data_S]; exact ht0)
          have u9 : (((c0.toNat : Nat) : Int) = 9) = (c0 = 9) := ue c0 9
          rw [hb0]
          by_cases h9 : c0 = 9
          · rw [show (((c0.toNat : Nat) : Int) == 9) = true from beq_iff_eq.mpr (by rw [h9]; rfl)]
            exact JT k (by omega)
          · rw [show (((c0.toNat : Nat) : Int) == 9) = false from beq_eq_false_iff_ne.mpr (fun h => h9 (u9.mp h))]
            refine JF (fun hnl => ⟨hx.2.1, hl92, hnl, fun _ => hb2 rfl, fun _ => ?_, hx.2.2⟩) k (by omega)
            rw [ht0]
            intro h
            exact h9 (Option.some.inj h)
end
theorem sum4 (o : List LP.Ln) : (o.map fun x => x.t.length + 4).sum ≤ 4 * (o.map fun x => x.t.length + 1).sum := by
  induction o with
  | nil => simp
  | cons x o ih => simp only [List.map_cons, List.sum_cons]; omega
theorem LineAgain (s : ByteArray) (hs : s.size ≤ 1048576) : ∃ k, bobstaylaw11_LineAgain.f k s = some true := by
  refine ⟨10000000, ?_⟩
  obtain ⟨e, g, he, hr⟩ := read_f s.data.toList (by rw [← size_len]; omega) 10000000 (by omega)
  rw [S_data] at hr
  unfold bobstaylaw11_LineAgain.f
  rw [hr, Option.bind_some]
  cases h : LP.readS s.data.toList with
  | none =>
    have hb : (e == 0) = false := beq_eq_false_iff_ne.mpr he
    simp only [hb]
    rw [if_pos (by rfl), if_pos (by rfl), alive' _ (by omega)]; rfl
  | some o =>
    have h4 := readS_tot _ _ h
    rw [← size_len] at h4
    have h5 := sum4 o
    simp only []
    rw [if_neg (by decide), List.length_map]
    exact again_l0 s.data.toList o h (by rw [← size_len]; omega) o.length 0 10000000 (by omega) (by omega) (fun j _ hj => absurd hj (Nat.not_lt_zero _)) (by rw [List.drop_zero]; omega)
theorem LineAgainWalk (W : World) (s : ByteArray) (_ : s.size ≤ 140737488351232) (hs : s.size + 1 ≤ 1048576) :
    Calls Tryd.prog 5 #[.string s] W fun e w' => e = .returned (.bool true) ∧ Below W.heap.size W w' := by
  obtain ⟨k, hk⟩ := LineAgain s (by omega)
  exact bobstaylaw11_LineAgain.calls k s true W hk
end Go.Proofs.YthkndchbgiimnaaDoor.PureL
