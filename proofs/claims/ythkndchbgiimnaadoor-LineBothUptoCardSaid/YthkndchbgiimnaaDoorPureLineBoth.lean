/- Two texts of whole lines, one behind the other, have the lines of both. -/
import Derived.Test.YthkndchbgiimnaaDoorPLx24
import Derived.Test.YthkndchbgiimnaaDoorPureLineC
set_option linter.unusedVariables false
set_option linter.unusedSimpArgs false
namespace Go.Proofs.YthkndchbgiimnaaDoor.PureL
open Go.RowKit Go.Proofs.YthkndchbgiimnaaDoor.PL Go.Proofs.YthkndchbgiimnaaDoorW.PrintWords Go.Proofs.YthkndchbgiimnaaDoorW.PrintLast Go.Proofs.YthkndchbgiimnaaDoor.Ba

theorem same_l0 (L : List S30) (hl : L.length ≤ 1000000) : ∀ (m i n : Nat), L.length - i = m → i ≤ L.length → m < n → line_Same.l0 n L L (L.length : Int) (i : Int) = some true
  | 0, i, n, hm, hi, hn => by
    obtain ⟨k, rfl⟩ : ∃ k, n = k + 1 := ⟨n - 1, by omega⟩
    rw [line_Same.l0, if_neg (by omega)]
    simp
  | m + 1, i, n, hm, hi, hn => by
    obtain ⟨k, rfl⟩ : ∃ k, n = k + 1 := ⟨n - 1, by omega⟩
    have hw : wrap64 ((i : Int) + 1) = ((i + 1 : Nat) : Int) := by rw [w64 (by omega) (by omega)]; omega
    rw [line_Same.l0, if_pos (by omega), if_pos (by omega), if_pos (by omega), if_pos (by omega), if_neg (by simp), hw]
    exact same_l0 L hl m (i + 1) k (by omega) (by omega) (by omega)
theorem same_refl (L : List S30) (hl : L.length ≤ 1000000) (n : Nat) (hn : L.length < n) : line_Same.f n L L = some true := by
  unfold line_Same.f
  have : mn (L.length : Int) (L.length : Int) = (L.length : Int) := by unfold mn; split <;> rfl
  rw [this]
  exact same_l0 L hl L.length 0 n (by omega) (by omega) hn
theorem both_l1 (a b : List LP.Ln) (cn : Nat) (ha : a.length + b.length ≤ 4096) (hc : cn ≤ 1000000) (hb : ∀ x ∈ b, x.at_ ≤ 1000000) :
    ∀ (m i n : Nat), b.length - i = m → i ≤ b.length → m + 41 ≤ n →
      bobstaylaw11_LineBoth.l1 n (a.map toS) ((a ++ b.map (LP.shift cn)).map toS) (cn : Int) (b.map toS) ((b.map toS).length : Int) (i : Int) = some true
  | 0, i, n, hm, hi, hn => by
    obtain ⟨k, rfl⟩ : ∃ k, n = k + 1 := ⟨n - 1, by omega⟩
    rw [bobstaylaw11_LineBoth.l1, if_neg (by rw [List.length_map]; omega), alive' k (by omega)]; rfl
  | m + 1, i, n, hm, hi, hn => by
    obtain ⟨k, rfl⟩ : ∃ k, n = k + 1 := ⟨n - 1, by omega⟩
    have hlt : i < b.length := by omega
    have hw : wrap64 ((i : Int) + 1) = ((i + 1 : Nat) : Int) := by rw [w64 (by omega) (by omega)]; omega
    have hw2 : wrap64 ((((a.map toS).length : Nat) : Int) + (i : Int)) = ((a.length + i : Nat) : Int) := by rw [List.length_map, w64' (by omega) (by omega)]; omega
    have hll : (a ++ b.map (LP.shift cn)).length = a.length + b.length := by rw [List.length_append, List.length_map]
    have hx9 : rd_T30 ((a ++ b.map (LP.shift cn)).map toS) ((a.length + i : Nat) : Int) = toS (LP.shift cn b[i]) := by
      rw [rd_at _ (a.length + i) (by omega), List.getElem_append_right (by omega)]
      simp
    have hbx := hb b[i] (List.getElem_mem hlt)
    have IH := both_l1 a b cn ha hc hb m (i + 1) k (by omega) (by omega) (by omega)
    have hlen9 : (((a ++ b.map (LP.shift cn)).map toS).length : Int) = ((a.length + b.length : Nat) : Int) := by rw [List.length_map, hll]
    rw [bobstaylaw11_LineBoth.l1, hw2, hx9, rd_at b i hlt, hlen9, hw]
    rw [if_pos (by rw [List.length_map]; omega), if_pos (by omega), if_pos (by rw [List.length_map]; omega), if_pos (by omega), if_pos (by omega)]
    generalize b[i] = x at hbx
    rw [if_pos (by rfl), if_neg (by show ¬ ((x.c != x.c) = true); simp)]
    have hat : (toS (LP.shift cn x)).f1 = wrap64 ((toS x).f1 + (cn : Int)) := by
      show ((x.at_ + cn : Nat) : Int) = wrap64 (((x.at_ : Nat) : Int) + (cn : Int))
      rw [w64' (by omega) (by omega)]; omega
    rw [if_pos hat]
    exact IH
theorem both_l0 (s : List UInt8) (hs : s.length ≤ 100000) (a b : List LP.Ln) (ha : a.length + b.length ≤ 4096) (hb : ∀ x ∈ b, x.at_ ≤ 1000000) :
    ∀ (l p : List UInt8) (n : Nat), s = p ++ l → l.length + 10000 ≤ n →
      bobstaylaw11_LineBoth.l0 n (S s) (a.map toS) (b.map toS) ((a ++ b.map (LP.shift (s.count 10))).map toS) ((p.count 10 : Nat) : Int) (p.length : Int) 0 0 = some true
  | [], p, n, h, hn => by
    obtain ⟨k, rfl⟩ : ∃ k, n = k + 1 + 1 := ⟨n - 2, by omega⟩
    rw [List.append_nil] at h
    subst h
    have hll : ((a ++ b.map (LP.shift (s.count 10))).map toS).length = a.length + b.length := by rw [List.length_map, List.length_append, List.length_map]
    have hcl : s.count 10 ≤ s.length := List.count_le_length
    have htk : ((a ++ b.map (LP.shift (s.count 10))).map toS).take (((a.map toS).length : Nat) : Int).toNat = a.map toS := by
      rw [Int.toNat_natCast, List.map_append, List.take_left' rfl]
    rw [bobstaylaw11_LineBoth.l0, S_size, if_neg (by omega), if_neg (by decide), hll]
    rw [if_pos (by rw [List.length_map, List.length_map, w64' (by omega) (by omega)]; omega), if_pos (by omega), if_pos (by rw [List.length_map]; omega), htk, same_refl _ (by rw [List.length_map]; omega) _ (by rw [List.length_map]; simp at hn; omega), Option.bind_some, bobstaylaw11_LineBoth.j2, if_neg (by decide)]
    exact both_l1 a b (s.count 10) ha (by omega) hb b.length 0 k (by omega) (by omega) (by simp at hn; omega)
  | c :: l, p, n, h, hn => by
    obtain ⟨k, rfl⟩ : ∃ k, n = k + 1 := ⟨n - 1, by omega⟩
    rw [List.length_cons] at hn
    have hz : s.length = p.length + (l.length + 1) := by rw [h, List.length_append, List.length_cons]
    have hcp : p.count 10 ≤ p.length := List.count_le_length
    have e1 := bt_app (S s) p l c (by rw [data_S]; exact h)
    have hw : wrap64 ((p.length : Int) + 1) = ((p.length + 1 : Nat) : Int) := by rw [w64 (by omega) (by omega)]; omega
    have hw2 : wrap64 (((p.count 10 : Nat) : Int) + 1) = ((p.count 10 + 1 : Nat) : Int) := by rw [w64 (by omega) (by omega)]; omega
    have IH := both_l0 s hs a b ha hb l (p ++ [c]) k (by rw [h]; simp) (by omega)
    rw [List.length_append, List.length_singleton, List.count_append] at IH
    rw [bobstaylaw11_LineBoth.l0, S_size, if_pos (by omega), if_pos (by omega), e1, hw, hw2]
    have e10 : (((c.toNat : Nat) : Int) = 10) = (c = 10) := ue c 10
    by_cases hc : c = 10
    · subst hc
      rw [if_pos (by rfl)]
      have : ([10] : List UInt8).count 10 = 1 := rfl
      rw [this] at IH; exact IH
    · rw [if_neg (by rw [e10]; exact hc)]
      have : ([c] : List UInt8).count 10 = 0 := by rw [List.count_singleton, beq_eq_false_iff_ne.mpr hc]; rfl
      rw [this, Nat.add_zero] at IH; exact IH
theorem LineBoth (s t : ByteArray) (hs : s.size ≤ 1048576) (ht : t.size ≤ 1048576) : ∃ k, bobstaylaw11_LineBoth.f k s t = some true := by
  refine ⟨400000, ?_⟩
  unfold bobstaylaw11_LineBoth.f
  rw [w64' (by omega) (by omega)]
  by_cases h6 : (s.size : Int) + (t.size : Int) > 60000
  · rw [if_pos h6, alive' _ (by omega)]; rfl
  · rw [if_neg h6, if_pos (by omega)]
    have e1 : s ++ (⟨#[10]⟩ : ByteArray) = S (s.data.toList ++ [10]) := by rw [S_one, ← S_cat, S_data]
    have e2 : (s ++ (⟨#[10]⟩ : ByteArray)) ++ t = S (s.data.toList ++ [10] ++ t.data.toList) := by rw [e1, ← S_cat (s.data.toList ++ [10]), S_data]
    have hz1 := size_len s
    have hz2 := size_len t
    obtain ⟨ea, ga, hea, hra⟩ := read_f (s.data.toList ++ [10]) (by rw [List.length_append, List.length_singleton]; omega) 400000 (by omega)
    obtain ⟨eb, gb, heb, hrb⟩ := read_f t.data.toList (by omega) 400000 (by omega)
    obtain ⟨ec, gc, hec, hrc⟩ := read_f (s.data.toList ++ [10] ++ t.data.toList) (by simp only [List.length_append, List.length_singleton]; omega) 400000 (by omega)
    rw [S_data] at hrb
    rw [e2, e1, hra, Option.bind_some, hrb, Option.bind_some, if_pos (by rw [S_size, List.length_append, List.length_singleton]; omega), hrc, Option.bind_some]
    have J : ∀ (a b c : List S30) (x y : Int), bobstaylaw11_LineBoth.j0 400000 (S (s.data.toList ++ [10])) a b c true x y = some true := by
      intro a b c x y
      rw [bobstaylaw11_LineBoth.j0, if_pos rfl, alive' _ (by omega)]; rfl
    cases ha : LP.readS (s.data.toList ++ [10]) with
    | none =>
      have hb : (ea == 0) = false := beq_eq_false_iff_ne.mpr hea
      simp only [hb]
      rw [if_pos (by rfl)]
      exact J _ _ _ _ _
    | some a =>
      simp only []
      rw [if_neg (by decide)]
      cases hb : LP.readS t.data.toList with
      | none =>
        have hb : (eb == 0) = false := beq_eq_false_iff_ne.mpr heb
        simp only [hb]
        rw [if_pos (by rfl)]
        exact J _ _ _ _ _
      | some b =>
        obtain ⟨a1, a2, a3⟩ := readS_ok _ _ ha
        obtain ⟨b1, b2, b3⟩ := readS_ok _ _ hb
        simp only []
        rw [if_neg (by decide), List.length_map, List.length_map, w64' (by omega) (by omega)]
        by_cases h4 : ((a.length : Int) + (b.length : Int)) > 4096
        · rw [decide_eq_true h4]; exact J _ _ _ _ _
        · rw [decide_eq_false h4]
          have hboth := LP.both s.data.toList t.data.toList a b (by simp only [List.length_append, List.length_singleton]; omega) ha hb (by omega)
          rw [hboth]
          simp only []
          have hbat : ∀ x ∈ b, x.at_ ≤ 1000000 := by
            intro x hx
            have := readS_at _ _ hb x hx
            omega
          have := both_l0 (s.data.toList ++ [10]) (by rw [List.length_append, List.length_singleton]; omega) a b (by omega) hbat (s.data.toList ++ [10]) [] 399999 rfl (by rw [List.length_append, List.length_singleton]; omega)
          rw [bobstaylaw11_LineBoth.j0, if_neg Bool.false_ne_true]
          exact this
theorem LineBothWalk (W : World) (s : ByteArray) (_ : s.size ≤ 140737488351232) (t : ByteArray) (_ : t.size ≤ 140737488351232) (hs : s.size + 1 ≤ 1048576) (ht : t.size + 1 ≤ 1048576) :
    Calls Tryd.prog 4 #[.string s, .string t] W fun e w' => e = .returned (.bool true) ∧ Below W.heap.size W w' := by
  obtain ⟨k, hk⟩ := LineBoth s t (by omega) (by omega)
  exact bobstaylaw11_LineBoth.calls k s t true W hk
end Go.Proofs.YthkndchbgiimnaaDoor.PureL
