/- Numbers rise, no line is empty, and none that is no command ends with a blank. -/
import Derived.Test.YthkndchbgiimnaaDoorPLx22
import Derived.Test.YthkndchbgiimnaaDoorPureLineC
set_option linter.unusedVariables false
set_option linter.unusedSimpArgs false
namespace Go.Proofs.YthkndchbgiimnaaDoor.PureL
open Go.RowKit Go.Proofs.YthkndchbgiimnaaDoor.PL Go.Proofs.YthkndchbgiimnaaDoorW.PrintWords Go.Proofs.YthkndchbgiimnaaDoorW.PrintLast Go.Proofs.YthkndchbgiimnaaDoor.Ba

theorem rise_l0 (o : List LP.Ln) (hl : o.length ≤ 4096) (h1 : ∀ x ∈ o, 0 < x.at_ ∧ x.t.all LP.bl = false ∧ (x.c = false → ∀ c, x.t.getLast? = some c → LP.bl c = false)) (h2 : o.Pairwise (fun a b => a.at_ < b.at_)) (hsz : ∀ x ∈ o, x.t.length ≤ 100000000) :
    ∀ (m i n : Nat), o.length - i = m → i ≤ o.length → 2 * m + 41 ≤ n → bobstaylaw11_LineRise.l0 n (o.map toS) (o.map toS) (o.length : Int) (i : Int) = some true
  | 0, i, n, hm, hi, hn => by
    obtain ⟨k, rfl⟩ : ∃ k, n = k + 1 := ⟨n - 1, by omega⟩
    rw [bobstaylaw11_LineRise.l0, if_neg (by omega), alive' k (by omega)]; rfl
  | m + 1, i, n, hm, hi, hn => by
    obtain ⟨k, rfl⟩ : ∃ k, n = k + 1 + 1 := ⟨n - 2, by omega⟩
    have hlt : i < o.length := by omega
    have hx := h1 o[i] (List.getElem_mem hlt)
    have hxs := hsz o[i] (List.getElem_mem hlt)
    have hne := all_ne _ hx.2.1
    have IH := rise_l0 o hl h1 h2 hsz m (i + 1) k (by omega) (by omega) (by omega)
    have hw : wrap64 ((i : Int) + 1) = ((i + 1 : Nat) : Int) := by rw [w64 (by omega) (by omega)]; omega
    rw [bobstaylaw11_LineRise.l0, rd_at o i hlt, if_pos (by omega), if_pos (by omega), if_pos (by rw [List.length_map]; omega)]
    have hprev : ∀ j, j < i → (hj : j < o.length) → o[j].at_ < o[i].at_ := fun j hj1 hj => (List.pairwise_iff_getElem.mp h2) j i hj hlt hj1
    generalize o[i] = x at hx hxs hne hprev
    have J : bobstaylaw11_LineRise.j1 (k + 1) (o.map toS) (o.map toS) (o.length : Int) (i : Int) false ((toS x).f0) ((toS x).f1) ((toS x).f2) = some true := by
      obtain ⟨t', d, ht⟩ : ∃ t' d, x.t = t' ++ [d] := ⟨x.t.dropLast, x.t.getLast hne, (List.dropLast_concat_getLast _).symm⟩
      have hsz2 : (S x.t).size = t'.length + 1 := by rw [S_size, ht, List.length_append, List.length_singleton]
      have hw2 : wrap64 (((S x.t).size : Int) - 1) = (t'.length : Int) := by rw [hsz2, w64' (by omega) (by rw [ht, List.length_append, List.length_singleton] at hxs; omega)]; omega
      have hb := bt_app (S x.t) t' [] d (by rw [data_S]; exact ht)
      have hf0 : (toS x).f0 = S x.t := rfl
      have hf2 : (toS x).f2 = x.c := rfl
      rw [bobstaylaw11_LineRise.j1, if_neg Bool.false_ne_true, hw, hf0, hf2, hw2, hsz2, hb, if_pos (by omega), if_pos (by omega), IH]
      cases hc : x.c with
      | true => rw [if_pos rfl]
      | false =>
        have hbl := hx.2.2 hc d (by rw [ht]; simp)
        have hd : d ≠ 32 ∧ d ≠ 9 := by
          constructor
          · rintro rfl; cases hbl
          · rintro rfl; cases hbl
        rw [if_neg Bool.false_ne_true, if_neg (by rw [show (32 : Int) = (((32 : UInt8).toNat : Nat) : Int) from rfl, ue]; exact hd.1), if_neg (by rw [show (9 : Int) = (((9 : UInt8).toNat : Nat) : Int) from rfl, ue]; exact hd.2)]
    have hf0 : ¬ ((toS x).f0).toList = ([] : List UInt8) := by
      show ¬ (S x.t).toList = []
      rw [S_nil]; exact hne
    have hf1 : ¬ ((toS x).f1) < 1 := by
      show ¬ ((x.at_ : Nat) : Int) < 1
      omega
    rw [if_neg hf0, if_neg hf1]
    by_cases h0 : 0 < i
    · have hw3 : wrap64 ((i : Int) - 1) = ((i - 1 : Nat) : Int) := by rw [w64' (by omega) (by omega)]; omega
      have hp := hprev (i - 1) (by omega) (by omega)
      rw [if_pos (by omega), hw3, if_pos (by omega), if_pos (by rw [List.length_map]; omega), rd_at o (i - 1) (by omega)]
      have hd : decide ((toS x).f1 ≤ (toS o[i - 1]).f1) = false := by
        apply decide_eq_false
        show ¬ ((x.at_ : Nat) : Int) ≤ ((o[i - 1].at_ : Nat) : Int)
        omega
      rw [hd]; exact J
    · rw [if_neg (by omega)]; exact J
theorem LineRise (s : ByteArray) (hs : s.size ≤ 1048576) : ∃ k, bobstaylaw11_LineRise.f k s = some true := by
  refine ⟨400000, ?_⟩
  obtain ⟨e, g, he, hr⟩ := read_f s.data.toList (by rw [← size_len]; omega) 400000 (by omega)
  rw [S_data] at hr
  unfold bobstaylaw11_LineRise.f
  rw [hr, Option.bind_some]
  cases h : LP.readS s.data.toList with
  | none =>
    have hb : (e == 0) = false := beq_eq_false_iff_ne.mpr he
    simp only [hb]
    rw [if_pos (by rfl), if_pos (by rfl), alive' _ (by omega)]; rfl
  | some o =>
    obtain ⟨h1, h2, h3⟩ := readS_ok _ _ h
    have h4 := readS_tot _ _ h
    rw [← size_len] at h4
    simp only []
    rw [if_neg (by decide), List.length_map]
    exact rise_l0 o h3 h1 h2 (fun x hx => by have := sum_le o x hx; omega) o.length 0 400000 (by omega) (by omega) (by omega)
theorem LineRiseWalk (W : World) (s : ByteArray) (_ : s.size ≤ 140737488351232) (hs : s.size + 1 ≤ 1048576) :
    Calls Tryd.prog 3 #[.string s] W fun e w' => e = .returned (.bool true) ∧ Below W.heap.size W w' := by
  obtain ⟨k, hk⟩ := LineRise s (by omega)
  exact bobstaylaw11_LineRise.calls k s true W hk
end Go.Proofs.YthkndchbgiimnaaDoor.PureL
