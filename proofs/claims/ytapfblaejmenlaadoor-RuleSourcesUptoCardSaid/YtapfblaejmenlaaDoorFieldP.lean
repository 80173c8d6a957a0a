/- strings.FieldsFunc at blanks: the pieces, byte by byte. -/
import Derived.Test.YtapfblaejmenlaaDoorWordK2
import Derived.Test.YtapfblaejmenlaaDoorShelf
import Derived.Lib.FieldsP
import Derived.Lib.DecodeN
import Derived.Lib.MapLaws
import Derived.Lib.TrimUEq
import Derived.Laws.RangeString
set_option linter.unusedVariables false
set_option linter.unusedSimpArgs false
namespace Go.Proofs.YtapfblaejmenlaaDoor.WP
open Go Ba

/-- the bytes, with what they are -/
def bk (l : List UInt8) : List (UInt8 × UInt8) := l.map fun c => (c, if bl c = true then 98 else 112)
theorem bk_fst (l : List UInt8) : (bk l).map (·.1) = l := by simp [bk, List.map_map, Function.comp_def]
theorem bk_app (a b : List UInt8) : bk (a ++ b) = bk a ++ bk b := by simp [bk]
def fieldsL (l : List UInt8) : List (List UInt8) := grp (bk l) none
def isB (n : Nat) : Bool := n == 32 || n == 9

theorem cont_hi (x : Nat) (h : x / 64 = 2) : 128 ≤ x := by omega
/-- a byte beyond ASCII: the rune that begins there is no blank, nor are its bytes -/
theorem dec_hi (s : ByteArray) (i : Nat) (hi : i < s.size) (h : 128 ≤ (s[i]).toNat) :
    128 ≤ (Utf8.decode s i).1 ∧ 1 ≤ (Utf8.decode s i).2 ∧ i + (Utf8.decode s i).2 ≤ s.size ∧ ∀ j, i ≤ j → j < i + (Utf8.decode s i).2 → 128 ≤ (s.data.toList.getD j 0).toNat := by
  rw [Lib.decode_N, ← size_len]
  have hg : s.data.toList.getD i 0 = s[i] := by rw [List.getD_eq_getElem?_getD, data_get? s i hi]; rfl
  have h0 : 128 ≤ (s.data.toList.getD i 0).toNat := by rw [hg]; exact h
  generalize (s.data.toList.getD i 0).toNat = b0 at h0
  rcases Lib.decodeN_shape (s.size - i) b0 (s.data.toList.getD (i + 1) 0).toNat (s.data.toList.getD (i + 2) 0).toNat (s.data.toList.getD (i + 3) 0).toNat with h | h | h | h | h
  · omega
  · obtain ⟨a1, a2, a3, a4, a5⟩ := h
    rw [a5]
    refine ⟨a4, by omega, by simp only; omega, fun j h1 h2 => ?_⟩
    simp only at h2
    obtain rfl | rfl : j = i ∨ j = i + 1 := by omega
    · rw [hg]; exact ‹128 ≤ (s[j]).toNat›
    · exact cont_hi _ a3
  · obtain ⟨a1, a2, a3, a3', a4, a4', a5⟩ := h
    rw [a5]
    refine ⟨by simp only; omega, by simp only; omega, by simp only; omega, fun j h1 h2 => ?_⟩
    simp only at h2
    obtain rfl | rfl | rfl : j = i ∨ j = i + 1 ∨ j = i + 2 := by omega
    · rw [hg]; exact ‹128 ≤ (s[j]).toNat›
    · exact cont_hi _ a3
    · exact cont_hi _ a3'
  · obtain ⟨a1, a2, a3, a3', a3'', a4, a4', a5⟩ := h
    rw [a5]
    refine ⟨by simp only; omega, by simp only; omega, by simp only; omega, fun j h1 h2 => ?_⟩
    simp only at h2
    obtain rfl | rfl | rfl | rfl : j = i ∨ j = i + 1 ∨ j = i + 2 ∨ j = i + 3 := by omega
    · rw [hg]; exact ‹128 ≤ (s[j]).toNat›
    · exact cont_hi _ a3
    · exact cont_hi _ a3'
    · exact cont_hi _ a3''
  · rw [h]
    refine ⟨by simp only; omega, by simp only; omega, by simp only; omega, fun j h1 h2 => ?_⟩
    simp only at h2
    obtain rfl : j = i := by omega
    rw [hg]; exact ‹128 ≤ (s[j]).toNat›
/-- the rune at a place: blank or not, as the byte is; and no byte of it but a blank alone is one -/
theorem dec_step (s : ByteArray) (i : Nat) (hi : i < s.size) :
    (bl s[i] = true ∧ isB (Utf8.decode s i).1 = true ∧ (Utf8.decode s i).2 = 1) ∨
    (isB (Utf8.decode s i).1 = false ∧ 1 ≤ (Utf8.decode s i).2 ∧ i + (Utf8.decode s i).2 ≤ s.size ∧ ∀ x ∈ bk ((s.data.toList.drop i).take (Utf8.decode s i).2), x.2 ≠ 98) := by
  by_cases h : (s[i]).toNat < 128
  · have hd : Utf8.decode s i = ((s[i]).toNat, 1) := decode_ascii s i hi h
    rw [hd]
    by_cases hb : bl s[i] = true
    · left
      refine ⟨hb, ?_, rfl⟩
      have : s[i] = 32 ∨ s[i] = 9 := by simpa [bl] using hb
      rcases this with e | e <;> rw [e] <;> rfl
    · right
      refine ⟨?_, by simp, by simp only; omega, ?_⟩
      · have : ¬ (s[i] = 32 ∨ s[i] = 9) := by simpa [bl] using hb
        have h1 : (s[i]).toNat ≠ 32 := fun e => this (.inl (UInt8.toNat_inj.mp e))
        have h2 : (s[i]).toNat ≠ 9 := fun e => this (.inr (UInt8.toNat_inj.mp e))
        simp [isB, h1, h2]
      · rw [drop_cons s i hi]
        intro x hx
        simp only [bk, List.take_succ_cons, List.take_zero, List.map_cons, List.map_nil, List.mem_singleton] at hx
        rw [hx, if_neg hb]
        exact (by decide : (112 : UInt8) ≠ 98)
  · obtain ⟨a1, a2, a3, a4⟩ := dec_hi s i hi (by omega)
    right
    refine ⟨by simp [isB]; omega, a2, a3, ?_⟩
    intro x hx
    obtain ⟨c, hc, rfl⟩ := List.mem_map.mp hx
    obtain ⟨k, hk, rfl⟩ := List.getElem_of_mem hc
    rw [List.length_take, List.length_drop] at hk
    have hj := a4 (i + k) (by omega) (by omega)
    rw [List.getElem_take, List.getElem_drop]
    rw [List.getD_eq_getElem?_getD, List.getElem?_eq_getElem (by omega)] at hj
    simp only [Option.getD_some] at hj
    have : ¬ bl (s.data.toList[i + k]) = true := by
      intro hb
      have : s.data.toList[i + k] = 32 ∨ s.data.toList[i + k] = 9 := by simpa [bl] using hb
      rcases this with e | e <;> rw [e] at hj <;> exact absurd hj (by decide)
    simp only
    rw [if_neg this]
    exact (by decide : (112 : UInt8) ≠ 98)

theorem spans_fields (s : ByteArray) : ∀ (f pos : Nat) (st : Option Nat) (acc : List (Nat × Nat)), pos ≤ s.size → s.size - pos ≤ f → (∀ a, st = some a → a ≤ pos) →
    (Lib.closeSpans s (Lib.spansFromP isB s f pos st acc)).map (fun x => s.extract x.1 x.2) = acc.map (fun x => s.extract x.1 x.2) ++ (grp (bk (s.data.toList.drop pos)) (st.map fun a => (s.data.toList.drop a).take (pos - a))).map S := by
  have hext : ∀ a b, s.extract a b = S ((s.data.toList.drop a).take (b - a)) := fun a b => by apply ba_ext; rw [data_extract, data_S]
  have hend : ∀ (pos : Nat) (st : Option Nat) (acc : List (Nat × Nat)), pos = s.size → (Lib.closeSpans s (acc, st)).map (fun x => s.extract x.1 x.2) = acc.map (fun x => s.extract x.1 x.2) ++ (grp (bk (s.data.toList.drop pos)) (st.map fun a => (s.data.toList.drop a).take (pos - a))).map S := by
    rintro pos st acc rfl
    have hz : s.data.toList.drop s.size = [] := List.drop_of_length_le (by rw [← size_len]; exact Nat.le_refl _)
    rw [hz]
    cases st with
    | none => simp [Lib.closeSpans, bk, grp]
    | some a => simp [Lib.closeSpans, bk, grp, hext]
  intro f
  induction f with
  | zero => intro pos st acc h1 h2 _; exact hend pos st acc (by omega)
  | succ f ih =>
    intro pos st acc h1 h2 h3
    by_cases hlt : pos < s.size
    · unfold Lib.spansFromP
      rw [if_pos hlt]
      rcases dec_step s pos hlt with ⟨hb, hp, hw⟩ | ⟨hp, hw1, hw2, hx⟩
      · rw [hp, hw, if_pos rfl]
        have hd := drop_cons s pos hlt
        have hbk : bk (s.data.toList.drop pos) = (s[pos], 98) :: bk (s.data.toList.drop (pos + 1)) := by rw [hd]; simp [bk, hb]
        rw [hbk]
        cases st with
        | none =>
          simp only [Option.map_none, grp]
          rw [if_pos trivial, ih (pos + 1) none acc (by omega) (by omega) (by simp)]; rfl
        | some a =>
          have := h3 a rfl
          simp only [Option.map_some, grp]
          rw [if_pos trivial, ih (pos + 1) none (acc ++ [(a, pos)]) (by omega) (by omega) (by simp)]
          simp [hext]
      · rw [hp, if_neg (by decide)]
        generalize (Utf8.decode s pos).2 = w at hw1 hw2 hx
        have e0 : s.data.toList.drop pos = (s.data.toList.drop pos).take w ++ s.data.toList.drop (pos + w) := by
          conv => lhs; rw [← List.take_append_drop w (s.data.toList.drop pos), List.drop_drop]
        have hbk : bk (s.data.toList.drop pos) = bk ((s.data.toList.drop pos).take w) ++ bk (s.data.toList.drop (pos + w)) := by
          conv => lhs; rw [e0, bk_app]
        cases st with
        | none =>
          simp only
          rw [ih (pos + w) (some pos) acc (by omega) (by omega) (by intro a ha; cases ha; omega)]
          have hstart : grp (bk (s.data.toList.drop pos)) none = grp (bk (s.data.toList.drop pos)) (some []) := by
            have hd := drop_cons s pos hlt
            have hm : (s[pos], if bl s[pos] = true then (98 : UInt8) else 112) ∈ bk ((s.data.toList.drop pos).take w) := by
              rw [hd]
              obtain ⟨v, rfl⟩ : ∃ v, w = v + 1 := ⟨w - 1, by omega⟩
              simp [bk]
            have hk := hx _ hm
            rw [hd]
            exact grp_start _ _ hk
          simp only [Option.map_none, Option.map_some]
          rw [hstart, hbk, grp_run _ _ _ hx, bk_fst, Nat.add_sub_cancel_left]; rfl
        | some a =>
          have ha := h3 a rfl
          simp only
          rw [ih (pos + w) (some a) acc (by omega) (by omega) (by intro a' ha'; cases ha'; omega)]
          simp only [Option.map_some]
          rw [hbk, grp_run _ _ _ hx, bk_fst]
          congr 4
          rw [show pos + w - a = (pos - a) + w by omega, List.take_add, List.drop_drop, show a + (pos - a) = pos by omega]
    · rw [Lib.spansFromP_end _ _ _ _ _ _ hlt]
      exact hend pos st acc (by omega)
theorem goFields_blank (s : ByteArray) : Lib.goFieldsP isB s = (fieldsL s.data.toList).map S := by
  unfold Lib.goFieldsP Lib.spansOfP
  rw [spans_fields s s.size 0 none [] (Nat.zero_le _) (by omega) (by simp)]
  rfl
end Go.Proofs.YtapfblaejmenlaaDoor.WP
