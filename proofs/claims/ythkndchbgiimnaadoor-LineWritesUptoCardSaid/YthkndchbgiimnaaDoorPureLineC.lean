/- Facts of lines that were read. -/
import Derived.Test.YthkndchbgiimnaaDoorPureLine
set_option linter.unusedVariables false
set_option linter.unusedSimpArgs false
namespace Go.Proofs.YthkndchbgiimnaaDoor.PureL
open Go.RowKit Go.Proofs.YthkndchbgiimnaaDoor.PL Go.Proofs.YthkndchbgiimnaaDoorW.PrintWords Go.Proofs.YthkndchbgiimnaaDoorW.PrintLast Go.Proofs.YthkndchbgiimnaaDoor.Ba

theorem bt_app (s : ByteArray) (p t : List UInt8) (c : UInt8) (h : s.data.toList = p ++ c :: t) : bt s (p.length : Int) = ((c.toNat : Nat) : Int) := by
  have hl := size_app s p (c :: t) h
  rw [List.length_cons] at hl
  have hlt : p.length < s.size := by omega
  rw [bt_get s p.length hlt, get_data]
  simp only [h]
  simp
theorem alive0 : bobstaylaw11_alive.f 40 = some true := by decide +kernel
theorem alive : ∀ k : Nat, bobstaylaw11_alive.f (40 + k) = some true
  | 0 => alive0
  | k + 1 => bobstaylaw11_alive.mono (40 + k) true (alive k)
theorem alive' (n : Nat) (h : 40 ≤ n) : bobstaylaw11_alive.f n = some true := by
  obtain ⟨k, rfl⟩ : ∃ k, n = 40 + k := ⟨n - 40, by omega⟩
  exact alive k
/-- what is known of lines that were read -/
theorem readS_ok (s : List UInt8) (o : List LP.Ln) (h : LP.readS s = some o) :
    (∀ x ∈ o, 0 < x.at_ ∧ x.t.all LP.bl = false ∧ (x.c = false → ∀ c, x.t.getLast? = some c → LP.bl c = false)) ∧ o.Pairwise (fun a b => a.at_ < b.at_) ∧ o.length ≤ 4096 := by
  unfold LP.readS at h
  split at h
  · cases h
  · split at h
    · injection h with h; subst h
      exact ⟨by simp, List.Pairwise.nil, by decide⟩
    · cases e : LP.readF (LP.splitL (LP.unend s)).length 0 (LP.splitL (LP.unend s)) with
      | none => rw [e] at h; cases h
      | some o' =>
        rw [e] at h
        simp only [] at h
        split at h
        · rename_i hl
          injection h with h; subst h
          have := LP.rise _ _ _ _ e
          exact ⟨this.1, this.2, hl⟩
        · cases h
theorem rd_at (o : List LP.Ln) (i : Nat) (h : i < o.length) : rd_T30 (o.map toS) (i : Int) = toS o[i] := by
  unfold rd_T30
  rw [Int.toNat_natCast, List.getD_eq_getElem?_getD, List.getElem?_map, List.getElem?_eq_getElem h]; rfl
theorem all_ne (t : List UInt8) (h : t.all LP.bl = false) : t ≠ [] := by rintro rfl; cases h
theorem sum_le (o : List LP.Ln) (x : LP.Ln) (h : x ∈ o) : x.t.length ≤ (o.map fun x => x.t.length + 1).sum := by
  induction o with
  | nil => cases h
  | cons y o ih =>
    rw [List.map_cons, List.sum_cons]
    rcases List.mem_cons.mp h with rfl | h
    · omega
    · have := ih h; omega
theorem readF_tot : ∀ (f k : Nat) (l : List (List UInt8)) (o : List LP.Ln), LP.readF f k l = some o → (o.map fun x => x.t.length + 1).sum ≤ tot l
  | 0, k, l, o, h => by
    simp only [LP.readF, Option.some.injEq] at h
    subst h; simp
  | f + 1, k, [], o, h => by
    simp only [LP.readF, Option.some.injEq] at h
    subst h; simp
  | f + 1, k, l :: r, o, h => by
    unfold LP.readF at h
    cases e : LP.gather (LP.isTab l) (LP.untab l) r with
    | none => rw [e] at h; cases h
    | some p =>
      obtain ⟨t, r'⟩ := p
      rw [e] at h
      simp only [] at h
      have hg := gather_len _ _ _ _ _ e
      have hu := untab_len l
      have htx := text_len (LP.isTab l) t
      cases e2 : LP.readF f (k + 1 + (r.length - r'.length)) r' with
      | none => rw [e2] at h; cases h
      | some o' =>
        rw [e2] at h
        simp only [] at h
        have ih := readF_tot f _ r' o' e2
        rw [tot_cons]
        by_cases hb : (LP.text (LP.isTab l) t).all LP.bl = true
        · rw [if_pos hb] at h
          injection h with h; subst h
          omega
        · rw [if_neg hb] at h
          injection h with h; subst h
          rw [List.map_cons, List.sum_cons]
          show (LP.text (LP.isTab l) t).length + 1 + _ ≤ _
          omega
theorem readS_tot (s : List UInt8) (o : List LP.Ln) (h : LP.readS s = some o) : (o.map fun x => x.t.length + 1).sum ≤ s.length + 1 := by
  unfold LP.readS at h
  split at h
  · cases h
  · split at h
    · injection h with h; subst h; simp
    · cases e : LP.readF (LP.splitL (LP.unend s)).length 0 (LP.splitL (LP.unend s)) with
      | none => rw [e] at h; cases h
      | some o' =>
        rw [e] at h
        simp only [] at h
        split at h
        · injection h with h; subst h
          have h1 := readF_tot _ _ _ _ e
          have h2 := tot_split (LP.unend s) []
          rw [List.length_nil] at h2
          have hul : (LP.unend s).length ≤ s.length := by
            unfold LP.unend
            split
            · rw [List.length_dropLast]; omega
            · exact Nat.le_refl _
          have h3 : tot (LP.splitL (LP.unend s)) = 0 + (LP.unend s).length + 1 := h2
          omega
        · cases h
theorem readF_at : ∀ (f k : Nat) (l : List (List UInt8)) (o : List LP.Ln), LP.readF f k l = some o → ∀ x ∈ o, x.at_ ≤ k + l.length
  | 0, k, l, o, h => by
    simp only [LP.readF, Option.some.injEq] at h
    subst h; simp
  | f + 1, k, [], o, h => by
    simp only [LP.readF, Option.some.injEq] at h
    subst h; simp
  | f + 1, k, l :: r, o, h => by
    unfold LP.readF at h
    cases e : LP.gather (LP.isTab l) (LP.untab l) r with
    | none => rw [e] at h; cases h
    | some p =>
      obtain ⟨t, r'⟩ := p
      rw [e] at h
      simp only [] at h
      have hg := LP.gather_le _ _ _ _ _ e
      cases e2 : LP.readF f (k + 1 + (r.length - r'.length)) r' with
      | none => rw [e2] at h; cases h
      | some o' =>
        rw [e2] at h
        simp only [] at h
        have ih := readF_at f _ r' o' e2
        intro x hx
        rw [List.length_cons]
        by_cases hb : (LP.text (LP.isTab l) t).all LP.bl = true
        · rw [if_pos hb] at h
          injection h with h; subst h
          have := ih x hx; omega
        · rw [if_neg hb] at h
          injection h with h; subst h
          rcases List.mem_cons.mp hx with rfl | hx
          · show k + 1 ≤ _; omega
          · have := ih x hx; omega
theorem readS_at (s : List UInt8) (o : List LP.Ln) (h : LP.readS s = some o) : ∀ x ∈ o, x.at_ ≤ s.length + 1 := by
  unfold LP.readS at h
  split at h
  · cases h
  · split at h
    · injection h with h; subst h; simp
    · cases e : LP.readF (LP.splitL (LP.unend s)).length 0 (LP.splitL (LP.unend s)) with
      | none => rw [e] at h; cases h
      | some o' =>
        rw [e] at h
        simp only [] at h
        split at h
        · injection h with h; subst h
          have h1 := readF_at _ _ _ _ e
          have h2 := LP.splitA_len (LP.unend s) []
          have hcl : (LP.unend s).count 10 ≤ (LP.unend s).length := List.count_le_length
          have hul : (LP.unend s).length ≤ s.length := by
            unfold LP.unend
            split
            · rw [List.length_dropLast]; omega
            · exact Nat.le_refl _
          intro x hx
          have := h1 x hx
          have h3 : (LP.splitL (LP.unend s)).length = (LP.unend s).count 10 + 1 := h2
          omega
        · cases h
end Go.Proofs.YthkndchbgiimnaaDoor.PureL
