/- The kinds of a text's bytes, the words by them, and the spans: plain Lean. -/
import Derived.Test.YtapfblaejmenlaaDoorWordP2
set_option linter.unusedVariables false
set_option linter.unusedSimpArgs false
namespace Go.Proofs.YtapfblaejmenlaaDoor.WP
open Go Ba

/-- what a byte is, and the state behind it -/
def kst (q : UInt8) (tk : Bool) (c : UInt8) : UInt8 × UInt8 × Bool :=
  if tk = true then (112, q, false)
  else if c = 92 ∧ q ≠ 39 then (115, q, true)
  else if q ≠ 0 ∧ c = q then (113, 0, false)
  else if q = 0 ∧ (c = 39 ∨ c = 34) then (113, c, false)
  else if q = 0 ∧ (c = 32 ∨ c = 9) then (98, q, false)
  else (112, q, false)
def prs (q : UInt8) (tk : Bool) : List UInt8 → List (UInt8 × UInt8)
  | [] => []
  | c :: l => (c, (kst q tk c).1) :: prs (kst q tk c).2.1 (kst q tk c).2.2 l
def fin (q : UInt8) (tk : Bool) : List UInt8 → UInt8 × Bool
  | [] => (q, tk)
  | c :: l => fin (kst q tk c).2.1 (kst q tk c).2.2 l
def isOpen (s : UInt8 × Bool) : Bool := s.1 != 0 || s.2
def sel (l : List (UInt8 × UInt8)) : List UInt8 := (l.filter fun x => x.2 == 112 || x.2 == 98).map (·.1)
def grp : List (UInt8 × UInt8) → Option (List UInt8) → List (List UInt8)
  | [], none => []
  | [], some w => [w]
  | x :: l, none => if x.2 = 98 then grp l none else grp l (some [x.1])
  | x :: l, some w => if x.2 = 98 then w :: grp l none else grp l (some (w ++ [x.1]))

theorem prs_append (q : UInt8) (tk : Bool) : ∀ a b : List UInt8, prs q tk (a ++ b) = prs q tk a ++ prs (fin q tk a).1 (fin q tk a).2 b
  | [], b => rfl
  | c :: a, b => by
    simp only [List.cons_append, prs, fin]
    rw [prs_append _ _ a b]
theorem fin_append (q : UInt8) (tk : Bool) : ∀ a b : List UInt8, fin q tk (a ++ b) = fin (fin q tk a).1 (fin q tk a).2 b
  | [], b => rfl
  | c :: a, b => by
    simp only [List.cons_append, fin]
    rw [fin_append _ _ a b]
theorem prs_fst (q : UInt8) (tk : Bool) : ∀ l : List UInt8, (prs q tk l).map (·.1) = l
  | [] => rfl
  | c :: l => by simp only [prs, List.map_cons]; rw [prs_fst _ _ l]
theorem prs_len (q : UInt8) (tk : Bool) (l : List UInt8) : (prs q tk l).length = l.length := by
  have := congrArg List.length (prs_fst q tk l); simpa using this
theorem sel_append (a b : List (UInt8 × UInt8)) : sel (a ++ b) = sel a ++ sel b := by simp [sel]

/-- within single quotes -/
theorem in39 : ∀ l : List UInt8, (∀ x ∈ l, x ≠ 39) → fin 39 false l = (39, false) ∧ prs 39 false l = l.map fun c => (c, 112)
  | [], _ => ⟨rfl, rfl⟩
  | c :: l, h => by
    have hc := h c (List.mem_cons_self ..)
    have ih := in39 l fun x hx => h x (List.mem_cons_of_mem _ hx)
    have e : kst 39 false c = (112, 39, false) := by simp [kst, hc]
    simp only [fin, prs, e, ih.1, ih.2, List.map_cons, and_self]
theorem idx_none : ∀ l : List UInt8, Lib.indexByte l 39 < 0 → ∀ x ∈ l, x ≠ 39
  | [], _ => by simp
  | a :: l, h => by
    unfold Lib.indexByte at h
    have hge := ib_ge l 39
    split at h
    · omega
    · rename_i hne
      split at h
      · rename_i h1
        have h1' : Lib.indexByte l 39 = -1 := by simpa using h1
        intro x hx
        rcases List.mem_cons.mp hx with rfl | hx
        · simpa using hne
        · exact idx_none l (by omega) x hx
      · rename_i h1
        have h1' : Lib.indexByte l 39 ≠ -1 := by simpa using h1
        omega
theorem idx_some : ∀ (l : List UInt8) (n : Nat), Lib.indexByte l 39 = n → (∀ x ∈ l.take n, x ≠ 39) ∧ ∃ r, l.drop n = 39 :: r
  | [], n, h => by simp [Lib.indexByte] at h
  | a :: l, n, h => by
    unfold Lib.indexByte at h
    have hge := ib_ge l 39
    split at h
    · rename_i ha
      obtain rfl : n = 0 := by omega
      have : a = 39 := by simpa using ha
      subst this
      exact ⟨by simp, l, rfl⟩
    · rename_i hne
      split at h
      · omega
      · rename_i h1
        have h1' : Lib.indexByte l 39 ≠ -1 := by simpa using h1
        obtain ⟨m, rfl⟩ : ∃ m, n = m + 1 := ⟨n - 1, by omega⟩
        obtain ⟨h1, r, h2⟩ := idx_some l m (by omega)
        refine ⟨fun x hx => ?_, r, h2⟩
        rw [List.take_succ_cons] at hx
        rcases List.mem_cons.mp hx with rfl | hx
        · simpa using hne
        · exact h1 x hx

/-- within double quotes -/
theorem dq_kinds : ∀ (l acc : List UInt8) (i : Nat), match dq l acc i with
    | none => isOpen (fin 34 false l) = true
    | some (k, m) => fin 34 false (l.take (k - i)) = (0, false) ∧ (∀ x ∈ prs 34 false (l.take (k - i)), x.2 ≠ 98) ∧ m = acc ++ sel (prs 34 false (l.take (k - i)))
  | [], acc, i => by simp [dq, fin, isOpen]
  | [c], acc, i => by
    by_cases h : c = 34
    · subst h; simp [dq, fin, prs, kst, sel]
    · by_cases h2 : c = 92
      · subst h2; simp [dq, fin, kst, isOpen]
      · simp [dq, h, fin, kst, h2, isOpen]
  | c :: x :: r, acc, i => by
    by_cases h : c = 34
    · subst h
      have e : i + 1 - i = 1 := by omega
      simp [dq, e, fin, prs, kst, sel]
    · by_cases h2 : c = 92
      · subst h2
        have ih := dq_kinds r (acc ++ [x]) (i + 2)
        have e : dq (92 :: x :: r) acc i = dq r (acc ++ [x]) (i + 2) := by simp [dq]
        rw [e]
        cases hd : dq r (acc ++ [x]) (i + 2) with
        | none => rw [hd] at ih; simpa [fin, kst] using ih
        | some km =>
          obtain ⟨k, m⟩ := km
          rw [hd] at ih
          have hb := dq_bd r _ _ _ _ hd
          obtain ⟨i1, i2, i3⟩ := ih
          have ek : k - i = (k - (i + 2)) + 2 := by omega
          refine ⟨?_, ?_, ?_⟩
          · rw [ek]; simpa [fin, kst] using i1
          · rw [ek]; intro y hy
            simp only [List.take_succ_cons, prs, kst] at hy
            simp at hy
            rcases hy with rfl | rfl | hy
            · simp
            · simp
            · exact i2 y hy
          · rw [ek, i3]; simp [prs, kst, sel]
      · have ih := dq_kinds (x :: r) (acc ++ [c]) (i + 1)
        have e : dq (c :: x :: r) acc i = dq (x :: r) (acc ++ [c]) (i + 1) := by simp [dq, h, h2]
        have ek0 : kst 34 false c = (112, 34, false) := by simp [kst, h, h2]
        rw [e]
        cases hd : dq (x :: r) (acc ++ [c]) (i + 1) with
        | none => rw [hd] at ih; simp only [fin, ek0]; simpa [fin] using ih
        | some km =>
          obtain ⟨k, m⟩ := km
          rw [hd] at ih
          have hb := dq_bd (x :: r) _ _ _ _ hd
          obtain ⟨i1, i2, i3⟩ := ih
          have ek : k - i = (k - (i + 1)) + 1 := by omega
          refine ⟨?_, ?_, ?_⟩
          · rw [ek, List.take_succ_cons]; simp only [fin, ek0]; exact i1
          · rw [ek, List.take_succ_cons]; intro y hy
            simp only [prs, ek0] at hy
            rcases List.mem_cons.mp hy with rfl | hy
            · simp
            · exact i2 y hy
          · rw [ek, List.take_succ_cons, i3]; simp [prs, ek0, sel]

/-- a span: the state behind it is the first one; its bytes are no blanks that part, if it begins with none; what it means -/
theorem span_kinds (c : UInt8) (r : List UInt8) : match spanL (c :: r) with
    | none => isOpen (fin 0 false (c :: r)) = true
    | some (k, m) => fin 0 false ((c :: r).take k) = (0, false) ∧ (¬ (c = 32 ∨ c = 9) → ∀ x ∈ prs 0 false ((c :: r).take k), x.2 ≠ 98) ∧ m = sel (prs 0 false ((c :: r).take k)) := by
  by_cases h1 : c = 92
  · subst h1
    cases r with
    | nil => simp [spanL, fin, kst, isOpen]
    | cons x r => simp [spanL, fin, prs, kst, sel]
  · by_cases h2 : c = 39
    · subst h2
      have e : spanL (39 :: r) = if Lib.indexByte r 39 < 0 then none else some ((Lib.indexByte r 39).toNat + 2, r.take (Lib.indexByte r 39).toNat) := by simp [spanL]
      rw [e]
      by_cases hn : Lib.indexByte r 39 < 0
      · rw [if_pos hn]
        have := (in39 r (idx_none r hn)).1
        simp only [fin]
        rw [show kst 0 false 39 = (113, 39, false) by simp [kst]]
        simp only [this]; rfl
      · rw [if_neg hn]
        obtain ⟨n, hn'⟩ : ∃ n : Nat, Lib.indexByte r 39 = n := ⟨(Lib.indexByte r 39).toNat, by omega⟩
        obtain ⟨a1, r', a2⟩ := idx_some r n hn'
        obtain ⟨b1, b2⟩ := in39 _ a1
        have ht : (39 :: r).take (n + 2) = 39 :: (r.take n ++ [39]) := by
          rw [List.take_succ_cons]
          congr 1
          conv => lhs; rw [← List.take_append_drop n r]
          have hl : (r.take n).length = n := by
            have := congrArg List.length a2
            rw [List.length_drop, List.length_cons] at this
            rw [List.length_take]; omega
          rw [List.take_append, hl, a2, List.take_of_length_le (by omega), show n + 1 - n = 1 by omega]; rfl
        simp only [hn', Int.toNat_natCast, ht]
        have ek : kst 0 false 39 = (113, 39, false) := by simp [kst]
        have ek2 : kst 39 false 39 = (113, 0, false) := by simp [kst]
        refine ⟨?_, ?_, ?_⟩
        · simp only [fin, ek]; rw [fin_append, b1]; simp only [fin, ek2]
        · intro _ x hx
          simp only [prs, ek] at hx
          rw [prs_append, b1, b2] at hx
          simp only [prs, ek2] at hx
          rcases List.mem_cons.mp hx with rfl | hx
          · simp
          · rcases List.mem_append.mp hx with hx | hx
            · obtain ⟨a, _, rfl⟩ := List.mem_map.mp hx
              simp
            · rw [List.mem_singleton] at hx
              rw [hx]; simp
        · simp only [prs, ek]
          rw [prs_append, b1, b2]
          simp only [prs, ek2]
          have hmap : ∀ l : List UInt8, sel (l.map fun c => (c, (112 : UInt8))) = l := by
            intro l
            induction l with
            | nil => rfl
            | cons a l ih => simp only [List.map_cons]; rw [show (a, (112 : UInt8)) :: l.map (fun c => (c, (112 : UInt8))) = [(a, 112)] ++ l.map (fun c => (c, (112 : UInt8))) from rfl, sel_append, ih]; rfl
          rw [show (39, (113 : UInt8)) :: ((r.take n).map (fun c => (c, (112 : UInt8))) ++ [(39, 113)]) = [(39, 113)] ++ ((r.take n).map (fun c => (c, (112 : UInt8))) ++ [(39, 113)]) from rfl, sel_append, sel_append, hmap]
          simp [sel]
    · by_cases h3 : c = 34
      · subst h3
        have e : spanL (34 :: r) = dq r [] 1 := by simp [spanL]
        rw [e]
        have hk := dq_kinds r [] 1
        have ek : kst 0 false 34 = (113, 34, false) := by simp [kst]
        cases hd : dq r [] 1 with
        | none => rw [hd] at hk; simp only [fin, ek]; exact hk
        | some km =>
          obtain ⟨k, m⟩ := km
          rw [hd] at hk
          have hb := dq_bd r _ _ _ _ hd
          obtain ⟨i1, i2, i3⟩ := hk
          have ek2 : k = (k - 1) + 1 := by omega
          refine ⟨?_, ?_, ?_⟩
          · rw [ek2, List.take_succ_cons]; simp only [fin, ek]; exact i1
          · intro _ x hx
            rw [ek2, List.take_succ_cons] at hx
            simp only [prs, ek] at hx
            rcases List.mem_cons.mp hx with rfl | hx
            · simp
            · exact i2 x hx
          · rw [ek2, List.take_succ_cons, i3]; simp [prs, ek, sel]
      · have e : spanL (c :: r) = some (1, [c]) := by simp [spanL, h1, h2, h3]
        rw [e]
        by_cases hb : c = 32 ∨ c = 9
        · have ek : kst 0 false c = (98, 0, false) := by simp [kst, h1, h2, h3, hb]
          simp [fin, prs, ek, sel, hb]
        · have ek : kst 0 false c = (112, 0, false) := by simp [kst, h1, h2, h3, hb]
          simp [fin, prs, ek, sel, hb]

/-- MEAN: what the spans mean is what the kinds say -/
theorem mean_kinds : ∀ (n : Nat) (l : List UInt8), l.length < n → meanL l = if isOpen (fin 0 false l) = true then none else some (sel (prs 0 false l))
  | 0, _, h => by omega
  | n + 1, [], _ => by rw [mean_nil]; rfl
  | n + 1, c :: r, h => by
    have hk := span_kinds c r
    cases hs : spanL (c :: r) with
    | none => rw [hs] at hk; rw [mean_no _ (by simp) hs, if_pos hk]
    | some km =>
      obtain ⟨k, m⟩ := km
      rw [hs] at hk
      obtain ⟨k1, k2, k3⟩ := hk
      obtain ⟨b1, b2, b3⟩ := span_bd _ _ _ hs
      have ih := mean_kinds n ((c :: r).drop k) (by rw [List.length_drop]; omega)
      have e1 : fin 0 false (c :: r) = fin 0 false ((c :: r).drop k) := by
        conv => lhs; rw [← List.take_append_drop k (c :: r)]
        rw [fin_append, k1]
      have e2 : prs 0 false (c :: r) = prs 0 false ((c :: r).take k) ++ prs 0 false ((c :: r).drop k) := by
        conv => lhs; rw [← List.take_append_drop k (c :: r)]
        rw [prs_append, k1]
      rw [mean_yes _ k m hs, ih, e1, e2, sel_append, ← k3]
      split <;> rfl
end Go.Proofs.YtapfblaejmenlaaDoor.WP
