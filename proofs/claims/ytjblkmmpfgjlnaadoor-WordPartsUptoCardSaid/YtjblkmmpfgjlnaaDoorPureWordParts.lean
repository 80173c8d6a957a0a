/- Fields of joined fields are they; a text without quotes and strokes has its fields as words. -/
import Derived.Test.YtjblkmmpfgjlnaaDoorPQx23
import Derived.Test.YtjblkmmpfgjlnaaDoorWordU
import Derived.Test.YtjblkmmpfgjlnaaDoorFieldP
set_option linter.unusedVariables false
set_option linter.unusedSimpArgs false
namespace Go.Proofs.YtjblkmmpfgjlnaaDoor.WP
open Go Ba
/-- a field: not empty, without blanks -/
def Fld (w : List UInt8) : Prop := w ≠ [] ∧ ∀ x ∈ bk w, x.2 ≠ 98
theorem grp_flds : ∀ (l : List UInt8), (∀ w ∈ grp (bk l) none, Fld w) ∧ (∀ w0 : List UInt8, Fld w0 → ∀ w ∈ grp (bk l) (some w0), Fld w)
  | [] => by
    refine ⟨fun w hw => by simp [bk, grp] at hw, fun w0 h0 w hw => ?_⟩
    simp only [bk, List.map_nil, grp, List.mem_singleton] at hw
    subst hw; exact h0
  | c :: l => by
    obtain ⟨i1, i2⟩ := grp_flds l
    have e : bk (c :: l) = (c, if bl c = true then 98 else 112) :: bk l := rfl
    rw [e]
    constructor
    · intro w hw
      simp only [grp] at hw
      by_cases hk : (if bl c = true then (98 : UInt8) else 112) = 98
      · rw [if_pos hk] at hw; exact i1 w hw
      · rw [if_neg hk] at hw
        refine i2 [c] ⟨by simp, ?_⟩ w hw
        intro x hx
        simp only [bk, List.map_cons, List.map_nil, List.mem_singleton] at hx
        rw [hx]; exact hk
    · intro w0 h0 w hw
      simp only [grp] at hw
      by_cases hk : (if bl c = true then (98 : UInt8) else 112) = 98
      · rw [if_pos hk] at hw
        rcases List.mem_cons.mp hw with rfl | hw
        · exact h0
        · exact i1 w hw
      · rw [if_neg hk] at hw
        refine i2 (w0 ++ [c]) ⟨by simp, ?_⟩ w hw
        intro x hx
        rw [bk_app] at hx
        rcases List.mem_append.mp hx with hx | hx
        · exact h0.2 x hx
        · simp only [bk, List.map_cons, List.map_nil, List.mem_singleton] at hx
          rw [hx]; exact hk
theorem fld_grp {w : List UInt8} (h : Fld w) (b : List (UInt8 × UInt8)) : grp (bk w ++ b) none = grp b (some w) := by
  obtain ⟨h1, h3⟩ := h
  cases w with
  | nil => exact absurd rfl h1
  | cons c l =>
    have hf : bk (c :: l) = (c, if bl c = true then (98 : UInt8) else 112) :: bk l := rfl
    have hx : (c, if bl c = true then (98 : UInt8) else 112).2 ≠ 98 := h3 _ (by rw [hf]; exact List.mem_cons_self ..)
    have e : grp (bk (c :: l) ++ b) none = grp (bk (c :: l) ++ b) (some []) := by
      rw [hf, List.cons_append]; exact grp_start _ _ hx
    rw [e, grp_run _ _ _ h3, bk_fst]; rfl
theorem tails_fld : ∀ (ws : List (List UInt8)) (w0 : List UInt8), (∀ w ∈ ws, Fld w) → grp (bk (tails ws)) (some w0) = w0 :: ws
  | [], w0, _ => rfl
  | w :: ws, w0, h => by
    have hw := h w (List.mem_cons_self ..)
    have ih := tails_fld ws w fun x hx => h x (List.mem_cons_of_mem _ hx)
    have e : bk (tails (w :: ws)) = (32, 98) :: (bk w ++ bk (tails ws)) := by rw [tails_cons, ← bk_app]; rfl
    rw [e]
    simp only [grp]
    rw [if_pos trivial, fld_grp hw, ih]
theorem join_flds (ws : List (List UInt8)) (h : ∀ w ∈ ws, Fld w) : fieldsL (joinL (ws.map S) []) = ws := by
  cases ws with
  | nil => rfl
  | cons w ws =>
    have hw := h w (List.mem_cons_self ..)
    have hr : ∀ x ∈ ws, Fld x := fun x hx => h x (List.mem_cons_of_mem _ hx)
    have e : joinL ((w :: ws).map S) [] = w ++ tails ws := by
      have e1 : joinL ((w :: ws).map S) [] = joinL (ws.map S) w := by
        simp only [List.map_cons, joinL, data_S, hw.1, if_false, if_true]
      rw [e1, join_tails ws w hw.1 fun x hx => (hr x hx).1]
    unfold fieldsL
    rw [e, bk_app, fld_grp hw, tails_fld ws w hr]
/-- without quotes and strokes -/
theorem plain_prs : ∀ l : List UInt8, (∀ c ∈ l, c ≠ 39 ∧ c ≠ 34 ∧ c ≠ 92) → prs 0 false l = bk l ∧ fin 0 false l = (0, false)
  | [], _ => ⟨rfl, rfl⟩
  | c :: l, h => by
    obtain ⟨h1, h2, h3⟩ := h c (List.mem_cons_self ..)
    obtain ⟨i1, i2⟩ := plain_prs l fun x hx => h x (List.mem_cons_of_mem _ hx)
    by_cases hb : bl c = true
    · have e := kst_bl c hb
      simp only [prs, fin, e, i1, i2]
      exact ⟨by simp [bk, hb], trivial⟩
    · have hb' : ¬ (c = 32 ∨ c = 9) := by simpa [bl] using hb
      have e : kst 0 false c = (112, 0, false) := by simp [kst, h1, h2, h3, hb']
      simp only [prs, fin, e, i1, i2]
      exact ⟨by simp [bk, hb], trivial⟩
end Go.Proofs.YtjblkmmpfgjlnaaDoor.WP
namespace Go.Proofs.YtjblkmmpfgjlnaaDoor.Pure
open Go.RowKit Go.Proofs.YtjblkmmpfgjlnaaDoor.PQ Go.Proofs.YtjblkmmpfgjlnaaDoorW.PrintWords Go.Proofs.YtjblkmmpfgjlnaaDoorW.PrintLast Go.Proofs.YtjblkmmpfgjlnaaDoor.Ba
theorem same_rbig (l : List ByteArray) (hl : l.length ≤ 100000000) : ∀ (n i : Nat), i ≤ l.length → l.length - i < n → bobstayref01_Same.l0 n l l (i : Int) = some true
  | 0, _, _, h => by omega
  | n + 1, i, hi, hn => by
    unfold bobstayref01_Same.l0
    by_cases hlt : i < l.length
    · rw [if_pos (by omega), if_pos (by omega), if_pos (by omega), if_pos rfl, w64 (by omega) (by omega), show ((i : Int) + 1) = ((i + 1 : Nat) : Int) by omega]
      exact same_rbig l hl n (i + 1) (by omega) (by omega)
    · rw [if_neg (by omega)]
theorem same_big (l : List ByteArray) (hl : l.length ≤ 100000000) (n : Nat) (hn : l.length < n) : bobstayref01_Same.f n l l = some true := by
  unfold bobstayref01_Same.f
  rw [if_pos rfl]
  exact same_rbig l hl n 0 (by omega) (by omega)
theorem fields_f (s : ByteArray) (hs : s.size ≤ 1000000000) : word_Fields.f s = some ((WP.fieldsL s.data.toList).map S) := by
  unfold word_Fields.f; rw [if_pos hs]
theorem parts_l0 (s : ByteArray) (hs : s.size ≤ 1048576) (hfl : (WP.fieldsL s.data.toList).length ≤ 3000000) :
    ∀ (n i : Nat), i ≤ s.size → s.size - i + 7000000 < n → (∀ c ∈ s.data.toList.take i, c ≠ 39 ∧ c ≠ 34 ∧ c ≠ 92) → bobstaylaw04_WordParts.l0 n s ((WP.fieldsL s.data.toList).map S) (i : Int) = some true
  | 0, _, _, h, _ => by omega
  | n + 1, i, hi, hn, hp => by
    have hal : bobstaylaw04_alive.f n = some true := by
      obtain ⟨m, rfl⟩ : ∃ m, n = 40 + m := ⟨n - 40, by omega⟩
      exact alive m
    unfold bobstaylaw04_WordParts.l0
    by_cases hlt : i < s.size
    · obtain ⟨c, hc⟩ : ∃ c, s[i]'hlt = c := ⟨_, rfl⟩
      rw [if_pos (by omega), if_pos (by omega), bt_get s i hlt, hc, w64 (by omega) (by omega), hal]
      simp only [ue39, ue34, ue92, Option.bind_some]
      by_cases h1 : c = 39
      · rw [if_pos h1]
      · rw [if_neg h1]
        by_cases h2 : c = 34
        · rw [if_pos h2]
        · rw [if_neg h2]
          by_cases h3 : c = 92
          · rw [if_pos h3]
          · rw [if_neg h3, show ((i : Int) + 1) = ((i + 1 : Nat) : Int) by omega]
            refine parts_l0 s hs hfl n (i + 1) (by omega) (by omega) fun x hx => ?_
            rw [take_snoc s i hlt, hc] at hx
            rcases List.mem_append.mp hx with hx | hx
            · exact hp x hx
            · rw [List.mem_singleton] at hx; rw [hx]; exact ⟨h1, h2, h3⟩
    · rw [List.take_of_length_le (by rw [← size_len]; omega)] at hp
      obtain ⟨e1, e2⟩ := WP.plain_prs _ hp
      have ho : OP s = false := by unfold OP; rw [e2]; rfl
      have hg : WP.grp (PR s) none = WP.fieldsL s.data.toList := by unfold PR; rw [e1]; rfl
      have hml : ((WP.fieldsL s.data.toList).map S).length = (WP.fieldsL s.data.toList).length := List.length_map ..
      rw [if_neg (by omega), wsplit_f s (by omega) n (by omega), Option.bind_some, ho, hg, if_neg (show ¬ (false = true) from by decide), hal]
      by_cases hbig : (((WP.fieldsL s.data.toList).map S).length : Int) > 4096
      · have e : FN ((WP.fieldsL s.data.toList).map S) = ([], 5) := by unfold FN; rw [if_pos hbig]
        rw [e, if_neg (by decide), if_pos rfl, if_pos hbig]; rfl
      · have e : FN ((WP.fieldsL s.data.toList).map S) = ((WP.fieldsL s.data.toList).map S, 0) := by unfold FN; rw [if_neg hbig]
        rw [e, if_pos rfl, same_big ((WP.fieldsL s.data.toList).map S) (by omega) n (by omega), Option.bind_some, if_pos rfl]; rfl
theorem WordParts (s : ByteArray) (hs : s.size ≤ 1048576) : ∃ k, bobstaylaw04_WordParts.f k s = some true := by
  obtain ⟨ws, hws⟩ : ∃ ws, WP.fieldsL s.data.toList = ws := ⟨_, rfl⟩
  have hf : ∀ w ∈ ws, WP.Fld w := by rw [← hws]; exact (WP.grp_flds s.data.toList).1
  have htot : WP.tot (ws.map S) ≤ 2 * s.size := by
    have := (WP.tot_grp (WP.bk s.data.toList)).1
    have e : (WP.bk s.data.toList).length = s.size := by rw [size_len]; simp [WP.bk]
    rw [e] at this
    rw [← hws]; exact this
  have hll : ∀ l : List ByteArray, l.length ≤ WP.tot l := by
    intro l
    induction l with
    | nil => simp [WP.tot]
    | cons s l ih => rw [WP.tot_cons, List.length_cons]; omega
  have hlen : ws.length ≤ 2 * s.size := by
    have := hll (ws.map S)
    rw [List.length_map] at this; omega
  have hml : (ws.map S).length = ws.length := List.length_map ..
  obtain ⟨y, hy⟩ : ∃ y, S (WP.joinL (ws.map S) []) = y := ⟨_, rfl⟩
  have hyd : y.data.toList = WP.joinL (ws.map S) [] := by rw [← hy, data_S]
  have hyl := WP.joinL_len (ws.map S) []
  rw [← hyd, ← size_len, List.length_nil] at hyl
  have hj : word_Join.f (ws.map S) = some y := by unfold word_Join.f; rw [if_pos (by omega), hy]
  refine ⟨10000000 + s.size, ?_⟩
  unfold bobstaylaw04_WordParts.f
  rw [fields_f s (by omega), Option.bind_some, hws, hj, Option.bind_some, fields_f y (by omega), Option.bind_some, hyd, WP.join_flds ws hf, same_big _ (by omega) _ (by omega), Option.bind_some, if_pos rfl]
  have := parts_l0 s hs (by rw [hws]; omega) (10000000 + s.size) 0 (by omega) (by omega) (by simp)
  rw [hws] at this
  exact this
theorem WordPartsWalk (W : World) (s : ByteArray) (_ : s.size ≤ 140737488351232) (hs : s.size + 1 ≤ 1048576) :
    Calls Tryd.prog 7 #[.string s] W fun e w' => e = .returned (.bool true) ∧ Below W.heap.size W w' := by
  obtain ⟨k, hk⟩ := WordParts s (by omega)
  exact bobstaylaw04_WordParts.calls k s true W hk
end Go.Proofs.YtjblkmmpfgjlnaaDoor.Pure
