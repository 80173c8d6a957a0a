/- The words, joined, have the same words. -/
import Derived.Test.YtjblkmmpfgjlnaaDoorPQx20
import Derived.Test.YtjblkmmpfgjlnaaDoorWordU
set_option linter.unusedVariables false
set_option linter.unusedSimpArgs false
namespace Go.Proofs.YtjblkmmpfgjlnaaDoor.Pure
open Go.RowKit Go.Proofs.YtjblkmmpfgjlnaaDoor.PQ Go.Proofs.YtjblkmmpfgjlnaaDoorW.PrintWords Go.Proofs.YtjblkmmpfgjlnaaDoorW.PrintLast Go.Proofs.YtjblkmmpfgjlnaaDoor.Ba
theorem wsplit_one (w : List UInt8) (h : WP.One w) (hw : w.length ≤ 20000000) (n : Nat) (hn : 3 * w.length + 1 < n) : word_Split.f n (S w) = some ([S w], 0) := by
  have z := size_S w
  rw [wsplit_f (S w) (by omega) n (by omega)]
  have h1 : OP (S w) = false := by unfold OP; rw [data_S, h.open]
  have h2 : WP.grp (PR (S w)) none = [w] := by unfold PR; rw [data_S, WP.grp_alone h]
  rw [h1, h2]; rfl
theorem again_l0 (ws : List (List UInt8)) (B : Nat) (hB : B ≤ 1048576) (hl : ws.length ≤ 4096) (ho : ∀ w ∈ ws, WP.One w) (hw : ∀ w ∈ ws, w.length ≤ B) :
    ∀ (n i : Nat), i ≤ ws.length → ws.length - i + 3 * B + 5000 < n → bobstaylaw04_WordAgain.l0 n (ws.map S) (ws.map S) 0 (ws.map S) (((ws.map S).length : Nat) : Int) (i : Int) = some true
  | 0, _, _, h => by omega
  | n + 1, i, hi, hn => by
    have hml : (ws.map S).length = ws.length := List.length_map ..
    unfold bobstaylaw04_WordAgain.l0
    by_cases hlt : i < ws.length
    · have hm : ws[i] ∈ ws := List.getElem_mem hlt
      have hr : rdOf ByteArray.empty (ws.map S) (i : Int) = S ws[i] := by
        unfold rdOf; simp [List.getD_eq_getElem?_getD, hlt]
      have r0 : rdOf ByteArray.empty [S ws[i]] 0 = S ws[i] := rfl
      have hwi := hw _ hm
      rw [if_pos (by omega), if_pos (by omega), if_pos (by omega), hr, wsplit_one _ (ho _ hm) (by omega) n (by omega), Option.bind_some]
      rw [if_pos rfl, if_pos (show ((([S ws[i]], (0 : Int)).fst.length : Nat) : Int) = 1 from rfl), if_pos (show (0 : Int) < ((([S ws[i]], (0 : Int)).fst.length : Nat) : Int) from (by decide : (0 : Int) < 1)), r0, if_pos rfl, w64 (by omega) (by omega), show ((i : Int) + 1) = ((i + 1 : Nat) : Int) by omega]
      exact again_l0 ws B hB hl ho hw n (i + 1) (by omega) (by omega)
    · obtain ⟨m, rfl⟩ : ∃ m, n = 40 + m := ⟨n - 40, by omega⟩
      rw [if_neg (by omega), if_pos rfl, same_f _ (by omega) _ (by omega), Option.bind_some, if_pos rfl, alive]; rfl
theorem grp_lens : ∀ (l : List (UInt8 × UInt8)), (∀ w ∈ WP.grp l none, w.length ≤ l.length) ∧ ∀ w0 : List UInt8, ∀ w ∈ WP.grp l (some w0), w.length ≤ l.length + w0.length
  | [] => ⟨fun w hw => by simp [WP.grp] at hw, fun w0 w hw => by simp only [WP.grp, List.mem_singleton] at hw; subst hw; simp⟩
  | x :: l => by
    obtain ⟨i1, i2⟩ := grp_lens l
    constructor
    · intro w hw
      simp only [WP.grp] at hw
      split at hw
      · have := i1 w hw; simp only [List.length_cons]; omega
      · have := i2 _ w hw; simp only [List.length_cons, List.length_nil] at this ⊢; omega
    · intro w0 w hw
      simp only [WP.grp] at hw
      split at hw
      · rcases List.mem_cons.mp hw with rfl | hw
        · simp only [List.length_cons]; omega
        · have := i1 w hw; simp only [List.length_cons]; omega
      · have := i2 _ w hw; simp only [List.length_cons, List.length_append, List.length_nil] at this ⊢; omega
theorem WordAgain (s : ByteArray) (hs : s.size ≤ 1048576) : ∃ k, bobstaylaw04_WordAgain.f k s = some true := by
  refine ⟨40 + (20 * s.size + 20000), ?_⟩
  unfold bobstaylaw04_WordAgain.f
  rw [wsplit_f s (by omega) _ (by omega), Option.bind_some]
  by_cases h : OP s = true
  · rw [if_pos h, if_neg (by decide), if_pos (show (((([] : List ByteArray), (4 : Int)).fst.length : Nat) : Int) = 0 from rfl), alive]; rfl
  · rw [if_neg h]
    have h' : OP s = false := by simpa using h
    obtain ⟨ws, hws⟩ : ∃ ws, WP.grp (PR s) none = ws := ⟨_, rfl⟩
    have ho : ∀ w ∈ ws, WP.One w := by rw [← hws]; exact (WP.grp_ones s.data.toList).1 h'
    have hlen : ∀ w ∈ ws, w.length ≤ s.size := by
      intro w hw
      have := (grp_lens (PR s)).1 w (by rw [hws]; exact hw)
      rwa [pr_len] at this
    have htot : WP.tot (ws.map S) ≤ 2 * s.size := by
      have := (WP.tot_grp (PR s)).1
      rwa [hws, pr_len] at this
    rw [hws]
    have hml : (ws.map S).length = ws.length := List.length_map ..
    by_cases hbig : ((ws.map S).length : Int) > 4096
    · have e : FN (ws.map S) = ([], 5) := by unfold FN; rw [if_pos hbig]
      rw [e, if_neg (by decide), if_pos (show (((([] : List ByteArray), (5 : Int)).fst.length : Nat) : Int) = 0 from rfl), alive]; rfl
    · have e : FN (ws.map S) = (ws.map S, 0) := by unfold FN; rw [if_neg hbig]
      obtain ⟨j1, j2⟩ := WP.join_words ws ho
      obtain ⟨y, hy⟩ : ∃ y, S (WP.joinL (ws.map S) []) = y := ⟨_, rfl⟩
      have hyd : y.data.toList = WP.joinL (ws.map S) [] := by rw [← hy, data_S]
      have hyl := WP.joinL_len (ws.map S) []
      rw [← hyd, ← size_len, List.length_nil] at hyl
      have hoy : OP y = false := by unfold OP; rw [hyd, j2]; rfl
      have hgy : WP.grp (PR y) none = ws := by unfold PR; rw [hyd, j1]
      have hj : word_Join.f (ws.map S) = some y := by unfold word_Join.f; rw [if_pos (by omega), hy]
      rw [e, if_pos rfl, hj, Option.bind_some, wsplit_f y (by omega) _ (by omega), Option.bind_some, hoy, hgy, if_neg (by decide), e]
      exact again_l0 ws s.size hs (by omega) ho hlen _ 0 (by omega) (by omega)
theorem WordAgainWalk (W : World) (s : ByteArray) (_ : s.size ≤ 140737488351232) (hs : s.size + 1 ≤ 1048576) :
    Calls Tryd.prog 6 #[.string s] W fun e w' => e = .returned (.bool true) ∧ Below W.heap.size W w' := by
  obtain ⟨k, hk⟩ := WordAgain s (by omega)
  exact bobstaylaw04_WordAgain.calls k s true W hk
end Go.Proofs.YtjblkmmpfgjlnaaDoor.Pure
