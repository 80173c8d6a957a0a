/- A quoted text is one word, and means the text; quoted texts with blanks between are as many words. -/
import Derived.Test.YtjblkmmpfgjlnaaDoorPQx21
import Derived.Test.YtjblkmmpfgjlnaaDoorWordU
set_option linter.unusedVariables false
set_option linter.unusedSimpArgs false
namespace Go.Proofs.YtjblkmmpfgjlnaaDoor.Pure
open Go.RowKit Go.Proofs.YtjblkmmpfgjlnaaDoor.PQ Go.Proofs.YtjblkmmpfgjlnaaDoorW.PrintWords Go.Proofs.YtjblkmmpfgjlnaaDoorW.PrintLast Go.Proofs.YtjblkmmpfgjlnaaDoor.Ba
theorem WordMeans (s t : ByteArray) (hs : s.size ≤ 1048576) (ht : t.size ≤ 1048576) : ∃ k, bobstaylaw04_WordMeans.f k s t = some true := by
  obtain ⟨q, hq⟩ : ∃ q, WP.quoteL s.data.toList = q := ⟨_, rfl⟩
  obtain ⟨p, hp⟩ : ∃ p, WP.quoteL t.data.toList = p := ⟨_, rfl⟩
  obtain ⟨oq, sq⟩ := WP.quote_one s.data.toList
  obtain ⟨op, sp⟩ := WP.quote_one t.data.toList
  have lq := WP.quoteL_len s.data.toList
  have lp := WP.quoteL_len t.data.toList
  rw [← size_len, hq] at lq
  rw [← size_len, hp] at lp
  rw [hq] at oq sq
  rw [hp] at op
  obtain ⟨t1, t2⟩ := WP.two q p oq op
  have zq : (S q).size = q.length := size_S q
  have zp : (S p).size = p.length := size_S p
  have z2 : (⟨#[32, 32]⟩ : ByteArray).size = 2 := rfl
  have z9 : (⟨#[9]⟩ : ByteArray).size = 1 := rfl
  have z1 : (⟨#[32]⟩ : ByteArray).size = 1 := rfl
  obtain ⟨x, hx⟩ : ∃ x, ((((⟨#[32, 32]⟩ : ByteArray) ++ S q) ++ (⟨#[9]⟩ : ByteArray)) ++ S p) ++ (⟨#[32]⟩ : ByteArray) = x := ⟨_, rfl⟩
  have hxd : x.data.toList = 32 :: 32 :: (q ++ 9 :: (p ++ [32])) := by rw [← hx]; simp [data_S]
  have hxs : x.size ≤ 20000000 := by
    rw [← hx, ByteArray.size_append, ByteArray.size_append, ByteArray.size_append, ByteArray.size_append]; omega
  have hox : OP x = false := by unfold OP; rw [hxd, t2]; rfl
  have hgx : WP.grp (PR x) none = [q, p] := by unfold PR; rw [hxd, t1]
  have hoq : OP (S q) = false := by unfold OP; rw [data_S, oq.open]
  have hsq : WP.sel (PR (S q)) = s.data.toList := by unfold PR; rw [data_S, sq]
  refine ⟨40 + (3 * x.size + s.size + t.size + 5000), ?_⟩
  unfold bobstaylaw04_WordMeans.f
  rw [quote_f s hs _ (by omega), Option.bind_some, quote_f t ht _ (by omega), Option.bind_some, hq, hp, mean_f _ (by omega), Option.bind_some, hoq, hsq, S_data]
  rw [if_pos (by omega), if_pos (by rw [ByteArray.size_append]; omega), if_pos (by rw [ByteArray.size_append, ByteArray.size_append]; omega), if_pos (by rw [ByteArray.size_append, ByteArray.size_append, ByteArray.size_append]; omega)]
  rw [hx, wsplit_f x hxs _ (by omega), Option.bind_some, hox, hgx, alive]
  have r0 : rdOf ByteArray.empty [S q, S p] 0 = S q := rfl
  have r1 : rdOf ByteArray.empty [S q, S p] 1 = S p := rfl
  have fn : FN ([q, p].map S) = ([S q, S p], 0) := rfl
  simp only [if_neg (show ¬ (false = true) by decide), fn, r0, r1]
  simp
theorem WordMeansWalk (W : World) (s : ByteArray) (_ : s.size ≤ 140737488351232) (t : ByteArray) (_ : t.size ≤ 140737488351232) (hs : s.size + 1 ≤ 1048576) (ht : t.size + 1 ≤ 1048576) :
    Calls Tryd.prog 5 #[.string s, .string t] W fun e w' => e = .returned (.bool true) ∧ Below W.heap.size W w' := by
  obtain ⟨k, hk⟩ := WordMeans s t (by omega) (by omega)
  exact bobstaylaw04_WordMeans.calls k s t true W hk
end Go.Proofs.YtjblkmmpfgjlnaaDoor.Pure
