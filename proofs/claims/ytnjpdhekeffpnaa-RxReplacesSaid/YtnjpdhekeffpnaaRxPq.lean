/- What the document's put computes is putL. -/
import Derived.Test.YtnjpdhekeffpnaaPQx0
import Derived.Test.YtnjpdhekeffpnaaRxX
import Derived.Test.YtnjpdhekeffpnaaPQx0
set_option linter.unusedVariables false
namespace Go.Proofs.Ytnjpdhekeffpnaa.Rx
open Go.RowKit Go.Proofs.YtnjpdhekeffpnaaW.PrintWords Go.Proofs.YtnjpdhekeffpnaaW.PrintLast Go.Proofs.YtnjpdhekeffpnaaW.PrintMore Go.Proofs.Ytnjpdhekeffpnaa.PQ

def nums (l : List UInt8) : List Int := l.map fun b => (b.toNat : Int)
theorem strOf_nums (l : List UInt8) : strOfNums (nums l) = ⟨l.toArray⟩ := by
  unfold strOfNums nums
  rw [List.map_map]
  congr 2
  conv => rhs; rw [← List.map_id l]
  apply List.map_congr_left
  intro b _
  simp
theorem nums_app (a b : List UInt8) : nums (a ++ b) = nums a ++ nums b := List.map_append
theorem bt_at (s : ByteArray) (k : Nat) (h : k < s.size) : bt s (k : Int) = (s[k].toNat : Int) := by
  unfold bt
  rw [dif_pos (by simpa using h)]
  simp
theorem put_run (s m : ByteArray) (hs : s.size ≤ 1000000) : ∀ (n k : Nat) (acc : List UInt8), s.size < k + n → k ≤ s.size → acc.length + (putL m.data.toList (s.data.toList.drop k)).length ≤ 140737488355327 →
    bobstayref05_put.l0 n s m (nums acc) (k : Int) = some ⟨(acc ++ putL m.data.toList (s.data.toList.drop k)).toArray⟩
  | 0, k, acc, h, hk, hl => by omega
  | n + 1, k, acc, h, hk, hl => by
    have hw : wrap64 ((k : Int) + 1) = ((k + 1 : Nat) : Int) := by unfold wrap64; omega
    have hal : (nums acc).length = acc.length := List.length_map _
    rw [bobstayref05_put.l0]
    by_cases h1 : (k : Int) < (s.size : Int)
    · rw [if_pos h1, if_pos (by omega), bt_at s k (by omega), hw]
      have hd := drop_at s k (by omega)
      obtain ⟨c, hc⟩ : ∃ c, s[k]'(by omega) = c := ⟨_, rfl⟩
      rw [hc] at hd ⊢
      by_cases h38 : c = 38
      · subst h38
        rw [hd, putL_amp] at hl ⊢
        have hml : m.data.toList.length = m.size := Array.length_toList
        rw [List.length_append, hml] at hl
        rw [if_pos (by decide), if_pos (by rw [hal]; omega), show bytesOf m = nums m.data.toList from rfl, ← nums_app]
        rw [put_run s m hs n (k + 1) (acc ++ m.data.toList) (by omega) (by omega) (by rw [List.length_append, hml]; omega), List.append_assoc]
      · have g38 : ¬ (c.toNat : Int) = 38 := fun e => h38 (UInt8.toNat_inj.1 (by show c.toNat = 38; omega))
        rw [if_neg g38]
        have one : (c ≠ 92 ∨ s.size ≤ k + 1) → (if (nums acc).length < 140737488355328 then bobstayref05_put.l0 n s m (nums acc ++ [(c.toNat : Int)]) ((k + 1 : Nat) : Int) else none) = some ⟨(acc ++ putL m.data.toList (s.data.toList.drop k)).toArray⟩ := by
          intro h2
          rw [hd, putL_one _ _ _ h38 (h2.imp id (drop_end s (k + 1)))] at hl ⊢
          rw [List.length_cons] at hl
          rw [if_pos (by rw [hal]; omega), show nums acc ++ [(c.toNat : Int)] = nums (acc ++ [c]) from (nums_app acc [c]).symm, put_run s m hs n (k + 1) (acc ++ [c]) (by omega) (by omega) (by rw [List.length_append]; show acc.length + 1 + _ ≤ _; omega), List.append_assoc]
          rfl
        by_cases h92 : c = 92
        · rw [if_pos (by rw [h92]; decide)]
          by_cases h3 : ((k + 1 : Nat) : Int) < (s.size : Int)
          · rw [if_pos h3, if_pos (by omega), bt_at s (k + 1) (by omega)]
            have hd2 := drop_at s (k + 1) (by omega)
            obtain ⟨d, hdd⟩ : ∃ d, s[k + 1]'(by omega) = d := ⟨_, rfl⟩
            rw [hdd] at hd2 ⊢
            subst h92
            rw [hd, hd2, putL_esc] at hl ⊢
            rw [List.length_cons] at hl
            have hw2 : wrap64 (((k + 1 : Nat) : Int) + 1) = ((k + 1 + 1 : Nat) : Int) := by unfold wrap64; omega
            rw [if_pos (by rw [hal]; omega), hw2, show nums acc ++ [(d.toNat : Int)] = nums (acc ++ [d]) from (nums_app acc [d]).symm, put_run s m hs n (k + 1 + 1) (acc ++ [d]) (by omega) (by omega) (by rw [List.length_append]; show acc.length + 1 + _ ≤ _; omega), List.append_assoc]
            rfl
          · rw [if_neg h3]
            exact one (.inr (by omega))
        · have g92 : ¬ (c.toNat : Int) = 92 := fun e => h92 (UInt8.toNat_inj.1 (by show c.toNat = 92; omega))
          rw [if_neg g92]
          exact one (.inl h92)
    · rw [if_neg h1, drop_end s k (by omega), strOf_nums, putL, List.append_nil]
theorem refPutW (w : World) (s m : ByteArray) (hs : s.size ≤ 1000000) (hl : (putL m.data.toList s.data.toList).length ≤ 140737488355327) :
    Calls Try.prog 35 #[.string s, .string m] w fun e w' => e = .returned (.string ⟨(putL m.data.toList s.data.toList).toArray⟩) ∧ Below w.heap.size w w' := by
  refine bobstayref05_put.calls (s.size + 1) s m _ w ?_
  have := put_run s m hs (s.size + 1) 0 [] (by omega) (by omega) (by rw [List.drop_zero]; simpa using hl)
  rw [List.drop_zero, List.nil_append] at this
  exact this
end Go.Proofs.Ytnjpdhekeffpnaa.Rx
set_option linter.unusedVariables false
namespace Go.Proofs.Ytnjpdhekeffpnaa.Rx
open Go.RowKit Go.Proofs.YtnjpdhekeffpnaaW.PrintWords Go.Proofs.YtnjpdhekeffpnaaW.PrintLast Go.Proofs.YtnjpdhekeffpnaaW.PrintMore Go.Proofs.Ytnjpdhekeffpnaa.PQ

def spB : ByteArray := ⟨#[46, 94, 36, 42, 43, 63, 124, 40, 41, 91, 93, 92]⟩
theorem sp_one (c : UInt8) : List.replicate (spB.data.toList.count c) (92 : UInt8) ++ [c] = if isSp c then [92, c] else [c] := by
  have : ∀ c : Fin 256, List.replicate (spB.data.toList.count (UInt8.ofNat c.1)) (92 : UInt8) ++ [UInt8.ofNat c.1] = if isSp (UInt8.ofNat c.1) then [92, UInt8.ofNat c.1] else [UInt8.ofNat c.1] := by decide +kernel
  have h := this ⟨c.toNat, c.toNat_lt⟩
  simpa using h
theorem quote_in (s q : ByteArray) (k : Nat) (hk : k < s.size) (hs : s.size ≤ 1000000) (hq : q.size ≤ 1000) (n : Nat) : ∀ (r j : Nat) (acc : List UInt8), j + r = q.size → acc.length ≤ 100000000 - r →
    r ≤ 1000 → bobstayref05_Quote.l1 (n + 1 + r) s q (nums acc) (k : Int) (j : Int) = bobstayref05_Quote.l0 n s q (nums (acc ++ List.replicate ((q.data.toList.drop j).count s[k]) 92 ++ [s[k]])) ((k + 1 : Nat) : Int)
  | 0, j, acc, hj, hl, hr => by
    have hw : wrap64 ((k : Int) + 1) = ((k + 1 : Nat) : Int) := by unfold wrap64; omega
    have hal : (nums acc).length = acc.length := List.length_map _
    rw [Nat.add_zero, bobstayref05_Quote.l1, if_neg (by omega), if_pos (by omega), if_pos (by omega), if_pos (by omega), hw, drop_end q j (by omega), bt_at s k hk]
    show bobstayref05_Quote.l0 n s q (nums acc ++ nums [s[k]]) _ = _
    rw [← nums_app]
    simp
  | r + 1, j, acc, hj, hl, hr => by
    have hw : wrap64 ((j : Int) + 1) = ((j + 1 : Nat) : Int) := by unfold wrap64; omega
    have hal : (nums acc).length = acc.length := List.length_map _
    rw [show n + 1 + (r + 1) = (n + 1 + r) + 1 by omega, bobstayref05_Quote.l1, if_pos (by omega), if_pos (by omega), if_pos (by omega), if_pos (by omega), hw, bt_at q j (by omega), bt_at s k hk, drop_at q j (by omega)]
    by_cases h : q[j]'(by omega) = s[k]
    · rw [if_pos (by rw [h]), if_pos (by omega), h, List.count_cons_self]
      show bobstayref05_Quote.l1 (n + 1 + r) s q (nums acc ++ nums [92]) _ _ = _
      rw [← nums_app, quote_in s q k hk hs hq n r (j + 1) (acc ++ [92]) (by omega) (by rw [List.length_append]; show acc.length + 1 ≤ _; omega) (by omega)]
      congr 2
      simp [List.replicate_succ]
    · rw [if_neg (fun e => h (UInt8.toNat_inj.1 (by omega))), List.count_cons_of_ne h, quote_in s q k hk hs hq n r (j + 1) acc (by omega) (by omega) (by omega)]
theorem quote_run (s : ByteArray) (hs : s.size ≤ 1000000) : ∀ (n k : Nat) (acc : List UInt8), s.size = k + n → acc.length ≤ 50 * k →
    bobstayref05_Quote.l0 (14 * n + 1) s spB (nums acc) (k : Int) = some ⟨(acc ++ quoteL (s.data.toList.drop k)).toArray⟩
  | 0, k, acc, h, hl => by
    rw [Nat.mul_zero, bobstayref05_Quote.l0, if_neg (by omega), drop_end s k (by omega), strOf_nums]
    simp [quoteL]
  | n + 1, k, acc, h, hl => by
    have hz : spB.size = 12 := rfl
    rw [show 14 * (n + 1) + 1 = ((14 * n + 1) + 1 + 12) + 1 by omega, bobstayref05_Quote.l0, if_pos (by omega)]
    have := quote_in s spB k (by omega) hs (by omega) (14 * n + 1) 12 0 acc (by omega) (by omega) (by omega)
    rw [List.drop_zero, List.append_assoc, sp_one] at this
    rw [show ((0 : Nat) : Int) = 0 from rfl] at this
    rw [this, quote_run s hs n (k + 1) _ (by omega) (by rw [List.length_append]; split <;> simp <;> omega), drop_at s k (by omega), List.append_assoc]
    rfl
theorem refQuoteW (w : World) (s : ByteArray) (hs : s.size ≤ 1000000) :
    Calls Try.prog 22 #[.string s] w fun e w' => e = .returned (.string ⟨(quoteL s.data.toList).toArray⟩) ∧ Below w.heap.size w w' := by
  refine bobstayref05_Quote.calls (14 * s.size + 1) s _ w ?_
  have := quote_run s hs s.size 0 [] (by omega) (by simp)
  rw [List.drop_zero, List.nil_append] at this
  rw [← this]
  rfl
end Go.Proofs.Ytnjpdhekeffpnaa.Rx
