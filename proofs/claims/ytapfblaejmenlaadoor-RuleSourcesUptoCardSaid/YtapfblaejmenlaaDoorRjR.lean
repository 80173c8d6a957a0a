/- RuleOnce's walk under a bulk. -/
import Derived.Test.YtapfblaejmenlaaDoorRjO
import Derived.Test.YtapfblaejmenlaaDoorRowRule
namespace Go.Proofs.YtapfblaejmenlaaDoor.Rj
open Go.RowKit

theorem wL_le : ∀ (l : List Rl) (M : Nat), (∀ r ∈ l, w1 r ≤ M) → wL l ≤ (l.map fun r => r.t.length).sum * M
  | [], M, _ => by simp [wL]
  | r :: l, M, h => by
    have ih := wL_le l M (fun x hx => h x (List.mem_cons_of_mem _ hx))
    have h0 := Nat.mul_le_mul_left r.t.length (h r List.mem_cons_self)
    rw [wL_cons, List.map_cons, List.sum_cons, Nat.add_mul]
    omega
theorem tot_mem {l : List Rl} {r : Rl} (h : r ∈ l) : Ba.wT r ≤ Ba.totR l := by
  induction l with
  | nil => simp at h
  | cons y l ih =>
    simp only [Ba.totR, List.map_cons, List.sum_cons] at ih ⊢
    rcases List.mem_cons.1 h with rfl | h
    · omega
    · have := ih h; omega
theorem totT_len : ∀ l : List ByteArray, l.length ≤ Ba.totT l
  | [] => by simp
  | s :: l => by
    have := totT_len l
    simp only [Ba.totT, List.map_cons, List.sum_cons, List.length_cons] at this ⊢
    omega
theorem totT_mem {l : List ByteArray} {s : ByteArray} (h : s ∈ l) : s.size ≤ Ba.totT l := by
  induction l with
  | nil => simp at h
  | cons y l ih =>
    simp only [Ba.totT, List.map_cons, List.sum_cons] at ih ⊢
    rcases List.mem_cons.1 h with rfl | h
    · omega
    · have := ih h; omega
theorem nT_le : ∀ l : List Rl, nT l ≤ 300 → (l.map fun r => r.t.length).sum ≤ nT l
  | [], _ => by simp
  | r :: l, h => by
    simp only [nT, List.map_cons, List.sum_cons] at h ⊢
    have := nT_le l (by unfold nT; omega)
    unfold nT at this
    omega
theorem names_row' {l : List Rl} (hb : Ba.totR l ≤ 1048576) : ∀ r ∈ l, ∀ t ∈ r.t, t.size ≤ 1000000000 ∧ r.t.length ≤ bound := fun r hr t ht => by
  have h1 := tot_mem hr
  have h2 := totT_mem ht
  have h3 := totT_len r.t
  unfold Ba.wT at h1
  unfold bound
  omega
theorem weight_row {l : List Rl} (hb : Ba.totR l ≤ 1048576) : 2 * wL l + l.length ≤ bound ∨ farB l = true := by
  cases hf : farB l with
  | true => exact .inr rfl
  | false =>
    refine .inl ?_
    unfold farB at hf
    have hf := of_decide_eq_false hf
    have hl : l.length ≤ 100 := by omega
    rw [List.take_of_length_le (by omega)] at hf
    have h1 := nT_le l (by omega)
    have h2 := wL_le l 1048577 (fun r hr => by
      have h3 := tot_mem hr
      have h4 := totT_len r.s
      have h5 := totT_len r.c
      unfold Ba.wT at h3
      unfold w1
      omega)
    have h3 : (l.map fun r => r.t.length).sum * 1048577 ≤ 300 * 1048577 := Nat.mul_le_mul_right _ (by omega)
    unfold bound
    omega
theorem RuleOnceRow (W : World) (A : Option Addr) (cap : Nat) (l : List Rl) (hr : Go.Proofs.YtapfblaejmenlaaDoorW.PrintWords.Kd.C kR W A l.length l) (hc : l.length ≤ cap) (hb : Ba.totR l ≤ 1048576) :
    Calls Tryd.prog 4 #[.slice A l.length cap] W fun e W' => e = .returned (.bool true) ∧ Below W.heap.size W W' :=
  RuleOnceWalk W A cap l hr hc (names_row' hb) (weight_row hb)
end Go.Proofs.YtapfblaejmenlaaDoor.Rj
