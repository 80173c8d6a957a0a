/- Any lines with a value in place of a name are the document's: the printed law answers true. -/
import Derived.Test.YtiedbnjoomcdbaaDoorPureLoopC
import Derived.Test.YtiedbnjoomcdbaaDoorRowLine
set_option linter.unusedVariables false
set_option linter.unusedSimpArgs false
namespace Go.Proofs.YtiedbnjoomcdbaaDoor.PureC
open Go.RowKit Go.Proofs.YtiedbnjoomcdbaaDoor.PC Go.Proofs.YtiedbnjoomcdbaaDoorW.PrintWords Go.Proofs.YtiedbnjoomcdbaaDoorW.PrintLast Go.Proofs.YtiedbnjoomcdbaaDoor.Ba

def rb (B : ByteArray → ByteArray) (x : RL) : RL := ⟨B x.f0, x.f1, x.f2⟩
theorem refBind_ev (l : List RL) (nm vl : ByteArray) (B : ByteArray → ByteArray) (hl : l.length ≤ 1000000) (hB : ∀ x ∈ l, Ev fun n => bobstayref12_bind.f n x.f0 nm vl = some (B x.f0)) : ∀ (m i : Nat), l.length - i = m → i ≤ l.length →
    Ev fun n => bobstayref12_Bind.l0 n l nm vl ((l.take i).map (rb B)) (i : Int) = some (l.map (rb B))
  | 0, i, hm, hi => ev_all fun n => by
    have : i = l.length := by omega
    subst this
    rw [bobstayref12_Bind.l0, if_neg (by omega), List.take_length]
  | m + 1, i, hm, hi => by
    have hlt : i < l.length := by omega
    refine ev_step (ev_and (hB l[i] (List.getElem_mem hlt)) (refBind_ev l nm vl B hl hB m (i + 1) (by omega) (by omega))) fun n ih => ?_
    have hw : wrap64 ((i : Int) + 1) = ((i + 1 : Nat) : Int) := by rw [v64 (by omega) (by omega)]; omega
    rw [bobstayref12_Bind.l0, if_pos (by omega), if_pos (by omega), rdR l i hlt, ih.1]
    simp only [Option.bind_some]
    rw [if_pos (by rw [List.length_map, List.length_take]; omega), hw]
    have e : (l.take (i + 1)).map (rb B) = (l.take i).map (rb B) ++ [rb B l[i]] := by
      rw [List.take_add_one, List.getElem?_eq_getElem hlt]; simp only [Option.toList_some, List.map_append, List.map_cons, List.map_nil]
    have ih2 := ih.2
    rw [e] at ih2
    exact ih2
theorem refBind_f (l : List RL) (nm vl : ByteArray) (B : ByteArray → ByteArray) (hl : l.length ≤ 1000000) (hB : ∀ x ∈ l, Ev fun n => bobstayref12_bind.f n x.f0 nm vl = some (B x.f0)) : Ev fun n => bobstayref12_Bind.f n l nm vl = some (l.map (rb B)) := by
  have := refBind_ev l nm vl B hl hB l.length 0 (by omega) (by omega)
  exact ev_imp this fun n h => by unfold bobstayref12_Bind.f; simpa using h
theorem same_l0 (L : List RL) (hl : L.length ≤ 1000000) : ∀ (m i : Nat), L.length - i = m → i ≤ L.length → Ev fun n => bobstayref11_Same.l0 n L L (i : Int) = some true
  | 0, i, hm, hi => ev_all fun n => by
    rw [bobstayref11_Same.l0, if_neg (by omega)]
  | m + 1, i, hm, hi => by
    refine ev_step (same_l0 L hl m (i + 1) (by omega) (by omega)) fun n ih => ?_
    have hw : wrap64 ((i : Int) + 1) = ((i + 1 : Nat) : Int) := by rw [v64 (by omega) (by omega)]; omega
    rw [bobstayref11_Same.l0, if_pos (by omega), if_pos (by omega), if_pos (by omega), if_neg (by simp), hw]
    exact ih
theorem same_f (L : List RL) (hl : L.length ≤ 1000000) : Ev fun n => bobstayref11_Same.f n L L = some true := by
  refine ev_imp (same_l0 L hl L.length 0 (by omega) (by omega)) fun n h => ?_
  unfold bobstayref11_Same.f
  rw [if_pos rfl]
  exact h
theorem bindG (s nm vl : ByteArray) (hn : nm.size ≤ 1000) (hv : vl.size ≤ 1000) (res : List UInt8) (h : Ev fun k => bindA k s.data.toList nm.data.toList vl.data.toList [] = some res) : Ev fun k => loop_bind.f k s nm vl = some (S res) := by
  refine ev_imp h fun k h => ?_
  unfold loop_bind.f
  rw [if_pos ⟨by omega, by omega⟩, h, Option.map_some]
theorem bindR (s nm vl : ByteArray) (res : List UInt8) (h : Ev fun k => bobstayref12_bind.l0 k s nm vl (S []) 0 = some (S res)) : Ev fun k => bobstayref12_bind.f k s nm vl = some (S res) := by
  refine ev_imp h fun k h => ?_
  unfold bobstayref12_bind.f
  exact h
theorem bind_both (nm vl : ByteArray) (hn : nm.size ≤ 1000) (hv : vl.size ≤ 1000) (s : ByteArray) : ∃ r : ByteArray, s.size ≤ 2000 → (Ev fun k => loop_bind.f k s nm vl = some r) ∧ (Ev fun k => bobstayref12_bind.f k s nm vl = some r) := by
  by_cases hs : s.size ≤ 2000
  · obtain ⟨res, g1, g2⟩ := bind_rel nm.data.toList vl.data.toList (by rw [← size_len]; exact hn) (by rw [← size_len]; exact hv) s.size s.data.toList [] [] (Nat.le_of_eq (size_len s).symm) (by rw [← size_len]; simp only [List.length_nil]; omega) (by rw [← size_len]; simp only [List.length_nil]; omega)
    rw [List.nil_append, S_data, S_data, S_data] at g2
    exact ⟨S res, fun _ => ⟨bindG s nm vl hn hv res g1, bindR s nm vl res g2⟩⟩
  · exact ⟨s, fun h => absurd h hs⟩
theorem cvmap (l : List RL) (B : ByteArray → ByteArray) : ((l.map cv).map fun x => bd x (B x.f0)).map vc = l.map (rb B) := by
  rw [List.map_map, List.map_map]
  exact List.map_congr_left fun x _ => rfl
theorem w500 (a b : Nat) (h : a + b ≤ 100000000) : wrap64 ((a : Int) + (b : Int)) = ((a + b : Nat) : Int) := by rw [v64' (by omega) (by omega)]; omega
theorem alive_f : bobstaylaw12_alive.f = some true := rfl
theorem LoopBinds (l : List RL) (nm vl : ByteArray) (hl : l.length ≤ 1000000) (hn : nm.size ≤ 2000000) (hv : vl.size ≤ 2000000) : Ev fun k => bobstaylaw12_LoopBinds.f k l nm vl = some true := by
  obtain ⟨b, hf, hb⟩ := far_f l hl
  cases b with
  | true =>
    refine ev_imp hf fun k h => ?_
    unfold bobstaylaw12_LoopBinds.f
    rw [h, alive_f]
    simp only [Option.bind_some, if_true]
  | false =>
    obtain ⟨h400, h2000⟩ := hb rfl
    by_cases h5 : nm.size + vl.size > 500
    · refine ev_imp hf fun k h => ?_
      unfold bobstaylaw12_LoopBinds.f
      rw [h, Option.bind_some, if_neg Bool.false_ne_true, w500 nm.size vl.size (by omega), if_pos (by omega), alive_f, Option.bind_some]
    · have hrel := fun s : ByteArray => bind_both nm vl (by omega) (by omega) s
      obtain ⟨B, hB⟩ := Classical.axiomOfChoice hrel
      have t1 := theirs_f l hl
      have t2 := bind_f (l.map cv) nm vl (fun x => B x.f0) (by rw [List.length_map]; exact hl) (fun x hx => by
        obtain ⟨y, hy, rfl⟩ := List.mem_map.1 hx
        exact (hB y.f0 (h2000 y hy)).1)
      have t3 := ours_f ((l.map cv).map fun x => bd x (B x.f0)) (by rw [List.length_map, List.length_map]; exact hl)
      have t4 := refBind_f l nm vl B hl (fun x hx => (hB x.f0 (h2000 x hx)).2)
      have t5 := same_f (l.map (rb B)) (by rw [List.length_map]; exact hl)
      rw [cvmap] at t3
      refine ev_imp (ev_and hf (ev_and (ev_and t1 t2) (ev_and t3 (ev_and t4 t5)))) fun k ⟨h, ⟨a1, a2⟩, a3, a4, a5⟩ => ?_
      unfold bobstaylaw12_LoopBinds.f
      rw [h, Option.bind_some, if_neg Bool.false_ne_true, w500 nm.size vl.size (by omega), if_neg (by omega), a1, Option.bind_some, a2, Option.bind_some, a3, Option.bind_some, a4, Option.bind_some, a5, Option.bind_some, if_pos rfl, alive_f, Option.bind_some]
def mkR (x : ByteArray × Int × Bool) : RL := ⟨x.1, x.2.1, x.2.2⟩
theorem rowR {W : World} {A : Option Addr} {cap : Nat} {ls : List (ByteArray × Int × Bool)} (h : LineRow W A cap ls) : Kd.C k33 W A (ls.map mkR).length (ls.map mkR) := by
  obtain ⟨h1, h2, h3⟩ := h
  refine ⟨rfl, by rw [List.length_map]; exact h2, fun hn => ?_⟩
  rw [List.length_map] at hn
  obtain ⟨ad, rfl, hc⟩ := h3 hn
  refine ⟨ad, rfl, fun j p hp => ?_⟩
  rw [List.getElem?_map, Option.map_eq_some_iff] at hp
  obtain ⟨x, hx, rfl⟩ := hp
  obtain ⟨q0, q1, q2⟩ := hc j x hx
  refine ⟨_, rfl, k33_mk W (mkR x), fun i u hu => ?_⟩
  match i, hu with
  | 0, hu => simp at hu; subst hu; exact q0
  | 1, hu => simp at hu; subst hu; exact q1
  | 2, hu => simp at hu; subst hu; exact q2
theorem tot_len : ∀ ls : List (ByteArray × Int × Bool), 4 * ls.length ≤ totL ls
  | [] => by simp
  | x :: ls => by
    have ih := tot_len ls
    rw [show totL (x :: ls) = x.1.size + 4 + totL ls by simp [totL], List.length_cons]
    omega
theorem LoopBindsWalk (W : World) (A : Option Addr) (cap : Nat) (ls : List (ByteArray × Int × Bool)) (hr : LineRow W A cap ls) (nm : ByteArray) (_ : nm.size ≤ 140737488351232) (vl : ByteArray) (_ : vl.size ≤ 140737488351232)
    (hl : totL ls ≤ 1048576) (hn : nm.size + 1 ≤ 1048576) (hv : vl.size + 1 ≤ 1048576) :
    Calls Tryd.prog 3 #[.slice A ls.length cap, .string nm, .string vl] W fun e W' => e = .returned (.bool true) ∧ Below W.heap.size W W' := by
  have t1 := tot_len ls
  have l1 : (ls.map mkR).length ≤ 1000000 := by rw [List.length_map]; generalize totL ls = X at *; omega
  obtain ⟨N, hN⟩ := LoopBinds (ls.map mkR) nm vl l1 (by omega) (by omega)
  have len1 : (ls.map mkR).length = ls.length := List.length_map _
  have := bobstaylaw12_LoopBinds.calls N A cap (ls.map mkR) nm vl true W (rowR hr) (by rw [len1]; exact hr.1) (hN N (Nat.le_refl _))
  rw [len1] at this
  exact this
end Go.Proofs.YtiedbnjoomcdbaaDoor.PureC
