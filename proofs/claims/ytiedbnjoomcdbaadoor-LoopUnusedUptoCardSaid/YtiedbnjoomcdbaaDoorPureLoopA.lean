/- What the loop's laws share: lines turned, bytes at a place, 'for all rounds but the first ones'. -/
import Derived.Test.YtiedbnjoomcdbaaDoorPCx1
set_option linter.unusedVariables false
set_option linter.unusedSimpArgs false
namespace Go.Proofs.YtiedbnjoomcdbaaDoor.PureC
open Go.RowKit Go.Proofs.YtiedbnjoomcdbaaDoor.PC Go.Proofs.YtiedbnjoomcdbaaDoorW.PrintWords Go.Proofs.YtiedbnjoomcdbaaDoorW.PrintLast Go.Proofs.YtiedbnjoomcdbaaDoor.Ba

def Ev (P : Nat → Prop) : Prop := ∃ N, ∀ n, N ≤ n → P n
theorem ev_all {P : Nat → Prop} (h : ∀ n, P (n + 1)) : Ev P := ⟨1, fun n hn => by obtain ⟨k, rfl⟩ : ∃ k, n = k + 1 := ⟨n - 1, by omega⟩; exact h k⟩
theorem ev_step {P Q : Nat → Prop} (h : Ev P) (s : ∀ n, P n → Q (n + 1)) : Ev Q := by
  obtain ⟨N, hN⟩ := h
  refine ⟨N + 1, fun n hn => ?_⟩
  obtain ⟨k, rfl⟩ : ∃ k, n = k + 1 := ⟨n - 1, by omega⟩
  exact s k (hN k (by omega))
theorem ev_imp {P Q : Nat → Prop} (h : Ev P) (s : ∀ n, P n → Q n) : Ev Q := by
  obtain ⟨N, hN⟩ := h
  exact ⟨N, fun n hn => s n (hN n hn)⟩
theorem ev_and {P Q : Nat → Prop} (h : Ev P) (g : Ev Q) : Ev fun n => P n ∧ Q n := by
  obtain ⟨N, hN⟩ := h
  obtain ⟨M, hM⟩ := g
  exact ⟨N + M, fun n hn => ⟨hN n (by omega), hM n (by omega)⟩⟩

theorem bt_get (s : ByteArray) (i : Nat) (h : i < s.size) : bt s i = ((s[i]).toNat : Int) := by
  rw [← bt_at s i h]; rfl
theorem v64 {x : Int} (h : 0 ≤ x) (h' : x ≤ 1000000000000) : wrap64 (x + 1) = x + 1 := by unfold wrap64; omega
theorem v64' {x : Int} (h : 0 ≤ x) (h' : x ≤ 1000000000000) : wrap64 x = x := by unfold wrap64; omega
theorem ue (c : UInt8) (k : UInt8) : (((c.toNat : Nat) : Int) = ((k.toNat : Nat) : Int)) = (c = k) := by
  apply propext
  constructor
  · intro h; exact UInt8.toNat_inj.mp (by omega)
  · rintro rfl; rfl
theorem S_nil (l : List UInt8) : ((S l).toList = ([] : List UInt8)) = (l = []) := by rw [Lib.toList_data, data_S]
theorem S_cat (a b : List UInt8) : S a ++ S b = S (a ++ b) := by
  apply ba_ext; rw [data_S]; simp [data_S]
theorem size_app (s : ByteArray) (p t : List UInt8) (h : s.data.toList = p ++ t) : s.size = p.length + t.length := by rw [size_len, h, List.length_append]
theorem get_data (s : ByteArray) (i : Nat) (h : i < s.size) : s[i] = s.data.toList[i]'(by rw [← size_len]; exact h) := by
  simp [ByteArray.getElem_eq_getElem_data]
theorem bt_app (s : ByteArray) (p t : List UInt8) (c : UInt8) (h : s.data.toList = p ++ c :: t) : bt s (p.length : Int) = ((c.toNat : Nat) : Int) := by
  have hl := size_app s p (c :: t) h
  rw [List.length_cons] at hl
  have hlt : p.length < s.size := by omega
  rw [bt_get s p.length hlt, get_data]
  simp only [h]
  simp
def pnums (l : List UInt8) : List Int := l.map fun c => ((c.toNat : Nat) : Int)
theorem strOf_pnums (l : List UInt8) : strOfNums (pnums l) = S l := by
  apply ba_ext
  rw [data_S]
  unfold strOfNums pnums
  simp [List.map_map, Function.comp_def]
theorem pn_snoc (a : List UInt8) (c : UInt8) : pnums a ++ [((c.toNat : Nat) : Int)] = pnums (a ++ [c]) := by simp [pnums]
theorem pn_len (a : List UInt8) : (pnums a).length = a.length := by simp [pnums]

abbrev RL := S33
abbrev GL := S34
def cv (x : RL) : GL := ⟨x.f0, x.f1, x.f2⟩
def vc (x : GL) : RL := ⟨x.f0, x.f1, x.f2⟩
def tr (x : RL) : ByteArray × Int × Bool := (x.f0, x.f1, x.f2)
theorem rdR (l : List RL) (i : Nat) (h : i < l.length) : rd_T33 l (i : Int) = l[i] := by
  unfold rd_T33
  simp [List.getD_eq_getElem?_getD, h]
theorem rdG (l : List GL) (i : Nat) (h : i < l.length) : rd_T34 l (i : Int) = l[i] := by
  unfold rd_T34
  simp [List.getD_eq_getElem?_getD, h]
/-! ### The lines, turned -/
theorem theirs_ev (l : List RL) (hl : l.length ≤ 1000000) : ∀ (m i : Nat), l.length - i = m → i ≤ l.length →
    Ev fun n => bobstaylaw12_theirs.l0 n ((l.take i).map cv) l (l.length : Int) (i : Int) = some (l.map cv)
  | 0, i, hm, hi => ev_all fun n => by
    have : i = l.length := by omega
    subst this
    rw [bobstaylaw12_theirs.l0, if_neg (by omega), List.take_length]
  | m + 1, i, hm, hi => by
    have hlt : i < l.length := by omega
    refine ev_step (theirs_ev l hl m (i + 1) (by omega) (by omega)) fun n ih => ?_
    have hw : wrap64 ((i : Int) + 1) = ((i + 1 : Nat) : Int) := by rw [v64 (by omega) (by omega)]; omega
    rw [bobstaylaw12_theirs.l0, if_pos (by omega), if_pos (by omega), if_pos (by omega), if_pos (by rw [List.length_map, List.length_take]; omega), rdR l i hlt, hw]
    have e : (l.take (i + 1)).map cv = (l.take i).map cv ++ [cv l[i]] := by
      rw [List.take_add_one, List.getElem?_eq_getElem hlt]; simp only [Option.toList_some, List.map_append, List.map_cons, List.map_nil]
    rw [e] at ih
    exact ih
theorem theirs_f (l : List RL) (hl : l.length ≤ 1000000) : Ev fun n => bobstaylaw12_theirs.f n l = some (l.map cv) := by
  have := theirs_ev l hl l.length 0 (by omega) (by omega)
  exact ev_imp this fun n h => by unfold bobstaylaw12_theirs.f; simpa using h
theorem ours_ev (l : List GL) (hl : l.length ≤ 1000000) : ∀ (m i : Nat), l.length - i = m → i ≤ l.length →
    Ev fun n => bobstaylaw12_ours.l0 n ((l.take i).map vc) l (l.length : Int) (i : Int) = some (l.map vc)
  | 0, i, hm, hi => ev_all fun n => by
    have : i = l.length := by omega
    subst this
    rw [bobstaylaw12_ours.l0, if_neg (by omega), List.take_length]
  | m + 1, i, hm, hi => by
    have hlt : i < l.length := by omega
    refine ev_step (ours_ev l hl m (i + 1) (by omega) (by omega)) fun n ih => ?_
    have hw : wrap64 ((i : Int) + 1) = ((i + 1 : Nat) : Int) := by rw [v64 (by omega) (by omega)]; omega
    rw [bobstaylaw12_ours.l0, if_pos (by omega), if_pos (by omega), if_pos (by omega), rdG l i hlt]
    unfold bobstaylaw12_one.f
    simp only [Option.bind_some]
    rw [if_pos (by rw [List.length_map, List.length_take]; omega), hw]
    have e : (l.take (i + 1)).map vc = (l.take i).map vc ++ [vc l[i]] := by
      rw [List.take_add_one, List.getElem?_eq_getElem hlt]; simp only [Option.toList_some, List.map_append, List.map_cons, List.map_nil]
    rw [e] at ih
    exact ih
theorem ours_f (l : List GL) (hl : l.length ≤ 1000000) : Ev fun n => bobstaylaw12_ours.f n l = some (l.map vc) := by
  have := ours_ev l hl l.length 0 (by omega) (by omega)
  exact ev_imp this fun n h => by unfold bobstaylaw12_ours.f; simpa using h
/-! ### Whether lines are too many, or too long -/
theorem far_ev (l : List RL) (hl : l.length ≤ 1000000) : ∀ (m i : Nat), l.length - i = m → i ≤ l.length → (∀ j (h : j < l.length), j < i → l[j].f0.size ≤ 2000) →
    ∃ b, (Ev fun n => bobstaylaw12_far.l0 n l l (l.length : Int) (i : Int) = some b) ∧ (b = false → l.length ≤ 400 ∧ ∀ x ∈ l, x.f0.size ≤ 2000)
  | 0, i, hm, hi, hs => by
    have : i = l.length := by omega
    subst this
    refine ⟨decide ((l.length : Int) > 400), ev_all fun n => ?_, fun h => ⟨?_, fun x hx => ?_⟩⟩
    · rw [bobstaylaw12_far.l0, if_neg (by omega)]
    · have := of_decide_eq_false h
      omega
    · obtain ⟨j, hj, rfl⟩ := List.mem_iff_getElem.1 hx
      exact hs j hj hj
  | m + 1, i, hm, hi, hs => by
    have hlt : i < l.length := by omega
    by_cases hb : (l[i].f0.size : Int) > 2000
    · exact ⟨true, ev_all fun n => by rw [bobstaylaw12_far.l0, if_pos (by omega), if_pos (by omega), if_pos (by omega), rdR l i hlt, if_pos hb], fun h => by cases h⟩
    · obtain ⟨b, h1, h2⟩ := far_ev l hl m (i + 1) (by omega) (by omega) (fun j hj hji => by
        by_cases e : j = i
        · subst e; omega
        · exact hs j hj (by omega))
      refine ⟨b, ev_step h1 fun n ih => ?_, h2⟩
      have hw : wrap64 ((i : Int) + 1) = ((i + 1 : Nat) : Int) := by rw [v64 (by omega) (by omega)]; omega
      rw [bobstaylaw12_far.l0, if_pos (by omega), if_pos (by omega), if_pos (by omega), rdR l i hlt, if_neg hb, hw]
      exact ih
theorem far_f (l : List RL) (hl : l.length ≤ 1000000) : ∃ b, (Ev fun n => bobstaylaw12_far.f n l = some b) ∧ (b = false → l.length ≤ 400 ∧ ∀ x ∈ l, x.f0.size ≤ 2000) := by
  obtain ⟨b, h1, h2⟩ := far_ev l hl l.length 0 (by omega) (by omega) (fun j _ h => by omega)
  exact ⟨b, ev_imp h1 fun n h => by unfold bobstaylaw12_far.f; exact h, h2⟩
/-! ### loop.Bind: each text by itself -/
def bd (x : GL) (t : ByteArray) : GL := ⟨t, x.f1, x.f2⟩
theorem bind_ev (l : List GL) (nm vl : ByteArray) (B : GL → ByteArray) (hl : l.length ≤ 1000000) (hB : ∀ x ∈ l, Ev fun n => loop_bind.f n x.f0 nm vl = some (B x)) : ∀ (m i : Nat), l.length - i = m → i ≤ l.length →
    Ev fun n => loop_Bind.l0 n nm vl ((l.take i).map (fun x => bd x (B x)) ++ l.drop i) (l.length : Int) (i : Int) = some (l.map fun x => bd x (B x))
  | 0, i, hm, hi => ev_all fun n => by
    have : i = l.length := by omega
    subst this
    rw [loop_Bind.l0, if_neg (by omega), List.take_length, List.drop_length, List.append_nil]
  | m + 1, i, hm, hi => by
    have hlt : i < l.length := by omega
    refine ev_step (ev_and (hB l[i] (List.getElem_mem hlt)) (bind_ev l nm vl B hl hB m (i + 1) (by omega) (by omega))) fun n ih => ?_
    have hw : wrap64 ((i : Int) + 1) = ((i + 1 : Nat) : Int) := by rw [v64 (by omega) (by omega)]; omega
    have hlen : ((l.take i).map (fun x => bd x (B x)) ++ l.drop i).length = l.length := by rw [List.length_append, List.length_map, List.length_take, List.length_drop]; omega
    have htl : ((l.take i).map (fun x => bd x (B x))).length = i := by rw [List.length_map, List.length_take]; omega
    have hg : rd_T34 ((l.take i).map (fun x => bd x (B x)) ++ l.drop i) (i : Int) = l[i] := by
      rw [rdG _ i (by rw [hlen]; exact hlt)]
      rw [List.getElem_append_right (by omega)]
      simp only [htl, Nat.sub_self, List.getElem_drop, Nat.add_zero]
    rw [loop_Bind.l0, if_pos (by omega), if_pos (by omega), if_pos (by rw [hlen]; omega), hg, ih.1]
    simp only [Option.bind_some]
    rw [hw, Int.toNat_natCast]
    have e : ((l.take i).map (fun x => bd x (B x)) ++ l.drop i).set i (bd l[i] (B l[i])) = (l.take (i + 1)).map (fun x => bd x (B x)) ++ l.drop (i + 1) := by
      rw [List.set_append_right _ _ (by omega), htl, Nat.sub_self, List.drop_eq_getElem_cons hlt, List.set_cons_zero, List.take_add_one, List.getElem?_eq_getElem hlt]
      simp only [Option.toList_some, List.map_append, List.map_cons, List.map_nil, List.append_assoc, List.cons_append, List.nil_append]
    have e2 : ((l.take i).map (fun x => bd x (B x)) ++ l.drop i).set i (⟨B l[i], l[i].f1, l[i].f2⟩ : GL) = (l.take (i + 1)).map (fun x => bd x (B x)) ++ l.drop (i + 1) := e
    rw [e2]
    exact ih.2
theorem bind_f (l : List GL) (nm vl : ByteArray) (B : GL → ByteArray) (hl : l.length ≤ 1000000) (hB : ∀ x ∈ l, Ev fun n => loop_bind.f n x.f0 nm vl = some (B x)) : Ev fun n => loop_Bind.f n l nm vl = some (l.map fun x => bd x (B x)) := by
  have := bind_ev l nm vl B hl hB l.length 0 (by omega) (by omega)
  refine ev_imp this fun n h => ?_
  unfold loop_Bind.f line_Line.f
  rw [if_pos (by omega)]
  simpa using h
end Go.Proofs.YtiedbnjoomcdbaaDoor.PureC
