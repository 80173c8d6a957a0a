/- Binding a name that is not used turns nothing, and a use of the name alone becomes the value: the printed law answers true. -/
import Derived.Test.YtiedbnjoomcdbaaDoorPureLoopU
set_option linter.unusedVariables false
set_option linter.unusedSimpArgs false
namespace Go.Proofs.YtiedbnjoomcdbaaDoor.PureC
open Go.RowKit Go.Proofs.YtiedbnjoomcdbaaDoor.PC Go.Proofs.YtiedbnjoomcdbaaDoorW.PrintWords Go.Proofs.YtiedbnjoomcdbaaDoorW.PrintLast Go.Proofs.YtiedbnjoomcdbaaDoor.Ba

/-! ### A use of the name alone -/
theorem name_l0 (nm : List UInt8) (hn : nm.length ≤ 1000) (hok : ∀ c ∈ nm, c ≠ 36 ∧ c ≠ 123 ∧ c ≠ 125) (l : List UInt8) (hl : l = 36 :: 123 :: (nm ++ [125, 98])) : ∀ (r p : List UInt8), nm = p ++ r →
    Ev fun k => PO.expand_whole.l0 k (S l) 123 125 0 ((p.length + 2 : Nat) : Int) = some (S (36 :: 123 :: (nm ++ [125])))
  | [], p, h => ev_all fun k => by
    have hp : p = nm := by rw [h]; simp
    subst hp
    have hs : l.length = p.length + 4 := by rw [hl]; simp
    have Hb : Hid (bt (S l) ((p.length + 2 : Nat) : Int) = (((125 : UInt8).toNat : Nat) : Int)) := Lib.hid (by
      have := bt_app (S l) (36 :: 123 :: p) [98] 125 (by rw [data_S, hl]; simp)
      exact this)
    have hx : (S l).extract 0 (p.length + 2 + 1) = S (36 :: 123 :: (p ++ [125])) := by
      have := S_take (S l) (36 :: 123 :: (p ++ [125])) [98] (by rw [data_S, hl]; simp)
      simpa using this
    rw [PO.expand_whole.l0, if_pos (by rw [S_size]; omega), if_pos (by omega), Hb.out, if_neg (by decide), if_neg (by decide), if_pos (by decide), if_pos (by rfl), w1 (p.length + 2) (by omega), if_pos (by omega), if_pos (by rw [S_size]; omega), Int.toNat_natCast, hx]
  | c :: r, p, h => by
    obtain ⟨c1, c2, c3⟩ := hok c (by rw [h]; simp)
    have hs : l.length = nm.length + 4 := by rw [hl]; simp
    have hnl : nm.length = p.length + (r.length + 1) := by rw [h]; simp
    have Hb : Hid (bt (S l) ((p.length + 2 : Nat) : Int) = ((c.toNat : Nat) : Int)) := Lib.hid (by
      have := bt_app (S l) (36 :: 123 :: p) (r ++ [125, 98]) c (by rw [data_S, hl, h]; simp)
      exact this)
    have g := name_l0 nm hn hok l hl r (p ++ [c]) (by rw [h]; simp)
    have e : (p ++ [c]).length + 2 = p.length + 2 + 1 := by simp only [List.length_append, List.length_cons, List.length_nil]
    rw [e] at g
    have d1 : ¬ ((c.toNat : Nat) : Int) = 36 := by rw [ue36]; exact c1
    have d2 : ¬ ((c.toNat : Nat) : Int) = 123 := fun e => c2 ((ue c 123).mp e)
    have d3 : ¬ ((c.toNat : Nat) : Int) = 125 := fun e => c3 ((ue c 125).mp e)
    have hpz : p.length + 2 ≤ 1000000 := by omega
    refine ev_step g fun k ih => ?_
    rw [PO.expand_whole.l0, if_pos (by clear d1 d2 d3; rw [S_size]; omega), if_pos (by clear d1 d2 d3; omega), Hb.out, if_neg d1, if_neg d2, if_neg d3, w1 (p.length + 2) hpz]
    exact ih
theorem qt_id : ∀ v : List UInt8, (∀ c ∈ v, c ≠ 36) → qt v = v
  | [], _ => rfl
  | c :: r, h => by rw [qt_cons, if_neg (h c (by simp)), qt_id r fun d hd => h d (by simp [hd])]; rfl
theorem alone (nm vl : List UInt8) (hn : nm.length ≤ 1000) (hv : vl.length ≤ 1000) (hok : ∀ c ∈ nm, c ≠ 36 ∧ c ≠ 123 ∧ c ≠ 125) (hvk : ∀ c ∈ vl, c ≠ 36) :
    Ev fun k => bindA k (97 :: 36 :: 123 :: (nm ++ [125, 98])) nm vl [] = some (97 :: (vl ++ [98])) := by
  have h0 := name_l0 nm hn hok _ rfl nm [] rfl
  have hW : Ev fun k => PO.expand_whole.f k (S (36 :: 123 :: (nm ++ [125, 98]))) = some (S (36 :: 123 :: (nm ++ [125]))) := ev_step h0 fun k ih => by
    rw [whole_step, if_pos (.inl rfl), if_pos rfl]
    exact ih
  have htk : (36 :: 123 :: (nm ++ [125, 98])).take (nm.length + 3) = 36 :: 123 :: (nm ++ [125]) := by
    have : (36 :: 123 :: (nm ++ [125, 98]) : List UInt8) = (36 :: 123 :: (nm ++ [125])) ++ [98] := by simp
    rw [this]
    exact List.take_left' (by simp)
  have hdr : (36 :: 123 :: (nm ++ [125, 98])).drop (nm.length + 3) = [98] := by
    have : (36 :: 123 :: (nm ++ [125, 98]) : List UInt8) = (36 :: 123 :: (nm ++ [125])) ++ [98] := by simp
    rw [this]
    exact List.drop_left' (by simp)
  have hU : UseG (36 :: 123 :: (nm ++ [125, 98])) (nm.length + 3) := ⟨by simp, by rw [htk]; exact hW⟩
  have hG := useG_S _ _ hU
  have hlast : Ev fun k => bindA k [98] nm vl ([] ++ [97] ++ qt vl) = some (97 :: (vl ++ [98])) := ev_all fun k => by
    rw [bindA_no k [98] nm vl _ (by simp) (by simp only [List.length_append, List.length_cons, List.length_nil]; have := qt_len vl; omega), qt_id vl hvk]
    simp
  refine ev_step (ev_and hG hlast) fun k ih => ?_
  have hI : isUse (36 :: 123 :: (nm ++ [125])) nm = true := by
    unfold isUse
    have : (36 :: 123 :: (nm ++ [125]) == [36, 123] ++ nm ++ [125]) = true := by simp
    rw [this]; rfl
  rw [bindA_at k (97 :: 36 :: 123 :: (nm ++ [125, 98])) [97] (123 :: (nm ++ [125, 98])) nm vl [] (nm.length + 3) rfl (by simp) (by simp only [List.length_append, List.length_cons, List.length_nil]; omega) hv (by simp) ih.1, htk, hdr, if_neg (by simp), if_pos hI]
  exact ih.2
/-! ### The law's loops -/
theorem l3_ev (nm vl : ByteArray) (hn : nm.size ≤ 500) (hv : vl.size ≤ 500) (hok : ∀ c ∈ nm.data.toList, c ≠ 36 ∧ c ≠ 123 ∧ c ≠ 125) : ∀ (r p : List UInt8), vl.data.toList = p ++ r → (∀ c ∈ p, c ≠ 36) → Ev fun k => bobstaylaw12_LoopUnused.l3 k nm vl (p.length : Int) = some true
  | [], p, h, hp => by
    have hs : vl.size = p.length := by rw [size_len, h]; simp
    have hpv : p = vl.data.toList := by rw [h]; simp
    have h1 := alone nm.data.toList vl.data.toList (by rw [← size_len]; omega) (by rw [← size_len]; omega) hok (by rw [← hpv]; exact hp)
    have et : (((⟨#[97, 36, 123]⟩ : ByteArray) ++ nm) ++ (⟨#[125, 98]⟩ : ByteArray)).data.toList = 97 :: 36 :: 123 :: (nm.data.toList ++ [125, 98]) := by
      rw [ByteArray.data_append, ByteArray.data_append]; simp
    rw [← et] at h1
    have h2 := bindG (((⟨#[97, 36, 123]⟩ : ByteArray) ++ nm) ++ (⟨#[125, 98]⟩ : ByteArray)) nm vl (by omega) (by omega) _ h1
    have h3 := bind_f [(⟨((⟨#[97, 36, 123]⟩ : ByteArray) ++ nm) ++ (⟨#[125, 98]⟩ : ByteArray), 0, false⟩ : GL)] nm vl (fun _ => S (97 :: (vl.data.toList ++ [98]))) (by simp) (fun x hx => by
      rw [List.mem_singleton] at hx
      subst hx
      exact h2)
    refine ev_step h3 fun k ih => ?_
    have s1 : ((⟨#[97, 36, 123]⟩ : ByteArray) ++ nm).size = 3 + nm.size := by rw [ByteArray.size_append]; rfl
    have s2 : ((⟨#[97]⟩ : ByteArray) ++ vl).size = 1 + vl.size := by rw [ByteArray.size_append]; rfl
    rw [bobstaylaw12_LoopUnused.l3, if_neg (by omega), if_pos (by omega), if_pos (by omega), ih, Option.bind_some, List.map_singleton, if_pos (by rfl), if_pos (by simp), if_pos (by omega), if_pos (by omega), if_pos (by
      show (S (97 :: (vl.data.toList ++ [98]))).toList = _
      rw [Lib.toList_data, data_S, Lib.toList_data, ByteArray.data_append, ByteArray.data_append]; simp), alive_f, Option.bind_some]
  | c :: r, p, h, hp => by
    have hs : vl.size = p.length + (r.length + 1) := by rw [size_len, h]; simp
    have Hb := Lib.hid (bt_app vl p r c h)
    by_cases hc : c = 36
    · refine ev_all fun k => ?_
      rw [bobstaylaw12_LoopUnused.l3, if_pos (by omega), if_pos (by omega), Hb.out, if_pos (by rw [ue36]; exact hc), alive_f, Option.bind_some]
    · have g := l3_ev nm vl hn hv hok r (p ++ [c]) (by rw [h]; simp) (fun d hd => by
        rcases List.mem_append.1 hd with e | e
        · exact hp d e
        · rw [List.mem_singleton.1 e]; exact hc)
      have e : (p ++ [c]).length = p.length + 1 := by simp
      rw [e] at g
      refine ev_step g fun k ih => ?_
      rw [bobstaylaw12_LoopUnused.l3, if_pos (by omega), if_pos (by omega), Hb.out, if_neg (by rw [ue36]; exact hc), w1 p.length (by omega)]
      exact ih
theorem l2_ev (nm vl : ByteArray) (hn : nm.size ≤ 500) (hv : vl.size ≤ 500) : ∀ (r p : List UInt8), nm.data.toList = p ++ r → (∀ c ∈ p, c ≠ 36 ∧ c ≠ 123 ∧ c ≠ 125) → Ev fun k => bobstaylaw12_LoopUnused.l2 k nm vl (p.length : Int) = some true
  | [], p, h, hp => by
    have hs : nm.size = p.length := by rw [size_len, h]; simp
    have hpv : p = nm.data.toList := by rw [h]; simp
    have g := l3_ev nm vl hn hv (by rw [← hpv]; exact hp) vl.data.toList [] rfl (by simp)
    refine ev_step g fun k ih => ?_
    rw [bobstaylaw12_LoopUnused.l2, if_neg (by omega)]
    exact ih
  | c :: r, p, h, hp => by
    have hs : nm.size = p.length + (r.length + 1) := by rw [size_len, h]; simp
    have Hb := Lib.hid (bt_app nm p r c h)
    by_cases hc : c = 36 ∨ c = 123 ∨ c = 125
    · refine ev_all fun k => ?_
      rw [bobstaylaw12_LoopUnused.l2, if_pos (by omega), if_pos (by omega), Hb.out, alive_f, Option.bind_some]
      rcases hc with e | e | e <;> rw [e] <;> rfl
    · have c1 : c ≠ 36 := fun e => hc (.inl e)
      have c2 : c ≠ 123 := fun e => hc (.inr (.inl e))
      have c3 : c ≠ 125 := fun e => hc (.inr (.inr e))
      have g := l2_ev nm vl hn hv r (p ++ [c]) (by rw [h]; simp) (fun d hd => by
        rcases List.mem_append.1 hd with e | e
        · exact hp d e
        · rw [List.mem_singleton.1 e]; exact ⟨c1, c2, c3⟩)
      have e : (p ++ [c]).length = p.length + 1 := by simp
      rw [e] at g
      have d1 : ¬ ((c.toNat : Nat) : Int) = 36 := by rw [ue36]; exact c1
      have d2 : ¬ ((c.toNat : Nat) : Int) = 123 := fun e => c2 ((ue c 123).mp e)
      have d3 : ¬ ((c.toNat : Nat) : Int) = 125 := fun e => c3 ((ue c 125).mp e)
      refine ev_step g fun k ih => ?_
      rw [bobstaylaw12_LoopUnused.l2, if_pos (by clear d1 d2 d3; omega), if_pos (by clear d1 d2 d3; omega), Hb.out, if_neg d1, if_neg d2, if_neg d3, w1 p.length (by clear d1 d2 d3; omega)]
      exact ih
theorem l1_ev (nm vl : ByteArray) (L : List GL) (l : List RL) (i : Nat) (hi : i < L.length) (hi2 : i ≤ 1000000) (x : RL) (hx : x.f0.size ≤ 2000) (hpl : (∀ c ∈ x.f0.data.toList, c ≠ 36) → (L[i].f0).toList = x.f0.toList)
    (hnext : Ev fun k => bobstaylaw12_LoopUnused.l0 k nm vl L l (l.length : Int) ((i + 1 : Nat) : Int) = some true) : ∀ (r p : List UInt8) (b : Bool), x.f0.data.toList = p ++ r → (b = true → ∀ c ∈ p, c ≠ 36) →
    Ev fun k => bobstaylaw12_LoopUnused.l1 k nm vl L (i : Int) b (p.length : Int) l (l.length : Int) (i : Int) x.f0 x.f1 x.f2 = some true
  | [], p, b, h, hb => by
    have hs : x.f0.size = p.length := by rw [size_len, h]; simp
    have hpv : p = x.f0.data.toList := by rw [h]; simp
    refine ev_step hnext fun k ih => ?_
    rw [bobstaylaw12_LoopUnused.l1, if_neg (by omega), w1 i hi2]
    cases b with
    | true =>
      rw [if_pos rfl, if_pos (by omega), if_pos (by omega), rdG L i hi, if_pos (hpl (by rw [← hpv]; exact hb rfl))]
      exact ih
    | false =>
      rw [if_neg Bool.false_ne_true]
      exact ih
  | c :: r, p, b, h, hb => by
    have hs : x.f0.size = p.length + (r.length + 1) := by rw [size_len, h]; simp
    have Hb := Lib.hid (bt_app x.f0 p r c h)
    have e : (p ++ [c]).length = p.length + 1 := by simp
    have hd : x.f0.data.toList = (p ++ [c]) ++ r := by rw [h]; simp
    cases b with
    | false =>
      have g := l1_ev nm vl L l i hi hi2 x hx hpl hnext r (p ++ [c]) false hd (fun e => by cases e)
      rw [e] at g
      refine ev_step g fun k ih => ?_
      rw [bobstaylaw12_LoopUnused.l1, if_pos (by omega), if_neg Bool.false_ne_true, w1 p.length (by omega)]
      exact ih
    | true =>
      have g := l1_ev nm vl L l i hi hi2 x hx hpl hnext r (p ++ [c]) (((c.toNat : Nat) : Int) != 36) hd (fun hh d hd => by
        rcases List.mem_append.1 hd with e | e
        · exact hb rfl d e
        · rw [List.mem_singleton.1 e]
          intro e
          rw [e] at hh
          exact absurd hh (by decide))
      rw [e] at g
      refine ev_step g fun k ih => ?_
      rw [bobstaylaw12_LoopUnused.l1, if_pos (by omega), if_pos rfl, if_pos (by omega), Hb.out, w1 p.length (by omega)]
      exact ih
theorem l0_ev (nm vl : ByteArray) (hn : nm.size ≤ 500) (hv : vl.size ≤ 500) (l : List RL) (B : ByteArray → ByteArray) (hl : l.length ≤ 400) (h2 : ∀ x ∈ l, x.f0.size ≤ 2000) (hB : ∀ x ∈ l, (∀ c ∈ x.f0.data.toList, c ≠ 36) → B x.f0 = x.f0) : ∀ (m i : Nat), l.length - i = m → i ≤ l.length →
    Ev fun k => bobstaylaw12_LoopUnused.l0 k nm vl ((l.map cv).map fun x => bd x (B x.f0)) l (l.length : Int) (i : Int) = some true
  | 0, i, hm, hi => by
    have : i = l.length := by omega
    subst this
    refine ev_step (l2_ev nm vl hn hv nm.data.toList [] rfl (by simp)) fun k ih => ?_
    rw [bobstaylaw12_LoopUnused.l0, if_neg (by omega)]
    exact ih
  | m + 1, i, hm, hi => by
    have hlt : i < l.length := by omega
    have hL : ((l.map cv).map fun x => bd x (B x.f0)).length = l.length := by rw [List.length_map, List.length_map]
    have hg : ((l.map cv).map fun x => bd x (B x.f0))[i]'(by rw [hL]; exact hlt) = bd (cv l[i]) (B l[i].f0) := by rw [List.getElem_map, List.getElem_map]; rfl
    have g := l1_ev nm vl ((l.map cv).map fun x => bd x (B x.f0)) l i (by rw [hL]; exact hlt) (by omega) l[i] (h2 l[i] (List.getElem_mem hlt)) (fun hc => by
      rw [hg]
      show (B l[i].f0).toList = _
      rw [hB l[i] (List.getElem_mem hlt) hc]) (l0_ev nm vl hn hv l B hl h2 hB m (i + 1) (by omega) (by omega)) l[i].f0.data.toList [] true rfl (fun _ => by simp)
    refine ev_step g fun k ih => ?_
    rw [bobstaylaw12_LoopUnused.l0, if_pos (by omega), if_pos (by omega), if_pos (by omega), if_pos (by rw [hL]; omega), rdG _ i (by rw [hL]; exact hlt), hg, rdR l i hlt, if_pos (by rfl), if_neg (by show ¬ (l[i].f2 != l[i].f2) = true; simp)]
    exact ih
theorem bindU (nm vl : ByteArray) (hn : nm.size ≤ 1000) (hv : vl.size ≤ 1000) (s : ByteArray) : ∃ r : ByteArray, s.size ≤ 2000 → (Ev fun k => loop_bind.f k s nm vl = some r) ∧ ((∀ c ∈ s.data.toList, c ≠ 36) → r = s) := by
  by_cases hs : s.size ≤ 2000
  · by_cases hc : ∀ c ∈ s.data.toList, c ≠ 36
    · refine ⟨s, fun _ => ⟨?_, fun _ => rfl⟩⟩
      have := bindG s nm vl hn hv s.data.toList (ev_all fun k => by
        rw [bindA_no k s.data.toList nm.data.toList vl.data.toList [] hc (by rw [← size_len]; simp only [List.length_nil]; omega), List.nil_append])
      rw [S_data] at this
      exact this
    · obtain ⟨res, g⟩ := bind_some nm.data.toList vl.data.toList (by rw [← size_len]; exact hv) s.size s.data.toList [] (Nat.le_of_eq (size_len s).symm) (by rw [← size_len]; omega) (by rw [← size_len]; simp only [List.length_nil]; omega)
      exact ⟨S res, fun _ => ⟨bindG s nm vl hn hv res g, fun h => absurd h hc⟩⟩
  · exact ⟨s, fun h => absurd h hs⟩
theorem LoopUnused (l : List RL) (nm vl : ByteArray) (hl : l.length ≤ 1000000) (hn : nm.size ≤ 2000000) (hv : vl.size ≤ 2000000) : Ev fun k => bobstaylaw12_LoopUnused.f k l nm vl = some true := by
  obtain ⟨b, hf, hb⟩ := far_f l hl
  cases b with
  | true =>
    refine ev_imp hf fun k h => ?_
    unfold bobstaylaw12_LoopUnused.f
    rw [h, Option.bind_some, if_pos rfl, alive_f, Option.bind_some]
  | false =>
    obtain ⟨h400, h2000⟩ := hb rfl
    by_cases h5 : nm.size + vl.size > 500
    · refine ev_imp hf fun k h => ?_
      unfold bobstaylaw12_LoopUnused.f
      rw [h, Option.bind_some, if_neg Bool.false_ne_true, w500 nm.size vl.size (by omega), if_pos (by omega), alive_f, Option.bind_some]
    · have hrel := fun s : ByteArray => bindU nm vl (by omega) (by omega) s
      obtain ⟨B, hB⟩ := Classical.axiomOfChoice hrel
      have t1 := theirs_f l hl
      have t2 := bind_f (l.map cv) nm vl (fun x => B x.f0) (by rw [List.length_map]; exact hl) (fun x hx => by
        obtain ⟨y, hy, rfl⟩ := List.mem_map.1 hx
        exact (hB y.f0 (h2000 y hy)).1)
      have t3 := l0_ev nm vl (by omega) (by omega) l B h400 h2000 (fun x hx => (hB x.f0 (h2000 x hx)).2) l.length 0 (by omega) (by omega)
      refine ev_imp (ev_and hf (ev_and t1 (ev_and t2 t3))) fun k ⟨h, a1, a2, a3⟩ => ?_
      unfold bobstaylaw12_LoopUnused.f
      rw [h, Option.bind_some, if_neg Bool.false_ne_true, w500 nm.size vl.size (by omega), if_neg (by omega), a1, Option.bind_some, a2, Option.bind_some, if_pos (by rw [List.length_map, List.length_map])]
      exact a3
def mkR (x : ByteArray × Int × Bool) : RL := ⟨x.1, x.2.1, x.2.2⟩
theorem rowR {W : World} {A : Option Addr} {cap : Nat} {ls : List (ByteArray × Int × Bool)} (h : LineRow W A cap ls) : Kd.C k33 W A (ls.map mkR).length (ls.map mkR) := by
  obtain ⟨h1, h2, h3⟩ := h
  refine ⟨rfl, by rw [List.length_map]; exact h2, fun hn => ?_⟩
  rw [List.length_map] at hn
  obtain ⟨ad, rfl, hc⟩ := h3 hn
  refine ⟨ad, rfl, fun j p hp => ?_⟩
  rw [List.getElem?_map, Option.map_eq_some_iff] at hp
  obtain ⟨x, hx, rfl⟩ := hp
  obtain ⟨q0, q1, q2⟩ := hc j x hx
  refine ⟨_, rfl, k33_mk W (mkR x), fun i u hu => ?_⟩
  match i, hu with
  | 0, hu => simp at hu; subst hu; exact q0
  | 1, hu => simp at hu; subst hu; exact q1
  | 2, hu => simp at hu; subst hu; exact q2
theorem tot_len : ∀ ls : List (ByteArray × Int × Bool), 4 * ls.length ≤ totL ls
  | [] => by simp
  | x :: ls => by
    have ih := tot_len ls
    rw [show totL (x :: ls) = x.1.size + 4 + totL ls by simp [totL], List.length_cons]
    omega
theorem LoopUnusedWalk (W : World) (A : Option Addr) (cap : Nat) (ls : List (ByteArray × Int × Bool)) (hr : LineRow W A cap ls) (nm : ByteArray) (_ : nm.size ≤ 140737488351232) (vl : ByteArray) (_ : vl.size ≤ 140737488351232)
    (hl : totL ls ≤ 1048576) (hn : nm.size + 1 ≤ 1048576) (hv : vl.size + 1 ≤ 1048576) :
    Calls Tryd.prog 4 #[.slice A ls.length cap, .string nm, .string vl] W fun e W' => e = .returned (.bool true) ∧ Below W.heap.size W W' := by
  have t1 := tot_len ls
  have l1 : (ls.map mkR).length ≤ 1000000 := by rw [List.length_map]; generalize totL ls = X at *; omega
  obtain ⟨N, hN⟩ := LoopUnused (ls.map mkR) nm vl l1 (by omega) (by omega)
  have len1 : (ls.map mkR).length = ls.length := List.length_map _
  have := bobstaylaw12_LoopUnused.calls N A cap (ls.map mkR) nm vl true W (rowR hr) (by rw [len1]; exact hr.1) (hN N (Nat.le_refl _))
  rw [len1] at this
  exact this
end Go.Proofs.YtiedbnjoomcdbaaDoor.PureC
