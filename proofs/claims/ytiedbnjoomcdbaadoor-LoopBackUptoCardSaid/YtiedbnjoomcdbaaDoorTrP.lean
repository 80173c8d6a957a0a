/- Blocks of lines as trees, and their kinds in memory (generic in the types' numbers). -/
import Derived.Test.YtiedbnjoomcdbaaDoorPTx0
set_option linter.unusedVariables false
set_option linter.unusedSimpArgs false
namespace Go.Proofs.YtiedbnjoomcdbaaDoor.Tr
open Go.RowKit Go.Proofs.YtiedbnjoomcdbaaDoorW.PrintWords Go.Proofs.YtiedbnjoomcdbaaDoorW.PrintLast Go.Proofs.YtiedbnjoomcdbaaDoorW.PrintMore

abbrev Ln := PT.S34
mutual
inductive Nd where
  | mk (k : Int) (l : Ln) (brs : List Br) (names : List ByteArray) (list : ByteArray) (kids : List Nd)
inductive Br where
  | mk (w t : ByteArray) (a : Int) (kids : List Nd)
end
def ndF : Nd → Int × ByteArray × Int × Bool × List Br × List ByteArray × ByteArray × List Nd
  | .mk k l b n li ks => (k, l.f0, l.f1, l.f2, b, n, li, ks)
def brF : Br → ByteArray × ByteArray × Int × List Nd
  | .mk w t a ks => (w, t, a, ks)
section
variable (TS TB TN : Nat)
def brK (d : Kd Nd) : Kd Br := Kd.iso (Kd.pair Kd.string (Kd.pair Kd.string (Kd.pair (Kd.int .i64) (Kd.slice TN d)))) brF
def ndK (d : Kd Nd) : Kd Nd := Kd.iso (Kd.pair (Kd.int .i64) (Kd.pair Kd.string (Kd.pair (Kd.int .i64) (Kd.pair Kd.bool (Kd.pair (Kd.slice TB (brK TN d)) (Kd.pair (Kd.slice TS Kd.string) (Kd.pair Kd.string (Kd.slice TN d)))))))) ndF
theorem nil_E {α : Type} {d : Kd α} (h : d.E = []) : ∀ q, q ∈ d.E → q ∈ ([TS, TB, TN] : List Nat) := fun q hq => by rw [h] at hq; cases hq
theorem brK_sub : Kd.Sub (brK TN) [TS, TB, TN] :=
  Kd.sub_iso _ (Kd.sub_pair (Kd.sub_const _ (nil_E _ _ _ rfl)) (Kd.sub_pair (Kd.sub_const _ (nil_E _ _ _ rfl)) (Kd.sub_pair (Kd.sub_const _ (nil_E _ _ _ rfl)) (Kd.sub_slice _ (by simp) Kd.sub_id))))
theorem ndK_sub : Kd.Sub (ndK TS TB TN) [TS, TB, TN] :=
  Kd.sub_iso _ (Kd.sub_pair (Kd.sub_const _ (nil_E _ _ _ rfl)) (Kd.sub_pair (Kd.sub_const _ (nil_E _ _ _ rfl)) (Kd.sub_pair (Kd.sub_const _ (nil_E _ _ _ rfl)) (Kd.sub_pair (Kd.sub_const _ (nil_E _ _ _ rfl))
    (Kd.sub_pair (Kd.sub_slice _ (by simp) (brK_sub TS TB TN)) (Kd.sub_pair (Kd.sub_slice _ (by simp) (Kd.sub_const _ (nil_E _ _ _ rfl))) (Kd.sub_pair (Kd.sub_const _ (nil_E _ _ _ rfl)) (Kd.sub_slice _ (by simp) Kd.sub_id))))))))
theorem brK_mono : Kd.Mono (brK TN) := Kd.mono_iso _ (Kd.mono_pair (Kd.mono_const _) (Kd.mono_pair (Kd.mono_const _) (Kd.mono_pair (Kd.mono_const _) (Kd.mono_slice _ Kd.mono_id))))
theorem ndK_mono : Kd.Mono (ndK TS TB TN) := Kd.mono_iso _ (Kd.mono_pair (Kd.mono_const _) (Kd.mono_pair (Kd.mono_const _) (Kd.mono_pair (Kd.mono_const _) (Kd.mono_pair (Kd.mono_const _) (Kd.mono_pair (Kd.mono_slice _ (brK_mono TN)) (Kd.mono_pair (Kd.mono_slice _ (Kd.mono_const _)) (Kd.mono_pair (Kd.mono_const _) (Kd.mono_slice _ Kd.mono_id))))))))
theorem uptoSz (n : Nat) : (Kd.upto (ndK TS TB TN) 8 [TS, TB, TN] n).sz = 8 := Kd.upto_sz (F := ndK TS TB TN) (sz := 8) (E := [TS, TB, TN]) (fun _ => rfl) n
def knd : Kd Nd := Kd.fix (ndK TS TB TN) 8 [TS, TB, TN] (Kd.upto_sz (fun _ => rfl)) (Kd.upto_E (ndK_sub TS TB TN))
def kbr : Kd Br := brK TN (knd TS TB TN)
variable {TS TB TN : Nat} {w : World} {base : Nat} {ok : Nat → Prop}
theorem kbr_mk {wd t : ByteArray} {a : Int} {l : List Nd} {vk : Value} (hk : Kd.R (knd TS TB TN) TN w base ok vk l) : (kbr TS TB TN).M w base ok (.mk wd t a l) [.string wd, .string t, .int .i64 a, vk] :=
  ⟨[_], [_, _, _], rfl, rfl, [_], [_, _], rfl, rfl, [_], [_], rfl, rfl, ⟨_, rfl, hk⟩⟩
theorem kbr_openM {x : Br} {cs : List Value} (h : (kbr TS TB TN).M w base ok x cs) : ∃ vk, cs = [.string (brF x).1, .string (brF x).2.1, .int .i64 (brF x).2.2.1, vk] ∧ Kd.R (knd TS TB TN) TN w base ok vk (brF x).2.2.2 := by
  obtain ⟨_, _, rfl, rfl, _, _, rfl, rfl, _, _, rfl, rfl, ⟨vk, rfl, hk⟩⟩ := h
  exact ⟨vk, rfl, hk⟩
theorem brs_back {v : Value} {l : List Br} (h : Kd.R (kbr TS TB TN) TB w base ok v l) : ∃ n, Kd.R (brK TN (Kd.upto (ndK TS TB TN) 8 [TS, TB, TN] n)) TB w base ok v l := by
  obtain ⟨h0, inner, ho, hr⟩ := h
  obtain ⟨N, hN⟩ := Kd.reps_bounded (R := fun n p c => (brK TN (Kd.upto (ndK TS TB TN) 8 [TS, TB, TN] n)).M w base (fun k => ok k ∧ some k ≠ v.ownBlock) p c)
    (fun n m p c hnm hp => (brK_mono TN).M _ _ ((uptoSz TS TB TN n).trans (uptoSz TS TB TN m).symm) (fun w base ok x cs hx => Kd.upto_M_le (ndK_mono TS TB TN) (Kd.upto_sz (fun _ => rfl)) hnm hx) _ _ _ _ _ hp)
    (hr.imp_ (fun p c hp => by
      obtain ⟨_, _, rfl, e1, _, _, rfl, e2, _, _, rfl, e3, ⟨vk, rfl, hk⟩⟩ := hp
      obtain ⟨n, hn⟩ := Kd.fix_R_back (ndK_mono TS TB TN) hk
      exact ⟨n, _, _, rfl, e1, _, _, rfl, e2, _, _, rfl, e3, ⟨vk, rfl, hn⟩⟩))
  exact ⟨N, h0, inner, ho, hN⟩
theorem ndK_mk {D : Kd Nd} {k : Int} {l : Ln} {b : List Br} {n : List ByteArray} {li : ByteArray} {ks : List Nd} {vb vn vk : Value} (hb : Kd.R (brK TN D) TB w base ok vb b) (hn : Kd.R Kd.string TS w base ok vn n) (hk : Kd.R D TN w base ok vk ks) :
    (ndK TS TB TN D).M w base ok (.mk k l b n li ks) [.int .i64 k, .string l.f0, .int .i64 l.f1, .bool l.f2, vb, vn, .string li, vk] := by
  have e8 : (Kd.slice TN D).M w base ok ks [vk] := ⟨_, rfl, hk⟩
  have e7 : (Kd.pair Kd.string (Kd.slice TN D)).M w base ok (li, ks) [.string li, vk] := ⟨[_], [_], rfl, rfl, e8⟩
  have e6 : (Kd.pair (Kd.slice TS Kd.string) (Kd.pair Kd.string (Kd.slice TN D))).M w base ok (n, li, ks) [vn, .string li, vk] := ⟨[_], [_, _], rfl, ⟨_, rfl, hn⟩, e7⟩
  have e5 : (Kd.pair (Kd.slice TB (brK TN D)) (Kd.pair (Kd.slice TS Kd.string) (Kd.pair Kd.string (Kd.slice TN D)))).M w base ok (b, n, li, ks) [vb, vn, .string li, vk] := ⟨[_], [_, _, _], rfl, ⟨_, rfl, hb⟩, e6⟩
  exact ⟨[_], [_, _, _, _, _, _, _], rfl, rfl, [_], [_, _, _, _, _, _], rfl, rfl, [_], [_, _, _, _, _], rfl, rfl, [_], [_, _, _, _], rfl, rfl, e5⟩
theorem brs_le {n m : Nat} (hnm : n ≤ m) {v : Value} {l : List Br} (h : Kd.R (brK TN (Kd.upto (ndK TS TB TN) 8 [TS, TB, TN] n)) TB w base ok v l) : Kd.R (brK TN (Kd.upto (ndK TS TB TN) 8 [TS, TB, TN] m)) TB w base ok v l :=
  Kd.R_imp (d := brK TN (Kd.upto (ndK TS TB TN) 8 [TS, TB, TN] n)) (d' := brK TN (Kd.upto (ndK TS TB TN) 8 [TS, TB, TN] m)) rfl
    (fun w base ok x cs hp => (brK_mono TN).M _ _ ((uptoSz TS TB TN _).trans (uptoSz TS TB TN _).symm) (fun w base ok x cs hx => Kd.upto_M_le (ndK_mono TS TB TN) (uptoSz TS TB TN) hnm hx) _ _ _ _ _ hp) h
theorem knd_up {n : Nat} {x : Nd} {cs : List Value} (h : (ndK TS TB TN (Kd.upto (ndK TS TB TN) 8 [TS, TB, TN] n)).M w base ok x cs) : (knd TS TB TN).M w base ok x cs := ⟨n + 1, h⟩
theorem knd_mk {k : Int} {l : Ln} {b : List Br} {n : List ByteArray} {li : ByteArray} {ks : List Nd} {vb vn vk : Value} (hb : Kd.R (kbr TS TB TN) TB w base ok vb b) (hn : Kd.R Kd.string TS w base ok vn n) (hk : Kd.R (knd TS TB TN) TN w base ok vk ks) :
    (knd TS TB TN).M w base ok (.mk k l b n li ks) [.int .i64 k, .string l.f0, .int .i64 l.f1, .bool l.f2, vb, vn, .string li, vk] := by
  obtain ⟨n1, h1⟩ := brs_back hb
  obtain ⟨n2, h2⟩ := Kd.fix_R_back (ndK_mono TS TB TN) hk
  have h1' := brs_le (Nat.le_max_left n1 n2) h1
  have h2' := Kd.upto_R_le (ndK_mono TS TB TN) (uptoSz TS TB TN) (Nat.le_max_right n1 n2) h2
  generalize max n1 n2 = N at h1' h2'
  exact knd_up (n := N) (ndK_mk h1' hn h2')
theorem kbr_open {x : Br} {cs : List Value} (h : (kbr TS TB TN).K w x cs) : ∃ Ak ck, cs = [.string (brF x).1, .string (brF x).2.1, .int .i64 (brF x).2.2.1, .slice Ak (brF x).2.2.2.length ck] ∧ (brF x).2.2.2.length ≤ ck ∧ Kd.C (knd TS TB TN) w Ak (brF x).2.2.2.length (brF x).2.2.2 := by
  obtain ⟨_, _, rfl, rfl, _, _, rfl, rfl, _, _, rfl, rfl, ⟨Ak, ck, rfl, h1, h2⟩⟩ := h
  exact ⟨Ak, ck, rfl, h1, h2⟩
theorem knd_open {x : Nd} {cs : List Value} (h : (knd TS TB TN).K w x cs) : ∃ Ab cb An cn Ak ck, cs = [.int .i64 (ndF x).1, .string (ndF x).2.1, .int .i64 (ndF x).2.2.1, .bool (ndF x).2.2.2.1, .slice Ab (ndF x).2.2.2.2.1.length cb, .slice An (ndF x).2.2.2.2.2.1.length cn, .string (ndF x).2.2.2.2.2.2.1, .slice Ak (ndF x).2.2.2.2.2.2.2.length ck] ∧
    ((ndF x).2.2.2.2.1.length ≤ cb ∧ (ndF x).2.2.2.2.2.1.length ≤ cn ∧ (ndF x).2.2.2.2.2.2.2.length ≤ ck) ∧ Kd.C (kbr TS TB TN) w Ab (ndF x).2.2.2.2.1.length (ndF x).2.2.2.2.1 ∧ Kd.C Kd.string w An (ndF x).2.2.2.2.2.1.length (ndF x).2.2.2.2.2.1 ∧ Kd.C (knd TS TB TN) w Ak (ndF x).2.2.2.2.2.2.2.length (ndF x).2.2.2.2.2.2.2 := by
  obtain ⟨n, h⟩ := h
  cases n with
  | zero => exact h.elim
  | succ n =>
    obtain ⟨_, _, rfl, rfl, _, _, rfl, rfl, _, _, rfl, rfl, _, _, rfl, rfl, _, _, rfl, ⟨Ab, cb, rfl, h1, h2⟩, _, _, rfl, ⟨An, cn, rfl, h3, h4⟩, _, _, rfl, rfl, ⟨Ak, ck, rfl, h5, h6⟩⟩ := h
    refine ⟨Ab, cb, An, cn, Ak, ck, rfl, ⟨h1, h3, h5⟩, ?_, h4, Kd.fix_C h6⟩
    exact Kd.C_imp (d := brK TN (Kd.upto (ndK TS TB TN) 8 [TS, TB, TN] n)) (d' := kbr TS TB TN) rfl (fun w x cs hp => by
      obtain ⟨_, _, rfl, e1, _, _, rfl, e2, _, _, rfl, e3, ⟨Ak, ck, rfl, h1, h2⟩⟩ := hp
      exact ⟨_, _, rfl, e1, _, _, rfl, e2, _, _, rfl, e3, ⟨Ak, ck, rfl, h1, Kd.fix_C h2⟩⟩) h2
end
end Go.Proofs.YtiedbnjoomcdbaaDoor.Tr
set_option linter.unusedVariables false
set_option linter.unusedSimpArgs false
namespace Go.Proofs.YtiedbnjoomcdbaaDoor.Tr
open Go.RowKit Go.Proofs.YtiedbnjoomcdbaaDoor.PT Go.Proofs.YtiedbnjoomcdbaaDoorW.PrintWords Go.Proofs.YtiedbnjoomcdbaaDoorW.PrintLast Go.Proofs.YtiedbnjoomcdbaaDoor.Ba Go.Proofs.YtiedbnjoomcdbaaDoor

def Ev (P : Nat → Prop) : Prop := ∃ N, ∀ n, N ≤ n → P n
theorem ev_all {P : Nat → Prop} (h : ∀ n, P (n + 1)) : Ev P := ⟨1, fun n hn => by obtain ⟨k, rfl⟩ : ∃ k, n = k + 1 := ⟨n - 1, by omega⟩; exact h k⟩
theorem ev_step {P Q : Nat → Prop} (h : Ev P) (s : ∀ n, P n → Q (n + 1)) : Ev Q := by
  obtain ⟨N, hN⟩ := h
  refine ⟨N + 1, fun n hn => ?_⟩
  obtain ⟨k, rfl⟩ : ∃ k, n = k + 1 := ⟨n - 1, by omega⟩
  exact s k (hN k (by omega))
theorem ev_imp {P Q : Nat → Prop} (h : Ev P) (s : ∀ n, P n → Q n) : Ev Q := by
  obtain ⟨N, hN⟩ := h
  exact ⟨N, fun n hn => s n (hN n hn)⟩
theorem ev_and {P Q : Nat → Prop} (h : Ev P) (g : Ev Q) : Ev fun n => P n ∧ Q n := by
  obtain ⟨N, hN⟩ := h
  obtain ⟨M, hM⟩ := g
  exact ⟨N + M, fun n hn => ⟨hN n (by omega), hM n (by omega)⟩⟩

theorem bt_get (s : ByteArray) (i : Nat) (h : i < s.size) : bt s i = ((s[i]).toNat : Int) := by
  rw [← bt_at s i h]; rfl
theorem v64 {x : Int} (h : 0 ≤ x) (h' : x ≤ 1000000000000) : wrap64 (x + 1) = x + 1 := by unfold wrap64; omega
theorem v64' {x : Int} (h : 0 ≤ x) (h' : x ≤ 1000000000000) : wrap64 x = x := by unfold wrap64; omega
theorem ue (c : UInt8) (k : UInt8) : (((c.toNat : Nat) : Int) = ((k.toNat : Nat) : Int)) = (c = k) := by
  apply propext
  constructor
  · intro h; exact UInt8.toNat_inj.mp (by omega)
  · rintro rfl; rfl
theorem S_nil (l : List UInt8) : ((S l).toList = ([] : List UInt8)) = (l = []) := by rw [Lib.toList_data, data_S]
theorem S_cat (a b : List UInt8) : S a ++ S b = S (a ++ b) := by
  apply ba_ext; rw [data_S]; simp [data_S]
theorem size_app (s : ByteArray) (p t : List UInt8) (h : s.data.toList = p ++ t) : s.size = p.length + t.length := by rw [size_len, h, List.length_append]
theorem get_data (s : ByteArray) (i : Nat) (h : i < s.size) : s[i] = s.data.toList[i]'(by rw [← size_len]; exact h) := by
  simp [ByteArray.getElem_eq_getElem_data]
theorem bt_app (s : ByteArray) (p t : List UInt8) (c : UInt8) (h : s.data.toList = p ++ c :: t) : bt s (p.length : Int) = ((c.toNat : Nat) : Int) := by
  have hl := size_app s p (c :: t) h
  rw [List.length_cons] at hl
  have hlt : p.length < s.size := by omega
  rw [bt_get s p.length hlt, get_data]
  simp only [h]
  simp
def pnums (l : List UInt8) : List Int := l.map fun c => ((c.toNat : Nat) : Int)
theorem strOf_pnums (l : List UInt8) : strOfNums (pnums l) = S l := by
  apply ba_ext
  rw [data_S]
  unfold strOfNums pnums
  simp [List.map_map, Function.comp_def]
theorem pn_snoc (a : List UInt8) (c : UInt8) : pnums a ++ [((c.toNat : Nat) : Int)] = pnums (a ++ [c]) := by simp [pnums]
theorem pn_len (a : List UInt8) : (pnums a).length = a.length := by simp [pnums]

abbrev RL := PT.S33
abbrev GL := PT.S34
def cv (x : RL) : GL := ⟨x.f0, x.f1, x.f2⟩
def vc (x : GL) : RL := ⟨x.f0, x.f1, x.f2⟩
def tr (x : RL) : ByteArray × Int × Bool := (x.f0, x.f1, x.f2)
theorem rdR (l : List RL) (i : Nat) (h : i < l.length) : rd_T33 l (i : Int) = l[i] := by
  unfold rd_T33
  simp [List.getD_eq_getElem?_getD, h]
theorem rdG (l : List GL) (i : Nat) (h : i < l.length) : rd_T34 l (i : Int) = l[i] := by
  unfold rd_T34
  simp [List.getD_eq_getElem?_getD, h]
/-! ### The lines, turned -/
theorem theirs_ev (l : List RL) (hl : l.length ≤ 1000000) : ∀ (m i : Nat), l.length - i = m → i ≤ l.length →
    Ev fun n => bobstaylaw12_theirs.l0 n ((l.take i).map cv) l (l.length : Int) (i : Int) = some (l.map cv)
  | 0, i, hm, hi => ev_all fun n => by
    have : i = l.length := by omega
    subst this
    rw [bobstaylaw12_theirs.l0, if_neg (by omega), List.take_length]
  | m + 1, i, hm, hi => by
    have hlt : i < l.length := by omega
    refine ev_step (theirs_ev l hl m (i + 1) (by omega) (by omega)) fun n ih => ?_
    have hw : wrap64 ((i : Int) + 1) = ((i + 1 : Nat) : Int) := by rw [v64 (by omega) (by omega)]; omega
    rw [bobstaylaw12_theirs.l0, if_pos (by omega), if_pos (by omega), if_pos (by omega), if_pos (by rw [List.length_map, List.length_take]; omega), rdR l i hlt, hw]
    have e : (l.take (i + 1)).map cv = (l.take i).map cv ++ [cv l[i]] := by
      rw [List.take_add_one, List.getElem?_eq_getElem hlt]; simp only [Option.toList_some, List.map_append, List.map_cons, List.map_nil]
    rw [e] at ih
    exact ih
theorem theirs_f (l : List RL) (hl : l.length ≤ 1000000) : Ev fun n => bobstaylaw12_theirs.f n l = some (l.map cv) := by
  have := theirs_ev l hl l.length 0 (by omega) (by omega)
  exact ev_imp this fun n h => by unfold bobstaylaw12_theirs.f; simpa using h
/-! ### Whether lines are too many, or too long -/
theorem far_ev (l : List RL) (hl : l.length ≤ 1000000) : ∀ (m i : Nat), l.length - i = m → i ≤ l.length → (∀ j (h : j < l.length), j < i → l[j].f0.size ≤ 2000) →
    ∃ b, (Ev fun n => bobstaylaw12_far.l0 n l l (l.length : Int) (i : Int) = some b) ∧ (b = false → l.length ≤ 400 ∧ ∀ x ∈ l, x.f0.size ≤ 2000)
  | 0, i, hm, hi, hs => by
    have : i = l.length := by omega
    subst this
    refine ⟨decide ((l.length : Int) > 400), ev_all fun n => ?_, fun h => ⟨?_, fun x hx => ?_⟩⟩
    · rw [bobstaylaw12_far.l0, if_neg (by omega)]
    · have := of_decide_eq_false h
      omega
    · obtain ⟨j, hj, rfl⟩ := List.mem_iff_getElem.1 hx
      exact hs j hj hj
  | m + 1, i, hm, hi, hs => by
    have hlt : i < l.length := by omega
    by_cases hb : (l[i].f0.size : Int) > 2000
    · exact ⟨true, ev_all fun n => by rw [bobstaylaw12_far.l0, if_pos (by omega), if_pos (by omega), if_pos (by omega), rdR l i hlt, if_pos hb], fun h => by cases h⟩
    · obtain ⟨b, h1, h2⟩ := far_ev l hl m (i + 1) (by omega) (by omega) (fun j hj hji => by
        by_cases e : j = i
        · subst e; omega
        · exact hs j hj (by omega))
      refine ⟨b, ev_step h1 fun n ih => ?_, h2⟩
      have hw : wrap64 ((i : Int) + 1) = ((i + 1 : Nat) : Int) := by rw [v64 (by omega) (by omega)]; omega
      rw [bobstaylaw12_far.l0, if_pos (by omega), if_pos (by omega), if_pos (by omega), rdR l i hlt, if_neg hb, hw]
      exact ih
theorem far_f (l : List RL) (hl : l.length ≤ 1000000) : ∃ b, (Ev fun n => bobstaylaw12_far.f n l = some b) ∧ (b = false → l.length ≤ 400 ∧ ∀ x ∈ l, x.f0.size ≤ 2000) := by
  obtain ⟨b, h1, h2⟩ := far_ev l hl l.length 0 (by omega) (by omega) (fun j _ h => by omega)
  exact ⟨b, ev_imp h1 fun n h => by unfold bobstaylaw12_far.f; exact h, h2⟩

/-! ### The words of a directive -/
def bl (c : UInt8) : Bool := c == 32 || c == 9
def stopB (c : UInt8) : Bool := c == 32 || c == 9 || c == 40 || c == 33 || c == 34
def dirR (u : List UInt8) : List UInt8 × List UInt8 :=
  if u.takeWhile (fun c => !ns c) = [] then ([], []) else match u.dropWhile (fun c => !ns c) with
  | [] => (u.takeWhile (fun c => !ns c), [])
  | b :: q => if stopB b = true then (u.takeWhile (fun c => !ns c), (b :: q).dropWhile bl) else ([], [])
def dirL (t : List UInt8) (c : Bool) : List UInt8 × List UInt8 :=
  if c = true then ([], []) else match t with
  | [] => ([], [])
  | a :: r => if a = 46 then dirR (r.dropWhile bl) else ([], [])
def dirP (x : GL) : ByteArray × ByteArray := (S (dirL x.f0.data.toList x.f2).1, S (dirL x.f0.data.toList x.f2).2)
theorem split_ns : ∀ u : List UInt8, (∀ c ∈ u, ns c = false) ∨ ∃ p b q, u = p ++ b :: q ∧ (∀ c ∈ p, ns c = false) ∧ ns b = true
  | [] => .inl (fun c h => by cases h)
  | c :: u => by
    cases hc : ns c with
    | true => exact .inr ⟨[], c, u, rfl, (fun d h => by cases h), hc⟩
    | false =>
      rcases split_ns u with h | ⟨p, b, q, rfl, hp, hb⟩
      · left
        intro d hd
        rcases List.mem_cons.1 hd with rfl | hd
        · exact hc
        · exact h d hd
      · refine .inr ⟨c :: p, b, q, rfl, fun d hd => ?_, hb⟩
        rcases List.mem_cons.1 hd with rfl | hd
        · exact hc
        · exact hp d hd
theorem tw_all {p : List UInt8} (h : ∀ c ∈ p, ns c = false) : p.takeWhile (fun c => !ns c) = p ∧ p.dropWhile (fun c => !ns c) = [] := by
  induction p with
  | nil => exact ⟨rfl, rfl⟩
  | cons c p ih =>
    have hc := h c List.mem_cons_self
    have := ih (fun d hd => h d (List.mem_cons_of_mem _ hd))
    simp [List.takeWhile_cons, List.dropWhile_cons, hc, this.1, this.2]
theorem tw_at {p q : List UInt8} {b : UInt8} (h : ∀ c ∈ p, ns c = false) (hb : ns b = true) : (p ++ b :: q).takeWhile (fun c => !ns c) = p ∧ (p ++ b :: q).dropWhile (fun c => !ns c) = b :: q := by
  constructor
  · rw [List.takeWhile_append_of_pos (fun c hc => by simp [h c hc]), List.takeWhile_cons]; simp [hb]
  · rw [List.dropWhile_append_of_pos (fun c hc => by simp [h c hc]), List.dropWhile_cons]; simp [hb]
theorem dirR_all {p : List UInt8} (h : ∀ c ∈ p, ns c = false) : dirR p = if p = [] then ([], []) else (p, []) := by
  unfold dirR
  rw [(tw_all h).1, (tw_all h).2]
theorem dirR_at {p q : List UInt8} {b : UInt8} (h : ∀ c ∈ p, ns c = false) (hb : ns b = true) : dirR (p ++ b :: q) = if p = [] then ([], []) else if stopB b = true then (p, (b :: q).dropWhile bl) else ([], []) := by
  unfold dirR
  rw [(tw_at h hb).1, (tw_at h hb).2]
theorem S_ext0 (p q : List UInt8) : (S (p ++ q)).extract 0 p.length = S p := by
  apply ba_ext; rw [data_extract, data_S, data_S]; simp
theorem S_ext1 (p q : List UInt8) : (S (p ++ q)).extract p.length (S (p ++ q)).size = S q := by
  apply ba_ext; rw [drop_ext, data_S, data_S]; simp
theorem S_size (l : List UInt8) : (S l).size = l.length := by rw [size_len, data_S]
theorem S_toList (l : List UInt8) : (S l).toList = l := by rw [Lib.toList_data, data_S]
theorem S_empty : (⟨#[]⟩ : ByteArray) = S [] := rfl
theorem triml (l : List UInt8) : PT.strings_TrimLeft.f (S l) (⟨#[32, 9]⟩ : ByteArray) = some (S (l.dropWhile bl)) := by
  unfold PT.strings_TrimLeft.f
  rw [if_pos rfl, data_S]
  rfl
theorem cut46 (l : List UInt8) : PT.strings_CutPrefix.f (S l) (⟨#[46]⟩ : ByteArray) = some (match l with | [] => (S [], false) | a :: r => if a = 46 then (S r, true) else (S (a :: r), false)) := by
  unfold PT.strings_CutPrefix.f PT.stringslite_CutPrefix.f PT.stringslite_HasPrefix.f
  cases l with
  | nil => rfl
  | cons a r =>
    have h1 : ((⟨#[46]⟩ : ByteArray).size : Int) = 1 := rfl
    have h2 : ((S (a :: r)).size : Int) = (r.length : Int) + 1 := by rw [S_size]; simp
    rw [h1, h2, if_pos (by omega), if_pos (by omega), if_pos (by omega), Option.bind_some]
    have e1 : ((S (a :: r)).extract 0 (1 : Int).toNat).toList = [a] := by
      rw [show (1 : Int).toNat = [a].length from rfl, show a :: r = [a] ++ r from rfl, S_ext0, S_toList]
    rw [e1, show (⟨#[46]⟩ : ByteArray).toList = [46] from S_toList [46]]
    by_cases h : a = 46
    · subst h
      rw [if_pos (by simp), if_pos (by omega), if_pos (by omega)]
      simp only [Option.bind_some, if_true]
      rw [show (1 : Int).toNat = ([46] : List UInt8).length from rfl, show (46 : UInt8) :: r = [46] ++ r from rfl, S_ext1]
    · rw [if_neg (by simp [h])]
      simp only [Option.bind_some, if_neg h]
theorem ibS (b : UInt8) : PT.strings_IndexByte.f (⟨#[32, 9, 40, 33, 34]⟩ : ByteArray) ((b.toNat : Nat) : Int) = some (Lib.indexByte [32, 9, 40, 33, 34] b) := by
  unfold PT.strings_IndexByte.f
  rw [show ((b.toNat : Nat) : Int).toNat.toUInt8 = b by simp]
theorem stop_all : ∀ c : Fin 256, (Lib.indexByte [32, 9, 40, 33, 34] (UInt8.ofNat c.val) < 0) = (stopB (UInt8.ofNat c.val) = false) := by decide +kernel
theorem stop_ib (b : UInt8) : (Lib.indexByte [32, 9, 40, 33, 34] b < 0) = (stopB b = false) := by
  have := stop_all ⟨b.toNat, UInt8.toNat_lt b⟩
  simpa using this
theorem dirG (x : GL) (hx : x.f0.size ≤ 100000000) (k : Nat) : PT.loop_Directive.f (k + 1) x.f0 x.f1 x.f2 = some (dirP x) := by
  obtain ⟨s, a, c⟩ := x
  obtain ⟨l, rfl⟩ : ∃ l, s = S l := ⟨s.data.toList, (S_data s).symm⟩
  simp only at hx
  unfold PT.loop_Directive.f dirP dirL
  simp only [data_S]
  rw [cut46]
  simp only [Option.bind_some]
  cases c with
  | true => simp [S_empty]
  | false =>
    simp only [Bool.false_eq_true, if_false]
    cases l with
    | nil => simp [S_empty]
    | cons a r =>
      by_cases ha : a = 46
      · simp only [if_pos ha, if_true]
        rw [triml, Option.bind_some]
        have hr : (r.dropWhile bl).length ≤ 100000000 := by
          have h1 := (List.dropWhile_suffix (p := bl) (l := r)).length_le
          rw [S_size] at hx
          simp only [List.length_cons] at hx
          omega
        generalize r.dropWhile bl = u at hr
        unfold PT.strings_IndexFunc.f
        rw [if_pos (show 52 = nsFn from rfl), data_S, Option.bind_some]
        rcases split_ns u with h | ⟨p, b, q, rfl, hp, hb⟩
        · rw [idxNS_none h, if_pos (by omega), dirR_all h]
          rw [PT.loop_Directive.j0]
          rw [S_size]
          by_cases hu : u = []
          · subst hu; rfl
          · have hlen : 0 < u.length := List.length_pos_iff.2 hu
            rw [if_neg (by omega), if_neg (by omega), if_pos (by omega), if_pos (by omega), if_neg hu]
            have e1 := S_ext1 u []
            have e0 := S_ext0 u []
            rw [List.append_nil] at e1 e0
            rw [Int.toNat_natCast]
            rw [show (S u).extract u.length u.length = S [] by rw [← e1, S_size], triml, Option.bind_some, e0]
            rfl
        · rw [idxNS_hit hp hb, if_neg (by omega), dirR_at hp hb]
          rw [PT.loop_Directive.j0]
          rw [S_size]
          by_cases hp0 : p = []
          · subst hp0; rfl
          · have hlen : 0 < p.length := List.length_pos_iff.2 hp0
            rw [if_neg (by omega), if_pos (by simp; omega), if_pos (by omega), bt_app (S (p ++ b :: q)) p q b (data_S _), ibS, Option.bind_some]
            cases hs : stopB b with
            | true =>
              rw [if_neg (by rw [stop_ib, hs]; decide), if_pos (by simp; omega), Int.toNat_natCast, ← S_size (p ++ b :: q), S_ext1, triml, Option.bind_some, S_ext0, if_neg hp0, if_pos rfl]
            | false =>
              rw [if_pos (by rw [stop_ib, hs]), if_neg hp0]
              simp [S_empty]
      · simp only [if_neg ha, if_false, Bool.false_eq_true]
        rfl

/-! ### the document's -/
theorem blank_all : ∀ c : Fin 256, PT.bobstayref04_Blank.f ((c.val : Nat) : Int) = some (bl (UInt8.ofNat c.val)) := by decide +kernel
theorem blankB (b : UInt8) : PT.bobstayref04_Blank.f ((b.toNat : Nat) : Int) = some (bl b) := by
  have := blank_all ⟨b.toNat, UInt8.toNat_lt b⟩
  simpa using this
theorem bt0 (a : UInt8) (r : List UInt8) : bt (S (a :: r)) 0 = ((a.toNat : Nat) : Int) := bt_app (S (a :: r)) [] r a (data_S _)
theorem S_tail (a : UInt8) (r : List UInt8) : (S (a :: r)).extract 1 (S (a :: r)).size = S r := S_ext1 [a] r
theorem leftR : ∀ l : List UInt8, Ev fun n => PT.bobstayref12_left.l0 n (S l) = some (S (l.dropWhile bl))
  | [] => ev_all fun n => by rw [PT.bobstayref12_left.l0, if_neg (by rw [S_size]; simp)]; rfl
  | a :: r => by
    cases ha : bl a with
    | false =>
      exact ev_all fun n => by
        rw [PT.bobstayref12_left.l0, if_pos (by rw [S_size]; simp), if_pos (by rw [S_size]; simp), bt0, blankB, Option.bind_some, ha, if_neg (by decide), List.dropWhile_cons, ha]
        simp
    | true =>
      exact ev_step (leftR r) fun n ih => by
        rw [PT.bobstayref12_left.l0, if_pos (by rw [S_size]; simp), if_pos (by rw [S_size]; simp), bt0, blankB, Option.bind_some, ha, if_pos rfl, if_pos (by rw [S_size]; simp; omega), S_tail, ih, List.dropWhile_cons, ha]
        simp
theorem leftF (l : List UInt8) : Ev fun n => PT.bobstayref12_left.f n (S l) = some (S (l.dropWhile bl)) := leftR l
theorem ns_iff (c : UInt8) : ns c = false ↔ 97 ≤ c.toNat ∧ c.toNat ≤ 122 := by
  unfold ns
  simp only [Bool.or_eq_false_iff, decide_eq_false_iff_not]
  omega
theorem stop_iff (b : UInt8) : stopB b = (bl b || (b == 40 || (b == 33 || b == 34))) := by
  unfold stopB bl
  simp [Bool.or_assoc]
theorem b40 (b k : UInt8) : (((b.toNat : Nat) : Int) = ((k.toNat : Nat) : Int)) = (b = k) := ue b k
theorem j2_end (p : List UInt8) (h : ∀ c ∈ p, ns c = false) : Ev fun n => PT.bobstayref12_Directive.j2 n (S p) (p.length : Int) = some (S (dirR p).1, S (dirR p).2) := by
  refine ev_step (leftF []) fun n hL => ?_
  rw [PT.bobstayref12_Directive.j2, S_size, if_pos rfl, dirR_all h]
  by_cases hp : p = []
  · subst hp; rfl
  · have hlen : 0 < p.length := List.length_pos_iff.2 hp
    have e0 := S_ext0 p []
    have e1 := S_ext1 p []
    rw [List.append_nil] at e0 e1
    rw [if_neg (by omega), if_pos (by omega), if_pos (by omega), Int.toNat_natCast, show (S p).extract p.length p.length = S [] by rw [← e1, S_size], hL, Option.bind_some, e0, if_neg hp]
    rfl
theorem j2_at (p q : List UInt8) (b : UInt8) (h : ∀ c ∈ p, ns c = false) (hb : ns b = true) : Ev fun n => PT.bobstayref12_Directive.j2 n (S (p ++ b :: q)) (p.length : Int) = some (S (dirR (p ++ b :: q)).1, S (dirR (p ++ b :: q)).2) := by
  refine ev_step (leftF (b :: q)) fun n hL => ?_
  have hsz : (S (p ++ b :: q)).size = p.length + (q.length + 1) := by rw [S_size]; simp
  have e1 : (S (p ++ b :: q)).extract p.length (S (p ++ b :: q)).size = S (b :: q) := S_ext1 p (b :: q)
  have e0 : (S (p ++ b :: q)).extract 0 p.length = S p := S_ext0 p (b :: q)
  have q40 : (((b.toNat : Nat) : Int) = 40) = (b = 40) := ue b 40
  have q33 : (((b.toNat : Nat) : Int) = 33) = (b = 33) := ue b 33
  have q34 : (((b.toNat : Nat) : Int) = 34) = (b = 34) := ue b 34
  rw [PT.bobstayref12_Directive.j2, if_neg (by omega), if_pos (by omega), if_pos (by omega), bt_app (S (p ++ b :: q)) p q b (data_S _), blankB, Option.bind_some, dirR_at h hb, stop_iff]
  simp only [if_pos (show (p.length : Int) ≤ ((S (p ++ b :: q)).size : Int) by omega), Int.toNat_natCast, e1, e0, hL, Option.bind_some, q40, q33, q34]
  by_cases hp : p = []
  · subst hp
    simp [S_empty]
  · have hlen : 0 < p.length := List.length_pos_iff.2 hp
    have hne : ¬ (p.length : Int) = 0 := by omega
    simp only [if_neg hp, if_neg hne]
    cases bl b <;> by_cases h1 : b = 40 <;> by_cases h2 : b = 33 <;> by_cases h3 : b = 34 <;> simp [h1, h2, h3, S_empty]
theorem l0_R (u : List UInt8) (hu : u.length ≤ 1000000) : ∀ (t p : List UInt8), p ++ t = u → (∀ c ∈ p, ns c = false) → Ev fun n => PT.bobstayref12_Directive.l0 n (S u) (p.length : Int) = some (S (dirR u).1, S (dirR u).2)
  | [], p, e, hp => by
    rw [List.append_nil] at e
    subst e
    refine ev_step (j2_end p hp) fun n ih => ?_
    rw [PT.bobstayref12_Directive.l0, if_neg (by rw [S_size]; omega)]
    exact ih
  | b :: q, p, e, hp => by
    have hl : u.length = p.length + (q.length + 1) := by rw [← e]; simp
    have hb0 : bt (S u) (p.length : Int) = ((b.toNat : Nat) : Int) := by rw [← e]; exact bt_app _ p q b (data_S _)
    cases hb : ns b with
    | true =>
      subst e
      refine ev_step (j2_at p q b hp hb) fun n ih => ?_
      have hns : ¬ (97 ≤ b.toNat ∧ b.toNat ≤ 122) := fun h => by rw [(ns_iff b).2 h] at hb; cases hb
      rw [PT.bobstayref12_Directive.l0, if_pos (by rw [S_size]; omega), if_pos (by omega), hb0]
      by_cases h1 : 97 ≤ b.toNat
      · rw [if_pos (by omega), if_neg (by omega)]; exact ih
      · rw [if_neg (by omega)]; exact ih
    | false =>
      have hs := (ns_iff b).1 hb
      refine ev_step (l0_R u hu q (p ++ [b]) (by simpa using e) (fun c hc => by
        rcases List.mem_append.1 hc with hc | hc
        · exact hp c hc
        · rw [List.mem_singleton.1 hc]; exact hb)) fun n ih => ?_
      rw [PT.bobstayref12_Directive.l0, if_pos (by rw [S_size]; omega), if_pos (by omega), hb0, if_pos (by omega), if_pos (by omega), v64 (by omega) (by omega)]
      rw [List.length_append, List.length_singleton] at ih
      exact ih
theorem dirD (x : GL) (hx : x.f0.size ≤ 1000000) : Ev fun n => PT.bobstayref12_Directive.f n x.f0 x.f1 x.f2 = some (dirP x) := by
  obtain ⟨s, a, c⟩ := x
  obtain ⟨l, rfl⟩ : ∃ l, s = S l := ⟨s.data.toList, (S_data s).symm⟩
  simp only at hx
  rw [S_size] at hx
  unfold dirP dirL
  simp only [data_S]
  cases c with
  | true => exact ev_all fun n => by unfold PT.bobstayref12_Directive.f; rw [if_pos rfl, PT.bobstayref12_Directive.j0, if_pos rfl]; rfl
  | false =>
    cases l with
    | nil => exact ev_all fun n => by unfold PT.bobstayref12_Directive.f; rw [if_neg (by decide), S_size, if_pos (by simp), PT.bobstayref12_Directive.j0, if_pos rfl]; rfl
    | cons b r =>
      have hb46 : ((((b.toNat : Nat) : Int) != 46) = true) = ¬ (b = 46) := by
        have : (((b.toNat : Nat) : Int) = 46) = (b = 46) := ue b 46
        simp only [bne_iff_ne, ne_eq, this]
      simp only [Bool.false_eq_true, if_false]
      by_cases hb : b = 46
      · have hlen : (r.dropWhile bl).length ≤ 1000000 := by
          have h1 := (List.dropWhile_suffix (p := bl) (l := r)).length_le
          simp only [List.length_cons] at hx
          omega
        refine ev_step (ev_and (leftF r) (l0_R (r.dropWhile bl) hlen (r.dropWhile bl) [] rfl (fun c h => by cases h))) fun n ih => ?_
        unfold PT.bobstayref12_Directive.f
        rw [if_neg (by decide), if_neg (by rw [S_size, List.length_cons]; omega), if_pos (by rw [S_size, List.length_cons]; omega), bt0, PT.bobstayref12_Directive.j0, if_neg (by rw [hb46]; simp [hb]), if_pos (by rw [S_size, List.length_cons]; omega), S_tail, ih.1, Option.bind_some, if_pos hb]
        exact ih.2
      · exact ev_all fun n => by
          unfold PT.bobstayref12_Directive.f
          rw [if_neg (by decide), if_neg (by rw [S_size, List.length_cons]; omega), if_pos (by rw [S_size, List.length_cons]; omega), bt0, PT.bobstayref12_Directive.j0, if_pos (by rw [hb46]; exact hb), if_neg hb]
          rfl
end Go.Proofs.YtiedbnjoomcdbaaDoor.Tr
set_option linter.unusedVariables false
set_option linter.unusedSimpArgs false
namespace Go.Proofs.YtiedbnjoomcdbaaDoor.Tr
open Go.RowKit Go.Proofs.YtiedbnjoomcdbaaDoor.PT Go.Proofs.YtiedbnjoomcdbaaDoorW.PrintWords Go.Proofs.YtiedbnjoomcdbaaDoorW.PrintLast Go.Proofs.YtiedbnjoomcdbaaDoor.Ba Go.Proofs.YtiedbnjoomcdbaaDoor

/-! ### a loop's text has an answer -/
theorem ia_le (chars : List UInt8) : ∀ l : List UInt8, Lib.indexAny l chars ≤ (l.length : Int)
  | [] => by simp [Lib.indexAny]
  | x :: l => by
    have := ia_le chars l
    unfold Lib.indexAny
    split
    · simp; omega
    · split <;> simp <;> omega
theorem dw_len (l : List UInt8) : (l.dropWhile bl).length ≤ l.length := (List.dropWhile_suffix (p := bl) (l := l)).length_le
theorem wordG (l : List UInt8) (hl : l.length ≤ 1000000) : ∃ w r, PT.line_Word.f (S l) = some (S w, S r) ∧ (w ≠ [] → r.length < l.length) ∧ w.length ≤ l.length := by
  unfold PT.line_Word.f
  rw [triml, Option.bind_some]
  have h1 := dw_len l
  generalize l.dropWhile bl = u at h1
  have hA : PT.strings_IndexAny.f (S u) (⟨#[32, 9]⟩ : ByteArray) = some (Lib.indexAny u [32, 9]) := by
    unfold PT.strings_IndexAny.f
    rw [if_pos ⟨by decide, by decide, by rw [S_size]; omega, by decide⟩, data_S]
  rw [hA, Option.bind_some]
  have h2 := ia_le [32, 9] u
  by_cases h3 : Lib.indexAny u [32, 9] ≥ 0
  · rw [if_pos h3, if_pos h3, if_pos (by rw [S_size]; exact h2)]
    obtain ⟨i, hi⟩ : ∃ i : Nat, Lib.indexAny u [32, 9] = (i : Int) := ⟨(Lib.indexAny u [32, 9]).toNat, by omega⟩
    rw [hi, Int.toNat_natCast]
    rw [hi] at h2
    have e1 : (S u).extract i (S u).size = S (u.drop i) := by apply ba_ext; rw [drop_ext, data_S, data_S]
    have e0 : (S u).extract 0 i = S (u.take i) := by apply ba_ext; rw [data_extract, data_S, data_S]; simp
    rw [e1, triml, Option.bind_some, e0]
    refine ⟨_, _, rfl, fun hw => ?_, by simp; omega⟩
    have h4 := dw_len (u.drop i)
    rw [List.length_drop] at h4
    have h5 : 0 < (u.take i).length := List.length_pos_iff.2 hw
    rw [List.length_take] at h5
    omega
  · rw [if_neg h3]
    refine ⟨_, _, rfl, fun hw => ?_, h1⟩
    have h5 : 0 < u.length := List.length_pos_iff.2 hw
    simp
    omega
theorem nameG (w : ByteArray) (hw : w.size ≤ 1000000) : ∃ b, PT.loop_isName.f w = some b := by
  unfold PT.loop_isName.f PT.strings_Trim.f
  rw [if_pos ⟨by decide, by decide, by omega, by decide +kernel⟩, Option.bind_some]
  exact ⟨_, rfl⟩
theorem idxG (l : List ByteArray) (w : ByteArray) (hl : l.length ≤ 10000000) : ∀ (m i : Nat), l.length - i = m → i ≤ l.length → ∃ z, Ev fun n => PT.slices_Index_string_string.l0 n l w (l.length : Int) (i : Int) = some z
  | 0, i, hm, hi => ⟨-1, ev_all fun n => by rw [PT.slices_Index_string_string.l0, if_neg (by omega)]⟩
  | m + 1, i, hm, hi => by
    by_cases h : w.toList = (rdOf ByteArray.empty l (i : Int)).toList
    · exact ⟨(i : Int), ev_all fun n => by rw [PT.slices_Index_string_string.l0, if_pos (by omega), if_pos (by omega), if_pos (by omega), if_pos h]⟩
    · obtain ⟨z, hz⟩ := idxG l w hl m (i + 1) (by omega) (by omega)
      exact ⟨z, ev_step hz fun n ih => by
        rw [PT.slices_Index_string_string.l0, if_pos (by omega), if_pos (by omega), if_pos (by omega), if_neg h, v64 (by omega) (by omega)]
        exact ih⟩
theorem hasG (l : List ByteArray) (w : ByteArray) (hl : l.length ≤ 10000000) : ∃ b, Ev fun n => PT.slices_Contains_string_string.f n l w = some b := by
  obtain ⟨z, hz⟩ := idxG l w hl l.length 0 (by omega) (by omega)
  refine ⟨decide (z ≥ 0), ev_imp hz fun n h => ?_⟩
  unfold PT.slices_Contains_string_string.f PT.slices_Index_string_string.f
  rw [show ((0 : Nat) : Int) = 0 from rfl] at h
  rw [h, Option.bind_some]
theorem forG : ∀ (m : Nat) (l : List UInt8) (ns : List ByteArray), l.length ≤ m → m + ns.length ≤ 1000000 → ∃ r, Ev fun n => PT.loop_loopText.l0 n (S l) ns = some r
  | m, l, ns, hm, hb => by
    obtain ⟨w, r, hw, hr, hl⟩ := wordG l (by omega)
    by_cases h1 : (S w).toList = ([105, 110] : List UInt8)
    · exact ⟨_, ev_all fun n => by rw [PT.loop_loopText.l0, hw, Option.bind_some]; exact if_pos h1⟩
    · by_cases h2 : (S w).toList = ([] : List UInt8)
      · exact ⟨_, ev_all fun n => by rw [PT.loop_loopText.l0, hw, Option.bind_some]; exact (if_neg h1).trans (if_pos h2)⟩
      · have hw0 : w ≠ [] := fun e => h2 (by rw [e]; exact S_toList [])
        obtain ⟨b, hb1⟩ := nameG (S w) (by rw [S_size]; omega)
        cases b with
        | false => exact ⟨_, ev_all fun n => by rw [PT.loop_loopText.l0, hw, Option.bind_some]; refine (if_neg h1).trans ((if_neg h2).trans ?_); rw [hb1, Option.bind_some, if_neg (by decide)]⟩
        | true =>
          obtain ⟨b2, hb2⟩ := hasG ns (S w) (by omega)
          cases b2 with
          | true => exact ⟨_, ev_step hb2 fun n ih => by rw [PT.loop_loopText.l0, hw, Option.bind_some]; refine (if_neg h1).trans ((if_neg h2).trans ?_); rw [hb1, Option.bind_some, if_pos rfl]; dsimp only; rw [ih, Option.bind_some, if_pos rfl]⟩
          | false =>
            have hlt := hr hw0
            cases m with
            | zero => omega
            | succ m =>
              obtain ⟨res, hres⟩ := forG m r (ns ++ [S w]) (by omega) (by simp; omega)
              exact ⟨res, ev_step (ev_and hb2 hres) fun n ih => by
                rw [PT.loop_loopText.l0, hw, Option.bind_some]; refine (if_neg h1).trans ((if_neg h2).trans ?_); rw [hb1, Option.bind_some, if_pos rfl]; dsimp only; rw [ih.1, Option.bind_some, if_neg (by decide), if_pos (by omega)]; exact ih.2⟩
theorem for_ex (t : ByteArray) (ht : t.size ≤ 1000000) : ∃ r, Ev fun n => PT.loop_loopText.f n t = some r := by
  obtain ⟨r, hr⟩ := forG t.size t.data.toList [] (by rw [← size_len]; exact Nat.le_refl _) (by simpa using ht)
  refine ⟨r, ev_imp hr fun n h => ?_⟩
  rw [S_data] at h
  exact h
open Classical in
/-- a loop's names and list -/
noncomputable def forP (t : ByteArray) : List ByteArray × ByteArray × Bool := if h : ∃ r, Ev fun n => PT.loop_loopText.f n t = some r then h.choose else ([], ⟨#[]⟩, false)
theorem forW (t : ByteArray) (ht : t.size ≤ 1000000) : Ev fun n => PT.loop_loopText.f n t = some (forP t) := by
  have h := for_ex t ht
  unfold forP
  rw [dif_pos h]
  exact h.choose_spec

/-! ### blocks -/
structure St where
  i : Nat
  e : Int
  a : Int
def Ok (s : St) : Prop := s.e = 0 ∧ s.a = 0
instance (s : St) : Decidable (Ok s) := by unfold Ok; infer_instance
def wr (e a : Int) (s : St) : St := if Ok s then ⟨s.i, e, a⟩ else s
def wElif : ByteArray := ⟨#[101, 108, 105, 102]⟩
def wElse : ByteArray := ⟨#[101, 108, 115, 101]⟩
def wEndif : ByteArray := ⟨#[101, 110, 100, 105, 102]⟩
def wEndfor : ByteArray := ⟨#[101, 110, 100, 102, 111, 114]⟩
def wIf : ByteArray := ⟨#[105, 102]⟩
def wIfdef : ByteArray := ⟨#[105, 102, 100, 101, 102]⟩
def wIfndef : ByteArray := ⟨#[105, 102, 110, 100, 101, 102]⟩
def wIfmake : ByteArray := ⟨#[105, 102, 109, 97, 107, 101]⟩
def wIfnmake : ByteArray := ⟨#[105, 102, 110, 109, 97, 107, 101]⟩
def wFor : ByteArray := ⟨#[102, 111, 114]⟩
def isEnd (w : ByteArray) : Bool := decide (w = wElif) || decide (w = wElse) || decide (w = wEndif) || decide (w = wEndfor)
def isIf (w : ByteArray) : Bool := decide (w = wIf) || decide (w = wIfdef) || decide (w = wIfndef) || decide (w = wIfmake) || decide (w = wIfnmake)
def z0 : GL := ⟨⟨#[]⟩, 0, false⟩
def emp : ByteArray := ⟨#[]⟩
def plainN (l : GL) : Nd := .mk 1 l [] [] emp []
section
variable (ls : List GL)
/-- blocks, by what reads a block's inside; n: rounds -/
def blkL (top : Bool) (cnd lop : GL → ByteArray × ByteArray → St → Nd × St) : Nat → St → List Nd → List Nd × St
  | 0, s, out => (out, s)
  | n + 1, s, out =>
    if Ok s ∧ s.i < ls.length then
      if isEnd (dirP (ls.getD s.i z0)).1 = true then (out, s)
      else if isIf (dirP (ls.getD s.i z0)).1 = true ∨ (dirP (ls.getD s.i z0)).1 = wFor then
        if top = true then (out, wr 5 (ls.getD s.i z0).f1 s)
        else if isIf (dirP (ls.getD s.i z0)).1 = true then blkL top cnd lop n (cnd (ls.getD s.i z0) (dirP (ls.getD s.i z0)) ⟨s.i + 1, s.e, s.a⟩).2 (out ++ [(cnd (ls.getD s.i z0) (dirP (ls.getD s.i z0)) ⟨s.i + 1, s.e, s.a⟩).1])
        else blkL top cnd lop n (lop (ls.getD s.i z0) (dirP (ls.getD s.i z0)) ⟨s.i + 1, s.e, s.a⟩).2 (out ++ [(lop (ls.getD s.i z0) (dirP (ls.getD s.i z0)) ⟨s.i + 1, s.e, s.a⟩).1])
      else blkL top cnd lop n ⟨s.i + 1, s.e, s.a⟩ (out ++ [plainN (ls.getD s.i z0)])
    else (out, s)
/-- the line that closes, if there is one -/
structure Clo where
  l : GL
  w : ByteArray
  t : ByteArray
  ok : Bool
  s : St
def cloE (l0 : GL) (s : St) : St := if s.i = ls.length then wr 4 l0.f1 s else s
def cloP (l0 : GL) (s : St) : Clo :=
  if Ok (cloE ls l0 s) then
    ⟨ls.getD s.i z0, (dirP (ls.getD s.i z0)).1, (dirP (ls.getD s.i z0)).2, true,
      if (dirP (ls.getD s.i z0)).2 ≠ emp ∧ (dirP (ls.getD s.i z0)).1 ≠ wElif then ⟨s.i + 1, 3, (ls.getD s.i z0).f1⟩ else ⟨s.i + 1, 0, 0⟩⟩
  else ⟨z0, emp, emp, false, cloE ls l0 s⟩
def cndL (bl : St → List Nd × St) (l0 : GL) : Nat → (w t : ByteArray) → Int → List Br → St → List Br × St
  | 0, _, _, _, out, s => (out, s)
  | n + 1, w, t, a, out, s =>
    if (cloP ls l0 (bl s).2).ok = false ∨ (cloP ls l0 (bl s).2).w = wEndif then (out ++ [.mk w t a (bl s).1], (cloP ls l0 (bl s).2).s)
    else if (cloP ls l0 (bl s).2).w = wEndfor ∨ w = wElse then (out ++ [.mk w t a (bl s).1], wr 3 (cloP ls l0 (bl s).2).l.f1 (cloP ls l0 (bl s).2).s)
    else cndL bl l0 n (cloP ls l0 (bl s).2).w (cloP ls l0 (bl s).2).t (cloP ls l0 (bl s).2).l.f1 (out ++ [.mk w t a (bl s).1]) (cloP ls l0 (bl s).2).s
def cndP (bl : St → List Nd × St) (l0 : GL) (d : ByteArray × ByteArray) (s : St) : Nd × St :=
  (.mk 2 l0 (cndL ls bl l0 (ls.length + 2) d.1 d.2 l0.f1 [] s).1 [] emp [], (cndL ls bl l0 (ls.length + 2) d.1 d.2 l0.f1 [] s).2)
noncomputable def lopP (bl : St → List Nd × St) (l0 : GL) (d : ByteArray × ByteArray) (s : St) : Nd × St :=
  if (forP d.2).2.2 = true then
    (.mk 3 l0 [] (forP d.2).1 (forP d.2).2.1 (bl s).1,
      if (cloP ls l0 (bl s).2).ok = true ∧ (cloP ls l0 (bl s).2).w ≠ wEndfor then wr 3 (cloP ls l0 (bl s).2).l.f1 (cloP ls l0 (bl s).2).s else (cloP ls l0 (bl s).2).s)
  else (.mk 3 l0 [] (forP d.2).1 (forP d.2).2.1 [], wr 3 l0.f1 s)
/-- blocks within d more levels -/
noncomputable def blkP : Nat → St → List Nd × St
  | 0 => fun s => blkL ls true (fun _ _ s => (plainN z0, s)) (fun _ _ s => (plainN z0, s)) (ls.length + 1) s []
  | d + 1 => fun s => blkL ls false (cndP ls (blkP d)) (lopP ls (blkP d)) (ls.length + 1) s []
/-- what is read never goes back, nor beyond the end -/
def Fwd (f : St → List Nd × St) : Prop := ∀ s, s.i ≤ ls.length → s.i ≤ (f s).2.i ∧ (f s).2.i ≤ ls.length
theorem wr_i (e a : Int) (s : St) : (wr e a s).i = s.i := by unfold wr; split <;> rfl
theorem cloE_i (l0 : GL) (s : St) : (cloE ls l0 s).i = s.i := by unfold cloE; split <;> simp [wr_i]
theorem cloE_ok {l0 : GL} {s : St} (h : Ok (cloE ls l0 s)) (h4 : s.i ≤ ls.length) : s.i < ls.length ∧ Ok s := by
  unfold cloE at h
  split at h
  · unfold wr at h
    split at h
    · rename_i h1 h2
      exact absurd (show (4 : Int) = 0 from h.1) (by decide)
    · rename_i h1 h2
      exact absurd h h2
  · exact ⟨by omega, h⟩
theorem clo_i {l0 : GL} {s : St} (h : s.i ≤ ls.length) : s.i ≤ (cloP ls l0 s).s.i ∧ (cloP ls l0 s).s.i ≤ ls.length ∧ ((cloP ls l0 s).ok = true → (cloP ls l0 s).s.i = s.i + 1) := by
  unfold cloP
  by_cases hk : Ok (cloE ls l0 s)
  · have := (cloE_ok ls hk h).1
    rw [if_pos hk]
    simp only
    split <;> exact ⟨Nat.le_succ _, this, fun _ => rfl⟩
  · rw [if_neg hk]
    simp only [cloE_i]
    exact ⟨Nat.le_refl _, h, fun h => by cases h⟩
theorem cndL_i {bl : St → List Nd × St} (hb : Fwd ls bl) (l0 : GL) : ∀ n w t a out s, s.i ≤ ls.length → s.i ≤ (cndL ls bl l0 n w t a out s).2.i ∧ (cndL ls bl l0 n w t a out s).2.i ≤ ls.length
  | 0, w, t, a, out, s, h => by rw [cndL]; exact ⟨Nat.le_refl _, h⟩
  | n + 1, w, t, a, out, s, h => by
    obtain ⟨h1, h2⟩ := hb s h
    obtain ⟨h3, h4, h5⟩ := clo_i ls (l0 := l0) h2
    rw [cndL]
    split
    · exact ⟨by simp only; omega, h4⟩
    · split
      · simp only [wr_i]; exact ⟨by omega, h4⟩
      · obtain ⟨h6, h7⟩ := cndL_i hb l0 n (cloP ls l0 (bl s).2).w (cloP ls l0 (bl s).2).t (cloP ls l0 (bl s).2).l.f1 (out ++ [.mk w t a (bl s).1]) (cloP ls l0 (bl s).2).s h4
        exact ⟨by omega, h7⟩
theorem cndP_i {bl : St → List Nd × St} (hb : Fwd ls bl) (l0 : GL) (d : ByteArray × ByteArray) (s : St) (h : s.i ≤ ls.length) : s.i ≤ (cndP ls bl l0 d s).2.i ∧ (cndP ls bl l0 d s).2.i ≤ ls.length := cndL_i ls hb l0 _ _ _ _ _ s h
theorem lopP_i {bl : St → List Nd × St} (hb : Fwd ls bl) (l0 : GL) (d : ByteArray × ByteArray) (s : St) (h : s.i ≤ ls.length) : s.i ≤ (lopP ls bl l0 d s).2.i ∧ (lopP ls bl l0 d s).2.i ≤ ls.length := by
  obtain ⟨h1, h2⟩ := hb s h
  obtain ⟨h3, h4, h5⟩ := clo_i ls (l0 := l0) h2
  unfold lopP
  split
  · simp only
    split
    · rw [wr_i]; exact ⟨by omega, h4⟩
    · exact ⟨by omega, h4⟩
  · simp only [wr_i]; exact ⟨Nat.le_refl _, h⟩
theorem blkL_i (top : Bool) (cnd lop : GL → ByteArray × ByteArray → St → Nd × St) (hc : ∀ l d s, s.i ≤ ls.length → s.i ≤ (cnd l d s).2.i ∧ (cnd l d s).2.i ≤ ls.length) (hl : ∀ l d s, s.i ≤ ls.length → s.i ≤ (lop l d s).2.i ∧ (lop l d s).2.i ≤ ls.length) :
    ∀ n s out, s.i ≤ ls.length → s.i ≤ (blkL ls top cnd lop n s out).2.i ∧ (blkL ls top cnd lop n s out).2.i ≤ ls.length
  | 0, s, out, h => by rw [blkL]; exact ⟨Nat.le_refl _, h⟩
  | n + 1, s, out, h => by
    rw [blkL]
    split
    · rename_i hk
      split
      · exact ⟨Nat.le_refl _, h⟩
      · split
        · split
          · simp only [wr_i]; exact ⟨Nat.le_refl _, h⟩
          · split
            · have h1 := hc (ls.getD s.i z0) (dirP (ls.getD s.i z0)) ⟨s.i + 1, s.e, s.a⟩ (by simp only; omega)
              have h2 := blkL_i top cnd lop hc hl n _ (out ++ [(cnd (ls.getD s.i z0) (dirP (ls.getD s.i z0)) ⟨s.i + 1, s.e, s.a⟩).1]) h1.2
              simp only at h1
              exact ⟨by omega, h2.2⟩
            · have h1 := hl (ls.getD s.i z0) (dirP (ls.getD s.i z0)) ⟨s.i + 1, s.e, s.a⟩ (by simp only; omega)
              have h2 := blkL_i top cnd lop hc hl n _ (out ++ [(lop (ls.getD s.i z0) (dirP (ls.getD s.i z0)) ⟨s.i + 1, s.e, s.a⟩).1]) h1.2
              simp only at h1
              exact ⟨by omega, h2.2⟩
        · have h2 := blkL_i top cnd lop hc hl n ⟨s.i + 1, s.e, s.a⟩ (out ++ [plainN (ls.getD s.i z0)]) (by simp only; omega)
          simp only at h2
          exact ⟨by omega, h2.2⟩
    · exact ⟨Nat.le_refl _, h⟩
theorem blkP_i : ∀ d, Fwd ls (blkP ls d)
  | 0 => fun s h => by
    rw [blkP]
    exact blkL_i ls true _ _ (fun _ _ s h => ⟨Nat.le_refl _, h⟩) (fun _ _ s h => ⟨Nat.le_refl _, h⟩) _ s [] h
  | d + 1 => fun s h => by
    rw [blkP]
    exact blkL_i ls false _ _ (fun l dd s h => cndP_i ls (blkP_i d) l dd s h) (fun l dd s h => lopP_i ls (blkP_i d) l dd s h) _ s [] h
/-- what Build makes: blocks, or a fault -/
noncomputable def endS : St := if (blkP ls 32 ⟨0, 0, 0⟩).2.i < ls.length then wr 3 (ls.getD (blkP ls 32 ⟨0, 0, 0⟩).2.i z0).f1 (blkP ls 32 ⟨0, 0, 0⟩).2 else (blkP ls 32 ⟨0, 0, 0⟩).2
end
end Go.Proofs.YtiedbnjoomcdbaaDoor.Tr
