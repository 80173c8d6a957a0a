/- Lines of letters alone are read as they stand. -/
import Derived.Test.YthkndchbgiimnaaDoorPLx28
import Derived.Test.YthkndchbgiimnaaDoorPureLineC
import Derived.Test.YthkndchbgiimnaaDoorRowStrB
import Derived.Test.YthkndchbgiimnaaDoorRowBool
set_option linter.unusedVariables false
set_option linter.unusedSimpArgs false
namespace Go.Proofs.YthkndchbgiimnaaDoor.PureL
open Go.RowKit Go.Proofs.YthkndchbgiimnaaDoor.PL Go.Proofs.YthkndchbgiimnaaDoorW.PrintWords Go.Proofs.YthkndchbgiimnaaDoorW.PrintLast Go.Proofs.YthkndchbgiimnaaDoor.Ba

def Ev (P : Nat → Prop) : Prop := ∃ N, ∀ n, N ≤ n → P n
theorem ev_step {P Q : Nat → Prop} (h : Ev P) (s : ∀ n, P n → Q (n + 1)) : Ev Q := by
  obtain ⟨N, hN⟩ := h
  refine ⟨N + 1, fun n hn => ?_⟩
  obtain ⟨k, rfl⟩ : ∃ k, n = k + 1 := ⟨n - 1, by omega⟩
  exact s k (hN k (by omega))
theorem ev_alive {Q : Nat → Prop} (s : ∀ n, bobstaylaw11_alive.f n = some true → Q (n + 1)) : Ev Q := ev_step (P := fun n => bobstaylaw11_alive.f n = some true) ⟨40, alive'⟩ s
theorem ev_and {P Q : Nat → Prop} (h : Ev P) (g : Ev Q) : Ev fun n => P n ∧ Q n := by
  obtain ⟨N, hN⟩ := h
  obtain ⟨M, hM⟩ := g
  exact ⟨N + M, fun n hn => ⟨hN n (by omega), hM n (by omega)⟩⟩
/-- the lines that are written -/
def mk (cs : List Bool) : Nat → List ByteArray → List LP.Ln
  | _, [] => []
  | i, w :: ws => ⟨w.data.toList, 0, cs.getD i false⟩ :: mk cs (i + 1) ws
structure okW (t : List UInt8) : Prop where
  ne : t ≠ []
  lo : ∀ c ∈ t, 97 ≤ c.toNat
  len : t.length ≤ 50
theorem okW_no {t : List UInt8} (h : okW t) (c : UInt8) (hc : c ∈ t) : c ≠ 35 ∧ c ≠ 10 ∧ c ≠ 9 ∧ c ≠ 32 ∧ c ≠ 92 := by
  have := h.lo c hc
  refine ⟨?_, ?_, ?_, ?_, ?_⟩
  · rintro rfl; exact absurd this (by decide)
  · rintro rfl; exact absurd this (by decide)
  · rintro rfl; exact absurd this (by decide)
  · rintro rfl; exact absurd this (by decide)
  · rintro rfl; exact absurd this (by decide)
theorem okW_okL {t : List UInt8} (h : okW t) (a : Nat) (c : Bool) : LP.okL ⟨t, a, c⟩ where
  blank := by
    cases ht : t with
    | nil => exact absurd ht h.ne
    | cons d t' =>
      have := okW_no h d (by rw [ht]; exact List.mem_cons_self ..)
      show (d :: t').all LP.bl = false
      rw [List.all_cons]
      have : LP.bl d = false := by unfold LP.bl; simp [this.2.2.1, this.2.2.2.1]
      rw [this]; rfl
  last := by
    intro e
    exact (okW_no h 92 (List.mem_of_getLast? e)).2.2.2.2 rfl
  nl := fun d hd => (okW_no h d hd).2.1
  st := by
    intro _ p q e
    have hm : (35 : UInt8) ∈ t := by
      have e' : t = p ++ 92 :: 35 :: q := e
      rw [e']; simp
    exact (okW_no h 35 hm).1 rfl
  tab := by
    intro _ e
    have hm : (9 : UInt8) ∈ t := List.mem_of_mem_head? (by rw [show t.head? = some 9 from e]; simp)
    exact (okW_no h 9 hm).2.2.1 rfl
  right := by
    intro _ d e
    have := okW_no h d (List.mem_of_getLast? e)
    unfold LP.bl
    simp [this.2.2.1, this.2.2.2.1]
theorem repl_id : ∀ t : List UInt8, (∀ c ∈ t, c ≠ 35) → LP.replL t = t
  | [], _ => rfl
  | c :: t, h => by
    have h1 := h c (List.mem_cons_self ..)
    have h2 := repl_id t fun d hd => h d (List.mem_cons_of_mem _ hd)
    unfold LP.replL at h2 ⊢
    rw [List.flatMap_cons, if_neg h1, h2]; rfl
theorem line_okW {t : List UInt8} (h : okW t) (a : Nat) (c : Bool) : LP.lineOf ⟨t, a, c⟩ = if c = true then 9 :: t else t := by
  unfold LP.lineOf
  simp only []
  rw [repl_id t fun d hd => (okW_no h d hd).1]
theorem mk_snoc (cs : List Bool) : ∀ (l : List ByteArray) (i : Nat) (w : ByteArray), mk cs i (l ++ [w]) = mk cs i l ++ [⟨w.data.toList, 0, cs.getD (i + l.length) false⟩]
  | [], i, w => rfl
  | v :: l, i, w => by
    rw [List.cons_append, mk, mk, mk_snoc cs l (i + 1) w, List.cons_append, List.length_cons]
    rw [show i + 1 + l.length = i + (l.length + 1) by omega]
theorem mk_len (cs : List Bool) : ∀ (l : List ByteArray) (i : Nat), (mk cs i l).length = l.length
  | [], i => rfl
  | v :: l, i => by rw [mk, List.length_cons, List.length_cons, mk_len cs l (i + 1)]
theorem mk_at (cs : List Bool) : ∀ (l : List ByteArray) (i j : Nat) (h : j < l.length) (h' : j < (mk cs i l).length), (mk cs i l)[j] = ⟨l[j].data.toList, 0, cs.getD (i + j) false⟩
  | v :: l, i, 0, h, h' => rfl
  | v :: l, i, j + 1, h, h' => by
    have := mk_at cs l (i + 1) j (by simpa using h) (by rw [mk_len]; simpa using h)
    simp only [mk, List.getElem_cons_succ]
    rw [this, show i + 1 + j = i + (j + 1) by omega]
theorem num_len' : ∀ (o : List LP.Ln) (k : Nat), (LP.number k o).length = o.length
  | [], k => rfl
  | x :: o, k => by rw [LP.number, List.length_cons, List.length_cons, num_len' o (k + 1)]
theorem num_at' : ∀ (o : List LP.Ln) (k i : Nat) (h : i < o.length) (h' : i < (LP.number k o).length), (LP.number k o)[i] = ⟨o[i].t, k + i + 1, o[i].c⟩
  | x :: o, k, 0, h, h' => rfl
  | x :: o, k, i + 1, h, h' => by
    have := num_at' o (k + 1) i (by simpa using h) (by rw [num_len']; simpa using h)
    simp only [LP.number, List.getElem_cons_succ]
    rw [this, show k + 1 + i + 1 = k + (i + 1) + 1 by omega]
theorem num_write : ∀ (o : List LP.Ln) (k : Nat), LP.writeL (LP.number k o) = LP.writeL o
  | [], k => rfl
  | x :: o, k => by
    have ih := num_write o (k + 1)
    unfold LP.writeL at ih ⊢
    rw [LP.number, List.flatMap_cons, List.flatMap_cons, ih]; rfl
theorem wr_eq' (o : List LP.Ln) : wrL ((o.map toS).map line_Write.tr) = LP.writeL o := by
  unfold wrL LP.writeL
  rw [List.map_map, List.flatMap_map]
  congr 1
theorem small (o : List LP.Ln) (h : ∀ x ∈ o, x.t.length ≤ 50) : (LP.writeL o).length ≤ 102 * o.length ∧ wtot ((o.map toS).map line_Write.tr) ≤ 52 * o.length := by
  induction o with
  | nil => exact ⟨by simp [LP.writeL], by simp [wtot]⟩
  | cons x o ih =>
    obtain ⟨i1, i2⟩ := ih fun y hy => h y (List.mem_cons_of_mem _ hy)
    have hx := h x (List.mem_cons_self ..)
    have hr := replL_len x.t
    have hlo : (LP.lineOf x).length ≤ 101 := by
      unfold LP.lineOf
      split
      · rw [List.length_cons]; omega
      · omega
    have e : LP.writeL (x :: o) = LP.lineOf x ++ [10] ++ LP.writeL o := by simp [LP.writeL]
    rw [e, List.map_cons, List.map_cons, wtot_cons, List.length_append, List.length_append, List.length_singleton, List.length_cons]
    have e2 : (line_Write.tr (toS x)).1.size = x.t.length := by show (S x.t).size = _; rw [S_size]
    rw [e2]
    exact ⟨by omega, by omega⟩
theorem small_okW (o : List LP.Ln) (h : ∀ x ∈ o, okW x.t) : (LP.writeL o).length ≤ 52 * o.length := by
  induction o with
  | nil => simp [LP.writeL]
  | cons x o ih =>
    have i1 := ih fun y hy => h y (List.mem_cons_of_mem _ hy)
    have hx := h x (List.mem_cons_self ..)
    have e : LP.writeL (x :: o) = LP.lineOf x ++ [10] ++ LP.writeL o := by simp [LP.writeL]
    have hl : (LP.lineOf x).length ≤ 51 := by
      have := line_okW hx x.at_ x.c
      rw [show LP.lineOf x = LP.lineOf ⟨x.t, x.at_, x.c⟩ from rfl, this]
      have := hx.len
      split
      · rw [List.length_cons]; omega
      · omega
    rw [e, List.length_append, List.length_append, List.length_singleton, List.length_cons]
    omega
section
variable (ws : List ByteArray) (cs : List Bool)
theorem plain_l2 (X : ByteArray) (hok : ∀ x ∈ mk cs 0 ws, okW x.t) (hl : ws.length ≤ 101) (hX : X = S (LP.writeL (mk cs 0 ws))) :
    ∀ (m i : Nat), ws.length - i = m → i ≤ ws.length → Ev fun n => bobstaylaw11_LinePlain.l2 n cs X ((LP.number 0 (mk cs 0 ws)).map toS) ws (ws.length : Int) (i : Int) = some true
  | 0, i, hm, hi => by
    refine ev_alive fun k hk => ?_
    have hsm := small (LP.number 0 (mk cs 0 ws)) (by
      intro x hx
      obtain ⟨j, hj, rfl⟩ := List.getElem_of_mem hx
      have hj' := hj
      rw [num_len'] at hj'
      rw [num_at' _ 0 j hj' hj]
      exact (hok _ (List.getElem_mem hj')).len)
    rw [num_len', mk_len] at hsm
    have hW : line_Write.f ((LP.number 0 (mk cs 0 ws)).map toS) = some X := by
      unfold line_Write.f
      rw [if_pos (by omega), wr_eq', num_write, hX]
    rw [bobstaylaw11_LinePlain.l2, if_neg (by omega), hW, Option.bind_some, if_pos rfl, hk]; rfl
  | m + 1, i, hm, hi => by
    have hlt : i < ws.length := by omega
    have IH := plain_l2 X hok hl hX m (i + 1) (by omega) (by omega)
    refine ev_step IH fun k hk => ?_
    have hml := mk_len cs ws 0
    have hnl := num_len' (mk cs 0 ws) 0
    have hw : wrap64 ((i : Int) + 1) = ((i + 1 : Nat) : Int) := by rw [w64 (by omega) (by omega)]; omega
    have hx : rd_T30 ((LP.number 0 (mk cs 0 ws)).map toS) (i : Int) = ⟨S ws[i].data.toList, ((i + 1 : Nat) : Int), cs.getD i false⟩ := by
      rw [rd_at _ i (by omega), num_at' _ 0 i (by omega) (by omega), mk_at cs ws 0 i hlt (by omega), Nat.zero_add]; rfl
    rw [bobstaylaw11_LinePlain.l2, hx, hw, rdOf_at ws i hlt]
    rw [if_pos (by omega), if_pos (by omega), if_pos (by omega), if_pos (by rw [List.length_map]; omega), if_pos (by simp only [S_data]), if_pos (by rfl)]
    by_cases hc : i < cs.length
    · have hg : rdOf false cs (i : Int) = cs.getD i false := by unfold rdOf; rw [Int.toNat_natCast]
      rw [if_pos (by omega), hg, if_neg (by simp), hk]
    · have hg : cs.getD i false = false := by rw [List.getD_eq_getElem?_getD, List.getElem?_eq_none (by omega)]; rfl
      rw [if_neg (by omega), hg, if_neg (by simp), hk]
theorem plain_end (hok : ∀ x ∈ mk cs 0 ws, okW x.t) (hl : ws.length ≤ 101) : Ev fun n => bobstaylaw11_LinePlain.l0 n ws cs (S (LP.writeL (mk cs 0 ws))) ws (ws.length : Int) (ws.length : Int) = some true := by
  have hz := small_okW (mk cs 0 ws) hok
  rw [mk_len] at hz
  have h2 := plain_l2 ws cs _ hok hl rfl ws.length 0 (by omega) (by omega)
  have h3 : Ev fun n => 300000 ≤ n := ⟨300000, fun n hn => hn⟩
  refine ev_step (ev_and h2 h3) fun k hk => ?_
  obtain ⟨e, g, he, hr⟩ := read_f (LP.writeL (mk cs 0 ws)) (by omega) k hk.2
  have hag := LP.again (mk cs 0 ws) (fun x hx => okW_okL (hok x hx) x.at_ x.c) (by rw [mk_len]; omega) (by omega)
  rw [hag] at hr
  rw [bobstaylaw11_LinePlain.l0, if_neg (by omega), hr, Option.bind_some]
  simp only []
  rw [if_neg (by decide), List.length_map, num_len', mk_len, if_pos rfl]
  exact hk.1
theorem plain_j2 (X : List UInt8) (i : Nat) (w : ByteArray) (hX : X.length ≤ 100000) (hws : w.size ≤ 50) (hi : i ≤ 100) (k : Nat)
    (hk : bobstaylaw11_LinePlain.l0 k ws cs (S (X ++ ((if cs.getD i false = true then 9 :: w.data.toList else w.data.toList) ++ [10]))) ws (ws.length : Int) ((i + 1 : Nat) : Int) = some true) :
    bobstaylaw11_LinePlain.j2 (k + 1) ws cs (S X) (i : Int) w ws (ws.length : Int) (i : Int) false = some true := by
  have hw : wrap64 ((i : Int) + 1) = ((i + 1 : Nat) : Int) := by rw [w64 (by omega) (by omega)]; omega
  have hww : w ++ (⟨#[10]⟩ : ByteArray) = S (w.data.toList ++ [10]) := by rw [S_one, ← S_cat, S_data]
  have hwz : (w ++ (⟨#[10]⟩ : ByteArray)).size = w.size + 1 := by rw [hww, S_size, List.length_append, List.length_singleton, size_len]
  have hxt : S X ++ (⟨#[9]⟩ : ByteArray) = S (X ++ [9]) := by rw [S_one, S_cat]
  have hxz : (S X ++ (⟨#[9]⟩ : ByteArray)).size = X.length + 1 := by rw [hxt, S_size, List.length_append, List.length_singleton]
  have a1 : w.size + 1 ≤ 9223372036854775807 := by omega
  have a2 : (S X).size + (w ++ (⟨#[10]⟩ : ByteArray)).size ≤ 9223372036854775807 := by rw [S_size, hwz]; omega
  have a3 : (S X).size + 1 ≤ 9223372036854775807 := by rw [S_size]; omega
  have a4 : (S X ++ (⟨#[9]⟩ : ByteArray)).size + (w ++ (⟨#[10]⟩ : ByteArray)).size ≤ 9223372036854775807 := by rw [hxz, hwz]; omega
  rw [bobstaylaw11_LinePlain.j2, if_neg Bool.false_ne_true, hw]
  have PLAIN : cs.getD i false = false → (if w.size + 1 ≤ 9223372036854775807 then (if (S X).size + (w ++ (⟨#[10]⟩ : ByteArray)).size ≤ 9223372036854775807 then (bobstaylaw11_LinePlain.l0 k ws cs (S X ++ (w ++ (⟨#[10]⟩ : ByteArray))) ws (ws.length : Int) ((i + 1 : Nat) : Int)) else none) else none) = some true := by
    intro hc
    rw [hc, if_neg Bool.false_ne_true] at hk
    rw [if_pos a1, if_pos a2, hww, S_cat]
    exact hk
  by_cases hc : i < cs.length
  · have hg : rdOf false cs (i : Int) = cs.getD i false := by unfold rdOf; rw [Int.toNat_natCast]
    rw [if_pos (Int.ofNat_lt.mpr hc), if_pos (Int.natCast_nonneg _), hg]
    cases hcc : cs.getD i false with
    | false => rw [if_neg Bool.false_ne_true]; exact PLAIN hcc
    | true =>
      rw [hcc, if_pos rfl] at hk
      rw [if_pos rfl, if_pos a3, if_pos a1, if_pos a4, hxt, hww, S_cat]
      have e : X ++ [9] ++ (w.data.toList ++ [10]) = X ++ (9 :: w.data.toList ++ [10]) := by simp
      rw [e]; exact hk
  · have hg : cs.getD i false = false := by rw [List.getD_eq_getElem?_getD, List.getElem?_eq_none (by omega)]; rfl
    rw [if_neg (fun h => hc (Int.ofNat_lt.mp h))]
    exact PLAIN hg
theorem plain_scan (X : List UInt8) (i : Nat) (w : ByteArray) (hwb : w.size ≤ 100000000)
    (J2t : Ev (fun n => bobstaylaw11_LinePlain.j2 n ws cs (S X) (i : Int) w ws (ws.length : Int) (i : Int) true = some true))
    (J2f : okW w.data.toList → i ≤ 100 → Ev (fun n => bobstaylaw11_LinePlain.j2 n ws cs (S X) (i : Int) w ws (ws.length : Int) (i : Int) false = some true)) :
    ∀ (l p : List UInt8), w.data.toList = p ++ l → (∀ c ∈ p, 97 ≤ c.toNat) → Ev fun n => bobstaylaw11_LinePlain.l1 n ws cs (S X) (i : Int) w (p.length : Int) ws (ws.length : Int) (i : Int) = some true
  | [], p, hp, hp2 => by
    rw [List.append_nil] at hp
    have hz : ¬ (p.length : Int) < (w.size : Int) := by rw [size_len, hp]; exact Int.lt_irrefl _
    by_cases h0 : w.data.toList = []
    · refine ev_step J2t fun k hk => ?_
      rw [bobstaylaw11_LinePlain.l1, if_neg hz, if_pos (by rw [Lib.toList_data]; exact h0), hk]
    · have hne : ¬ w.toList = ([] : List UInt8) := by rw [Lib.toList_data]; exact h0
      by_cases h5 : w.size > 50
      · have h5' : (w.size : Int) > 50 := by omega
        refine ev_step J2t fun k hk => ?_
        rw [bobstaylaw11_LinePlain.l1, if_neg hz, if_neg hne, if_pos h5', hk]
      · have h5' : ¬ (w.size : Int) > 50 := by omega
        by_cases h100 : i > 100
        · have hd : decide ((i : Int) > 100) = true := decide_eq_true (by omega)
          refine ev_step J2t fun k hk => ?_
          rw [bobstaylaw11_LinePlain.l1, if_neg hz, if_neg hne, if_neg h5', hd, hk]
        · have hd : decide ((i : Int) > 100) = false := decide_eq_false (by omega)
          have hlen : w.data.toList.length ≤ 50 := by rw [← size_len]; omega
          refine ev_step (J2f ⟨h0, by rw [hp]; exact hp2, hlen⟩ (by omega)) fun k hk => ?_
          rw [bobstaylaw11_LinePlain.l1, if_neg hz, if_neg hne, if_neg h5', hd, hk]
  | c :: l, p, hp, hp2 => by
    have hz2 : w.size = p.length + (l.length + 1) := by rw [size_len, hp, List.length_append, List.length_cons]
    have e1 := bt_app w p l c hp
    have hwp : wrap64 ((p.length : Int) + 1) = ((p.length + 1 : Nat) : Int) := by rw [w64 (by omega) (by omega)]; omega
    have hlt : (p.length : Int) < (w.size : Int) := by omega
    have h0 : (0 : Int) ≤ (p.length : Int) := Int.natCast_nonneg _
    by_cases hlo : ((c.toNat : Nat) : Int) < 97
    · refine ev_alive fun k hk => ?_
      rw [bobstaylaw11_LinePlain.l1, e1, if_pos hlt, if_pos h0, if_pos hlo, hk]; rfl
    · by_cases hhi : ((c.toNat : Nat) : Int) > 122
      · refine ev_alive fun k hk => ?_
        rw [bobstaylaw11_LinePlain.l1, e1, if_pos hlt, if_pos h0, if_neg hlo, if_pos hhi, hk]; rfl
      · have hc97 : 97 ≤ c.toNat := by omega
        have h := plain_scan X i w hwb J2t J2f l (p ++ [c]) (by rw [hp]; simp) (by
          intro d hd
          rcases List.mem_append.mp hd with hd | hd
          · exact hp2 d hd
          · rw [List.mem_singleton] at hd; subst hd; exact hc97)
        rw [List.length_append, List.length_singleton] at h
        refine ev_step h fun k hk => ?_
        rw [bobstaylaw11_LinePlain.l1, e1, if_pos hlt, if_pos h0, if_neg hlo, if_neg hhi, hwp, hk]
theorem plain_l0 (hws : ∀ w ∈ ws, w.size ≤ 100000000) : ∀ (m i : Nat), ws.length - i = m → i ≤ ws.length → i ≤ 101 → (∀ x ∈ mk cs 0 (ws.take i), okW x.t) → Ev fun n => bobstaylaw11_LinePlain.l0 n ws cs (S (LP.writeL (mk cs 0 (ws.take i)))) ws (ws.length : Int) (i : Int) = some true
  | 0, i, hm, hi, hi2, hok => by
    obtain rfl : i = ws.length := by omega
    rw [List.take_length] at hok ⊢
    exact plain_end ws cs hok hi2
  | m + 1, i, hm, hi, hi2, hok => by
    have hlt : i < ws.length := by omega
    have htk : ws.take (i + 1) = ws.take i ++ [ws[i]] := by rw [List.take_succ_eq_append_getElem hlt]
    have htl : (ws.take i).length = i := by rw [List.length_take]; omega
    have hz := small_okW (mk cs 0 (ws.take i)) hok
    rw [mk_len, htl] at hz
    obtain ⟨X, hX⟩ : ∃ X, LP.writeL (mk cs 0 (ws.take i)) = X := ⟨_, rfl⟩
    have hw : wrap64 ((i : Int) + 1) = ((i + 1 : Nat) : Int) := by rw [w64 (by omega) (by omega)]; omega
    have NEXT : okW ws[i].data.toList → i ≤ 100 → Ev fun n => bobstaylaw11_LinePlain.l0 n ws cs (S (X ++ ((if cs.getD i false = true then 9 :: ws[i].data.toList else ws[i].data.toList) ++ [10]))) ws (ws.length : Int) ((i + 1 : Nat) : Int) = some true := by
      intro hw1 hi3
      have h := plain_l0 hws m (i + 1) (by omega) (by omega) (by omega) (by
        intro x hx
        rw [htk, mk_snoc] at hx
        rcases List.mem_append.mp hx with hx | hx
        · exact hok x hx
        · rw [List.mem_singleton] at hx; subst hx; exact hw1)
      have e : LP.writeL (mk cs 0 (ws.take (i + 1))) = X ++ ((if cs.getD i false = true then 9 :: ws[i].data.toList else ws[i].data.toList) ++ [10]) := by
        rw [htk, mk_snoc, htl, Nat.zero_add, ← hX]
        unfold LP.writeL
        rw [List.flatMap_append, List.flatMap_singleton, line_okW hw1]
      rw [e] at h
      exact h
    rw [hX] at hz ⊢
    have hrd := rdOf_at ws i hlt
    have hwsz := hws _ (List.getElem_mem hlt)
    obtain ⟨w, hwi⟩ : ∃ w, ws[i] = w := ⟨_, rfl⟩
    rw [hwi] at NEXT hrd hwsz
    have hXl : X.length ≤ 100000 := by omega
    clear hX htk htl hok hwi hz
    have J2t : Ev (fun n => bobstaylaw11_LinePlain.j2 n ws cs (S X) (i : Int) w ws (ws.length : Int) (i : Int) true = some true) := by
      refine ev_alive fun k hk => ?_
      rw [bobstaylaw11_LinePlain.j2, if_pos rfl, hk]; rfl
    have J2f : okW w.data.toList → i ≤ 100 → Ev (fun n => bobstaylaw11_LinePlain.j2 n ws cs (S X) (i : Int) w ws (ws.length : Int) (i : Int) false = some true) := fun h1 h2 =>
      ev_step (NEXT h1 h2) fun k hk => plain_j2 ws cs X i w hXl (by rw [size_len]; exact h1.len) h2 k hk
    have n1 : (i : Int) < (ws.length : Int) := Int.ofNat_lt.mpr hlt
    refine ev_step (plain_scan ws cs X i w hwsz J2t J2f w.data.toList [] rfl (by simp)) fun k hk => ?_
    rw [bobstaylaw11_LinePlain.l0, if_pos n1, if_pos (Int.natCast_nonneg _), if_pos n1, hrd]
    exact hk
theorem LinePlain (hws : ∀ w ∈ ws, w.size ≤ 100000000) : ∃ k, bobstaylaw11_LinePlain.f k ws cs = some true := by
  obtain ⟨N, hN⟩ := plain_l0 ws cs hws ws.length 0 (by omega) (by omega) (by omega) (by simp [mk])
  exact ⟨N, hN N (Nat.le_refl _)⟩
theorem LinePlainWalk (W : World) (A : Option Addr) (cap : Nat) (ss : List ByteArray) (hr : StrRow W A cap ss) (A2 : Option Addr) (cap2 : Nat) (bs : List Bool) (hb : BoolRow W A2 cap2 bs) (hl : totS ss ≤ 1048576) :
    Calls Tryd.prog 6 #[.slice A ss.length cap, .slice A2 bs.length cap2] W fun e w' => e = .returned (.bool true) ∧ Below W.heap.size W w' := by
  have hsz : ∀ (l : List ByteArray) (w : ByteArray), w ∈ l → w.size ≤ totS l := by
    intro l w hw
    induction l with
    | nil => cases hw
    | cons v l ih =>
      simp only [totS, List.map_cons, List.sum_cons] at ih ⊢
      rcases List.mem_cons.mp hw with rfl | hw
      · omega
      · have := ih hw; omega
  obtain ⟨k, hk⟩ := LinePlain ss bs (fun w hw => Nat.le_trans (hsz ss w hw) (Nat.le_trans hl (by decide)))
  exact bobstaylaw11_LinePlain.calls k A cap ss A2 cap2 bs true W (Kd.C_of_reads hr.1) hr.2.1 (Kd.C_of_reads hb.1) hb.2 hk
end
end Go.Proofs.YthkndchbgiimnaaDoor.PureL
