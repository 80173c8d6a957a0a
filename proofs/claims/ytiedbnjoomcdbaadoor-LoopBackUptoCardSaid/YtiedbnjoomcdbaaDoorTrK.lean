/- loop.flat and loop.Flat, walked: the flat lines of blocks. -/
import Derived.Test.YtiedbnjoomcdbaaDoorTrE
import Derived.Test.YtiedbnjoomcdbaaDoorTrN
import Derived.Test.YtiedbnjoomcdbaaDoorPUx0
set_option linter.unusedVariables false
set_option linter.unusedSimpArgs false
namespace Go.Proofs.YtiedbnjoomcdbaaDoor.Tr
open Go.RowKit Go.Proofs.YtiedbnjoomcdbaaDoor.Ba Go.Proofs.YtiedbnjoomcdbaaDoorW.PrintWords Go.Proofs.YtiedbnjoomcdbaaDoorW.PrintLast Go.Proofs.YtiedbnjoomcdbaaDoorW.PrintMore

abbrev kG : Kd GL := PT.k34
theorem infoLn : (Tryd.prog.info? 34).map (fun i => (i.zero, i.size, i.bytes)) = some (some (.agg #[.string ⟨#[]⟩, .int .i64 0, .bool false]), 3, 32) := by kernel_rfl
/-! ### TrimSuffix -/
theorem trimB_last (p : List UInt8) (hp : p.length ≤ 1000000000) : PU.strings_TrimSuffix.f (S (p ++ [32])) ⟨#[32]⟩ = some (S p) := by
  have h1 : ((⟨#[32]⟩ : ByteArray).size : Int) = 1 := rfl
  have h2 : ((S (p ++ [32])).size : Int) = (p.length : Int) + 1 := by rw [S_size]; simp
  have h3 : wrap64 ((p.length : Int) + 1 - 1) = (p.length : Int) := by unfold wrap64; omega
  unfold PU.strings_TrimSuffix.f PU.stringslite_TrimSuffix.f PU.stringslite_HasSuffix.f
  rw [h1, h2, h3, if_pos (by omega), if_pos (by omega), if_pos (by omega), Option.bind_some]
  have e1 : ((S (p ++ [32])).extract ((p.length : Nat) : Int).toNat (S (p ++ [32])).size).toList = [32] := by
    rw [Int.toNat_natCast, S_ext1, S_toList]
  rw [e1, show (⟨#[32]⟩ : ByteArray).toList = [32] from S_toList [32], if_pos (by simp), if_pos (by omega), if_pos (by omega), Option.bind_some, Int.toNat_natCast, S_ext0]
theorem trimB_any (s : ByteArray) (hp : s.size ≤ 1000000000) : ∃ r, PU.strings_TrimSuffix.f s ⟨#[32]⟩ = some r := by
  have h1 : ((⟨#[32]⟩ : ByteArray).size : Int) = 1 := rfl
  unfold PU.strings_TrimSuffix.f PU.stringslite_TrimSuffix.f PU.stringslite_HasSuffix.f
  rw [h1]
  by_cases h : (s.size : Int) ≥ 1
  · have h3 : wrap64 ((s.size : Int) - 1) = (s.size : Int) - 1 := by unfold wrap64; omega
    rw [if_pos h, h3, if_pos (by omega), if_pos (by omega), Option.bind_some]
    by_cases h4 : ((s.extract ((s.size : Int) - 1).toNat s.size).toList == (⟨#[32]⟩ : ByteArray).toList) = true
    · rw [if_pos h4, if_pos (by omega), if_pos (by omega)]
      exact ⟨_, rfl⟩
    · rw [if_neg h4]
      exact ⟨_, rfl⟩
  · rw [if_neg h]
    exact ⟨_, rfl⟩
/-- what is kept: all but the row that was handed in -/
def Fra (w w' : World) (row : Option Nat) : Prop := w.heap.size ≤ w'.heap.size ∧ ∀ i, i < w.heap.size → some i ≠ row → w'.heap[i]? = w.heap[i]?
def Att (w : World) (r r1 : Option Nat) : Prop := r1 = r ∨ ∃ b, r1 = some b ∧ w.heap.size ≤ b
theorem Fra.refl (w : World) (r : Option Nat) : Fra w w r := ⟨Nat.le_refl _, fun _ _ _ => rfl⟩
theorem Att.refl (w : World) (r : Option Nat) : Att w r r := .inl rfl
theorem Fra.trans {w w1 w2 : World} {r r1 : Option Nat} (h : Fra w w1 r) (k : Fra w1 w2 r1) (a : Att w r r1) : Fra w w2 r :=
  ⟨Nat.le_trans h.1 k.1, fun i hi hn => (k.2 i (Nat.lt_of_lt_of_le hi h.1) (fun e => by
    rcases a with a | ⟨b, e1, e2⟩
    · exact hn (e.trans a)
    · rw [e1] at e; injection e with e; omega)).trans (h.2 i hi hn)⟩
theorem Att.trans {w w1 : World} {r r1 r2 : Option Nat} (h : Att w r r1) (hs : w.heap.size ≤ w1.heap.size) (k : Att w1 r1 r2) : Att w r r2 := by
  rcases k with k | ⟨b, e1, e2⟩
  · rw [k]; exact h
  · exact .inr ⟨b, e1, Nat.le_trans hs e2⟩
theorem Fra.grown {w w1 : World} {r : Option Nat} (h : w.grownBy w1 r) : Fra w w1 r := ⟨h.size, fun i hi hr => h.block i hi hr⟩
theorem Fra.below {w w1 : World} (h : Below w.heap.size w w1) (r : Option Nat) : Fra w w1 r := ⟨h.size, fun i hi _ => h.block i hi⟩
theorem Fra.blk {w w1 : World} {r : Option Nat} (h : Fra w w1 r) {b : Nat} {o : Obj} (hb : w.heap[b]? = some o) (hn : some b ≠ r) : w1.heap[b]? = some o :=
  (h.2 b (blk_lt hb) hn).trans hb
theorem Att.ne {w : World} {r r1 : Option Nat} (a : Att w r r1) {b : Nat} (hb : b < w.heap.size) (hn : some b ≠ r) : some b ≠ r1 := by
  rcases a with a | ⟨c, e1, e2⟩
  · rw [a]; exact hn
  · rw [e1]; intro e; injection e with e; omega
theorem line_openM {w : World} {base : Nat} {ok : Nat → Prop} {x : GL} {cs : List Value} (h : kG.M w base ok x cs) : cs = [.string x.f0, .int .i64 x.f1, .bool x.f2] := by
  obtain ⟨_, _, rfl, rfl, ⟨_, _, rfl, rfl, rfl⟩⟩ := h
  exact rfl
/-- a row's line, its text written -/
theorem line_put {w : World} {base : Nat} {g cap : Nat} {xs : List GL} (h : Kd.R kG TL w base (fun _ => True) (.slice (some ⟨g, 0, none⟩) xs.length cap) xs) (i : Int) (h0 : 0 ≤ i) (h1 : i < xs.length) (t : ByteArray) :
    w.cell? ⟨g, i.toNat * 3, none⟩ = some (.string (xs.getD i.toNat z0).f0) ∧ w.frozen? ⟨g, i.toNat * 3, none⟩ = false ∧
    Kd.R kG TL (w.setCell ⟨g, i.toNat * 3, none⟩ (.string t)) base (fun _ => True) (.slice (some ⟨g, 0, none⟩) xs.length cap) (xs.set i.toNat ⟨t, (xs.getD i.toNat z0).f1, (xs.getD i.toNat z0).f2⟩) ∧ w.grownBy (w.setCell ⟨g, i.toNat * 3, none⟩ (.string t)) (some g) := by
  obtain ⟨c, hcl, hM, hcc, hfr⟩ := Kd.R_elem h z0 i h0 h1
  obtain rfl := line_openM hM
  have hP := Kd.R_seg h i h0 h1 (seg := [.string t]) (j := 0) hcl hcc (show 1 ≤ 3 from by decide) (x' := (⟨t, (xs.getD i.toNat z0).f1, (xs.getD i.toNat z0).f2⟩ : GL)) (PT.k34_mkM _ _ (fun _ => False) (⟨t, (xs.getD i.toNat z0).f1, (xs.getD i.toNat z0).f2⟩ : GL)) (fun _ hk => hk.elim)
  exact ⟨hcc 0 _ rfl, hfr 0, hP.1, hP.2⟩
/-- blocks that are of the kinds, with texts that are not too long -/
def Shp : Nat → List Nd → Prop
  | 0, _ => True
  | d + 1, l => ∀ x ∈ l, ((ndF x).1 = 1 ∨ (d ≠ 0 ∧ ((ndF x).1 = 2 ∨ (ndF x).1 = 3))) ∧ (∀ b ∈ brsN x, (brF b).1.size ≤ 100000000 ∧ (brF b).2.1.size ≤ 100000000 ∧ Shp d (kidsB b)) ∧ Shp d (kidsN x)
/-- what loop.flat is asked -/
def FlOk (w0 : World) (d : Nat) : Prop := ∀ (l : List Nd) (left : Int), Dep d l → Shp d l → (d : Int) ≤ left + 1 → left ≤ 40 → ∀ (A : Option Addr) (c : Nat), Kd.C kN w0 A l.length l → l.length ≤ c → ∀ (w : World) (B : Nat) (vo : Value) (out : List GL), Below w0.heap.size w0 w → w0.heap.size ≤ B → B ≤ w.heap.size → Kd.R kG TL w B (fun _ => True) vo out → out.length + (flD d l).length ≤ 1000000 →
  Calls Tryd.prog 31 #[vo, .slice A l.length c, .int .i64 left] w fun e w' => ∃ v, e = .returned (.tuple #[v, .bool true]) ∧ Kd.R kG TL w' B (fun _ => True) v (out ++ flD d l) ∧ Below B w w' ∧ Fra w w' vo.ownBlock ∧ Att w vo.ownBlock v.ownBlock
set_option maxHeartbeats 8000000 in
set_option maxRecDepth 100000 in
theorem flat0 (w0 : World) : FlOk w0 0 := by
  intro l left hd hsh hl hl2 A c hC hc w B vo out hb hwB hBw hR hn
  subst hd
  go_enter Tryd.func31, Tryd.ntmps31
  go_wp2_with (fail)
  refine wp_loop_rounds 1 ?_
  rw [rounds_succ]
  go_wp2_with (fail)
  refine bodyPost_ret (by simp [results, Tryd.results31, go_sem]; try rfl) rfl ?_
  exact ⟨_, rfl, by simpa [flD] using hR, Below.refl _ _, Fra.refl _ _, Att.refl _ _⟩
end Go.Proofs.YtiedbnjoomcdbaaDoor.Tr
set_option linter.unusedVariables false
set_option linter.unusedSimpArgs false
namespace Go.Proofs.YtiedbnjoomcdbaaDoor.Tr
open Go.RowKit Go.Proofs.YtiedbnjoomcdbaaDoor.Ba Go.Proofs.YtiedbnjoomcdbaaDoorW.PrintWords Go.Proofs.YtiedbnjoomcdbaaDoorW.PrintLast Go.Proofs.YtiedbnjoomcdbaaDoorW.PrintMore

theorem keepD3 {w : World} {b : Nat} {x0 x1 x2 : Value} (h : w.cell? ⟨b, 0, none⟩ = some x0 ∧ w.cell? ⟨b, 1, none⟩ = some x1 ∧ w.cell? ⟨b, 2, none⟩ = some x2) :
    w.drew.cell? ⟨b, 0, none⟩ = some x0 ∧ w.drew.cell? ⟨b, 1, none⟩ = some x1 ∧ w.drew.cell? ⟨b, 2, none⟩ = some x2 := h
theorem keepD4' {w : World} {b : Nat} {x0 x1 x2 x3 : Value} (h : w.cell? ⟨b, 1, none⟩ = some x0 ∧ w.cell? ⟨b, 2, none⟩ = some x1 ∧ w.cell? ⟨b, 3, none⟩ = some x2 ∧ w.cell? ⟨b, 7, none⟩ = some x3) :
    w.drew.cell? ⟨b, 1, none⟩ = some x0 ∧ w.drew.cell? ⟨b, 2, none⟩ = some x1 ∧ w.drew.cell? ⟨b, 3, none⟩ = some x2 ∧ w.drew.cell? ⟨b, 7, none⟩ = some x3 := h
theorem Fra.grownD {w W w8 : World} {r r1 : Option Nat} (h : Fra w W r) (g : W.drew.grownBy w8 r1) (a : Att w r r1) : Fra w w8 r :=
  h.trans (show Fra W w8 r1 from ⟨g.size, fun i hi hr => g.block i hi hr⟩) a
theorem Att.transD {w W : World} {r r1 r2 : Option Nat} (h : Att w r r1) (hs : w.heap.size ≤ W.heap.size) (k : r2 = r1 ∨ ∃ b, r2 = some b ∧ W.drew.heap.size ≤ b) : Att w r r2 := h.trans hs k
theorem grD_size {W w8 : World} {r : Option Nat} {B : Nat} (g : W.drew.grownBy w8 r) (h : B ≤ W.heap.size) : B ≤ w8.heap.size := Nat.le_trans h g.size
theorem cells4 {w : World} {b t : Nat} {x0 x1 x2 x3 x4 x5 x6 x7 : Value} (h : w.heap[b]? = some (.cells #[x0, x1, x2, x3, x4, x5, x6, x7] t (0, 0))) :
    w.cell? ⟨b, 1, none⟩ = some x1 ∧ w.cell? ⟨b, 2, none⟩ = some x2 ∧ w.cell? ⟨b, 3, none⟩ = some x3 ∧ w.cell? ⟨b, 7, none⟩ = some x7 := ⟨(blk_cell h 1).trans rfl, (blk_cell h 2).trans rfl, (blk_cell h 3).trans rfl, (blk_cell h 7).trans rfl⟩
theorem cells3 {w : World} {b t : Nat} {x0 x1 x2 x3 : Value} (h : w.heap[b]? = some (.cells #[x0, x1, x2, x3] t (0, 0))) :
    w.cell? ⟨b, 0, none⟩ = some x0 ∧ w.cell? ⟨b, 1, none⟩ = some x1 ∧ w.cell? ⟨b, 2, none⟩ = some x2 := ⟨(blk_cell h 0).trans rfl, (blk_cell h 1).trans rfl, (blk_cell h 2).trans rfl⟩
theorem last_fix {w8 w9 : World} {B g8 c8 : Nat} {acb : List GL} {y : GL} {t t' : ByteArray} (hw : w9 = w8.setCell ⟨g8, acb.length * 3, none⟩ (.string t)) (h : Kd.R kG TL (w8.setCell ⟨g8, acb.length * 3, none⟩ (.string t)) B (fun _ => True) (.slice (some ⟨g8, 0, none⟩) (acb ++ [y]).length c8) (acb ++ [⟨t, y.f1, y.f2⟩])) (e : t = t') :
    Kd.R kG TL w9 B (fun _ => True) (.slice (some ⟨g8, 0, none⟩) (acb.length + 1) c8) (acb ++ [⟨t', y.f1, y.f2⟩]) := by
  subst hw e
  simpa using h
theorem put_below {w w8 w9 : World} {B : Nat} {p : Addr} {v : Value} (h : Below B w w8) (hg : B ≤ p.block) (hw : w9 = w8.setCell p v) : Below B w w9 := by
  subst hw
  exact h.setCell hg _
theorem tx_ne {tx : ByteArray} (h : tx ≠ emp) : (tx.toList == ([] : List UInt8)) = false := by
  rw [beq_eq_false_iff_ne, Lib.toList_data]
  intro e
  exact h (ba_ext (by rw [e]; rfl))
theorem flat_arg2 {wd tx : ByteArray} (h : tx ≠ emp) : (⟨#[46]⟩ : ByteArray) ++ wd ++ (⟨#[32]⟩ : ByteArray) ++ tx = flT wd tx := by
  unfold flT
  rw [if_neg h]
  apply ba_ext
  rw [data_S]
  simp
theorem set_last (l : List GL) (y : GL) (t : ByteArray) : (l ++ [y]).set l.length ⟨t, ((l ++ [y]).getD l.length z0).f1, ((l ++ [y]).getD l.length z0).f2⟩ = l ++ [⟨t, y.f1, y.f2⟩] := by
  have h : (l ++ [y]).getD l.length z0 = y := by simp [List.getD_eq_getElem?_getD]
  rw [h, List.set_append_right _ _ (Nat.le_refl _), Nat.sub_self]
  rfl
theorem flat_arg (wd : ByteArray) : (⟨#[46]⟩ : ByteArray) ++ wd ++ (⟨#[32]⟩ : ByteArray) ++ emp = S ((46 :: wd.data.toList) ++ [32]) := by
  apply ba_ext
  rw [data_S]
  simp [emp]
set_option maxHeartbeats 16000000 in
set_option maxRecDepth 100000 in
theorem flatS (w0 : World) (d : Nat) (ih : FlOk w0 d) : FlOk w0 (d + 1) := by
  intro l left hd hsh hl hl2 A c hC hc w B vo out hb hwB hBw hR hn
  have hu34 := Tryd.underlying34
  have hu56 := Tryd.underlying56
  have hu73 := Tryd.underlying73
  have IH := Aside0.mk ih
  have HD := Aside0.mk hd
  have HSH := Aside0.mk hsh
  have HLF := Aside0.mk (And.intro hl hl2)
  have HN := Aside0.mk (show out.length + (l.flatMap (flN (flD d))).length ≤ 1000000 from hn)
  have HC := Aside0.mk hC
  have hmx := Aside0.mk hC.2.1
  have HB00 := Aside0.mk hb
  have HwB := Aside0.mk (And.intro hwB hBw)
  have HR0 := Aside0.mk (show Kd.R kG TL w B (fun _ => True) vo (out ++ (l.take (0 : Int).toNat).flatMap (flN (flD d))) by simpa using hR)
  show Calls _ _ _ _ fun e w' => ∃ v, e = .returned (.tuple #[v, .bool true]) ∧ Kd.R kG TL w' B (fun _ => True) v (out ++ l.flatMap (flN (flD d))) ∧ Below B w w' ∧ Fra w w' vo.ownBlock ∧ Att w vo.ownBlock v.ownBlock
  have hwl : wrap64 (left - 1) = left - 1 := by unfold wrap64; omega
  clear ih hd hsh hl hl2 hC hc hb hwB hBw hR hn
  go_enter Tryd.func31, Tryd.ntmps31
  go_wp2_with (fail)
  go_loopw [0, 8, 15] (fun v0 v8 v15 wr => ∃ i : Int, v15 = .int .i64 i ∧ v8 = .bool true ∧ 0 ≤ i ∧ i ≤ l.length ∧ Aside0 (Below B w wr) ∧ Aside0 (Kd.R kG TL wr B (fun _ => True) v0 (out ++ (l.take i.toNat).flatMap (flN (flD d)))) ∧ Aside0 (Fra w wr vo.ownBlock) ∧ Aside0 (Att w vo.ownBlock v0.ownBlock)) (fun _ _ v15 _ => l.length - (intOf v15).toNat)
  case atStart => exact ⟨0, rfl, rfl, by omega, by omega, ⟨Below.refl _ _⟩, HR0, ⟨Fra.refl _ _⟩, ⟨Att.refl _ _⟩⟩
  case round =>
    clear HR0
    obtain ⟨i, rfl, rfl, hi0, hi1, HBr, HRr, HFr, HAr⟩ := hrel
    by_cases hlt : i < l.length
    · have d0 : decide (i < (l.length : Int)) = true := decide_eq_true hlt
      have HII := Aside0.mk (And.intro hi0 hlt)
      have hwi : wrap64 (i + 1) = i + 1 := by have := hmx.out; unfold wrap64; omega
      have hb0r : Below w0.heap.size w0 wr := HB00.out.trans (HBr.out.mono HwB.out.1)
      obtain ⟨ad, cs, e, hcl, hK, hcc⟩ := Kd.C_get HC.out zN i hi0 hlt
      subst e
      have HT := Aside0.mk (fm_take (flN (flD d)) l i.toNat zN (by omega))
      have HLn := Aside0.mk (show out.length + ((l.take i.toNat).flatMap (flN (flD d))).length + (flN (flD d) (l.getD i.toNat zN)).length ≤ 1000000 by
        have h1 := fm_len (flN (flD d)) l i.toNat zN (by omega)
        have h2 := HN.out
        omega)
      have HDx := Aside0.mk (HD.out (l.getD i.toNat zN) (mem_getD l i.toNat zN (by omega)))
      have HSx := Aside0.mk (HSH.out (l.getD i.toNat zN) (mem_getD l i.toNat zN (by omega)))
      generalize l.getD i.toNat zN = x at hK HDx HT HLn HSx
      obtain ⟨Ab, cb, An, cn, Ak, ck, rfl, ⟨hb1, hn1, hk1⟩, hCb, hCn, hCk⟩ := knd_open hK
      have hcc : ∀ j u, ([.int .i64 (ndF x).1, .string (ndF x).2.1, .int .i64 (ndF x).2.2.1, .bool (ndF x).2.2.2.1, .slice Ab (ndF x).2.2.2.2.1.length cb, .slice An (ndF x).2.2.2.2.2.1.length cn, .string (ndF x).2.2.2.2.2.2.1, .slice Ak (ndF x).2.2.2.2.2.2.2.length ck] : List Value)[j]? = some u → wr.cell? (ad.add (i.toNat * 8 + j)) = some u := fun j u h => pw_cell_below hb0r (hcc j u h)
      obtain ⟨nb, hnb⟩ : ∃ k, (ndF x).2.2.2.2.1.length = k := ⟨_, rfl⟩
      obtain ⟨nn, hnn⟩ : ∃ k, (ndF x).2.2.2.2.2.1.length = k := ⟨_, rfl⟩
      obtain ⟨nk, hnk⟩ : ∃ k, (ndF x).2.2.2.2.2.2.2.length = k := ⟨_, rfl⟩
      rw [hnb, hnn, hnk] at hcc
      rw [hnb] at hb1 hCb
      rw [hnk] at hk1 hCk
      obtain ⟨acc, hacc⟩ : ∃ acc, out ++ (l.take i.toNat).flatMap (flN (flD d)) = acc := ⟨_, rfl⟩
      rw [hacc] at HRr
      have HAC := Aside0.mk (show out ++ (l.take (i + 1).toNat).flatMap (flN (flD d)) = acc ++ flN (flD d) x by
        rw [show (i + 1).toNat = i.toNat + 1 by omega, HT.out, ← hacc, List.append_assoc])
      have HLo := Aside0.mk (show acc.length + (flN (flD d) x).length ≤ 1000000 by
        rw [← hacc, List.length_append]; exact HLn.out)
      obtain ⟨kx, hkx⟩ : ∃ kx, (ndF x).1 = kx := ⟨_, rfl⟩
      rw [hkx] at hcc HSx
      have HKX := Aside0.mk hkx
      have x0 := hcc 0 _ rfl
      have x1 := hcc 1 _ rfl
      have x2 := hcc 2 _ rfl
      have x3 := hcc 3 _ rfl
      have x4 := hcc 4 _ rfl
      have x5 := hcc 5 _ rfl
      have x6 := hcc 6 _ rfl
      have x7 := hcc 7 _ rfl
      rw [Nat.add_zero] at x0
      rw [add_field _ _ 1 (by omega)] at x1
      rw [add_field _ _ 2 (by omega)] at x2
      rw [add_field _ _ 3 (by omega)] at x3
      rw [add_field _ _ 4 (by omega)] at x4
      rw [add_field _ _ 5 (by omega)] at x5
      rw [add_field _ _ 6 (by omega)] at x6
      rw [add_field _ _ 7 (by omega)] at x7
      have HCb := Aside0.mk hCb
      have HCk := Aside0.mk hCk
      have HNB := Aside0.mk hnb
      have HNK := Aside0.mk hnk
      have HLE := Aside0.mk (And.intro hb1 hk1)
      clear hcl hcc hCb hCn hCk hnb hnn hnk hb1 hk1 hn1 hK HT HLn hacc hkx
      obtain ⟨b5, hb5⟩ : ∃ b, wr.heap.size = b := ⟨_, rfl⟩
      have hbe := below_alloc (Below.refl wr.heap.size wr) (Obj.cells  #[.int .i64 kx, .string (ndF x).2.1, .int .i64 (ndF x).2.2.1, .bool (ndF x).2.2.2.1, .slice Ab nb cb, .slice An nn cn, .string (ndF x).2.2.2.2.2.2.1, .slice Ak nk ck] TG)
      have hk5 := heap_alloc_new wr (Obj.cells  #[.int .i64 kx, .string (ndF x).2.1, .int .i64 (ndF x).2.2.1, .bool (ndF x).2.2.2.1, .slice Ab nb cb, .slice An nn cn, .string (ndF x).2.2.2.2.2.2.1, .slice Ak nk ck] TG)
      rw [hb5] at hk5
      have HK5 := Aside0.mk hk5
      have HR5 := Aside0.mk (Kd.R_below HRr.out hbe)
      have HF5 := Aside0.mk (HFr.out.trans (Fra.below hbe _) HAr.out)
      have HB5 := Aside0.mk (HBr.out.trans (hbe.mono (by have h1 := HBr.out.size; have h2 := HwB.out.2; omega)))
      have HO5 := Aside0.mk (show some b5 ≠ u0.ownBlock from fun e => by have h1 := Kd.R_lt HRr.out _ e.symm; omega)
      have HS5 := Aside0.mk (show w.heap.size ≤ b5 by have := HBr.out.size; omega)
      go_upto_region 5 with (fail)
      (try simp only [hb5])
      clear hbe hk5 x0 x1 x2 x3 x4 x5 x6 x7 HRr HFr HBr
      generalize wr.alloc (Obj.cells  #[.int .i64 kx, .string (ndF x).2.1, .int .i64 (ndF x).2.2.1, .bool (ndF x).2.2.2.1, .slice Ab nb cb, .slice An nn cn, .string (ndF x).2.2.2.2.2.2.1, .slice Ak nk ck] TG) = W5 at *
      rcases HSx.out.1 with rfl | ⟨hd0, rfl | rfl⟩
      · have y0 := (blk_cell HK5.out 0).trans rfl; have y1 := (blk_cell HK5.out 1).trans rfl; have y2 := (blk_cell HK5.out 2).trans rfl; have y3 := (blk_cell HK5.out 3).trans rfl; have y4 := (blk_cell HK5.out 4).trans rfl; have y5 := (blk_cell HK5.out 5).trans rfl; have y6 := (blk_cell HK5.out 6).trans rfl; have y7 := (blk_cell HK5.out 7).trans rfl
        go_wp2_with (((with_reducible refine gate_builtin (b := .append) (xs := #[.tmp 40, .tmp 43]) rfl ?_); at_builtin; refine Kd.R_append kG (w0 := w) B rfl (.tmp 40) (.tmp 43) 27 TL (.agg #[.string ⟨#[]⟩, .int .i64 0, .bool false]) 32 rfl Tryd.underlying27 infoLn rfl (by decide) (by decide) u0 (acc) (lnF x) ([.string (ndF x).2.1, .int .i64 (ndF x).2.2.1, .bool (ndF x).2.2.2.1]) (fun _ => True) (fun _ => False) rfl rfl ?aP ?aF ?aN ?aO ?aB ?aS ?aL ?_))
        case aP => exact PT.k34_mkM _ _ _ (lnF x)
        case aO => exact HR5.out
        case aB => exact HB5.out
        case aS => have h1 := HB5.out.size; have h2 := HwB.out.2; omega
        case aL => have h1 := HLo.out; unfold flN at h1; rw [if_pos HKX.out, List.length_singleton] at h1; omega
        intro v6 w6 hR6 hB6 hg6 hat6
        have HR6 := Aside0.mk hR6
        have HB6 := Aside0.mk hB6
        have HG6 := Aside0.mk (HF5.out.trans (Fra.grown hg6) HAr.out)
        have HA6 := Aside0.mk (HAr.out.trans HF5.out.1 hat6)
        clear hR6 hB6 hg6 hat6
        go_wp2_with (fail)
        go_roundw
        case measure => rw [hwi]; exact msrN HII.out.1 HII.out.2
        case rel => exact ⟨i + 1, by go_num, rfl, (nxtN HII.out.1 HII.out.2).1, (nxtN HII.out.1 HII.out.2).2, HB6, ⟨by rw [HAC.out]; unfold flN; rw [if_pos HKX.out]; exact HR6.out⟩, HG6, HA6⟩
      · have y0 := (blk_cell HK5.out 0).trans rfl; have y1 := (blk_cell HK5.out 1).trans rfl; have y2 := (blk_cell HK5.out 2).trans rfl; have y3 := (blk_cell HK5.out 3).trans rfl; have y4 := (blk_cell HK5.out 4).trans rfl; have y5 := (blk_cell HK5.out 5).trans rfl; have y6 := (blk_cell HK5.out 6).trans rfl; have y7 := (blk_cell HK5.out 7).trans rfl
        have z1 : (left == 0) = false := beq_eq_false_iff_ne.2 (by have := HLF.out.1; omega)
        have HKN := Aside0.mk (show flN (flD d) x = (ndF x).2.2.2.2.1.flatMap (flB (flD d)) ++ [⟨tEndif, (ndF x).2.2.1, false⟩] by
          unfold flN; rw [if_neg (by rw [HKX.out]; decide), if_pos HKX.out]; rfl)
        have HLb := Aside0.mk (show acc.length + ((ndF x).2.2.2.2.1.flatMap (flB (flD d))).length + 1 ≤ 1000000 by
          have h1 := HLo.out; rw [HKN.out, List.length_append, List.length_singleton] at h1; omega)
        go_wp2_with (fail)
        go_loopw [0, 8, 50] (fun v0 v8 v50 wq => ∃ j : Int, v50 = .int .i64 j ∧ v8 = .bool true ∧ 0 ≤ j ∧ j ≤ nb ∧ Aside0 (Below B w wq) ∧ Aside0 (wq.heap[b5]? = some (.cells  #[.int .i64 2, .string (ndF x).2.1, .int .i64 (ndF x).2.2.1, .bool (ndF x).2.2.2.1, .slice Ab nb cb, .slice An nn cn, .string (ndF x).2.2.2.2.2.2.1, .slice Ak nk ck] TG (0, 0))) ∧ Aside0 (Kd.R kG TL wq B (fun _ => True) v0 (acc ++ ((ndF x).2.2.2.2.1.take j.toNat).flatMap (flB (flD d)))) ∧ Aside0 (Fra w wq vo.ownBlock) ∧ Aside0 (Att w vo.ownBlock v0.ownBlock)) (fun _ _ v50 _ => nb - (intOf v50).toNat)
        case atStart => exact ⟨0, rfl, rfl, by omega, by omega, HB5, HK5, ⟨by simpa using HR5.out⟩, HF5, HAr⟩
        case round =>
          clear HR5 HB5 HF5 HAr HK5 HO5
          obtain ⟨j, rfl, rfl, hj0, hj1, HBq, HKq, HRq, HFq, HAq⟩ := hrel
          by_cases hjt : j < nb
          · have d2 : decide (j < (nb : Int)) = true := decide_eq_true hjt
            have HJJ := Aside0.mk (And.intro hj0 hjt)
            have hjl : j.toNat < (ndF x).2.2.2.2.1.length := by rw [HNB.out]; omega
            have hwj : wrap64 (j + 1) = j + 1 := by have := HCb.out.2.1; unfold wrap64; omega
            have hb0q : Below w0.heap.size w0 wr := HB00.out.trans (HBq.out.mono HwB.out.1)
            obtain ⟨ae, cse, ee, hcl, hKb, hcb⟩ := Kd.C_get HCb.out zB j hj0 hjt
            have HTb := Aside0.mk (fm_take (flB (flD d)) (ndF x).2.2.2.2.1 j.toNat zB hjl)
            have HLc := Aside0.mk (fm_len (flB (flD d)) (ndF x).2.2.2.2.1 j.toNat zB hjl)
            have HDb := Aside0.mk (HDx.out.1 ((ndF x).2.2.2.2.1.getD j.toNat zB) (mem_getD _ j.toNat zB hjl))
            have HSb := Aside0.mk (HSx.out.2.1 ((ndF x).2.2.2.2.1.getD j.toNat zB) (mem_getD _ j.toNat zB hjl))
            generalize (ndF x).2.2.2.2.1.getD j.toNat zB = b at hKb HTb HLc HDb HSb
            obtain ⟨Aq, cq, rfl, hq1, hCq⟩ := kbr_open hKb
            have hcb : ∀ k u, ([.string (brF b).1, .string (brF b).2.1, .int .i64 (brF b).2.2.1, .slice Aq (brF b).2.2.2.length cq] : List Value)[k]? = some u → wr.cell? (ae.add (j.toNat * 4 + k)) = some u := fun k u h => pw_cell_below hb0q (hcb k u h)
            obtain ⟨nq, hnq⟩ : ∃ k, (brF b).2.2.2.length = k := ⟨_, rfl⟩
            rw [hnq] at hcb hq1 hCq
            have u0' := hcb 0 _ rfl
            have u1 := hcb 1 _ rfl
            have u2 := hcb 2 _ rfl
            have u3 := hcb 3 _ rfl
            rw [Nat.add_zero] at u0'
            rw [add_field _ _ 1 (by omega)] at u1
            rw [add_field _ _ 2 (by omega)] at u2
            rw [add_field _ _ 3 (by omega)] at u3
            have HCq := Aside0.mk hCq
            have HNq := Aside0.mk hnq
            have HQ1 := Aside0.mk hq1
            obtain ⟨acb, hacb⟩ : ∃ acb, acc ++ ((ndF x).2.2.2.2.1.take j.toNat).flatMap (flB (flD d)) = acb := ⟨_, rfl⟩
            rw [hacb] at HRq
            have HACb := Aside0.mk (show acc ++ ((ndF x).2.2.2.2.1.take (j + 1).toNat).flatMap (flB (flD d)) = acb ++ flB (flD d) b by
              rw [show (j + 1).toNat = j.toNat + 1 by omega, HTb.out, ← hacb, List.append_assoc])
            have HLd := Aside0.mk (show acb.length + (1 + (flD d (brF b).2.2.2).length) + 1 ≤ 1000000 by
              have h1 := HLb.out; have h2 := HLc.out; rw [← hacb, List.length_append]; simp only [flB, List.length_cons] at h2; omega)
            clear hcl hcb hCq hnq hq1 hKb hb0q HTb HLc hacb
            obtain ⟨wd, hwd⟩ : ∃ wd, (brF b).1 = wd := ⟨_, rfl⟩
            obtain ⟨tx, htx⟩ : ∃ tx, (brF b).2.1 = tx := ⟨_, rfl⟩
            rw [hwd] at u0'
            rw [htx] at u1
            have HWT := Aside0.mk (And.intro hwd htx)
            clear hwd htx
            have HSZ := Aside0.mk (show wd.size ≤ 100000000 ∧ tx.size ≤ 100000000 from ⟨by rw [← HWT.out.1]; exact HSb.out.1, by rw [← HWT.out.2]; exact HSb.out.2.1⟩)
            obtain ⟨b6, hb6⟩ : ∃ b, wr.heap.size = b := ⟨_, rfl⟩
            have hbe := below_alloc (Below.refl wr.heap.size wr) (Obj.cells #[.string wd, .string tx, .int .i64 (brF b).2.2.1, .slice Aq nq cq] TGb)
            have hk6 := heap_alloc_new wr (Obj.cells #[.string wd, .string tx, .int .i64 (brF b).2.2.1, .slice Aq nq cq] TGb)
            rw [hb6] at hk6
            have HK6 := Aside0.mk hk6
            have HKX6 := Aside0.mk (blk_below HKq.out hbe)
            have HR6 := Aside0.mk (Kd.R_below HRq.out hbe)
            have HF6 := Aside0.mk (HFq.out.trans (Fra.below hbe _) HAq.out)
            have HB6 := Aside0.mk (HBq.out.trans (hbe.mono (by have h1 := HBq.out.size; have h2 := HwB.out.2; omega)))
            obtain ⟨A0, c0, e0⟩ := Kd.R_slice HR6.out
            subst e0
            subst ee
            go_upto_region 14 with (fail)
            (try simp only [hb6])
            clear hbe hk6 u0' u1 u2 u3 HRq HFq HBq HKq
            generalize wr.alloc (Obj.cells #[.string wd, .string tx, .int .i64 (brF b).2.2.1, .slice Aq nq cq] TGb) = W6 at *
            have v0 : W6.cell? ⟨b6, 0, none⟩ = some (.string wd) := (blk_cell HK6.out 0).trans rfl
            have v1 : W6.cell? ⟨b6, 1, none⟩ = some (.string tx) := (blk_cell HK6.out 1).trans rfl
            have v2 : W6.cell? ⟨b6, 2, none⟩ = some (.int .i64 (brF b).2.2.1) := (blk_cell HK6.out 2).trans rfl
            have v3 : W6.cell? ⟨b6, 3, none⟩ = some (.slice Aq nq cq) := (blk_cell HK6.out 3).trans rfl
            obtain ⟨r7, hr7⟩ := trimB_any ((⟨#[46]⟩ : ByteArray) ++ wd ++ (⟨#[32]⟩ : ByteArray) ++ tx) (by have h1 := HSZ.out; have e1 : (⟨#[46]⟩ : ByteArray).size = 1 := rfl; have e2 : (⟨#[32]⟩ : ByteArray).size = 1 := rfl; simp only [ByteArray.size_append]; omega)
            have HTS := Aside0.mk hr7
            clear hr7
            have HS6z := Aside0.mk (show B ≤ W6.heap.size by have h1 := HB6.out.size; have h2 := HwB.out.2; omega)
            have HS6 := Aside0.mk (fun {n : Nat} (h : W6.heap.size ≤ n) => Nat.le_trans HS6z.out h)
            have HLe := Aside0.mk (show (acb.length + 1) * 32 ≤ 140737488355328 by have := HLd.out; omega)
            have q1 : (9223372036854775807 < 1 + wd.size) = False := eq_false (by have := HSZ.out; omega)
            have q2 : (9223372036854775807 < 1 + wd.size + 1) = False := eq_false (by have := HSZ.out; omega)
            have q3 : (9223372036854775807 < 1 + wd.size + 1 + tx.size) = False := eq_false (by have := HSZ.out; omega)
            go_region_held3 (fun w' => w'.cell? ⟨b6, 0, none⟩ = some (.string wd) ∧ w'.cell? ⟨b6, 1, none⟩ = some (.string tx) ∧ w'.cell? ⟨b6, 2, none⟩ = some (.int .i64 (brF b).2.2.1)) (first | (with_reducible exact ⟨v0, v1, v2⟩) | (with_reducible exact ⟨z0, z1, z2⟩) | (with_reducible exact ⟨zA0 _, zA1 _, zA2 _⟩) | (with_reducible exact keepD3 ⟨v0, v1, v2⟩) | (with_reducible exact keepD3 ⟨z0, z1, z2⟩) | (with_reducible exact ⟨y8.1, y8.2.1, y8.2.2⟩)) (first | (refine Kd.R_append_step kG (w0 := w) B (by rfl) (.tmp 54) (.tmp 66) 27 TL (.agg #[.string ⟨#[]⟩, .int .i64 0, .bool false]) 32 (by rfl) Tryd.underlying27 infoLn (by rfl) (by decide) (by decide) (.slice A0 acb.length c0) acb (⟨r7, (brF b).2.2.1, false⟩ : GL) [.string r7, .int .i64 (brF b).2.2.1, .bool false] (fun _ => True) (fun _ => False) (by rfl) (by rfl) (PT.k34_mkM _ _ _ _) (fun _ hk => hk.elim) (fun _ _ => trivial) HR7.out HB7.out HS7.out HLe.out ?_; intro v8 w8 hR8 hB8 hg8 hat8; have k8 : w8.heap[b6]? = some (.cells #[.string wd, .string tx, .int .i64 (brF b).2.2.1, .slice Aq nq cq] TGb (0, 0)) := (hg8.block b6 (blk_lt HK7.out) (apart_tyN HR7.out HK7.out (by decide))).trans HK7.out; have y8 := cells3 k8) | (go_simp; go_at_call 43; (with_reducible refine (PU.strings_TrimSuffix.calls _ ⟨#[32]⟩ r7 _ HTS.out).mono ?_); rintro e w7 ⟨rfl, hd7⟩; have hb7 : Below W6.heap.size W6 w7 := below_step (below_drew (Below.refl _ _)) hd7.below; have HK7 := Aside0.mk (blk_below HK6.out hb7); have HKX7 := Aside0.mk (blk_below HKX6.out hb7); have HR7 := Aside0.mk (Kd.R_below HR6.out hb7); have HS7 := Aside0.mk (HS6.out hb7.size); have HB7 := Aside0.mk (HB6.out.trans (hb7.mono HS6z.out)); have HF7 := Aside0.mk (HF6.out.trans (Fra.below hb7 _) HAq.out); have z0 := (blk_cell HK7.out 0).trans (show _ = some (Value.string wd) from rfl); have z1 := (blk_cell HK7.out 1).trans (show _ = some (Value.string tx) from rfl); have z2 := (blk_cell HK7.out 2).trans (show _ = some (Value.int .i64 (brF b).2.2.1) from rfl); have zA0 : ∀ o : Obj, (w7.alloc o).cell? ⟨b6, 0, none⟩ = some (.string wd) := fun o => (blk_cell (blk_alloc HK7.out o) 0).trans rfl; have zA1 : ∀ o : Obj, (w7.alloc o).cell? ⟨b6, 1, none⟩ = some (.string tx) := fun o => (blk_cell (blk_alloc HK7.out o) 1).trans rfl; have zA2 : ∀ o : Obj, (w7.alloc o).cell? ⟨b6, 2, none⟩ = some (.int .i64 (brF b).2.2.1) := fun o => (blk_cell (blk_alloc HK7.out o) 2).trans rfl) | fail)
            all_goals
              have HK8 := Aside0.mk ((hg8.block b6 (blk_lt HK7.out) (apart_tyN HR7.out HK7.out (by decide))).trans HK7.out)
              have HKX8 := Aside0.mk ((hg8.block b5 (blk_lt HKX7.out) (apart_tyN HR7.out HKX7.out (by decide))).trans HKX7.out)
              have HG8 := Aside0.mk (HF7.out.trans (Fra.grown hg8) HAq.out)
              have HA8 := Aside0.mk (HAq.out.trans HF7.out.1 hat8)
              have HR8 := Aside0.mk hR8
              have HB8 := Aside0.mk hB8
              have HS8 := Aside0.mk (HS6.out (Nat.le_trans hb7.size hg8.size))
              clear v0 v1 v2 v3 z0 z1 z2 zA0 zA1 zA2 k8 y8 hR8 hB8 hg8 hat8 hd7 hb7 HK7 HKX7 HR7 HS7 HB7 HF7 q1
              have v0 : w8.cell? ⟨b6, 0, none⟩ = some (.string wd) := (blk_cell HK8.out 0).trans rfl
              have v1 : w8.cell? ⟨b6, 1, none⟩ = some (.string tx) := (blk_cell HK8.out 1).trans rfl
              have v3 : w8.cell? ⟨b6, 3, none⟩ = some (.slice Aq nq cq) := (blk_cell HK8.out 3).trans rfl
              by_cases he : tx = emp
              · have f15 : (tx.toList == ([] : List UInt8)) = true := (by rw [he, Lib.toList_data]; rfl)
                have f15c : decide (tx.toList = ([] : List UInt8)) = true := decide_eq_true (by simpa using f15)
                have hq : r7 = flT wd tx := by
                  have h1 := HTS.out
                  rw [he, flat_arg] at h1
                  rw [trimB_last _ (by rw [List.length_cons, ← size_len]; have := HSZ.out; omega)] at h1
                  rw [he]
                  unfold flT
                  rw [if_pos rfl]
                  exact (Option.some.inj h1).symm
                have HR9 := Aside0.mk (show Kd.R kG TL w8 B (fun _ => True) v8 (acb ++ [⟨flT wd tx, (brF b).2.2.1, false⟩]) by rw [← hq]; exact HR8.out)
                clear he
                have KC := IH.out (brF b).2.2.2 (left - 1) HDb.out HSb.out.2.2 (by have := HLF.out.1; omega) (by have := HLF.out.2; omega) Aq cq (by rw [HNq.out]; exact HCq.out) (by rw [HNq.out]; exact HQ1.out) w8 B v8 (acb ++ [⟨flT wd tx, (brF b).2.2.1, false⟩]) (HB00.out.trans (HB8.out.mono HwB.out.1)) HwB.out.1 HS8.out HR9.out (by have := HLd.out; rw [List.length_append, List.length_singleton]; omega)
                rw [HNq.out] at KC
                have HN9 := Aside0.mk (apart_tyN HR9.out HKX8.out (by decide))
                (try simp only [Exit.inBlock, Exit.then])
                go_wp2_with (fail)
                refine KC.mono ?_
                rintro e w11 ⟨v11, rfl, hR11, hB11, hF11, hA11⟩
                have HR11 := Aside0.mk hR11
                have HB11 := Aside0.mk (HB8.out.trans hB11)
                have HK11 := Aside0.mk (hF11.blk HKX8.out HN9.out)
                have HG11 := Aside0.mk (HG8.out.trans hF11 HA8.out)
                have HA11 := Aside0.mk (HA8.out.trans HG8.out.1 hA11)
                clear hR11 hB11 hF11 hA11 KC v0 v1 v3
                go_wp2_with (fail)
                go_roundw
                case measure => rw [hwj]; exact msrN HJJ.out.1 HJJ.out.2
                case rel => exact ⟨j + 1, by go_num, rfl, (nxtN HJJ.out.1 HJJ.out.2).1, (nxtN HJJ.out.1 HJJ.out.2).2, HB11, HK11, ⟨by rw [HACb.out]; unfold flB; rw [HWT.out.1, HWT.out.2]; simpa using HR11.out⟩, HG11, HA11⟩
              · have f15 : (tx.toList == ([] : List UInt8)) = false := tx_ne he
                have f15c : decide (tx.toList = ([] : List UInt8)) = false := decide_eq_false (by simpa using f15)
                obtain ⟨g8, c8, e8, gB8, gl8, cl8, hgc8⟩ := Kd.R_form HR8.out (by simp)
                subst e8
                have hP := line_put HR8.out (acb.length : Int) (by omega) (by simp; omega) ((⟨#[46]⟩ : ByteArray) ++ wd ++ (⟨#[32]⟩ : ByteArray) ++ tx)
                rw [Int.toNat_natCast] at hP
                rw [set_last] at hP
                obtain ⟨x9, y9, hR9, hG9⟩ := hP
                have HRP := Aside0.mk hR9
                have HGP := Aside0.mk hG9
                have HGE := Aside0.mk (⟨gB8, gl8⟩ : B ≤ g8 ∧ g8 < w8.heap.size)
                have HFL := Aside0.mk (flat_arg2 (wd := wd) he)
                have q4 : (9223372036854775807 < 1 + wd.size) = False := eq_false (by have := HSZ.out; omega)
                have w8m : wrap64 (acb.length : Int) = (acb.length : Int) := by have := HLd.out; unfold wrap64; omega
                have w8l : wrap64 ((acb.length : Int) + 1 - 1) = (acb.length : Int) := by have := HLd.out; unfold wrap64; omega
                (try simp only [Exit.inBlock, Exit.then])
                clear hR9 hG9 gB8 gl8 hgc8 he
                go_wp2_with ((with_reducible refine gate_store (t := 9) (p := 83) rfl ?_); refine store_event (t := 9) (p := 83) (v := ?vo) (w1 := (w8.setCell ⟨g8, acb.length * 3, none⟩ (.string ((⟨#[46]⟩ : ByteArray) ++ wd ++ (⟨#[32]⟩ : ByteArray) ++ tx)))) ?hg ?ho ?hn ?hr ?_; (case ho => rfl); (case hg => rfl); (case hn => rfl); (case hr => first | (go_simp; done) | (go_simp; rfl)); intro w9 hw9; have HR9 := Aside0.mk (show Kd.R kG TL w9 B (fun _ => True) (.slice (some ⟨g8, 0, none⟩) (acb.length + 1) c8) (acb ++ [⟨flT wd tx, (brF b).2.2.1, false⟩]) from last_fix hw9 HRP.out HFL.out); have hg9 : w8.grownBy w9 (some g8) := (Eq.mpr (congrArg (fun z => w8.grownBy z (some g8)) hw9) HGP.out); have HB9 := Aside0.mk (put_below HB8.out HGE.out.1 hw9); have HK9 := Aside0.mk ((hg9.block b6 (blk_lt HK8.out) (apart_tyN HR8.out HK8.out (by decide))).trans HK8.out); have HKX9 := Aside0.mk ((hg9.block b5 (blk_lt HKX8.out) (apart_tyN HR8.out HKX8.out (by decide))).trans HKX8.out); have HG9 := Aside0.mk (HG8.out.trans (Fra.grown hg9) HA8.out); have HS9 := Aside0.mk (Nat.le_trans HS8.out hg9.size); clear hw9 hg9 v0 v1 v3 x9 y9; have v3 : w9.cell? ⟨b6, 3, none⟩ = some (.slice Aq nq cq) := (blk_cell HK9.out 3).trans rfl)
                have KC := IH.out (brF b).2.2.2 (left - 1) HDb.out HSb.out.2.2 (by have := HLF.out.1; omega) (by have := HLF.out.2; omega) Aq cq (by rw [HNq.out]; exact HCq.out) (by rw [HNq.out]; exact HQ1.out) w9 B (.slice (some ⟨g8, 0, none⟩) (acb.length + 1) c8) (acb ++ [⟨flT wd tx, (brF b).2.2.1, false⟩]) (HB00.out.trans (HB9.out.mono HwB.out.1)) HwB.out.1 HS9.out HR9.out (by have := HLd.out; rw [List.length_append, List.length_singleton]; omega)
                rw [HNq.out] at KC
                have HN9 := Aside0.mk (apart_tyN HR9.out HKX9.out (by decide))
                refine KC.mono ?_
                rintro e w11 ⟨v11, rfl, hR11, hB11, hF11, hA11⟩
                have HR11 := Aside0.mk hR11
                have HB11 := Aside0.mk (HB9.out.trans hB11)
                have HK11 := Aside0.mk (hF11.blk HKX9.out HN9.out)
                have HG11 := Aside0.mk (HG9.out.trans hF11 HA8.out)
                have HA11 := Aside0.mk (HA8.out.trans HG9.out.1 hA11)
                clear hR11 hB11 hF11 hA11 KC v3
                go_wp2_with (fail)
                go_roundw
                case measure => rw [hwj]; exact msrN HJJ.out.1 HJJ.out.2
                case rel => exact ⟨j + 1, by go_num, rfl, (nxtN HJJ.out.1 HJJ.out.2).1, (nxtN HJJ.out.1 HJJ.out.2).2, HB11, HK11, ⟨by rw [HACb.out]; unfold flB; rw [HWT.out.1, HWT.out.2]; simpa using HR11.out⟩, HG11, HA11⟩
          · have d2 : decide (j < (nb : Int)) = false := decide_eq_false hjt
            rw [show (ndF x).2.2.2.2.1.take j.toNat = (ndF x).2.2.2.2.1 from List.take_of_length_le (by rw [HNB.out]; omega)] at HRq
            obtain ⟨acb, hacb⟩ : ∃ acb, acc ++ (ndF x).2.2.2.2.1.flatMap (flB (flD d)) = acb := ⟨_, rfl⟩
            rw [hacb] at HRq
            have HFX := Aside0.mk (show acc ++ flN (flD d) x = acb ++ [⟨tEndif, (ndF x).2.2.1, false⟩] by rw [HKN.out, ← hacb, List.append_assoc])
            have HLd := Aside0.mk (show (acb.length + 1) * 32 ≤ 140737488355328 by have h1 := HLb.out; rw [← hacb, List.length_append]; omega)
            clear hacb
            have y2 : wr.cell? ⟨b5, 2, none⟩ = some (.int .i64 (ndF x).2.2.1) := (blk_cell HKq.out 2).trans rfl
            obtain ⟨A0, c0, e0⟩ := Kd.R_slice HRq.out
            subst e0
            go_wp2_with (((with_reducible refine gate_builtin (b := .append) (xs := #[.tmp 96, .tmp 101]) rfl ?_); at_builtin; refine Kd.R_append kG (w0 := w) B rfl (.tmp 96) (.tmp 101) 27 TL (.agg #[.string ⟨#[]⟩, .int .i64 0, .bool false]) 32 rfl Tryd.underlying27 infoLn rfl (by decide) (by decide) (.slice A0 acb.length c0) (acb) ((⟨tEndif, (ndF x).2.2.1, false⟩ : GL)) ([.string ⟨#[46, 101, 110, 100, 105, 102]⟩, .int .i64 (ndF x).2.2.1, .bool false]) (fun _ => True) (fun _ => False) rfl rfl ?bP ?bF ?bN ?bO ?bB ?bS ?bL ?_))
            case bP => exact PT.k34_mkM _ _ _ (⟨tEndif, (ndF x).2.2.1, false⟩ : GL)
            case bO => exact HRq.out
            case bB => exact HBq.out
            case bS => have h1 := HBq.out.size; have h2 := HwB.out.2; omega
            case bL => exact HLd.out
            intro v6 w6 hR6 hB6 hg6 hat6
            have HR6 := Aside0.mk hR6
            have HB6 := Aside0.mk hB6
            have HG6 := Aside0.mk (HFq.out.trans (Fra.grown hg6) HAq.out)
            have HA6 := Aside0.mk (HAq.out.trans HFq.out.1 hat6)
            clear hR6 hB6 hg6 hat6 y2
            go_wp2_with (fail)
            go_roundw
            case measure => rw [hwi]; exact msrN HII.out.1 HII.out.2
            case rel => exact ⟨i + 1, by go_num, rfl, (nxtN HII.out.1 HII.out.2).1, (nxtN HII.out.1 HII.out.2).2, HB6, ⟨by rw [HAC.out, HFX.out]; exact HR6.out⟩, HG6, HA6⟩
      · have y0 := (blk_cell HK5.out 0).trans rfl; have y1 := (blk_cell HK5.out 1).trans rfl; have y2 := (blk_cell HK5.out 2).trans rfl; have y3 := (blk_cell HK5.out 3).trans rfl; have y4 := (blk_cell HK5.out 4).trans rfl; have y5 := (blk_cell HK5.out 5).trans rfl; have y6 := (blk_cell HK5.out 6).trans rfl; have y7 := (blk_cell HK5.out 7).trans rfl
        have z1 : (left == 0) = false := beq_eq_false_iff_ne.2 (by have := HLF.out.1; omega)
        have HKN := Aside0.mk (show acc ++ flN (flD d) x = (acc ++ [lnF x]) ++ flD d (ndF x).2.2.2.2.2.2.2 ++ [⟨tEndfor, (ndF x).2.2.1, false⟩] by
          unfold flN; rw [if_neg (by rw [HKX.out]; decide), if_neg (by rw [HKX.out]; decide)]; simp [lnF])
        have HLb := Aside0.mk (show acc.length + 1 + (flD d (ndF x).2.2.2.2.2.2.2).length + 1 ≤ 1000000 by
          have h1 := HLo.out; rw [← List.length_append, HKN.out] at h1; simp only [List.length_append, List.length_singleton] at h1; omega)
        have HLe := Aside0.mk (show (acc.length + 1) * 32 ≤ 140737488355328 by have := HLb.out; omega)
        have HSz := Aside0.mk (show B ≤ W5.heap.size by have h1 := HB5.out.size; have h2 := HwB.out.2; omega)
        obtain ⟨A0, c0, e0⟩ := Kd.R_slice HR5.out
        subst e0
        go_upto_region 23 with (fail)
        have KC := Aside0.mk (show ∀ (v : Value) (W : World), Kd.R kG TL W B (fun _ => True) v (acc ++ [lnF x]) → Below B w W → B ≤ W.heap.size → Calls Tryd.prog 31 #[v, .slice Ak nk ck, .int .i64 (IntKind.i64.wrap (left - 1))] W fun e w' => ∃ v', e = .returned (.tuple #[v', .bool true]) ∧ Kd.R kG TL w' B (fun _ => True) v' ((acc ++ [lnF x]) ++ flD d (ndF x).2.2.2.2.2.2.2) ∧ Below B W w' ∧ Fra W w' v.ownBlock ∧ Att W v.ownBlock v'.ownBlock by
          intro v W h1 h2 h3
          have h4 := IH.out (ndF x).2.2.2.2.2.2.2 (left - 1) HDx.out.2 HSx.out.2.2 (by have := HLF.out.1; omega) (by have := HLF.out.2; omega) Ak ck (by rw [HNK.out]; exact HCk.out) (by rw [HNK.out]; exact HLE.out.2) W B v (acc ++ [lnF x]) (HB00.out.trans (h2.mono HwB.out.1)) HwB.out.1 h3 h1 (by have := HLb.out; rw [List.length_append, List.length_singleton]; omega)
          rw [HNK.out] at h4
          rw [show IntKind.i64.wrap (left - 1) = left - 1 by rw [IntKind.wrap_i64]; have h5 := HLF.out.1; have h6 := HLF.out.2; omega]
          exact h4)
        have yq := cells4 HK5.out
        have yA : ∀ o : Obj, (W5.alloc o).drew.cell? ⟨b5, 1, none⟩ = some (.string (ndF x).2.1) ∧ (W5.alloc o).drew.cell? ⟨b5, 2, none⟩ = some (.int .i64 (ndF x).2.2.1) ∧ (W5.alloc o).drew.cell? ⟨b5, 3, none⟩ = some (.bool (ndF x).2.2.2.1) ∧ (W5.alloc o).drew.cell? ⟨b5, 7, none⟩ = some (.slice Ak nk ck) := fun o => keepD4' (cells4 (blk_alloc HK5.out o))
        go_region_held3 (fun w' => w'.cell? ⟨b5, 1, none⟩ = some (.string (ndF x).2.1) ∧ w'.cell? ⟨b5, 2, none⟩ = some (.int .i64 (ndF x).2.2.1) ∧ w'.cell? ⟨b5, 3, none⟩ = some (.bool (ndF x).2.2.2.1) ∧ w'.cell? ⟨b5, 7, none⟩ = some (.slice Ak nk ck)) (first | (with_reducible exact yq) | (with_reducible exact keepD4' yq) | (with_reducible exact yA _) | (with_reducible exact y8) | (with_reducible assumption)) (first | (refine Kd.R_append_step kG (w0 := w) B (by rfl) (.tmp 106) (.tmp 109) 27 TL (.agg #[.string ⟨#[]⟩, .int .i64 0, .bool false]) 32 (by rfl) Tryd.underlying27 infoLn (by rfl) (by decide) (by decide) (.slice A0 acc.length c0) acc (lnF x) [.string (ndF x).2.1, .int .i64 (ndF x).2.2.1, .bool (ndF x).2.2.2.1] (fun _ => True) (fun _ => False) (by rfl) (by rfl) (PT.k34_mkM _ _ _ (lnF x)) (fun _ hk => hk.elim) (fun _ _ => trivial) (Kd.R_below HR5.out (below_drew (Below.refl _ _))) (below_drew HB5.out) HSz.out HLe.out ?_; intro v8 w8 hR8 hB8 hg8 hat8; have k8 := Aside0.mk (hg8.block b5 (blk_lt HK5.out) (apart_tyN HR5.out HK5.out (by decide)) |>.trans HK5.out); have y8 := cells4 k8.out; have HR8 := Aside0.mk hR8; have HB8 := Aside0.mk hB8; have HG8 := Aside0.mk (Fra.grownD HF5.out hg8 HAr.out); have HA8 := Aside0.mk (Att.transD HAr.out HF5.out.1 hat8); have HS8 := Aside0.mk (grD_size hg8 HSz.out); have HN8 := Aside0.mk (apart_tyN HR8.out k8.out (by decide))) | (go_simp; go_at_call 31; (with_reducible refine (KC.out v8 w8 HR8.out HB8.out HS8.out).mono ?_); rintro e w11 ⟨v11, rfl, hR11, hB11, hF11, hA11⟩; have k11 := Aside0.mk (hF11.blk k8.out HN8.out); have y9 := cells4 k11.out))
        all_goals
          have HR11 := Aside0.mk hR11
          have HB11 := Aside0.mk (HB8.out.trans hB11)
          have HG11 := Aside0.mk (HG8.out.trans hF11 HA8.out)
          have HA11 := Aside0.mk (HA8.out.trans HG8.out.1 hA11)
          have y2 : w11.cell? ⟨b5, 2, none⟩ = some (.int .i64 (ndF x).2.2.1) := y9.2.1
          obtain ⟨acb, hacb⟩ : ∃ acb, (acc ++ [lnF x]) ++ flD d (ndF x).2.2.2.2.2.2.2 = acb := ⟨_, rfl⟩
          have HR11 := Aside0.mk (show Kd.R kG TL w11 B (fun _ => True) v11 acb by rw [← hacb]; exact HR11.out)
          have HFX := Aside0.mk (show acc ++ flN (flD d) x = acb ++ [⟨tEndfor, (ndF x).2.2.1, false⟩] by rw [HKN.out, ← hacb])
          have HLd := Aside0.mk (show (acb.length + 1) * 32 ≤ 140737488355328 by have h1 := HLb.out; rw [← hacb, List.length_append, List.length_append, List.length_singleton]; omega)
          have HS11 := Aside0.mk (show B ≤ w11.heap.size by have h1 := HB11.out.size; have h2 := HwB.out.2; omega)
          clear hR11 hB11 hF11 hA11 hacb hR8 hB8 hg8 hat8 y8 y9 y0 y1 y3 y4 y5 y6 y7 yA yq KC
          obtain ⟨A0', c0', e0'⟩ := Kd.R_slice HR11.out
          subst e0'
          (try simp only [Exit.inBlock, Exit.then])
          go_wp2_with (((with_reducible refine gate_builtin (b := .append) (xs := #[.tmp 120, .tmp 125]) rfl ?_); at_builtin; refine Kd.R_append kG (w0 := w) B rfl (.tmp 120) (.tmp 125) 27 TL (.agg #[.string ⟨#[]⟩, .int .i64 0, .bool false]) 32 rfl Tryd.underlying27 infoLn rfl (by decide) (by decide) (.slice A0' acb.length c0') (acb) ((⟨tEndfor, (ndF x).2.2.1, false⟩ : GL)) ([.string ⟨#[46, 101, 110, 100, 102, 111, 114]⟩, .int .i64 (ndF x).2.2.1, .bool false]) (fun _ => True) (fun _ => False) rfl rfl ?cP ?cF ?cN ?cO ?cB ?cS ?cL ?_))
          case cP => exact PT.k34_mkM _ _ _ (⟨tEndfor, (ndF x).2.2.1, false⟩ : GL)
          case cF => exact fun _ h => h.elim
          case cN => exact fun _ _ => trivial
          case cO => exact HR11.out
          case cB => exact HB11.out
          case cS => exact HS11.out
          case cL => exact HLd.out
          intro v6 w6 hR6 hB6 hg6 hat6
          have HR6 := Aside0.mk hR6
          have HB6 := Aside0.mk hB6
          have HG6 := Aside0.mk (HG11.out.trans (Fra.grown hg6) HA11.out)
          have HA6 := Aside0.mk (HA11.out.trans HG11.out.1 hat6)
          clear hR6 hB6 hg6 hat6 y2
          go_wp2_with (fail)
          go_roundw
          case measure => rw [hwi]; exact msrN HII.out.1 HII.out.2
          case rel => exact ⟨i + 1, by go_num, rfl, (nxtN HII.out.1 HII.out.2).1, (nxtN HII.out.1 HII.out.2).2, HB6, ⟨by rw [HAC.out, HFX.out]; exact HR6.out⟩, HG6, HA6⟩
    · have d0 : decide (i < (l.length : Int)) = false := decide_eq_false hlt
      rw [show l.take i.toNat = l from List.take_of_length_le (by omega)] at HRr
      go_wp2_with (fail)
      refine bodyPost_ret (by simp [results, Tryd.results31, go_sem]; try rfl) rfl ?_
      exact ⟨_, rfl, HRr.out, HBr.out, HFr.out, HAr.out⟩
end Go.Proofs.YtiedbnjoomcdbaaDoor.Tr
set_option linter.unusedVariables false
set_option linter.unusedSimpArgs false
namespace Go.Proofs.YtiedbnjoomcdbaaDoor.Tr
open Go.RowKit Go.Proofs.YtiedbnjoomcdbaaDoor.Ba Go.Proofs.YtiedbnjoomcdbaaDoorW.PrintWords Go.Proofs.YtiedbnjoomcdbaaDoorW.PrintLast Go.Proofs.YtiedbnjoomcdbaaDoorW.PrintMore

theorem flatW (w0 : World) : ∀ d, FlOk w0 d
  | 0 => flat0 w0
  | d + 1 => flatS w0 d (flatW w0 d)
set_option maxHeartbeats 8000000 in
set_option maxRecDepth 100000 in
theorem FlatW (w : World) (A : Option Addr) (c : Nat) (l : List Nd) (hC : Kd.C kN w A l.length l) (hc : l.length ≤ c) (hd : Dep 33 l) (hs : Shp 33 l) (hn : (flD 33 l).length ≤ 1000000) :
    Calls Tryd.prog 21 #[.slice A l.length c] w fun e w' => ∃ v, e = .returned v ∧ Kd.R kG TL w' w.heap.size (fun _ => True) v (flD 33 l) ∧ Below w.heap.size w w' := by
  have KC := Aside0.mk (flatW w 33 l 32 hd hs (by decide) (by decide) A c hC hc w w.heap.size (.slice none 0 0) [] (Below.refl _ _) (Nat.le_refl _) (Nat.le_refl _) (Kd.R_nil kG TL w w.heap.size (fun _ => True)) (by simpa using hn))
  clear hC hc hd hs hn
  obtain ⟨n, hn⟩ : ∃ n, l.length = n := ⟨_, rfl⟩
  rw [hn] at KC ⊢
  go_enter Tryd.func21, Tryd.ntmps21
  go_wp2_with (fail)
  refine KC.out.mono ?_
  rintro e w1 ⟨v, rfl, hR, hB, -, -⟩
  go_wp2_with (fail)
  go_ret
  exact ⟨_, rfl, by simpa using hR, hB⟩
end Go.Proofs.YtiedbnjoomcdbaaDoor.Tr
