/- LoopBack, plain: how many lines and bytes the flat lines of blocks have. -/
import Derived.Test.YtiedbnjoomcdbaaDoorTrE
import Derived.Test.YtiedbnjoomcdbaaDoorTrO
import Derived.Test.YtiedbnjoomcdbaaDoorTrK
import Derived.Test.YtiedbnjoomcdbaaDoorTrX
import Derived.Test.YtiedbnjoomcdbaaDoorAlive
import Derived.Test.YtiedbnjoomcdbaaDoorRowLine
set_option linter.unusedVariables false
set_option linter.unusedSimpArgs false
namespace Go.Proofs.YtiedbnjoomcdbaaDoor.Tr
open Go.RowKit Go.Proofs.YtiedbnjoomcdbaaDoor.Ba

theorem dirR_len (u : List UInt8) : (dirR u).1.length + (dirR u).2.length ≤ u.length := by
  have h0 : (u.takeWhile (fun c => !ns c)).length + (u.dropWhile (fun c => !ns c)).length = u.length := by
    rw [← List.length_append, List.takeWhile_append_dropWhile]
  unfold dirR
  by_cases h1 : u.takeWhile (fun c => !ns c) = []
  · rw [if_pos h1]; simp
  · rw [if_neg h1]
    cases hd : u.dropWhile (fun c => !ns c) with
    | nil => rw [hd] at h0; simpa using Nat.le_of_eq h0
    | cons b q =>
      rw [hd] at h0
      have h2 := (List.dropWhile_suffix (p := bl) (l := b :: q)).length_le
      by_cases hs : stopB b = true
      · simp only [if_pos hs]; omega
      · simp only [if_neg hs]; simp
theorem dirL_len (t : List UInt8) (c : Bool) : (dirL t c).1.length + (dirL t c).2.length ≤ t.length := by
  unfold dirL
  cases c with
  | true => simp
  | false =>
    rw [if_neg (by decide)]
    cases t with
    | nil => simp
    | cons a r =>
      dsimp only
      have h1 := dirR_len (r.dropWhile bl)
      have h2 := (List.dropWhile_suffix (p := bl) (l := r)).length_le
      by_cases ha : a = 46
      · rw [if_pos ha, List.length_cons]; omega
      · rw [if_neg ha]; simp
theorem dirP_len (x : GL) : (dirP x).1.size + (dirP x).2.size ≤ x.f0.size := by
  have h := dirL_len x.f0.data.toList x.f2
  unfold dirP
  rw [S_size, S_size, size_len x.f0]
  exact h
theorem flT_size (w t : ByteArray) : (flT w t).size ≤ w.size + t.size + 2 := by
  unfold flT
  by_cases h : t = emp
  · rw [if_pos h, S_size, List.length_cons, ← size_len]; omega
  · rw [if_neg h, S_size, List.length_cons, List.length_append, List.length_cons, ← size_len, ← size_len]; omega
/-- what is known of blocks that K lines of at most M bytes made -/
structure BND (M : Nat) (d K : Nat) (ns : List Nd) : Prop where
  dep : Dep (d + 1) ns
  shp : Shp (d + 1) ns
  sml : Small (d + 1) ns
  len : (flD (d + 1) ns).length = K
  wid : ns.length ≤ K
  sz : ∀ y ∈ flD (d + 1) ns, y.f0.size ≤ M + 8
structure BNB (M : Nat) (d K : Nat) (brs : List Br) : Prop where
  dep : ∀ b ∈ brs, Dep (d + 1) (kidsB b)
  shp : ∀ b ∈ brs, (brF b).1.size ≤ 100000000 ∧ (brF b).2.1.size ≤ 100000000 ∧ Shp (d + 1) (kidsB b)
  sml : ∀ b ∈ brs, Small (d + 1) (kidsB b)
  len : (brs.flatMap (flB (flD (d + 1)))).length = K
  wid : brs.length ≤ K
  sz : ∀ y ∈ brs.flatMap (flB (flD (d + 1))), y.f0.size ≤ M + 8
theorem dep_up : ∀ {d : Nat} {l : List Nd}, Dep d l → Dep (d + 1) l
  | 0, _, h => by subst h; intro x hx; cases hx
  | d + 1, l, h => fun x hx => ⟨fun b hb => dep_up ((h x hx).1 b hb), dep_up (h x hx).2⟩
theorem nilE (d : Nat) : flD d [] = [] := by cases d <;> rfl
mutual
theorem G.bnd (M : Nat) (hM : M ≤ 10000) : ∀ {d : Nat} {xs : List GL} {ns : List Nd}, G d xs ns → xs.length ≤ 1000000 → (∀ x ∈ xs, x.f0.size ≤ M) → BND M d xs.length ns
  | _, _, _, .nil d, _, _ => ⟨fun x hx => (by cases hx), fun x hx => (by cases hx), ⟨by simp, fun x hx => (by cases hx)⟩, rfl, Nat.le_refl _, fun y hy => (by cases hy)⟩
  | _, _, _, .plain d l xs ns h1 h2 h3 hk, hn, hz => by
    have q := hk.bnd M hM (by simp at hn; omega) (fun x hx => hz x (List.mem_cons_of_mem _ hx))
    have hl := hz l List.mem_cons_self
    have hd0 : Dep d [] := by cases d with | zero => rfl | succ d => exact fun x hx => by cases hx
    have hs0 : Shp d [] := by cases d with | zero => trivial | succ d => exact fun x hx => (by cases hx)
    have hm0 : Small d [] := by cases d with | zero => trivial | succ d => exact ⟨by simp, fun x hx => (by cases hx)⟩
    refine ⟨fun x hx => ?_, fun x hx => ?_, ⟨?_, fun x hx => ?_⟩, ?_, ?_, fun y hy => ?_⟩
    · rcases List.mem_cons.1 hx with rfl | hx
      · exact ⟨fun b hb => (by cases hb), hd0⟩
      · exact q.dep x hx
    · rcases List.mem_cons.1 hx with rfl | hx
      · exact ⟨.inl rfl, fun b hb => (by cases hb), hs0⟩
      · exact q.shp x hx
    · have := q.wid; simp at hn ⊢; omega
    · rcases List.mem_cons.1 hx with rfl | hx
      · exact ⟨by simp [plainN, brsN, ndF], fun b hb => (by cases hb), hm0⟩
      · exact q.sml.2 x hx
    · have := q.len
      show ([lnF (plainN l)] ++ flD (d + 1) ns).length = _
      simp only [List.length_append, List.length_cons, List.length_nil, this]
      omega
    · have := q.wid; simp; omega
    · have hy : y ∈ [lnF (plainN l)] ++ flD (d + 1) ns := hy
      rcases List.mem_append.1 hy with hy | hy
      · rw [List.mem_singleton.1 hy]
        exact Nat.le_trans hl (by omega)
      · exact q.sz y hy
  | _, _, _, .cond d l xs brs ys ns hi hb hk, hn, hz => by
    have hn' : xs.length ≤ 1000000 ∧ ys.length ≤ 1000000 := by simp at hn; omega
    have q := hk.bnd M hM hn'.2 (fun x hx => hz x (List.mem_cons_of_mem _ (List.mem_append_right _ hx)))
    have hl := hz l List.mem_cons_self
    have hdl := dirP_len l
    have p := hb.bnd M hM hn'.1 (by omega) (fun x hx => hz x (List.mem_cons_of_mem _ (List.mem_append_left _ hx)))
    refine ⟨fun x hx => ?_, fun x hx => ?_, ⟨?_, fun x hx => ?_⟩, ?_, ?_, fun y hy => ?_⟩
    · rcases List.mem_cons.1 hx with rfl | hx
      · exact ⟨p.dep, fun x hx => (by cases hx)⟩
      · exact q.dep x hx
    · rcases List.mem_cons.1 hx with rfl | hx
      · exact ⟨.inr ⟨Nat.succ_ne_zero _, .inl rfl⟩, p.shp, fun x hx => (by cases hx)⟩
      · exact q.shp x hx
    · have := q.wid; simp at hn ⊢; omega
    · rcases List.mem_cons.1 hx with rfl | hx
      · exact ⟨Nat.le_trans p.wid hn'.1, p.sml, ⟨by simp [kidsN, ndF], fun x hx => (by cases hx)⟩⟩
      · exact q.sml.2 x hx
    · have h1 := q.len
      have h2 := p.len
      show ((brs.flatMap (flB (flD (d + 1))) ++ [(⟨tEndif, l.f1, false⟩ : GL)]) ++ flD (d + 1 + 1) ns).length = _
      simp only [List.length_append, List.length_cons, List.length_nil, h1, h2]
      omega
    · have := q.wid; simp; omega
    · have hy : y ∈ (brs.flatMap (flB (flD (d + 1))) ++ [(⟨tEndif, l.f1, false⟩ : GL)]) ++ flD (d + 1 + 1) ns := hy
      rcases List.mem_append.1 hy with hy | hy
      · rcases List.mem_append.1 hy with hy | hy
        · exact p.sz y hy
        · rw [List.mem_singleton.1 hy]
          show tEndif.size ≤ _
          rw [show tEndif.size = 6 from rfl]
          omega
      · exact q.sz y hy
  | _, _, _, .loop d l xs kids e ys ns hw hf hk he1 he2 hk2, hn, hz => by
    have hn' : xs.length ≤ 1000000 ∧ ys.length ≤ 1000000 := by simp at hn; omega
    have q := hk2.bnd M hM hn'.2 (fun x hx => hz x (List.mem_cons_of_mem _ (List.mem_append_right _ (List.mem_cons_of_mem _ hx))))
    have p := hk.bnd M hM hn'.1 (fun x hx => hz x (List.mem_cons_of_mem _ (List.mem_append_left _ hx)))
    have hl := hz l List.mem_cons_self
    refine ⟨fun x hx => ?_, fun x hx => ?_, ⟨?_, fun x hx => ?_⟩, ?_, ?_, fun y hy => ?_⟩
    · rcases List.mem_cons.1 hx with rfl | hx
      · exact ⟨fun b hb => (by cases hb), p.dep⟩
      · exact q.dep x hx
    · rcases List.mem_cons.1 hx with rfl | hx
      · exact ⟨.inr ⟨Nat.succ_ne_zero _, .inr rfl⟩, fun b hb => (by cases hb), p.shp⟩
      · exact q.shp x hx
    · have := q.wid; simp at hn ⊢; omega
    · rcases List.mem_cons.1 hx with rfl | hx
      · exact ⟨by simp [brsN, ndF], fun b hb => (by cases hb), p.sml⟩
      · exact q.sml.2 x hx
    · have h1 := q.len
      have h2 := p.len
      show ((l :: (flD (d + 1) kids ++ [(⟨tEndfor, l.f1, false⟩ : GL)])) ++ flD (d + 1 + 1) ns).length = _
      simp only [List.length_append, List.length_cons, List.length_nil, h1, h2]
      omega
    · have := q.wid; simp; omega
    · have hy : y ∈ (l :: (flD (d + 1) kids ++ [(⟨tEndfor, l.f1, false⟩ : GL)])) ++ flD (d + 1 + 1) ns := hy
      rcases List.mem_append.1 hy with hy | hy
      · rcases List.mem_cons.1 hy with rfl | hy
        · omega
        · rcases List.mem_append.1 hy with hy | hy
          · exact p.sz y hy
          · rw [List.mem_singleton.1 hy]
            show tEndfor.size ≤ _
            rw [show tEndfor.size = 7 from rfl]
            omega
      · exact q.sz y hy
theorem GB.bnd (M : Nat) (hM : M ≤ 10000) : ∀ {d : Nat} {w t : ByteArray} {a : Int} {xs : List GL} {brs : List Br}, GB d w t a xs brs → xs.length ≤ 1000000 → w.size + t.size ≤ M → (∀ x ∈ xs, x.f0.size ≤ M) → BNB M d xs.length brs
  | _, _, _, _, _, _, .last d w t a xs kids e hk he1 he2, hn, hwt, hz => by
    have p := hk.bnd M hM (by simp at hn; omega) (fun x hx => hz x (List.mem_append_left _ hx))
    have hfl := flT_size w t
    refine ⟨fun b hb => ?_, fun b hb => ?_, fun b hb => ?_, ?_, ?_, fun y hy => ?_⟩
    · rw [List.mem_singleton.1 hb]; exact p.dep
    · rw [List.mem_singleton.1 hb]; exact ⟨show w.size ≤ _ by omega, show t.size ≤ _ by omega, p.shp⟩
    · rw [List.mem_singleton.1 hb]; exact p.sml
    · have h1 := p.len
      show (flB (flD (d + 1)) (.mk w t a kids) ++ []).length = _
      rw [List.append_nil]
      show (⟨flT w t, a, false⟩ :: flD (d + 1) kids).length = _
      simp [h1]
    · simp
    · have hy : y ∈ flB (flD (d + 1)) (.mk w t a kids) ++ [] := hy
      rw [List.append_nil] at hy
      have hy : y ∈ (⟨flT w t, a, false⟩ : GL) :: flD (d + 1) kids := hy
      rcases List.mem_cons.1 hy with rfl | hy
      · show (flT w t).size ≤ _
        omega
      · exact p.sz y hy
  | _, _, _, _, _, _, .next d w t a xs kids e ys brs hk hw he hb2, hn, hwt, hz => by
    have hn' : xs.length ≤ 1000000 ∧ ys.length ≤ 1000000 := by simp at hn; omega
    have p := hk.bnd M hM hn'.1 (fun x hx => hz x (List.mem_append_left _ hx))
    have hl := hz e (List.mem_append_right _ List.mem_cons_self)
    have hdl := dirP_len e
    have q := hb2.bnd M hM hn'.2 (by omega) (fun x hx => hz x (List.mem_append_right _ (List.mem_cons_of_mem _ hx)))
    have hfl := flT_size w t
    refine ⟨fun b hb => ?_, fun b hb => ?_, fun b hb => ?_, ?_, ?_, fun y hy => ?_⟩
    · rcases List.mem_cons.1 hb with rfl | hb
      · exact p.dep
      · exact q.dep b hb
    · rcases List.mem_cons.1 hb with rfl | hb
      · exact ⟨show w.size ≤ _ by omega, show t.size ≤ _ by omega, p.shp⟩
      · exact q.shp b hb
    · rcases List.mem_cons.1 hb with rfl | hb
      · exact p.sml
      · exact q.sml b hb
    · have h1 := p.len
      have h2 := q.len
      show ((⟨flT w t, a, false⟩ :: flD (d + 1) kids) ++ brs.flatMap (flB (flD (d + 1)))).length = _
      simp [h1, h2]; omega
    · have := q.wid; simp; omega
    · have hy : y ∈ ((⟨flT w t, a, false⟩ : GL) :: flD (d + 1) kids) ++ brs.flatMap (flB (flD (d + 1))) := hy
      rcases List.mem_append.1 hy with hy | hy
      · rcases List.mem_cons.1 hy with rfl | hy
        · show (flT w t).size ≤ _
          omega
        · exact p.sz y hy
      · exact q.sz y hy
end
end Go.Proofs.YtiedbnjoomcdbaaDoor.Tr
set_option linter.unusedVariables false
set_option linter.unusedSimpArgs false
namespace Go.Proofs.YtiedbnjoomcdbaaDoor.Tr
open Go.RowKit Go.Proofs.YtiedbnjoomcdbaaDoorW.PrintWords Go.Proofs.YtiedbnjoomcdbaaDoorW.PrintLast Go.Proofs.YtiedbnjoomcdbaaDoorW.PrintMore

theorem layW' (w0 : World) : ∀ d, LyOk w0 d
  | 0 => lay0 w0
  | d + 1 => layS w0 d (layW' w0 d)
theorem sameW (wa wb : World) : ∀ d, SmOk wa wb d
  | 0 => same0 wa wb
  | d + 1 => sameS wa wb d (sameW wa wb d)
theorem build_bnd (M : Nat) (hM : M ≤ 10000) (ls : List GL) (hl : ls.length ≤ 1000000) (hz : ∀ x ∈ ls, x.f0.size ≤ M) (hok : Ok (endS ls)) : ∃ K, K ≤ ls.length ∧ BND M 32 K (blkP ls 32 ⟨0, 0, 0⟩).1 := by
  have hb := blkP_SG ls 32
  unfold endS at hok
  by_cases hlt : (blkP ls 32 ⟨0, 0, 0⟩).2.i < ls.length
  · rw [if_pos hlt] at hok
    exact absurd hok (wr_no (by decide))
  · rw [if_neg hlt] at hok
    have g := hb.g _ (Nat.zero_le _) hok
    have h1 : (sg0 ls 0 (blkP ls 32 ⟨0, 0, 0⟩).2.i).length ≤ ls.length := by unfold sg0; simp; omega
    exact ⟨_, h1, g.bnd M hM (Nat.le_trans h1 hl) (fun x hx => hz x (by
      unfold sg0 at hx
      exact List.mem_of_mem_take (List.mem_of_mem_drop hx)))⟩
/-- what the walk needs to know -/
structure BackF (ls : List GL) (ns ms : List Nd) : Prop where
  e : (blkP ls 32 ⟨0, 0, 0⟩).1 = ns
  dep : Dep 33 ns
  shp : Shp 33 ns
  sml : Small 33 ns
  len : (flD 33 ns).length ≤ 1000000
  lsk : LsOk (flD 33 ns)
  ok2 : Ok (endS (flD 33 ns))
  e2 : (blkP (flD 33 ns) 32 ⟨0, 0, 0⟩).1 = ms
  dep2 : Dep 33 ms
  sml2 : Small 33 ms
  eq : EqD 33 ns ms
theorem back_facts (ls : List GL) (hl : ls.length ≤ 400) (hz : ∀ x ∈ ls, x.f0.size ≤ 2000) (hok : Ok (endS ls)) : ∃ ns ms, BackF ls ns ms := by
  obtain ⟨K, hK, b⟩ := build_bnd 2000 (by decide) ls (by omega) hz hok
  obtain ⟨ms, e, ok2, q⟩ := back_law ls hok
  have hlen : (flD 33 (blkP ls 32 ⟨0, 0, 0⟩).1).length ≤ 400 := by rw [b.len]; omega
  obtain ⟨K2, hK2, b2⟩ := build_bnd 2008 (by decide) _ (Nat.le_trans hlen (by decide)) b.sz ok2
  have e2 : (blkP (flD 33 (blkP ls 32 ⟨0, 0, 0⟩).1) 32 ⟨0, 0, 0⟩).1 = ms := by rw [e]
  rw [e2] at b2
  exact ⟨_, ms, rfl, b.dep, b.shp, b.sml, by omega, ⟨by omega, fun x hx => Nat.le_trans (b.sz x hx) (by decide)⟩, ok2, e2, b2.dep, b2.sml, q⟩
set_option maxHeartbeats 16000000 in
set_option maxRecDepth 100000 in
theorem LoopBackWalk (W : World) (A : Option Addr) (cap : Nat) (l : List RL) (hr : Kd.C kL W A l.length l) (hc : l.length ≤ cap) (hn : l.length ≤ 1000000) :
    Calls Tryd.prog 7 #[.slice A l.length cap] W fun e W' => e = .returned (.bool true) ∧ Below W.heap.size W W' := by
  have hu33 := Tryd.underlying33
  have hu38 := Tryd.underlying38
  have HR := Aside0.mk hr
  have HC := Aside0.mk hc
  have HN := Aside0.mk hn
  obtain ⟨b, ⟨kf, hkf⟩, hfb⟩ := far_f l hn
  obtain ⟨kt, hkt⟩ := theirs_f l hn
  have HF := Aside0.mk (hkf kf (Nat.le_refl _))
  have HT := Aside0.mk (hkt kt (Nat.le_refl _))
  have HFB := Aside0.mk hfb
  clear hr hc hn hkf hkt hfb
  go_enter Tryd.func7, Tryd.ntmps7
  go_wp2_with (fail)
  refine (PT.bobstaylaw12_far.calls kf A cap l b W HR.out HC.out HF.out).mono ?_
  rintro e w1 ⟨rfl, hd1⟩
  have HB1 := Aside0.mk (show Below W.heap.size W w1 from by first | exact hd1 | exact hd1.below)
  clear hd1
  cases b with
  | true =>
    go_wp2_with (fail)
    refine (aliveW _).mono ?_
    rintro e w2 ⟨rfl, hb2⟩
    go_wp2_with (fail)
    go_ret
    exact ⟨rfl, below_step HB1.out hb2⟩
  | false =>
    obtain ⟨hl4, hl2⟩ := HFB.out rfl
    have HLS := Aside0.mk (show LsOk (l.map cv) from ⟨by simpa using Nat.le_trans hl4 (by decide), fun x hx => by
      obtain ⟨y, hy, rfl⟩ := List.mem_map.1 hx
      exact Nat.le_trans (hl2 y hy) (by decide)⟩)
    have HL2 := Aside0.mk (show ∀ x ∈ l.map cv, x.f0.size ≤ 2000 from fun x hx => by
      obtain ⟨y, hy, rfl⟩ := List.mem_map.1 hx
      exact hl2 y hy)
    have HL4 := Aside0.mk (show (l.map cv).length ≤ 400 by simpa using hl4)
    clear hl2
    go_wp2_with (fail)
    refine (PT.bobstaylaw12_theirs.calls kt A cap l (l.map cv) w1 (Kd.C_below HR.out HB1.out) HC.out HT.out).mono ?_
    rintro e w2 ⟨v2, rfl, hR2, hb2⟩
    obtain ⟨A2, c2, e2, hl2', hC2⟩ := Kd.R_reads hR2
    subst e2
    have HB2 := Aside0.mk (below_step HB1.out hb2)
    have HC2 := Aside0.mk hC2
    clear hR2 hb2 hC2
    have KB := Aside0.mk (buildW w2 A2 c2 (l.map cv) HC2.out hl2' HLS.out)
    rw [List.length_map] at KB
    go_wp2_with (fail)
    refine KB.out.mono ?_
    rintro e w3 ⟨hb3, h3⟩
    have HB3 := Aside0.mk (below_step HB2.out hb3)
    rcases h3 with ⟨hok, v3, rfl, hR3⟩ | ⟨hno, rfl⟩
    · obtain ⟨tr, tr2, hBF⟩ := back_facts (l.map cv) HL4.out HL2.out hok
      have HBF := Aside0.mk hBF
      rw [hBF.e] at hR3
      obtain ⟨A3, c3, e3, hl3, hC3⟩ := Kd.R_reads hR3
      obtain ⟨n3, hn3⟩ : ∃ k, tr.length = k := ⟨_, rfl⟩
      rw [hn3] at e3 hl3 hC3
      subst e3
      have HN3 := Aside0.mk hn3
      have HC3 := Aside0.mk hC3
      have HL3 := Aside0.mk hl3
      clear hok hR3 hBF hn3 hC3 hl3 hb3 KB
      go_upto_region 4 with (fail)
      have HB4 := Aside0.mk (below_alloc HB3.out (.cells #[.int .i64 0, .int .i64 0] 38))
      have HC4 := Aside0.mk (Kd.C_below HC3.out (below_alloc (Below.refl _ _) (.cells #[.int .i64 0, .int .i64 0] 38)))
      have hf4 := heap_alloc_new w3 (.cells #[.int .i64 0, .int .i64 0] 38)
      obtain ⟨b4, hb4⟩ : ∃ b, w3.heap.size = b := ⟨_, rfl⟩
      (try simp only [hb4])
      rw [hb4] at hf4
      generalize w3.alloc (.cells #[.int .i64 0, .int .i64 0] 38) = W4 at *
      have x0 : W4.cell? ⟨b4, 0, none⟩ = some (.int .i64 0) := (blk_cell hf4 0).trans rfl
      have x1 : W4.cell? ⟨b4, 1, none⟩ = some (.int .i64 0) := (blk_cell hf4 1).trans rfl
      have KF := Aside0.mk (FlatW W4 A3 c3 tr (by rw [HN3.out]; exact HC4.out) (by rw [HN3.out]; exact HL3.out) HBF.out.dep HBF.out.shp HBF.out.len)
      rw [HN3.out] at KF
      clear hf4
      go_wp2_with (fail)
      refine KF.out.mono ?_
      rintro e w5 ⟨v5, rfl, hR5, hb5⟩
      obtain ⟨A5, c5, e5, hl5, hC5⟩ := Kd.R_reads hR5
      obtain ⟨n5, hn5⟩ : ∃ k, (flD 33 tr).length = k := ⟨_, rfl⟩
      have KB2 := Aside0.mk (buildW w5 A5 c5 (flD 33 tr) hC5 hl5 HBF.out.lsk)
      rw [hn5] at e5 KB2
      subst e5
      have HB5 := Aside0.mk (below_step HB4.out hb5)
      have HC5 := Aside0.mk (Kd.C_below HC4.out hb5)
      clear x0 x1 hR5 hC5 hl5 hb5 KF hn5
      go_wp2_with (fail)
      refine KB2.out.mono ?_
      rintro e w6 ⟨hb6, h6⟩
      rcases h6 with ⟨hok6, v6, rfl, hR6⟩ | ⟨hno, rfl⟩
      case inr => exact absurd HBF.out.ok2 hno
      rw [HBF.out.e2] at hR6
      obtain ⟨A6, c6, e6, hl6, hC6⟩ := Kd.R_reads hR6
      obtain ⟨n6, hn6⟩ : ∃ k, tr2.length = k := ⟨_, rfl⟩
      rw [hn6] at e6 hl6 hC6
      subst e6
      have HN6 := Aside0.mk hn6
      have HL6 := Aside0.mk hl6
      have HB6 := Aside0.mk (below_step HB5.out hb6)
      have HC6a := Aside0.mk (Kd.C_below HC5.out hb6)
      have HC6b := Aside0.mk hC6
      clear hok6 hR6 hC6 hl6 hn6 hb6 KB2
      go_upto_region 7 with (fail)
      have HB7 := Aside0.mk (below_alloc HB6.out (.cells #[.int .i64 0, .int .i64 0] 38))
      have HC7a := Aside0.mk (Kd.C_below HC6a.out (below_alloc (Below.refl _ _) (.cells #[.int .i64 0, .int .i64 0] 38)))
      have HC7b := Aside0.mk (Kd.C_below HC6b.out (below_alloc (Below.refl _ _) (.cells #[.int .i64 0, .int .i64 0] 38)))
      have hf7 := heap_alloc_new w6 (.cells #[.int .i64 0, .int .i64 0] 38)
      obtain ⟨b7, hb7⟩ : ∃ b, w6.heap.size = b := ⟨_, rfl⟩
      (try simp only [hb7])
      rw [hb7] at hf7
      generalize w6.alloc (.cells #[.int .i64 0, .int .i64 0] 38) = W7 at *
      have x0 : W7.cell? ⟨b7, 0, none⟩ = some (.int .i64 0) := (blk_cell hf7 0).trans rfl
      have x1 : W7.cell? ⟨b7, 1, none⟩ = some (.int .i64 0) := (blk_cell hf7 1).trans rfl
      have KL := Aside0.mk (layW' W7 33 tr 40 HBF.out.dep (by omega) (by omega) HBF.out.sml A3 c3 (by rw [HN3.out]; exact HC7a.out) (by rw [HN3.out]; exact HL3.out) W7 (Below.refl _ _))
      rw [HN3.out] at KL
      clear hf7
      go_wp2_with (fail)
      refine KL.out.mono ?_
      rintro e w8 ⟨v8, rfl, hR8, hb8⟩
      obtain ⟨A8, c8, e8, hl8, hC8⟩ := Kd.R_reads hR8
      rw [HN3.out] at e8 hl8 hC8
      subst e8
      have HC8 := Aside0.mk hC8
      have HL8 := Aside0.mk hl8
      have HB8 := Aside0.mk (below_step HB7.out hb8)
      have HZ8 := Aside0.mk hb8
      have KM := Aside0.mk (layW' w8 33 tr2 40 HBF.out.dep2 (by omega) (by omega) HBF.out.sml2 A6 c6 (by rw [HN6.out]; exact Kd.C_below HC7b.out hb8) (by rw [HN6.out]; exact HL6.out) w8 (Below.refl _ _))
      rw [HN6.out] at KM
      clear hR8 hC8 hl8 hb8 KL x0 x1
      go_wp2_with (fail)
      refine KM.out.mono ?_
      rintro e w9 ⟨v9, rfl, hR9, hb9⟩
      obtain ⟨A9, c9, e9, hl9, hC9⟩ := Kd.R_reads hR9
      rw [HN6.out] at e9 hl9 hC9
      subst e9
      have HB9 := Aside0.mk (below_step HB8.out hb9)
      have KS := Aside0.mk (sameW W7 w8 33 tr tr2 HBF.out.eq A8 A9 c8 c9 w9 (below_step HZ8.out hb9) hb9 (by rw [HN3.out]; exact Kd.C_below HC8.out hb9) (by rw [HN3.out]; exact HL8.out) (by rw [HN6.out]; exact hC9) (by rw [HN6.out]; exact hl9))
      rw [HN3.out, HN6.out] at KS
      clear hR9 hC9 hl9 hb9 KM
      go_wp2_with (fail)
      refine KS.out.mono ?_
      rintro e w10 ⟨rfl, hb10⟩
      have HB10 := Aside0.mk (below_step HB9.out hb10)
      clear hb10 KS
      go_wp2_with (fail)
      refine (aliveW _).mono ?_
      rintro e w11 ⟨rfl, hb11⟩
      go_wp2_with (fail)
      go_ret
      exact ⟨rfl, below_step HB10.out hb11⟩
    · clear hb3 KB
      rcases bad_or hno with d1 | ⟨d2, d1⟩
      · clear hno
        go_wp2_with (fail)
        refine (aliveW _).mono ?_
        rintro e w4 ⟨rfl, hb4⟩
        go_wp2_with (fail)
        go_ret
        exact ⟨rfl, below_step (below_alloc HB3.out _) hb4⟩
      · clear hno
        rw [d2]
        go_wp2_with (fail)
        refine (aliveW _).mono ?_
        rintro e w4 ⟨rfl, hb4⟩
        go_wp2_with (fail)
        go_ret
        exact ⟨rfl, below_step (below_alloc HB3.out _) hb4⟩
end Go.Proofs.YtiedbnjoomcdbaaDoor.Tr
set_option linter.unusedVariables false
set_option linter.unusedSimpArgs false
namespace Go.Proofs.YtiedbnjoomcdbaaDoor.Tr
open Go.RowKit Go.Proofs.YtiedbnjoomcdbaaDoor.Ba Go.Proofs.YtiedbnjoomcdbaaDoorW.PrintWords

def mkR (x : ByteArray × Int × Bool) : RL := ⟨x.1, x.2.1, x.2.2⟩
theorem rowR {W : World} {A : Option Addr} {cap : Nat} {ls : List (ByteArray × Int × Bool)} (h : LineRow W A cap ls) : Kd.C kL W A (ls.map mkR).length (ls.map mkR) := by
  obtain ⟨h1, h2, h3⟩ := h
  refine ⟨rfl, by rw [List.length_map]; exact h2, fun hn => ?_⟩
  rw [List.length_map] at hn
  obtain ⟨ad, rfl, hc⟩ := h3 hn
  refine ⟨ad, rfl, fun j p hp => ?_⟩
  rw [List.getElem?_map, Option.map_eq_some_iff] at hp
  obtain ⟨x, hx, rfl⟩ := hp
  obtain ⟨q0, q1, q2⟩ := hc j x hx
  refine ⟨_, rfl, PT.k33_mk W (mkR x), fun i u hu => ?_⟩
  match i, hu with
  | 0, hu => simp at hu; subst hu; exact q0
  | 1, hu => simp at hu; subst hu; exact q1
  | 2, hu => simp at hu; subst hu; exact q2
theorem tot_len : ∀ ls : List (ByteArray × Int × Bool), 4 * ls.length ≤ totL ls
  | [] => by simp
  | x :: ls => by
    have ih := tot_len ls
    rw [show totL (x :: ls) = x.1.size + 4 + totL ls by simp [totL], List.length_cons]
    omega
theorem LoopBackLine (W : World) (A : Option Addr) (cap : Nat) (ls : List (ByteArray × Int × Bool)) (hr : LineRow W A cap ls) (hl : totL ls ≤ 1048576) :
    Calls Tryd.prog 7 #[.slice A ls.length cap] W fun e W' => e = .returned (.bool true) ∧ Below W.heap.size W W' := by
  have t1 := tot_len ls
  have len1 : (ls.map mkR).length = ls.length := List.length_map _
  have := LoopBackWalk W A cap (ls.map mkR) (rowR hr) (by rw [len1]; exact hr.1) (by rw [len1]; generalize totL ls = X at *; omega)
  rw [len1] at this
  exact this
end Go.Proofs.YtiedbnjoomcdbaaDoor.Tr
