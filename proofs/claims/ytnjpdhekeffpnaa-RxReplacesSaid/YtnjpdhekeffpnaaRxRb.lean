/- The document's reader of expressions in memory: what it makes; its small functions walked. -/
import Derived.Test.YtnjpdhekeffpnaaRxEb
import Derived.Test.YtnjpdhekeffpnaaRxM
set_option linter.unusedVariables false
set_option linter.unusedSimpArgs false
namespace Go.Proofs.Ytnjpdhekeffpnaa.Rx
open Go.RowKit Go.Proofs.YtnjpdhekeffpnaaW.PrintWords Go.Proofs.YtnjpdhekeffpnaaW.PrintLast Go.Proofs.YtnjpdhekeffpnaaW.PrintMore

abbrev TPar : Nat := 76
abbrev TN : Nat := 32
/-- the document's tree -/
inductive Nd where
  | mk (k : Int) (set : List Bool) (kids : List Nd)
def ndF : Nd → Int × List Bool × List Nd
  | .mk k s l => (k, s, l)
def ndK (d : Kd Nd) : Kd Nd := Kd.iso (Kd.pair (Kd.int .i64) (Kd.pair (Kd.slice TO Kd.bool) (Kd.slice TN d))) ndF
theorem ndK_sub : Kd.Sub ndK [TO, TN] :=
  Kd.sub_iso _ (Kd.sub_pair (Kd.sub_const _ (fun q hq => by cases hq)) (Kd.sub_pair (Kd.sub_const _ (fun q hq => by
    rcases List.mem_cons.1 hq with rfl | hq
    · exact List.mem_cons_self
    · cases hq)) (Kd.sub_slice _ (List.mem_cons_of_mem _ List.mem_cons_self) Kd.sub_id)))
theorem ndK_mono : Kd.Mono ndK := Kd.mono_iso _ (Kd.mono_pair (Kd.mono_const _) (Kd.mono_pair (Kd.mono_const _) (Kd.mono_slice _ Kd.mono_id)))
def knd : Kd Nd := Kd.fix ndK 3 [TO, TN] (Kd.upto_sz (fun _ => rfl)) (Kd.upto_E ndK_sub)
theorem knd_mk {w : World} {base : Nat} {ok : Nat → Prop} {k : Int} {set : List Bool} {l : List Nd} {vs vk : Value} (hs : Kd.R Kd.bool TO w base ok vs set) (hk : Kd.R knd TN w base ok vk l) : knd.M w base ok (.mk k set l) [.int .i64 k, vs, vk] := by
  obtain ⟨n, hn⟩ := Kd.fix_R_back ndK_mono hk
  exact ⟨n + 1, [_], [_, _], rfl, rfl, [_], [_], rfl, ⟨_, rfl, hs⟩, ⟨_, rfl, hn⟩⟩
theorem knd_open {w : World} {k : Int} {set : List Bool} {l : List Nd} {cs : List Value} (h : knd.K w (.mk k set l) cs) : ∃ As c1 Al c2, cs = [.int .i64 k, .slice As set.length c1, .slice Al l.length c2] ∧ set.length ≤ c1 ∧ l.length ≤ c2 ∧ Kd.C Kd.bool w As set.length set ∧ Kd.C knd w Al l.length l := by
  obtain ⟨n, h⟩ := h
  cases n with
  | zero => exact h.elim
  | succ n =>
    obtain ⟨_, _, rfl, rfl, _, _, rfl, ⟨As, c1, rfl, h1, h2⟩, ⟨Al, c2, rfl, h3, h4⟩⟩ := h
    exact ⟨As, c1, Al, c2, rfl, h1, h3, h2, Kd.fix_C h4⟩
theorem infoN : (Try.prog.info? 32).map (fun i => (i.zero, i.size, i.bytes)) = some (some (.agg #[.int .i64 0, .slice none 0 0, .slice none 0 0]), 3, 56) := by kernel_rfl
/-- a mask as a table -/
def tabl (m : Nat) : List Bool := (List.range 256).map fun i => m.testBit i
theorem tabl_len (m : Nat) : (tabl m).length = 256 := by simp [tabl]
theorem tabl_get (m i : Nat) (h : i < 256) : (tabl m).getD i false = m.testBit i := by simp [tabl, List.getD_eq_getElem?_getD, h]
theorem tabl_set (m c : Nat) (h : c < 256) : (tabl m).set c true = tabl (m ||| 2 ^ c) := by
  apply List.ext_getElem (by simp [tabl])
  intro i h1 h2
  have hi : i < 256 := by rw [tabl_len] at h2; exact h2
  rw [List.getElem_set]
  simp only [tabl, List.getElem_map, List.getElem_range, Nat.testBit_or, Nat.testBit_two_pow]
  by_cases hc : c = i
  · simp [hc]
  · simp [hc]
theorem tabl_0 : tabl 0 = List.replicate 256 false := by
  apply List.ext_getElem (by rw [tabl_len, List.length_replicate])
  intro i h1 h2
  rw [List.getElem_replicate]
  simp only [tabl, List.getElem_map, List.getElem_range, Nat.zero_testBit]
theorem tabl_one (c : Nat) (h : c < 256) : (List.replicate 256 false).set c true = tabl (addR 0 c 1) := by
  rw [← tabl_0, tabl_set 0 c h]
  rfl
/-! ### a tree and an expression -/
mutual
inductive RT : Nd → Re → Prop
  | byte (m : Nat) : RT (.mk 1 (tabl m) []) (.byte m)
  | beg : RT (.mk 2 [] []) .beg
  | fin : RT (.mk 3 [] []) .fin
  | way {l : List Nd} {e : Re} : RC l e → RT (.mk 4 [] l) e
  | ways {l : List Nd} {e : Re} : RA l e → RT (.mk 5 [] l) e
  | star {n : Nd} {e : Re} : RT n e → RT (.mk 6 [] [n]) (.star e)
  | plus {n : Nd} {e : Re} : RT n e → RT (.mk 7 [] [n]) (.plus e)
  | opt {n : Nd} {e : Re} : RT n e → RT (.mk 8 [] [n]) (.opt e)
inductive RC : List Nd → Re → Prop
  | nil : RC [] .eps
  | snoc {l : List Nd} {e : Re} {n : Nd} {f : Re} : RC l e → RT n f → RC (l ++ [n]) (.cat e f)
inductive RA : List Nd → Re → Prop
  | one {n : Nd} {e : Re} : RT n e → RA [n] e
  | snoc {l : List Nd} {e : Re} {n : Nd} {f : Re} : RA l e → RT n f → RA (l ++ [n]) (.alt e f)
end
/-! ### the reader in memory -/
def pC (s : ByteArray) (at_ : Nat) (o : Int) (F : Option (Nat × Nat)) : Array Value := #[.string s, .int .i64 at_, .int .i64 o, .int .i64 (eW F), .int .i64 (eA F)]
def ParAt (w : World) (b : Nat) (s : ByteArray) (at_ : Nat) (o : Int) (F : Option (Nat × Nat)) : Prop := w.heap[b]? = some (.cells (pC s at_ o F) TPar (0, 0))
def pk (s : ByteArray) (at_ : Nat) (F : Option (Nat × Nat)) : Option Int := peekB s ⟨at_, F, []⟩
theorem pk_eq (s : ByteArray) (S : BS) : pk s S.at_ S.F = peekB s S := rfl
def orF (F : Option (Nat × Nat)) (e a : Nat) : Option (Nat × Nat) := match F with
  | none => some (e, a)
  | some f => some f
theorem wrong_or (e a : Nat) (S : BS) : (wrongB e a S).F = orF S.F e a := by unfold wrongB orF; split <;> simp_all
theorem ParAt.below {w w' : World} {b at_ : Nat} {s : ByteArray} {o : Int} {F : Option (Nat × Nat)} (h : ParAt w b s at_ o F) (hb : Below w.heap.size w w') : ParAt w' b s at_ o F := blk_below h hb
set_option maxHeartbeats 4000000 in
set_option maxRecDepth 100000 in
theorem pkW (w : World) (b : Nat) (s : ByteArray) (q : Nat) (o : Int) (F : Option (Nat × Nat)) (h2 : ParAt w b s q o F) :
    Calls Try.prog 26 #[.pointer (some ⟨b, 0, none⟩)] w fun e w' => e = .returned (.tuple #[.int .u8 ((pk s q F).getD 0), .bool (pk s q F).isSome]) ∧ Below w.heap.size w w' := by
  have hu76 := Try.underlying76
  have hu26 := Try.underlying26
  have x0 : w.cell? ⟨b, 0, none⟩ = some (.string s) := (blk_cell h2 0).trans rfl
  have x1 : w.cell? ⟨b, 1, none⟩ = some (.int .i64 q) := (blk_cell h2 1).trans rfl
  have x3 : w.cell? ⟨b, 3, none⟩ = some (.int .i64 (eW F)) := (blk_cell h2 3).trans rfl
  have x4 : w.cell? ⟨b, 4, none⟩ = some (.int .i64 (eA F)) := (blk_cell h2 4).trans rfl
  clear h2
  unfold pk peekB
  dsimp only
  obtain ⟨z, hz⟩ : ∃ z : Int, (q : Int) = z := ⟨_, rfl⟩
  rw [hz] at x1
  go_enter Try.func26, Try.ntmps26
  by_cases hq : q < s.size
  · have d0 : decide (z ≥ (s.size : Int)) = false := decide_eq_false (by omega)
    cases F with
    | some p =>
      have e3 : ((p.1 : Int) + 1 == 0) = false := beq_false_of_ne (by omega)
      unfold eW at x3; unfold eA at x4; dsimp only at x3 x4
      rw [if_neg (by rintro ⟨h, -⟩; cases h)]
      clear hz hq
      go_wp2_with (fail)
      go_quiet (fail)
      (try go_wp2_with (fail))
      (try simp only [Exit.inBlock, Exit.then])
      refine bodyPost_ret (by simp [results, Try.results26, go_sem]; try rfl) rfl ?_
      exact ⟨rfl, below_draws (Below.refl _ _) _⟩
    | none =>
      unfold eW at x3; unfold eA at x4; dsimp only at x3 x4
      rw [if_pos ⟨rfl, hq⟩]
      have hi : z.toNat < s.size := by omega
      have d1 : 0 ≤ z := by omega
      have d2 : z < (s.size : Int) := by omega
      clear hq
      go_wp2_with (fail)
      go_quiet (fail)
      go_wp2_with (fail)
      go_quiet (fail)
      (try go_wp2_with (fail))
      (try simp only [Exit.inBlock, Exit.then])
      refine bodyPost_ret (by simp [results, Try.results26, go_sem]; try rfl) rfl ?_
      exact ⟨by rw [hz, show bt s z = ((s[z.toNat]'hi).toNat : Int) by unfold bt; rw [dif_pos hi]]; rfl, below_draws (below_draws (Below.refl _ _) _) _⟩
  · have d0 : decide (z ≥ (s.size : Int)) = true := decide_eq_true (by omega)
    rw [if_neg (by rintro ⟨-, h⟩; exact hq h)]
    clear hz hq
    go_wp2_with (fail)
    go_quiet (fail)
    (try go_wp2_with (fail))
    (try simp only [Exit.inBlock, Exit.then])
    refine bodyPost_ret (by simp [results, Try.results26, go_sem]; try rfl) rfl ?_
    exact ⟨rfl, below_draws (Below.refl _ _) _⟩
set_option maxHeartbeats 4000000 in
set_option maxRecDepth 100000 in
theorem failsW (w : World) (b : Nat) (s : ByteArray) (q : Nat) (o : Int) (F : Option (Nat × Nat)) (e a : Nat) (h2 : ParAt w b s q o F) :
    Calls Try.prog 27 #[.pointer (some ⟨b, 0, none⟩), .int .i64 ((e : Int) + 1), .int .i64 (a : Int)] w fun r w' => r = .returned (.tuple #[]) ∧ ParAt w' b s q o (orF F e a) ∧ Mk b w w' := by
  have hu76 := Try.underlying76
  have hu26 := Try.underlying26
  have HS := Aside0.mk h2
  have x3 : w.cell? ⟨b, 3, none⟩ = some (.int .i64 (eW F)) := (blk_cell h2 3).trans rfl
  have x4 : w.cell? ⟨b, 4, none⟩ = some (.int .i64 (eA F)) := (blk_cell h2 4).trans rfl
  have f3 := blk_frozen h2 3
  have f4 := blk_frozen h2 4
  clear h2
  go_enter Try.func27, Try.ntmps27
  cases F with
  | some p =>
    have e3 : ((p.1 : Int) + 1 == 0) = false := beq_false_of_ne (by omega)
    unfold eW at x3; unfold eA at x4; dsimp only at x3 x4
    go_wp2_with (fail)
    (try go_end0)
    exact ⟨rfl, HS.out, Mk.refl _ _⟩
  | none =>
    unfold eW at x3; unfold eA at x4; dsimp only at x3 x4
    obtain ⟨ez, hez⟩ : ∃ ez : Int, (e : Int) + 1 = ez := ⟨_, rfl⟩
    obtain ⟨az, haz⟩ : ∃ az : Int, (a : Int) = az := ⟨_, rfl⟩
    rw [hez, haz]
    go_wp2_with (fail)
    (try go_end0)
    refine ⟨rfl, ?_, ((Mk.refl b w).set 3 _).set 4 _⟩
    have h3 := blk_set (blk_set HS.out 3 (.int .i64 ez)) 4 (.int .i64 az)
    subst hez; subst haz
    exact h3.trans rfl
/-! ### rows of bools -/
def BoolAt (w : World) (base g c : Nat) (m : List Bool) : Prop := Kd.R Kd.bool TO w base (fun _ => True) (.slice (some ⟨g, 0, none⟩) m.length c) m
theorem BoolAt.blk {w : World} {base g c : Nat} {m : List Bool} (h : BoolAt w base g c m) : ∃ cs, w.heap[g]? = some (.cells cs TO (0, 0)) := by
  obtain ⟨_, inner, ho, _⟩ := h
  exact own_typed ho g rfl
theorem BoolAt.frozen {w : World} {base g c : Nat} {m : List Bool} (h : BoolAt w base g c m) (n : Nat) : w.frozen? ⟨g, n, none⟩ = false := by
  obtain ⟨cs, h⟩ := h.blk
  exact blk_frozen h n
theorem BoolAt.at {w : World} {base g c : Nat} {m : List Bool} (h : BoolAt w base g c m) (n : Nat) (hn : n < m.length) : w.cell? ⟨g, n, none⟩ = some (.bool (m.getD n false)) := by
  obtain ⟨_, _, hC⟩ := Kd.R_reads' h
  obtain ⟨ad, e, hc⟩ := hC.2.2 (by omega)
  obtain ⟨cc, _, hk, hcell⟩ := hc n m[n] (List.getElem?_eq_getElem hn)
  injection e with e
  subst e
  have := hcell 0 (.bool m[n]) (by rw [show cc = [.bool m[n]] from hk]; rfl)
  rw [add_plain] at this
  simpa [Kd.bool, Kd.scalar, List.getD_eq_getElem?_getD, List.getElem?_eq_getElem hn] using this
theorem BoolAt.set {w : World} {base g c : Nat} {m : List Bool} (h : BoolAt w base g c m) (n : Nat) (x : Bool) : BoolAt (w.setCell ⟨g, n, none⟩ (.bool x)) base g c (m.set n x) := by
  have ho := Kd.own_of_R (enc := Value.bool) (h1 := fun _ => rfl) h
  have hs := (ho.stored n (.bool x)).1
  have he : (encs Value.bool m).set n (.bool x) = encs Value.bool (m.set n x) := by simp [encs, List.map_set]
  rw [he] at hs
  have hl : (m.set n x).length = m.length := List.length_set
  unfold BoolAt
  rw [hl]
  refine Kd.R_of_own (enc := Value.bool) (h1 := fun _ => rfl) ?_ (fun k hk => trivial)
  rw [hl]; exact hs
theorem BoolAt.ge {w : World} {base g c : Nat} {m : List Bool} (h : BoolAt w base g c m) : base ≤ g := by
  obtain ⟨_, inner, ho, _⟩ := h
  exact own_base ho g rfl
theorem rep_set (k : Nat) (x : Bool) (h : k < 256) : (List.replicate k x ++ List.replicate (256 - k) false).set k x = List.replicate (k + 1) x ++ List.replicate (256 - (k + 1)) false := by
  apply List.ext_getElem
  · simp; omega
  · intro i h1 h2
    rw [List.getElem_set]
    simp only [List.length_set, List.length_append, List.length_replicate] at h1
    by_cases hi : k = i
    · subst hi
      rw [if_pos rfl, List.getElem_append_left (by simp)]
      simp
    · rw [if_neg hi]
      by_cases hlt : i < k
      · rw [List.getElem_append_left (by simp; omega), List.getElem_append_left (by simp; omega)]
        simp
      · rw [List.getElem_append_right (by simp; omega), List.getElem_append_right (by simp; omega)]
        simp
set_option maxHeartbeats 4000000 in
set_option maxRecDepth 100000 in
theorem bytesW (w : World) (x : Bool) :
    Calls Try.prog 63 #[.bool x] w fun e w' => ∃ g c, e = .returned (.slice (some ⟨g, 0, none⟩) 256 c) ∧ BoolAt w' w.heap.size g c (List.replicate 256 x) ∧ Below w.heap.size w w' := by
  go_enter Try.func63, Try.ntmps63
  go_wp2_with (first | ((with_reducible refine gate_dst (N := 5) rfl ?_); refine Kd.R_make Kd.bool (w0 := w) w.heap.size TO rfl (N := 5) rfl 29 _ _ rfl 256 rfl rfl Try.underlying29 (.bool false) 1 infoO rfl (by decide) (by decide) false (ok := fun _ => True) (okp := fun _ => True) rfl (fun _ _ => trivial) trivial (by decide) (by decide) (Below.refl _ _) (Nat.le_refl _) ?_; intro v5 w5 hR5 hB5 hg5 hat5; obtain ⟨g, c, e5, -⟩ := Kd.R_form hR5 (by decide); rw [List.length_replicate] at e5; subst e5) | fail)
  have h0 : BoolAt w5 w.heap.size g c (List.replicate 0 x ++ List.replicate (256 - 0) false) := hR5
  have H0 := Aside0.mk h0
  have HB5 := Aside0.mk hB5
  clear h0 hR5 hB5 hg5 hat5
  go_loopg [4] 257 (fun kq v4 wr => ∃ z : Int, v4 = .int .i64 z ∧ Aside0 (0 ≤ z ∧ z ≤ 256 ∧ z + kq = 257) ∧ Aside0 (BoolAt wr w.heap.size g c (List.replicate z.toNat x ++ List.replicate (256 - z.toNat) false)) ∧ Aside0 (Below w.heap.size w wr))
  case atStart =>
    exact ⟨0, rfl, ⟨by omega, by omega, by omega⟩, H0, HB5⟩
  case round =>
    clear H0 HB5
    obtain ⟨z, rfl, HI, HM, HW⟩ := hrel
    have d1 : 0 ≤ z := HI.out.1
    by_cases hz : z < 256
    · have d0 : decide (z < 256) = true := decide_eq_true hz
      obtain ⟨ko, rfl⟩ : ∃ ko, gk = ko + 1 := ⟨gk - 1, by have := HI.out; omega⟩
      have fz := HM.out.frozen z.toNat
      have cz := HM.out.at z.toNat (by simp; omega)
      have hM2 := HM.out.set z.toNat x
      rw [rep_set z.toNat x (by omega)] at hM2
      go_wp2_with (fail)
      go_roundg ko
      case measure => have := HI.out; omega
      case rel =>
        refine ⟨z + 1, rfl, ⟨by omega, by omega, by have := HI.out; omega⟩, ⟨?_⟩, ⟨HW.out.setCell (p := ⟨g, z.toNat, none⟩) HM.out.ge _⟩⟩
        rw [show (z + 1).toNat = z.toNat + 1 by omega]
        exact hM2
    · have d0 : decide (z < 256) = false := decide_eq_false hz
      have HM2 := HM.out
      rw [show z.toNat = 256 by have := HI.out; omega] at HM2
      have HM3 := Aside0.mk HM2
      clear HM2 hz
      go_wp2_with (fail)
      go_ret
      refine ⟨g, c, rfl, ?_, HW.out⟩
      have := HM3.out
      simpa using this
end Go.Proofs.Ytnjpdhekeffpnaa.Rx

/- The document's reader of expressions: a byte's set, walked. -/
set_option linter.unusedVariables false
set_option linter.unusedSimpArgs false
namespace Go.Proofs.Ytnjpdhekeffpnaa.Rx
open Go.RowKit Go.Proofs.YtnjpdhekeffpnaaW.PrintWords Go.Proofs.YtnjpdhekeffpnaaW.PrintLast Go.Proofs.YtnjpdhekeffpnaaW.PrintMore

theorem BoolAt.far {w : World} {base g c : Nat} {m : List Bool} (h : BoolAt w base g c m) {q : Nat} (hq : q < base) (j : Nat) (u : Value) : BoolAt (w.setCell ⟨q, j, none⟩ u) base g c m :=
  Kd.R_mono (Kd.R_far (p := ⟨q, j, none⟩) (Kd.R_bound h) (fun k hk => by have := hk.2.1; show k ≠ q; omega) u) (fun _ _ => trivial)
theorem knd_far {w : World} {base : Nat} {nd : Nd} {cs : List Value} (h : knd.M w base (fun _ => True) nd cs) {q : Nat} (hq : q < base) (j : Nat) (u : Value) : knd.M (w.setCell ⟨q, j, none⟩ u) base (fun _ => True) nd cs :=
  knd.M_mono (fun _ _ => trivial) (Kd.M_far (p := ⟨q, j, none⟩) (knd.M_bound h) (fun k hk => by have := hk.2.1; show k ≠ q; omega) u)
theorem knd_leaf {w : World} {base : Nat} (k : Int) : knd.M w base (fun _ => True) (.mk k [] []) [.int .i64 k, .slice none 0 0, .slice none 0 0] := knd_mk (Kd.R_nil _ _ _ _ _) (Kd.R_nil _ _ _ _ _)
/-- what a reader of a node leaves -/
def NOk (w w' : World) (b : Nat) (s : ByteArray) (o : Int) (r : Re × BS) (e : Ending) : Prop :=
  ∃ k vs vk nd at' o', e = .returned (.agg #[.int .i64 k, vs, vk]) ∧ Mk b w w' ∧ knd.M w' w.heap.size (fun _ => True) nd [.int .i64 k, vs, vk] ∧ ParAt w' b s at' o' r.2.F ∧ at' ≤ s.size ∧ (r.2.F = none → at' = r.2.at_ ∧ o' = o ∧ RT nd r.1)
/-- a result's box, written -/
theorem set3 {wx : World} {x : Nat} {y0 y1 y2 : Value} (hx : wx.heap[x]? = some (.cells #[y0, y1, y2] TN (0, 0))) (c0 c1 c2 : Value) :
    (((wx.setCell ⟨x, 0, none⟩ c0).setCell ⟨x, 1, none⟩ c1).setCell ⟨x, 2, none⟩ c2).heap[x]? = some (.cells #[c0, c1, c2] TN (0, 0)) := by
  have := blk_set (blk_set (blk_set hx 0 c0) 1 c1) 2 c2
  simpa using this
theorem nok_ret {w w6 : World} {b p base : Nat} {s : ByteArray} {o : Int} {r : Re × BS} {y0 y1 y2 : Value} {k : Int} {vs vk : Value} {nd : Nd} {at' : Nat} {o' : Int}
    (hp : w6.heap[p]? = some (.cells #[y0, y1, y2] TN (0, 0))) (hpw : w.heap.size ≤ p) (hpb : p ≠ b) (hbase : p < base) (hM : knd.M w6 base (fun _ => True) nd [.int .i64 k, vs, vk]) (hK : Mk b w w6) (hB : ParAt w6 b s at' o' r.2.F) (ha : at' ≤ s.size) (hR : r.2.F = none → at' = r.2.at_ ∧ o' = o ∧ RT nd r.1) :
    ∀ w9, ((w6.setCell ⟨p, 0, none⟩ (.int .i64 k)).setCell ⟨p, 1, none⟩ vs).setCell ⟨p, 2, none⟩ vk = w9 → w9.cell? ⟨p, 0, none⟩ = some (.int .i64 k) ∧ w9.cell? ⟨p, 1, none⟩ = some vs ∧ w9.cell? ⟨p, 2, none⟩ = some vk ∧ NOk w w9 b s o r (.returned (.agg #[.int .i64 k, vs, vk])) := by
  rintro w9 rfl
  have h3 := set3 hp (.int .i64 k) vs vk
  refine ⟨(blk_cell h3 0).trans rfl, (blk_cell h3 1).trans rfl, (blk_cell h3 2).trans rfl, k, vs, vk, nd, at', o', rfl, ((hK.new hpw 0 _).new hpw 1 _).new hpw 2 _, ?_, ?_, ha, hR⟩
  · exact knd.M_lower (by omega) (knd_far (knd_far (knd_far hM hbase 0 (.int .i64 k)) hbase 1 vs) hbase 2 vk)
  · have far : ∀ (w : World) (j : Nat) (u : Value), (w.setCell ⟨p, j, none⟩ u).heap[b]? = w.heap[b]? := fun w j u => Below.heap_setCell w ⟨p, j, none⟩ u b (fun e => hpb e.symm)
    exact ((far _ _ _).trans ((far _ _ _).trans (far _ _ _))).trans hB
set_option maxHeartbeats 4000000 in
set_option maxRecDepth 100000 in
theorem oneW (w : World) (x : Int) (h0 : 0 ≤ x) (h1 : x < 256) :
    Calls Try.prog 66 #[.int .u8 x] w fun e w' => ∃ g c, e = .returned (.agg #[.int .i64 1, .slice (some ⟨g, 0, none⟩) 256 c, .slice none 0 0]) ∧ knd.M w' w.heap.size (fun _ => True) (.mk 1 (tabl (addR 0 x.toNat 1)) []) [.int .i64 1, .slice (some ⟨g, 0, none⟩) 256 c, .slice none 0 0] ∧ Below w.heap.size w w' := by
  have hu32 := Try.underlying32
  go_enter Try.func66, Try.ntmps66
  go_wp2_with (first | ((with_reducible refine gate_dst (N := 2) rfl ?_); (try (refine gate_guard (by rfl) ?_; dsimp only)); refine box_event ?hg (N := 2) ?hd (cs := #[.int .i64 0, .slice none 0 0, .slice none 0 0]) (t := 32) ?hr ?_; (case hd => rfl); (case hg => rfl); (case hr => first | (go_simp; done) | (go_simp; rfl)); intro p ep wp hp lp; have Ep := Aside0.mk ep; clear ep; have p0 : wp.cell? ⟨p, 0, none⟩ = some (.int .i64 0) := (blk_cell hp 0).trans rfl; have p1 : wp.cell? ⟨p, 1, none⟩ = some (.slice none 0 0) := (blk_cell hp 1).trans rfl; have p2 : wp.cell? ⟨p, 2, none⟩ = some (.slice none 0 0) := (blk_cell hp 2).trans rfl; have fp0 := blk_frozen hp 0; have fp1 := blk_frozen hp 1; have fp2 := blk_frozen hp 2) | fail)
  have hpg := blk_lt hp
  refine (bytesW wp false).mono ?_
  rintro e w2 ⟨g, c, rfl, hM, hl2⟩
  have hp := blk_below hp hl2
  have fz := hM.frozen x.toNat
  have cz := hM.at x.toNat (by rw [List.length_replicate]; omega)
  have hM2 := hM.set x.toNat true
  rw [tabl_one x.toNat (by omega)] at hM2
  clear p0 p1 p2 fp0 fp1 fp2
  have hne : p ≠ g := by have := hM.ge; omega
  have hp3 := (Below.heap_setCell w2 ⟨g, x.toNat, none⟩ (.bool true) p hne).trans hp
  have p0 : (w2.setCell ⟨g, x.toNat, none⟩ (.bool true)).cell? ⟨p, 0, none⟩ = some (.int .i64 0) := (blk_cell hp3 0).trans rfl
  have p1 : (w2.setCell ⟨g, x.toNat, none⟩ (.bool true)).cell? ⟨p, 1, none⟩ = some (.slice none 0 0) := (blk_cell hp3 1).trans rfl
  have p2 : (w2.setCell ⟨g, x.toNat, none⟩ (.bool true)).cell? ⟨p, 2, none⟩ = some (.slice none 0 0) := (blk_cell hp3 2).trans rfl
  have fp0 := blk_frozen hp3 0
  have fp1 := blk_frozen hp3 1
  have fp2 := blk_frozen hp3 2
  go_wp2_with (fail)
  have hM3 := (hM2.far hpg 0 (.int .i64 1)).far hpg 1 (.slice (some ⟨g, 0, none⟩) 256 c) |>.far hpg 2 (.slice none 0 0)
  have hp9 := set3 hp3 (.int .i64 1) (.slice (some ⟨g, 0, none⟩) 256 c) (.slice none 0 0)
  have hwp : w.heap.size ≤ p := by have := Ep.out; omega
  have hl9 := (((((below_then lp lp.size hl2).setCell (p := ⟨g, x.toNat, none⟩) (by have := hM.ge; have := lp.size; show w.heap.size ≤ g; omega) (.bool true)).setCell (p := ⟨p, 0, none⟩) hwp (.int .i64 1)).setCell (p := ⟨p, 1, none⟩) hwp (.slice (some ⟨g, 0, none⟩) 256 c)).setCell (p := ⟨p, 2, none⟩) hwp (.slice none 0 0))
  obtain ⟨w9, hw9⟩ : ∃ w9, (((w2.setCell ⟨g, x.toNat, none⟩ (.bool true)).setCell ⟨p, 0, none⟩ (.int .i64 1)).setCell ⟨p, 1, none⟩ (.slice (some ⟨g, 0, none⟩) 256 c)).setCell ⟨p, 2, none⟩ (.slice none 0 0) = w9 := ⟨_, rfl⟩
  rw [hw9] at hM3 hp9 hl9 ⊢
  have c0 : w9.cell? ⟨p, 0, none⟩ = some (.int .i64 1) := (blk_cell hp9 0).trans rfl
  have c1 : w9.cell? ⟨p, 1, none⟩ = some (.slice (some ⟨g, 0, none⟩) 256 c) := (blk_cell hp9 1).trans rfl
  have c2 : w9.cell? ⟨p, 2, none⟩ = some (.slice none 0 0) := (blk_cell hp9 2).trans rfl
  clear hw9
  refine bodyPost_ret (by simp [results, Try.results66, go_sem, c0, c1, c2, hu32]; try rfl) rfl ?_
  refine ⟨g, c, rfl, ?_, hl9⟩
  have h9 : Kd.R Kd.bool TO w9 w.heap.size (fun _ => True) (.slice (some ⟨g, 0, none⟩) 256 c) (tabl (addR 0 x.toNat 1)) := by
    have := Kd.R_lower hM3 lp.size
    rwa [tabl_len] at this
  exact knd_mk h9 (Kd.R_nil _ _ _ _ _)
theorem ParAt.inc {w : World} {b at_ : Nat} {s : ByteArray} {o : Int} {F : Option (Nat × Nat)} (h : ParAt w b s at_ o F) (k : Nat) (z : Int) (hz : z = (at_ : Int) + k) : ParAt (w.setCell ⟨b, 1, none⟩ (.int .i64 z)) b s (at_ + k) o F := by
  have := blk_set h 1 (.int .i64 z)
  unfold ParAt
  rw [this, hz]
  simp [pC]
theorem ParAt.open {w : World} {b at_ : Nat} {s : ByteArray} {o : Int} {F : Option (Nat × Nat)} (h : ParAt w b s at_ o F) (z : Int) : ParAt (w.setCell ⟨b, 2, none⟩ (.int .i64 z)) b s at_ z F := by
  have := blk_set h 2 (.int .i64 z)
  unfold ParAt
  rw [this]
  simp [pC]
theorem ParAt.other {w : World} {b at_ : Nat} {s : ByteArray} {o : Int} {F : Option (Nat × Nat)} (h : ParAt w b s at_ o F) {p : Nat} (hp : p ≠ b) (j : Nat) (u : Value) : ParAt (w.setCell ⟨p, j, none⟩ u) b s at_ o F :=
  (Below.heap_setCell w ⟨p, j, none⟩ u b (fun e => hp e.symm)).trans h
theorem BoolAt.mk {w w' : World} {base g c b : Nat} {m : List Bool} (h : BoolAt w base g c m) (k : Mk b w w') (hb : b < base) : BoolAt w' base g c m :=
  Kd.R_mono (Kd.R_step (Kd.R_bound h) (fun q hq hl => k.keep q hl (by have := hq.2.1; omega))) (fun _ _ => trivial)
theorem Mk.at {b k : Nat} {w w' : World} (h : Mk b w w') {cs : Array Value} {T : TypeId} (hk : w.heap[k]? = some (.cells cs T (0, 0))) (hne : k ≠ b) : w'.heap[k]? = some (.cells cs T (0, 0)) := (h.keep k (blk_lt hk) hne).trans hk
theorem notM (m i : Nat) (h : i < 256) : (full ^^^ m).testBit i = !m.testBit i := by
  rw [Nat.testBit_xor, full, Nat.testBit_two_pow_sub_one, decide_eq_true h]
  cases m.testBit i <;> rfl
/-- the set turned round, from place i on -/
def half (m i : Nat) : List Bool := (tabl (full ^^^ m)).take i ++ (tabl m).drop i
theorem half_len (m i : Nat) (h : i ≤ 256) : (half m i).length = 256 := by simp [half, tabl_len]; omega
theorem half_0 (m : Nat) : half m 0 = tabl m := by simp [half]
theorem half_256 (m : Nat) : half m 256 = tabl (full ^^^ m) := by
  rw [half, List.take_of_length_le (by rw [tabl_len]; exact Nat.le_refl _), List.drop_of_length_le (by rw [tabl_len]; exact Nat.le_refl _), List.append_nil]
theorem half_get (m i : Nat) (h : i < 256) : (half m i).getD i false = m.testBit i := by
  rw [half, List.getD_eq_getElem?_getD, List.getElem?_append_right (by simp [tabl_len]; omega)]
  simp [tabl_len, tabl, Nat.min_eq_left (Nat.le_of_lt h), h]
theorem half_set (m i : Nat) (h : i < 256) : (half m i).set i (!m.testBit i) = half m (i + 1) := by
  apply List.ext_getElem
  · rw [List.length_set, half_len m i (by omega), half_len m (i + 1) (by omega)]
  · intro j h1 h2
    rw [List.length_set, half_len m i (by omega)] at h1
    rw [List.getElem_set]
    have e : ∀ (k : Nat) (hk : k ≤ 256) (hj : j < (half m k).length), (half m k)[j]'hj = if j < k then !m.testBit j else m.testBit j := by
      intro k hk hj
      simp only [half]
      by_cases hjk : j < k
      · rw [if_pos hjk, List.getElem_append_left (by simp [tabl_len]; omega), List.getElem_take]
        simp only [tabl, List.getElem_map, List.getElem_range]
        exact notM m j h1
      · rw [if_neg hjk, List.getElem_append_right (by simp [tabl_len]; omega), List.getElem_drop]
        simp only [tabl, List.getElem_map, List.getElem_range, List.length_take, List.length_map, List.length_range]
        congr 1
        omega
    rw [e i (by omega) (by rw [half_len m i (by omega)]; exact h1), e (i + 1) (by omega) h2]
    by_cases hij : i = j
    · subst hij
      rw [if_pos rfl, if_pos (by omega)]
    · rw [if_neg hij]
      by_cases hlt : j < i
      · rw [if_pos hlt, if_pos (by omega)]
      · rw [if_neg hlt, if_neg (by omega)]
end Go.Proofs.Ytnjpdhekeffpnaa.Rx
