/- Blocks as the law lays them out: the rows of names are those of the blocks that were read (in w0). -/
import Derived.Test.YtiedbnjoomcdbaaDoorTrU
set_option linter.unusedVariables false
set_option linter.unusedSimpArgs false
namespace Go.Proofs.YtiedbnjoomcdbaaDoor.Tr
open Go.RowKit Go.Proofs.YtiedbnjoomcdbaaDoorW.PrintWords Go.Proofs.YtiedbnjoomcdbaaDoorW.PrintLast Go.Proofs.YtiedbnjoomcdbaaDoorW.PrintMore

section
variable (TS TB TN : Nat) (w0 : World)
def rdK (d : Kd Nd) : Kd Nd := Kd.iso (Kd.pair (Kd.int .i64) (Kd.pair Kd.string (Kd.pair (Kd.int .i64) (Kd.pair Kd.bool (Kd.pair (Kd.slice TB (brK TN d)) (Kd.pair (Kd.fixed (Kd.slice TS Kd.string) w0) (Kd.pair Kd.string (Kd.slice TN d)))))))) ndF
theorem rdK_sub : Kd.Sub (rdK TS TB TN w0) [TS, TB, TN] :=
  Kd.sub_iso _ (Kd.sub_pair (Kd.sub_const _ (nil_E _ _ _ rfl)) (Kd.sub_pair (Kd.sub_const _ (nil_E _ _ _ rfl)) (Kd.sub_pair (Kd.sub_const _ (nil_E _ _ _ rfl)) (Kd.sub_pair (Kd.sub_const _ (nil_E _ _ _ rfl))
    (Kd.sub_pair (Kd.sub_slice _ (by simp) (brK_sub TS TB TN)) (Kd.sub_pair (Kd.sub_const _ (nil_E _ _ _ rfl)) (Kd.sub_pair (Kd.sub_const _ (nil_E _ _ _ rfl)) (Kd.sub_slice _ (by simp) Kd.sub_id))))))))
theorem rdK_mono : Kd.Mono (rdK TS TB TN w0) := Kd.mono_iso _ (Kd.mono_pair (Kd.mono_const _) (Kd.mono_pair (Kd.mono_const _) (Kd.mono_pair (Kd.mono_const _) (Kd.mono_pair (Kd.mono_const _) (Kd.mono_pair (Kd.mono_slice _ (brK_mono TN)) (Kd.mono_pair (Kd.mono_const _) (Kd.mono_pair (Kd.mono_const _) (Kd.mono_slice _ Kd.mono_id))))))))
theorem uptoSzR (n : Nat) : (Kd.upto (rdK TS TB TN w0) 8 [TS, TB, TN] n).sz = 8 := Kd.upto_sz (F := rdK TS TB TN w0) (sz := 8) (E := [TS, TB, TN]) (fun _ => rfl) n
def rnd : Kd Nd := Kd.fix (rdK TS TB TN w0) 8 [TS, TB, TN] (Kd.upto_sz (fun _ => rfl)) (Kd.upto_E (rdK_sub TS TB TN w0))
def rbr : Kd Br := brK TN (rnd TS TB TN w0)
variable {TS TB TN : Nat} {w0 w : World} {base : Nat} {ok : Nat → Prop}
theorem rbr_mk {wd t : ByteArray} {a : Int} {l : List Nd} {vk : Value} (hk : Kd.R (rnd TS TB TN w0) TN w base ok vk l) : (rbr TS TB TN w0).M w base ok (.mk wd t a l) [.string wd, .string t, .int .i64 a, vk] :=
  ⟨[_], [_, _, _], rfl, rfl, [_], [_, _], rfl, rfl, [_], [_], rfl, rfl, ⟨_, rfl, hk⟩⟩
theorem rbr_openM {x : Br} {cs : List Value} (h : (rbr TS TB TN w0).M w base ok x cs) : ∃ vk, cs = [.string (brF x).1, .string (brF x).2.1, .int .i64 (brF x).2.2.1, vk] ∧ Kd.R (rnd TS TB TN w0) TN w base ok vk (brF x).2.2.2 := by
  obtain ⟨_, _, rfl, rfl, _, _, rfl, rfl, _, _, rfl, rfl, ⟨vk, rfl, hk⟩⟩ := h
  exact ⟨vk, rfl, hk⟩
theorem rbs_back {v : Value} {l : List Br} (h : Kd.R (rbr TS TB TN w0) TB w base ok v l) : ∃ n, Kd.R (brK TN (Kd.upto (rdK TS TB TN w0) 8 [TS, TB, TN] n)) TB w base ok v l := by
  obtain ⟨h0, inner, ho, hr⟩ := h
  obtain ⟨N, hN⟩ := Kd.reps_bounded (R := fun n p c => (brK TN (Kd.upto (rdK TS TB TN w0) 8 [TS, TB, TN] n)).M w base (fun k => ok k ∧ some k ≠ v.ownBlock) p c)
    (fun n m p c hnm hp => (brK_mono TN).M _ _ ((uptoSzR TS TB TN w0 n).trans (uptoSzR TS TB TN w0 m).symm) (fun w base ok x cs hx => Kd.upto_M_le (rdK_mono TS TB TN w0) (Kd.upto_sz (fun _ => rfl)) hnm hx) _ _ _ _ _ hp)
    (hr.imp_ (fun p c hp => by
      obtain ⟨_, _, rfl, e1, _, _, rfl, e2, _, _, rfl, e3, ⟨vk, rfl, hk⟩⟩ := hp
      obtain ⟨n, hn⟩ := Kd.fix_R_back (rdK_mono TS TB TN w0) hk
      exact ⟨n, _, _, rfl, e1, _, _, rfl, e2, _, _, rfl, e3, ⟨vk, rfl, hn⟩⟩))
  exact ⟨N, h0, inner, ho, hN⟩
theorem rdK_mk {D : Kd Nd} {k : Int} {l : Ln} {b : List Br} {n : List ByteArray} {li : ByteArray} {ks : List Nd} {vb vk : Value} {An : Option Addr} {cn : Nat} (hb : Kd.R (brK TN D) TB w base ok vb b) (hl : n.length ≤ cn) (hn : Kd.C Kd.string w0 An n.length n) (hk : Kd.R D TN w base ok vk ks) :
    (rdK TS TB TN w0 D).M w base ok (.mk k l b n li ks) [.int .i64 k, .string l.f0, .int .i64 l.f1, .bool l.f2, vb, .slice An n.length cn, .string li, vk] := by
  have e8 : (Kd.slice TN D).M w base ok ks [vk] := ⟨_, rfl, hk⟩
  have e7 : (Kd.pair Kd.string (Kd.slice TN D)).M w base ok (li, ks) [.string li, vk] := ⟨[_], [_], rfl, rfl, e8⟩
  have e6 : (Kd.pair (Kd.fixed (Kd.slice TS Kd.string) w0) (Kd.pair Kd.string (Kd.slice TN D))).M w base ok (n, li, ks) [.slice An n.length cn, .string li, vk] := ⟨[_], [_, _], rfl, ⟨An, cn, rfl, hl, hn⟩, e7⟩
  have e5 : (Kd.pair (Kd.slice TB (brK TN D)) (Kd.pair (Kd.fixed (Kd.slice TS Kd.string) w0) (Kd.pair Kd.string (Kd.slice TN D)))).M w base ok (b, n, li, ks) [vb, .slice An n.length cn, .string li, vk] := ⟨[_], [_, _, _], rfl, ⟨_, rfl, hb⟩, e6⟩
  exact ⟨[_], [_, _, _, _, _, _, _], rfl, rfl, [_], [_, _, _, _, _, _], rfl, rfl, [_], [_, _, _, _, _], rfl, rfl, [_], [_, _, _, _], rfl, rfl, e5⟩
theorem rbs_le {n m : Nat} (hnm : n ≤ m) {v : Value} {l : List Br} (h : Kd.R (brK TN (Kd.upto (rdK TS TB TN w0) 8 [TS, TB, TN] n)) TB w base ok v l) : Kd.R (brK TN (Kd.upto (rdK TS TB TN w0) 8 [TS, TB, TN] m)) TB w base ok v l :=
  Kd.R_imp (d := brK TN (Kd.upto (rdK TS TB TN w0) 8 [TS, TB, TN] n)) (d' := brK TN (Kd.upto (rdK TS TB TN w0) 8 [TS, TB, TN] m)) rfl
    (fun w base ok x cs hp => (brK_mono TN).M _ _ ((uptoSzR TS TB TN w0 _).trans (uptoSzR TS TB TN w0 _).symm) (fun w base ok x cs hx => Kd.upto_M_le (rdK_mono TS TB TN w0) (uptoSzR TS TB TN w0) hnm hx) _ _ _ _ _ hp) h
theorem rnd_up {n : Nat} {x : Nd} {cs : List Value} (h : (rdK TS TB TN w0 (Kd.upto (rdK TS TB TN w0) 8 [TS, TB, TN] n)).M w base ok x cs) : (rnd TS TB TN w0).M w base ok x cs := ⟨n + 1, h⟩
theorem rnd_mk {k : Int} {l : Ln} {b : List Br} {n : List ByteArray} {li : ByteArray} {ks : List Nd} {vb vk : Value} {An : Option Addr} {cn : Nat} (hb : Kd.R (rbr TS TB TN w0) TB w base ok vb b) (hl : n.length ≤ cn) (hn : Kd.C Kd.string w0 An n.length n) (hk : Kd.R (rnd TS TB TN w0) TN w base ok vk ks) :
    (rnd TS TB TN w0).M w base ok (.mk k l b n li ks) [.int .i64 k, .string l.f0, .int .i64 l.f1, .bool l.f2, vb, .slice An n.length cn, .string li, vk] := by
  obtain ⟨n1, h1⟩ := rbs_back hb
  obtain ⟨n2, h2⟩ := Kd.fix_R_back (rdK_mono TS TB TN w0) hk
  have h1' := rbs_le (Nat.le_max_left n1 n2) h1
  have h2' := Kd.upto_R_le (rdK_mono TS TB TN w0) (uptoSzR TS TB TN w0) (Nat.le_max_right n1 n2) h2
  generalize max n1 n2 = N at h1' h2'
  exact rnd_up (n := N) (rdK_mk h1' hl hn h2')
theorem rbr_open {x : Br} {cs : List Value} (h : (rbr TS TB TN w0).K w x cs) : ∃ Ak ck, cs = [.string (brF x).1, .string (brF x).2.1, .int .i64 (brF x).2.2.1, .slice Ak (brF x).2.2.2.length ck] ∧ (brF x).2.2.2.length ≤ ck ∧ Kd.C (rnd TS TB TN w0) w Ak (brF x).2.2.2.length (brF x).2.2.2 := by
  obtain ⟨_, _, rfl, rfl, _, _, rfl, rfl, _, _, rfl, rfl, ⟨Ak, ck, rfl, h1, h2⟩⟩ := h
  exact ⟨Ak, ck, rfl, h1, h2⟩
theorem rnd_open {x : Nd} {cs : List Value} (h : (rnd TS TB TN w0).K w x cs) : ∃ Ab cb An cn Ak ck, cs = [.int .i64 (ndF x).1, .string (ndF x).2.1, .int .i64 (ndF x).2.2.1, .bool (ndF x).2.2.2.1, .slice Ab (ndF x).2.2.2.2.1.length cb, .slice An (ndF x).2.2.2.2.2.1.length cn, .string (ndF x).2.2.2.2.2.2.1, .slice Ak (ndF x).2.2.2.2.2.2.2.length ck] ∧
    ((ndF x).2.2.2.2.1.length ≤ cb ∧ (ndF x).2.2.2.2.2.1.length ≤ cn ∧ (ndF x).2.2.2.2.2.2.2.length ≤ ck) ∧ Kd.C (rbr TS TB TN w0) w Ab (ndF x).2.2.2.2.1.length (ndF x).2.2.2.2.1 ∧ Kd.C Kd.string w0 An (ndF x).2.2.2.2.2.1.length (ndF x).2.2.2.2.2.1 ∧ Kd.C (rnd TS TB TN w0) w Ak (ndF x).2.2.2.2.2.2.2.length (ndF x).2.2.2.2.2.2.2 := by
  obtain ⟨n, h⟩ := h
  cases n with
  | zero => exact h.elim
  | succ n =>
    obtain ⟨_, _, rfl, rfl, _, _, rfl, rfl, _, _, rfl, rfl, _, _, rfl, rfl, _, _, rfl, ⟨Ab, cb, rfl, h1, h2⟩, _, _, rfl, ⟨An, cn, rfl, h3, h4⟩, _, _, rfl, rfl, ⟨Ak, ck, rfl, h5, h6⟩⟩ := h
    refine ⟨Ab, cb, An, cn, Ak, ck, rfl, ⟨h1, h3, h5⟩, ?_, h4, Kd.fix_C h6⟩
    exact Kd.C_imp (d := brK TN (Kd.upto (rdK TS TB TN w0) 8 [TS, TB, TN] n)) (d' := rbr TS TB TN w0) rfl (fun w x cs hp => by
      obtain ⟨_, _, rfl, e1, _, _, rfl, e2, _, _, rfl, e3, ⟨Ak, ck, rfl, h1, h2⟩⟩ := hp
      exact ⟨_, _, rfl, e1, _, _, rfl, e2, _, _, rfl, e3, ⟨Ak, ck, rfl, h1, Kd.fix_C h2⟩⟩) h2
end
end Go.Proofs.YtiedbnjoomcdbaaDoor.Tr
set_option linter.unusedVariables false
set_option linter.unusedSimpArgs false
namespace Go.Proofs.YtiedbnjoomcdbaaDoor.Tr
open Go.RowKit Go.Proofs.YtiedbnjoomcdbaaDoorW.PrintWords Go.Proofs.YtiedbnjoomcdbaaDoorW.PrintLast Go.Proofs.YtiedbnjoomcdbaaDoorW.PrintMore

def kdN (x : Nd) : Int := (ndF x).1
def lnN (x : Nd) : GL := ⟨(ndF x).2.1, (ndF x).2.2.1, (ndF x).2.2.2.1⟩
def brsN (x : Nd) : List Br := (ndF x).2.2.2.2.1
def kidsN (x : Nd) : List Nd := (ndF x).2.2.2.2.2.2.2
def kidsB (b : Br) : List Nd := (brF b).2.2.2
/-- blocks of a depth -/
def Dep : Nat → List Nd → Prop
  | 0, l => l = []
  | d + 1, l => ∀ x ∈ l, (∀ b ∈ brsN x, Dep d (kidsB b)) ∧ Dep d (kidsN x)
/-- their plain lines -/
def plD : Nat → List Nd → List GL
  | 0, _ => []
  | d + 1, l => l.flatMap fun x => ((if kdN x = 1 then [lnN x] else []) ++ (brsN x).flatMap fun b => plD d (kidsB b)) ++ plD d (kidsN x)
def oneP (d : Nat) (x : Nd) : List GL := ((if kdN x = 1 then [lnN x] else []) ++ (brsN x).flatMap fun b => plD d (kidsB b)) ++ plD d (kidsN x)
theorem plD_succ (d : Nat) (l : List Nd) : plD (d + 1) l = l.flatMap (oneP d) := rfl
/-- a line, as the law has it -/
def toR (x : GL) : PT.S33 := ⟨x.f0, x.f1, x.f2⟩
theorem fm_take {α β : Type} (f : α → List β) (l : List α) (i : Nat) (z : α) (h : i < l.length) : (l.take (i + 1)).flatMap f = (l.take i).flatMap f ++ f (l.getD i z) := by
  rw [List.take_add_one, List.getElem?_eq_getElem h, List.flatMap_append, List.getD_eq_getElem?_getD, List.getElem?_eq_getElem h]
  simp
theorem fm_len {α β : Type} (f : α → List β) (l : List α) (i : Nat) (z : α) (h : i < l.length) : ((l.take i).flatMap f).length + (f (l.getD i z)).length ≤ (l.flatMap f).length := by
  have h1 := fm_take f l i z h
  have h2 : l.flatMap f = (l.take (i + 1)).flatMap f ++ (l.drop (i + 1)).flatMap f := by rw [← List.flatMap_append, List.take_append_drop]
  rw [h2, h1, List.length_append, List.length_append]
  omega
theorem mem_getD {α : Type} (l : List α) (i : Nat) (z : α) (h : i < l.length) : l.getD i z ∈ l := by
  rw [List.getD_eq_getElem?_getD, List.getElem?_eq_getElem h]
  exact List.getElem_mem h
def zN : Nd := .mk 0 z0 [] [] emp []
def zB : Br := .mk emp emp 0 []
abbrev TRn : Nat := 69
abbrev TRb : Nat := 71
abbrev TLr : Nat := 33
abbrev kL : Kd PT.S33 := PT.k33
abbrev rN (w0 : World) : Kd Nd := rnd TStr TRb TRn w0
abbrev rB (w0 : World) : Kd Br := rbr TStr TRb TRn w0
theorem infoL : (Tryd.prog.info? 33).map (fun i => (i.zero, i.size, i.bytes)) = some (some (.agg #[.string ⟨#[]⟩, .int .i64 0, .bool false]), 3, 32) := by kernel_rfl
theorem msrN {n : Nat} {j : Int} (h0 : 0 ≤ j) (h1 : j < n) : n - (j + 1).toNat < n - j.toNat := by omega
theorem nxtN {n : Nat} {j : Int} (h0 : 0 ≤ j) (h1 : j < n) : 0 ≤ j + 1 ∧ j + 1 ≤ n := by omega
theorem apart_tyN {α : Type} {d : Kd α} {e t base g : Nat} {ok : Nat → Prop} {w : World} {v : Value} {xs : List α} {cells : Array Value} {o : Nat × Nat} (h : d.R e w base ok v xs) (hb : w.heap[g]? = some (.cells cells t o)) (ht : e ≠ t) : some g ≠ v.ownBlock := fun he => by
  obtain ⟨c2, h2⟩ := Kd.R_typed h g he.symm
  rw [hb] at h2
  injection h2 with h2
  injection h2 with _ h2
  exact ht h2.symm
/-- what the law's plain is asked -/
def PlOk (w0 : World) (d : Nat) : Prop := ∀ (l : List Nd), Dep d l → (plD d l).length ≤ 1000000 → ∀ (w : World) (A : Option Addr) (c : Nat), Kd.C (rN w0) w A l.length l → l.length ≤ c → Calls Tryd.prog 17 #[.slice A l.length c] w fun e w' => ∃ v, e = .returned v ∧ Kd.R kL TLr w' w.heap.size (fun _ => True) v ((plD d l).map toR) ∧ Below w.heap.size w w'
set_option maxHeartbeats 8000000 in
set_option maxRecDepth 100000 in
theorem plain0 (w0 : World) : PlOk w0 0 := by
  intro l hd hn w A c hC hc
  subst hd
  go_enter Tryd.func17, Tryd.ntmps17
  go_wp2_with (fail)
  refine wp_loop_rounds 1 ?_
  rw [rounds_succ]
  go_wp2_with (fail)
  go_ret
  exact ⟨_, rfl, Kd.R_nil _ _ _ _ _, Below.refl _ _⟩
set_option maxHeartbeats 16000000 in
set_option maxRecDepth 100000 in
theorem plainS (w0 : World) (d : Nat) (ih : PlOk w0 d) : PlOk w0 (d + 1) := by
  intro l hd hn w A c hC hc
  have hu33 := Tryd.underlying33
  have hu69 := Tryd.underlying69
  have hu71 := Tryd.underlying71
  have IH := Aside0.mk ih
  have HD := Aside0.mk hd
  have HN := Aside0.mk (show (l.flatMap (oneP d)).length ≤ 1000000 from hn)
  have HC := Aside0.mk hC
  have hmx := Aside0.mk hC.2.1
  rw [plD_succ]
  clear ih hd hn hC hc
  obtain ⟨B, hB⟩ : ∃ B, w.heap.size = B := ⟨_, rfl⟩
  have HB := Aside0.mk hB
  have HB0 := Aside0.mk (show Below B w w from Below.refl _ _)
  have HR0 := Aside0.mk (Kd.R_nil kL TLr w B (fun _ => True))
  rw [hB]
  clear hB
  go_enter Tryd.func17, Tryd.ntmps17
  go_wp2_with (fail)
  go_loopw [3, 10] (fun v3 v10 wr => ∃ i : Int, v10 = .int .i64 i ∧ 0 ≤ i ∧ i ≤ l.length ∧ Aside0 (Below B w wr) ∧ Aside0 (Kd.R kL TLr wr B (fun _ => True) v3 (((l.take i.toNat).flatMap (oneP d)).map toR))) (fun _ v10 _ => l.length - (intOf v10).toNat)
  case atStart => exact ⟨0, rfl, by omega, by omega, HB0, HR0⟩
  case round =>
    clear HB0 HR0
    obtain ⟨i, rfl, hi0, hi1, HBr, HRr⟩ := hrel
    by_cases hlt : i < l.length
    · have d0 : decide (i < (l.length : Int)) = true := decide_eq_true hlt
      have HII := Aside0.mk (And.intro hi0 hlt)
      have HIM := Aside0.mk (show i ≤ 9223372036854775806 by have := hmx.out; omega)
      obtain ⟨ad, cs, e, hcl, hK, hcc⟩ := Kd.C_get HC.out zN i hi0 hlt
      subst e
      have HT := Aside0.mk (fm_take (oneP d) l i.toNat zN (by omega))
      have HLn := Aside0.mk (Nat.le_trans (fm_len (oneP d) l i.toNat zN (by omega)) HN.out)
      have HDx := Aside0.mk (HD.out (l.getD i.toNat zN) (mem_getD l i.toNat zN (by omega)))
      generalize l.getD i.toNat zN = x at hK HT HLn HDx
      obtain ⟨Ab, cb, An, cn, Ak, ck, rfl, ⟨hb1, -, hk1⟩, hCb, -, hCk⟩ := rnd_open hK
      have hcc : ∀ j u, ([.int .i64 (ndF x).1, .string (ndF x).2.1, .int .i64 (ndF x).2.2.1, .bool (ndF x).2.2.2.1, .slice Ab (ndF x).2.2.2.2.1.length cb, .slice An (ndF x).2.2.2.2.2.1.length cn, .string (ndF x).2.2.2.2.2.2.1, .slice Ak (ndF x).2.2.2.2.2.2.2.length ck] : List Value)[j]? = some u → wr.cell? (ad.add (i.toNat * 8 + j)) = some u := fun j u h => pw_cell_below (by rw [HB.out]; exact HBr.out) (hcc j u h)
      obtain ⟨nb, hnb⟩ : ∃ k, (ndF x).2.2.2.2.1.length = k := ⟨_, rfl⟩
      obtain ⟨nn, hnn⟩ : ∃ k, (ndF x).2.2.2.2.2.1.length = k := ⟨_, rfl⟩
      obtain ⟨nk, hnk⟩ : ∃ k, (ndF x).2.2.2.2.2.2.2.length = k := ⟨_, rfl⟩
      rw [hnb, hnn, hnk] at hcc
      rw [hnb] at hb1 hCb
      rw [hnk] at hk1 hCk
      have x0 := hcc 0 _ rfl
      have x1 := hcc 1 _ rfl
      have x2 := hcc 2 _ rfl
      have x3 := hcc 3 _ rfl
      have x4 := hcc 4 _ rfl
      have x5 := hcc 5 _ rfl
      have x6 := hcc 6 _ rfl
      have x7 := hcc 7 _ rfl
      rw [Nat.add_zero] at x0
      rw [add_field _ _ 1 (by omega)] at x1
      rw [add_field _ _ 2 (by omega)] at x2
      rw [add_field _ _ 3 (by omega)] at x3
      rw [add_field _ _ 4 (by omega)] at x4
      rw [add_field _ _ 5 (by omega)] at x5
      rw [add_field _ _ 6 (by omega)] at x6
      rw [add_field _ _ 7 (by omega)] at x7
      have HCb := Aside0.mk hCb
      have HCk := Aside0.mk hCk
      have HNB := Aside0.mk hnb
      have HNK := Aside0.mk hnk
      have HLE := Aside0.mk (And.intro hb1 hk1)
      clear hcl hcc hCb hCk hnb hnn hnk hb1 hk1 hK
      have HAC := Aside0.mk (show ∃ acc, ((l.take i.toNat).flatMap (oneP d)) = acc from ⟨_, rfl⟩)
      obtain ⟨acc, hacc⟩ := HAC.out
      rw [hacc] at HRr HT HLn
      have HLo := Aside0.mk (show acc.length + (if kdN x = 1 then [lnN x] else []).length + ((brsN x).flatMap fun b => plD d (kidsB b)).length + (plD d (kidsN x)).length ≤ 1000000 by
        have h := HLn.out
        unfold oneP at h
        simp only [List.length_append] at h
        omega)
      clear HAC hacc HLn
      obtain ⟨b5, hb5⟩ : ∃ b, wr.heap.size = b := ⟨_, rfl⟩
      have hbe := below_alloc (Below.refl wr.heap.size wr) (Obj.cells #[.int .i64 (ndF x).1, .string (ndF x).2.1, .int .i64 (ndF x).2.2.1, .bool (ndF x).2.2.2.1, .slice Ab nb cb, .slice An nn cn, .string (ndF x).2.2.2.2.2.2.1, .slice Ak nk ck] TRn)
      have hk5 := heap_alloc_new wr (Obj.cells #[.int .i64 (ndF x).1, .string (ndF x).2.1, .int .i64 (ndF x).2.2.1, .bool (ndF x).2.2.2.1, .slice Ab nb cb, .slice An nn cn, .string (ndF x).2.2.2.2.2.2.1, .slice Ak nk ck] TRn)
      rw [hb5] at hk5
      have HK5 := Aside0.mk hk5
      have HSz := Aside0.mk (show B ≤ (wr.alloc (Obj.cells #[.int .i64 (ndF x).1, .string (ndF x).2.1, .int .i64 (ndF x).2.2.1, .bool (ndF x).2.2.2.1, .slice Ab nb cb, .slice An nn cn, .string (ndF x).2.2.2.2.2.2.1, .slice Ak nk ck] TRn)).heap.size by have h1 := HBr.out.size; have h2 := HB.out; have h3 := hbe.size; omega)
      have HB5 := Aside0.mk (show Below B w (wr.alloc (Obj.cells #[.int .i64 (ndF x).1, .string (ndF x).2.1, .int .i64 (ndF x).2.2.1, .bool (ndF x).2.2.2.1, .slice Ab nb cb, .slice An nn cn, .string (ndF x).2.2.2.2.2.2.1, .slice Ak nk ck] TRn)) from HBr.out.trans (hbe.mono (by have h1 := HBr.out.size; have h2 := HB.out; omega)))
      have HR5 := Aside0.mk (Kd.R_below HRr.out hbe)
      clear hbe hk5
      go_upto_region 5 with (fail)
      (try simp only [hb5])
      clear x0 x1 x2 x3 x4 x5 x6 x7
      generalize wr.alloc (Obj.cells #[.int .i64 (ndF x).1, .string (ndF x).2.1, .int .i64 (ndF x).2.2.1, .bool (ndF x).2.2.2.1, .slice Ab nb cb, .slice An nn cn, .string (ndF x).2.2.2.2.2.2.1, .slice Ak nk ck] TRn) = W5 at *
      have y0 : W5.cell? ⟨b5, 0, none⟩ = some (.int .i64 (ndF x).1) := (blk_cell HK5.out 0).trans rfl
      have y1 : W5.cell? ⟨b5, 1, none⟩ = some (.string (ndF x).2.1) := (blk_cell HK5.out 1).trans rfl
      have y2 : W5.cell? ⟨b5, 2, none⟩ = some (.int .i64 (ndF x).2.2.1) := (blk_cell HK5.out 2).trans rfl
      have y3 : W5.cell? ⟨b5, 3, none⟩ = some (.bool (ndF x).2.2.2.1) := (blk_cell HK5.out 3).trans rfl
      have y4 : W5.cell? ⟨b5, 4, none⟩ = some (.slice Ab nb cb) := (blk_cell HK5.out 4).trans rfl
      by_cases hk : kdN x = 1
      · have d1 : ((ndF x).1 == 1) = true := by unfold kdN at hk; rw [hk]; rfl
        go_wp2_with (((with_reducible refine gate_builtin (b := .append) (xs := #[.tmp 17, .tmp 20]) rfl ?_); at_builtin; refine Kd.R_append kL (w0 := w) B rfl (.tmp 17) (.tmp 20) 22 TLr (.agg #[.string ⟨#[]⟩, .int .i64 0, .bool false]) 32 rfl Tryd.underlying22 infoL rfl (by decide) (by decide) u3 (acc.map toR) (toR (lnN x)) ([.string (ndF x).2.1, .int .i64 (ndF x).2.2.1, .bool (ndF x).2.2.2.1]) (fun _ => True) (fun _ => False) rfl rfl ?aP ?aF ?aN ?aO ?aB ?aS ?aL ?_))
        case aP => exact PT.k33_mkM _ _ _ (toR (lnN x))
        case aF => exact fun k hk => hk.elim
        case aN => exact fun _ _ => trivial
        case aO => exact HR5.out
        case aB => exact HB5.out
        case aS => exact HSz.out
        case aL => have h1 := HLo.out; rw [if_pos hk] at h1; simp only [List.length_map, List.length_singleton] at h1 ⊢; omega
        intro v6 w9 hR6 hB6 hg6 hat6
        have HB9 := Aside0.mk hB6
        have HR9 := Aside0.mk (show Kd.R kL TLr w9 B (fun _ => True) v6 ((acc ++ (if kdN x = 1 then [lnN x] else [])).map toR) by rw [if_pos hk, List.map_append]; exact hR6)
        have HK9 := Aside0.mk (show w9.heap[b5]? = some (.cells #[.int .i64 (ndF x).1, .string (ndF x).2.1, .int .i64 (ndF x).2.2.1, .bool (ndF x).2.2.2.1, .slice Ab nb cb, .slice An nn cn, .string (ndF x).2.2.2.2.2.2.1, .slice Ak nk ck] TRn (0, 0)) from (hg6.block b5 (by have := blk_lt HK5.out; exact this) (apart_tyN HR5.out HK5.out (by decide))).trans HK5.out)
        have HS9 := Aside0.mk (show B ≤ w9.heap.size by have h1 := hg6.size; have h2 := HSz.out; omega)
        clear hR6 hB6 hg6 hat6 y0 y1 y2 y3 y4 HR5 HK5 HB5 HSz
        have y4 : w9.cell? ⟨b5, 4, none⟩ = some (.slice Ab nb cb) := (blk_cell HK9.out 4).trans rfl
        go_wp2_with (fail)
        clear y4
        obtain ⟨a1, ha1⟩ : ∃ a1, acc ++ (if kdN x = 1 then [lnN x] else []) = a1 := ⟨_, rfl⟩
        rw [ha1] at HR9
        have HA1 := Aside0.mk ha1
        have HLa := Aside0.mk (show a1.length + ((ndF x).2.2.2.2.1.flatMap fun b => plD d (kidsB b)).length + (plD d (kidsN x)).length ≤ 1000000 by
          have h := HLo.out
          rw [← ha1, List.length_append]
          exact h)
        clear ha1
        go_loopw [3, 25] (fun v3 v25 wq => ∃ j : Int, v25 = .int .i64 j ∧ 0 ≤ j ∧ j ≤ nb ∧ Aside0 (Below B w wq) ∧ Aside0 (wq.heap[b5]? = some (.cells #[.int .i64 (ndF x).1, .string (ndF x).2.1, .int .i64 (ndF x).2.2.1, .bool (ndF x).2.2.2.1, .slice Ab nb cb, .slice An nn cn, .string (ndF x).2.2.2.2.2.2.1, .slice Ak nk ck] TRn (0, 0))) ∧ Aside0 (Kd.R kL TLr wq B (fun _ => True) v3 ((a1 ++ ((ndF x).2.2.2.2.1.take j.toNat).flatMap fun b => plD d (kidsB b)).map toR)) ∧ Aside0 (B ≤ wq.heap.size)) (fun _ v25 _ => nb - (intOf v25).toNat)
        case atStart => exact ⟨0, rfl, by omega, by omega, HB9, HK9, ⟨by simpa using HR9.out⟩, HS9⟩
        case round =>
          obtain ⟨j, rfl, hj0, hj1, HBq, HKq, HRq, HSq⟩ := hrel
          have hbw : Below w.heap.size w wr := by rw [HB.out]; exact HBq.out
          by_cases hjt : j < nb
          · have d2 : decide (j < (nb : Int)) = true := decide_eq_true hjt
            have HJJ := Aside0.mk (And.intro hj0 hjt)
            have hjl : j.toNat < (ndF x).2.2.2.2.1.length := by rw [HNB.out]; omega
            have HJM := Aside0.mk (show j ≤ 9223372036854775806 by have := HCb.out.2.1; omega)
            obtain ⟨ae, cse, ee, hcl, hKb, hcb⟩ := Kd.C_get HCb.out zB j hj0 hjt
            have HTb := Aside0.mk (show ((ndF x).2.2.2.2.1.take (j.toNat + 1)).flatMap (fun b => plD d (kidsB b)) = (((ndF x).2.2.2.2.1.take j.toNat).flatMap fun b => plD d (kidsB b)) ++ plD d (kidsB ((ndF x).2.2.2.2.1.getD j.toNat zB)) from fm_take (fun b => plD d (kidsB b)) (ndF x).2.2.2.2.1 j.toNat zB hjl)
            have HLb := Aside0.mk (show (((ndF x).2.2.2.2.1.take j.toNat).flatMap fun b => plD d (kidsB b)).length + (plD d (kidsB ((ndF x).2.2.2.2.1.getD j.toNat zB))).length ≤ ((ndF x).2.2.2.2.1.flatMap fun b => plD d (kidsB b)).length from fm_len (fun b => plD d (kidsB b)) (ndF x).2.2.2.2.1 j.toNat zB hjl)
            have hwj : wrap64 (j + 1) = j + 1 := by have := HJM.out; unfold wrap64; omega
            have HDb := Aside0.mk (HDx.out.1 ((ndF x).2.2.2.2.1.getD j.toNat zB) (mem_getD _ j.toNat zB hjl))
            generalize (ndF x).2.2.2.2.1.getD j.toNat zB = b at hKb HTb HLb HDb
            obtain ⟨Aq, cq, rfl, hq1, hCq⟩ := rbr_open hKb
            have hcb : ∀ k u, ([.string (brF b).1, .string (brF b).2.1, .int .i64 (brF b).2.2.1, .slice Aq (brF b).2.2.2.length cq] : List Value)[k]? = some u → wr.cell? (ae.add (j.toNat * 4 + k)) = some u := fun k u h => pw_cell_below hbw (hcb k u h)
            obtain ⟨nq, hnq⟩ : ∃ k, (brF b).2.2.2.length = k := ⟨_, rfl⟩
            rw [hnq] at hcb hq1 hCq
            have z0 := hcb 0 _ rfl
            have z1 := hcb 1 _ rfl
            have z2 := hcb 2 _ rfl
            have z3 := hcb 3 _ rfl
            rw [Nat.add_zero] at z0
            rw [add_field _ _ 1 (by omega)] at z1
            rw [add_field _ _ 2 (by omega)] at z2
            rw [add_field _ _ 3 (by omega)] at z3
            have HCq := Aside0.mk (Kd.C_below hCq hbw)
            have HNq := Aside0.mk hnq
            have HQ1 := Aside0.mk hq1
            have HEE := Aside0.mk ee
            clear hcl hcb hCq hnq hq1 hKb hbw
            subst ee
            go_wp2_with (fail)
            have hbA := below_alloc (Below.refl wr.heap.size wr) (Obj.cells #[.string (brF b).1, .string (brF b).2.1, .int .i64 (brF b).2.2.1, .slice Aq nq cq] TRb)
            have KC := IH.out (brF b).2.2.2 HDb.out (show (plD d (kidsB b)).length ≤ 1000000 by have h1 := HLb.out; have h2 := HLa.out; omega) (wr.alloc (Obj.cells #[.string (brF b).1, .string (brF b).2.1, .int .i64 (brF b).2.2.1, .slice Aq nq cq] TRb)) Aq cq (by rw [HNq.out]; exact Kd.C_below HCq.out hbA) (by rw [HNq.out]; exact HQ1.out)
            rw [HNq.out] at KC
            have HKA := Aside0.mk (blk_below HKq.out hbA)
            have HRA := Aside0.mk (Kd.R_below HRq.out hbA)
            have HBA := Aside0.mk (HBq.out.trans (hbA.mono HSq.out))
            have HSA := Aside0.mk (Nat.le_trans HSq.out hbA.size)
            clear hbA HKq HRq HBq HSq z0 z1 z2 z3
            refine KC.mono ?_
            rintro e w11 ⟨v11, rfl, hR11, hB11⟩
            obtain ⟨ys, hys⟩ : ∃ ys, (plD d (brF b).2.2.2).map toR = ys := ⟨_, rfl⟩
            rw [hys] at hR11
            obtain ⟨A11, c11, e11, hl11, hC11⟩ := Kd.R_reads hR11
            subst e11
            have HYS := Aside0.mk (show (plD d (kidsB b)).map toR = ys from hys)
            have HC11 := Aside0.mk hC11
            have HK11 := Aside0.mk (blk_below HKA.out hB11)
            have HR11 := Aside0.mk (Kd.R_below HRA.out hB11)
            have HB11 := Aside0.mk (HBA.out.trans (hB11.mono HSA.out))
            have HS11 := Aside0.mk (Nat.le_trans HSA.out hB11.size)
            clear hys hR11 hC11 hB11 KC HKA HRA HBA HSA
            go_wp2_with (((with_reducible refine gate_builtin (b := .append) (xs := #[.tmp 29, .tmp 32]) rfl ?_); at_builtin; refine Kd.R_append_rows kL (w0 := w) (Rr := kL.K w11) B rfl (.tmp 29) (.tmp 32) 22 TLr (.agg #[.string ⟨#[]⟩, .int .i64 0, .bool false]) 32 rfl Tryd.underlying22 infoL rfl (by decide) (by decide) u3 ((a1 ++ ((ndF x).2.2.2.2.1.take j.toNat).flatMap fun b => plD d (kidsB b)).map toR) (ys) A11 (ys).length c11 (fun _ => True) (fun _ => False) rfl rfl ?aO ?aR ?aK ?aF ?aN ?aB ?aS ?aL ?_))
            case aO => exact HR11.out
            case aR => exact HC11.out
            case aK => exact fun x cs h => by rw [PT.k33_open h]; exact PT.k33_mkM _ _ _ x
            case aF => exact fun _ h => h.elim
            case aN => exact fun _ _ => trivial
            case aB => exact HB11.out
            case aS => exact HS11.out
            case aL => have h1 := HLb.out; have h2 := HLa.out; rw [← HYS.out]; simp only [List.length_map, List.length_append] at h1 h2 ⊢; omega
            intro v12 w12 hR12 hB12 hg12 hat12
            have HK12 := Aside0.mk ((hg12.block b5 (blk_lt HK11.out) (apart_tyN HR11.out HK11.out (by decide))).trans HK11.out)
            have HB12 := Aside0.mk hB12
            have HR12 := Aside0.mk (show Kd.R kL TLr w12 B (fun _ => True) v12 ((a1 ++ ((ndF x).2.2.2.2.1.take (j + 1).toNat).flatMap fun b => plD d (kidsB b)).map toR) by
              rw [show (j + 1).toNat = j.toNat + 1 by have := HJJ.out.1; omega, HTb.out]
              simp only [List.map_append, List.append_assoc, HYS.out] at hR12 ⊢
              exact hR12)
            have HS12 := Aside0.mk (Nat.le_trans HS11.out hg12.size)
            clear hR12 hB12 hg12 hat12 HK11 HR11 HB11 HS11
            go_wp2_with (fail)
            go_roundw
            case measure => rw [hwj]; exact msrN HJJ.out.1 HJJ.out.2
            case rel => exact ⟨j + 1, by go_num, (nxtN HJJ.out.1 HJJ.out.2).1, (nxtN HJJ.out.1 HJJ.out.2).2, HB12, HK12, HR12, HS12⟩
          · have d2 : decide (j < (nb : Int)) = false := decide_eq_false hjt
            rw [show (ndF x).2.2.2.2.1.take j.toNat = (ndF x).2.2.2.2.1 from List.take_of_length_le (by rw [HNB.out]; omega)] at HRq
            have HCk' := Aside0.mk (Kd.C_below HCk.out hbw)
            have y7 : wr.cell? ⟨b5, 7, none⟩ = some (.slice Ak nk ck) := (blk_cell HKq.out 7).trans rfl
            have hwi : wrap64 (i + 1) = i + 1 := by have := HIM.out; unfold wrap64; omega
            have KC := IH.out (ndF x).2.2.2.2.2.2.2 HDx.out.2 (show (plD d (kidsN x)).length ≤ 1000000 by have h2 := HLa.out; omega) wr Ak ck (by rw [HNK.out]; exact HCk'.out) (by rw [HNK.out]; exact HLE.out.2)
            rw [HNK.out] at KC
            clear hbw
            go_wp2_with (fail)
            refine KC.mono ?_
            rintro e w11 ⟨v11, rfl, hR11, hB11⟩
            obtain ⟨ys, hys⟩ : ∃ ys, (plD d (ndF x).2.2.2.2.2.2.2).map toR = ys := ⟨_, rfl⟩
            rw [hys] at hR11
            obtain ⟨A11, c11, e11, hl11, hC11⟩ := Kd.R_reads hR11
            subst e11
            have HYS := Aside0.mk (show (plD d (kidsN x)).map toR = ys from hys)
            have HC11 := Aside0.mk hC11
            have HR11 := Aside0.mk (Kd.R_below HRq.out hB11)
            have HB11 := Aside0.mk (HBq.out.trans (hB11.mono HSq.out))
            have HS11 := Aside0.mk (Nat.le_trans HSq.out hB11.size)
            clear hys hR11 hC11 hB11 KC y7 HKq HRq HBq HSq
            go_wp2_with (((with_reducible refine gate_builtin (b := .append) (xs := #[.tmp 35, .tmp 38]) rfl ?_); at_builtin; refine Kd.R_append_rows kL (w0 := w) (Rr := kL.K w11) B rfl (.tmp 35) (.tmp 38) 22 TLr (.agg #[.string ⟨#[]⟩, .int .i64 0, .bool false]) 32 rfl Tryd.underlying22 infoL rfl (by decide) (by decide) u3 ((a1 ++ (ndF x).2.2.2.2.1.flatMap fun b => plD d (kidsB b)).map toR) (ys) A11 (ys).length c11 (fun _ => True) (fun _ => False) rfl rfl ?aO ?aR ?aK ?aF ?aN ?aB ?aS ?aL ?_))
            case aO => exact HR11.out
            case aR => exact HC11.out
            case aK => exact fun x cs h => by rw [PT.k33_open h]; exact PT.k33_mkM _ _ _ x
            case aF => exact fun _ h => h.elim
            case aN => exact fun _ _ => trivial
            case aB => exact HB11.out
            case aS => exact HS11.out
            case aL => have h2 := HLa.out; rw [← HYS.out]; simp only [List.length_map, List.length_append] at h2 ⊢; omega
            intro v12 w12 hR12 hB12 hg12 hat12
            have HB12 := Aside0.mk hB12
            have HR12 := Aside0.mk (show Kd.R kL TLr w12 B (fun _ => True) v12 (((l.take (i + 1).toNat).flatMap (oneP d)).map toR) by
              rw [show (i + 1).toNat = i.toNat + 1 by have := HII.out.1; omega, HT.out]
              rw [show acc ++ oneP d x = (a1 ++ ((ndF x).2.2.2.2.1.flatMap fun b => plD d (kidsB b))) ++ plD d (kidsN x) by
                rw [← HA1.out]; unfold oneP brsN; simp only [List.append_assoc]]
              simp only [List.map_append, List.append_assoc, HYS.out] at hR12 ⊢
              exact hR12)
            clear hR12 hB12 hg12 hat12 HR11 HB11 HS11
            go_wp2_with (fail)
            go_roundw
            case measure => rw [hwi]; exact msrN HII.out.1 HII.out.2
            case rel => exact ⟨i + 1, by go_num, (nxtN HII.out.1 HII.out.2).1, (nxtN HII.out.1 HII.out.2).2, HB12, HR12⟩
      · have d1 : ((ndF x).1 == 1) = false := beq_false_of_ne hk
        have HR9 := Aside0.mk (show Kd.R kL TLr W5 B (fun _ => True) u3 ((acc ++ (if kdN x = 1 then [lnN x] else [])).map toR) by rw [if_neg hk, List.append_nil]; exact HR5.out)
        obtain ⟨w9, hw9⟩ : ∃ x, x = W5 := ⟨_, rfl⟩
        obtain ⟨v6, hv6⟩ : ∃ x, x = u3 := ⟨_, rfl⟩
        subst hw9 hv6
        have HB9 := HB5
        have HK9 := HK5
        have HS9 := HSz
        clear HR5 HK5 HB5 HSz y1 y2 y3
        go_wp2_with (fail)
        clear y0
        clear y4
        obtain ⟨a1, ha1⟩ : ∃ a1, acc ++ (if kdN x = 1 then [lnN x] else []) = a1 := ⟨_, rfl⟩
        rw [ha1] at HR9
        have HA1 := Aside0.mk ha1
        have HLa := Aside0.mk (show a1.length + ((ndF x).2.2.2.2.1.flatMap fun b => plD d (kidsB b)).length + (plD d (kidsN x)).length ≤ 1000000 by
          have h := HLo.out
          rw [← ha1, List.length_append]
          exact h)
        clear ha1
        go_loopw [3, 25] (fun v3 v25 wq => ∃ j : Int, v25 = .int .i64 j ∧ 0 ≤ j ∧ j ≤ nb ∧ Aside0 (Below B w wq) ∧ Aside0 (wq.heap[b5]? = some (.cells #[.int .i64 (ndF x).1, .string (ndF x).2.1, .int .i64 (ndF x).2.2.1, .bool (ndF x).2.2.2.1, .slice Ab nb cb, .slice An nn cn, .string (ndF x).2.2.2.2.2.2.1, .slice Ak nk ck] TRn (0, 0))) ∧ Aside0 (Kd.R kL TLr wq B (fun _ => True) v3 ((a1 ++ ((ndF x).2.2.2.2.1.take j.toNat).flatMap fun b => plD d (kidsB b)).map toR)) ∧ Aside0 (B ≤ wq.heap.size)) (fun _ v25 _ => nb - (intOf v25).toNat)
        case atStart => exact ⟨0, rfl, by omega, by omega, HB9, HK9, ⟨by simpa using HR9.out⟩, HS9⟩
        case round =>
          obtain ⟨j, rfl, hj0, hj1, HBq, HKq, HRq, HSq⟩ := hrel
          have hbw : Below w.heap.size w wr := by rw [HB.out]; exact HBq.out
          by_cases hjt : j < nb
          · have d2 : decide (j < (nb : Int)) = true := decide_eq_true hjt
            have HJJ := Aside0.mk (And.intro hj0 hjt)
            have hjl : j.toNat < (ndF x).2.2.2.2.1.length := by rw [HNB.out]; omega
            have HJM := Aside0.mk (show j ≤ 9223372036854775806 by have := HCb.out.2.1; omega)
            obtain ⟨ae, cse, ee, hcl, hKb, hcb⟩ := Kd.C_get HCb.out zB j hj0 hjt
            have HTb := Aside0.mk (show ((ndF x).2.2.2.2.1.take (j.toNat + 1)).flatMap (fun b => plD d (kidsB b)) = (((ndF x).2.2.2.2.1.take j.toNat).flatMap fun b => plD d (kidsB b)) ++ plD d (kidsB ((ndF x).2.2.2.2.1.getD j.toNat zB)) from fm_take (fun b => plD d (kidsB b)) (ndF x).2.2.2.2.1 j.toNat zB hjl)
            have HLb := Aside0.mk (show (((ndF x).2.2.2.2.1.take j.toNat).flatMap fun b => plD d (kidsB b)).length + (plD d (kidsB ((ndF x).2.2.2.2.1.getD j.toNat zB))).length ≤ ((ndF x).2.2.2.2.1.flatMap fun b => plD d (kidsB b)).length from fm_len (fun b => plD d (kidsB b)) (ndF x).2.2.2.2.1 j.toNat zB hjl)
            have hwj : wrap64 (j + 1) = j + 1 := by have := HJM.out; unfold wrap64; omega
            have HDb := Aside0.mk (HDx.out.1 ((ndF x).2.2.2.2.1.getD j.toNat zB) (mem_getD _ j.toNat zB hjl))
            generalize (ndF x).2.2.2.2.1.getD j.toNat zB = b at hKb HTb HLb HDb
            obtain ⟨Aq, cq, rfl, hq1, hCq⟩ := rbr_open hKb
            have hcb : ∀ k u, ([.string (brF b).1, .string (brF b).2.1, .int .i64 (brF b).2.2.1, .slice Aq (brF b).2.2.2.length cq] : List Value)[k]? = some u → wr.cell? (ae.add (j.toNat * 4 + k)) = some u := fun k u h => pw_cell_below hbw (hcb k u h)
            obtain ⟨nq, hnq⟩ : ∃ k, (brF b).2.2.2.length = k := ⟨_, rfl⟩
            rw [hnq] at hcb hq1 hCq
            have z0 := hcb 0 _ rfl
            have z1 := hcb 1 _ rfl
            have z2 := hcb 2 _ rfl
            have z3 := hcb 3 _ rfl
            rw [Nat.add_zero] at z0
            rw [add_field _ _ 1 (by omega)] at z1
            rw [add_field _ _ 2 (by omega)] at z2
            rw [add_field _ _ 3 (by omega)] at z3
            have HCq := Aside0.mk (Kd.C_below hCq hbw)
            have HNq := Aside0.mk hnq
            have HQ1 := Aside0.mk hq1
            have HEE := Aside0.mk ee
            clear hcl hcb hCq hnq hq1 hKb hbw
            subst ee
            go_wp2_with (fail)
            have hbA := below_alloc (Below.refl wr.heap.size wr) (Obj.cells #[.string (brF b).1, .string (brF b).2.1, .int .i64 (brF b).2.2.1, .slice Aq nq cq] TRb)
            have KC := IH.out (brF b).2.2.2 HDb.out (show (plD d (kidsB b)).length ≤ 1000000 by have h1 := HLb.out; have h2 := HLa.out; omega) (wr.alloc (Obj.cells #[.string (brF b).1, .string (brF b).2.1, .int .i64 (brF b).2.2.1, .slice Aq nq cq] TRb)) Aq cq (by rw [HNq.out]; exact Kd.C_below HCq.out hbA) (by rw [HNq.out]; exact HQ1.out)
            rw [HNq.out] at KC
            have HKA := Aside0.mk (blk_below HKq.out hbA)
            have HRA := Aside0.mk (Kd.R_below HRq.out hbA)
            have HBA := Aside0.mk (HBq.out.trans (hbA.mono HSq.out))
            have HSA := Aside0.mk (Nat.le_trans HSq.out hbA.size)
            clear hbA HKq HRq HBq HSq z0 z1 z2 z3
            refine KC.mono ?_
            rintro e w11 ⟨v11, rfl, hR11, hB11⟩
            obtain ⟨ys, hys⟩ : ∃ ys, (plD d (brF b).2.2.2).map toR = ys := ⟨_, rfl⟩
            rw [hys] at hR11
            obtain ⟨A11, c11, e11, hl11, hC11⟩ := Kd.R_reads hR11
            subst e11
            have HYS := Aside0.mk (show (plD d (kidsB b)).map toR = ys from hys)
            have HC11 := Aside0.mk hC11
            have HK11 := Aside0.mk (blk_below HKA.out hB11)
            have HR11 := Aside0.mk (Kd.R_below HRA.out hB11)
            have HB11 := Aside0.mk (HBA.out.trans (hB11.mono HSA.out))
            have HS11 := Aside0.mk (Nat.le_trans HSA.out hB11.size)
            clear hys hR11 hC11 hB11 KC HKA HRA HBA HSA
            go_wp2_with (((with_reducible refine gate_builtin (b := .append) (xs := #[.tmp 29, .tmp 32]) rfl ?_); at_builtin; refine Kd.R_append_rows kL (w0 := w) (Rr := kL.K w11) B rfl (.tmp 29) (.tmp 32) 22 TLr (.agg #[.string ⟨#[]⟩, .int .i64 0, .bool false]) 32 rfl Tryd.underlying22 infoL rfl (by decide) (by decide) u3 ((a1 ++ ((ndF x).2.2.2.2.1.take j.toNat).flatMap fun b => plD d (kidsB b)).map toR) (ys) A11 (ys).length c11 (fun _ => True) (fun _ => False) rfl rfl ?aO ?aR ?aK ?aF ?aN ?aB ?aS ?aL ?_))
            case aO => exact HR11.out
            case aR => exact HC11.out
            case aK => exact fun x cs h => by rw [PT.k33_open h]; exact PT.k33_mkM _ _ _ x
            case aF => exact fun _ h => h.elim
            case aN => exact fun _ _ => trivial
            case aB => exact HB11.out
            case aS => exact HS11.out
            case aL => have h1 := HLb.out; have h2 := HLa.out; rw [← HYS.out]; simp only [List.length_map, List.length_append] at h1 h2 ⊢; omega
            intro v12 w12 hR12 hB12 hg12 hat12
            have HK12 := Aside0.mk ((hg12.block b5 (blk_lt HK11.out) (apart_tyN HR11.out HK11.out (by decide))).trans HK11.out)
            have HB12 := Aside0.mk hB12
            have HR12 := Aside0.mk (show Kd.R kL TLr w12 B (fun _ => True) v12 ((a1 ++ ((ndF x).2.2.2.2.1.take (j + 1).toNat).flatMap fun b => plD d (kidsB b)).map toR) by
              rw [show (j + 1).toNat = j.toNat + 1 by have := HJJ.out.1; omega, HTb.out]
              simp only [List.map_append, List.append_assoc, HYS.out] at hR12 ⊢
              exact hR12)
            have HS12 := Aside0.mk (Nat.le_trans HS11.out hg12.size)
            clear hR12 hB12 hg12 hat12 HK11 HR11 HB11 HS11
            go_wp2_with (fail)
            go_roundw
            case measure => rw [hwj]; exact msrN HJJ.out.1 HJJ.out.2
            case rel => exact ⟨j + 1, by go_num, (nxtN HJJ.out.1 HJJ.out.2).1, (nxtN HJJ.out.1 HJJ.out.2).2, HB12, HK12, HR12, HS12⟩
          · have d2 : decide (j < (nb : Int)) = false := decide_eq_false hjt
            rw [show (ndF x).2.2.2.2.1.take j.toNat = (ndF x).2.2.2.2.1 from List.take_of_length_le (by rw [HNB.out]; omega)] at HRq
            have HCk' := Aside0.mk (Kd.C_below HCk.out hbw)
            have y7 : wr.cell? ⟨b5, 7, none⟩ = some (.slice Ak nk ck) := (blk_cell HKq.out 7).trans rfl
            have hwi : wrap64 (i + 1) = i + 1 := by have := HIM.out; unfold wrap64; omega
            have KC := IH.out (ndF x).2.2.2.2.2.2.2 HDx.out.2 (show (plD d (kidsN x)).length ≤ 1000000 by have h2 := HLa.out; omega) wr Ak ck (by rw [HNK.out]; exact HCk'.out) (by rw [HNK.out]; exact HLE.out.2)
            rw [HNK.out] at KC
            clear hbw
            go_wp2_with (fail)
            refine KC.mono ?_
            rintro e w11 ⟨v11, rfl, hR11, hB11⟩
            obtain ⟨ys, hys⟩ : ∃ ys, (plD d (ndF x).2.2.2.2.2.2.2).map toR = ys := ⟨_, rfl⟩
            rw [hys] at hR11
            obtain ⟨A11, c11, e11, hl11, hC11⟩ := Kd.R_reads hR11
            subst e11
            have HYS := Aside0.mk (show (plD d (kidsN x)).map toR = ys from hys)
            have HC11 := Aside0.mk hC11
            have HR11 := Aside0.mk (Kd.R_below HRq.out hB11)
            have HB11 := Aside0.mk (HBq.out.trans (hB11.mono HSq.out))
            have HS11 := Aside0.mk (Nat.le_trans HSq.out hB11.size)
            clear hys hR11 hC11 hB11 KC y7 HKq HRq HBq HSq
            go_wp2_with (((with_reducible refine gate_builtin (b := .append) (xs := #[.tmp 35, .tmp 38]) rfl ?_); at_builtin; refine Kd.R_append_rows kL (w0 := w) (Rr := kL.K w11) B rfl (.tmp 35) (.tmp 38) 22 TLr (.agg #[.string ⟨#[]⟩, .int .i64 0, .bool false]) 32 rfl Tryd.underlying22 infoL rfl (by decide) (by decide) u3 ((a1 ++ (ndF x).2.2.2.2.1.flatMap fun b => plD d (kidsB b)).map toR) (ys) A11 (ys).length c11 (fun _ => True) (fun _ => False) rfl rfl ?aO ?aR ?aK ?aF ?aN ?aB ?aS ?aL ?_))
            case aO => exact HR11.out
            case aR => exact HC11.out
            case aK => exact fun x cs h => by rw [PT.k33_open h]; exact PT.k33_mkM _ _ _ x
            case aF => exact fun _ h => h.elim
            case aN => exact fun _ _ => trivial
            case aB => exact HB11.out
            case aS => exact HS11.out
            case aL => have h2 := HLa.out; rw [← HYS.out]; simp only [List.length_map, List.length_append] at h2 ⊢; omega
            intro v12 w12 hR12 hB12 hg12 hat12
            have HB12 := Aside0.mk hB12
            have HR12 := Aside0.mk (show Kd.R kL TLr w12 B (fun _ => True) v12 (((l.take (i + 1).toNat).flatMap (oneP d)).map toR) by
              rw [show (i + 1).toNat = i.toNat + 1 by have := HII.out.1; omega, HT.out]
              rw [show acc ++ oneP d x = (a1 ++ ((ndF x).2.2.2.2.1.flatMap fun b => plD d (kidsB b))) ++ plD d (kidsN x) by
                rw [← HA1.out]; unfold oneP brsN; simp only [List.append_assoc]]
              simp only [List.map_append, List.append_assoc, HYS.out] at hR12 ⊢
              exact hR12)
            clear hR12 hB12 hg12 hat12 HR11 HB11 HS11
            go_wp2_with (fail)
            go_roundw
            case measure => rw [hwi]; exact msrN HII.out.1 HII.out.2
            case rel => exact ⟨i + 1, by go_num, (nxtN HII.out.1 HII.out.2).1, (nxtN HII.out.1 HII.out.2).2, HB12, HR12⟩
    · have d0 : decide (i < (l.length : Int)) = false := decide_eq_false hlt
      rw [show l.take i.toNat = l from List.take_of_length_le (by omega)] at HRr
      go_wp2_with (fail)
      go_ret
      exact ⟨_, rfl, HRr.out, HBr.out⟩
end Go.Proofs.YtiedbnjoomcdbaaDoor.Tr
