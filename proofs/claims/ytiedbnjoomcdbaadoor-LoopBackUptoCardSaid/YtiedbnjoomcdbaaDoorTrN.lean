/- Blocks as the law lays them out: the rows of names are those of the blocks that were read (in w0). -/
import Derived.Test.YtiedbnjoomcdbaaDoorTrU
set_option linter.unusedVariables false
set_option linter.unusedSimpArgs false
namespace Go.Proofs.YtiedbnjoomcdbaaDoor.Tr
open Go.RowKit Go.Proofs.YtiedbnjoomcdbaaDoorW.PrintWords Go.Proofs.YtiedbnjoomcdbaaDoorW.PrintLast Go.Proofs.YtiedbnjoomcdbaaDoorW.PrintMore

section
variable (TS TB TN : Nat) (w0 : World)
def rdK (d : Kd Nd) : Kd Nd := Kd.iso (Kd.pair (Kd.int .i64) (Kd.pair Kd.string (Kd.pair (Kd.int .i64) (Kd.pair Kd.bool (Kd.pair (Kd.slice TB (brK TN d)) (Kd.pair (Kd.fixed (Kd.slice TS Kd.string) w0) (Kd.pair Kd.string (Kd.slice TN d)))))))) ndF
theorem rdK_sub : Kd.Sub (rdK TS TB TN w0) [TS, TB, TN] :=
  Kd.sub_iso _ (Kd.sub_pair (Kd.sub_const _ (nil_E _ _ _ rfl)) (Kd.sub_pair (Kd.sub_const _ (nil_E _ _ _ rfl)) (Kd.sub_pair (Kd.sub_const _ (nil_E _ _ _ rfl)) (Kd.sub_pair (Kd.sub_const _ (nil_E _ _ _ rfl))
    (Kd.sub_pair (Kd.sub_slice _ (by simp) (brK_sub TS TB TN)) (Kd.sub_pair (Kd.sub_const _ (nil_E _ _ _ rfl)) (Kd.sub_pair (Kd.sub_const _ (nil_E _ _ _ rfl)) (Kd.sub_slice _ (by simp) Kd.sub_id))))))))
theorem rdK_mono : Kd.Mono (rdK TS TB TN w0) := Kd.mono_iso _ (Kd.mono_pair (Kd.mono_const _) (Kd.mono_pair (Kd.mono_const _) (Kd.mono_pair (Kd.mono_const _) (Kd.mono_pair (Kd.mono_const _) (Kd.mono_pair (Kd.mono_slice _ (brK_mono TN)) (Kd.mono_pair (Kd.mono_const _) (Kd.mono_pair (Kd.mono_const _) (Kd.mono_slice _ Kd.mono_id))))))))
theorem uptoSzR (n : Nat) : (Kd.upto (rdK TS TB TN w0) 8 [TS, TB, TN] n).sz = 8 := Kd.upto_sz (F := rdK TS TB TN w0) (sz := 8) (E := [TS, TB, TN]) (fun _ => rfl) n
def rnd : Kd Nd := Kd.fix (rdK TS TB TN w0) 8 [TS, TB, TN] (Kd.upto_sz (fun _ => rfl)) (Kd.upto_E (rdK_sub TS TB TN w0))
def rbr : Kd Br := brK TN (rnd TS TB TN w0)
variable {TS TB TN : Nat} {w0 w : World} {base : Nat} {ok : Nat → Prop}
theorem rbr_mk {wd t : ByteArray} {a : Int} {l : List Nd} {vk : Value} (hk : Kd.R (rnd TS TB TN w0) TN w base ok vk l) : (rbr TS TB TN w0).M w base ok (.mk wd t a l) [.string wd, .string t, .int .i64 a, vk] :=
  ⟨[_], [_, _, _], rfl, rfl, [_], [_, _], rfl, rfl, [_], [_], rfl, rfl, ⟨_, rfl, hk⟩⟩
theorem rbs_back {v : Value} {l : List Br} (h : Kd.R (rbr TS TB TN w0) TB w base ok v l) : ∃ n, Kd.R (brK TN (Kd.upto (rdK TS TB TN w0) 8 [TS, TB, TN] n)) TB w base ok v l := by
  obtain ⟨h0, inner, ho, hr⟩ := h
  obtain ⟨N, hN⟩ := Kd.reps_bounded (R := fun n p c => (brK TN (Kd.upto (rdK TS TB TN w0) 8 [TS, TB, TN] n)).M w base (fun k => ok k ∧ some k ≠ v.ownBlock) p c)
    (fun n m p c hnm hp => (brK_mono TN).M _ _ ((uptoSzR TS TB TN w0 n).trans (uptoSzR TS TB TN w0 m).symm) (fun w base ok x cs hx => Kd.upto_M_le (rdK_mono TS TB TN w0) (Kd.upto_sz (fun _ => rfl)) hnm hx) _ _ _ _ _ hp)
    (hr.imp_ (fun p c hp => by
      obtain ⟨_, _, rfl, e1, _, _, rfl, e2, _, _, rfl, e3, ⟨vk, rfl, hk⟩⟩ := hp
      obtain ⟨n, hn⟩ := Kd.fix_R_back (rdK_mono TS TB TN w0) hk
      exact ⟨n, _, _, rfl, e1, _, _, rfl, e2, _, _, rfl, e3, ⟨vk, rfl, hn⟩⟩))
  exact ⟨N, h0, inner, ho, hN⟩
theorem rdK_mk {D : Kd Nd} {k : Int} {l : Ln} {b : List Br} {n : List ByteArray} {li : ByteArray} {ks : List Nd} {vb vk : Value} {An : Option Addr} {cn : Nat} (hb : Kd.R (brK TN D) TB w base ok vb b) (hl : n.length ≤ cn) (hn : Kd.C Kd.string w0 An n.length n) (hk : Kd.R D TN w base ok vk ks) :
    (rdK TS TB TN w0 D).M w base ok (.mk k l b n li ks) [.int .i64 k, .string l.f0, .int .i64 l.f1, .bool l.f2, vb, .slice An n.length cn, .string li, vk] := by
  have e8 : (Kd.slice TN D).M w base ok ks [vk] := ⟨_, rfl, hk⟩
  have e7 : (Kd.pair Kd.string (Kd.slice TN D)).M w base ok (li, ks) [.string li, vk] := ⟨[_], [_], rfl, rfl, e8⟩
  have e6 : (Kd.pair (Kd.fixed (Kd.slice TS Kd.string) w0) (Kd.pair Kd.string (Kd.slice TN D))).M w base ok (n, li, ks) [.slice An n.length cn, .string li, vk] := ⟨[_], [_, _], rfl, ⟨An, cn, rfl, hl, hn⟩, e7⟩
  have e5 : (Kd.pair (Kd.slice TB (brK TN D)) (Kd.pair (Kd.fixed (Kd.slice TS Kd.string) w0) (Kd.pair Kd.string (Kd.slice TN D)))).M w base ok (b, n, li, ks) [vb, .slice An n.length cn, .string li, vk] := ⟨[_], [_, _, _], rfl, ⟨_, rfl, hb⟩, e6⟩
  exact ⟨[_], [_, _, _, _, _, _, _], rfl, rfl, [_], [_, _, _, _, _, _], rfl, rfl, [_], [_, _, _, _, _], rfl, rfl, [_], [_, _, _, _], rfl, rfl, e5⟩
theorem rbs_le {n m : Nat} (hnm : n ≤ m) {v : Value} {l : List Br} (h : Kd.R (brK TN (Kd.upto (rdK TS TB TN w0) 8 [TS, TB, TN] n)) TB w base ok v l) : Kd.R (brK TN (Kd.upto (rdK TS TB TN w0) 8 [TS, TB, TN] m)) TB w base ok v l :=
  Kd.R_imp (d := brK TN (Kd.upto (rdK TS TB TN w0) 8 [TS, TB, TN] n)) (d' := brK TN (Kd.upto (rdK TS TB TN w0) 8 [TS, TB, TN] m)) rfl
    (fun w base ok x cs hp => (brK_mono TN).M _ _ ((uptoSzR TS TB TN w0 _).trans (uptoSzR TS TB TN w0 _).symm) (fun w base ok x cs hx => Kd.upto_M_le (rdK_mono TS TB TN w0) (uptoSzR TS TB TN w0) hnm hx) _ _ _ _ _ hp) h
theorem rnd_up {n : Nat} {x : Nd} {cs : List Value} (h : (rdK TS TB TN w0 (Kd.upto (rdK TS TB TN w0) 8 [TS, TB, TN] n)).M w base ok x cs) : (rnd TS TB TN w0).M w base ok x cs := ⟨n + 1, h⟩
theorem rnd_mk {k : Int} {l : Ln} {b : List Br} {n : List ByteArray} {li : ByteArray} {ks : List Nd} {vb vk : Value} {An : Option Addr} {cn : Nat} (hb : Kd.R (rbr TS TB TN w0) TB w base ok vb b) (hl : n.length ≤ cn) (hn : Kd.C Kd.string w0 An n.length n) (hk : Kd.R (rnd TS TB TN w0) TN w base ok vk ks) :
    (rnd TS TB TN w0).M w base ok (.mk k l b n li ks) [.int .i64 k, .string l.f0, .int .i64 l.f1, .bool l.f2, vb, .slice An n.length cn, .string li, vk] := by
  obtain ⟨n1, h1⟩ := rbs_back hb
  obtain ⟨n2, h2⟩ := Kd.fix_R_back (rdK_mono TS TB TN w0) hk
  have h1' := rbs_le (Nat.le_max_left n1 n2) h1
  have h2' := Kd.upto_R_le (rdK_mono TS TB TN w0) (uptoSzR TS TB TN w0) (Nat.le_max_right n1 n2) h2
  generalize max n1 n2 = N at h1' h2'
  exact rnd_up (n := N) (rdK_mk h1' hl hn h2')
theorem rbr_open {x : Br} {cs : List Value} (h : (rbr TS TB TN w0).K w x cs) : ∃ Ak ck, cs = [.string (brF x).1, .string (brF x).2.1, .int .i64 (brF x).2.2.1, .slice Ak (brF x).2.2.2.length ck] ∧ (brF x).2.2.2.length ≤ ck ∧ Kd.C (rnd TS TB TN w0) w Ak (brF x).2.2.2.length (brF x).2.2.2 := by
  obtain ⟨_, _, rfl, rfl, _, _, rfl, rfl, _, _, rfl, rfl, ⟨Ak, ck, rfl, h1, h2⟩⟩ := h
  exact ⟨Ak, ck, rfl, h1, h2⟩
theorem rnd_open {x : Nd} {cs : List Value} (h : (rnd TS TB TN w0).K w x cs) : ∃ Ab cb An cn Ak ck, cs = [.int .i64 (ndF x).1, .string (ndF x).2.1, .int .i64 (ndF x).2.2.1, .bool (ndF x).2.2.2.1, .slice Ab (ndF x).2.2.2.2.1.length cb, .slice An (ndF x).2.2.2.2.2.1.length cn, .string (ndF x).2.2.2.2.2.2.1, .slice Ak (ndF x).2.2.2.2.2.2.2.length ck] ∧
    ((ndF x).2.2.2.2.1.length ≤ cb ∧ (ndF x).2.2.2.2.2.1.length ≤ cn ∧ (ndF x).2.2.2.2.2.2.2.length ≤ ck) ∧ Kd.C (rbr TS TB TN w0) w Ab (ndF x).2.2.2.2.1.length (ndF x).2.2.2.2.1 ∧ Kd.C Kd.string w0 An (ndF x).2.2.2.2.2.1.length (ndF x).2.2.2.2.2.1 ∧ Kd.C (rnd TS TB TN w0) w Ak (ndF x).2.2.2.2.2.2.2.length (ndF x).2.2.2.2.2.2.2 := by
  obtain ⟨n, h⟩ := h
  cases n with
  | zero => exact h.elim
  | succ n =>
    obtain ⟨_, _, rfl, rfl, _, _, rfl, rfl, _, _, rfl, rfl, _, _, rfl, rfl, _, _, rfl, ⟨Ab, cb, rfl, h1, h2⟩, _, _, rfl, ⟨An, cn, rfl, h3, h4⟩, _, _, rfl, rfl, ⟨Ak, ck, rfl, h5, h6⟩⟩ := h
    refine ⟨Ab, cb, An, cn, Ak, ck, rfl, ⟨h1, h3, h5⟩, ?_, h4, Kd.fix_C h6⟩
    exact Kd.C_imp (d := brK TN (Kd.upto (rdK TS TB TN w0) 8 [TS, TB, TN] n)) (d' := rbr TS TB TN w0) rfl (fun w x cs hp => by
      obtain ⟨_, _, rfl, e1, _, _, rfl, e2, _, _, rfl, e3, ⟨Ak, ck, rfl, h1, h2⟩⟩ := hp
      exact ⟨_, _, rfl, e1, _, _, rfl, e2, _, _, rfl, e3, ⟨Ak, ck, rfl, h1, Kd.fix_C h2⟩⟩) h2
end
end Go.Proofs.YtiedbnjoomcdbaaDoor.Tr
set_option linter.unusedVariables false
set_option linter.unusedSimpArgs false
namespace Go.Proofs.YtiedbnjoomcdbaaDoor.Tr
open Go.RowKit Go.Proofs.YtiedbnjoomcdbaaDoorW.PrintWords Go.Proofs.YtiedbnjoomcdbaaDoorW.PrintLast Go.Proofs.YtiedbnjoomcdbaaDoorW.PrintMore

def brsN (x : Nd) : List Br := (ndF x).2.2.2.2.1
def kidsN (x : Nd) : List Nd := (ndF x).2.2.2.2.2.2.2
def kidsB (b : Br) : List Nd := (brF b).2.2.2
/-- blocks of a depth -/
def Dep : Nat → List Nd → Prop
  | 0, l => l = []
  | d + 1, l => ∀ x ∈ l, (∀ b ∈ brsN x, Dep d (kidsB b)) ∧ Dep d (kidsN x)
theorem fm_take {α β : Type} (f : α → List β) (l : List α) (i : Nat) (z : α) (h : i < l.length) : (l.take (i + 1)).flatMap f = (l.take i).flatMap f ++ f (l.getD i z) := by
  rw [List.take_add_one, List.getElem?_eq_getElem h, List.flatMap_append, List.getD_eq_getElem?_getD, List.getElem?_eq_getElem h]
  simp
theorem fm_len {α β : Type} (f : α → List β) (l : List α) (i : Nat) (z : α) (h : i < l.length) : ((l.take i).flatMap f).length + (f (l.getD i z)).length ≤ (l.flatMap f).length := by
  have h1 := fm_take f l i z h
  have h2 : l.flatMap f = (l.take (i + 1)).flatMap f ++ (l.drop (i + 1)).flatMap f := by rw [← List.flatMap_append, List.take_append_drop]
  rw [h2, h1, List.length_append, List.length_append]
  omega
theorem mem_getD {α : Type} (l : List α) (i : Nat) (z : α) (h : i < l.length) : l.getD i z ∈ l := by
  rw [List.getD_eq_getElem?_getD, List.getElem?_eq_getElem h]
  exact List.getElem_mem h
def zN : Nd := .mk 0 z0 [] [] emp []
def zB : Br := .mk emp emp 0 []
abbrev TRn : Nat := 69
abbrev TRb : Nat := 71
abbrev kL : Kd PT.S33 := PT.k33
abbrev rN (w0 : World) : Kd Nd := rnd TStr TRb TRn w0
abbrev rB (w0 : World) : Kd Br := rbr TStr TRb TRn w0
theorem msrN {n : Nat} {j : Int} (h0 : 0 ≤ j) (h1 : j < n) : n - (j + 1).toNat < n - j.toNat := by omega
theorem nxtN {n : Nat} {j : Int} (h0 : 0 ≤ j) (h1 : j < n) : 0 ≤ j + 1 ∧ j + 1 ≤ n := by omega
theorem apart_tyN {α : Type} {d : Kd α} {e t base g : Nat} {ok : Nat → Prop} {w : World} {v : Value} {xs : List α} {cells : Array Value} {o : Nat × Nat} (h : d.R e w base ok v xs) (hb : w.heap[g]? = some (.cells cells t o)) (ht : e ≠ t) : some g ≠ v.ownBlock := fun he => by
  obtain ⟨c2, h2⟩ := Kd.R_typed h g he.symm
  rw [hb] at h2
  injection h2 with h2
  injection h2 with _ h2
  exact ht h2.symm
end Go.Proofs.YtiedbnjoomcdbaaDoor.Tr
