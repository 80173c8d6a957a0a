/- The document's Sorted, walked. -/
import Derived.Test.YtpgfffibiogekaaRefC
set_option linter.unusedVariables false
set_option linter.unusedSimpArgs false
namespace Go.Proofs.Ytpgfffibiogekaa.MS
open Go.RowKit Go.Proofs.YtpgfffibiogekaaW.PrintWords Go.Proofs.YtpgfffibiogekaaW.PrintLast Go.Proofs.YtpgfffibiogekaaW.PrintMore

def ltB (a b : ByteArray) : Bool := Op.bytesLess a.toList b.toList
def mergeR : List ByteArray → List ByteArray → List ByteArray
  | [], b => b
  | a, [] => a
  | x :: a, y :: b => if ltB y x = true then y :: mergeR (x :: a) b else x :: mergeR a (y :: b)
def sortR : Nat → List ByteArray → List ByteArray
  | 0, l => l
  | k + 1, l => if l.length < 2 then l else mergeR (sortR k (l.take (l.length / 2))) (sortR k (l.drop (l.length / 2)))
theorem wrap2 (n H : Nat) (h : n < 10000000) (hH : n / 2 = H) : IntKind.i64.wrap ((n : Int) / 2) = (H : Int) := by simp [IntKind.wrap, IntKind.bits, IntKind.signed]; omega
theorem mergeR_len : ∀ a b : List ByteArray, (mergeR a b).length = a.length + b.length
  | [], b => by simp [mergeR]
  | x :: a, [] => by simp [mergeR]
  | x :: a, y :: b => by
    rw [mergeR]
    split
    · rw [List.length_cons, mergeR_len (x :: a) b]; simp only [List.length_cons]; omega
    · rw [List.length_cons, mergeR_len a (y :: b)]; simp only [List.length_cons]; omega
theorem sortR_len : ∀ (k : Nat) (l : List ByteArray), (sortR k l).length = l.length
  | 0, l => rfl
  | k + 1, l => by
    rw [sortR]
    split
    · rfl
    · rw [mergeR_len, sortR_len k, sortR_len k, List.length_take, List.length_drop]; omega
theorem below_drew_then {w w' : World} (h : Below w.drew.heap.size w.drew w') : Below w.heap.size w w' := below_then (below_drew (Below.refl _ _)) (Nat.le_refl _) h
theorem sc_cell {w w' : World} {ad : Addr} {n : Nat} {x : ByteArray} {xs : List ByteArray} (h : Kd.string.C w (some ad) n (x :: xs)) (hb : Below w.heap.size w w') : w'.cell? ad = some (.string x) := by
  have h := Kd.C_below h hb
  have hn : xs.length + 1 = n := h.1
  obtain ⟨ad2, e, hc⟩ := h.2.2 (by omega)
  cases e
  obtain ⟨c, _, hk, hcell⟩ := hc 0 x rfl
  have hk : c = [.string x] := hk
  subst hk
  have h0 := hcell 0 _ rfl
  rw [← h0]
  simp [Addr.add]
theorem infoS : (Try.prog.info? 9).map (fun i => (i.zero, i.size, i.bytes)) = some (some (.string ⟨#[]⟩), 1, 16) := by kernel_rfl
abbrev SC (w : World) (A : Option Addr) (n : Nat) (xs : List ByteArray) : Prop := Kd.string.C w A n xs
theorem sc_take {w : World} {A : Option Addr} {n m : Nat} {xs : List ByteArray} (h : SC w A n xs) (hm : m ≤ n) : SC w A m (xs.take m) := by
  have hn : xs.length = n := h.1
  subst hn
  have h1 := Kd.C_take h hm
  rwa [List.length_take, Nat.min_eq_left hm] at h1
theorem sc_drop {w : World} {A : Option Addr} {n m c : Nat} {xs : List ByteArray} (h : SC w A n xs) (hm : m ≤ n) (hc : n ≤ c) : SC w (if c = m then A else Option.map (fun x => x.add m) A) (n - m) (xs.drop m) := by
  have hn : xs.length = n := h.1
  subst hn
  have h1 := Kd.C_drop (m := m) (c := c) h hm hc
  rw [List.length_drop] at h1
  have h2 : m * Kd.string.sz = m := Nat.mul_one m
  rwa [h2] at h1
theorem sc_head {w : World} {A : Option Addr} {n : Nat} {x : ByteArray} {xs : List ByteArray} (h : SC w A n (x :: xs)) : ∃ ad, A = some ad ∧ w.cell? ad = some (.string x) ∧ n = xs.length + 1 := by
  have hn : xs.length + 1 = n := h.1
  obtain ⟨ad, e, hc⟩ := h.2.2 (by omega)
  obtain ⟨c, _, hk, hcell⟩ := hc 0 x rfl
  have hk : c = [.string x] := hk
  subst hk
  have h0 := hcell 0 _ rfl
  refine ⟨ad, e, ?_, hn.symm⟩
  rw [← h0]
  simp [Addr.add]
set_option maxHeartbeats 8000000 in
set_option maxRecDepth 100000 in
theorem sortedRW : ∀ (k : Nat) (w : World) (A : Option Addr) (c n : Nat) (xs : List ByteArray) (_ : n ≤ k) (_ : n ≤ 1000000) (_ : n ≤ c) (_ : SC w A n xs),
    Calls Try.prog 39 #[.slice A n c] w fun e w' => (∃ A' c', e = .returned (.slice A' n c') ∧ SC w' A' n (sortR k xs) ∧ n ≤ c') ∧ Below w.heap.size w w' := by
  intro k
  induction k with
  | zero =>
    intro w A c n xs hk hl hc hr
    have hn0 : n = 0 := by omega
    subst hn0
    go_enter Try.func39, Try.ntmps39
    go_wp2_with (fail)
    go_ret
    exact ⟨⟨_, _, rfl, hr, hc⟩, Below.refl _ _⟩
  | succ k ih =>
    intro w A c n xs hk hl hc hr
    have hn : xs.length = n := hr.1
    have hR := Aside0.mk hr
    clear hr
    by_cases h2 : n < 2
    · have d0 : decide ((n : Int) < 2) = true := decide_eq_true (by omega)
      go_enter Try.func39, Try.ntmps39
      go_wp2_with (fail)
      go_ret
      exact ⟨⟨_, _, rfl, by rw [sortR, if_pos (by omega)]; exact hR.out, by omega⟩, Below.refl _ _⟩
    · have d0 : decide ((n : Int) < 2) = false := decide_eq_false (by omega)
      obtain ⟨H, hH⟩ : ∃ H, n / 2 = H := ⟨_, rfl⟩
      have hw2 : IntKind.i64.wrap ((n : Int) / 2) = (H : Int) := wrap2 n H (by omega) hH
      have g0 : (0 : Int) ≤ (H : Int) := by omega
      have g1 : (H : Int) ≤ (n : Int) := by omega
      have g2 : (H : Int) ≤ (c : Int) := by omega
      have g3 : (n : Int) ≤ (c : Int) := by omega
      have hHH := Aside0.mk (⟨hH, by omega, by omega, by omega, hk, hl, hc, hn⟩ : n / 2 = H ∧ H ≤ n ∧ 0 < H ∧ H < n ∧ n ≤ k + 1 ∧ n ≤ 1000000 ∧ n ≤ c ∧ xs.length = n)
      have hM : sortR (k + 1) xs = mergeR (sortR k (xs.take H)) (sortR k (xs.drop H)) := by rw [sortR, if_neg (by omega), hn, hH]
      have ihA := fun W (hb : Below w.heap.size w W) => ih W A c H (xs.take H) (by omega) (by omega) (by omega) (Kd.C_below (sc_take hR.out (by omega)) hb)
      have ihB := fun W (hb : Below w.heap.size w W) => ih W (if c = H then A else Option.map (fun x => x.add H) A) (c - H) (n - H) (xs.drop H) (by omega) (by omega) (by omega) (Kd.C_below (sc_drop hR.out (by omega) (by omega)) hb)
      obtain ⟨A2, hA2⟩ : ∃ A2, (if c = H then A else Option.map (fun x => x.add H) A) = A2 := ⟨_, rfl⟩
      rw [hA2] at ihB
      have hM := Aside0.mk hM
      clear hH hk hl hc hn
      go_enter Try.func39, Try.ntmps39
      go_wp2_with (fail)
      go_region_with (first | (go_at_call 39; (with_reducible refine (ihA _ ?hA).mono ?_); (case hA => exact below_drew (Below.refl _ _)); rintro e w3 ⟨⟨A3, c3, rfl, hC3, hc3⟩, hb3⟩) | (go_at_call 39; (with_reducible refine (ihB _ ?hB).mono ?_); (case hB => exact below_drew_then hb3); rintro e w4 ⟨⟨A4, c4, rfl, hC4, hc4⟩, hb4⟩))
      have hb34 := below_then (below_drew_then hb3) (below_drew_then hb3).size hb4
      have hCa := Aside0.mk (Kd.C_below hC3 hb4)
      have hCb := Aside0.mk hC4
      have hb34 := Aside0.mk hb34
      have ha0 : (sortR k (xs.take H)).length = H := hC3.1
      have hb0 : (sortR k (xs.drop H)).length = n - H := hC4.1
      obtain ⟨M, hMM⟩ : ∃ M, mergeR (sortR k (xs.take H)) (sortR k (xs.drop H)) = M := ⟨_, rfl⟩
      have hL0 := Aside0.mk (⟨ha0, hb0, hMM, hc3, hc4⟩ : (sortR k (xs.take H)).length = H ∧ (sortR k (xs.drop H)).length = n - H ∧ mergeR (sortR k (xs.take H)) (sortR k (xs.drop H)) = M ∧ H ≤ c3 ∧ n - H ≤ c4)
      clear hb3 hb4 hC3 hC4 ha0 hb0 hMM hc3 hc4 ihA ihB ih g0 g1 g2 g3 d0 hw2 hA2
      go_wp2_with (fail)
      go_loopg [3, 4, 5] (n + 1) (fun kq v3 v4 v5 wr => ∃ (a b o : List ByteArray) (A3 A4 : Option Addr) (la lb c3 c4 : Nat) (v : Value), v3 = .slice A3 la c3 ∧ v4 = .slice A4 lb c4 ∧ v = v5 ∧ Aside0 (la + lb + 1 = kq ∧ o.length + la + lb = n ∧ o ++ mergeR a b = M ∧ la ≤ c3 ∧ lb ≤ c4) ∧ Aside0 (SC w4 A3 la a) ∧ Aside0 (SC w4 A4 lb b) ∧ Aside0 (Kd.R Kd.string 9 wr w4.heap.size (fun _ => True) v o) ∧ Aside0 (Below w4.heap.size w4 wr))
      case atStart => exact ⟨_, _, [], _, _, _, _, _, _, _, rfl, rfl, rfl, ⟨by have := hHH.out; omega, by have := hHH.out; simp; omega, by rw [List.nil_append]; exact hL0.out.2.2.1, hL0.out.2.2.2.1, hL0.out.2.2.2.2⟩, hCa, hCb, ⟨Kd.R_nil _ _ _ _ _⟩, ⟨Below.refl _ _⟩⟩
      case round =>
        obtain ⟨a, b, o, A3, A4, la, lb, c3, c4, v, rfl, rfl, rfl, HI, hCa, hCb, HR, HB⟩ := hrel
        by_cases hae : 0 < la
        · by_cases hbe : 0 < lb
          · cases a with
            | nil => exact absurd hCa.out.1 (by simp; omega)
            | cons x a =>
              cases b with
              | nil => exact absurd hCb.out.1 (by simp; omega)
              | cons y b =>
                obtain ⟨ad, rfl, x0, hla⟩ := sc_head hCa.out
                obtain ⟨bd, rfl, y0, hlb⟩ := sc_head hCb.out
                obtain ⟨k1, rfl⟩ : ∃ k1, gk = k1 + 1 := ⟨gk - 1, by have := HI.out; omega⟩
                have d0 : decide ((0 : Int) < (la : Int)) = true := decide_eq_true (by omega)
                have d1 : decide ((0 : Int) < (lb : Int)) = true := decide_eq_true (by omega)
                have e0 : (0 : Int) < (la : Int) := by omega
                have e1 : (0 : Int) < (lb : Int) := by omega
                have i0 : (1 : Int) ≤ (la : Int) := by omega
                have i1 : (1 : Int) ≤ (lb : Int) := by omega
                have i2 : (la : Int) ≤ (c3 : Int) := by have := HI.out.2.2.2.1; omega
                have i3 : (lb : Int) ≤ (c4 : Int) := by have := HI.out.2.2.2.2; omega
                have xr : wr.cell? ad = some (.string x) := sc_cell hCa.out HB.out
                have yr : wr.cell? bd = some (.string y) := sc_cell hCb.out HB.out
                have hlen := Aside0.mk (show (o.length + 1) * 16 ≤ 140737488355328 by have := HI.out.2.1; have := hHH.out; omega)
                have hLL := Aside0.mk (⟨hla, hlb⟩ : la = a.length + 1 ∧ lb = b.length + 1)
                clear hla hlb x0 y0 hae hbe
                cases hc : Op.bytesLess y.toList x.toList with
                | true =>
                  have hme : mergeR (x :: a) (y :: b) = y :: mergeR (x :: a) b := by rw [mergeR, if_pos (show ltB y x = true from hc)]
                  have hme := Aside0.mk hme
                  have h9 := sc_drop (m := 1) (c := c4) hCb.out (by omega) (by omega)
                  by_cases h4 : c4 = 1
                  · rw [if_pos h4] at h9
                    have h9 := Aside0.mk h9
                    go_wp2_with (fail)
                    go_quiet (fail)
                    go_wp2_with (first | ((with_reducible refine gate_builtin (b := .append) (xs := #[.tmp 37, .tmp 41]) rfl ?_); at_builtin; refine Kd.R_append Kd.string (w0 := w4) w4.heap.size rfl (.tmp 37) (.tmp 41) 39 9 (.string ⟨#[]⟩) 16 rfl Try.underlying39 infoS rfl (by decide) (by decide) v o y [.string y] (fun _ => True) (fun _ => False) rfl rfl ?aP ?aF ?aN ?aO ?aB ?aS ?aL ?_; (case aP => exact rfl); (case aF => exact fun _ hk => hk.elim); (case aN => exact fun _ _ => trivial); (case aO => exact Kd.R_drewN HR.out _); (case aB => exact pw_below_drewN HB.out _); (case aS => exact (pw_below_drewN HB.out _).size); (case aL => exact hlen.out); intro v6 w6 hR6 hB6 hg6 hat6; have HR6 := Aside0.mk hR6; have HB6 := Aside0.mk hB6; clear hR6 hB6 hg6 hat6))
                    go_roundg k1
                    case measure => have := HI.out; omega
                    case rel =>
                      exact ⟨x :: a, b, o ++ [y], _, _, _, _, _, _, _, rfl, rfl, rfl, ⟨by have := HI.out; omega, by have := HI.out; have := hLL.out; rw [List.length_append, List.length_singleton]; omega, by rw [List.append_assoc, List.singleton_append, ← hme.out]; exact HI.out.2.2.1, HI.out.2.2.2.1, by have := HI.out; omega⟩, hCa, h9, HR6, HB6⟩
                  · rw [if_neg h4] at h9
                    have h9 := Aside0.mk h9
                    go_wp2_with (fail)
                    go_quiet (fail)
                    go_wp2_with (first | ((with_reducible refine gate_builtin (b := .append) (xs := #[.tmp 37, .tmp 41]) rfl ?_); at_builtin; refine Kd.R_append Kd.string (w0 := w4) w4.heap.size rfl (.tmp 37) (.tmp 41) 39 9 (.string ⟨#[]⟩) 16 rfl Try.underlying39 infoS rfl (by decide) (by decide) v o y [.string y] (fun _ => True) (fun _ => False) rfl rfl ?aP ?aF ?aN ?aO ?aB ?aS ?aL ?_; (case aP => exact rfl); (case aF => exact fun _ hk => hk.elim); (case aN => exact fun _ _ => trivial); (case aO => exact Kd.R_drewN HR.out _); (case aB => exact pw_below_drewN HB.out _); (case aS => exact (pw_below_drewN HB.out _).size); (case aL => exact hlen.out); intro v6 w6 hR6 hB6 hg6 hat6; have HR6 := Aside0.mk hR6; have HB6 := Aside0.mk hB6; clear hR6 hB6 hg6 hat6))
                    go_roundg k1
                    case measure => have := HI.out; omega
                    case rel =>
                      exact ⟨x :: a, b, o ++ [y], _, _, _, _, _, _, _, rfl, rfl, rfl, ⟨by have := HI.out; omega, by have := HI.out; have := hLL.out; rw [List.length_append, List.length_singleton]; omega, by rw [List.append_assoc, List.singleton_append, ← hme.out]; exact HI.out.2.2.1, HI.out.2.2.2.1, by have := HI.out; omega⟩, hCa, h9, HR6, HB6⟩
                | false =>
                  have hme : mergeR (x :: a) (y :: b) = x :: mergeR a (y :: b) := by rw [mergeR, if_neg (by show ¬ Op.bytesLess y.toList x.toList = true; rw [hc]; simp)]
                  have hme := Aside0.mk hme
                  have h9 := sc_drop (m := 1) (c := c3) hCa.out (by omega) (by omega)
                  by_cases h4 : c3 = 1
                  · rw [if_pos h4] at h9
                    have h9 := Aside0.mk h9
                    go_wp2_with (fail)
                    go_quiet (fail)
                    go_wp2_with (first | ((with_reducible refine gate_builtin (b := .append) (xs := #[.tmp 45, .tmp 49]) rfl ?_); at_builtin; refine Kd.R_append Kd.string (w0 := w4) w4.heap.size rfl (.tmp 45) (.tmp 49) 39 9 (.string ⟨#[]⟩) 16 rfl Try.underlying39 infoS rfl (by decide) (by decide) v o x [.string x] (fun _ => True) (fun _ => False) rfl rfl ?aP ?aF ?aN ?aO ?aB ?aS ?aL ?_; (case aP => exact rfl); (case aF => exact fun _ hk => hk.elim); (case aN => exact fun _ _ => trivial); (case aO => exact Kd.R_drewN HR.out _); (case aB => exact pw_below_drewN HB.out _); (case aS => exact (pw_below_drewN HB.out _).size); (case aL => exact hlen.out); intro v6 w6 hR6 hB6 hg6 hat6; have HR6 := Aside0.mk hR6; have HB6 := Aside0.mk hB6; clear hR6 hB6 hg6 hat6))
                    go_roundg k1
                    case measure => have := HI.out; omega
                    case rel =>
                      exact ⟨a, y :: b, o ++ [x], _, _, _, _, _, _, _, rfl, rfl, rfl, ⟨by have := HI.out; omega, by have := HI.out; have := hLL.out; rw [List.length_append, List.length_singleton]; omega, by rw [List.append_assoc, List.singleton_append, ← hme.out]; exact HI.out.2.2.1, by have := HI.out; omega, HI.out.2.2.2.2⟩, h9, hCb, HR6, HB6⟩
                  · rw [if_neg h4] at h9
                    have h9 := Aside0.mk h9
                    go_wp2_with (fail)
                    go_quiet (fail)
                    go_wp2_with (first | ((with_reducible refine gate_builtin (b := .append) (xs := #[.tmp 45, .tmp 49]) rfl ?_); at_builtin; refine Kd.R_append Kd.string (w0 := w4) w4.heap.size rfl (.tmp 45) (.tmp 49) 39 9 (.string ⟨#[]⟩) 16 rfl Try.underlying39 infoS rfl (by decide) (by decide) v o x [.string x] (fun _ => True) (fun _ => False) rfl rfl ?aP ?aF ?aN ?aO ?aB ?aS ?aL ?_; (case aP => exact rfl); (case aF => exact fun _ hk => hk.elim); (case aN => exact fun _ _ => trivial); (case aO => exact Kd.R_drewN HR.out _); (case aB => exact pw_below_drewN HB.out _); (case aS => exact (pw_below_drewN HB.out _).size); (case aL => exact hlen.out); intro v6 w6 hR6 hB6 hg6 hat6; have HR6 := Aside0.mk hR6; have HB6 := Aside0.mk hB6; clear hR6 hB6 hg6 hat6))
                    go_roundg k1
                    case measure => have := HI.out; omega
                    case rel =>
                      exact ⟨a, y :: b, o ++ [x], _, _, _, _, _, _, _, rfl, rfl, rfl, ⟨by have := HI.out; omega, by have := HI.out; have := hLL.out; rw [List.length_append, List.length_singleton]; omega, by rw [List.append_assoc, List.singleton_append, ← hme.out]; exact HI.out.2.2.1, by have := HI.out; omega, HI.out.2.2.2.2⟩, h9, hCb, HR6, HB6⟩
          · have hb1 : lb = 0 := by omega
            subst hb1
            have hbn : b = [] := List.eq_nil_of_length_eq_zero hCb.out.1
            subst hbn
            have d0 : decide ((0 : Int) < (la : Int)) = true := decide_eq_true (by omega)
            have hO := Aside0.mk (show o ++ a ++ [] = M by
              have h1 := HI.out.2.2.1
              rw [List.append_nil, ← h1]
              cases a with
              | nil => rw [mergeR]
              | cons x a => rw [mergeR]; simp)
            have hlN := Aside0.mk (show (o ++ a ++ []).length = n by have := HI.out.2.1; have := hCa.out.1; simp; omega)
            go_wp2_with (first | ((with_reducible refine gate_builtin (b := .append) (xs := #[.tmp 53, .tmp 54]) rfl ?_); at_builtin; refine Kd.R_append_rows Kd.string (w0 := w4) (Rr := Kd.string.K w4) w4.heap.size rfl (.tmp 53) (.tmp 54) 39 9 (.string ⟨#[]⟩) 16 rfl Try.underlying39 infoS rfl (by decide) (by decide) v o a A3 la c3 (fun _ => True) (fun _ => False) rfl rfl ?aO ?aR ?aK ?aF ?aN ?aB ?aS ?aL ?_; (case aO => exact HR.out); (case aR => exact Kd.C_below hCa.out HB.out); (case aK => exact fun x cs hk => hk); (case aF => exact fun _ hk => hk.elim); (case aN => exact fun _ _ => trivial); (case aB => exact HB.out); (case aS => exact HB.out.size); (case aL => have := HI.out.2.1; have := hHH.out; simp; omega); intro v6 w6 hR6 hB6 hg6 hat6; have HR6 := Aside0.mk hR6; have HB6 := Aside0.mk hB6; clear hR6 hB6 hg6 hat6) | ((with_reducible refine gate_builtin (b := .append) (xs := #[.tmp 55, .tmp 56]) rfl ?_); at_builtin; refine Kd.R_append_rows Kd.string (w0 := w4) (Rr := Kd.string.K w4) w4.heap.size rfl (.tmp 55) (.tmp 56) 39 9 (.string ⟨#[]⟩) 16 rfl Try.underlying39 infoS rfl (by decide) (by decide) v6 (o ++ a) ([]) A4 0 c4 (fun _ => True) (fun _ => False) rfl rfl ?aO ?aR ?aK ?aF ?aN ?aB ?aS ?aL ?_; (case aO => exact HR6.out); (case aR => exact Kd.C_below hCb.out HB6.out); (case aK => exact fun x cs hk => hk); (case aF => exact fun _ hk => hk.elim); (case aN => exact fun _ _ => trivial); (case aB => exact HB6.out); (case aS => exact HB6.out.size); (case aL => have := HI.out.2.1; have := hHH.out; have := hCa.out.1; simp; omega); intro v7 w7 hR7 hB7 hg7 hat7; obtain ⟨A7, c7, e7⟩ := Kd.R_slice hR7; rw [hlN.out] at e7; subst e7; have HR7 := Aside0.mk hR7; have HB7 := Aside0.mk hB7; clear hR7 hB7 hg7 hat7))
            go_ret
            obtain ⟨hn7, hc7, hC7⟩ := Kd.R_reads' HR7.out
            rw [hO.out, ← hL0.out.2.2.1, ← hM.out] at hC7
            have hsl : (sortR (k + 1) xs).length = n := by rw [sortR_len]; exact hHH.out.2.2.2.2.2.2.2
            rw [hsl] at hC7
            exact ⟨⟨_, _, rfl, hC7, hc7⟩, below_then hb34.out hb34.out.size HB7.out⟩
        · have ha1 : la = 0 := by omega
          subst ha1
          have han : a = [] := List.eq_nil_of_length_eq_zero hCa.out.1
          subst han
          have hO := Aside0.mk (show o ++ [] ++ b = M by
            have h1 := HI.out.2.2.1
            rw [List.append_nil, ← h1, mergeR])
          have hlN := Aside0.mk (show (o ++ [] ++ b).length = n by have := HI.out.2.1; have := hCb.out.1; simp; omega)
          go_wp2_with (first | ((with_reducible refine gate_builtin (b := .append) (xs := #[.tmp 53, .tmp 54]) rfl ?_); at_builtin; refine Kd.R_append_rows Kd.string (w0 := w4) (Rr := Kd.string.K w4) w4.heap.size rfl (.tmp 53) (.tmp 54) 39 9 (.string ⟨#[]⟩) 16 rfl Try.underlying39 infoS rfl (by decide) (by decide) v o [] A3 0 c3 (fun _ => True) (fun _ => False) rfl rfl ?aO ?aR ?aK ?aF ?aN ?aB ?aS ?aL ?_; (case aO => exact HR.out); (case aR => exact Kd.C_below hCa.out HB.out); (case aK => exact fun x cs hk => hk); (case aF => exact fun _ hk => hk.elim); (case aN => exact fun _ _ => trivial); (case aB => exact HB.out); (case aS => exact HB.out.size); (case aL => have := HI.out.2.1; have := hHH.out; simp; omega); intro v6 w6 hR6 hB6 hg6 hat6; have HR6 := Aside0.mk hR6; have HB6 := Aside0.mk hB6; clear hR6 hB6 hg6 hat6) | ((with_reducible refine gate_builtin (b := .append) (xs := #[.tmp 55, .tmp 56]) rfl ?_); at_builtin; refine Kd.R_append_rows Kd.string (w0 := w4) (Rr := Kd.string.K w4) w4.heap.size rfl (.tmp 55) (.tmp 56) 39 9 (.string ⟨#[]⟩) 16 rfl Try.underlying39 infoS rfl (by decide) (by decide) v6 (o ++ []) (b) A4 lb c4 (fun _ => True) (fun _ => False) rfl rfl ?aO ?aR ?aK ?aF ?aN ?aB ?aS ?aL ?_; (case aO => exact HR6.out); (case aR => exact Kd.C_below hCb.out HB6.out); (case aK => exact fun x cs hk => hk); (case aF => exact fun _ hk => hk.elim); (case aN => exact fun _ _ => trivial); (case aB => exact HB6.out); (case aS => exact HB6.out.size); (case aL => have := HI.out.2.1; have := hHH.out; have := hCa.out.1; simp; omega); intro v7 w7 hR7 hB7 hg7 hat7; obtain ⟨A7, c7, e7⟩ := Kd.R_slice hR7; rw [hlN.out] at e7; subst e7; have HR7 := Aside0.mk hR7; have HB7 := Aside0.mk hB7; clear hR7 hB7 hg7 hat7))
          go_ret
          obtain ⟨hn7, hc7, hC7⟩ := Kd.R_reads' HR7.out
          rw [hO.out, ← hL0.out.2.2.1, ← hM.out] at hC7
          have hsl : (sortR (k + 1) xs).length = n := by rw [sortR_len]; exact hHH.out.2.2.2.2.2.2.2
          rw [hsl] at hC7
          exact ⟨⟨_, _, rfl, hC7, hc7⟩, below_then hb34.out hb34.out.size HB7.out⟩
end Go.Proofs.Ytpgfffibiogekaa.MS
