/- The document's set of variables, walked: a list in memory. -/
import Derived.Test.YtpgfffibiogekaaVarH
set_option linter.unusedVariables false
set_option linter.unusedSimpArgs false
namespace Go.Proofs.Ytpgfffibiogekaa.MS
open Go.RowKit Go.Proofs.YtpgfffibiogekaaW.PrintWords Go.Proofs.YtpgfffibiogekaaW.PrintLast Go.Proofs.YtpgfffibiogekaaW.PrintMore

abbrev V3 := Int × ByteArray × ByteArray
def kv : Kd V3 := Kd.pair (Kd.int .i64) (Kd.pair Kd.string Kd.string)
theorem kv_open {w : World} {x : V3} {cs : List Value} (h : kv.K w x cs) : cs = [.int .i64 x.1, .string x.2.1, .string x.2.2] := by
  obtain ⟨_, _, rfl, rfl, ⟨_, _, rfl, rfl, rfl⟩⟩ := h
  exact rfl
theorem kv_mk (w : World) (x : V3) : kv.K w x [.int .i64 x.1, .string x.2.1, .string x.2.2] := ⟨[.int .i64 x.1], [.string x.2.1, .string x.2.2], rfl, rfl, ⟨[.string x.2.1], [.string x.2.2], rfl, rfl, rfl⟩⟩
theorem kv_mkM (w : World) (base : Nat) (ok : Nat → Prop) (x : V3) : kv.M w base ok x [.int .i64 x.1, .string x.2.1, .string x.2.2] := ⟨[.int .i64 x.1], [.string x.2.1, .string x.2.2], rfl, rfl, ⟨[.string x.2.1], [.string x.2.2], rfl, rfl, rfl⟩⟩
theorem at_kv {w : World} {A : Option Addr} {xs : List V3} {n : Nat} (h : Kd.C kv w A n xs) (i : Nat) (h1 : i < xs.length) : ∃ ad, A = some ad ∧ w.cell? (ad.add (i * 3)) = some (.int .i64 xs[i].1) ∧ w.cell? ⟨(ad.add (i * 3)).block, (ad.add (i * 3)).off + 1, none⟩ = some (.string xs[i].2.1) ∧ w.cell? ⟨(ad.add (i * 3)).block, (ad.add (i * 3)).off + 2, none⟩ = some (.string xs[i].2.2) := by
  have hn := h.1
  obtain ⟨ad, rfl, hc⟩ := h.2.2 (by omega)
  obtain ⟨c, _, hk, hcell⟩ := hc i xs[i] (List.getElem?_eq_getElem h1)
  have hk := kv_open hk
  have hcell : ∀ j u, c[j]? = some u → w.cell? (ad.add (i * 3 + j)) = some u := hcell
  subst hk
  exact ⟨ad, rfl, hcell 0 _ rfl, by rw [← add_field _ _ 1 (by omega)]; exact hcell 1 _ rfl, by rw [← add_field _ _ 2 (by omega)]; exact hcell 2 _ rfl⟩
/-- the document's set in block r says l -/
def RAt (w : World) (base r : Nat) (X : Nat → Prop) (l : List V3) : Prop := base ≤ r ∧ (∀ k, X k → k < w.heap.size) ∧ ∃ v, w.heap[r]? = some (.cells #[v] 45 (0, 0)) ∧ Kd.R kv 65 w base (fun k => k ≠ r ∧ ¬ X k) v l
theorem RAt.below {w w' : World} {base r : Nat} {X : Nat → Prop} {l : List V3} (h : RAt w base r X l) (hb : Below w.heap.size w w') : RAt w' base r X l := by
  obtain ⟨h1, hX, v, h2, h3⟩ := h
  exact ⟨h1, fun k hk => Nat.lt_of_lt_of_le (hX k hk) hb.size, v, blk_below h2 hb, Kd.R_below h3 hb⟩
def hitV (n : Int) (s : ByteArray) (x : V3) : Bool := x.1 == n && (x.2.1.toList == s.toList)
def atR (n : Int) (s : ByteArray) : List V3 → Nat → Int
  | [], _ => -1
  | x :: l, i => if hitV n s x = true then (i : Int) else atR n s l (i + 1)
set_option maxHeartbeats 8000000 in
set_option maxRecDepth 100000 in
theorem atW (w : World) (base r : Nat) (X : Nat → Prop) (l : List V3) (n : Int) (s : ByteArray) (h : RAt w base r X l) (hl : l.length ≤ 1000000) :
    Calls Try.prog 38 #[.pointer (some ⟨r, 0, none⟩), .int .i64 n, .string s] w fun e w' => e = .returned (.int .i64 (atR n s l 0)) ∧ w' = w := by
  have hu65 := Try.underlying65
  obtain ⟨hb, hX, v, hblk, hR⟩ := h
  obtain ⟨A, c, rfl⟩ := Kd.R_slice hR
  have hK := Aside0.mk (Kd.R_reads' hR).2.2
  have x0 : w.cell? ⟨r, 0, none⟩ = some (.slice A l.length c) := (blk_cell hblk 0).trans rfl
  clear hR hblk
  obtain ⟨L, hL⟩ : ∃ L, l.length = L := ⟨_, rfl⟩
  rw [hL] at x0 hl
  go_enter Try.func38, Try.ntmps38
  go_wp2_with (fail)
  go_loopg [7] (L + 1) (fun kq v7 wr => ∃ (i : Nat), v7 = .int .i64 (i : Int) ∧ Aside0 (i + kq = L + 1 ∧ atR n s (l.drop i) i = atR n s l 0) ∧ wr = w)
  case atStart => exact ⟨0, rfl, ⟨by omega, rfl⟩, rfl⟩
  case round =>
    obtain ⟨i, rfl, HI, hw⟩ := hrel
    subst hw
    by_cases hi : i < L
    · obtain ⟨k1, rfl⟩ : ∃ k1, gk = k1 + 1 := ⟨gk - 1, by have := HI.out; omega⟩
      have d0 : decide ((i : Int) < (L : Int)) = true := decide_eq_true (by omega)
      have d1 : decide ((0 : Int) ≤ (i : Int)) = true := decide_eq_true (by omega)
      have hil : i < l.length := by omega
      have hii : (i : Int) + 1 < 9223372036854775808 := by omega
      obtain ⟨ad, eA, c0, c1, c2⟩ := at_kv hK.out i hil
      have hd : l.drop i = l[i] :: l.drop (i + 1) := List.drop_eq_getElem_cons hil
      have hA := HI.out.2
      rw [hd, atR] at hA
      obtain ⟨x, hx⟩ : ∃ x, l[i] = x := ⟨_, rfl⟩
      rw [hx] at c0 c1 c2 hA
      subst eA
      unfold hitV at hA
      clear hx hd hil c2
      cases b1 : (x.1 == n) with
      | false =>
        rw [b1, Bool.false_and, if_neg (by simp)] at hA
        have HA := Aside0.mk hA
        clear hA
        go_wp2_with (fail)
        go_roundg k1
        case measure => have := HI.out; omega
        case rel => exact ⟨i + 1, by first | rfl | simp, ⟨by have := HI.out; omega, HA.out⟩, rfl⟩
      | true =>
        cases b2 : (x.2.1.toList == s.toList) with
        | true =>
          rw [b1, b2, if_pos (by rfl)] at hA
          have HA := Aside0.mk hA
          clear hA HI
          go_wp2_with (fail)
          go_ret
          exact ⟨by rw [← HA.out]; rfl, rfl⟩
        | false =>
          rw [b1, b2, if_neg (by simp)] at hA
          have HA := Aside0.mk hA
          clear hA
          go_wp2_with (fail)
          go_roundg k1
          case measure => have := HI.out; omega
          case rel => exact ⟨i + 1, by first | rfl | simp, ⟨by have := HI.out; omega, HA.out⟩, rfl⟩
    · have d0 : decide ((i : Int) < (L : Int)) = false := decide_eq_false (by omega)
      have hA := HI.out.2
      rw [List.drop_eq_nil_of_le (by omega), atR] at hA
      have HA := Aside0.mk hA
      clear hA HI
      go_wp2_with (fail)
      go_ret
      exact ⟨by rw [← HA.out]; rfl, rfl⟩
def manyR (n : Int) (l : List V3) : Nat := (l.filter fun x => x.1 == n).length
set_option maxHeartbeats 8000000 in
set_option maxRecDepth 100000 in
theorem manyRW (w : World) (base r : Nat) (X : Nat → Prop) (l : List V3) (n : Int) (h : RAt w base r X l) (hl : l.length ≤ 1000000) :
    Calls Try.prog 46 #[.pointer (some ⟨r, 0, none⟩), .int .i64 n] w fun e w' => e = .returned (.int .i64 (manyR n l)) ∧ w' = w := by
  have hu65 := Try.underlying65
  obtain ⟨hb, hX, v, hblk, hR⟩ := h
  obtain ⟨A, c, rfl⟩ := Kd.R_slice hR
  have hK := Aside0.mk (Kd.R_reads' hR).2.2
  have x0 : w.cell? ⟨r, 0, none⟩ = some (.slice A l.length c) := (blk_cell hblk 0).trans rfl
  clear hR hblk
  obtain ⟨L, hL⟩ : ∃ L, l.length = L := ⟨_, rfl⟩
  rw [hL] at x0 hl
  go_enter Try.func46, Try.ntmps46
  go_wp2_with (fail)
  go_loopg [5, 6] (L + 1) (fun kq v5 v6 wr => ∃ (i q : Nat), v6 = .int .i64 (i : Int) ∧ v5 = .int .i64 (q : Int) ∧ Aside0 (i + kq = L + 1 ∧ q + manyR n (l.drop i) = manyR n l ∧ q ≤ i) ∧ wr = w)
  case atStart => exact ⟨0, 0, rfl, rfl, ⟨by omega, by simp, by omega⟩, rfl⟩
  case round =>
    obtain ⟨i, q, rfl, rfl, HI, hw⟩ := hrel
    subst hw
    by_cases hi : i < L
    · obtain ⟨k1, rfl⟩ : ∃ k1, gk = k1 + 1 := ⟨gk - 1, by have := HI.out; omega⟩
      have d0 : decide ((i : Int) < (L : Int)) = true := decide_eq_true (by omega)
      have d1 : decide ((0 : Int) ≤ (i : Int)) = true := decide_eq_true (by omega)
      have hil : i < l.length := by omega
      have hii : (i : Int) + 1 < 9223372036854775808 := by omega
      have hqq : (q : Int) + 1 < 9223372036854775808 := by have := HI.out.2.2; omega
      obtain ⟨ad, eA, c0, c1, c2⟩ := at_kv hK.out i hil
      have hd : l.drop i = l[i] :: l.drop (i + 1) := List.drop_eq_getElem_cons hil
      have hA := HI.out.2.1
      rw [hd, manyR, List.filter_cons] at hA
      obtain ⟨x, hx⟩ : ∃ x, l[i] = x := ⟨_, rfl⟩
      rw [hx] at c0 c1 c2 hA
      subst eA
      clear hx hd hil c1 c2
      cases b1 : (x.1 == n) with
      | false =>
        rw [b1, if_neg (by simp)] at hA
        have HA := Aside0.mk hA
        clear hA
        go_wp2_with (fail)
        go_roundg k1
        case measure => have := HI.out; omega
        case rel => exact ⟨i + 1, q, by first | rfl | simp, rfl, ⟨by have := HI.out; omega, HA.out, by have := HI.out; omega⟩, rfl⟩
      | true =>
        rw [b1, if_pos rfl, List.length_cons] at hA
        have HA := Aside0.mk hA
        clear hA
        go_wp2_with (fail)
        go_roundg k1
        case measure => have := HI.out; omega
        case rel => exact ⟨i + 1, q + 1, by first | rfl | simp, by first | rfl | simp, ⟨by have := HI.out; omega, by have := HA.out; have h2 : manyR n (l.drop (i + 1)) = ((l.drop (i + 1)).filter fun x => x.1 == n).length := rfl; omega, by have := HI.out; omega⟩, rfl⟩
    · have d0 : decide ((i : Int) < (L : Int)) = false := decide_eq_false (by omega)
      have hA := HI.out.2.1
      rw [List.drop_eq_nil_of_le (by omega)] at hA
      have hq := Aside0.mk (show (manyR n l) = q by rw [← hA]; rfl)
      clear hA HI
      go_wp2_with (fail)
      go_ret
      exact ⟨by rw [hq.out]; rfl, rfl⟩
end Go.Proofs.Ytpgfffibiogekaa.MS
