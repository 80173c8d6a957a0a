/- The walks of package line's hand-told functions. -/
import Derived.Test.YthkndchbgiimnaaDoorLineP
import Derived.Test.YthkndchbgiimnaaDoorBld2
import Derived.Test.YthkndchbgiimnaaDoorShelf
import Derived.Test.YthkndchbgiimnaaDoorTrim
import Derived.Test.YthkndchbgiimnaaDoorRepl
import Derived.Test.YthkndchbgiimnaaDoorWMore
set_option linter.unusedVariables false
set_option linter.unusedSimpArgs false
namespace Go.Proofs.YthkndchbgiimnaaDoor
open Go.RowKit Ba Go.Proofs.YthkndchbgiimnaaDoorW.PrintWords Go.Proofs.YthkndchbgiimnaaDoorW.PrintLast

theorem ib_no (l : List UInt8) (c : UInt8) (h : ∀ d ∈ l, d ≠ c) : Lib.indexByte l c = -1 := by
  induction l with
  | nil => rfl
  | cons d l ih =>
    have h1 : (d == c) = false := beq_eq_false_iff_ne.mpr (h d (List.mem_cons_self ..))
    have h2 := ih fun e he => h e (List.mem_cons_of_mem _ he)
    unfold Lib.indexByte
    rw [h1, h2]; rfl
theorem ib_at (p t : List UInt8) (c : UInt8) (h : ∀ d ∈ p, d ≠ c) : Lib.indexByte (p ++ c :: t) c = (p.length : Int) := by
  induction p with
  | nil =>
    rw [List.nil_append]
    unfold Lib.indexByte
    rw [beq_self_eq_true c]; rfl
  | cons d p ih =>
    have h1 : (d == c) = false := beq_eq_false_iff_ne.mpr (h d (List.mem_cons_self ..))
    have h2 := ih fun e he => h e (List.mem_cons_of_mem _ he)
    rw [List.cons_append]
    unfold Lib.indexByte
    rw [h1, h2]
    have h3 : ((p.length : Int) == -1) = false := beq_eq_false_iff_ne.mpr (by omega)
    rw [h3, List.length_cons]
    simp only [Bool.false_eq_true, if_false]; omega
/-- a text cut at a byte -/
theorem byte_find (c : UInt8) : ∀ l : List UInt8, (∀ d ∈ l, d ≠ c) ∨ ∃ p t, l = p ++ c :: t ∧ ∀ d ∈ p, d ≠ c
  | [] => .inl (by simp)
  | d :: l => by
    by_cases h : d = c
    · subst h; exact .inr ⟨[], l, rfl, by simp⟩
    · rcases byte_find c l with h1 | ⟨p, t, rfl, h2⟩
      · exact .inl fun e he => by
          rcases List.mem_cons.mp he with rfl | he
          · exact h
          · exact h1 e he
      · exact .inr ⟨d :: p, t, rfl, fun e he => by
          rcases List.mem_cons.mp he with rfl | he
          · exact h
          · exact h2 e he⟩
theorem S_take (s : ByteArray) (p t : List UInt8) (h : s.data.toList = p ++ t) : s.extract 0 p.length = S p := by
  apply ba_ext; rw [data_extract, data_S, h]; simp
theorem S_drop (s : ByteArray) (p t : List UInt8) (h : s.data.toList = p ++ t) : s.extract p.length s.size = S t := by
  apply ba_ext; rw [data_extract, data_S, size_len, h]; simp
theorem S_drop1 (s : ByteArray) (p t : List UInt8) (c : UInt8) (h : s.data.toList = p ++ c :: t) : s.extract (p.length + 1) s.size = S t := by
  have := S_drop s (p ++ [c]) t (by rw [h]; simp)
  simpa using this
theorem size_app (s : ByteArray) (p t : List UInt8) (h : s.data.toList = p ++ t) : s.size = p.length + t.length := by rw [size_len, h, List.length_append]
theorem S_size (l : List UInt8) : (S l).size = l.length := by rw [size_len, data_S]

theorem lcutNone (s : ByteArray) (c : UInt8) (w : World) (h : ∀ d ∈ s.data.toList, d ≠ c) :
    Calls Tryd.prog 59 #[.string s, .string ⟨#[c]⟩] w fun e w' => e = .returned (.tuple #[.string s, .string ⟨#[]⟩, .bool false]) ∧ ∃ n, w' = w.drewN n := by
  have hI := fun w => Tryd.stringslite_Index_one s c w
  rw [ib_no _ _ h] at hI
  obtain ⟨sep, hs⟩ : ∃ sep, (⟨#[c]⟩ : ByteArray) = sep := ⟨_, rfl⟩
  rw [hs] at hI ⊢
  clear h hs
  go_enter Tryd.func59, Tryd.ntmps59
  go_wp2_with (go_at_call 69; refine (hI _).mono ?_; rintro e w' ⟨rfl, rfl⟩)
  go_ret3
  exact ⟨rfl, 0, rfl⟩
theorem cutNone (s : ByteArray) (c : UInt8) (w : World) (h : ∀ d ∈ s.data.toList, d ≠ c) :
    Calls Tryd.prog 43 #[.string s, .string ⟨#[c]⟩] w fun e w' => e = .returned (.tuple #[.string s, .string ⟨#[]⟩, .bool false]) ∧ ∃ n, w' = w.drewN n := by
  have hc := lcutNone s c w h
  obtain ⟨sep, hs⟩ : ∃ sep, (⟨#[c]⟩ : ByteArray) = sep := ⟨_, rfl⟩
  rw [hs] at hc ⊢
  clear hs h
  go_enter Tryd.func43, Tryd.ntmps43
  go_wp2_with (go_at_call 59; refine hc.mono ?_; rintro e w' ⟨rfl, n, rfl⟩)
  go_ret3
  exact ⟨rfl, _, rfl⟩
theorem lcutSome (s : ByteArray) (c : UInt8) (p t : List UInt8) (w : World) (hs0 : s.size ≤ 1000000000000) (h : s.data.toList = p ++ c :: t) (hp : ∀ d ∈ p, d ≠ c) :
    Calls Tryd.prog 59 #[.string s, .string ⟨#[c]⟩] w fun e w' => e = .returned (.tuple #[.string (S p), .string (S t), .bool true]) ∧ ∃ n, w' = w.drewN n := by
  have hI := fun w => Tryd.stringslite_Index_one s c w
  rw [h, ib_at p t c hp] at hI
  obtain ⟨sep, hs⟩ : ∃ sep, (⟨#[c]⟩ : ByteArray) = sep := ⟨_, rfl⟩
  have hs1 : sep.size = 1 := by rw [← hs]; rfl
  rw [hs] at hI ⊢
  have e1 := Lib.hid (S_take s p (c :: t) h)
  have e2 := Lib.hid (S_drop1 s p t c h)
  have hz := size_app s p (c :: t) h
  rw [List.length_cons] at hz
  clear h hp hs
  have d0 : decide (0 ≤ (p.length : Int)) = true := decide_eq_true (by omega)
  have i1 : IntKind.i64.wrap ((p.length : Int) + 1) = ((p.length + 1 : Nat) : Int) := by rw [wrap_small _ (by omega) (by omega)]; omega
  have g1 : p.length ≤ s.size := by omega
  have g2 : p.length + 1 ≤ s.size := by omega
  clear hz
  go_enter Tryd.func59, Tryd.ntmps59
  go_wp2_with (go_at_call 69; refine (hI _).mono ?_; rintro e w' ⟨rfl, rfl⟩)
  go_quiet (fail)
  go_wp2
  go_ret3
  exact ⟨by rw [e1.out, e2.out]; rfl, _, rfl⟩

theorem cutSome (s : ByteArray) (c : UInt8) (p t : List UInt8) (w : World) (hs0 : s.size ≤ 1000000000000) (h : s.data.toList = p ++ c :: t) (hp : ∀ d ∈ p, d ≠ c) :
    Calls Tryd.prog 43 #[.string s, .string ⟨#[c]⟩] w fun e w' => e = .returned (.tuple #[.string (S p), .string (S t), .bool true]) ∧ ∃ n, w' = w.drewN n := by
  have hc := lcutSome s c p t w hs0 h hp
  obtain ⟨sep, hs⟩ : ∃ sep, (⟨#[c]⟩ : ByteArray) = sep := ⟨_, rfl⟩
  rw [hs] at hc ⊢
  clear hs
  go_enter Tryd.func43, Tryd.ntmps43
  go_wp2_with (go_at_call 59; refine hc.mono ?_; rintro e w' ⟨rfl, n, rfl⟩)
  go_ret3
  exact ⟨rfl, _, rfl⟩
theorem goesOnW (s : ByteArray) (w : World) (hs : s.size ≤ 1000000000) :
    Calls Tryd.prog 21 #[.string s] w fun e w' => e = .returned (.bool (LP.goes s.data.toList)) ∧ Below w.heap.size w w' := by
  have hT := trimRight s ⟨#[92]⟩ w (by omega) (by decide) (by decide) (by
    intro j b hj
    have hm := List.mem_of_getElem? hj
    have hl : (⟨#[92]⟩ : ByteArray).data.toList = [92] := rfl
    rw [hl, List.mem_singleton] at hm
    subst hm; decide)
  have e1 : (⟨#[92]⟩ : ByteArray).data.toList.contains = fun c => c == 92 := by
    show ([92] : List UInt8).contains = _
    funext x
    rw [List.contains_cons, List.contains_nil, Bool.or_false]
  rw [e1] at hT
  have hle : (LP.rtrim (fun c => c == 92) s.data.toList).length ≤ s.size := by
    unfold LP.rtrim
    rw [List.length_reverse, size_len]
    have := (List.dropWhile_suffix (p := fun c => c == (92 : UInt8)) (l := s.data.toList.reverse)).length_le
    rw [List.length_reverse] at this
    exact this
  obtain ⟨m, hm⟩ : ∃ m, (LP.rtrim (fun c => c == 92) s.data.toList).length = m := ⟨_, rfl⟩
  obtain ⟨t, ht⟩ : ∃ t, S (trimR (fun c => c == 92) s.data.toList) = t := ⟨_, rfl⟩
  have htz : t.size = m := by rw [← ht, S_size, ← hm]; rfl
  rw [ht] at hT
  have hg : Hid (LP.goes s.data.toList = ((s.size - m) % 2 == 1)) := Lib.hid (by unfold LP.goes; rw [hm, ← size_len])
  have hgz : ((s.size - m : Nat) : Int) = (s.size : Int) - (m : Int) := by omega
  rw [hm] at hle
  clear ht hm e1
  have i1 : IntKind.i64.wrap ((s.size : Int) - (m : Int)) = ((s.size - m : Nat) : Int) := by rw [wrap_small _ (by omega) (by omega)]; omega
  go_enter Tryd.func21, Tryd.ntmps21
  go_wp2_with (go_at_call 37; refine hT.mono ?_; rintro e w' ⟨rfl, hb⟩)
  have hb2 : (((s.size : Int) - (m : Int)) % 2 == 1) = LP.goes s.data.toList := by rw [hg.out, Bool.eq_iff_iff, beq_iff_eq, beq_iff_eq]; omega
  go_ret
  exact ⟨ret_bool hb2, hb⟩

namespace LP
theorem plainA_run : ∀ (p h s : List UInt8), (∀ c ∈ p, c ≠ 35) → plainA h (p ++ s) = plainA (h ++ p) s
  | [], h, s, _ => by simp
  | c :: p, h, s, hp => by
    rw [List.cons_append, plainA, if_neg (hp c (List.mem_cons_self ..)), plainA_run p _ s fun d hd => hp d (List.mem_cons_of_mem _ hd)]
    simp
theorem plainA_no (l : List UInt8) (h : ∀ c ∈ l, c ≠ 35) : plainA [] l = l := by
  have := plainA_run l [] [] h
  rw [List.append_nil, List.nil_append] at this
  rw [this]; rfl
theorem plainA_at (p q : List UInt8) (h : ∀ c ∈ p, c ≠ 35) : plainA [] (p ++ 35 :: q) = if goes p = true then p.dropLast ++ 35 :: plainA [] q else p := by
  rw [plainA_run p [] _ h, List.nil_append, plainA, if_pos rfl]
end LP

set_option maxHeartbeats 8000000 in
set_option maxRecDepth 1000000 in
theorem plainW (s : ByteArray) (w : World) (hs : s.size ≤ 100000000) :
    Calls Tryd.prog 24 #[.string s] w fun e w' => e = .returned (.string (S (LP.plainL s.data.toList))) ∧ Below w.heap.size w w' := by
  obtain ⟨B, hB⟩ : ∃ B, w.heap.size = B := ⟨_, rfl⟩
  have hac : ∀ (j : Nat) b, (⟨#[32, 9]⟩ : ByteArray).data.toList[j]? = some b → b.toNat < 128 := by
    intro j b hj
    have hm := List.mem_of_getElem? hj
    have hl : (⟨#[32, 9]⟩ : ByteArray).data.toList = [32, 9] := rfl
    rw [hl] at hm
    simp only [List.mem_cons, List.mem_nil_iff, or_false] at hm
    rcases hm with rfl | rfl <;> decide
  have hset : (⟨#[32, 9]⟩ : ByteArray).data.toList.contains = LP.bl := by
    show ([32, 9] : List UInt8).contains = _
    funext x
    simp [List.contains_cons, LP.bl]; rfl
  have hT : ∀ (l : List UInt8) (w : World), l.length ≤ 1000000000 → Calls Tryd.prog 37 #[.string ⟨l.toArray⟩, .string ⟨#[32, 9]⟩] w fun e w' => e = .returned (.string (S (LP.rtrim LP.bl l))) ∧ Below w.heap.size w w' := by
    intro l w hl
    have := trimRight (S l) ⟨#[32, 9]⟩ w (by rw [S_size]; omega) (by decide) (by decide) hac
    rw [hset, data_S] at this
    exact this
  clear hac hset
  go_enter Tryd.func24, Tryd.ntmps24
  go_wp2
  go_loopw [0] (fun v0 wr => ∃ (t : ByteArray) (acc : List UInt8), v0 = .string t ∧ t.size ≤ s.size ∧ Hid (LP.plainA [] s.data.toList = acc ++ LP.plainA [] t.data.toList) ∧ acc.length + t.size ≤ s.size ∧ Bld B B acc wr ∧ Below B w wr ∧ B ≤ wr.heap.size) (fun v0 _ => strLen v0)
  case atStart =>
    subst hB
    exact ⟨s, [], rfl, Nat.le_refl _, Lib.hid rfl, by simp, Bld.fresh w, (Below.refl _ _).alloc (Nat.le_refl _) _, by simp⟩
  case round =>
    obtain ⟨t, acc, rfl, hts, HQ, hta, hbld, hbel, hsz⟩ := hrel
    rcases byte_find 35 t.data.toList with hn | ⟨p, q, htd, hp⟩
    · have HP := Lib.hid (LP.plainA_no _ hn)
      have hC := fun w => cutNone t 35 w hn
      clear hn
      have htl : t.data.toList.length = t.size := (size_len t).symm
      go_wp2_with (go_at_call 43; refine (hC _).mono ?_; rintro e w1 ⟨rfl, n, rfl⟩)
      refine (Bld.writeString B B acc t _ (hbld.drewN n) (by omega) hsz).mono ?_
      rintro e w2 ⟨rfl, hbld2, hbel2, -⟩
      have hsz2 : B ≤ w2.heap.size := Nat.le_trans hsz hbel2.size
      have hbelA : Below B w w2 := (below_dr hbel n).trans hbel2
      clear hbel2
      go_wp2_with (fail)
      refine (Bld.string B B _ _ hbld2 hsz2).mono ?_
      rintro e w3 ⟨rfl, hbel3⟩
      have hsz3 : B ≤ w3.heap.size := Nat.le_trans hsz2 hbel3.size
      go_wp2_with (go_at_call 37; refine (hT _ _ (by rw [List.length_append]; omega)).mono ?_; rintro e w4 ⟨rfl, hbel4⟩)
      go_ret
      exact ⟨by unfold LP.plainL; rw [HQ.out, HP.out]; rfl, hB ▸ (hbelA.trans hbel3).trans (hbel4.mono hsz3)⟩
    · have hC := fun w => cutSome t 35 p q w (by omega) htd hp
      have hz := size_app t p (35 :: q) htd
      rw [List.length_cons] at hz
      have HP := Lib.hid (LP.plainA_at p q hp)
      have HD := Lib.hid htd
      clear htd hp
      have hSz : (S p).size = p.length := S_size p
      have hSq : (S q).size = q.length := S_size q
      have hSd := data_S p
      have hg := fun w => goesOnW (S p) w (by rw [S_size]; omega)
      rw [hSd] at hg
      cases hgo : LP.goes p with
      | false =>
        rw [hgo] at hg
        have HG := Lib.hid hgo
        clear hgo
        go_wp2_with (first | (go_at_call 43; refine (hC _).mono ?_; rintro e w1 ⟨rfl, n, rfl⟩) | (go_at_call 21; refine (hg _).mono ?_; rintro e w5 ⟨rfl, hb5⟩))
        have hbelA : Below B w w5 := (below_dr hbel n).trans (hb5.mono hsz)
        have hbld5 := (hbld.drewN n).below hb5
        have hsz5 : B ≤ w5.heap.size := Nat.le_trans hsz hb5.size
        refine (Bld.writeString B B acc (S p) _ hbld5 (by omega) hsz5).mono ?_
        rintro e w2 ⟨rfl, hbld2, hbel2, -⟩
        have hsz2 : B ≤ w2.heap.size := Nat.le_trans hsz5 hbel2.size
        have hbelB := hbelA.trans hbel2
        rw [hSd] at hbld2
        clear hbel2
        go_wp2_with (fail)
        refine (Bld.string B B _ _ hbld2 hsz2).mono ?_
        rintro e w3 ⟨rfl, hbel3⟩
        have hsz3 : B ≤ w3.heap.size := Nat.le_trans hsz2 hbel3.size
        go_wp2_with (go_at_call 37; refine (hT _ _ (by rw [List.length_append]; omega)).mono ?_; rintro e w4 ⟨rfl, hbel4⟩)
        go_ret
        exact ⟨by unfold LP.plainL; rw [HQ.out, HD.out, HP.out, HG.out]; rfl, hB ▸ (hbelB.trans hbel3).trans (hbel4.mono hsz3)⟩
      | true =>
        rw [hgo] at hg
        have hp1 : 1 ≤ p.length := by
          rcases List.eq_nil_or_concat p with rfl | ⟨p', d, rfl⟩
          · cases hgo
          · simp
        have HG := Lib.hid hgo
        clear hgo
        have i1 : IntKind.i64.wrap ((p.length : Int) - 1) = ((p.length - 1 : Nat) : Int) := by rw [wrap_small _ (by omega) (by omega)]; omega
        have g0 : (0 : Int) ≤ (p.length : Int) - 1 := by omega
        have g1 : (p.length : Int) - 1 ≤ (p.length : Int) := by omega
        have g2 : p.length - 1 ≤ p.length := by omega
        have hE : (S p).extract 0 (p.length - 1) = S p.dropLast := by
          apply ba_ext
          rw [data_extract, data_S, data_S, List.drop_zero, List.dropLast_eq_take, Nat.sub_zero]
        have hEd := data_S p.dropLast
        have hEs : (S p.dropLast).size = p.length - 1 := by rw [S_size, List.length_dropLast]
        go_wp2_with (first | (go_at_call 43; refine (hC _).mono ?_; rintro e w1 ⟨rfl, n, rfl⟩) | (go_at_call 21; refine (hg _).mono ?_; rintro e w5 ⟨rfl, hb5⟩))
        have hbelA : Below B w w5 := (below_dr hbel n).trans (hb5.mono hsz)
        have hbld5 := (hbld.drewN n).below hb5
        have hsz5 : B ≤ w5.heap.size := Nat.le_trans hsz hb5.size
        refine (Bld.writeString B B acc (S p.dropLast) _ hbld5 (by omega) hsz5).mono ?_
        rintro e w2 ⟨rfl, hbld2, hbel2, -⟩
        have hsz2 : B ≤ w2.heap.size := Nat.le_trans hsz5 hbel2.size
        have hbelB := hbelA.trans hbel2
        rw [hEd] at hbld2
        clear hbel2
        go_wp2_with (fail)
        refine (Bld.writeLit B B _ 35 35 rfl _ hbld2 (by rw [List.length_append, List.length_dropLast]; omega) hsz2).mono ?_
        rintro e w3 ⟨rfl, hbld3, hbel3, -⟩
        have hsz3 : B ≤ w3.heap.size := Nat.le_trans hsz2 hbel3.size
        go_wp2
        go_roundw
        case rel => exact ⟨S q, _, rfl, by rw [S_size]; omega, Lib.hid (by rw [HQ.out, HD.out, HP.out, HG.out, data_S]; simp), by rw [List.length_append, List.length_append, List.length_dropLast, S_size, List.length_singleton]; omega, hbld3, hbelB.trans hbel3, hsz3⟩
        case measure => simp [strLen, S_size]; omega

/-- a line as it is written -/
def wr1 (x : ByteArray × Int × Bool) : List UInt8 := (if x.2.2 = true then 9 :: x.1.data.toList else LP.replL x.1.data.toList) ++ [10]
def wrL (l : List (ByteArray × Int × Bool)) : List UInt8 := l.flatMap wr1
def wtot (l : List (ByteArray × Int × Bool)) : Nat := (l.map fun x => x.1.size + 2).sum
theorem wtot_cons (x : ByteArray × Int × Bool) (l : List (ByteArray × Int × Bool)) : wtot (x :: l) = x.1.size + 2 + wtot l := by simp [wtot]
theorem replL_len (l : List UInt8) : (LP.replL l).length ≤ 2 * l.length := by
  induction l with
  | nil => simp [LP.replL]
  | cons c l ih =>
    unfold LP.replL at ih ⊢
    rw [List.flatMap_cons, List.length_append, List.length_cons]
    split
    · simp only [List.length_cons, List.length_nil]; omega
    · simp only [List.length_cons, List.length_nil]; omega

set_option maxHeartbeats 8000000 in
set_option maxRecDepth 1000000 in
theorem writeW (A : Option Addr) (cap : Nat) (l : List (ByteArray × Int × Bool)) (w : World) (hl : wtot l ≤ 100000000)
    (hr : ∀ W', Below w.heap.size w W' → ∀ (i : Nat) (x : ByteArray × Int × Bool), l[i]? = some x → ∃ ad, A = some ad ∧ W'.cell? (ad.add (i * 3)) = some (.string x.1) ∧ W'.cell? ⟨(ad.add (i * 3)).block, (ad.add (i * 3)).off + 1, none⟩ = some (.int .i64 x.2.1) ∧ W'.cell? ⟨(ad.add (i * 3)).block, (ad.add (i * 3)).off + 2, none⟩ = some (.bool x.2.2)) :
    Calls Tryd.prog 12 #[.slice A l.length cap] w fun e w' => e = .returned (.string (S (wrL l))) ∧ Below w.heap.size w w' := by
  have HR := Lib.hid hr
  clear hr
  obtain ⟨B, hB⟩ : ∃ B, w.heap.size = B := ⟨_, rfl⟩
  have hlen : l.length ≤ 100000000 := by
    have : ∀ l : List (ByteArray × Int × Bool), l.length ≤ wtot l := by
      intro l
      induction l with
      | nil => simp [wtot]
      | cons s l ih => rw [wtot_cons, List.length_cons]; omega
    exact Nat.le_trans (this l) hl
  have hRA := fun (s : ByteArray) (w : World) (h : s.size ≤ 100000000) => replaceAll_one s 35 ⟨#[92, 35]⟩ w h (by decide) (by decide)
  go_enter Tryd.func12, Tryd.ntmps12
  go_wp2
  go_loopw [8] (fun v8 wr => ∃ (k : Nat) (acc : List UInt8), v8 = .int .i64 k ∧ k ≤ l.length ∧ Hid (wrL l = acc ++ wrL (l.drop k)) ∧ acc.length + 2 * wtot (l.drop k) ≤ 2 * wtot l ∧ Bld B B acc wr ∧ Below B w wr ∧ B ≤ wr.heap.size) (fun v8 _ => l.length - (intOf v8).toNat)
  case atStart =>
    subst hB
    exact ⟨0, [], rfl, Nat.zero_le _, Lib.hid rfl, by simp, Bld.fresh w, (Below.refl _ _).alloc (Nat.le_refl _) _, by simp⟩
  case round =>
    obtain ⟨k, acc, rfl, hk, HQ, hta, hbld, hbel, hsz⟩ := hrel
    by_cases hlt : k < l.length
    · have d0 : decide ((k : Int) < (l.length : Int)) = true := decide_eq_true (by omega)
      obtain ⟨ad, ea, hx0, hx1, hx2⟩ := HR.out wr (hB ▸ hbel) k l[k] (List.getElem?_eq_getElem hlt)
      cases ea
      have hd : l.drop k = l[k] :: l.drop (k + 1) := List.drop_eq_getElem_cons hlt
      rw [hd, wtot_cons] at hta
      have HD := Lib.hid hd
      clear hd
      generalize l[k] = x at hx0 hx1 hx2 hta HD
      obtain ⟨s, a, c⟩ := x
      simp only [] at hx0 hx1 hx2 hta
      have i1 : IntKind.i64.wrap ((k : Int) + 1) = (k : Int) + 1 := wrap_small _ (by omega) (by omega)
      have hss : s.data.toList.length = s.size := (size_len s).symm
      cases c with
      | true =>
        have hcat : ((⟨#[9]⟩ : ByteArray) ++ s).data.toList = 9 :: s.data.toList := by simp
        have hcz : ((⟨#[9]⟩ : ByteArray) ++ s).size = s.size + 1 := by rw [size_len, hcat, List.length_cons, hss]
        have hm1 : (9223372036854775807 < 1 + s.size) = False := eq_false (by omega)
        have hm2 : (9223372036854775807 < s.size + 1) = False := eq_false (by omega)
        have HC := Lib.hid hcat
        have HZ := Lib.hid hcz
        clear hcat hcz
        go_wp2_with (fail)
        refine (Bld.writeString B B acc ((⟨#[9]⟩ : ByteArray) ++ s) _ (hbld.below ((Below.refl _ _).alloc (Nat.le_refl _) _)) (by rw [HZ.out]; omega) (by simp; omega)).mono ?_
        rintro e w2 ⟨rfl, hbld2, hbel2, -⟩
        have hsz2 : B ≤ w2.heap.size := by have := hbel2.size; simp at this; omega
        have hbelA : Below B w w2 := (hbel.alloc hsz _).trans hbel2
        rw [HC.out] at hbld2
        clear hbel2
        go_wp2_with (fail)
        refine (Bld.writeLit B B _ 10 10 rfl _ hbld2 (by rw [List.length_append, List.length_cons]; omega) hsz2).mono ?_
        rintro e w3 ⟨rfl, hbld3, hbel3, -⟩
        have hsz3 : B ≤ w3.heap.size := Nat.le_trans hsz2 hbel3.size
        go_wp2
        go_roundw
        case rel => exact ⟨k + 1, _, by go_num, by omega, Lib.hid (by rw [HQ.out, HD.out]; simp [wrL, wr1]), by simp only [List.length_append, List.length_cons, List.length_nil]; omega, hbld3, hbelA.trans hbel3, hsz3⟩
        case measure => simp [intOf]; omega
      | false =>
        have hrl := replL_len s.data.toList
        have hRd : (S (repl 35 [92, 35] s.data.toList)).data.toList = LP.replL s.data.toList := data_S _
        have hRs : (S (repl 35 [92, 35] s.data.toList)).size = (LP.replL s.data.toList).length := by rw [size_len, hRd]
        obtain ⟨u, hu⟩ : ∃ u, S (repl 35 [92, 35] s.data.toList) = u := ⟨_, rfl⟩
        have hRA' : ∀ w, Calls Tryd.prog 28 #[.string s, .string ⟨#[35]⟩, .string ⟨#[92, 35]⟩] w fun e w' => e = .returned (.string u) ∧ Below w.heap.size w w' := fun w => by
          have := hRA s w (by omega)
          rw [show S (repl 35 (⟨#[92, 35]⟩ : ByteArray).data.toList s.data.toList) = u from hu] at this
          exact this
        rw [hu] at hRd hRs
        clear hu
        go_wp2_with (go_at_call 28; refine (hRA' _).mono ?_; rintro e w1 ⟨rfl, hb1⟩)
        have hb1' : Below wr.heap.size wr w1 := ((Below.refl _ _).alloc (Nat.le_refl _) _).trans (hb1.mono (by simp))
        have hsz1 : B ≤ w1.heap.size := Nat.le_trans hsz hb1'.size
        refine (Bld.writeString B B acc u _ (hbld.below hb1') (by omega) hsz1).mono ?_
        rintro e w2 ⟨rfl, hbld2, hbel2, -⟩
        have hsz2 : B ≤ w2.heap.size := Nat.le_trans hsz1 hbel2.size
        have hbelA : Below B w w2 := (hbel.trans (hb1'.mono hsz)).trans hbel2
        rw [hRd] at hbld2
        clear hbel2
        go_wp2_with (fail)
        refine (Bld.writeLit B B _ 10 10 rfl _ hbld2 (by rw [List.length_append]; omega) hsz2).mono ?_
        rintro e w3 ⟨rfl, hbld3, hbel3, -⟩
        have hsz3 : B ≤ w3.heap.size := Nat.le_trans hsz2 hbel3.size
        go_wp2
        go_roundw
        case rel => exact ⟨k + 1, _, by go_num, by omega, Lib.hid (by rw [HQ.out, HD.out]; simp [wrL, wr1]), by simp only [List.length_append, List.length_cons, List.length_nil]; omega, hbld3, hbelA.trans hbel3, hsz3⟩
        case measure => simp [intOf]; omega
    · have d0 : decide ((k : Int) < (l.length : Int)) = false := decide_eq_false (by omega)
      have HZ : Hid (l.drop k = []) := Lib.hid (List.drop_of_length_le (by omega))
      go_wp2_with (fail)
      refine (Bld.string B B _ _ hbld hsz).mono ?_
      rintro e w3 ⟨rfl, hbel4⟩
      go_wp2
      go_ret
      exact ⟨by rw [HQ.out, HZ.out]; simp [wrL]; rfl, hB ▸ hbel.trans hbel4⟩
end Go.Proofs.YthkndchbgiimnaaDoor
