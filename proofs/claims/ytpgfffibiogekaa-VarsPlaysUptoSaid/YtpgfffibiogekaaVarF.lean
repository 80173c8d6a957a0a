/- The calls of a set of variables turn its own maps alone: what lay elsewhere stays. -/
import Derived.Test.YtpgfffibiogekaaVarD
set_option linter.unusedVariables false
set_option linter.unusedSimpArgs false
namespace Go.Proofs.Ytpgfffibiogekaa.MS
open Go.RowKit Go.Proofs.YtpgfffibiogekaaW.PrintWords Go.Proofs.YtpgfffibiogekaaW.PrintLast Go.Proofs.YtpgfffibiogekaaW.PrintMore

/-- what lay is as it was, but for the set's maps -/
def Fr (base : Nat) (m : Nat → Nat) (w w' : World) : Prop := Below base w w' ∧ ∀ k, k < w.heap.size → (∀ i, i < 5 → k ≠ m i) → w'.heap[k]? = w.heap[k]?
theorem Fr.refl (base : Nat) (m : Nat → Nat) (w : World) : Fr base m w w := ⟨Below.refl _ _, fun _ _ _ => rfl⟩
theorem Fr.of {base : Nat} {m : Nat → Nat} {w w' : World} (hb : base ≤ w.heap.size) (h : Below w.heap.size w w') : Fr base m w w' := ⟨below_then (Below.refl _ _) hb h, fun k hk _ => h.block k hk⟩
theorem Fr.trans {base : Nat} {m : Nat → Nat} {a b c : World} (h : Fr base m a b) (k : Fr base m b c) : Fr base m a c :=
  ⟨h.1.trans k.1, fun j hj hm => (k.2 j (Nat.lt_of_lt_of_le hj h.1.size) hm).trans (h.2 j hj hm)⟩
theorem Fr.turn {w w' : World} {base g : Nat} {m : Nat → Nat} {D : Nat → DataW Unit} (h : SetAt w base g m D) {n : Nat} (hn : n < 5) (ht : w.mapTurned w' (m n)) : Fr base m w w' :=
  ⟨h.turned hn ht, fun k hk hm => ht.grown.block k hk (by simpa using hm n hn)⟩
/-- another set, whose blocks are others, stays -/
theorem SetAt.fr {w w' : World} {base base2 g2 : Nat} {m m2 : Nat → Nat} {D : Nat → DataW Unit} (h : SetAt w base2 g2 m2 D) (f : Fr base m w w') (hd : ∀ i, i < 5 → g2 ≠ m i ∧ ∀ j, j < 5 → m2 j ≠ m i) : SetAt w' base2 g2 m2 D := by
  refine ⟨?_, h.ne, h.ge, fun j hj => ?_, h.val, h.cnt⟩
  · rw [f.2 g2 (blk_lt h.blk) (fun i hi => (hd i hi).1)]; exact h.blk
  · obtain ⟨es, clock, h1, h2⟩ := h.own j hj
    exact ⟨es, clock, (f.2 (m2 j) (h.own j hj).lt (fun i hi => (hd i hi).2 j hj)).trans h1, h2⟩
set_option maxHeartbeats 8000000 in
set_option maxRecDepth 100000 in
theorem putF (w : World) (base g : Nat) (m : Nat → Nat) (D : Nat → DataW Unit) (z : Int) (s v : ByteArray) (h : SetAt w base g m D) (hs : s.size ≤ maxLen) (hv : v.size ≤ 1000000000) :
    Calls Try.prog 14 #[.pointer (some ⟨g, 0, none⟩), .int .i64 z, .string s, .string v] w fun e w' => e = .returned (.int .i64 (putE D z s v)) ∧ SetAt w' base g m (putD D z s v) ∧ Fr base m w w' := by
  have ho := fun w h => okW w base g m D h
  have HS := Aside0.mk h
  have hbl := h.base_le
  go_enter Try.func14, Try.ntmps14
  cases hz : isSc z with
  | false =>
    have eE : putE D z s v = 1 := by rw [putE, hz]; rfl
    go_wp2_with (first | (go_at_call 28; refine (ho _ HS.out).mono ?_; rintro e w1 ⟨rfl, rfl⟩) | (go_at_call 29; refine (isScopeW _ _).mono ?_; rintro e w1 ⟨rfl, rfl⟩))
    go_ret
    exact ⟨by rw [eE]; rfl, by rw [putD, eE, if_neg (by decide)]; exact HS.out, Fr.refl _ _ _⟩
  | true =>
    obtain ⟨n, rfl, hn1, hn⟩ := isSc_nat hz
    cases hr : rg s with
    | false =>
      have eE : putE D n s v = 1 := by rw [putE, hz, hr]; rfl
      go_wp2_with (first | (go_at_call 28; refine (ho _ HS.out).mono ?_; rintro e w1 ⟨rfl, rfl⟩) | (go_at_call 29; refine (isScopeW _ _).mono ?_; rintro e w1 ⟨rfl, rfl⟩) | (go_at_call 18; refine (rightW _ _).mono ?_; rintro e w1 ⟨rfl, hb1⟩))
      go_ret
      exact ⟨by rw [eE]; rfl, by rw [putD, eE, if_neg (by decide)]; exact HS.out.below hb1, Fr.of hbl hb1⟩
    | true =>
      go_wp2_with (first | (go_at_call 28; refine (ho _ HS.out).mono ?_; rintro e w1 ⟨rfl, rfl⟩) | (go_at_call 29; refine (isScopeW _ _).mono ?_; rintro e w1 ⟨rfl, rfl⟩) | fail)
      refine (rightW _ _).mono ?_
      rintro e w2 ⟨rfl, hb2⟩
      have hS2 := HS.out.below hb2
      have hB2 := (Fr.of hbl hb2 : Fr base m w1 w2)
      have c := hS2.cell n hn
      have hl := (hS2.own n hn).len 3
      have ht := (hS2.own n hn).tidy
      have hcn := hS2.cnt n hn
      rw [hr]
      clear hb2 HS ho hbl
      by_cases hvb : v.size > 65536
      · have dv : decide ((65536 : Int) < (v.size : Int)) = true := decide_eq_true (by omega)
        have eE : putE D n s v = 5 := by rw [putE, hz, hr, if_pos (by rfl), if_pos (.inl hvb)]
        go_wp2_with (first | (at_lookup; refine wpList_look _ rfl _ _ 52 rfl rfl (m n) (D n) s rfl (hS2.own n hn) rfl hs ?_))
        go_ret
        exact ⟨by rw [eE]; rfl, by rw [putD, eE, if_neg (by decide)]; exact hS2, hB2⟩
      · have dv : decide ((65536 : Int) < (v.size : Int)) = false := decide_eq_false (by omega)
        cases hL : look (D n) s with
        | some u =>
          have eE : putE D n s v = 0 := by rw [putE, hz, hr, if_pos (by rfl), Int.toNat_natCast, if_neg (by rw [hL]; rintro (e | ⟨e, -⟩); exact hvb e; cases e)]
          go_wp2_with (first | (at_lookup; refine wpList_look _ rfl _ _ 52 rfl rfl (m n) (D n) s rfl (hS2.own n hn) rfl hs ?_) | (at_mapUpdate; refine wpList_store _ rfl _ _ _ 52 rfl rfl (m n) (D n) s v rfl (hS2.own n hn) (Nat.lt_of_le_of_lt hcn (by decide)) rfl rfl hs (Nat.le_trans hv (by decide)) ?_; intro w3 hM3 hT3))
          go_ret
          refine ⟨by rw [eE]; rfl, ?_, hB2.trans (Fr.turn hS2 hn hT3)⟩
          rw [putD, eE, if_pos rfl, Int.toNat_natCast]
          exact hS2.turn hn hM3 hT3 (fun t u hu => by
            rw [look_put _ ht.isMap] at hu
            split at hu
            · cases hu; omega
            · exact hS2.val n t u hn hu) (by rw [size_put _ ht, hL]; simp only [Option.isSome_none, Option.isSome_some, if_true, Bool.false_eq_true, if_false]; omega)
        | none =>
          by_cases hcb : 1024 ≤ Maps.size (D n)
          · have dc : decide ((1024 : Int) ≤ (Maps.size (D n) : Int)) = true := decide_eq_true (by omega)
            have eE : putE D n s v = 5 := by rw [putE, hz, hr, if_pos (by rfl), Int.toNat_natCast, if_pos (.inr ⟨hL, hcb⟩)]
            go_wp2_with (first | (at_lookup; refine wpList_look _ rfl _ _ 52 rfl rfl (m n) (D n) s rfl (hS2.own n hn) rfl hs ?_))
            go_ret
            exact ⟨by rw [eE]; rfl, by rw [putD, eE, if_neg (by decide)]; exact hS2, hB2⟩
          · have dc : decide ((1024 : Int) ≤ (Maps.size (D n) : Int)) = false := decide_eq_false (by omega)
            have eE : putE D n s v = 0 := by rw [putE, hz, hr, if_pos (by rfl), Int.toNat_natCast, if_neg (by rintro (e | ⟨-, e⟩); exact hvb e; exact hcb e)]
            go_wp2_with (first | (at_lookup; refine wpList_look _ rfl _ _ 52 rfl rfl (m n) (D n) s rfl (hS2.own n hn) rfl hs ?_) | (at_mapUpdate; refine wpList_store _ rfl _ _ _ 52 rfl rfl (m n) (D n) s v rfl (hS2.own n hn) (Nat.lt_of_le_of_lt hcn (by decide)) rfl rfl hs (Nat.le_trans hv (by decide)) ?_; intro w3 hM3 hT3))
            go_ret
            refine ⟨by rw [eE]; rfl, ?_, hB2.trans (Fr.turn hS2 hn hT3)⟩
            rw [putD, eE, if_pos rfl, Int.toNat_natCast]
            exact hS2.turn hn hM3 hT3 (fun t u hu => by
              rw [look_put _ ht.isMap] at hu
              split at hu
              · cases hu; omega
              · exact hS2.val n t u hn hu) (by rw [size_put _ ht, hL]; simp only [Option.isSome_none, Option.isSome_some, if_true, Bool.false_eq_true, if_false]; omega)
set_option maxHeartbeats 8000000 in
set_option maxRecDepth 100000 in
theorem dropF (w : World) (base g : Nat) (m : Nat → Nat) (D : Nat → DataW Unit) (z : Int) (s : ByteArray) (h : SetAt w base g m D) (hs : s.size ≤ maxLen) :
    Calls Try.prog 12 #[.pointer (some ⟨g, 0, none⟩), .int .i64 z, .string s] w fun e w' => e = .returned (.int .i64 (dropE D z s)) ∧ SetAt w' base g m (dropD D z s) ∧ Fr base m w w' := by
  have ho := fun w h => okW w base g m D h
  have HS := Aside0.mk h
  go_enter Try.func12, Try.ntmps12
  cases hz : isSc z with
  | false =>
    have eE : dropE D z s = 1 := by rw [dropE, hz]; rfl
    go_wp2_with (first | (go_at_call 28; refine (ho _ HS.out).mono ?_; rintro e w1 ⟨rfl, rfl⟩) | (go_at_call 29; refine (isScopeW _ _).mono ?_; rintro e w1 ⟨rfl, rfl⟩))
    go_ret
    exact ⟨by rw [eE]; rfl, by rw [dropD, eE, if_neg (by decide)]; exact HS.out, Fr.refl _ _ _⟩
  | true =>
    obtain ⟨n, rfl, hn1, hn⟩ := isSc_nat hz
    have c := h.cell n hn
    have hS2 := h
    cases hL : look (D n) s with
    | none =>
      have eE : dropE D n s = 6 := by rw [dropE, hz, if_pos rfl, Int.toNat_natCast, if_pos hL]
      have eI : inSc D n s = none := by rw [inSc, hz, if_pos rfl, Int.toNat_natCast, hL]
      go_wp2_with (first | (go_at_call 28; refine (ho _ HS.out).mono ?_; rintro e w1 ⟨rfl, rfl⟩) | (go_at_call 29; refine (isScopeW _ _).mono ?_; rintro e w1 ⟨rfl, rfl⟩) | (go_at_call 15; refine (inW _ base g m D n s HS.out hs).mono ?_; rw [eI]; rintro e w1 ⟨rfl, rfl⟩))
      go_ret
      exact ⟨by rw [eE]; rfl, by rw [dropD, eE, if_neg (by decide)]; exact HS.out, Fr.refl _ _ _⟩
    | some u =>
      have eE : dropE D n s = 0 := by rw [dropE, hz, if_pos rfl, Int.toNat_natCast, if_neg (by rw [hL]; simp)]
      have eI : inSc D n s = some u := by rw [inSc, hz, if_pos rfl, Int.toNat_natCast, hL]
      go_wp2_with (first | (go_at_call 28; refine (ho _ HS.out).mono ?_; rintro e w1 ⟨rfl, rfl⟩) | (go_at_call 29; refine (isScopeW _ _).mono ?_; rintro e w1 ⟨rfl, rfl⟩) | (go_at_call 15; refine (inW _ base g m D n s HS.out hs).mono ?_; rw [eI]; rintro e w1 ⟨rfl, rfl⟩) | (at_delete; refine wpList_drop _ rfl _ _ 52 9 rfl rfl rfl (m n) (D n) s rfl (HS.out.own n hn) rfl hs ?_; intro w3 hM3 hT3))
      go_ret
      refine ⟨by rw [eE]; rfl, ?_, Fr.turn hS2 hn hT3⟩
      rw [dropD, eE, if_pos rfl, Int.toNat_natCast]
      exact hS2.turn hn hM3 hT3 (fun t u hu => by
        rw [look_del] at hu
        split at hu
        · cases hu
        · exact hS2.val n t u hn hu) (by
          have h1 := size_del (D n) (hS2.own n hn).tidy s
          have h2 := hS2.cnt n hn
          omega)
set_option maxHeartbeats 8000000 in
set_option maxRecDepth 100000 in
theorem clearF (w : World) (base g : Nat) (m : Nat → Nat) (D : Nat → DataW Unit) (z : Int) (h : SetAt w base g m D) :
    Calls Try.prog 17 #[.pointer (some ⟨g, 0, none⟩), .int .i64 z] w fun e w' => e = .returned (.int .i64 (clearN D z)) ∧ SetAt w' base g m (clearD D z) ∧ Fr base m w w' := by
  have ho := fun w h => okW w base g m D h
  have HS := Aside0.mk h
  go_enter Try.func17, Try.ntmps17
  cases hz : isSc z with
  | false =>
    go_wp2_with (first | (go_at_call 28; refine (ho _ HS.out).mono ?_; rintro e w1 ⟨rfl, rfl⟩) | (go_at_call 29; refine (isScopeW _ _).mono ?_; rintro e w1 ⟨rfl, rfl⟩))
    go_ret
    exact ⟨by rw [clearN, hz]; rfl, by rw [clearD, hz, if_neg (by simp)]; exact HS.out, Fr.refl _ _ _⟩
  | true =>
    obtain ⟨n, rfl, hn1, hn⟩ := isSc_nat hz
    have c := h.cell n hn
    have hS2 := h
    have hl := (h.own n hn).len 3
    obtain ⟨w3, hrun, hM3, hT3⟩ := (h.own n hn).clear 0
    go_wp2_with (first | (go_at_call 28; refine (ho _ HS.out).mono ?_; rintro e w1 ⟨rfl, rfl⟩) | (go_at_call 29; refine (isScopeW _ _).mono ?_; rintro e w1 ⟨rfl, rfl⟩))
    go_ret
    refine ⟨by rw [clearN, hz, if_pos rfl, Int.toNat_natCast]; rfl, ?_, Fr.turn hS2 hn hT3⟩
    rw [clearD, hz, if_pos rfl, Int.toNat_natCast]
    exact hS2.turn hn hM3 hT3 (fun t u hu => by rw [look_nil] at hu; cases hu) (by simp [Maps.size])
set_option maxHeartbeats 8000000 in
set_option maxRecDepth 100000 in
theorem addF (w : World) (base g : Nat) (m : Nat → Nat) (D : Nat → DataW Unit) (z : Int) (s v : ByteArray) (h : SetAt w base g m D) (hs : s.size ≤ maxLen) (hv : v.size ≤ 100000000) :
    Calls Try.prog 26 #[.pointer (some ⟨g, 0, none⟩), .int .i64 z, .string s, .string v] w fun e w' => e = .returned (.int .i64 (putE D z s (addV D z s v))) ∧ SetAt w' base g m (putD D z s (addV D z s v)) ∧ Fr base m w w' := by
  have HS := Aside0.mk h
  go_enter Try.func26, Try.ntmps26
  cases hL : inSc D z s with
  | none =>
    have eV : addV D z s v = v := by rw [addV, hL]
    rw [eV]
    go_wp2_with (first | (go_at_call 15; refine (inW _ base g m D z s HS.out hs).mono ?_; rw [hL]; rintro e w1 ⟨rfl, rfl⟩) | (go_at_call 14; refine (putF _ base g m D z s v HS.out hs (by omega)).mono ?_; rintro e w2 ⟨rfl, hS2, hB2⟩))
    go_ret
    exact ⟨rfl, hS2, hB2⟩
  | some o =>
    have ho := inSc_le h hL
    have e1 : (o ++ (⟨#[32]⟩ : ByteArray)).size = o.size + 1 := by rw [ByteArray.size_append]; rfl
    have e2 : ((o ++ (⟨#[32]⟩ : ByteArray)) ++ v).size = o.size + 1 + v.size := by rw [ByteArray.size_append, e1]
    have eV : addV D z s v = (o ++ (⟨#[32]⟩ : ByteArray)) ++ v := by rw [addV, hL]
    rw [eV]
    go_wp2_with (first | (go_at_call 15; refine (inW _ base g m D z s HS.out hs).mono ?_; rw [hL]; rintro e w1 ⟨rfl, rfl⟩) | (go_at_call 14; refine (putF _ base g m D z s ((o ++ (⟨#[32]⟩ : ByteArray)) ++ v) HS.out hs (by omega)).mono ?_; rintro e w2 ⟨rfl, hS2, hB2⟩))
    all_goals
      go_ret
      exact ⟨rfl, hS2, hB2⟩
set_option maxHeartbeats 8000000 in
set_option maxRecDepth 100000 in
theorem defF (w : World) (base g : Nat) (m : Nat → Nat) (D : Nat → DataW Unit) (z : Int) (s v : ByteArray) (h : SetAt w base g m D) (hs : s.size ≤ maxLen) (hv : v.size ≤ 100000000) :
    Calls Try.prog 27 #[.pointer (some ⟨g, 0, none⟩), .int .i64 z, .string s, .string v] w fun e w' => e = .returned (.int .i64 (defE D z s v)) ∧ SetAt w' base g m (defD D z s v) ∧ Fr base m w w' := by
  have HS := Aside0.mk h
  go_enter Try.func27, Try.ntmps27
  cases hg : (getV D s).isSome with
  | false =>
    have eE : defE D z s v = putE D z s v := by rw [defE, hg]; rfl
    have eD : defD D z s v = putD D z s v := by rw [defD, hg]; rfl
    rw [eE, eD]
    go_wp2_with (first | (go_at_call 13; refine (getW _ base g m D s HS.out hs).mono ?_; rw [hg]; rintro e w1 ⟨rfl, rfl⟩) | (go_at_call 14; refine (putF _ base g m D z s v HS.out hs (by omega)).mono ?_; rintro e w2 ⟨rfl, hS2, hB2⟩))
    go_ret
    exact ⟨rfl, hS2, hB2⟩
  | true =>
    cases hz : isSc z with
    | false =>
      have eE : defE D z s v = putE D z s v := by rw [defE, hg, hz]; rfl
      have eD : defD D z s v = putD D z s v := by rw [defD, hg, hz]; rfl
      rw [eE, eD]
      go_wp2_with (first | (go_at_call 13; refine (getW _ base g m D s HS.out hs).mono ?_; rw [hg]; rintro e w1 ⟨rfl, rfl⟩) | (go_at_call 29; refine (isScopeW z _).mono ?_; rw [hz]; rintro e w1 ⟨rfl, rfl⟩) | (go_at_call 14; refine (putF _ base g m D z s v HS.out hs (by omega)).mono ?_; rintro e w2 ⟨rfl, hS2, hB2⟩))
      go_ret
      exact ⟨rfl, hS2, hB2⟩
    | true =>
      have eE : defE D z s v = 0 := by rw [defE, hg, hz]; rfl
      have eD : defD D z s v = D := by rw [defD, hg, hz]; rfl
      rw [eE, eD]
      go_wp2_with (first | (go_at_call 13; refine (getW _ base g m D s HS.out hs).mono ?_; rw [hg]; rintro e w1 ⟨rfl, rfl⟩) | (go_at_call 29; refine (isScopeW z _).mono ?_; rw [hz]; rintro e w1 ⟨rfl, rfl⟩))
      go_ret
      exact ⟨rfl, HS.out, Fr.refl _ _ _⟩
set_option maxHeartbeats 8000000 in
set_option maxRecDepth 100000 in
theorem doesF (w : World) (base g : Nat) (m : Nat → Nat) (D : Nat → DataW Unit) (a : Ac) (h : SetAt w base g m D) (hs : a.s.size ≤ maxLen) (hv : a.v.size ≤ 100000000) (hk : 0 ≤ a.k ∧ a.k < 256) :
    Calls Try.prog 11 #[.pointer (some ⟨g, 0, none⟩), actV a] w fun e w' => e = .returned (.int .i64 (doE D a)) ∧ SetAt w' base g m (doD D a) ∧ Fr base m w w' := by
  have hu28 := Try.underlying28
  have HS := Aside0.mk h
  have hbl := h.base_le
  unfold actV
  go_enter Try.func11, Try.ntmps11
  go_wp2_with (first
    | ((with_reducible refine gate_dst (N := 3) rfl ?_); (try (refine gate_guard (by rfl) ?_; dsimp only)); refine box_event ?hg (N := 3) ?hd (cs := #[.int .u8 a.k, .int .i64 a.z, .string a.s, .string a.v]) (t := 28) ?hr ?_; (case hd => rfl); (case hg => rfl); (case hr => first | (go_simp; done) | (go_simp; rfl)); intro b3 e3 w3 hb3 hl3; have hS3 := HS.out.below hl3; have hB3 := (Fr.of hbl hl3 : Fr base m w w3); have x0 : w3.cell? ⟨b3, 0, none⟩ = some (.int .u8 a.k) := (blk_cell hb3 0).trans rfl; have x1 : w3.cell? ⟨b3, 1, none⟩ = some (.int .i64 a.z) := (blk_cell hb3 1).trans rfl; have x2 : w3.cell? ⟨b3, 2, none⟩ = some (.string a.s) := (blk_cell hb3 2).trans rfl; have x3 : w3.cell? ⟨b3, 3, none⟩ = some (.string a.v) := (blk_cell hb3 3).trans rfl; clear e3 hb3 hl3)
    | fail)
  · have h0 : (a.k % 5 == 0) = true := by assumption
    have eE : doE D a = putE D a.z a.s a.v := by rw [doE, if_pos h0]
    have eD : doD D a = putD D a.z a.s a.v := by rw [doD, if_pos h0]
    refine (putF _ base g m D a.z a.s a.v hS3 hs (by omega)).mono ?_
    rintro e w4 ⟨rfl, hS4, hB4⟩
    go_wp2_with (fail)
    go_ret
    exact ⟨by rw [eE]; rfl, by rw [eD]; exact hS4, hB3.trans hB4⟩
  · have h0 : (a.k % 5 == 0) = false := by assumption
    have h1 : (a.k % 5 == 1) = true := by assumption
    have eE : doE D a = putE D a.z a.s (addV D a.z a.s a.v) := by rw [doE, if_neg (by rw [h0]; simp), if_pos h1]
    have eD : doD D a = putD D a.z a.s (addV D a.z a.s a.v) := by rw [doD, if_neg (by rw [h0]; simp), if_pos h1]
    refine (addF _ base g m D a.z a.s a.v hS3 hs hv).mono ?_
    rintro e w4 ⟨rfl, hS4, hB4⟩
    go_wp2_with (fail)
    go_ret
    exact ⟨by rw [eE]; rfl, by rw [eD]; exact hS4, hB3.trans hB4⟩
  · have h0 : (a.k % 5 == 0) = false := by assumption
    have h1 : (a.k % 5 == 1) = false := by assumption
    have h2 : (a.k % 5 == 2) = true := by assumption
    have eE : doE D a = defE D a.z a.s a.v := by rw [doE, if_neg (by rw [h0]; simp), if_neg (by rw [h1]; simp), if_pos h2]
    have eD : doD D a = defD D a.z a.s a.v := by rw [doD, if_neg (by rw [h0]; simp), if_neg (by rw [h1]; simp), if_pos h2]
    refine (defF _ base g m D a.z a.s a.v hS3 hs hv).mono ?_
    rintro e w4 ⟨rfl, hS4, hB4⟩
    go_wp2_with (fail)
    go_ret
    exact ⟨by rw [eE]; rfl, by rw [eD]; exact hS4, hB3.trans hB4⟩
  · have h0 : (a.k % 5 == 0) = false := by assumption
    have h1 : (a.k % 5 == 1) = false := by assumption
    have h2 : (a.k % 5 == 2) = false := by assumption
    have h3 : (a.k % 5 == 3) = true := by assumption
    have eE : doE D a = dropE D a.z a.s := by rw [doE, if_neg (by rw [h0]; simp), if_neg (by rw [h1]; simp), if_neg (by rw [h2]; simp), if_pos h3]
    have eD : doD D a = dropD D a.z a.s := by rw [doD, if_neg (by rw [h0]; simp), if_neg (by rw [h1]; simp), if_neg (by rw [h2]; simp), if_pos h3]
    refine (dropF _ base g m D a.z a.s hS3 hs).mono ?_
    rintro e w4 ⟨rfl, hS4, hB4⟩
    go_wp2_with (fail)
    go_ret
    exact ⟨by rw [eE]; rfl, by rw [eD]; exact hS4, hB3.trans hB4⟩
  · have h0 : (a.k % 5 == 0) = false := by assumption
    have h1 : (a.k % 5 == 1) = false := by assumption
    have h2 : (a.k % 5 == 2) = false := by assumption
    have h3 : (a.k % 5 == 3) = false := by assumption
    have eE : doE D a = 0 := by rw [doE, if_neg (by rw [h0]; simp), if_neg (by rw [h1]; simp), if_neg (by rw [h2]; simp), if_neg (by rw [h3]; simp)]
    have eD : doD D a = clearD D a.z := by rw [doD, if_neg (by rw [h0]; simp), if_neg (by rw [h1]; simp), if_neg (by rw [h2]; simp), if_neg (by rw [h3]; simp)]
    refine (clearF _ base g m D a.z hS3).mono ?_
    rintro e w4 ⟨rfl, hS4, hB4⟩
    go_wp2_with (fail)
    go_ret
    exact ⟨by rw [eE]; rfl, by rw [eD]; exact hS4, hB3.trans hB4⟩

end Go.Proofs.Ytpgfffibiogekaa.MS
