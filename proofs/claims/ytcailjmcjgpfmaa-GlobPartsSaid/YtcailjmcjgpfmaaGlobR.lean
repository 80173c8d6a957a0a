/- walks: the document's set, in, first -/
import Derived.Test.YtcailjmcjgpfmaaGlobW4
import Derived.Test.YtcailjmcjgpfmaaWalk
set_option linter.unusedVariables false
namespace Go.Proofs.Ytcailjmcjgpfmaa
open Go.RowKit Ba

theorem ib_hit {l : List UInt8} {c : UInt8} : ∀ {m : Nat}, (∀ j, j < m → l[j]? ≠ some c) → l[m]? = some c → Lib.indexByte l c = m := by
  induction l with
  | nil => intro m _ h; simp at h
  | cons b l ih =>
    intro m hn hm
    cases m with
    | zero => simp at hm; subst hm; simp [Lib.indexByte]
    | succ m =>
      have hb : (b == c) = false := beq_eq_false_iff_ne.mpr (fun e => hn 0 (by omega) (by simp [e]))
      have := ih (m := m) (fun j hj => by have := hn (j + 1) (by omega); simpa using this) (by simpa using hm)
      unfold Lib.indexByte
      rw [hb, this]
      simp
theorem ib_none {l : List UInt8} {c : UInt8} (h : ∀ j : Nat, l[j]? ≠ some c) : Lib.indexByte l c = -1 := by
  have h1 := ib_ge l c
  by_cases h2 : Lib.indexByte l c = -1
  · exact h2
  · exfalso
    obtain ⟨o, ho⟩ : ∃ o : Nat, Lib.indexByte l c = o := ⟨(Lib.indexByte l c).toNat, by omega⟩
    exact h _ (Lib.indexByte_some ho).1

theorem neg_a {x : UInt8} (h : ((x.toNat : Int) == 33) = true) : GP.neg x = true := by rw [toNat_eq (k := 33) (by omega) h]; rfl
theorem neg_b {x : UInt8} (h : ((x.toNat : Int) == 94) = true) : GP.neg x = true := by rw [toNat_eq (k := 94) (by omega) h]; rfl
theorem neg_c {x : UInt8} (h : ((x.toNat : Int) == 33) = false) (h' : ((x.toNat : Int) == 94) = false) : GP.neg x = false := by
  have a := toNat_ne (k := 33) (by omega) h
  have b := toNat_ne (k := 94) (by omega) h'
  have a' : (x == 33) = false := beq_eq_false_iff_ne.mpr a
  have b' : (x == 94) = false := beq_eq_false_iff_ne.mpr b
  unfold GP.neg; rw [a', b']; rfl

/-- where the things of a set begin -/
def Lo (p : ByteArray) (k : Nat) : Prop := (1 < p.size ∧ GP.neg (p.data.toList.getD 1 0) = true ∧ k = 3) ∨ (¬ (1 < p.size ∧ GP.neg (p.data.toList.getD 1 0) = true) ∧ k = 2)
theorem Lo.a {p : ByteArray} (h : 1 < p.size) (hn : GP.neg (p[1]) = true) : Lo p 3 := .inl ⟨h, by rw [getD_get p 1 h]; exact hn, rfl⟩
theorem Lo.b {p : ByteArray} (h : 1 < p.size) (hn : GP.neg (p[1]) = false) : Lo p 2 := .inr ⟨fun ⟨_, h2⟩ => absurd h2 (by rw [getD_get p 1 h, hn]; exact Bool.false_ne_true), rfl⟩
theorem Lo.c {p : ByteArray} (h : ¬ 1 < p.size) : Lo p 2 := .inr ⟨fun ⟨h1, _⟩ => h h1, rfl⟩

theorem lo_hit {p : ByteArray} {lo k : Nat} (hlo : Lo p lo) (hk : k < p.size) (hle : lo ≤ k) (hn : ∀ j, lo ≤ j → j < k → p.data.toList[j]? ≠ some 93) (h : ((p[k].toNat : Int) == 93) = true) : GP.brk p.data.toList = k + 1 := by
  have e : p[k] = 93 := toNat_eq (k := 93) (by omega) h
  have hi : Lib.indexByte (p.data.toList.drop lo) 93 = (k - lo : Nat) := by
    apply ib_hit
    · intro j hj; rw [List.getElem?_drop]; exact hn _ (by omega) (by omega)
    · rw [List.getElem?_drop, show lo + (k - lo) = k by omega, data_get? p k hk, e]
  rw [brk_val p lo hlo, if_neg (by omega), List.take_of_length_le (by rw [List.length_drop, ← size_len]; exact Nat.le_refl _), hi, if_neg (by omega)]
  omega
theorem lo_none {p : ByteArray} {lo k : Nat} (hlo : Lo p lo) (hk : ¬ k < p.size) (hn : ∀ j, lo ≤ j → j < k → p.data.toList[j]? ≠ some 93) : GP.brk p.data.toList = 0 := by
  rw [brk_val p lo hlo]
  split
  · rfl
  · rw [List.take_of_length_le (by rw [List.length_drop, ← size_len]; exact Nat.le_refl _), ib_none, if_pos (by omega)]
    intro j
    rw [List.getElem?_drop]
    by_cases h : lo + j < k
    · exact hn _ (by omega) h
    · rw [List.getElem?_eq_none (by rw [← size_len]; omega)]; simp

/-- what the document's 'set' answers -/
def setR (p : List UInt8) : Int := if GP.brk p = 0 then -1 else GP.brk p

set_option maxHeartbeats 2000000 in
theorem rset (p : ByteArray) (w : World) (hp : p.size ≤ 140737488355328) :
    Calls Try.prog 28 #[.string p] w fun e w' => e = .returned (.int .i64 (setR p.data.toList)) ∧ ∃ n, w' = w.drewN n := by
  have HS := Lib.hid (size_len p)
  by_cases h1 : 1 < p.size
  · obtain ⟨x, hx⟩ : ∃ x, p[1]'h1 = x := ⟨_, rfl⟩
    by_cases a33 : (x.toNat : Int) = 33
    · have q33 : ((x.toNat : Int) == 33) = true := beq_iff_eq.mpr a33
      have HL : Hid (Lo p 3) := Lib.hid (Lo.a h1 (by rw [hx]; exact neg_a q33))
      go_enter Try.func28, Try.ntmps28
      go_wp2
      go_loop [4] (fun v => ∃ k : Nat, 3 ≤ k ∧ v = .int .i64 k ∧ ∀ j, 3 ≤ j → j < k → p.data.toList[j]? ≠ some 93) (fun v => p.size - (intOf v).toNat)
      case atStart => exact ⟨3, by omega, rfl, fun j h h' => by omega⟩
      case round =>
        obtain ⟨k, hk, rfl, hn⟩ := hrel
        have HN := Lib.hid hn
        clear hn
        by_cases hlt : k < p.size
        · go_wp2
          · go_ret
            exact ⟨ret_int (by unfold setR; rw [lo_hit HL.out hlt hk HN.out ‹_›, if_neg (by omega)]; omega), 0, rfl⟩
          · go_round
            case rel =>
              refine ⟨k + 1, by omega, by go_num, fun j h h' => ?_⟩
              by_cases hj : j < k
              · exact HN.out j h hj
              · obtain rfl : j = k := by omega
                rw [data_get? p j hlt]
                have := toNat_ne (k := 93) (by omega) (‹((p[j].toNat : Int) == 93) = false›)
                intro e; exact this (Option.some.inj e)
            case measure => simp [intOf]; omega
        · go_wp2
          go_ret
          exact ⟨ret_int (by unfold setR; rw [lo_none HL.out hlt HN.out, if_pos rfl]), 0, rfl⟩
    · have q33 : ((x.toNat : Int) == 33) = false := beq_eq_false_iff_ne.mpr a33
      by_cases a94 : (x.toNat : Int) = 94
      · have q94 : ((x.toNat : Int) == 94) = true := beq_iff_eq.mpr a94
        have HL : Hid (Lo p 3) := Lib.hid (Lo.a h1 (by rw [hx]; exact neg_b q94))
        go_enter Try.func28, Try.ntmps28
        go_wp2
        go_loop [4] (fun v => ∃ k : Nat, 3 ≤ k ∧ v = .int .i64 k ∧ ∀ j, 3 ≤ j → j < k → p.data.toList[j]? ≠ some 93) (fun v => p.size - (intOf v).toNat)
        case atStart => exact ⟨3, by omega, rfl, fun j h h' => by omega⟩
        case round =>
          obtain ⟨k, hk, rfl, hn⟩ := hrel
          have HN := Lib.hid hn
          clear hn
          by_cases hlt : k < p.size
          · go_wp2
            · go_ret
              exact ⟨ret_int (by unfold setR; rw [lo_hit HL.out hlt hk HN.out ‹_›, if_neg (by omega)]; omega), 0, rfl⟩
            · go_round
              case rel =>
                refine ⟨k + 1, by omega, by go_num, fun j h h' => ?_⟩
                by_cases hj : j < k
                · exact HN.out j h hj
                · obtain rfl : j = k := by omega
                  rw [data_get? p j hlt]
                  have := toNat_ne (k := 93) (by omega) (‹((p[j].toNat : Int) == 93) = false›)
                  intro e; exact this (Option.some.inj e)
              case measure => simp [intOf]; omega
          · go_wp2
            go_ret
            exact ⟨ret_int (by unfold setR; rw [lo_none HL.out hlt HN.out, if_pos rfl]), 0, rfl⟩
      · have q94 : ((x.toNat : Int) == 94) = false := beq_eq_false_iff_ne.mpr a94
        have HL : Hid (Lo p 2) := Lib.hid (Lo.b h1 (by rw [hx]; exact neg_c q33 q94))
        go_enter Try.func28, Try.ntmps28
        go_wp2
        go_loop [4] (fun v => ∃ k : Nat, 2 ≤ k ∧ v = .int .i64 k ∧ ∀ j, 2 ≤ j → j < k → p.data.toList[j]? ≠ some 93) (fun v => p.size - (intOf v).toNat)
        case atStart => exact ⟨2, by omega, rfl, fun j h h' => by omega⟩
        case round =>
          obtain ⟨k, hk, rfl, hn⟩ := hrel
          have HN := Lib.hid hn
          clear hn
          by_cases hlt : k < p.size
          · go_wp2
            · go_ret
              exact ⟨ret_int (by unfold setR; rw [lo_hit HL.out hlt hk HN.out ‹_›, if_neg (by omega)]; omega), 0, rfl⟩
            · go_round
              case rel =>
                refine ⟨k + 1, by omega, by go_num, fun j h h' => ?_⟩
                by_cases hj : j < k
                · exact HN.out j h hj
                · obtain rfl : j = k := by omega
                  rw [data_get? p j hlt]
                  have := toNat_ne (k := 93) (by omega) (‹((p[j].toNat : Int) == 93) = false›)
                  intro e; exact this (Option.some.inj e)
              case measure => simp [intOf]; omega
          · go_wp2
            go_ret
            exact ⟨ret_int (by unfold setR; rw [lo_none HL.out hlt HN.out, if_pos rfl]), 0, rfl⟩
  · have HL : Hid (Lo p 2) := Lib.hid (Lo.c h1)
    go_enter Try.func28, Try.ntmps28
    go_wp2
    go_loop [4] (fun v => ∃ k : Nat, 2 ≤ k ∧ v = .int .i64 k) (fun v => p.size - (intOf v).toNat)
    case atStart => exact ⟨2, by omega, rfl⟩
    case round =>
      obtain ⟨k, hk, rfl⟩ := hrel
      have hlt : ¬ k < p.size := by omega
      go_wp2
      go_ret
      exact ⟨ret_int (by unfold setR; rw [lo_none (k := 2) HL.out (by omega) (fun j h h' => by omega), if_pos rfl]), 0, rfl⟩

theorem among_plain_i (p : ByteArray) (c : UInt8) (i : Nat) (h : i < p.size) (h2 : ¬ i + 2 < p.size ∨ ∃ h : i + 1 < p.size, ((p[i + 1].toNat : Int) == 45) = false) :
    GP.among (p.data.toList.drop i) c = ((p[i] == c) || GP.among (p.data.toList.drop (i + 1)) c) := by
  rw [drop_cons p i h]
  by_cases h3 : i + 2 < p.size
  · rcases h2 with h2 | ⟨h4, h2⟩
    · exact absurd h3 h2
    · rw [drop_cons p (i + 1) (by omega), drop_cons p (i + 2) h3]
      have : (p[i + 1] == 45) = false := beq_eq_false_iff_ne.mpr (toNat_ne (k := 45) (by omega) h2)
      rw [GP.among, this]; simp
  · have hl : (p.data.toList.drop (i + 1)).length ≤ 1 := by rw [List.length_drop, ← size_len]; omega
    match hm : p.data.toList.drop (i + 1), hl with
    | [], _ => simp [GP.among]
    | [b], _ => simp [GP.among]
theorem among_range_i (p : ByteArray) (c : UInt8) (i : Nat) (h : i + 2 < p.size) (h1 : ((p[i + 1].toNat : Int) == 45) = true) :
    GP.among (p.data.toList.drop i) c = ((decide (p[i].toNat ≤ c.toNat) && decide (c.toNat ≤ p[i + 2].toNat)) || GP.among (p.data.toList.drop (i + 3)) c) := by
  have e : p[i + 1] = 45 := toNat_eq (k := 45) (by omega) h1
  rw [drop_cons p i (by omega), drop_cons p (i + 1) (by omega), drop_cons p (i + 2) h, e, GP.among]
  have a : decide (p[i] ≤ c) = decide (p[i].toNat ≤ c.toNat) := decide_eq_decide.mpr u8_le
  have b : decide (c ≤ p[i + 2]) = decide (c.toNat ≤ p[i + 2].toNat) := decide_eq_decide.mpr u8_le
  rw [a, b]; rfl

theorem u8_comm (a b : UInt8) : (a == b) = (b == a) := by rw [Bool.eq_iff_iff, beq_iff_eq, beq_iff_eq]; exact ⟨Eq.symm, Eq.symm⟩

set_option maxHeartbeats 8000000 in
theorem rin (s : ByteArray) (c : UInt8) (w : World) (h3 : 3 ≤ s.size) (hs : s.size ≤ 140737488355328) :
    Calls Try.prog 29 #[.string s, .int .u8 c.toNat] w fun e w' => e = .returned (.bool (GP.has s.data.toList c)) ∧ ∃ n, w' = w.drewN n := by
  have g1 : (1:Int) ≤ (s.size:Int) - 1 := by omega
  have g2 : (s.size:Int) - 1 ≤ (s.size:Int) := by omega
  have g3 : 0 < (s.extract 1 (s.size - 1)).size := by simp [ByteArray.size_extract]; omega
  have g4 : (s.extract 1 (s.size - 1)).size ≤ s.size := by simp [ByteArray.size_extract]; omega
  obtain ⟨x, hx⟩ : ∃ x, (s.extract 1 (s.size - 1))[0]'g3 = x := ⟨_, rfl⟩
  obtain ⟨t0, ht0⟩ : ∃ t0, s.extract 1 (s.size - 1) = t0 := ⟨_, rfl⟩
  simp only [ht0] at hx g3 g4
  have HV := Lib.hid (has_val s c x t0 h3 g3 hx ht0)
  by_cases a33 : (x.toNat : Int) = 33
  · have q33 : ((x.toNat : Int) == 33) = true := beq_iff_eq.mpr a33
    have HR := Lib.hid (HV.out.trans (if_pos ((neg_iff x).mpr (neg_a q33))))
    clear HV
    go_enter Try.func29, Try.ntmps29
    go_wp2
    obtain ⟨p, hp⟩ : ∃ p, t0.extract 1 t0.size = p := ⟨_, rfl⟩
    rw [hp] at HR ⊢
    have hps : p.size ≤ s.size := by rw [← hp]; rw [tail_size]; omega
    clear hp hx ht0
    go_loop [6, 7] (fun v6 v7 => ∃ (b : Bool) (i : Nat), v6 = .bool b ∧ v7 = .int .i64 i ∧ (b || GP.among (p.data.toList.drop i) c) = GP.among p.data.toList c) (fun _ v7 => p.size - (intOf v7).toNat)
    case atStart => exact ⟨false, 0, rfl, rfl, by simp⟩
    case round =>
      obtain ⟨b, i, rfl, rfl, hA⟩ := hrel
      have HA := Lib.hid hA
      clear hA
      by_cases hi : i < p.size
      · cases b with
        | true =>
          go_wp2
          · go_round
            case rel => exact ⟨true, i + 3, rfl, by go_num, by rw [← HA.out]; rfl⟩
            case measure => simp [intOf]; omega
          · go_round
            case rel => exact ⟨true, i + 1, rfl, by go_num, by rw [← HA.out]; rfl⟩
            case measure => simp [intOf]; omega
          · go_round
            case rel => exact ⟨true, i + 1, rfl, by go_num, by rw [← HA.out]; rfl⟩
            case measure => simp [intOf]; omega
        | false =>
          go_wp2
          · go_round
            case rel => exact ⟨_, i + 3, rfl, by go_num, by rw [← HA.out, among_range_i p c i (by omega) ‹_›, decide_eq_true (‹p[i].toNat ≤ c.toNat›)]; rfl⟩
            case measure => simp [intOf]; omega
          · go_round
            case rel => exact ⟨false, i + 3, rfl, by go_num, by rw [← HA.out, among_range_i p c i (by omega) ‹_›, decide_eq_false (‹¬ p[i].toNat ≤ c.toNat›)]; rfl⟩
            case measure => simp [intOf]; omega
          · go_round
            case rel => exact ⟨_, i + 1, rfl, by go_num, by rw [← HA.out, among_plain_i p c i hi (.inr ⟨by omega, ‹_›⟩), u8_beq, u8_comm c]; rfl⟩
            case measure => simp [intOf]; omega
          · go_round
            case rel => exact ⟨_, i + 1, rfl, by go_num, by rw [← HA.out, among_plain_i p c i hi (.inl (by omega)), u8_beq, u8_comm c]; rfl⟩
            case measure => simp [intOf]; omega
      · have hnil : Hid (p.data.toList.drop i = []) := Lib.hid (List.drop_eq_nil_of_le (by rw [← size_len]; omega))
        go_wp2
        go_ret
        exact ⟨ret_bool (by have h := HA.out; rw [hnil.out] at h; rw [HR.out, ← h]; cases b <;> rfl), 0, rfl⟩
  · have q33 : ((x.toNat : Int) == 33) = false := beq_eq_false_iff_ne.mpr a33
    by_cases a94 : (x.toNat : Int) = 94
    · have q94 : ((x.toNat : Int) == 94) = true := beq_iff_eq.mpr a94
      have HR := Lib.hid (HV.out.trans (if_pos ((neg_iff x).mpr (neg_b q94))))
      clear HV
      go_enter Try.func29, Try.ntmps29
      go_wp2
      obtain ⟨p, hp⟩ : ∃ p, t0.extract 1 t0.size = p := ⟨_, rfl⟩
      rw [hp] at HR ⊢
      have hps : p.size ≤ s.size := by rw [← hp]; rw [tail_size]; omega
      clear hp hx ht0
      go_loop [6, 7] (fun v6 v7 => ∃ (b : Bool) (i : Nat), v6 = .bool b ∧ v7 = .int .i64 i ∧ (b || GP.among (p.data.toList.drop i) c) = GP.among p.data.toList c) (fun _ v7 => p.size - (intOf v7).toNat)
      case atStart => exact ⟨false, 0, rfl, rfl, by simp⟩
      case round =>
        obtain ⟨b, i, rfl, rfl, hA⟩ := hrel
        have HA := Lib.hid hA
        clear hA
        by_cases hi : i < p.size
        · cases b with
          | true =>
            go_wp2
            · go_round
              case rel => exact ⟨true, i + 3, rfl, by go_num, by rw [← HA.out]; rfl⟩
              case measure => simp [intOf]; omega
            · go_round
              case rel => exact ⟨true, i + 1, rfl, by go_num, by rw [← HA.out]; rfl⟩
              case measure => simp [intOf]; omega
            · go_round
              case rel => exact ⟨true, i + 1, rfl, by go_num, by rw [← HA.out]; rfl⟩
              case measure => simp [intOf]; omega
          | false =>
            go_wp2
            · go_round
              case rel => exact ⟨_, i + 3, rfl, by go_num, by rw [← HA.out, among_range_i p c i (by omega) ‹_›, decide_eq_true (‹p[i].toNat ≤ c.toNat›)]; rfl⟩
              case measure => simp [intOf]; omega
            · go_round
              case rel => exact ⟨false, i + 3, rfl, by go_num, by rw [← HA.out, among_range_i p c i (by omega) ‹_›, decide_eq_false (‹¬ p[i].toNat ≤ c.toNat›)]; rfl⟩
              case measure => simp [intOf]; omega
            · go_round
              case rel => exact ⟨_, i + 1, rfl, by go_num, by rw [← HA.out, among_plain_i p c i hi (.inr ⟨by omega, ‹_›⟩), u8_beq, u8_comm c]; rfl⟩
              case measure => simp [intOf]; omega
            · go_round
              case rel => exact ⟨_, i + 1, rfl, by go_num, by rw [← HA.out, among_plain_i p c i hi (.inl (by omega)), u8_beq, u8_comm c]; rfl⟩
              case measure => simp [intOf]; omega
        · have hnil : Hid (p.data.toList.drop i = []) := Lib.hid (List.drop_eq_nil_of_le (by rw [← size_len]; omega))
          go_wp2
          go_ret
          exact ⟨ret_bool (by have h := HA.out; rw [hnil.out] at h; rw [HR.out, ← h]; cases b <;> rfl), 0, rfl⟩
    · have q94 : ((x.toNat : Int) == 94) = false := beq_eq_false_iff_ne.mpr a94
      have HR := Lib.hid (HV.out.trans (if_neg (fun h => by have := (neg_iff x).mp h; rw [neg_c q33 q94] at this; cases this)))
      clear HV
      go_enter Try.func29, Try.ntmps29
      go_wp2
      have hps : t0.size ≤ s.size := g4
      clear hx ht0
      go_loop [6, 7] (fun v6 v7 => ∃ (b : Bool) (i : Nat), v6 = .bool b ∧ v7 = .int .i64 i ∧ (b || GP.among (t0.data.toList.drop i) c) = GP.among t0.data.toList c) (fun _ v7 => t0.size - (intOf v7).toNat)
      case atStart => exact ⟨false, 0, rfl, rfl, by simp⟩
      case round =>
        obtain ⟨b, i, rfl, rfl, hA⟩ := hrel
        have HA := Lib.hid hA
        clear hA
        by_cases hi : i < t0.size
        · cases b with
          | true =>
            go_wp2
            · go_round
              case rel => exact ⟨true, i + 3, rfl, by go_num, by rw [← HA.out]; rfl⟩
              case measure => simp [intOf]; omega
            · go_round
              case rel => exact ⟨true, i + 1, rfl, by go_num, by rw [← HA.out]; rfl⟩
              case measure => simp [intOf]; omega
            · go_round
              case rel => exact ⟨true, i + 1, rfl, by go_num, by rw [← HA.out]; rfl⟩
              case measure => simp [intOf]; omega
          | false =>
            go_wp2
            · go_round
              case rel => exact ⟨_, i + 3, rfl, by go_num, by rw [← HA.out, among_range_i t0 c i (by omega) ‹_›, decide_eq_true (‹t0[i].toNat ≤ c.toNat›)]; rfl⟩
              case measure => simp [intOf]; omega
            · go_round
              case rel => exact ⟨false, i + 3, rfl, by go_num, by rw [← HA.out, among_range_i t0 c i (by omega) ‹_›, decide_eq_false (‹¬ t0[i].toNat ≤ c.toNat›)]; rfl⟩
              case measure => simp [intOf]; omega
            · go_round
              case rel => exact ⟨_, i + 1, rfl, by go_num, by rw [← HA.out, among_plain_i t0 c i hi (.inr ⟨by omega, ‹_›⟩), u8_beq, u8_comm c]; rfl⟩
              case measure => simp [intOf]; omega
            · go_round
              case rel => exact ⟨_, i + 1, rfl, by go_num, by rw [← HA.out, among_plain_i t0 c i hi (.inl (by omega)), u8_beq, u8_comm c]; rfl⟩
              case measure => simp [intOf]; omega
        · have hnil : Hid (t0.data.toList.drop i = []) := Lib.hid (List.drop_eq_nil_of_le (by rw [← size_len]; omega))
          go_wp2
          go_ret
          exact ⟨ret_bool (by have h := HA.out; rw [hnil.out] at h; rw [HR.out, ← h]; cases b <;> rfl), 0, rfl⟩
end Go.Proofs.Ytcailjmcjgpfmaa
