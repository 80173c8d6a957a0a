/- strings.IndexFunc at 'no small letter', at any text. -/
import Derived.Test.YtiedbnjoomcdbaaDoorRune
set_option linter.unusedVariables false
set_option linter.unusedSimpArgs false
namespace Go.Proofs.YtiedbnjoomcdbaaDoor
open Go.RowKit Ba

def nsFn : Nat := 52
def ns (c : UInt8) : Bool := decide (c.toNat < 97) || decide (122 < c.toNat)
def idxNS (l : List UInt8) : Int := match l.findIdx? ns with | none => -1 | some i => (i : Int)
theorem idxNS_none {l : List UInt8} (h : ∀ c ∈ l, ns c = false) : idxNS l = -1 := by
  unfold idxNS
  rw [List.findIdx?_eq_none_iff.2 h]
theorem idxNS_hit {p t : List UInt8} {c : UInt8} (h : ∀ d ∈ p, ns d = false) (hc : ns c = true) : idxNS (p ++ c :: t) = (p.length : Int) := by
  unfold idxNS
  have : (p ++ c :: t).findIdx? ns = some p.length := by
    rw [List.findIdx?_append, List.findIdx?_eq_none_iff.2 h]
    simp [List.findIdx?_cons, hc]
  rw [this]
def NoNS (l : List UInt8) (i : Nat) : Prop := ∀ c ∈ l.take i, ns c = false
theorem NoNS.hit {l : List UInt8} {i : Nat} {x : UInt8} (h : NoNS l i) (hx : l[i]? = some x) (hc : ns x = true) : idxNS l = (i : Int) := by
  obtain ⟨hi, e⟩ := List.getElem?_eq_some_iff.1 hx
  have h1 : l = l.take i ++ x :: l.drop (i + 1) := by rw [← e, ← List.drop_eq_getElem_cons hi, List.take_append_drop]
  have h2 := idxNS_hit (t := l.drop (i + 1)) h hc
  rw [← h1, List.length_take, Nat.min_eq_left (by omega)] at h2
  exact h2
theorem NoNS.succ {l : List UInt8} {i : Nat} {x : UInt8} (h : NoNS l i) (hx : l[i]? = some x) (hc : ns x = false) : NoNS l (i + 1) := by
  intro c hm
  rw [List.take_add_one, hx] at hm
  rcases List.mem_append.1 hm with h' | h'
  · exact h c h'
  · simp at h'; subst h'; exact hc

set_option maxHeartbeats 8000000 in
set_option maxRecDepth 1000000 in
theorem indexFuncNS (s : ByteArray) (w : World) :
    Calls Tryd.prog 65 #[.string s, .func (.func 52) #[] #[], .bool true] w fun e w' => e = .returned (.int .i64 (idxNS s.data.toList)) ∧ Below w.heap.size w w' := by
  go_enter Tryd.func65, Tryd.ntmps65
  go_wp2
  go_loopg [7, 8] s.size (fun g _ _ wx => ∃ i : Nat, i ≤ s.size ∧ s.size ≤ i + g ∧ wx.heap[w.heap.size]? = some (.stringIter s i) ∧ Below w.heap.size w wx ∧ NoNS s.data.toList i)
  case atStart => exact ⟨0, Nat.zero_le _, by omega, World.iter_heap _ _ _, (Below.refl _ _).alloc (Nat.le_refl _) _, fun c hc => by simp at hc⟩
  case round =>
    obtain ⟨i, hile, hig, hk, hbl, hno⟩ := hrel
    have HN := Lib.hid hno
    have HK := Lib.hid hk
    have HBL := Lib.hid hbl
    clear hno hbl
    by_cases hi : i < s.size
    · obtain ⟨g, rfl⟩ : ∃ g, gk = g + 1 := ⟨gk - 1, by omega⟩
      obtain ⟨x, hx⟩ : ∃ x : UInt8, s[i]'hi = x := ⟨_, rfl⟩
      have Hx : Hid (s.data.toList[i]? = some x) := Lib.hid (by rw [← hx]; exact data_get? s i hi)
      by_cases h128 : x.toNat < 128
      · have hnx := fun ty => Lib.run_next_ascii_at (P := Tryd.prog) wr w.heap.size s i ty hk hi (by rw [hx]; exact h128)
        rw [hx] at hnx
        clear hx hk
        by_cases h97 : x.toNat < 97
        · have d1 : decide ((x.toNat : Int) < 97) = true := decide_eq_true (by omega)
          have HC : Hid (ns x = true) := Lib.hid (by unfold ns; simp [h97])
          go_wp2
          go_ret
          exact ⟨by rw [NoNS.hit HN.out Hx.out HC.out]; rfl, Lib.below_iterAt HBL.out (Nat.le_refl _) _ _⟩
        · have d1 : decide ((x.toNat : Int) < 97) = false := decide_eq_false (by omega)
          by_cases h122 : 122 < x.toNat
          · have d2 : decide ((122 : Int) < (x.toNat : Int)) = true := decide_eq_true (by omega)
            have HC : Hid (ns x = true) := Lib.hid (by unfold ns; simp [h122])
            go_wp2
            go_ret
            exact ⟨by rw [NoNS.hit HN.out Hx.out HC.out]; rfl, Lib.below_iterAt HBL.out (Nat.le_refl _) _ _⟩
          · have d2 : decide ((122 : Int) < (x.toNat : Int)) = false := decide_eq_false (by omega)
            have HC : Hid (ns x = false) := Lib.hid (by unfold ns; simp [h122, h97])
            go_wp2
            go_roundg g
            case measure => omega
            case rel => exact ⟨i + 1, by omega, by omega, Lib.iterAt_heap _ _ _ _ _ HK.out, Lib.below_iterAt HBL.out (Nat.le_refl _) _ _, HN.out.succ Hx.out HC.out⟩
      · have hd := decode_hi s i hi (by rw [hx]; omega)
        obtain ⟨q1, q2, q3, q4, q5⟩ := hd
        clear q5 hx
        have HC : Hid (ns x = true) := Lib.hid (by unfold ns; simp; omega)
        obtain ⟨r, hr⟩ : ∃ r, (Utf8.decode s i).1 = r := ⟨_, rfl⟩
        obtain ⟨m, hm⟩ : ∃ m, (Utf8.decode s i).2 = m := ⟨_, rfl⟩
        have hnx := fun ty => Lib.run_next_any_at (P := Tryd.prog) wr w.heap.size s i ty hk hi
        simp only [hr, hm] at hnx q1 q2 q3 q4
        clear hr hm hk
        have d1 : decide ((r : Int) < 97) = false := decide_eq_false (by omega)
        have d2 : decide ((122 : Int) < (r : Int)) = true := decide_eq_true (by omega)
        go_wp2
        go_ret
        exact ⟨by rw [NoNS.hit HN.out Hx.out HC.out]; rfl, Lib.below_iterAt HBL.out (Nat.le_refl _) _ _⟩
    · obtain rfl : i = s.size := by omega
      have hnx := fun ty => Lib.run_next_end_at (P := Tryd.prog) wr w.heap.size s s.size ty hk (by omega)
      clear hk
      have HZ : Hid (idxNS s.data.toList = -1) := Lib.hid (idxNS_none (by
        have := HN.out
        unfold NoNS at this
        rwa [List.take_of_length_le (by rw [← size_len]; exact Nat.le_refl _)] at this))
      go_wp2
      go_ret
      exact ⟨by rw [HZ.out]; rfl, HBL.out⟩

set_option maxHeartbeats 1000000 in
set_option maxRecDepth 100000 in
theorem indexNS (s : ByteArray) (w : World) :
    Calls Tryd.prog 51 #[.string s, .func (.func 52) #[] #[]] w fun e w' => e = .returned (.int .i64 (idxNS s.data.toList)) ∧ Below w.heap.size w w' := by
  go_enter Tryd.func51, Tryd.ntmps51
  go_wp2_with (go_at_call 65; refine (indexFuncNS s _).mono ?_; rintro e w1 ⟨rfl, hb1⟩)
  go_ret
  exact ⟨rfl, hb1⟩
end Go.Proofs.YtiedbnjoomcdbaaDoor
