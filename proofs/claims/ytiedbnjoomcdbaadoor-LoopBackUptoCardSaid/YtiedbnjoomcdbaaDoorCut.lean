/- strings.Cut at one byte. -/
import Derived.Test.YtiedbnjoomcdbaaDoorBld2
import Derived.Test.YtiedbnjoomcdbaaDoorShelf
import Derived.Test.YtiedbnjoomcdbaaDoorTrim
import Derived.Test.YtiedbnjoomcdbaaDoorRepl
import Derived.Test.YtiedbnjoomcdbaaDoorWMore
set_option linter.unusedVariables false
set_option linter.unusedSimpArgs false
namespace Go.Proofs.YtiedbnjoomcdbaaDoor
open Go.RowKit Ba Go.Proofs.YtiedbnjoomcdbaaDoorW.PrintWords Go.Proofs.YtiedbnjoomcdbaaDoorW.PrintLast

theorem ib_no (l : List UInt8) (c : UInt8) (h : ∀ d ∈ l, d ≠ c) : Lib.indexByte l c = -1 := by
  induction l with
  | nil => rfl
  | cons d l ih =>
    have h1 : (d == c) = false := beq_eq_false_iff_ne.mpr (h d (List.mem_cons_self ..))
    have h2 := ih fun e he => h e (List.mem_cons_of_mem _ he)
    unfold Lib.indexByte
    rw [h1, h2]; rfl
theorem ib_at (p t : List UInt8) (c : UInt8) (h : ∀ d ∈ p, d ≠ c) : Lib.indexByte (p ++ c :: t) c = (p.length : Int) := by
  induction p with
  | nil =>
    rw [List.nil_append]
    unfold Lib.indexByte
    rw [beq_self_eq_true c]; rfl
  | cons d p ih =>
    have h1 : (d == c) = false := beq_eq_false_iff_ne.mpr (h d (List.mem_cons_self ..))
    have h2 := ih fun e he => h e (List.mem_cons_of_mem _ he)
    rw [List.cons_append]
    unfold Lib.indexByte
    rw [h1, h2]
    have h3 : ((p.length : Int) == -1) = false := beq_eq_false_iff_ne.mpr (by omega)
    rw [h3, List.length_cons]
    simp only [Bool.false_eq_true, if_false]; omega
/-- a text cut at a byte -/
theorem byte_find (c : UInt8) : ∀ l : List UInt8, (∀ d ∈ l, d ≠ c) ∨ ∃ p t, l = p ++ c :: t ∧ ∀ d ∈ p, d ≠ c
  | [] => .inl (by simp)
  | d :: l => by
    by_cases h : d = c
    · subst h; exact .inr ⟨[], l, rfl, by simp⟩
    · rcases byte_find c l with h1 | ⟨p, t, rfl, h2⟩
      · exact .inl fun e he => by
          rcases List.mem_cons.mp he with rfl | he
          · exact h
          · exact h1 e he
      · exact .inr ⟨d :: p, t, rfl, fun e he => by
          rcases List.mem_cons.mp he with rfl | he
          · exact h
          · exact h2 e he⟩
theorem S_take (s : ByteArray) (p t : List UInt8) (h : s.data.toList = p ++ t) : s.extract 0 p.length = S p := by
  apply ba_ext; rw [data_extract, data_S, h]; simp
theorem S_drop (s : ByteArray) (p t : List UInt8) (h : s.data.toList = p ++ t) : s.extract p.length s.size = S t := by
  apply ba_ext; rw [data_extract, data_S, size_len, h]; simp
theorem S_drop1 (s : ByteArray) (p t : List UInt8) (c : UInt8) (h : s.data.toList = p ++ c :: t) : s.extract (p.length + 1) s.size = S t := by
  have := S_drop s (p ++ [c]) t (by rw [h]; simp)
  simpa using this
theorem size_app (s : ByteArray) (p t : List UInt8) (h : s.data.toList = p ++ t) : s.size = p.length + t.length := by rw [size_len, h, List.length_append]
theorem S_size (l : List UInt8) : (S l).size = l.length := by rw [size_len, data_S]

theorem lcutNone (s : ByteArray) (c : UInt8) (w : World) (h : ∀ d ∈ s.data.toList, d ≠ c) :
    Calls Tryd.prog 44 #[.string s, .string ⟨#[c]⟩] w fun e w' => e = .returned (.tuple #[.string s, .string ⟨#[]⟩, .bool false]) ∧ ∃ n, w' = w.drewN n := by
  have hI := fun w => Tryd.stringslite_Index_one s c w
  rw [ib_no _ _ h] at hI
  obtain ⟨sep, hs⟩ : ∃ sep, (⟨#[c]⟩ : ByteArray) = sep := ⟨_, rfl⟩
  rw [hs] at hI ⊢
  clear h hs
  go_enter Tryd.func44, Tryd.ntmps44
  go_wp2_with (go_at_call 57; refine (hI _).mono ?_; rintro e w' ⟨rfl, rfl⟩)
  go_ret3
  exact ⟨rfl, 0, rfl⟩
theorem cutNone (s : ByteArray) (c : UInt8) (w : World) (h : ∀ d ∈ s.data.toList, d ≠ c) :
    Calls Tryd.prog 32 #[.string s, .string ⟨#[c]⟩] w fun e w' => e = .returned (.tuple #[.string s, .string ⟨#[]⟩, .bool false]) ∧ ∃ n, w' = w.drewN n := by
  have hc := lcutNone s c w h
  obtain ⟨sep, hs⟩ : ∃ sep, (⟨#[c]⟩ : ByteArray) = sep := ⟨_, rfl⟩
  rw [hs] at hc ⊢
  clear hs h
  go_enter Tryd.func32, Tryd.ntmps32
  go_wp2_with (go_at_call 44; refine hc.mono ?_; rintro e w' ⟨rfl, n, rfl⟩)
  go_ret3
  exact ⟨rfl, _, rfl⟩
theorem lcutSome (s : ByteArray) (c : UInt8) (p t : List UInt8) (w : World) (hs0 : s.size ≤ 1000000000000) (h : s.data.toList = p ++ c :: t) (hp : ∀ d ∈ p, d ≠ c) :
    Calls Tryd.prog 44 #[.string s, .string ⟨#[c]⟩] w fun e w' => e = .returned (.tuple #[.string (S p), .string (S t), .bool true]) ∧ ∃ n, w' = w.drewN n := by
  have hI := fun w => Tryd.stringslite_Index_one s c w
  rw [h, ib_at p t c hp] at hI
  obtain ⟨sep, hs⟩ : ∃ sep, (⟨#[c]⟩ : ByteArray) = sep := ⟨_, rfl⟩
  have hs1 : sep.size = 1 := by rw [← hs]; rfl
  rw [hs] at hI ⊢
  have e1 := Lib.hid (S_take s p (c :: t) h)
  have e2 := Lib.hid (S_drop1 s p t c h)
  have hz := size_app s p (c :: t) h
  rw [List.length_cons] at hz
  clear h hp hs
  have d0 : decide (0 ≤ (p.length : Int)) = true := decide_eq_true (by omega)
  have i1 : IntKind.i64.wrap ((p.length : Int) + 1) = ((p.length + 1 : Nat) : Int) := by rw [wrap_small _ (by omega) (by omega)]; omega
  have g1 : p.length ≤ s.size := by omega
  have g2 : p.length + 1 ≤ s.size := by omega
  clear hz
  go_enter Tryd.func44, Tryd.ntmps44
  go_wp2_with (go_at_call 57; refine (hI _).mono ?_; rintro e w' ⟨rfl, rfl⟩)
  go_quiet (fail)
  go_wp2
  go_ret3
  exact ⟨by rw [e1.out, e2.out]; rfl, _, rfl⟩

theorem cutSome (s : ByteArray) (c : UInt8) (p t : List UInt8) (w : World) (hs0 : s.size ≤ 1000000000000) (h : s.data.toList = p ++ c :: t) (hp : ∀ d ∈ p, d ≠ c) :
    Calls Tryd.prog 32 #[.string s, .string ⟨#[c]⟩] w fun e w' => e = .returned (.tuple #[.string (S p), .string (S t), .bool true]) ∧ ∃ n, w' = w.drewN n := by
  have hc := lcutSome s c p t w hs0 h hp
  obtain ⟨sep, hs⟩ : ∃ sep, (⟨#[c]⟩ : ByteArray) = sep := ⟨_, rfl⟩
  rw [hs] at hc ⊢
  clear hs
  go_enter Tryd.func32, Tryd.ntmps32
  go_wp2_with (go_at_call 44; refine hc.mono ?_; rintro e w' ⟨rfl, n, rfl⟩)
  go_ret3
  exact ⟨rfl, _, rfl⟩
end Go.Proofs.YtiedbnjoomcdbaaDoor
