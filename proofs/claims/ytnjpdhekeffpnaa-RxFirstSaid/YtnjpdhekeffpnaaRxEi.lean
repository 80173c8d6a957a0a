/- A row of single bytes as a tree: plain. -/
import Derived.Test.YtnjpdhekeffpnaaRxEh
set_option linter.unusedVariables false
set_option linter.unusedSimpArgs false
namespace Go.Proofs.Ytnjpdhekeffpnaa.Rx
open Go.RowKit Go.Proofs.YtnjpdhekeffpnaaW.PrintWords Go.Proofs.YtnjpdhekeffpnaaW.PrintLast Go.Proofs.YtnjpdhekeffpnaaW.PrintMore

def catB (e : Re) (l : List UInt8) : Re := l.foldl (fun e c => .cat e (.byte (addR 0 c.toNat 1))) e
theorem one_bit (c x : Nat) : (addR 0 c 1).testBit x = true ↔ x = c := by
  show (0 ||| 2 ^ c).testBit x = true ↔ _
  rw [Nat.zero_or, Nat.testBit_two_pow]
  simp [eq_comm]
/-- the bytes l stand in s from i on -/
def Stands (s : ByteArray) : List UInt8 → Nat → Prop
  | [], _ => True
  | c :: l, i => i < s.size ∧ (bt s (i : Int)).toNat = c.toNat ∧ Stands s l (i + 1)
theorem catB_M (s : ByteArray) : ∀ (l : List UInt8) (e : Re) (i j : Nat), M s (catB e l) i j ↔ ∃ k, M s e i k ∧ Stands s l k ∧ j = k + l.length
  | [], e, i, j => ⟨fun h => ⟨j, h, trivial, rfl⟩, fun ⟨k, h1, _, h3⟩ => by have h3 : j = k := h3; rw [h3]; exact h1⟩
  | c :: l, e, i, j => by
    rw [show catB e (c :: l) = catB (.cat e (.byte (addR 0 c.toNat 1))) l from rfl, catB_M s l]
    constructor
    · rintro ⟨k, ⟨q, h1, h2, h3, rfl⟩, h4, h5⟩
      exact ⟨q, h1, ⟨h2, (one_bit _ _).1 h3, h4⟩, by rw [List.length_cons]; omega⟩
    · rintro ⟨k, h1, ⟨h2, h3, h4⟩, h5⟩
      rw [List.length_cons] at h5
      exact ⟨k + 1, ⟨k, h1, h2, (one_bit _ _).2 h3, rfl⟩, h4, by omega⟩
end Go.Proofs.Ytnjpdhekeffpnaa.Rx
