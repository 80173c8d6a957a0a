/-
  No cell of these rows narrows 'for every input' (looked for: loops, veiled, ifaces, maps, wideKeys, modest, calm, conditions, laid).
  DERIVED. THE GIVEN ROWS OF THIS SEAT. 6 by the template 'for every input the law returns true; each argument reads behind the call as it read before'; 0 by the template 'total and deterministic' (their statements: YtcailjmcjgpfmaaTotals.lean).
  GIVEN WITH THE SEED: the statements are not yours to turn. If you find one false, say at which input.
  Laid BY PROGRAM, IN A SANDBOX (cutbox-rows.mjs): the forced cells as the released guide's own fill.sh prints them over the translation b8c38bedb615bf6e… (all of the seat's roots in one cut). By AI agents, Wed Nov 11 2026. No macro, syntax, notation, axiom, sorry.
-/
import Derived.Test.YtcailjmcjgpfmaaChecked
import GoSem.Claim
import GoSem.ClaimJoined
import GoSem.ClaimMapViews
import Derived.JoinedTies
import Derived.KernelRfl
namespace Go.Proofs.Ytcailjmcjgpfmaa
/- THE CELL 'sum', in the pinned program and in every row, IS THE sha256 OF THE DUMP (.gsa) THAT YtcailjmcjgpfmaaProg.lean LOADS. Nothing in Lean hashes anything: it is a label: what it is worth is what the hold of that sum in a sandbox is worth. -/
noncomputable def Try.pinned : Pinned := { name := "ytcailjmcjgpfmaa", sum := "b8c38bedb615bf6e8b0b3b3bd88e93586086840ef43030d3971467f9efdd59b4", checked := Try.checked }
namespace Rows
def none {H : Type} : Left H := { results := [], args := [] }

/-- 'bobstaylaw01.GlobMatches': WHATEVER THE INPUT: true; the input reads as it did. -/
def globMatchesSpec : ChangeSpec := { name := "globMatches", fn := fun _ => fun
  | [d1, d2] => { results := [.lit (.bool true)], args := [d1, d2] }
  | _ => none }
def globMatchesRow : OpenClaim := { program := "ytcailjmcjgpfmaa", sum := "b8c38bedb615bf6e8b0b3b3bd88e93586086840ef43030d3971467f9efdd59b4", func := "bobstay/bobstaylaw01.GlobMatches", spec := "globMatches", inPlace := ["internal/bytealg.IndexByteString", "internal/abi.NoEscape", "internal/bytealg.IndexString"], named := ["internal/bytealg.MaxLen"], apart := false }
def GlobMatchesSaid : Prop := globMatchesRow.holds Try.pinned (OpenSpec.ofChange globMatchesSpec)

/-- ITS FALSE NEIGHBOUR: 'it returns false'. Refute it at one input. -/
def globMatchesWrong : ChangeSpec := { name := "globMatches", fn := fun _ => fun
  | [d1, d2] => { results := [.lit (.bool false)], args := [d1, d2] }
  | _ => none }
def GlobMatchesWrongFalsely : Prop := globMatchesRow.holds Try.pinned (OpenSpec.ofChange globMatchesWrong)

/-- 'bobstaylaw01.GlobQuoted': WHATEVER THE INPUT: true; the input reads as it did. -/
def globQuotedSpec : ChangeSpec := { name := "globQuoted", fn := fun _ => fun
  | [d1, d2] => { results := [.lit (.bool true)], args := [d1, d2] }
  | _ => none }
def globQuotedRow : OpenClaim := { program := "ytcailjmcjgpfmaa", sum := "b8c38bedb615bf6e8b0b3b3bd88e93586086840ef43030d3971467f9efdd59b4", func := "bobstay/bobstaylaw01.GlobQuoted", spec := "globQuoted", inPlace := ["internal/bytealg.IndexByteString", "internal/abi.NoEscape", "internal/bytealg.IndexString"], named := ["internal/bytealg.MaxLen"], apart := false }
def GlobQuotedSaid : Prop := globQuotedRow.holds Try.pinned (OpenSpec.ofChange globQuotedSpec)

/-- ITS FALSE NEIGHBOUR: 'it returns false'. Refute it at one input. -/
def globQuotedWrong : ChangeSpec := { name := "globQuoted", fn := fun _ => fun
  | [d1, d2] => { results := [.lit (.bool false)], args := [d1, d2] }
  | _ => none }
def GlobQuotedWrongFalsely : Prop := globQuotedRow.holds Try.pinned (OpenSpec.ofChange globQuotedWrong)

/-- 'bobstaylaw01.GlobAll': WHATEVER THE INPUT: true; the input reads as it did. -/
def globAllSpec : ChangeSpec := { name := "globAll", fn := fun _ => fun
  | [d1, d2, d3] => { results := [.lit (.bool true)], args := [d1, d2, d3] }
  | _ => none }
def globAllRow : OpenClaim := { program := "ytcailjmcjgpfmaa", sum := "b8c38bedb615bf6e8b0b3b3bd88e93586086840ef43030d3971467f9efdd59b4", func := "bobstay/bobstaylaw01.GlobAll", spec := "globAll", inPlace := ["internal/bytealg.IndexByteString", "internal/abi.NoEscape", "internal/bytealg.IndexString"], named := ["internal/bytealg.MaxLen"], apart := false }
def GlobAllSaid : Prop := globAllRow.holds Try.pinned (OpenSpec.ofChange globAllSpec)

/-- ITS FALSE NEIGHBOUR: 'it returns false'. Refute it at one input. -/
def globAllWrong : ChangeSpec := { name := "globAll", fn := fun _ => fun
  | [d1, d2, d3] => { results := [.lit (.bool false)], args := [d1, d2, d3] }
  | _ => none }
def GlobAllWrongFalsely : Prop := globAllRow.holds Try.pinned (OpenSpec.ofChange globAllWrong)

/-- 'bobstaylaw01.GlobBoth': WHATEVER THE INPUT: true; the input reads as it did. -/
def globBothSpec : ChangeSpec := { name := "globBoth", fn := fun _ => fun
  | [d1, d2, d3] => { results := [.lit (.bool true)], args := [d1, d2, d3] }
  | _ => none }
def globBothRow : OpenClaim := { program := "ytcailjmcjgpfmaa", sum := "b8c38bedb615bf6e8b0b3b3bd88e93586086840ef43030d3971467f9efdd59b4", func := "bobstay/bobstaylaw01.GlobBoth", spec := "globBoth", inPlace := ["internal/bytealg.IndexByteString", "internal/abi.NoEscape", "internal/bytealg.IndexString"], named := ["internal/bytealg.MaxLen"], apart := false }
def GlobBothSaid : Prop := globBothRow.holds Try.pinned (OpenSpec.ofChange globBothSpec)

/-- ITS FALSE NEIGHBOUR: 'it returns false'. Refute it at one input. -/
def globBothWrong : ChangeSpec := { name := "globBoth", fn := fun _ => fun
  | [d1, d2, d3] => { results := [.lit (.bool false)], args := [d1, d2, d3] }
  | _ => none }
def GlobBothWrongFalsely : Prop := globBothRow.holds Try.pinned (OpenSpec.ofChange globBothWrong)

/-- 'bobstaylaw01.GlobParts': WHATEVER THE INPUT: true; the input reads as it did. -/
def globPartsSpec : ChangeSpec := { name := "globParts", fn := fun _ => fun
  | [d1, d2] => { results := [.lit (.bool true)], args := [d1, d2] }
  | _ => none }
def globPartsRow : OpenClaim := { program := "ytcailjmcjgpfmaa", sum := "b8c38bedb615bf6e8b0b3b3bd88e93586086840ef43030d3971467f9efdd59b4", func := "bobstay/bobstaylaw01.GlobParts", spec := "globParts", inPlace := ["internal/bytealg.IndexByteString", "internal/abi.NoEscape", "internal/bytealg.IndexString"], named := ["internal/bytealg.MaxLen"], apart := false }
def GlobPartsSaid : Prop := globPartsRow.holds Try.pinned (OpenSpec.ofChange globPartsSpec)

/-- ITS FALSE NEIGHBOUR: 'it returns false'. Refute it at one input. -/
def globPartsWrong : ChangeSpec := { name := "globParts", fn := fun _ => fun
  | [d1, d2] => { results := [.lit (.bool false)], args := [d1, d2] }
  | _ => none }
def GlobPartsWrongFalsely : Prop := globPartsRow.holds Try.pinned (OpenSpec.ofChange globPartsWrong)

/-- 'bobstaylaw01.GlobFilters': WHATEVER THE INPUT: true; the input reads as it did. -/
def globFiltersSpec : ChangeSpec := { name := "globFilters", fn := fun _ => fun
  | [d1, d2] => { results := [.lit (.bool true)], args := [d1, d2] }
  | _ => none }
def globFiltersRow : OpenClaim := { program := "ytcailjmcjgpfmaa", sum := "b8c38bedb615bf6e8b0b3b3bd88e93586086840ef43030d3971467f9efdd59b4", func := "bobstay/bobstaylaw01.GlobFilters", spec := "globFilters", inPlace := ["internal/bytealg.IndexByteString", "internal/abi.NoEscape", "internal/bytealg.IndexString"], named := ["internal/bytealg.MaxLen"], apart := false }
def GlobFiltersSaid : Prop := globFiltersRow.holds Try.pinned (OpenSpec.ofChange globFiltersSpec)

/-- ITS FALSE NEIGHBOUR: 'it returns false'. Refute it at one input. -/
def globFiltersWrong : ChangeSpec := { name := "globFilters", fn := fun _ => fun
  | [d1, d2] => { results := [.lit (.bool false)], args := [d1, d2] }
  | _ => none }
def GlobFiltersWrongFalsely : Prop := globFiltersRow.holds Try.pinned (OpenSpec.ofChange globFiltersWrong)

/- THE SECOND FORM. 'bulk': how many values and letters a reading holds, each counted each time it is reached (what is shared counts as often as it is met; a slice's spare places count too). A statement '..UptoSaid' is the law's where the arguments, and the package variables that the reading takes, are together of bulk at most 1048576: NARROWER than '..Said'. Prove '..Said' where nothing that the law and all that it calls make is longer than what came in: it says more and counts as full. Else prove '..UptoSaid'. A law counts once. -/
mutual
def uptoBulk {H : Type} : DataW H → Nat
  | .lit (.string bytes) => bytes.length + 1
  | .lit _ => 1
  | .nil => 1
  | .ptr d => uptoBulk d + 1
  | .slice elems spare => uptoBulkAll elems + uptoBulkAll spare + 1
  | .agg parts => uptoBulkAll parts + 1
  | .iface _ d => uptoBulk d + 1
  | .map entries => uptoBulkEntries entries + 1
  | .held _ => 1
def uptoBulkAll {H : Type} : List (DataW H) → Nat
  | [] => 0
  | d :: r => uptoBulk d + uptoBulkAll r
def uptoBulkEntries {H : Type} : List (Lit × DataW H) → Nat
  | [] => 0
  | x :: r => uptoBulkEntry x + uptoBulkEntries r
def uptoBulkEntry {H : Type} : Lit × DataW H → Nat
  | (.string bytes, d) => bytes.length + uptoBulk d + 1
  | (_, d) => uptoBulk d + 1
 end
def uptoSmall : (H : Type) → List (DataW H) → Bool := fun _ ds => decide (uptoBulkAll ds ≤ 1048576)
def OpenSpec.upto (s : _root_.Go.ChangeSpec) : _root_.Go.OpenSpec := { _root_.Go.OpenSpec.ofChange s with cond := some uptoSmall }

/-- 'bobstaylaw01.GlobMatches', WHERE WHAT IT READS IS OF BULK AT MOST 1048576: true; the input reads as it did. -/
def globMatchesUptoRow : OpenClaim := { program := "ytcailjmcjgpfmaa", sum := "b8c38bedb615bf6e8b0b3b3bd88e93586086840ef43030d3971467f9efdd59b4", func := "bobstay/bobstaylaw01.GlobMatches", spec := "globMatches", inPlace := ["internal/bytealg.IndexByteString", "internal/abi.NoEscape", "internal/bytealg.IndexString"], named := ["internal/bytealg.MaxLen"], apart := false, narrowed := true }
def GlobMatchesUptoSaid : Prop := globMatchesUptoRow.holds Try.pinned (OpenSpec.upto globMatchesSpec)

/-- 'bobstaylaw01.GlobQuoted', WHERE WHAT IT READS IS OF BULK AT MOST 1048576: true; the input reads as it did. -/
def globQuotedUptoRow : OpenClaim := { program := "ytcailjmcjgpfmaa", sum := "b8c38bedb615bf6e8b0b3b3bd88e93586086840ef43030d3971467f9efdd59b4", func := "bobstay/bobstaylaw01.GlobQuoted", spec := "globQuoted", inPlace := ["internal/bytealg.IndexByteString", "internal/abi.NoEscape", "internal/bytealg.IndexString"], named := ["internal/bytealg.MaxLen"], apart := false, narrowed := true }
def GlobQuotedUptoSaid : Prop := globQuotedUptoRow.holds Try.pinned (OpenSpec.upto globQuotedSpec)

/-- 'bobstaylaw01.GlobAll', WHERE WHAT IT READS IS OF BULK AT MOST 1048576: true; the input reads as it did. -/
def globAllUptoRow : OpenClaim := { program := "ytcailjmcjgpfmaa", sum := "b8c38bedb615bf6e8b0b3b3bd88e93586086840ef43030d3971467f9efdd59b4", func := "bobstay/bobstaylaw01.GlobAll", spec := "globAll", inPlace := ["internal/bytealg.IndexByteString", "internal/abi.NoEscape", "internal/bytealg.IndexString"], named := ["internal/bytealg.MaxLen"], apart := false, narrowed := true }
def GlobAllUptoSaid : Prop := globAllUptoRow.holds Try.pinned (OpenSpec.upto globAllSpec)

/-- 'bobstaylaw01.GlobBoth', WHERE WHAT IT READS IS OF BULK AT MOST 1048576: true; the input reads as it did. -/
def globBothUptoRow : OpenClaim := { program := "ytcailjmcjgpfmaa", sum := "b8c38bedb615bf6e8b0b3b3bd88e93586086840ef43030d3971467f9efdd59b4", func := "bobstay/bobstaylaw01.GlobBoth", spec := "globBoth", inPlace := ["internal/bytealg.IndexByteString", "internal/abi.NoEscape", "internal/bytealg.IndexString"], named := ["internal/bytealg.MaxLen"], apart := false, narrowed := true }
def GlobBothUptoSaid : Prop := globBothUptoRow.holds Try.pinned (OpenSpec.upto globBothSpec)

/-- 'bobstaylaw01.GlobParts', WHERE WHAT IT READS IS OF BULK AT MOST 1048576: true; the input reads as it did. -/
def globPartsUptoRow : OpenClaim := { program := "ytcailjmcjgpfmaa", sum := "b8c38bedb615bf6e8b0b3b3bd88e93586086840ef43030d3971467f9efdd59b4", func := "bobstay/bobstaylaw01.GlobParts", spec := "globParts", inPlace := ["internal/bytealg.IndexByteString", "internal/abi.NoEscape", "internal/bytealg.IndexString"], named := ["internal/bytealg.MaxLen"], apart := false, narrowed := true }
def GlobPartsUptoSaid : Prop := globPartsUptoRow.holds Try.pinned (OpenSpec.upto globPartsSpec)

/-- 'bobstaylaw01.GlobFilters', WHERE WHAT IT READS IS OF BULK AT MOST 1048576: true; the input reads as it did. -/
def globFiltersUptoRow : OpenClaim := { program := "ytcailjmcjgpfmaa", sum := "b8c38bedb615bf6e8b0b3b3bd88e93586086840ef43030d3971467f9efdd59b4", func := "bobstay/bobstaylaw01.GlobFilters", spec := "globFilters", inPlace := ["internal/bytealg.IndexByteString", "internal/abi.NoEscape", "internal/bytealg.IndexString"], named := ["internal/bytealg.MaxLen"], apart := false, narrowed := true }
def GlobFiltersUptoSaid : Prop := globFiltersUptoRow.holds Try.pinned (OpenSpec.upto globFiltersSpec)

end Rows
end Go.Proofs.Ytcailjmcjgpfmaa
