/-
  NARROWER THAN 'FOR EVERY INPUT', by the rows' own cells (each row's printed sentence says how): LoopBinds: laid · LoopUnused: laid · LoopAll: laid · LoopRounds: laid · LoopBack: laid.
  DERIVED. THE GIVEN ROWS OF THIS SEAT. 5 by the template 'for every input the law returns true; each argument reads behind the call as it read before'; 0 by the template 'total and deterministic' (their statements: YtiedbnjoomcdbaaDoorTotals.lean).
  GIVEN WITH THE SEED: the statements are not yours to turn. If you find one false, say at which input.
  Laid BY PROGRAM, IN A SANDBOX (cutbox-rows.mjs): the forced cells as the released guide's own fill.sh prints them over the translation b06590d1af81a50d… (all of the seat's roots in one cut). By AI agents, Wed Nov 11 2026. No macro, syntax, notation, axiom, sorry.
-/
import Derived.Test.YtiedbnjoomcdbaaDoorChecked
import GoSem.PinnedTables
import GoSem.Claim
import GoSem.ClaimJoined
import GoSem.ClaimMapViews
import Derived.JoinedTies
import Derived.KernelRfl
namespace Go.Proofs.YtiedbnjoomcdbaaDoor
/- THE CELL 'sum', in the pinned program and in every row, IS THE sha256 OF THE DUMP (.gsa) THAT YtiedbnjoomcdbaaDoorProg.lean LOADS. Nothing in Lean hashes anything: it is a label: what it is worth is what the hold of that sum in a sandbox is worth. -/
noncomputable def Tryd.pinned : Pinned := { name := "ytiedbnjoomcdbaadoor", sum := "b06590d1af81a50d8e9f81a8539a16a51c3ce9c2b0d2b5168f6485504c501d20", checked := Tryd.checked }
namespace Rows
def none {H : Type} : Left H := { results := [], args := [] }

/- WHAT THE LISTED PACKAGE-LEVEL VARIABLES READ AS WHEN THE CALL BEGINS. Each datum BY PROGRAM (the guide's laid-datum.mjs) off the statement by which the dump's own 'gosem.cut.vars' lays the variable. In a bare row this is a premise. The card (YtiedbnjoomcdbaaDoorCards.lean) ties it to the program's text. -/
def laid_unicode_utf8_acceptRanges {H : Type} : DataW H := .agg [.agg [.lit (.int .u8 128), .lit (.int .u8 191)], .agg [.lit (.int .u8 160), .lit (.int .u8 191)], .agg [.lit (.int .u8 128), .lit (.int .u8 159)], .agg [.lit (.int .u8 144), .lit (.int .u8 191)], .agg [.lit (.int .u8 128), .lit (.int .u8 143)], .agg [.lit (.int .u8 0), .lit (.int .u8 0)], .agg [.lit (.int .u8 0), .lit (.int .u8 0)], .agg [.lit (.int .u8 0), .lit (.int .u8 0)], .agg [.lit (.int .u8 0), .lit (.int .u8 0)], .agg [.lit (.int .u8 0), .lit (.int .u8 0)], .agg [.lit (.int .u8 0), .lit (.int .u8 0)], .agg [.lit (.int .u8 0), .lit (.int .u8 0)], .agg [.lit (.int .u8 0), .lit (.int .u8 0)], .agg [.lit (.int .u8 0), .lit (.int .u8 0)], .agg [.lit (.int .u8 0), .lit (.int .u8 0)], .agg [.lit (.int .u8 0), .lit (.int .u8 0)]]
/-- One of Go's own tables, pinned by name: the form's constant. -/
def laid_unicode_utf8_first : DataW Unit := Go.Pinned.utf8First

/-- 'bobstaylaw12.LoopBinds': WHATEVER THE INPUT: true; the input reads as it did. -/
def loopBindsSpec : ChangeSpec := { name := "loopBinds", fn := fun _ => fun
  | [d1, d2, d3] => { results := [.lit (.bool true)], args := [d1, d2, d3] }
  | _ => none }
def loopBindsRow : OpenClaim := { program := "ytiedbnjoomcdbaadoor", sum := "b06590d1af81a50d8e9f81a8539a16a51c3ce9c2b0d2b5168f6485504c501d20", func := "bobstay/bobstaylaw12.LoopBinds", spec := "loopBinds", inPlace := ["internal/bytealg.IndexByteString", "internal/bytealg.IndexString", "internal/abi.NoEscape", "internal/bytealg.CountString", "internal/bytealg.MakeNoZero"], unfollowed := true, recurses := true, named := ["unicode/utf8.first", "unicode/utf8.acceptRanges", "internal/bytealg.MaxLen"], apart := false, laid := [("unicode/utf8.acceptRanges", laid_unicode_utf8_acceptRanges), ("unicode/utf8.first", laid_unicode_utf8_first)] }
def LoopBindsSaid : Prop := loopBindsRow.holds Tryd.pinned (OpenSpec.ofChange loopBindsSpec)

/-- ITS FALSE NEIGHBOUR: 'it returns false'. Refute it at one input. -/
def loopBindsWrong : ChangeSpec := { name := "loopBinds", fn := fun _ => fun
  | [d1, d2, d3] => { results := [.lit (.bool false)], args := [d1, d2, d3] }
  | _ => none }
def LoopBindsWrongFalsely : Prop := loopBindsRow.holds Tryd.pinned (OpenSpec.ofChange loopBindsWrong)

/-- 'bobstaylaw12.LoopUnused': WHATEVER THE INPUT: true; the input reads as it did. -/
def loopUnusedSpec : ChangeSpec := { name := "loopUnused", fn := fun _ => fun
  | [d1, d2, d3] => { results := [.lit (.bool true)], args := [d1, d2, d3] }
  | _ => none }
def loopUnusedRow : OpenClaim := { program := "ytiedbnjoomcdbaadoor", sum := "b06590d1af81a50d8e9f81a8539a16a51c3ce9c2b0d2b5168f6485504c501d20", func := "bobstay/bobstaylaw12.LoopUnused", spec := "loopUnused", inPlace := ["internal/bytealg.IndexByteString", "internal/bytealg.IndexString", "internal/abi.NoEscape", "internal/bytealg.CountString", "internal/bytealg.MakeNoZero"], unfollowed := true, recurses := true, named := ["unicode/utf8.first", "unicode/utf8.acceptRanges", "internal/bytealg.MaxLen"], apart := false, laid := [("unicode/utf8.acceptRanges", laid_unicode_utf8_acceptRanges), ("unicode/utf8.first", laid_unicode_utf8_first)] }
def LoopUnusedSaid : Prop := loopUnusedRow.holds Tryd.pinned (OpenSpec.ofChange loopUnusedSpec)

/-- ITS FALSE NEIGHBOUR: 'it returns false'. Refute it at one input. -/
def loopUnusedWrong : ChangeSpec := { name := "loopUnused", fn := fun _ => fun
  | [d1, d2, d3] => { results := [.lit (.bool false)], args := [d1, d2, d3] }
  | _ => none }
def LoopUnusedWrongFalsely : Prop := loopUnusedRow.holds Tryd.pinned (OpenSpec.ofChange loopUnusedWrong)

/-- 'bobstaylaw12.LoopAll': WHATEVER THE INPUT: true; the input reads as it did. -/
def loopAllSpec : ChangeSpec := { name := "loopAll", fn := fun _ => fun
  | [d] => { results := [.lit (.bool true)], args := [d] }
  | _ => none }
def loopAllRow : OpenClaim := { program := "ytiedbnjoomcdbaadoor", sum := "b06590d1af81a50d8e9f81a8539a16a51c3ce9c2b0d2b5168f6485504c501d20", func := "bobstay/bobstaylaw12.LoopAll", spec := "loopAll", inPlace := ["internal/bytealg.IndexByteString", "internal/bytealg.IndexString", "internal/abi.NoEscape", "internal/bytealg.CountString", "internal/bytealg.MakeNoZero"], unfollowed := true, recurses := true, named := ["unicode/utf8.first", "unicode/utf8.acceptRanges", "internal/bytealg.MaxLen"], apart := false, laid := [("unicode/utf8.acceptRanges", laid_unicode_utf8_acceptRanges), ("unicode/utf8.first", laid_unicode_utf8_first)] }
def LoopAllSaid : Prop := loopAllRow.holds Tryd.pinned (OpenSpec.ofChange loopAllSpec)

/-- ITS FALSE NEIGHBOUR: 'it returns false'. Refute it at one input. -/
def loopAllWrong : ChangeSpec := { name := "loopAll", fn := fun _ => fun
  | [d] => { results := [.lit (.bool false)], args := [d] }
  | _ => none }
def LoopAllWrongFalsely : Prop := loopAllRow.holds Tryd.pinned (OpenSpec.ofChange loopAllWrong)

/-- 'bobstaylaw12.LoopRounds': WHATEVER THE INPUT: true; the input reads as it did. -/
def loopRoundsSpec : ChangeSpec := { name := "loopRounds", fn := fun _ => fun
  | [d1, d2] => { results := [.lit (.bool true)], args := [d1, d2] }
  | _ => none }
def loopRoundsRow : OpenClaim := { program := "ytiedbnjoomcdbaadoor", sum := "b06590d1af81a50d8e9f81a8539a16a51c3ce9c2b0d2b5168f6485504c501d20", func := "bobstay/bobstaylaw12.LoopRounds", spec := "loopRounds", inPlace := ["internal/bytealg.IndexByteString", "internal/bytealg.IndexString", "internal/abi.NoEscape", "internal/bytealg.CountString", "internal/bytealg.MakeNoZero"], unfollowed := true, recurses := true, named := ["unicode/utf8.first", "unicode/utf8.acceptRanges", "internal/bytealg.MaxLen"], apart := false, laid := [("unicode/utf8.acceptRanges", laid_unicode_utf8_acceptRanges), ("unicode/utf8.first", laid_unicode_utf8_first)] }
def LoopRoundsSaid : Prop := loopRoundsRow.holds Tryd.pinned (OpenSpec.ofChange loopRoundsSpec)

/-- ITS FALSE NEIGHBOUR: 'it returns false'. Refute it at one input. -/
def loopRoundsWrong : ChangeSpec := { name := "loopRounds", fn := fun _ => fun
  | [d1, d2] => { results := [.lit (.bool false)], args := [d1, d2] }
  | _ => none }
def LoopRoundsWrongFalsely : Prop := loopRoundsRow.holds Tryd.pinned (OpenSpec.ofChange loopRoundsWrong)

/-- 'bobstaylaw12.LoopBack': WHATEVER THE INPUT: true; the input reads as it did. -/
def loopBackSpec : ChangeSpec := { name := "loopBack", fn := fun _ => fun
  | [d] => { results := [.lit (.bool true)], args := [d] }
  | _ => none }
def loopBackRow : OpenClaim := { program := "ytiedbnjoomcdbaadoor", sum := "b06590d1af81a50d8e9f81a8539a16a51c3ce9c2b0d2b5168f6485504c501d20", func := "bobstay/bobstaylaw12.LoopBack", spec := "loopBack", inPlace := ["internal/bytealg.IndexByteString", "internal/bytealg.IndexString", "internal/abi.NoEscape", "internal/bytealg.CountString", "internal/bytealg.MakeNoZero"], unfollowed := true, recurses := true, named := ["unicode/utf8.first", "unicode/utf8.acceptRanges", "internal/bytealg.MaxLen"], apart := false, laid := [("unicode/utf8.acceptRanges", laid_unicode_utf8_acceptRanges), ("unicode/utf8.first", laid_unicode_utf8_first)] }
def LoopBackSaid : Prop := loopBackRow.holds Tryd.pinned (OpenSpec.ofChange loopBackSpec)

/-- ITS FALSE NEIGHBOUR: 'it returns false'. Refute it at one input. -/
def loopBackWrong : ChangeSpec := { name := "loopBack", fn := fun _ => fun
  | [d] => { results := [.lit (.bool false)], args := [d] }
  | _ => none }
def LoopBackWrongFalsely : Prop := loopBackRow.holds Tryd.pinned (OpenSpec.ofChange loopBackWrong)

/- THE SECOND FORM. 'bulk': how many values and letters a reading holds, each counted each time it is reached (what is shared counts as often as it is met; a slice's spare places count too). A statement '..UptoSaid' is the law's where the arguments, and the package variables that the reading takes, are together of bulk at most 1048576: NARROWER than '..Said'. Prove '..Said' where nothing that the law and all that it calls make is longer than what came in: it says more and counts as full. Else prove '..UptoSaid'. A law counts once. -/
mutual
def uptoBulk {H : Type} : DataW H → Nat
  | .lit (.string bytes) => bytes.length + 1
  | .lit _ => 1
  | .nil => 1
  | .ptr d => uptoBulk d + 1
  | .slice elems spare => uptoBulkAll elems + uptoBulkAll spare + 1
  | .agg parts => uptoBulkAll parts + 1
  | .iface _ d => uptoBulk d + 1
  | .map entries => uptoBulkEntries entries + 1
  | .held _ => 1
def uptoBulkAll {H : Type} : List (DataW H) → Nat
  | [] => 0
  | d :: r => uptoBulk d + uptoBulkAll r
def uptoBulkEntries {H : Type} : List (Lit × DataW H) → Nat
  | [] => 0
  | x :: r => uptoBulkEntry x + uptoBulkEntries r
def uptoBulkEntry {H : Type} : Lit × DataW H → Nat
  | (.string bytes, d) => bytes.length + uptoBulk d + 1
  | (_, d) => uptoBulk d + 1
 end
def uptoSmall : (H : Type) → List (DataW H) → Bool := fun _ ds => decide (uptoBulkAll ds ≤ 1048576)
def OpenSpec.upto (s : _root_.Go.ChangeSpec) : _root_.Go.OpenSpec := { _root_.Go.OpenSpec.ofChange s with cond := some uptoSmall }

/-- 'bobstaylaw12.LoopBinds', WHERE WHAT IT READS IS OF BULK AT MOST 1048576: true; the input reads as it did. -/
def loopBindsUptoRow : OpenClaim := { program := "ytiedbnjoomcdbaadoor", sum := "b06590d1af81a50d8e9f81a8539a16a51c3ce9c2b0d2b5168f6485504c501d20", func := "bobstay/bobstaylaw12.LoopBinds", spec := "loopBinds", inPlace := ["internal/bytealg.IndexByteString", "internal/bytealg.IndexString", "internal/abi.NoEscape", "internal/bytealg.CountString", "internal/bytealg.MakeNoZero"], unfollowed := true, recurses := true, named := ["unicode/utf8.first", "unicode/utf8.acceptRanges", "internal/bytealg.MaxLen"], apart := false, laid := [("unicode/utf8.acceptRanges", laid_unicode_utf8_acceptRanges), ("unicode/utf8.first", laid_unicode_utf8_first)], narrowed := true }
def LoopBindsUptoSaid : Prop := loopBindsUptoRow.holds Tryd.pinned (OpenSpec.upto loopBindsSpec)

/-- 'bobstaylaw12.LoopUnused', WHERE WHAT IT READS IS OF BULK AT MOST 1048576: true; the input reads as it did. -/
def loopUnusedUptoRow : OpenClaim := { program := "ytiedbnjoomcdbaadoor", sum := "b06590d1af81a50d8e9f81a8539a16a51c3ce9c2b0d2b5168f6485504c501d20", func := "bobstay/bobstaylaw12.LoopUnused", spec := "loopUnused", inPlace := ["internal/bytealg.IndexByteString", "internal/bytealg.IndexString", "internal/abi.NoEscape", "internal/bytealg.CountString", "internal/bytealg.MakeNoZero"], unfollowed := true, recurses := true, named := ["unicode/utf8.first", "unicode/utf8.acceptRanges", "internal/bytealg.MaxLen"], apart := false, laid := [("unicode/utf8.acceptRanges", laid_unicode_utf8_acceptRanges), ("unicode/utf8.first", laid_unicode_utf8_first)], narrowed := true }
def LoopUnusedUptoSaid : Prop := loopUnusedUptoRow.holds Tryd.pinned (OpenSpec.upto loopUnusedSpec)

/-- 'bobstaylaw12.LoopAll', WHERE WHAT IT READS IS OF BULK AT MOST 1048576: true; the input reads as it did. -/
def loopAllUptoRow : OpenClaim := { program := "ytiedbnjoomcdbaadoor", sum := "b06590d1af81a50d8e9f81a8539a16a51c3ce9c2b0d2b5168f6485504c501d20", func := "bobstay/bobstaylaw12.LoopAll", spec := "loopAll", inPlace := ["internal/bytealg.IndexByteString", "internal/bytealg.IndexString", "internal/abi.NoEscape", "internal/bytealg.CountString", "internal/bytealg.MakeNoZero"], unfollowed := true, recurses := true, named := ["unicode/utf8.first", "unicode/utf8.acceptRanges", "internal/bytealg.MaxLen"], apart := false, laid := [("unicode/utf8.acceptRanges", laid_unicode_utf8_acceptRanges), ("unicode/utf8.first", laid_unicode_utf8_first)], narrowed := true }
def LoopAllUptoSaid : Prop := loopAllUptoRow.holds Tryd.pinned (OpenSpec.upto loopAllSpec)

/-- 'bobstaylaw12.LoopRounds', WHERE WHAT IT READS IS OF BULK AT MOST 1048576: true; the input reads as it did. -/
def loopRoundsUptoRow : OpenClaim := { program := "ytiedbnjoomcdbaadoor", sum := "b06590d1af81a50d8e9f81a8539a16a51c3ce9c2b0d2b5168f6485504c501d20", func := "bobstay/bobstaylaw12.LoopRounds", spec := "loopRounds", inPlace := ["internal/bytealg.IndexByteString", "internal/bytealg.IndexString", "internal/abi.NoEscape", "internal/bytealg.CountString", "internal/bytealg.MakeNoZero"], unfollowed := true, recurses := true, named := ["unicode/utf8.first", "unicode/utf8.acceptRanges", "internal/bytealg.MaxLen"], apart := false, laid := [("unicode/utf8.acceptRanges", laid_unicode_utf8_acceptRanges), ("unicode/utf8.first", laid_unicode_utf8_first)], narrowed := true }
def LoopRoundsUptoSaid : Prop := loopRoundsUptoRow.holds Tryd.pinned (OpenSpec.upto loopRoundsSpec)

/-- 'bobstaylaw12.LoopBack', WHERE WHAT IT READS IS OF BULK AT MOST 1048576: true; the input reads as it did. -/
def loopBackUptoRow : OpenClaim := { program := "ytiedbnjoomcdbaadoor", sum := "b06590d1af81a50d8e9f81a8539a16a51c3ce9c2b0d2b5168f6485504c501d20", func := "bobstay/bobstaylaw12.LoopBack", spec := "loopBack", inPlace := ["internal/bytealg.IndexByteString", "internal/bytealg.IndexString", "internal/abi.NoEscape", "internal/bytealg.CountString", "internal/bytealg.MakeNoZero"], unfollowed := true, recurses := true, named := ["unicode/utf8.first", "unicode/utf8.acceptRanges", "internal/bytealg.MaxLen"], apart := false, laid := [("unicode/utf8.acceptRanges", laid_unicode_utf8_acceptRanges), ("unicode/utf8.first", laid_unicode_utf8_first)], narrowed := true }
def LoopBackUptoSaid : Prop := loopBackUptoRow.holds Tryd.pinned (OpenSpec.upto loopBackSpec)

end Rows
end Go.Proofs.YtiedbnjoomcdbaaDoor
