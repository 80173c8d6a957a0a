/-
  No cell of these rows narrows 'for every input' (looked for: loops, veiled, ifaces, maps, wideKeys, modest, calm, conditions, laid).
  DERIVED. THE GIVEN ROWS OF THIS SEAT. 5 by the template 'for every input the law returns true; each argument reads behind the call as it read before'; 0 by the template 'total and deterministic' (their statements: YtpgfffibiogekaaTotals.lean).
  GIVEN WITH THE SEED: the statements are not yours to turn. If you find one false, say at which input.
  Laid BY PROGRAM, IN A SANDBOX (cutbox-rows.mjs): the forced cells as the released guide's own fill.sh prints them over the translation e6bbe791728887f6… (all of the seat's roots in one cut). By AI agents, Wed Nov 11 2026. No macro, syntax, notation, axiom, sorry.
-/
import Derived.Test.YtpgfffibiogekaaChecked
import GoSem.Claim
import GoSem.ClaimJoined
import GoSem.ClaimMapViews
import Derived.JoinedTies
import Derived.KernelRfl
namespace Go.Proofs.Ytpgfffibiogekaa
/- THE CELL 'sum', in the pinned program and in every row, IS THE sha256 OF THE DUMP (.gsa) THAT YtpgfffibiogekaaProg.lean LOADS. Nothing in Lean hashes anything: it is a label: what it is worth is what the hold of that sum in a sandbox is worth. -/
noncomputable def Try.pinned : Pinned := { name := "ytpgfffibiogekaa", sum := "e6bbe791728887f65e3e177b0c2e1566ecd011b0cde7f80a6ced0d7035d9ccdc", checked := Try.checked }
namespace Rows
def none {H : Type} : Left H := { results := [], args := [] }

/-- 'bobstaylaw07.VarsHides': WHATEVER THE INPUT: true; the input reads as it did. -/
def varsHidesSpec : ChangeSpec := { name := "varsHides", fn := fun _ => fun
  | [d1, d2, d3] => { results := [.lit (.bool true)], args := [d1, d2, d3] }
  | _ => none }
def varsHidesRow : OpenClaim := { program := "ytpgfffibiogekaa", sum := "e6bbe791728887f65e3e177b0c2e1566ecd011b0cde7f80a6ced0d7035d9ccdc", func := "bobstay/bobstaylaw07.VarsHides", spec := "varsHides", inPlace := ["internal/bytealg.IndexByteString", "internal/bytealg.IndexString"], named := ["internal/bytealg.MaxLen"], apart := false }
def VarsHidesSaid : Prop := varsHidesRow.holds Try.pinned (OpenSpec.ofChange varsHidesSpec)

/-- ITS FALSE NEIGHBOUR: 'it returns false'. Refute it at one input. -/
def varsHidesWrong : ChangeSpec := { name := "varsHides", fn := fun _ => fun
  | [d1, d2, d3] => { results := [.lit (.bool false)], args := [d1, d2, d3] }
  | _ => none }
def VarsHidesWrongFalsely : Prop := varsHidesRow.holds Try.pinned (OpenSpec.ofChange varsHidesWrong)

/-- 'bobstaylaw07.VarsMany': WHATEVER THE INPUT: true; the input reads as it did. -/
def varsManySpec : ChangeSpec := { name := "varsMany", fn := fun _ => fun
  | [d1, d2] => { results := [.lit (.bool true)], args := [d1, d2] }
  | _ => none }
def varsManyRow : OpenClaim := { program := "ytpgfffibiogekaa", sum := "e6bbe791728887f65e3e177b0c2e1566ecd011b0cde7f80a6ced0d7035d9ccdc", func := "bobstay/bobstaylaw07.VarsMany", spec := "varsMany", inPlace := ["internal/bytealg.IndexByteString", "internal/bytealg.IndexString"], unfollowed := true, recurses := true, named := ["internal/bytealg.MaxLen"], apart := false }
def VarsManySaid : Prop := varsManyRow.holds Try.pinned (OpenSpec.ofChange varsManySpec)

/-- ITS FALSE NEIGHBOUR: 'it returns false'. Refute it at one input. -/
def varsManyWrong : ChangeSpec := { name := "varsMany", fn := fun _ => fun
  | [d1, d2] => { results := [.lit (.bool false)], args := [d1, d2] }
  | _ => none }
def VarsManyWrongFalsely : Prop := varsManyRow.holds Try.pinned (OpenSpec.ofChange varsManyWrong)

/-- 'bobstaylaw07.VarsPlays': WHATEVER THE INPUT: true; the input reads as it did. -/
def varsPlaysSpec : ChangeSpec := { name := "varsPlays", fn := fun _ => fun
  | [d1, d2] => { results := [.lit (.bool true)], args := [d1, d2] }
  | _ => none }
def varsPlaysRow : OpenClaim := { program := "ytpgfffibiogekaa", sum := "e6bbe791728887f65e3e177b0c2e1566ecd011b0cde7f80a6ced0d7035d9ccdc", func := "bobstay/bobstaylaw07.VarsPlays", spec := "varsPlays", inPlace := ["internal/bytealg.IndexByteString", "internal/bytealg.IndexString"], unfollowed := true, recurses := true, named := ["internal/bytealg.MaxLen"], apart := false }
def VarsPlaysSaid : Prop := varsPlaysRow.holds Try.pinned (OpenSpec.ofChange varsPlaysSpec)

/-- ITS FALSE NEIGHBOUR: 'it returns false'. Refute it at one input. -/
def varsPlaysWrong : ChangeSpec := { name := "varsPlays", fn := fun _ => fun
  | [d1, d2] => { results := [.lit (.bool false)], args := [d1, d2] }
  | _ => none }
def VarsPlaysWrongFalsely : Prop := varsPlaysRow.holds Try.pinned (OpenSpec.ofChange varsPlaysWrong)

/-- 'bobstaylaw07.VarsRefused': WHATEVER THE INPUT: true; the input reads as it did. -/
def varsRefusedSpec : ChangeSpec := { name := "varsRefused", fn := fun _ => fun
  | [d1, d2] => { results := [.lit (.bool true)], args := [d1, d2] }
  | _ => none }
def varsRefusedRow : OpenClaim := { program := "ytpgfffibiogekaa", sum := "e6bbe791728887f65e3e177b0c2e1566ecd011b0cde7f80a6ced0d7035d9ccdc", func := "bobstay/bobstaylaw07.VarsRefused", spec := "varsRefused", inPlace := ["internal/bytealg.IndexByteString", "internal/bytealg.IndexString"], unfollowed := true, recurses := true, named := ["internal/bytealg.MaxLen"], apart := false }
def VarsRefusedSaid : Prop := varsRefusedRow.holds Try.pinned (OpenSpec.ofChange varsRefusedSpec)

/-- ITS FALSE NEIGHBOUR: 'it returns false'. Refute it at one input. -/
def varsRefusedWrong : ChangeSpec := { name := "varsRefused", fn := fun _ => fun
  | [d1, d2] => { results := [.lit (.bool false)], args := [d1, d2] }
  | _ => none }
def VarsRefusedWrongFalsely : Prop := varsRefusedRow.holds Try.pinned (OpenSpec.ofChange varsRefusedWrong)

/-- 'bobstaylaw07.VarsApart': WHATEVER THE INPUT: true; the input reads as it did. -/
def varsApartSpec : ChangeSpec := { name := "varsApart", fn := fun _ => fun
  | [d1, d2] => { results := [.lit (.bool true)], args := [d1, d2] }
  | _ => none }
def varsApartRow : OpenClaim := { program := "ytpgfffibiogekaa", sum := "e6bbe791728887f65e3e177b0c2e1566ecd011b0cde7f80a6ced0d7035d9ccdc", func := "bobstay/bobstaylaw07.VarsApart", spec := "varsApart", inPlace := ["internal/bytealg.IndexByteString", "internal/bytealg.IndexString", "maps.clone"], unfollowed := true, recurses := true, named := ["internal/bytealg.MaxLen"], apart := false }
def VarsApartSaid : Prop := varsApartRow.holds Try.pinned (OpenSpec.ofChange varsApartSpec)

/-- ITS FALSE NEIGHBOUR: 'it returns false'. Refute it at one input. -/
def varsApartWrong : ChangeSpec := { name := "varsApart", fn := fun _ => fun
  | [d1, d2] => { results := [.lit (.bool false)], args := [d1, d2] }
  | _ => none }
def VarsApartWrongFalsely : Prop := varsApartRow.holds Try.pinned (OpenSpec.ofChange varsApartWrong)

/- THE SECOND FORM. 'bulk': how many values and letters a reading holds, each counted each time it is reached (what is shared counts as often as it is met; a slice's spare places count too). A statement '..UptoSaid' is the law's where the arguments, and the package variables that the reading takes, are together of bulk at most 1048576: NARROWER than '..Said'. Prove '..Said' where nothing that the law and all that it calls make is longer than what came in: it says more and counts as full. Else prove '..UptoSaid'. A law counts once. -/
mutual
def uptoBulk {H : Type} : DataW H → Nat
  | .lit (.string bytes) => bytes.length + 1
  | .lit _ => 1
  | .nil => 1
  | .ptr d => uptoBulk d + 1
  | .slice elems spare => uptoBulkAll elems + uptoBulkAll spare + 1
  | .agg parts => uptoBulkAll parts + 1
  | .iface _ d => uptoBulk d + 1
  | .map entries => uptoBulkEntries entries + 1
  | .held _ => 1
def uptoBulkAll {H : Type} : List (DataW H) → Nat
  | [] => 0
  | d :: r => uptoBulk d + uptoBulkAll r
def uptoBulkEntries {H : Type} : List (Lit × DataW H) → Nat
  | [] => 0
  | x :: r => uptoBulkEntry x + uptoBulkEntries r
def uptoBulkEntry {H : Type} : Lit × DataW H → Nat
  | (.string bytes, d) => bytes.length + uptoBulk d + 1
  | (_, d) => uptoBulk d + 1
 end
def uptoSmall : (H : Type) → List (DataW H) → Bool := fun _ ds => decide (uptoBulkAll ds ≤ 1048576)
def OpenSpec.upto (s : _root_.Go.ChangeSpec) : _root_.Go.OpenSpec := { _root_.Go.OpenSpec.ofChange s with cond := some uptoSmall }

/-- 'bobstaylaw07.VarsHides', WHERE WHAT IT READS IS OF BULK AT MOST 1048576: true; the input reads as it did. -/
def varsHidesUptoRow : OpenClaim := { program := "ytpgfffibiogekaa", sum := "e6bbe791728887f65e3e177b0c2e1566ecd011b0cde7f80a6ced0d7035d9ccdc", func := "bobstay/bobstaylaw07.VarsHides", spec := "varsHides", inPlace := ["internal/bytealg.IndexByteString", "internal/bytealg.IndexString"], named := ["internal/bytealg.MaxLen"], apart := false, narrowed := true }
def VarsHidesUptoSaid : Prop := varsHidesUptoRow.holds Try.pinned (OpenSpec.upto varsHidesSpec)

/-- 'bobstaylaw07.VarsMany', WHERE WHAT IT READS IS OF BULK AT MOST 1048576: true; the input reads as it did. -/
def varsManyUptoRow : OpenClaim := { program := "ytpgfffibiogekaa", sum := "e6bbe791728887f65e3e177b0c2e1566ecd011b0cde7f80a6ced0d7035d9ccdc", func := "bobstay/bobstaylaw07.VarsMany", spec := "varsMany", inPlace := ["internal/bytealg.IndexByteString", "internal/bytealg.IndexString"], unfollowed := true, recurses := true, named := ["internal/bytealg.MaxLen"], apart := false, narrowed := true }
def VarsManyUptoSaid : Prop := varsManyUptoRow.holds Try.pinned (OpenSpec.upto varsManySpec)

/-- 'bobstaylaw07.VarsPlays', WHERE WHAT IT READS IS OF BULK AT MOST 1048576: true; the input reads as it did. -/
def varsPlaysUptoRow : OpenClaim := { program := "ytpgfffibiogekaa", sum := "e6bbe791728887f65e3e177b0c2e1566ecd011b0cde7f80a6ced0d7035d9ccdc", func := "bobstay/bobstaylaw07.VarsPlays", spec := "varsPlays", inPlace := ["internal/bytealg.IndexByteString", "internal/bytealg.IndexString"], unfollowed := true, recurses := true, named := ["internal/bytealg.MaxLen"], apart := false, narrowed := true }
def VarsPlaysUptoSaid : Prop := varsPlaysUptoRow.holds Try.pinned (OpenSpec.upto varsPlaysSpec)

/-- 'bobstaylaw07.VarsRefused', WHERE WHAT IT READS IS OF BULK AT MOST 1048576: true; the input reads as it did. -/
def varsRefusedUptoRow : OpenClaim := { program := "ytpgfffibiogekaa", sum := "e6bbe791728887f65e3e177b0c2e1566ecd011b0cde7f80a6ced0d7035d9ccdc", func := "bobstay/bobstaylaw07.VarsRefused", spec := "varsRefused", inPlace := ["internal/bytealg.IndexByteString", "internal/bytealg.IndexString"], unfollowed := true, recurses := true, named := ["internal/bytealg.MaxLen"], apart := false, narrowed := true }
def VarsRefusedUptoSaid : Prop := varsRefusedUptoRow.holds Try.pinned (OpenSpec.upto varsRefusedSpec)

/-- 'bobstaylaw07.VarsApart', WHERE WHAT IT READS IS OF BULK AT MOST 1048576: true; the input reads as it did. -/
def varsApartUptoRow : OpenClaim := { program := "ytpgfffibiogekaa", sum := "e6bbe791728887f65e3e177b0c2e1566ecd011b0cde7f80a6ced0d7035d9ccdc", func := "bobstay/bobstaylaw07.VarsApart", spec := "varsApart", inPlace := ["internal/bytealg.IndexByteString", "internal/bytealg.IndexString", "maps.clone"], unfollowed := true, recurses := true, named := ["internal/bytealg.MaxLen"], apart := false, narrowed := true }
def VarsApartUptoSaid : Prop := varsApartUptoRow.holds Try.pinned (OpenSpec.upto varsApartSpec)

end Rows
end Go.Proofs.Ytpgfffibiogekaa
