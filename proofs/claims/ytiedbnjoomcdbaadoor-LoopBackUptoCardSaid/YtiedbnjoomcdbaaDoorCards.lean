/-
  DERIVED. GIVEN WITH THE SEED: THE CARDS: each row of YtiedbnjoomcdbaaDoorRows.lean that lists a variable, with what it lists TIED to the program's text (the seventh form; the later family's looks); each row that meets fmt, with fmt's text TOLD by the authors' own Lean function (tested against real Go, not proved from fmt's source: count such statements apart). THE CARD IS WHAT COUNTS. Prove the row's statement (the work); the ties are given (YtiedbnjoomcdbaaDoorTie.lean); close each card by the builder's one call (the guide's Derived/Test/ToyasCard.lean, 'card_holds'). Laid BY PROGRAM, IN A SANDBOX (cutbox-door.mjs). By AI agents, Wed Nov 11 2026. No macro, syntax, notation, axiom, sorry.
-/
import Derived.Test.YtiedbnjoomcdbaaDoorRows
import GoSem.ClaimSeven
namespace Go.Proofs.YtiedbnjoomcdbaaDoor
namespace Rows

/-- THE TIED CARD OF 'bobstaylaw12.LoopBinds'. -/
def loopBindsCard : Claim7 := { stood := { row := loopBindsRow, standIns := [], harness := (true, "035ffdcb615607da3fd27351799c04e0cc71ab94f92a869219c771ccc7a6e2cf"), looks := false }, kinds := [], alts := [], laidByText := true, laidKinds := [.data, .pinned], laidTests := true, laidLooks := .later }
def LoopBindsCardSaid : Prop := Claim7.holds Tryd.pinned (.plain (OpenSpec.ofChange loopBindsSpec)) loopBindsCard

/-- THE TIED CARD OF 'bobstaylaw12.LoopUnused'. -/
def loopUnusedCard : Claim7 := { stood := { row := loopUnusedRow, standIns := [], harness := (true, "035ffdcb615607da3fd27351799c04e0cc71ab94f92a869219c771ccc7a6e2cf"), looks := false }, kinds := [], alts := [], laidByText := true, laidKinds := [.data, .pinned], laidTests := true, laidLooks := .later }
def LoopUnusedCardSaid : Prop := Claim7.holds Tryd.pinned (.plain (OpenSpec.ofChange loopUnusedSpec)) loopUnusedCard

/-- THE TIED CARD OF 'bobstaylaw12.LoopAll'. -/
def loopAllCard : Claim7 := { stood := { row := loopAllRow, standIns := [], harness := (true, "035ffdcb615607da3fd27351799c04e0cc71ab94f92a869219c771ccc7a6e2cf"), looks := false }, kinds := [], alts := [], laidByText := true, laidKinds := [.data, .pinned], laidTests := true, laidLooks := .later }
def LoopAllCardSaid : Prop := Claim7.holds Tryd.pinned (.plain (OpenSpec.ofChange loopAllSpec)) loopAllCard

/-- THE TIED CARD OF 'bobstaylaw12.LoopRounds'. -/
def loopRoundsCard : Claim7 := { stood := { row := loopRoundsRow, standIns := [], harness := (true, "035ffdcb615607da3fd27351799c04e0cc71ab94f92a869219c771ccc7a6e2cf"), looks := false }, kinds := [], alts := [], laidByText := true, laidKinds := [.data, .pinned], laidTests := true, laidLooks := .later }
def LoopRoundsCardSaid : Prop := Claim7.holds Tryd.pinned (.plain (OpenSpec.ofChange loopRoundsSpec)) loopRoundsCard

/-- THE TIED CARD OF 'bobstaylaw12.LoopBack'. -/
def loopBackCard : Claim7 := { stood := { row := loopBackRow, standIns := [], harness := (true, "035ffdcb615607da3fd27351799c04e0cc71ab94f92a869219c771ccc7a6e2cf"), looks := false }, kinds := [], alts := [], laidByText := true, laidKinds := [.data, .pinned], laidTests := true, laidLooks := .later }
def LoopBackCardSaid : Prop := Claim7.holds Tryd.pinned (.plain (OpenSpec.ofChange loopBackSpec)) loopBackCard

/-- THE SECOND FORM's CARD OF 'bobstaylaw12.LoopBinds'. -/
def loopBindsUptoCard : Claim7 := { stood := { row := loopBindsUptoRow, standIns := [], harness := (true, "035ffdcb615607da3fd27351799c04e0cc71ab94f92a869219c771ccc7a6e2cf"), looks := false }, kinds := [], alts := [], laidByText := true, laidKinds := [.data, .pinned], laidTests := true, laidLooks := .later }
def LoopBindsUptoCardSaid : Prop := Claim7.holds Tryd.pinned (.plain (OpenSpec.upto loopBindsSpec)) loopBindsUptoCard

/-- THE SECOND FORM's CARD OF 'bobstaylaw12.LoopUnused'. -/
def loopUnusedUptoCard : Claim7 := { stood := { row := loopUnusedUptoRow, standIns := [], harness := (true, "035ffdcb615607da3fd27351799c04e0cc71ab94f92a869219c771ccc7a6e2cf"), looks := false }, kinds := [], alts := [], laidByText := true, laidKinds := [.data, .pinned], laidTests := true, laidLooks := .later }
def LoopUnusedUptoCardSaid : Prop := Claim7.holds Tryd.pinned (.plain (OpenSpec.upto loopUnusedSpec)) loopUnusedUptoCard

/-- THE SECOND FORM's CARD OF 'bobstaylaw12.LoopAll'. -/
def loopAllUptoCard : Claim7 := { stood := { row := loopAllUptoRow, standIns := [], harness := (true, "035ffdcb615607da3fd27351799c04e0cc71ab94f92a869219c771ccc7a6e2cf"), looks := false }, kinds := [], alts := [], laidByText := true, laidKinds := [.data, .pinned], laidTests := true, laidLooks := .later }
def LoopAllUptoCardSaid : Prop := Claim7.holds Tryd.pinned (.plain (OpenSpec.upto loopAllSpec)) loopAllUptoCard

/-- THE SECOND FORM's CARD OF 'bobstaylaw12.LoopRounds'. -/
def loopRoundsUptoCard : Claim7 := { stood := { row := loopRoundsUptoRow, standIns := [], harness := (true, "035ffdcb615607da3fd27351799c04e0cc71ab94f92a869219c771ccc7a6e2cf"), looks := false }, kinds := [], alts := [], laidByText := true, laidKinds := [.data, .pinned], laidTests := true, laidLooks := .later }
def LoopRoundsUptoCardSaid : Prop := Claim7.holds Tryd.pinned (.plain (OpenSpec.upto loopRoundsSpec)) loopRoundsUptoCard

/-- THE SECOND FORM's CARD OF 'bobstaylaw12.LoopBack'. -/
def loopBackUptoCard : Claim7 := { stood := { row := loopBackUptoRow, standIns := [], harness := (true, "035ffdcb615607da3fd27351799c04e0cc71ab94f92a869219c771ccc7a6e2cf"), looks := false }, kinds := [], alts := [], laidByText := true, laidKinds := [.data, .pinned], laidTests := true, laidLooks := .later }
def LoopBackUptoCardSaid : Prop := Claim7.holds Tryd.pinned (.plain (OpenSpec.upto loopBackSpec)) loopBackUptoCard
end Rows
end Go.Proofs.YtiedbnjoomcdbaaDoor
