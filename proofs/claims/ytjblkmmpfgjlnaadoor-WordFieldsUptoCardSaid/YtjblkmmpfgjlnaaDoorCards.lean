/-
  DERIVED. GIVEN WITH THE SEED: THE CARDS: each row of YtjblkmmpfgjlnaaDoorRows.lean that lists a variable, with what it lists TIED to the program's text (the seventh form; the later family's looks); each row that meets fmt, with fmt's text TOLD by the authors' own Lean function (tested against real Go, not proved from fmt's source: count such statements apart). THE CARD IS WHAT COUNTS. Prove the row's statement (the work); the ties are given (YtjblkmmpfgjlnaaDoorTie.lean); close each card by the builder's one call (the guide's Derived/Test/ToyasCard.lean, 'card_holds'). Laid BY PROGRAM, IN A SANDBOX (cutbox-door.mjs). By AI agents, Wed Nov 11 2026. No macro, syntax, notation, axiom, sorry.
-/
import Derived.Test.YtjblkmmpfgjlnaaDoorRows
import GoSem.ClaimSeven
namespace Go.Proofs.YtjblkmmpfgjlnaaDoor
namespace Rows

/-- THE TIED CARD OF 'bobstaylaw04.WordSplits'. -/
def wordSplitsCard : Claim7 := { stood := { row := wordSplitsRow, standIns := [], harness := (true, "68a31a55ef6c309cf8ed609abd7071ccbc5bfadc5210fa569eb166037204e175"), looks := false }, kinds := [], alts := [], laidByText := true, laidKinds := [.data, .pinned], laidTests := true, laidLooks := .later }
def WordSplitsCardSaid : Prop := Claim7.holds Tryd.pinned (.plain (OpenSpec.ofChange wordSplitsSpec)) wordSplitsCard

/-- THE TIED CARD OF 'bobstaylaw04.WordQuotes'. -/
def wordQuotesCard : Claim7 := { stood := { row := wordQuotesRow, standIns := [], harness := (true, "68a31a55ef6c309cf8ed609abd7071ccbc5bfadc5210fa569eb166037204e175"), looks := false }, kinds := [], alts := [], laidByText := true, laidKinds := [.data, .pinned], laidTests := true, laidLooks := .later }
def WordQuotesCardSaid : Prop := Claim7.holds Tryd.pinned (.plain (OpenSpec.ofChange wordQuotesSpec)) wordQuotesCard

/-- THE TIED CARD OF 'bobstaylaw04.WordMeans'. -/
def wordMeansCard : Claim7 := { stood := { row := wordMeansRow, standIns := [], harness := (true, "68a31a55ef6c309cf8ed609abd7071ccbc5bfadc5210fa569eb166037204e175"), looks := false }, kinds := [], alts := [], laidByText := true, laidKinds := [.data, .pinned], laidTests := true, laidLooks := .later }
def WordMeansCardSaid : Prop := Claim7.holds Tryd.pinned (.plain (OpenSpec.ofChange wordMeansSpec)) wordMeansCard

/-- THE TIED CARD OF 'bobstaylaw04.WordAgain'. -/
def wordAgainCard : Claim7 := { stood := { row := wordAgainRow, standIns := [], harness := (true, "68a31a55ef6c309cf8ed609abd7071ccbc5bfadc5210fa569eb166037204e175"), looks := false }, kinds := [], alts := [], laidByText := true, laidKinds := [.data, .pinned], laidTests := true, laidLooks := .later }
def WordAgainCardSaid : Prop := Claim7.holds Tryd.pinned (.plain (OpenSpec.ofChange wordAgainSpec)) wordAgainCard

/-- THE TIED CARD OF 'bobstaylaw04.WordParts'. -/
def wordPartsCard : Claim7 := { stood := { row := wordPartsRow, standIns := [], harness := (true, "68a31a55ef6c309cf8ed609abd7071ccbc5bfadc5210fa569eb166037204e175"), looks := false }, kinds := [], alts := [], laidByText := true, laidKinds := [.data, .pinned], laidTests := true, laidLooks := .later }
def WordPartsCardSaid : Prop := Claim7.holds Tryd.pinned (.plain (OpenSpec.ofChange wordPartsSpec)) wordPartsCard

/-- THE TIED CARD OF 'bobstaylaw04.WordFields'. -/
def wordFieldsCard : Claim7 := { stood := { row := wordFieldsRow, standIns := [], harness := (true, "68a31a55ef6c309cf8ed609abd7071ccbc5bfadc5210fa569eb166037204e175"), looks := false }, kinds := [], alts := [], laidByText := true, laidKinds := [.data, .pinned], laidTests := true, laidLooks := .later }
def WordFieldsCardSaid : Prop := Claim7.holds Tryd.pinned (.plain (OpenSpec.ofChange wordFieldsSpec)) wordFieldsCard

/-- THE SECOND FORM's CARD OF 'bobstaylaw04.WordSplits'. -/
def wordSplitsUptoCard : Claim7 := { stood := { row := wordSplitsUptoRow, standIns := [], harness := (true, "68a31a55ef6c309cf8ed609abd7071ccbc5bfadc5210fa569eb166037204e175"), looks := false }, kinds := [], alts := [], laidByText := true, laidKinds := [.data, .pinned], laidTests := true, laidLooks := .later }
def WordSplitsUptoCardSaid : Prop := Claim7.holds Tryd.pinned (.plain (OpenSpec.upto wordSplitsSpec)) wordSplitsUptoCard

/-- THE SECOND FORM's CARD OF 'bobstaylaw04.WordQuotes'. -/
def wordQuotesUptoCard : Claim7 := { stood := { row := wordQuotesUptoRow, standIns := [], harness := (true, "68a31a55ef6c309cf8ed609abd7071ccbc5bfadc5210fa569eb166037204e175"), looks := false }, kinds := [], alts := [], laidByText := true, laidKinds := [.data, .pinned], laidTests := true, laidLooks := .later }
def WordQuotesUptoCardSaid : Prop := Claim7.holds Tryd.pinned (.plain (OpenSpec.upto wordQuotesSpec)) wordQuotesUptoCard

/-- THE SECOND FORM's CARD OF 'bobstaylaw04.WordMeans'. -/
def wordMeansUptoCard : Claim7 := { stood := { row := wordMeansUptoRow, standIns := [], harness := (true, "68a31a55ef6c309cf8ed609abd7071ccbc5bfadc5210fa569eb166037204e175"), looks := false }, kinds := [], alts := [], laidByText := true, laidKinds := [.data, .pinned], laidTests := true, laidLooks := .later }
def WordMeansUptoCardSaid : Prop := Claim7.holds Tryd.pinned (.plain (OpenSpec.upto wordMeansSpec)) wordMeansUptoCard

/-- THE SECOND FORM's CARD OF 'bobstaylaw04.WordAgain'. -/
def wordAgainUptoCard : Claim7 := { stood := { row := wordAgainUptoRow, standIns := [], harness := (true, "68a31a55ef6c309cf8ed609abd7071ccbc5bfadc5210fa569eb166037204e175"), looks := false }, kinds := [], alts := [], laidByText := true, laidKinds := [.data, .pinned], laidTests := true, laidLooks := .later }
def WordAgainUptoCardSaid : Prop := Claim7.holds Tryd.pinned (.plain (OpenSpec.upto wordAgainSpec)) wordAgainUptoCard

/-- THE SECOND FORM's CARD OF 'bobstaylaw04.WordParts'. -/
def wordPartsUptoCard : Claim7 := { stood := { row := wordPartsUptoRow, standIns := [], harness := (true, "68a31a55ef6c309cf8ed609abd7071ccbc5bfadc5210fa569eb166037204e175"), looks := false }, kinds := [], alts := [], laidByText := true, laidKinds := [.data, .pinned], laidTests := true, laidLooks := .later }
def WordPartsUptoCardSaid : Prop := Claim7.holds Tryd.pinned (.plain (OpenSpec.upto wordPartsSpec)) wordPartsUptoCard

/-- THE SECOND FORM's CARD OF 'bobstaylaw04.WordFields'. -/
def wordFieldsUptoCard : Claim7 := { stood := { row := wordFieldsUptoRow, standIns := [], harness := (true, "68a31a55ef6c309cf8ed609abd7071ccbc5bfadc5210fa569eb166037204e175"), looks := false }, kinds := [], alts := [], laidByText := true, laidKinds := [.data, .pinned], laidTests := true, laidLooks := .later }
def WordFieldsUptoCardSaid : Prop := Claim7.holds Tryd.pinned (.plain (OpenSpec.upto wordFieldsSpec)) wordFieldsUptoCard
end Rows
end Go.Proofs.YtjblkmmpfgjlnaaDoor
