/-
  DERIVED. GIVEN WITH THE SEED: THE CARDS: each row of YthkndchbgiimnaaDoorRows.lean that lists a variable, with what it lists TIED to the program's text (the seventh form; the later family's looks); each row that meets fmt, with fmt's text TOLD by the authors' own Lean function (tested against real Go, not proved from fmt's source: count such statements apart). THE CARD IS WHAT COUNTS. Prove the row's statement (the work); the ties are given (YthkndchbgiimnaaDoorTie.lean); close each card by the builder's one call (the guide's Derived/Test/ToyasCard.lean, 'card_holds'). Laid BY PROGRAM, IN A SANDBOX (cutbox-door.mjs). By AI agents, Wed Nov 11 2026. No macro, syntax, notation, axiom, sorry.
-/
import Derived.Test.YthkndchbgiimnaaDoorRows
import GoSem.ClaimSeven
namespace Go.Proofs.YthkndchbgiimnaaDoor
namespace Rows

/-- THE TIED CARD OF 'bobstaylaw11.LineRise'. -/
def lineRiseCard : Claim7 := { stood := { row := lineRiseRow, standIns := [], harness := (true, "b0da221499bbf9743b425171807d027e504f3722bb2f600633cd365b2e4a6373"), looks := false }, kinds := [], alts := [], laidByText := true, laidKinds := [.data, .pinned], laidTests := true, laidLooks := .later }
def LineRiseCardSaid : Prop := Claim7.holds Tryd.pinned (.plain (OpenSpec.ofChange lineRiseSpec)) lineRiseCard

/-- THE TIED CARD OF 'bobstaylaw11.LineBoth'. -/
def lineBothCard : Claim7 := { stood := { row := lineBothRow, standIns := [], harness := (true, "b0da221499bbf9743b425171807d027e504f3722bb2f600633cd365b2e4a6373"), looks := false }, kinds := [], alts := [], laidByText := true, laidKinds := [.data, .pinned], laidTests := true, laidLooks := .later }
def LineBothCardSaid : Prop := Claim7.holds Tryd.pinned (.plain (OpenSpec.ofChange lineBothSpec)) lineBothCard

/-- THE TIED CARD OF 'bobstaylaw11.LineAgain'. -/
def lineAgainCard : Claim7 := { stood := { row := lineAgainRow, standIns := [], harness := (true, "b0da221499bbf9743b425171807d027e504f3722bb2f600633cd365b2e4a6373"), looks := false }, kinds := [], alts := [], laidByText := true, laidKinds := [.data, .pinned], laidTests := true, laidLooks := .later }
def LineAgainCardSaid : Prop := Claim7.holds Tryd.pinned (.plain (OpenSpec.ofChange lineAgainSpec)) lineAgainCard

/-- THE TIED CARD OF 'bobstaylaw11.LinePlain'. -/
def linePlainCard : Claim7 := { stood := { row := linePlainRow, standIns := [], harness := (true, "b0da221499bbf9743b425171807d027e504f3722bb2f600633cd365b2e4a6373"), looks := false }, kinds := [], alts := [], laidByText := true, laidKinds := [.data, .pinned], laidTests := true, laidLooks := .later }
def LinePlainCardSaid : Prop := Claim7.holds Tryd.pinned (.plain (OpenSpec.ofChange linePlainSpec)) linePlainCard

/-- THE TIED CARD OF 'bobstaylaw11.LineWrites'. -/
def lineWritesCard : Claim7 := { stood := { row := lineWritesRow, standIns := [], harness := (true, "b0da221499bbf9743b425171807d027e504f3722bb2f600633cd365b2e4a6373"), looks := false }, kinds := [], alts := [], laidByText := true, laidKinds := [.data, .pinned], laidTests := true, laidLooks := .later }
def LineWritesCardSaid : Prop := Claim7.holds Tryd.pinned (.plain (OpenSpec.ofChange lineWritesSpec)) lineWritesCard

/-- THE SECOND FORM's CARD OF 'bobstaylaw11.LineRise'. -/
def lineRiseUptoCard : Claim7 := { stood := { row := lineRiseUptoRow, standIns := [], harness := (true, "b0da221499bbf9743b425171807d027e504f3722bb2f600633cd365b2e4a6373"), looks := false }, kinds := [], alts := [], laidByText := true, laidKinds := [.data, .pinned], laidTests := true, laidLooks := .later }
def LineRiseUptoCardSaid : Prop := Claim7.holds Tryd.pinned (.plain (OpenSpec.upto lineRiseSpec)) lineRiseUptoCard

/-- THE SECOND FORM's CARD OF 'bobstaylaw11.LineBoth'. -/
def lineBothUptoCard : Claim7 := { stood := { row := lineBothUptoRow, standIns := [], harness := (true, "b0da221499bbf9743b425171807d027e504f3722bb2f600633cd365b2e4a6373"), looks := false }, kinds := [], alts := [], laidByText := true, laidKinds := [.data, .pinned], laidTests := true, laidLooks := .later }
def LineBothUptoCardSaid : Prop := Claim7.holds Tryd.pinned (.plain (OpenSpec.upto lineBothSpec)) lineBothUptoCard

/-- THE SECOND FORM's CARD OF 'bobstaylaw11.LineAgain'. -/
def lineAgainUptoCard : Claim7 := { stood := { row := lineAgainUptoRow, standIns := [], harness := (true, "b0da221499bbf9743b425171807d027e504f3722bb2f600633cd365b2e4a6373"), looks := false }, kinds := [], alts := [], laidByText := true, laidKinds := [.data, .pinned], laidTests := true, laidLooks := .later }
def LineAgainUptoCardSaid : Prop := Claim7.holds Tryd.pinned (.plain (OpenSpec.upto lineAgainSpec)) lineAgainUptoCard

/-- THE SECOND FORM's CARD OF 'bobstaylaw11.LinePlain'. -/
def linePlainUptoCard : Claim7 := { stood := { row := linePlainUptoRow, standIns := [], harness := (true, "b0da221499bbf9743b425171807d027e504f3722bb2f600633cd365b2e4a6373"), looks := false }, kinds := [], alts := [], laidByText := true, laidKinds := [.data, .pinned], laidTests := true, laidLooks := .later }
def LinePlainUptoCardSaid : Prop := Claim7.holds Tryd.pinned (.plain (OpenSpec.upto linePlainSpec)) linePlainUptoCard

/-- THE SECOND FORM's CARD OF 'bobstaylaw11.LineWrites'. -/
def lineWritesUptoCard : Claim7 := { stood := { row := lineWritesUptoRow, standIns := [], harness := (true, "b0da221499bbf9743b425171807d027e504f3722bb2f600633cd365b2e4a6373"), looks := false }, kinds := [], alts := [], laidByText := true, laidKinds := [.data, .pinned], laidTests := true, laidLooks := .later }
def LineWritesUptoCardSaid : Prop := Claim7.holds Tryd.pinned (.plain (OpenSpec.upto lineWritesSpec)) lineWritesUptoCard
end Rows
end Go.Proofs.YthkndchbgiimnaaDoor
