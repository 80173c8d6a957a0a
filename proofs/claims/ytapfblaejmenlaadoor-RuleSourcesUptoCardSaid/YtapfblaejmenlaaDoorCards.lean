/-
  DERIVED. GIVEN WITH THE SEED: THE CARDS: each row of YtapfblaejmenlaaDoorRows.lean that lists a variable, with what it lists TIED to the program's text (the seventh form; the later family's looks); each row that meets fmt, with fmt's text TOLD by the authors' own Lean function (tested against real Go, not proved from fmt's source: count such statements apart). THE CARD IS WHAT COUNTS. Prove the row's statement (the work); the ties are given (YtapfblaejmenlaaDoorTie.lean); close each card by the builder's one call (the guide's Derived/Test/ToyasCard.lean, 'card_holds'). Laid BY PROGRAM, IN A SANDBOX (cutbox-door.mjs). By AI agents, Wed Nov 11 2026. No macro, syntax, notation, axiom, sorry.
-/
import Derived.Test.YtapfblaejmenlaaDoorRows
import GoSem.ClaimSeven
namespace Go.Proofs.YtapfblaejmenlaaDoor
namespace Rows

/-- THE TIED CARD OF 'bobstaylaw13.RuleParses'. -/
def ruleParsesCard : Claim7 := { stood := { row := ruleParsesRow, standIns := [], harness := (true, "eef99c4cfed4ef1b6c3b32ee7ac900983ca06114a44623bbc2857e20e24a3662"), looks := false }, kinds := [], alts := [], laidByText := true, laidKinds := [.data, .pinned], laidTests := true, laidLooks := .later }
def RuleParsesCardSaid : Prop := Claim7.holds Tryd.pinned (.plain (OpenSpec.ofChange ruleParsesSpec)) ruleParsesCard

/-- THE TIED CARD OF 'bobstaylaw13.RuleOnce'. -/
def ruleOnceCard : Claim7 := { stood := { row := ruleOnceRow, standIns := [], harness := (true, "eef99c4cfed4ef1b6c3b32ee7ac900983ca06114a44623bbc2857e20e24a3662"), looks := false }, kinds := [], alts := [], laidByText := true, laidKinds := [.data, .pinned], laidTests := true, laidLooks := .later }
def RuleOnceCardSaid : Prop := Claim7.holds Tryd.pinned (.plain (OpenSpec.ofChange ruleOnceSpec)) ruleOnceCard

/-- THE TIED CARD OF 'bobstaylaw13.RuleSources'. -/
def ruleSourcesCard : Claim7 := { stood := { row := ruleSourcesRow, standIns := [], harness := (true, "eef99c4cfed4ef1b6c3b32ee7ac900983ca06114a44623bbc2857e20e24a3662"), looks := false }, kinds := [], alts := [], laidByText := true, laidKinds := [.data, .pinned], laidTests := true, laidLooks := .later }
def RuleSourcesCardSaid : Prop := Claim7.holds Tryd.pinned (.plain (OpenSpec.ofChange ruleSourcesSpec)) ruleSourcesCard

/-- THE TIED CARD OF 'bobstaylaw13.RuleBack'. -/
def ruleBackCard : Claim7 := { stood := { row := ruleBackRow, standIns := [], harness := (true, "eef99c4cfed4ef1b6c3b32ee7ac900983ca06114a44623bbc2857e20e24a3662"), looks := false }, kinds := [], alts := [], laidByText := true, laidKinds := [.data, .pinned], laidTests := true, laidLooks := .later }
def RuleBackCardSaid : Prop := Claim7.holds Tryd.pinned (.plain (OpenSpec.ofChange ruleBackSpec)) ruleBackCard

/-- THE SECOND FORM's CARD OF 'bobstaylaw13.RuleParses'. -/
def ruleParsesUptoCard : Claim7 := { stood := { row := ruleParsesUptoRow, standIns := [], harness := (true, "eef99c4cfed4ef1b6c3b32ee7ac900983ca06114a44623bbc2857e20e24a3662"), looks := false }, kinds := [], alts := [], laidByText := true, laidKinds := [.data, .pinned], laidTests := true, laidLooks := .later }
def RuleParsesUptoCardSaid : Prop := Claim7.holds Tryd.pinned (.plain (OpenSpec.upto ruleParsesSpec)) ruleParsesUptoCard

/-- THE SECOND FORM's CARD OF 'bobstaylaw13.RuleOnce'. -/
def ruleOnceUptoCard : Claim7 := { stood := { row := ruleOnceUptoRow, standIns := [], harness := (true, "eef99c4cfed4ef1b6c3b32ee7ac900983ca06114a44623bbc2857e20e24a3662"), looks := false }, kinds := [], alts := [], laidByText := true, laidKinds := [.data, .pinned], laidTests := true, laidLooks := .later }
def RuleOnceUptoCardSaid : Prop := Claim7.holds Tryd.pinned (.plain (OpenSpec.upto ruleOnceSpec)) ruleOnceUptoCard

/-- THE SECOND FORM's CARD OF 'bobstaylaw13.RuleSources'. -/
def ruleSourcesUptoCard : Claim7 := { stood := { row := ruleSourcesUptoRow, standIns := [], harness := (true, "eef99c4cfed4ef1b6c3b32ee7ac900983ca06114a44623bbc2857e20e24a3662"), looks := false }, kinds := [], alts := [], laidByText := true, laidKinds := [.data, .pinned], laidTests := true, laidLooks := .later }
def RuleSourcesUptoCardSaid : Prop := Claim7.holds Tryd.pinned (.plain (OpenSpec.upto ruleSourcesSpec)) ruleSourcesUptoCard

/-- THE SECOND FORM's CARD OF 'bobstaylaw13.RuleBack'. -/
def ruleBackUptoCard : Claim7 := { stood := { row := ruleBackUptoRow, standIns := [], harness := (true, "eef99c4cfed4ef1b6c3b32ee7ac900983ca06114a44623bbc2857e20e24a3662"), looks := false }, kinds := [], alts := [], laidByText := true, laidKinds := [.data, .pinned], laidTests := true, laidLooks := .later }
def RuleBackUptoCardSaid : Prop := Claim7.holds Tryd.pinned (.plain (OpenSpec.upto ruleBackSpec)) ruleBackUptoCard
end Rows
end Go.Proofs.YtapfblaejmenlaaDoor
