-- PRINTED by print.py (a twelfth state) out of the translation. Not trusted: Lean checks it.
import Derived.Test.YtjblkmmpfgjlnaaDoorProg
import Derived.Below
import Derived.Deep.Draws
import Derived.Deep.AppendLies
import Derived.Maps.AppendAt
import Derived.OwnWalk
import Derived.Laws.BytesArg
import Derived.Laws.MakeOwn
import Derived.Laws.OwnMore
import Derived.Deep.OwnRows
import Derived.Tactics
import Derived.Lib.ConvBytes
import Derived.Laws.Slices
import Derived.WalkKit
import Derived.KernelRfl
import Derived.RowKit3
import Derived.Deep.LoopGhost
import Derived.Deep.QuietTactic
import Derived.BigQuiet
import Derived.WideLaws
import Derived.Deep.DeepCutAuto
import Derived.Deep.CutBlock
import Derived.Deep.RegionHeld3
import Derived.Laws.Rows
import Derived.Lib.AppendStr
import Derived.ArgAppend
import Derived.Laws.IdiomCopy
import Derived.OrdersHeld
import Derived.Laws.BitsLemmas
import Derived.RowKit
import Derived.Test.YtjblkmmpfgjlnaaDoorShelf
import Derived.Test.YtjblkmmpfgjlnaaDoorWordW2
import Derived.Test.YtjblkmmpfgjlnaaDoorWordW3
import Derived.Test.YtjblkmmpfgjlnaaDoorRepl
import Derived.Test.YtjblkmmpfgjlnaaDoorTrim
import Derived.Test.YtjblkmmpfgjlnaaDoorWWords
import Derived.Test.YtjblkmmpfgjlnaaDoorWLast
import Derived.Test.YtjblkmmpfgjlnaaDoorWTab
import Derived.Test.YtjblkmmpfgjlnaaDoorWFour
import Derived.Test.YtjblkmmpfgjlnaaDoorWQPut
import Derived.Test.YtjblkmmpfgjlnaaDoorWApart
import Derived.Test.YtjblkmmpfgjlnaaDoorWArr
import Derived.Test.YtjblkmmpfgjlnaaDoorWZeros
import Derived.Test.YtjblkmmpfgjlnaaDoorWFoot
import Derived.Test.YtjblkmmpfgjlnaaDoorWKept
import Derived.Test.YtjblkmmpfgjlnaaDoorWShare
import Derived.Test.YtjblkmmpfgjlnaaDoorWN
import Derived.Test.YtjblkmmpfgjlnaaDoorWFootNe
import Derived.Test.YtjblkmmpfgjlnaaDoorWAt
import Derived.Test.YtjblkmmpfgjlnaaDoorWEqStruct
import Derived.Test.YtjblkmmpfgjlnaaDoorWRepsOne
import Derived.Test.YtjblkmmpfgjlnaaDoorWInv
import Derived.Test.YtjblkmmpfgjlnaaDoorWInvWords
import Derived.Test.YtjblkmmpfgjlnaaDoorWGuard
import Derived.Test.YtjblkmmpfgjlnaaDoorWNEv
import Derived.Test.YtjblkmmpfgjlnaaDoorWMore
namespace Go.Proofs.YtjblkmmpfgjlnaaDoor.PQ
open Go.RowKit Go.Proofs.YtjblkmmpfgjlnaaDoorW.PrintWords Go.Proofs.YtjblkmmpfgjlnaaDoorW.PrintLast Go.Proofs.YtjblkmmpfgjlnaaDoorW.PrintMore
attribute [local go_sem] max2_int min2_int max_two min_two max_three min_three max_four min_four   -- for this text's walks alone
set_option linter.unusedVariables false
set_option linter.unusedSimpArgs false



def errW : Option Int → Value
  | none => .nilIface
  | some c => .iface 0 (.int .i64 c)
theorem errW_none : errW none = .nilIface := rfl
theorem errW_some (c : Int) : errW (some c) = .iface 0 (.int .i64 c) := rfl

theorem info5 : (Tryd.prog.info? 5).map (fun i => (i.zero, i.size, i.bytes)) = some (some (.int .u8 0), 1, 1) := by kernel_rfl
theorem info9 : (Tryd.prog.info? 9).map (fun i => (i.zero, i.size, i.bytes)) = some (some (.string ⟨#[]⟩), 1, 16) := by kernel_rfl
-- the values' own types

end Go.Proofs.YtjblkmmpfgjlnaaDoor.PQ
