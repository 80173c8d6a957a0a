-- PRINTED by print.py (a twelfth state) out of the translation. Not trusted: Lean checks it.
import Derived.Test.YtpgfffibiogekaaProg
import Derived.Below
import Derived.Deep.Draws
import Derived.Deep.AppendLies
import Derived.Maps.AppendAt
import Derived.OwnWalk
import Derived.Laws.BytesArg
import Derived.Laws.MakeOwn
import Derived.Laws.OwnMore
import Derived.Deep.OwnRows
import Derived.Tactics
import Derived.Lib.ConvBytes
import Derived.Laws.Slices
import Derived.WalkKit
import Derived.KernelRfl
import Derived.RowKit3
import Derived.Deep.LoopGhost
import Derived.Deep.QuietTactic
import Derived.BigQuiet
import Derived.WideLaws
import Derived.Deep.DeepCutAuto
import Derived.Deep.CutBlock
import Derived.Deep.RegionHeld3
import Derived.Laws.Rows
import Derived.Lib.AppendStr
import Derived.ArgAppend
import Derived.Laws.IdiomCopy
import Derived.OrdersHeld
import Derived.Laws.BitsLemmas
import Derived.RowKit
import Derived.Test.YtpgfffibiogekaaRune
import Derived.Test.YtpgfffibiogekaaWWords
import Derived.Test.YtpgfffibiogekaaWLast
import Derived.Test.YtpgfffibiogekaaWTab
import Derived.Test.YtpgfffibiogekaaWFour
import Derived.Test.YtpgfffibiogekaaWQPut
import Derived.Test.YtpgfffibiogekaaWApart
import Derived.Test.YtpgfffibiogekaaWArr
import Derived.Test.YtpgfffibiogekaaWZeros
import Derived.Test.YtpgfffibiogekaaWFoot
import Derived.Test.YtpgfffibiogekaaWKept
import Derived.Test.YtpgfffibiogekaaWShare
import Derived.Test.YtpgfffibiogekaaWN
import Derived.Test.YtpgfffibiogekaaWFootNe
import Derived.Test.YtpgfffibiogekaaWAt
import Derived.Test.YtpgfffibiogekaaWEqStruct
import Derived.Test.YtpgfffibiogekaaWRepsOne
import Derived.Test.YtpgfffibiogekaaWInv
import Derived.Test.YtpgfffibiogekaaWInvWords
import Derived.Test.YtpgfffibiogekaaWGuard
import Derived.Test.YtpgfffibiogekaaWNEv
import Derived.Test.YtpgfffibiogekaaWMore
namespace Go.Proofs.Ytpgfffibiogekaa.PV
open Go.RowKit Go.Proofs.YtpgfffibiogekaaW.PrintWords Go.Proofs.YtpgfffibiogekaaW.PrintLast Go.Proofs.YtpgfffibiogekaaW.PrintMore
attribute [local go_sem] max2_int min2_int max_two min_two max_three min_three max_four min_four   -- for this text's walks alone
set_option linter.unusedVariables false
set_option linter.unusedSimpArgs false



def errW : Option Int → Value
  | none => .nilIface
  | some c => .iface 0 (.int .i64 c)
theorem errW_none : errW none = .nilIface := rfl
theorem errW_some (c : Int) : errW (some c) = .iface 0 (.int .i64 c) := rfl

-- the values' own types

end Go.Proofs.Ytpgfffibiogekaa.PV
