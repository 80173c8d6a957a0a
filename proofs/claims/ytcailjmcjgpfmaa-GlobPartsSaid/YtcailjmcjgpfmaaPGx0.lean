-- PRINTED by print.py (a twelfth state) out of the translation. Not trusted: Lean checks it.
import Derived.Test.YtcailjmcjgpfmaaProg
import Derived.Below
import Derived.Deep.Draws
import Derived.Deep.AppendLies
import Derived.Maps.AppendAt
import Derived.OwnWalk
import Derived.Laws.BytesArg
import Derived.Laws.MakeOwn
import Derived.Laws.OwnMore
import Derived.Deep.OwnRows
import Derived.Tactics
import Derived.Lib.ConvBytes
import Derived.Laws.Slices
import Derived.WalkKit
import Derived.KernelRfl
import Derived.RowKit3
import Derived.Deep.LoopGhost
import Derived.Deep.QuietTactic
import Derived.BigQuiet
import Derived.WideLaws
import Derived.Deep.DeepCutAuto
import Derived.Deep.CutBlock
import Derived.Deep.RegionHeld3
import Derived.Laws.Rows
import Derived.Lib.AppendStr
import Derived.ArgAppend
import Derived.Laws.IdiomCopy
import Derived.OrdersHeld
import Derived.Laws.BitsLemmas
import Derived.RowKit
import Derived.Test.YtcailjmcjgpfmaaGlobW5
import Derived.Test.YtcailjmcjgpfmaaGlobR3
import Derived.Test.YtcailjmcjgpfmaaWWords
import Derived.Test.YtcailjmcjgpfmaaWLast
import Derived.Test.YtcailjmcjgpfmaaWTab
import Derived.Test.YtcailjmcjgpfmaaWFour
import Derived.Test.YtcailjmcjgpfmaaWQPut
import Derived.Test.YtcailjmcjgpfmaaWApart
import Derived.Test.YtcailjmcjgpfmaaWArr
import Derived.Test.YtcailjmcjgpfmaaWZeros
import Derived.Test.YtcailjmcjgpfmaaWFoot
import Derived.Test.YtcailjmcjgpfmaaWKept
import Derived.Test.YtcailjmcjgpfmaaWShare
import Derived.Test.YtcailjmcjgpfmaaWN
import Derived.Test.YtcailjmcjgpfmaaWFootNe
import Derived.Test.YtcailjmcjgpfmaaWAt
import Derived.Test.YtcailjmcjgpfmaaWEqStruct
import Derived.Test.YtcailjmcjgpfmaaWRepsOne
import Derived.Test.YtcailjmcjgpfmaaWInv
import Derived.Test.YtcailjmcjgpfmaaWInvWords
import Derived.Test.YtcailjmcjgpfmaaWGuard
import Derived.Test.YtcailjmcjgpfmaaWNEv
import Derived.Test.YtcailjmcjgpfmaaWMore
namespace Go.Proofs.Ytcailjmcjgpfmaa.PG
open Go.RowKit Go.Proofs.YtcailjmcjgpfmaaW.PrintWords Go.Proofs.YtcailjmcjgpfmaaW.PrintLast Go.Proofs.YtcailjmcjgpfmaaW.PrintMore
attribute [local go_sem] max2_int min2_int max_two min_two max_three min_three max_four min_four   -- for this text's walks alone
set_option linter.unusedVariables false
set_option linter.unusedSimpArgs false



def errW : Option Int → Value
  | none => .nilIface
  | some c => .iface 0 (.int .i64 c)
theorem errW_none : errW none = .nilIface := rfl
theorem errW_some (c : Int) : errW (some c) = .iface 0 (.int .i64 c) := rfl

theorem info5 : (Try.prog.info? 5).map (fun i => (i.zero, i.size, i.bytes)) = some (some (.int .u8 0), 1, 1) := by kernel_rfl
theorem info9 : (Try.prog.info? 9).map (fun i => (i.zero, i.size, i.bytes)) = some (some (.string ⟨#[]⟩), 1, 16) := by kernel_rfl
-- the values' own types

end Go.Proofs.Ytcailjmcjgpfmaa.PG
