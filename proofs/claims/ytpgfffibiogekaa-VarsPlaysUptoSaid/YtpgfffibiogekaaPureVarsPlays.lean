/- A set answers every call, in every order, as the document says: the law answers true. -/
import Derived.Test.YtpgfffibiogekaaPlayW
import Derived.Test.YtpgfffibiogekaaRowAct
set_option linter.unusedVariables false
set_option linter.unusedSimpArgs false
namespace Go.Proofs.Ytpgfffibiogekaa.PureV
open Go.RowKit Go.Proofs.YtpgfffibiogekaaW.PrintWords Go.Proofs.YtpgfffibiogekaaW.PrintLast

theorem VarsPlaysWalk (W : World) (A : Option Addr) (cap : Nat) (ls : List MS.Ac) (hr : Ba.ActRow W A cap ls) (hk : ∀ x ∈ ls, 0 ≤ x.k ∧ x.k < 256) (nm : ByteArray) (_ : nm.size ≤ 140737488351232)
    (ht : Ba.totA ls ≤ 1048576) (hn : nm.size + 1 ≤ 1048576) :
    Calls Try.prog 5 #[.slice A ls.length cap, .string nm] W fun e W' => e = .returned (.bool true) ∧ Below W.heap.size W W' :=
  MS.playsW W A cap ls nm hr hk (fun x hx => by have := Ba.tot_mem hx; omega) (by omega)
end Go.Proofs.Ytpgfffibiogekaa.PureV
