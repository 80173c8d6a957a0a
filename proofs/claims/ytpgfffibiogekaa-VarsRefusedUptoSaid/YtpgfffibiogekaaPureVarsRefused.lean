/- What is refused turns nothing; a default turns nothing that has a value: the law answers true. -/
import Derived.Test.YtpgfffibiogekaaVarR
set_option linter.unusedVariables false
set_option linter.unusedSimpArgs false
namespace Go.Proofs.Ytpgfffibiogekaa.PureV
open Go.RowKit Go.Proofs.YtpgfffibiogekaaW.PrintWords Go.Proofs.YtpgfffibiogekaaW.PrintLast

theorem VarsRefusedWalk (W : World) (A : Option Addr) (cap : Nat) (ls : List MS.Ac) (hr : Ba.ActRow W A cap ls) (hk : ∀ x ∈ ls, 0 ≤ x.k ∧ x.k < 256) (a : MS.Ac) (hka : 0 ≤ a.k ∧ a.k < 256)
    (ht : Ba.totA ls ≤ 1048576) (ha : a.s.size + a.v.size + 5 ≤ 1048576) :
    Calls Try.prog 6 #[.slice A ls.length cap, MS.actV a] W fun e W' => e = .returned (.bool true) ∧ Below W.heap.size W W' :=
  MS.refusedW W A cap ls a hr hk (fun x hx => by have := Ba.tot_mem hx; omega) hka (by omega) (by omega)
end Go.Proofs.Ytpgfffibiogekaa.PureV
