/- What is done in one scope turns no other one: the law answers true. -/
import Derived.Test.YtpgfffibiogekaaVarA
set_option linter.unusedVariables false
set_option linter.unusedSimpArgs false
namespace Go.Proofs.Ytpgfffibiogekaa.PureV
open Go.RowKit Go.Proofs.YtpgfffibiogekaaW.PrintWords Go.Proofs.YtpgfffibiogekaaW.PrintLast

theorem VarsApartWalk (W : World) (A : Option Addr) (cap : Nat) (ls : List MS.Ac) (hr : Ba.ActRow W A cap ls) (hk : ∀ x ∈ ls, 0 ≤ x.k ∧ x.k < 256) (a : MS.Ac) (hka : 0 ≤ a.k ∧ a.k < 256)
    (ht : Ba.totA ls ≤ 1048576) (ha : a.s.size + a.v.size + 5 ≤ 1048576) :
    Calls Try.prog 7 #[.slice A ls.length cap, MS.actV a] W fun e W' => e = .returned (.bool true) ∧ Below W.heap.size W W' :=
  MS.apartW W A cap ls a hr hk (fun x hx => by have := Ba.tot_mem hx; omega) hka (by omega) (by omega)
end Go.Proofs.Ytpgfffibiogekaa.PureV
