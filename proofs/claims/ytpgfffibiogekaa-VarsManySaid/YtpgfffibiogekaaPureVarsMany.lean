/- A scope has at most 1024 names: the law answers true. -/
import Derived.Test.YtpgfffibiogekaaVarM
set_option linter.unusedVariables false
set_option linter.unusedSimpArgs false
namespace Go.Proofs.Ytpgfffibiogekaa.PureV
open Go.RowKit Go.Proofs.YtpgfffibiogekaaW.PrintWords Go.Proofs.YtpgfffibiogekaaW.PrintLast

theorem VarsManyWalk (W : World) (a : Int) (wa : (Lit.int .u8 a).wf = true) (b : Int) (wb : (Lit.int .u16 b).wf = true) :
    Calls Try.prog 4 #[.int .u8 a, .int .u16 b] W fun e W' => e = .returned (.bool true) ∧ Below W.heap.size W W' := by
  simp [Lit.wf] at wa wb
  have h0 : IntKind.u8.min = 0 := by decide
  have h1 : IntKind.u8.max = 255 := by decide
  have h2 : IntKind.u16.min = 0 := by decide
  have h3 : IntKind.u16.max = 65535 := by decide
  rw [h0, h1] at wa
  rw [h2, h3] at wb
  exact MS.manyW W a b ⟨by omega, by omega⟩ ⟨by omega, by omega⟩
end Go.Proofs.Ytpgfffibiogekaa.PureV
