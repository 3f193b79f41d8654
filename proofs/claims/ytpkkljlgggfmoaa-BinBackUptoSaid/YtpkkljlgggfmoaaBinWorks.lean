/- encorelaw02.works answers true, in the print's form. No condition. -/
import Derived.Test.YtpkkljlgggfmoaaWk1
namespace Go.Proofs.Ytpkkljlgggfmoaa.Ext
open Go.RowKit Go.Proofs.YtpkkljlgggfmoaaW.PrintWords Go.Proofs.YtpkkljlgggfmoaaW.PrintLast Go.Proofs.YtpkkljlgggfmoaaW.PrintMore Go.Proofs.Ytpkkljlgggfmoaa.Base
set_option linter.unusedVariables false
set_option linter.unusedSimpArgs false

theorem works_is : Wk.encorelaw02_works.f 40 = some true := by decide +kernel
def encorelaw02_works.f : Option Bool := some true
theorem encorelaw02_works.calls (r : Bool) (w : World) (h : encorelaw02_works.f = some r) :
    Calls Try.prog 16 #[] w fun e w' => e = .returned (.bool r) ∧ Below w.heap.size w w' := by
  obtain rfl := Option.some.inj h
  exact Wk.encorelaw02_works.calls 40 true w works_is rfl
end Go.Proofs.Ytpkkljlgggfmoaa.Ext
