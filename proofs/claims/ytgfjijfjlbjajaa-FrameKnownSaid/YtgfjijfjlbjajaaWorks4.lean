/- encorelaw04.works answers true, in the print's form. No condition. -/
import Derived.Test.YtgfjijfjlbjajaaWk1
namespace Go.Proofs.Ytgfjijfjlbjajaa.Ext
open Go.RowKit Go.Proofs.YtgfjijfjlbjajaaW.PrintWords Go.Proofs.YtgfjijfjlbjajaaW.PrintLast Go.Proofs.YtgfjijfjlbjajaaW.PrintMore Go.Proofs.Ytgfjijfjlbjajaa.Base
set_option linter.unusedVariables false
set_option linter.unusedSimpArgs false

theorem works_is : Wk.encorelaw04_works.f 60 = some true := by decide +kernel
def encorelaw04_works.f : Option Bool := some true
theorem encorelaw04_works.calls (r : Bool) (w : World) (h : encorelaw04_works.f = some r) :
    Calls Try.prog 16 #[] w fun e w' => e = .returned (.bool r) ∧ Below w.heap.size w w' := by
  obtain rfl := Option.some.inj h
  exact Wk.encorelaw04_works.calls 60 true w works_is rfl
end Go.Proofs.Ytgfjijfjlbjajaa.Ext
