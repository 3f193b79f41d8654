/- The closed statement: computed. No condition. -/
import Derived.Test.YtpkkljlgggfmoaaKn1
namespace Go.Proofs.Ytpkkljlgggfmoaa.Pure
open Go.RowKit Go.Proofs.Ytpkkljlgggfmoaa.Kn Go.Proofs.YtpkkljlgggfmoaaW.PrintWords Go.Proofs.YtpkkljlgggfmoaaW.PrintLast Go.Proofs.Ytpkkljlgggfmoaa.Base Go.Proofs.Ytpkkljlgggfmoaa.Ext Go.Proofs.Ytpkkljlgggfmoaa.Mid Go.Proofs.Ytpkkljlgggfmoaa.Tt
set_option linter.unusedVariables false
set_option linter.unusedSimpArgs false

set_option maxRecDepth 100000 in
theorem BinKnown : encorelaw02_BinKnown.Pure := ⟨100, by decide +kernel⟩
end Go.Proofs.Ytpkkljlgggfmoaa.Pure
