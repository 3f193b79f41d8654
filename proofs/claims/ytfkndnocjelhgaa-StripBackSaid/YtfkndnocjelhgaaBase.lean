-- PRINTED by print.py (a twelfth state) out of the translation. Not trusted: Lean checks it.
import Derived.Test.YtfkndnocjelhgaaBase0
import Derived.Test.YtfkndnocjelhgaaBase1
import Derived.Test.YtfkndnocjelhgaaBase2
import Derived.Test.YtfkndnocjelhgaaBase3
import Derived.Test.YtfkndnocjelhgaaBase4
import Derived.Test.YtfkndnocjelhgaaBase5
namespace Go.Proofs.Ytfkndnocjelhgaa.Base
open Go.RowKit Go.Proofs.YtfkndnocjelhgaaW.PrintWords Go.Proofs.YtfkndnocjelhgaaW.PrintLast Go.Proofs.YtfkndnocjelhgaaW.PrintMore
attribute [local go_sem] max2_int min2_int max_two min_two max_three min_three max_four min_four   -- for this text's walks alone
set_option linter.unusedVariables false
set_option linter.unusedSimpArgs false

end Go.Proofs.Ytfkndnocjelhgaa.Base
