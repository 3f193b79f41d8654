/- Of bytes comes to the reference's sum of them, for every row of bytes. No condition beyond the row's own. -/
import Derived.Test.YtijhhnclhgfnlaaLaws1
import Derived.Test.YtijhhnclhgfnlaaCrcLink
import Derived.Test.YtijhhnclhgfnlaaCrcProps
namespace Go.Proofs.Ytijhhnclhgfnlaa.Pure
open Go.RowKit Go.Proofs.Ytijhhnclhgfnlaa.Laws Go.Proofs.YtijhhnclhgfnlaaW.PrintWords Go.Proofs.YtijhhnclhgfnlaaW.PrintLast Go.Proofs.Ytijhhnclhgfnlaa.Base Go.Proofs.Ytijhhnclhgfnlaa.Ext Go.Proofs.Ytijhhnclhgfnlaa.CrcMath Go.Proofs.Ytijhhnclhgfnlaa.CrcLink
set_option linter.unusedVariables false
set_option linter.unusedSimpArgs false

theorem CrcOf : encorelaw01_CrcOf.Pure := by
  intro l0 _ hl hw
  have hb := bytes_of_wf hw
  refine ⟨10 * l0.length + 1, ?_⟩
  unfold encorelaw01_CrcOf.f
  rw [copy_eq l0 (by omega), ref_of_eq l0 hb (by omega) _ (by omega)]
  simp only [Option.bind_some]
  rw [of_eq l0 hb]
  simp only [Option.bind_some, if_true]
  rw [eq_same l0 (by omega) _ (by omega)]
  rfl

end Go.Proofs.Ytijhhnclhgfnlaa.Pure
