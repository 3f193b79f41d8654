/- More comes to the reference's sum, for every sum and row of bytes. No condition beyond the row's own. -/
import Derived.Test.YtijhhnclhgfnlaaLaws1
import Derived.Test.YtijhhnclhgfnlaaCrcLink
import Derived.Test.YtijhhnclhgfnlaaCrcProps
namespace Go.Proofs.Ytijhhnclhgfnlaa.Pure
open Go.RowKit Go.Proofs.Ytijhhnclhgfnlaa.Laws Go.Proofs.YtijhhnclhgfnlaaW.PrintWords Go.Proofs.YtijhhnclhgfnlaaW.PrintLast Go.Proofs.Ytijhhnclhgfnlaa.Base Go.Proofs.Ytijhhnclhgfnlaa.Ext Go.Proofs.Ytijhhnclhgfnlaa.CrcMath Go.Proofs.Ytijhhnclhgfnlaa.CrcLink
set_option linter.unusedVariables false
set_option linter.unusedSimpArgs false

theorem CrcMore : encorelaw01_CrcMore.Pure := by
  intro a0 l1 ha _ hl hw
  have hb := bytes_of_wf hw
  have hs := u32_of_wf ha
  refine ⟨10 * l1.length + 1, ?_⟩
  unfold encorelaw01_CrcMore.f
  rw [← hs]
  rw [copy_eq l1 (by omega), ref_more_eq _ l1 hb (by omega) _ (by omega)]
  simp only [Option.bind_some]
  rw [more_eq _ l1 hb]
  simp only [Option.bind_some, if_true]
  rw [eq_same l1 (by omega) _ (by omega)]
  rfl

end Go.Proofs.Ytijhhnclhgfnlaa.Pure
