/- Join comes to the reference's, for all sums and numbers. No condition beyond the row's own. -/
import Derived.Test.YtijhhnclhgfnlaaLaws1
import Derived.Test.YtijhhnclhgfnlaaCrcLink
import Derived.Test.YtijhhnclhgfnlaaCrcProps
namespace Go.Proofs.Ytijhhnclhgfnlaa.Pure
open Go.RowKit Go.Proofs.Ytijhhnclhgfnlaa.Laws Go.Proofs.YtijhhnclhgfnlaaW.PrintWords Go.Proofs.YtijhhnclhgfnlaaW.PrintLast Go.Proofs.Ytijhhnclhgfnlaa.Base Go.Proofs.Ytijhhnclhgfnlaa.Ext Go.Proofs.Ytijhhnclhgfnlaa.CrcMath Go.Proofs.Ytijhhnclhgfnlaa.CrcLink
set_option linter.unusedVariables false
set_option linter.unusedSimpArgs false

theorem CrcJoin : encorelaw01_CrcJoin.Pure := by
  intro a0 a1 a2 h0 h1 _
  refine ⟨a2.toNat + 40, ?_⟩
  unfold encorelaw01_CrcJoin.f
  rw [← u32_of_wf h0, ← u32_of_wf h1, join_eq _ _ a2 _ (Nat.le_refl _), ref_join_eq]
  simp only [Option.bind_some, if_true]
  rfl

end Go.Proofs.Ytijhhnclhgfnlaa.Pure
