/- TakeNum, TakeInt and TakeText come to the reference's answers, in memory of their own. No condition beyond the row's own. -/
import Derived.Test.YtpkkljlgggfmoaaRdLaws1
namespace Go.Proofs.Ytpkkljlgggfmoaa.Pure
open Go.RowKit Go.Proofs.Ytpkkljlgggfmoaa.RdLaws Go.Proofs.YtpkkljlgggfmoaaW.PrintWords Go.Proofs.YtpkkljlgggfmoaaW.PrintLast Go.Proofs.Ytpkkljlgggfmoaa.Base Go.Proofs.Ytpkkljlgggfmoaa.Ext Go.Proofs.Ytpkkljlgggfmoaa.Mid Go.Proofs.Ytpkkljlgggfmoaa.Tt Go.Proofs.Ytpkkljlgggfmoaa.BinMath Go.Proofs.Ytpkkljlgggfmoaa.BinLink
set_option linter.unusedVariables false
set_option linter.unusedSimpArgs false

theorem BinReads : encorelaw02_BinReads.Pure := by
  intro l0 a1 _ hl hw _
  unfold encorelaw02_BinReads.f
  rw [if_pos ⟨bytes_of_wf hw, by omega⟩]
end Go.Proofs.Ytpkkljlgggfmoaa.Pure
