/- DiskOne: what its contract asks. No condition. -/
import Derived.Test.YtkmgbmnjabmhaaaLo1
namespace Go.Proofs.Ytkmgbmnjabmhaaa.Pure
open Go.Proofs.Ytkmgbmnjabmhaaa.Lo
open Go Go.RowKit Go.Proofs.YtkmgbmnjabmhaaaW.PrintWords Go.Proofs.YtkmgbmnjabmhaaaW.PrintLast Go.Proofs.YtkmgbmnjabmhaaaW.PrintMore Go.Proofs.Ytkmgbmnjabmhaaa.Base Go.Proofs.Ytkmgbmnjabmhaaa.Ext
set_option linter.unusedVariables false
set_option linter.unusedSimpArgs false

theorem DiskOne : encorelaw03_DiskOne.Pure := by
  intro l0 a1 a2 _ _ _ h _
  unfold encorelaw03_DiskOne.f
  refine if_pos ?_
  simp [Lit.wf, IntKind.min, IntKind.max, IntKind.signed, IntKind.bits] at h
  omega
end Go.Proofs.Ytkmgbmnjabmhaaa.Pure
