/- DiskEnds: what its contract asks. No condition. -/
import Derived.Test.YtkmgbmnjabmhaaaLe1
namespace Go.Proofs.Ytkmgbmnjabmhaaa.Pure
open Go.Proofs.Ytkmgbmnjabmhaaa.Le
open Go Go.RowKit Go.Proofs.YtkmgbmnjabmhaaaW.PrintWords Go.Proofs.YtkmgbmnjabmhaaaW.PrintLast Go.Proofs.YtkmgbmnjabmhaaaW.PrintMore Go.Proofs.Ytkmgbmnjabmhaaa.Base Go.Proofs.Ytkmgbmnjabmhaaa.Ext
set_option linter.unusedVariables false
set_option linter.unusedSimpArgs false

theorem DiskEnds : encorelaw03_DiskEnds.Pure := by
  intro l0 a1 _ _ h0 _
  unfold encorelaw03_DiskEnds.f
  exact if_pos h0
end Go.Proofs.Ytkmgbmnjabmhaaa.Pure
