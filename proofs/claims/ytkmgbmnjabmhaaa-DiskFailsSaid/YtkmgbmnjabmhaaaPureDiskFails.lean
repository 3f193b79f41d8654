/- DiskFails: what its contract asks. No condition. -/
import Derived.Test.YtkmgbmnjabmhaaaLf1
namespace Go.Proofs.Ytkmgbmnjabmhaaa.Pure
open Go.Proofs.Ytkmgbmnjabmhaaa.Lf
open Go Go.RowKit Go.Proofs.YtkmgbmnjabmhaaaW.PrintWords Go.Proofs.YtkmgbmnjabmhaaaW.PrintLast Go.Proofs.YtkmgbmnjabmhaaaW.PrintMore Go.Proofs.Ytkmgbmnjabmhaaa.Base Go.Proofs.Ytkmgbmnjabmhaaa.Ext
set_option linter.unusedVariables false
set_option linter.unusedSimpArgs false

theorem DiskFails : encorelaw03_DiskFails.Pure := by
  intro a0 _
  rfl
end Go.Proofs.Ytkmgbmnjabmhaaa.Pure
