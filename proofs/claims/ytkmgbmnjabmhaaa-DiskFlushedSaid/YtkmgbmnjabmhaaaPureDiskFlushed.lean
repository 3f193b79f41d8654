/- DiskFlushed: what its contract asks. No condition. -/
import Derived.Test.YtkmgbmnjabmhaaaLl1
namespace Go.Proofs.Ytkmgbmnjabmhaaa.Pure
open Go.Proofs.Ytkmgbmnjabmhaaa.Ll
open Go Go.RowKit Go.Proofs.YtkmgbmnjabmhaaaW.PrintWords Go.Proofs.YtkmgbmnjabmhaaaW.PrintLast Go.Proofs.YtkmgbmnjabmhaaaW.PrintMore Go.Proofs.Ytkmgbmnjabmhaaa.Base Go.Proofs.Ytkmgbmnjabmhaaa.Ext
set_option linter.unusedVariables false
set_option linter.unusedSimpArgs false

theorem DiskFlushed : encorelaw03_DiskFlushed.Pure := by
  intro l0 l1 a2 _ _ h0 _ _ h1 _
  unfold encorelaw03_DiskFlushed.f
  exact if_pos ⟨h0, h1⟩
end Go.Proofs.Ytkmgbmnjabmhaaa.Pure
