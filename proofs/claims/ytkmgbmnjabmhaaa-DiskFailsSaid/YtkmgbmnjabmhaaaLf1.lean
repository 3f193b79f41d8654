-- PRINTED by print.py (a twelfth state) out of the translation. Not trusted: Lean checks it.
import Derived.Test.YtkmgbmnjabmhaaaLf0
namespace Go.Proofs.Ytkmgbmnjabmhaaa.Lf
open Go.RowKit Go.Proofs.YtkmgbmnjabmhaaaW.PrintWords Go.Proofs.YtkmgbmnjabmhaaaW.PrintLast Go.Proofs.YtkmgbmnjabmhaaaW.PrintMore Go.Proofs.Ytkmgbmnjabmhaaa.Base Go.Proofs.Ytkmgbmnjabmhaaa.Ext
attribute [local go_sem] max2_int min2_int max_two min_two max_three min_three max_four min_four   -- for this text's walks alone
set_option linter.unusedVariables false
set_option linter.unusedSimpArgs false


/-! ### encorelaw03_DiskFails: function 6, by a walk of our own -/

/-- THE ONE PURE STATEMENT of encorelaw03_DiskFails: yours. -/
def encorelaw03_DiskFails.Pure : Prop := ∀ (a0 : Int), (Lit.int .i64 a0).wf = true → encorelaw03_DiskFails.f a0 = some true
theorem encorelaw03_DiskFails.walk (P : encorelaw03_DiskFails.Pure) (a0 : Int) (w : World) (w0 : (Lit.int .i64 a0).wf = true) :
    Calls Try.prog 6 #[.int .i64 a0] w fun e w' => e = .returned (.bool true) ∧ Below w.heap.size w w' := by
  have h := P a0 w0
  refine (encorelaw03_DiskFails.calls a0 true w h).mono ?_
  rintro e w' ⟨rfl, hd⟩
  exact ⟨rfl, hd⟩

end Go.Proofs.Ytkmgbmnjabmhaaa.Lf
