/- Num and Int come to the reference's bytes, for every int. No condition. -/
import Derived.Test.YtpkkljlgggfmoaaLaws1
import Derived.Test.YtpkkljlgggfmoaaBinLink
namespace Go.Proofs.Ytpkkljlgggfmoaa.Pure
open Go.RowKit Go.Proofs.Ytpkkljlgggfmoaa.Laws Go.Proofs.YtpkkljlgggfmoaaW.PrintWords Go.Proofs.YtpkkljlgggfmoaaW.PrintLast Go.Proofs.Ytpkkljlgggfmoaa.Base Go.Proofs.Ytpkkljlgggfmoaa.Ext Go.Proofs.Ytpkkljlgggfmoaa.Mid Go.Proofs.Ytpkkljlgggfmoaa.Tt Go.Proofs.Ytpkkljlgggfmoaa.BinMath Go.Proofs.Ytpkkljlgggfmoaa.BinLink
set_option linter.unusedVariables false
set_option linter.unusedSimpArgs false

theorem numR_le (n : Int) : (numR n).1.length ≤ 9 := by
  unfold numR
  split
  · simp
  · split
    · simp
    · exact W_le _
theorem BinWrites : encorelaw02_BinWrites.Pure := by
  intro a0 ha
  have h := i64_of_wf ha
  have hn := numR_le a0
  have hz := W_le (zig a0)
  refine ⟨40, ?_⟩
  unfold encorelaw02_BinWrites.f
  rw [num_eq, ref_num_eq _ _ (by omega), Option.bind_some, Option.bind_some, eq_same _ (by omega) _ (by omega), Option.bind_some, if_pos rfl, if_pos rfl]
  rw [int_eq _ h, ref_int_eq _ h _ (by omega), Option.bind_some, Option.bind_some, eq_same _ (by omega) _ (by omega), Option.bind_some, if_pos rfl]
  rfl
end Go.Proofs.Ytpkkljlgggfmoaa.Pure
