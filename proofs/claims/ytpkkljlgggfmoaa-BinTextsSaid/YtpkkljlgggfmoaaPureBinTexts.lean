/- Text comes to the reference's bytes, for every text and limit. No condition beyond the text's own. -/
import Derived.Test.YtpkkljlgggfmoaaLaws1
import Derived.Test.YtpkkljlgggfmoaaBinLink
namespace Go.Proofs.Ytpkkljlgggfmoaa.Pure
open Go.RowKit Go.Proofs.Ytpkkljlgggfmoaa.Laws Go.Proofs.YtpkkljlgggfmoaaW.PrintWords Go.Proofs.YtpkkljlgggfmoaaW.PrintLast Go.Proofs.Ytpkkljlgggfmoaa.Base Go.Proofs.Ytpkkljlgggfmoaa.Ext Go.Proofs.Ytpkkljlgggfmoaa.Mid Go.Proofs.Ytpkkljlgggfmoaa.Tt Go.Proofs.Ytpkkljlgggfmoaa.BinMath Go.Proofs.Ytpkkljlgggfmoaa.BinLink
set_option linter.unusedVariables false
set_option linter.unusedSimpArgs false

theorem bytesOf_len (s : ByteArray) : (bytesOf s).length = s.size := by simp [bytesOf]
theorem textR_le (s : ByteArray) (most : Int) : (textR s most).1.length ≤ s.size + 9 := by
  have := W_le s.size
  unfold textR
  split
  · simp
  · split
    · simp
    · rw [List.length_append, bytesOf_len]; omega
theorem BinTexts : encorelaw02_BinTexts.Pure := by
  intro a0 a1 hs _
  have hn := textR_le a0 a1
  refine ⟨a0.size + 40, ?_⟩
  unfold encorelaw02_BinTexts.f
  rw [text_eq _ _ hs, ref_text_eq _ _ hs _ (by omega), Option.bind_some, Option.bind_some, eq_same _ (by omega) _ (by omega), Option.bind_some, if_pos rfl, if_pos rfl]
  rfl
end Go.Proofs.Ytpkkljlgggfmoaa.Pure
