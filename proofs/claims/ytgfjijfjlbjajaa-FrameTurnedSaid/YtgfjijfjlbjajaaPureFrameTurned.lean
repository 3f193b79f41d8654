/- One bit that is turned behind the number makes ErrSum. No condition beyond the row's own. -/
import Derived.Test.YtgfjijfjlbjajaaLu1
namespace Go.Proofs.Ytgfjijfjlbjajaa.Pure
open Go.Proofs.Ytgfjijfjlbjajaa.Lu
open Go Go.RowKit Go.Proofs.YtgfjijfjlbjajaaW.PrintWords Go.Proofs.YtgfjijfjlbjajaaW.PrintLast Go.Proofs.YtgfjijfjlbjajaaW.PrintMore Go.Proofs.Ytgfjijfjlbjajaa.Base Go.Proofs.Ytgfjijfjlbjajaa.Ext Go.Proofs.Ytgfjijfjlbjajaa.Mid Go.Proofs.Ytgfjijfjlbjajaa.BinMath Go.Proofs.Ytgfjijfjlbjajaa.BinLink Go.Proofs.Ytgfjijfjlbjajaa.FrameLink
set_option linter.unusedVariables false
set_option linter.unusedSimpArgs false

theorem FrameTurned : encorelaw04_FrameTurned.Pure := by
  intro l0 a1 _ _ hw _
  unfold encorelaw04_FrameTurned.f
  exact if_pos (bytes_of_wf hw)
end Go.Proofs.Ytgfjijfjlbjajaa.Pure
