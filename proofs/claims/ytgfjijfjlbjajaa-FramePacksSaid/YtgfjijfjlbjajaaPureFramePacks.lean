/- Pack and Size come to the reference's answers; memory. No condition beyond the row's own. -/
import Derived.Test.YtgfjijfjlbjajaaLp1
namespace Go.Proofs.Ytgfjijfjlbjajaa.Pure
open Go.Proofs.Ytgfjijfjlbjajaa.Lp
open Go Go.RowKit Go.Proofs.YtgfjijfjlbjajaaW.PrintWords Go.Proofs.YtgfjijfjlbjajaaW.PrintLast Go.Proofs.YtgfjijfjlbjajaaW.PrintMore Go.Proofs.Ytgfjijfjlbjajaa.Base Go.Proofs.Ytgfjijfjlbjajaa.Ext Go.Proofs.Ytgfjijfjlbjajaa.Mid Go.Proofs.Ytgfjijfjlbjajaa.BinMath Go.Proofs.Ytgfjijfjlbjajaa.BinLink Go.Proofs.Ytgfjijfjlbjajaa.FrameLink
set_option linter.unusedVariables false
set_option linter.unusedSimpArgs false

theorem FramePacks : encorelaw04_FramePacks.Pure := by
  intro l0 a1 _ _ hw _
  unfold encorelaw04_FramePacks.f
  exact if_pos (bytes_of_wf hw)
end Go.Proofs.Ytgfjijfjlbjajaa.Pure
