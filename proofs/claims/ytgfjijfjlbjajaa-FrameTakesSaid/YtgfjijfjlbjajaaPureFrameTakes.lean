/- Next and All answer as the chapter says, of all bytes (3000 at most); nothing of what came in is changed. No condition beyond the row's own. -/
import Derived.Test.YtgfjijfjlbjajaaLt1
namespace Go.Proofs.Ytgfjijfjlbjajaa.Pure
open Go.Proofs.Ytgfjijfjlbjajaa.Lt
open Go Go.RowKit Go.Proofs.YtgfjijfjlbjajaaW.PrintWords Go.Proofs.YtgfjijfjlbjajaaW.PrintLast Go.Proofs.YtgfjijfjlbjajaaW.PrintMore Go.Proofs.Ytgfjijfjlbjajaa.Base Go.Proofs.Ytgfjijfjlbjajaa.Ext Go.Proofs.Ytgfjijfjlbjajaa.Mid Go.Proofs.Ytgfjijfjlbjajaa.BinMath Go.Proofs.Ytgfjijfjlbjajaa.BinLink Go.Proofs.Ytgfjijfjlbjajaa.FrameLink

theorem FrameTakes : encorelaw04_FrameTakes.Pure := by
  intro l0 _ _ hw
  unfold encorelaw04_FrameTakes.f
  exact if_pos (bytes_of_wf hw)
end Go.Proofs.Ytgfjijfjlbjajaa.Pure
