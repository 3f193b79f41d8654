/- Frames one behind the other are taken out as they were put in, whatever cuts them short. No condition beyond the row's own. -/
import Derived.Test.YtgfjijfjlbjajaaFrameBackW
namespace Go.Proofs.Ytgfjijfjlbjajaa.Pure
open Go Go.RowKit Go.Proofs.YtgfjijfjlbjajaaW.PrintWords Go.Proofs.Ytgfjijfjlbjajaa.Base Go.Proofs.Ytgfjijfjlbjajaa.Ext
theorem FrameBack (A0 : Option Addr) (c0 : Nat) (l0 : List (List Int)) (a1 : Int) (w : World) (hr0 : Kd.C (Kd.slice 5 (Kd.int .u8)) w A0 l0.length l0) (hc0 : l0.length ≤ c0) (hb : ∀ l ∈ l0, ∀ x ∈ l, 0 ≤ x ∧ x < 256) :
    Calls Try.prog 8 #[.slice A0 l0.length c0, .int .i64 a1] w fun e w' => e = .returned (.bool true) ∧ Below w.heap.size w w' :=
  encorelaw04_FrameBack.calls A0 c0 l0 a1 true w hr0 hc0 (if_pos hb)
end Go.Proofs.Ytgfjijfjlbjajaa.Pure
