/- crc.Of is crc.More from 0. No condition. -/
import Derived.Test.YtgfjijfjlbjajaaExtMore
namespace Go.Proofs.Ytgfjijfjlbjajaa.Ext
open Go.RowKit Go.Proofs.YtgfjijfjlbjajaaW.PrintWords Go.Proofs.YtgfjijfjlbjajaaW.PrintLast Go.Proofs.YtgfjijfjlbjajaaW.PrintMore Go.Proofs.Ytgfjijfjlbjajaa.Base Go.Proofs.Ytgfjijfjlbjajaa.Arr
set_option linter.unusedVariables false
set_option linter.unusedSimpArgs false

def crc_Of.f (l0 : List Int) : Option Int := crc_More.f 0 l0
theorem crc_Of.calls (A0 : Option Addr) (c0 : Nat) (l0 : List Int) (r : Int) (w : World) (hr0 : Kd.C (Kd.int .u8) w A0 l0.length l0) (hc0 : l0.length ≤ c0) (h : crc_Of.f l0 = some r) :
    Calls Try.prog 19 #[.slice A0 l0.length c0] w fun e w' => e = .returned (.int .u32 r) ∧ Below w.heap.size w w' := by
  have H := Aside0.mk h
  have HR := Aside0.mk hr0
  clear h hr0
  go_enter Try.func19, Try.ntmps19
  go_wp2_with fail
  refine (crc_More.calls 0 A0 c0 l0 r _ HR.out hc0 H.out).mono ?_
  rintro e w1 ⟨rfl, hb⟩
  go_wp2_with fail
  go_ret
  exact ⟨rfl, hb⟩

end Go.Proofs.Ytgfjijfjlbjajaa.Ext
