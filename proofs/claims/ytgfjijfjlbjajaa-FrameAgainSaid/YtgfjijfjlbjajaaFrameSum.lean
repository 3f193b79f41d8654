/- frame.sum, frame.Pack, walked. Conditions: a row that append bears. -/
import Derived.Test.YtgfjijfjlbjajaaMid1
import Derived.Test.YtgfjijfjlbjajaaOf
namespace Go.Proofs.Ytgfjijfjlbjajaa.Ext
open Go.RowKit Go.Proofs.YtgfjijfjlbjajaaW.PrintWords Go.Proofs.YtgfjijfjlbjajaaW.PrintLast Go.Proofs.YtgfjijfjlbjajaaW.PrintMore Go.Proofs.Ytgfjijfjlbjajaa.Base Go.Proofs.Ytgfjijfjlbjajaa.Arr Go.Proofs.Ytgfjijfjlbjajaa.Mid
set_option linter.unusedVariables false
set_option linter.unusedSimpArgs false

/-- a sum as four bytes, the highest first -/
def four (s : Int) : List Int := [s / 16777216 % 256, s / 65536 % 256, s / 256 % 256, s % 256]
set_option maxHeartbeats 2000000 in
set_option maxRecDepth 100000 in
theorem frame_sum.calls (A0 : Option Addr) (c0 : Nat) (l0 : List Int) (s : Int) (w : World) (hr0 : Kd.C (Kd.int .u8) w A0 l0.length l0) (hc0 : l0.length ≤ c0) (h : crc_Of.f l0 = some s) :
    Calls Try.prog 25 #[.slice A0 l0.length c0] w fun e w' => e = .returned (.agg (rowK .u8 (four s))) ∧ Below w.heap.size w w' := by
  have H := Aside0.mk h
  have HR := Aside0.mk hr0
  clear h hr0
  go_enter Try.func25, Try.ntmps25
  go_wp2_with fail
  have hrow := HoldsRow.new w 45 (rowK .u8 [0, 0, 0, 0])
  have hb0 := below_alloc (Below.refl w.heap.size w) (.cells (rowK .u8 [0, 0, 0, 0]) 45)
  refine (crc_Of.calls A0 c0 l0 s _ (Kd.C_alloc HR.out _) hc0 H.out).mono ?_
  rintro e w1 ⟨rfl, hb⟩
  have hrow1 := hrow.below (w' := w1) hb (by simp)
  have hb1 := below_then hb0 (by simp) hb
  clear hb hrow hb0 H HR
  have hsz : (rowK .u8 (four s)).size = 4 := rfl
  go_wp2_with (first | (refine wpList_store_row rfl 45 _ _ rfl w.heap.size (rowK .u8 (four s)) rfl rfl 45 (rowK .u8 [0, 0, 0, 0]) hrow1 (by rw [hsz]; kernel_rfl) rfl (rowK_one _ _) ?_))
  exact bodyPost_ret (results_cell_row (p := 2) (ty := 45) rfl _ _ w.heap.size 45 (rowK .u8 (four s)) (0, 0) _ rfl (hrow1.row _) Try.underlying45 rfl (by rw [hsz]; kernel_rfl)) rfl ⟨rfl, below_setRow hb1 _ (Nat.le_refl _)⟩
end Go.Proofs.Ytgfjijfjlbjajaa.Ext
