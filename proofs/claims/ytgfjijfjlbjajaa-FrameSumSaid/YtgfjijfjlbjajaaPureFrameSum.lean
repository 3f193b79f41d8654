/- The four last bytes of a frame are the sum of all ahead of them. No condition beyond the row's own. -/
import Derived.Test.YtgfjijfjlbjajaaLs1
import Derived.Test.YtgfjijfjlbjajaaFrameLink
namespace Go.Proofs.Ytgfjijfjlbjajaa.Pure
open Go.Proofs.Ytgfjijfjlbjajaa.Ls
open Go Go.RowKit Go.Proofs.YtgfjijfjlbjajaaW.PrintWords Go.Proofs.YtgfjijfjlbjajaaW.PrintLast Go.Proofs.YtgfjijfjlbjajaaW.PrintMore Go.Proofs.Ytgfjijfjlbjajaa.Base Go.Proofs.Ytgfjijfjlbjajaa.Ext Go.Proofs.Ytgfjijfjlbjajaa.Mid Go.Proofs.Ytgfjijfjlbjajaa.BinMath Go.Proofs.Ytgfjijfjlbjajaa.BinLink Go.Proofs.Ytgfjijfjlbjajaa.FrameLink
set_option linter.unusedVariables false
set_option linter.unusedSimpArgs false

theorem FrameSum : encorelaw04_FrameSum.Pure := by
  intro l0 _ hl hw
  have hb := bytes_of_wf hw
  refine ⟨10, ?_⟩
  unfold encorelaw04_FrameSum.f
  obtain ⟨m, hm, hm2⟩ : ∃ m : Nat, mn (l0.length : Int) 500 = (m : Int) ∧ m ≤ l0.length ∧ m ≤ 500 := by
    unfold mn
    split
    · exact ⟨500, rfl, by omega, Nat.le_refl _⟩
    · exact ⟨l0.length, rfl, Nat.le_refl _, by omega⟩
  have hbt := hb.take m
  have hlt : (l0.take m).length = m := by rw [List.length_take]; omega
  rw [hm, if_pos (by omega), if_pos (by omega), Int.toNat_natCast]
  generalize l0.take m = b at *
  have hw := W_le b.length
  have hpl := pk_len b
  rw [pack_eq hbt (by omega), Option.bind_some, if_pos rfl]
  show encorelaw04_FrameSum.j0 10 (pk b) (wrap64 (((pk b).length : Int) - 4)) (decide (wrap64 (((pk b).length : Int) - 4) < 1)) = some true
  have e : wrap64 (((pk b).length : Int) - 4) = ((W b.length ++ b).length : Int) := by rw [List.length_append, hpl]; unfold wrap64; omega
  have hpos : 0 < (W b.length).length := by rw [W_len]; omega
  have hlen : (W b.length ++ b).length = (W b.length).length + b.length := List.length_append
  rw [e, encorelaw04_FrameSum.j0, if_neg (by simp; omega), if_pos (by omega), if_pos (by omega), Int.toNat_natCast]
  have e1 : (pk b).take (W b.length ++ b).length = W b.length ++ b := List.take_left
  have e2 : (pk b).drop (W b.length ++ b).length = four (sumB (W b.length ++ b)) := List.drop_left
  rw [e1, e2, sum_eq (bytes_append (W_bytes _ (by omega)) hbt), Option.bind_some]
  show ((encoreref00_EqBytes.f 9 (four (sumB (W b.length ++ b))) (four (sumB (W b.length ++ b)))).bind _) = _
  rw [eq_same _ (by rw [four_len]; omega) _ (by rw [four_len]; omega), Option.bind_some, if_pos rfl]
  rfl
end Go.Proofs.Ytgfjijfjlbjajaa.Pure
