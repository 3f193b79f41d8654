/- What was taken out, packed, is what it was. No condition beyond the row's own. -/
import Derived.Test.YtgfjijfjlbjajaaLa1
import Derived.Test.YtgfjijfjlbjajaaFrameLink
namespace Go.Proofs.Ytgfjijfjlbjajaa.Pure
open Go.Proofs.Ytgfjijfjlbjajaa.La
open Go Go.RowKit Go.Proofs.YtgfjijfjlbjajaaW.PrintWords Go.Proofs.YtgfjijfjlbjajaaW.PrintLast Go.Proofs.YtgfjijfjlbjajaaW.PrintMore Go.Proofs.Ytgfjijfjlbjajaa.Base Go.Proofs.Ytgfjijfjlbjajaa.Ext Go.Proofs.Ytgfjijfjlbjajaa.Mid Go.Proofs.Ytgfjijfjlbjajaa.BinMath Go.Proofs.Ytgfjijfjlbjajaa.BinLink Go.Proofs.Ytgfjijfjlbjajaa.FrameLink
set_option linter.unusedVariables false
set_option linter.unusedSimpArgs false

theorem FrameAgain : encorelaw04_FrameAgain.Pure := by
  intro l0 _ hl hw
  have hb := bytes_of_wf hw
  refine ⟨l0.length + 10, ?_⟩
  unfold encorelaw04_FrameAgain.f
  rw [next_eq hb (by omega), Option.bind_some]
  unfold nextR
  by_cases h0 : (readF numberF l0).2.2 = 0
  · obtain ⟨v, ev, hw, hv⟩ := num_ok hb h0
    have hlen := congrArg List.length hw
    rw [List.length_append, W_len] at hlen
    have hbr := read_bytes numberF hb
    rw [if_pos h0, ev, Int.toNat_natCast]
    generalize (readF numberF l0).2.1 = r at *
    by_cases h1 : (v : Int) > 8192
    · rw [if_pos h1, if_neg (by decide), if_pos (by simp [wrap64])]
      rfl
    · rw [if_neg h1]
      by_cases h2 : r.length < v + 4
      · rw [if_pos h2, if_neg (by decide), if_pos (by simp [wrap64])]
        rfl
      · rw [if_neg h2]
        by_cases h3 : four (sumB (l0.take (l0.length - r.length + v))) = (r.drop v).take 4
        · rw [if_pos h3, if_pos rfl]
          have hvl : (r.take v).length = v := by rw [List.length_take]; omega
          have hf := fol_le v
          show ((frame_Pack.f (r.take v)).bind _) = _
          rw [pack_eq (hbr.take v) (by rw [hvl]; omega), Option.bind_some, if_pos rfl]
          have hlv : l0.length - r.length + v = (W v ++ r.take v).length := by rw [List.length_append, W_len, hvl]; omega
          have e1 : l0.take (l0.length - r.length + v) = W v ++ r.take v := by
            rw [hlv]
            have hsplit : l0 = W v ++ r.take v ++ r.drop v := by rw [List.append_assoc, List.take_append_drop, hw]
            exact (congrArg (List.take _) hsplit).trans List.take_left
          have hpk : pk (r.take v) ++ r.drop (v + 4) = l0 := by
            unfold pk
            rw [hvl, ← e1, h3, e1]
            conv => rhs; rw [← hw, ← List.take_append_drop v r]
            rw [List.append_assoc, List.append_assoc]
            congr 2
            rw [← List.drop_drop]
            exact List.take_append_drop 4 (r.drop v)
          have hplen := congrArg List.length hpk
          rw [List.length_append] at hplen
          rw [if_pos (show (pk (r.take v)).length + (r.drop (v + 4)).length < 140737488355328 by omega)]
          show ((encoreref00_EqBytes.f (l0.length + 10) (pk (r.take v) ++ r.drop (v + 4)) l0).bind _) = _
          rw [hpk, eq_same l0 (by omega) _ (by omega), Option.bind_some, if_pos rfl]
          rfl
        · rw [if_neg h3, if_neg (by decide), if_pos (by simp [wrap64])]
          rfl
  · rw [if_neg h0, if_neg h0, if_pos (by simp [wrap64])]
    rfl
end Go.Proofs.Ytgfjijfjlbjajaa.Pure
