/- The closed statement of frames: out of the laws for all frames. No condition. -/
import Derived.Test.YtgfjijfjlbjajaaKn1
import Derived.Test.YtgfjijfjlbjajaaFrameAllR
namespace Go.Proofs.Ytgfjijfjlbjajaa.Pure
open Go Go.RowKit Go.Proofs.Ytgfjijfjlbjajaa.Kn Go.Proofs.YtgfjijfjlbjajaaW.PrintWords Go.Proofs.YtgfjijfjlbjajaaW.PrintLast Go.Proofs.YtgfjijfjlbjajaaW.PrintMore Go.Proofs.Ytgfjijfjlbjajaa.Base Go.Proofs.Ytgfjijfjlbjajaa.Ext Go.Proofs.Ytgfjijfjlbjajaa.Mid Go.Proofs.Ytgfjijfjlbjajaa.BinMath Go.Proofs.Ytgfjijfjlbjajaa.BinLink Go.Proofs.Ytgfjijfjlbjajaa.FrameLink
set_option linter.unusedVariables false
set_option linter.unusedSimpArgs false

theorem FrameAgain : encorelaw04_FrameAgain.Pure := by
  intro l0 _ hl hw
  have hb := bytes_of_wf hw
  refine ⟨l0.length + 10, ?_⟩
  unfold encorelaw04_FrameAgain.f
  rw [next_eq hb (by omega), Option.bind_some]
  unfold nextR
  by_cases h0 : (readF numberF l0).2.2 = 0
  · obtain ⟨v, ev, hw, hv⟩ := num_ok hb h0
    have hlen := congrArg List.length hw
    rw [List.length_append, W_len] at hlen
    have hbr := read_bytes numberF hb
    rw [if_pos h0, ev, Int.toNat_natCast]
    generalize (readF numberF l0).2.1 = r at *
    by_cases h1 : (v : Int) > 8192
    · rw [if_pos h1, if_neg (by decide), if_pos (by simp [wrap64])]
      rfl
    · rw [if_neg h1]
      by_cases h2 : r.length < v + 4
      · rw [if_pos h2, if_neg (by decide), if_pos (by simp [wrap64])]
        rfl
      · rw [if_neg h2]
        by_cases h3 : four (sumB (l0.take (l0.length - r.length + v))) = (r.drop v).take 4
        · rw [if_pos h3, if_pos rfl]
          have hvl : (r.take v).length = v := by rw [List.length_take]; omega
          have hf := fol_le v
          show ((frame_Pack.f (r.take v)).bind _) = _
          rw [pack_eq (hbr.take v) (by rw [hvl]; omega), Option.bind_some, if_pos rfl]
          have hlv : l0.length - r.length + v = (W v ++ r.take v).length := by rw [List.length_append, W_len, hvl]; omega
          have e1 : l0.take (l0.length - r.length + v) = W v ++ r.take v := by
            rw [hlv]
            have hsplit : l0 = W v ++ r.take v ++ r.drop v := by rw [List.append_assoc, List.take_append_drop, hw]
            exact (congrArg (List.take _) hsplit).trans List.take_left
          have hpk : pk (r.take v) ++ r.drop (v + 4) = l0 := by
            unfold pk
            rw [hvl, ← e1, h3, e1]
            conv => rhs; rw [← hw, ← List.take_append_drop v r]
            rw [List.append_assoc, List.append_assoc]
            congr 2
            rw [← List.drop_drop]
            exact List.take_append_drop 4 (r.drop v)
          have hplen := congrArg List.length hpk
          rw [List.length_append] at hplen
          rw [if_pos (show (pk (r.take v)).length + (r.drop (v + 4)).length < 140737488355328 by omega)]
          show ((encoreref00_EqBytes.f (l0.length + 10) (pk (r.take v) ++ r.drop (v + 4)) l0).bind _) = _
          rw [hpk, eq_same l0 (by omega) _ (by omega), Option.bind_some, if_pos rfl]
          rfl
        · rw [if_neg h3, if_neg (by decide), if_pos (by simp [wrap64])]
          rfl
  · rw [if_neg h0, if_neg h0, if_pos (by simp [wrap64])]
    rfl
theorem wf_of_bytes {l : List Int} (h : Bytes l) : ∀ x ∈ l, (Lit.int .u8 x).wf = true := fun x hx => by
  have := h x hx
  simp [Lit.wf, IntKind.min, IntKind.max, IntKind.signed, IntKind.bits]
  omega
theorem again_all (rows : List (List Int)) : (∀ r ∈ rows, Bytes r ∧ r.length ≤ 100) → ∃ K, ∀ r ∈ rows, ∀ k, K ≤ k → encorelaw04_FrameAgain.f k r = some true := by
  induction rows with
  | nil => intro _; exact ⟨0, fun r hr => by cases hr⟩
  | cons p rows ih =>
    intro h
    obtain ⟨K, hK⟩ := ih (fun r hr => h r (by simp [hr]))
    have hp := h p (by simp)
    obtain ⟨q, hq⟩ := FrameAgain p (by unfold maxLen; omega) (by omega) (wf_of_bytes hp.1)
    refine ⟨K + q, fun r hr k hk => ?_⟩
    rcases List.mem_cons.1 hr with rfl | hr
    · exact at_rounds (g := fun n => encorelaw04_FrameAgain.f n r) (fun n => encorelaw04_FrameAgain.mono r n) (by omega) hq
    · exact hK r hr k (by omega)
theorem known_loop (rows : List (List Int)) (hl : rows.length ≤ 100) (hb : ∀ r ∈ rows, Bytes r ∧ r.length ≤ 100) (K : Nat) (hK : ∀ r ∈ rows, ∀ k, K ≤ k → encorelaw04_FrameAgain.f k r = some true) (d : Nat) :
    ∀ (k i : Nat), i + d = rows.length → K + d < k → encorelaw04_FrameKnown.l0 k true rows i = some true := by
  induction d with
  | zero =>
    intro k i hi hk
    obtain ⟨k, rfl⟩ : ∃ n, k = n + 1 := ⟨k - 1, by omega⟩
    unfold encorelaw04_FrameKnown.l0
    rw [if_neg (by omega)]
    rfl
  | succ d ih =>
    intro k i hi hk
    obtain ⟨k, rfl⟩ : ∃ n, k = n + 1 := ⟨k - 1, by omega⟩
    unfold encorelaw04_FrameKnown.l0
    have hm : Kn.rd_L1 rows i ∈ rows := by
      unfold Kn.rd_L1
      rw [Int.toNat_natCast, List.getD_eq_getElem?_getD, List.getElem?_eq_getElem (by omega)]
      exact List.getElem_mem _
    have ht : encorelaw04_FrameTakes.f (Kn.rd_L1 rows i) = some true := if_pos (hb _ hm).1
    rw [if_pos (by omega), if_pos (by omega), ht, Option.bind_some, if_pos rfl, hK _ hm k (by omega), Option.bind_some, if_pos rfl, show wrap64 ((i : Int) + 1) = ((i + 1 : Nat) : Int) by unfold wrap64; omega]
    exact ih k (i + 1) (by omega) (by omega)
theorem size_small (n : Int) (v : Int) (h : sizeR n = v) : frame_Size.f n = some v := by rw [size_eq, h]
theorem FrameKnown : encorelaw04_FrameKnown.Pure := by
  obtain ⟨rows, hrows⟩ : ∃ rows : List (List Int), rows = [[], [128], [128, 1], [160, 1], [191, 255], [192, 32, 1], [0, 82, 125, 83, 81, 128, 1], [0, 82, 125, 83, 81, 3], [0, 82, 125, 83, 81, 0, 0, 0, 0, 0], [1, 82, 125, 83, 81], [255]] := ⟨_, rfl⟩
  have hb : ∀ r ∈ rows, Bytes r ∧ r.length ≤ 100 := by rw [hrows]; unfold Bytes; decide
  have hrl : rows.length = 11 := by rw [hrows]; rfl
  obtain ⟨K, hK⟩ := again_all rows hb
  have hj : encorelaw04_FrameKnown.j0 (K + 20) true = some true := by
    unfold encorelaw04_FrameKnown.j0
    rw [← hrows]
    exact known_loop rows (by omega) hb K hK 11 (K + 19) 0 (by omega) (by omega)
  obtain ⟨big, hbig⟩ : ∃ b : List Int, b = List.replicate 8193 0 := ⟨_, rfl⟩
  have hbl : big.length = 8193 := by rw [hbig, List.length_replicate]
  have hbb : Bytes big := fun x hx => by rw [hbig] at hx; rw [(List.mem_replicate.1 hx).2]; omega
  have htl : (big.take 8192).length = 8192 := by rw [List.length_take]; omega
  have hp := pack_eq (hbb.take 8192) (by omega)
  have hpl := pk_len (big.take 8192)
  have hwl : (W 8192).length = 2 := by decide +kernel
  rw [htl, hwl] at hpl
  have hn := next_eq (pk_bytes (hbb.take 8192) (by omega)) (by omega)
  have hn2 := next_pack (hbb.take 8192) (by omega) (show Bytes [] from fun x hx => by cases hx)
  rw [List.append_nil] at hn2
  rw [hn2] at hn
  refine ⟨K + 20, ?_⟩
  unfold encorelaw04_FrameKnown.f
  rw [if_pos (by decide), Option.bind_some, ← hbig, if_pos (by omega), hp, Option.bind_some, pack_big (by omega), Option.bind_some]
  show ((frame_Next.f (pk (big.take 8192))).bind _) = _
  rw [hn, Option.bind_some, if_pos rfl]
  show (if ((pk (big.take 8192)).length : Int) = 8198 then _ else _) = _
  rw [if_pos (by rw [hpl]; rfl), if_pos rfl, if_pos rfl]
  show (if ((big.take 8192).length : Int) = 8192 then _ else _) = _
  rw [if_pos (by rw [htl]; rfl), size_small (-1) 0 (by decide +kernel), Option.bind_some, if_pos rfl, size_small 0 5 (by decide +kernel), Option.bind_some, if_pos rfl, size_small 4611686018427387904 0 (by decide +kernel), Option.bind_some]
  exact hj
end Go.Proofs.Ytgfjijfjlbjajaa.Pure
