/- Bytes that are read, written again, are the same, for every row of bytes. No condition beyond the row's own. -/
import Derived.Test.YtpkkljlgggfmoaaLaws1
import Derived.Test.YtpkkljlgggfmoaaBinTextual
namespace Go.Proofs.Ytpkkljlgggfmoaa.Pure
open Go.RowKit Go.Proofs.Ytpkkljlgggfmoaa.Laws Go.Proofs.YtpkkljlgggfmoaaW.PrintWords Go.Proofs.YtpkkljlgggfmoaaW.PrintLast Go.Proofs.Ytpkkljlgggfmoaa.Base Go.Proofs.Ytpkkljlgggfmoaa.Ext Go.Proofs.Ytpkkljlgggfmoaa.Mid Go.Proofs.Ytpkkljlgggfmoaa.Tt Go.Proofs.Ytpkkljlgggfmoaa.BinMath Go.Proofs.Ytpkkljlgggfmoaa.BinLink
set_option linter.unusedVariables false
set_option linter.unusedSimpArgs false

theorem takeR_again {l : List Int} (h : Bytes l) (h0 : (takeR l).2.2 = 0) : W (takeR l).1 ++ l.drop (takeR l).2.1 = l := by
  unfold takeR at h0 ⊢
  by_cases c0 : l.length = 0
  · rw [if_pos c0] at h0
    exact absurd h0 (by decide)
  · rw [if_neg c0] at h0 ⊢
    by_cases c1 : l.length ≤ lead (rd l 0)
    · rw [if_pos c1] at h0
      exact absurd h0 (by decide)
    · rw [if_neg c1] at h0 ⊢
      by_cases c2 : fol (vN l (lead (rd l 0)) (lead (rd l 0))) ≠ lead (rd l 0)
      · rw [if_pos c2] at h0
        exact absurd h0 (by decide)
      · rw [if_neg c2]
        have c3 : fol (vN l (lead (rd l 0)) (lead (rd l 0))) = lead (rd l 0) := Decidable.not_not.mp c2
        have := again h (by omega) c3
        unfold W
        rw [c3]
        exact this
/-- what is read whole, as an int -/
theorem readI_ok {l : List Int} (h : Bytes l) (h0 : (readF wholeF l).2.2 = 0) : W (zig (readF wholeF l).1) ++ (readF wholeF l).2.1 = l ∧ -9223372036854775808 ≤ (readF wholeF l).1 ∧ (readF wholeF l).1 ≤ 9223372036854775807 := by
  have hv := takeR_lt h
  have e := read_take wholeF h
  rw [wholeF_eq _ hv] at e
  by_cases c : (takeR l).2.2 = 0
  · rw [if_neg (fun hc => hc c), if_neg (show ¬ ((zag (takeR l).1, 0) : Int × Int).2 ≠ 0 by simp)] at e
    rw [e]
    show W (zig (zag (takeR l).1)) ++ l.drop (takeR l).2.1 = l ∧ _
    rw [zig_zag]
    exact ⟨takeR_again h c, zag_range _ hv⟩
  · rw [if_pos c] at e
    rw [e] at h0
    exact absurd h0 c
/-- what is read whole, as a number -/
theorem readN_ok {l : List Int} (h : Bytes l) (h0 : (readF numberF l).2.2 = 0) : ∃ v : Nat, (readF numberF l).1 = v ∧ v ≤ 9007199254740991 ∧ W v ++ (readF numberF l).2.1 = l ∧ (readF wholeF l).2.2 = 0 := by
  have hv := takeR_lt h
  have e := read_take numberF h
  have e2 := read_take wholeF h
  rw [numberF_eq _ hv] at e
  rw [wholeF_eq _ hv] at e2
  by_cases c : (takeR l).2.2 = 0
  · rw [if_neg (fun hc => hc c)] at e
    rw [if_neg (fun hc => hc c), if_neg (show ¬ ((zag (takeR l).1, 0) : Int × Int).2 ≠ 0 by simp)] at e2
    by_cases h1 : (takeR l).1 > 9007199254740991
    · rw [if_pos h1, if_pos (show ((0, 4) : Int × Int).2 ≠ 0 by decide)] at e
      rw [e] at h0
      exact absurd h0 (by decide)
    · rw [if_neg h1, if_neg (show ¬ ((((takeR l).1 : Int), 0) : Int × Int).2 ≠ 0 by simp)] at e
      rw [e, e2]
      exact ⟨(takeR l).1, rfl, by omega, takeR_again h c, rfl⟩
  · rw [if_pos c] at e
    rw [e] at h0
    exact absurd h0 c
theorem numR_of (v : Nat) (h : v ≤ 9007199254740991) : numR (v : Int) = (W v, 0) := by
  rw [numR_nat, if_neg (by omega)]
/-- the last part -/
theorem again_j1 (l : List Int) (h : Bytes l) (hl : l.length ≤ 140737488351232) (x5 x8 : Int) (hx : x8 = 0 → x5 = 0) (k : Nat) (hk : l.length + 2 ≤ k) : encorelaw02_BinAgain.j1 k l x5 x8 = some true := by
  obtain ⟨k, rfl⟩ : ∃ q, k = q + 1 := ⟨k - 1, by omega⟩
  rw [encorelaw02_BinAgain.j1, takeText_eq h (by omega), Option.bind_some]
  have hend : (if x8 = 0 then (if x5 = 0 then ((encorelaw02_works.f).bind fun t227 => (some t227)) else (some false)) else ((encorelaw02_works.f).bind fun t228 => (some t228))) = some true := by
    by_cases h8 : x8 = 0
    · rw [if_pos h8, if_pos (hx h8)]
      rfl
    · rw [if_neg h8]
      rfl
  by_cases h0 : (textOff l l.length).2.2 = 0
  · rw [if_pos h0]
    unfold textOff at h0 ⊢
    by_cases c0 : (readF numberF l).2.2 = 0
    · obtain ⟨v, ev, hv, hw, _⟩ := readN_ok h c0
      have hb := read_bytes numberF h
      rw [if_pos c0, ev] at h0 ⊢
      generalize (readF numberF l).2.1 = r at *
      have hlen := congrArg List.length hw
      rw [List.length_append, W_len] at hlen
      have hle : ¬ ((v : Int) > (l.length : Int)) := by
        intro hc
        rw [if_pos hc] at h0
        exact absurd h0 (by decide)
      rw [if_neg hle] at h0 ⊢
      by_cases c2 : (v : Int) > (r.length : Int)
      · rw [if_pos c2] at h0
        exact absurd h0 (by decide)
      · rw [if_neg c2, Int.toNat_natCast]
        show ((bin_Text.f (strOfNums (r.take v)) ((strOfNums (r.take v)).size : Int)).bind _) = _
        have hs : (strOfNums (r.take v)).size = v := by
          rw [← bytesOf_len, bytesOf_strOf (hb.take v), List.length_take]
          omega
        rw [hs, text_eq _ _ (by omega)]
        have et : textR (strOfNums (r.take v)) (v : Int) = (W v ++ r.take v, 0) := by
          unfold textR
          rw [hs, if_neg (by omega), if_neg (by omega), bytesOf_strOf (hb.take v)]
        rw [et, Option.bind_some, if_pos rfl]
        have e : W v ++ r.take v ++ r.drop v = l := by rw [List.append_assoc, List.take_append_drop, hw]
        have e2 := congrArg List.length e
        rw [List.length_append] at e2
        rw [if_pos (show (W v ++ r.take v).length + (r.drop v).length < 140737488355328 by omega)]
        show ((encoreref00_EqBytes.f k (W v ++ r.take v ++ r.drop v) l).bind _) = _
        rw [e, eq_same l (by omega) k (by omega), Option.bind_some, if_pos rfl]
        exact hend
    · rw [if_neg c0] at h0
      exact absurd h0 c0
  · rw [if_neg h0]
    exact hend
theorem again_j0 (l : List Int) (h : Bytes l) (hl : l.length ≤ 140737488351232) (x5 : Int) (hx : x5 = (readF wholeF l).2.2) (k : Nat) (hk : l.length + 3 ≤ k) : encorelaw02_BinAgain.j0 k l x5 false = some true := by
  obtain ⟨k, rfl⟩ : ∃ q, k = q + 1 := ⟨k - 1, by omega⟩
  rw [encorelaw02_BinAgain.j0, if_neg (by decide), takeNum_eq l (by omega), Option.bind_some]
  by_cases c0 : (readF numberF l).2.2 = 0
  · obtain ⟨v, ev, hv, hw, hi⟩ := readN_ok h c0
    rw [if_pos c0, ev, num_eq, numR_of v hv, Option.bind_some, if_pos rfl]
    have e2 := congrArg List.length hw
    rw [List.length_append] at e2
    rw [if_pos (show (W v).length + (readF numberF l).2.1.length < 140737488355328 by omega)]
    show ((encoreref00_EqBytes.f k (W v ++ (readF numberF l).2.1) l).bind _) = _
    rw [hw, eq_same l (by omega) k (by omega), Option.bind_some, if_pos rfl]
    exact again_j1 l h hl x5 _ (fun _ => by rw [hx]; exact hi) k (by omega)
  · rw [if_neg c0]
    exact again_j1 l h hl x5 _ (fun hc => absurd hc c0) k (by omega)
theorem BinAgain : encorelaw02_BinAgain.Pure := by
  intro l0 _ hl hw
  have h := bytes_of_wf hw
  refine ⟨l0.length + 10, ?_⟩
  unfold encorelaw02_BinAgain.f
  rw [takeInt_eq l0 (by omega), Option.bind_some]
  by_cases c0 : (readF wholeF l0).2.2 = 0
  · obtain ⟨hw, hr⟩ := readI_ok h c0
    have e2 := congrArg List.length hw
    rw [List.length_append] at e2
    rw [if_pos c0, int_eq _ hr, Option.bind_some, if_pos (by omega), hw, eq_same l0 (by omega) _ (by omega), Option.bind_some]
    exact again_j0 l0 h (by omega) _ rfl _ (by omega)
  · rw [if_neg c0]
    exact again_j0 l0 h (by omega) _ rfl _ (by omega)
end Go.Proofs.Ytpkkljlgggfmoaa.Pure
