import Derived.Test.YthnjkmjcacoajaaKJournalKeeps25
/- A cell whose first bytes alone are new: plain law. No condition. -/
namespace Go.Proofs.Ythnjkmjcacoajaa.Ext
open Go Go.RowKit Go.Proofs.YthnjkmjcacoajaaW.PrintWords Go.Proofs.YthnjkmjcacoajaaW.PrintLast Go.Proofs.YthnjkmjcacoajaaW.PrintMore Go.Proofs.Ythnjkmjcacoajaa.Base Go.Proofs.Ythnjkmjcacoajaa.Arr
set_option linter.unusedVariables false
set_option maxRecDepth 10000
set_option linter.unusedSimpArgs false

/-- runs, of which the last one may be cut -/
structure PreR (a b : List (List Int)) : Prop where
  len : a.length ≤ b.length
  pre : ∀ i, i < a.length → ∃ t, b.getD i [] = a.getD i [] ++ t
  eq : ∀ i, i + 1 < a.length → b.getD i [] = a.getD i []
theorem PreR.rfl' (a : List (List Int)) : PreR a a := ⟨Nat.le_refl _, fun i _ => ⟨[], (List.append_nil _).symm⟩, fun i _ => rfl⟩
theorem PreR.trans {a b c : List (List Int)} (h : PreR a b) (h' : PreR b c) : PreR a c := by
  refine ⟨Nat.le_trans h.len h'.len, fun i hi => ?_, fun i hi => ?_⟩
  · obtain ⟨t, ht⟩ := h.pre i hi
    obtain ⟨u, hu⟩ := h'.pre i (Nat.lt_of_lt_of_le hi h.len)
    exact ⟨t ++ u, by rw [hu, ht, List.append_assoc]⟩
  · rw [h'.eq i (Nat.lt_of_lt_of_le hi h.len), h.eq i hi]
theorem PreR.snoc (a : List (List Int)) (d : List Int) : PreR a (a ++ [d]) := by
  refine ⟨by simp, fun i hi => ⟨[], ?_⟩, fun i hi => ?_⟩
  · rw [List.append_nil, List.getD_eq_getElem?_getD, List.getD_eq_getElem?_getD, List.getElem?_append_left hi]
  · rw [List.getD_eq_getElem?_getD, List.getD_eq_getElem?_getD, List.getElem?_append_left (by omega)]
theorem PreR.last (a : List (List Int)) (d : List Int) : PreR a (appLast a d) := by
  have e : ∀ i, (appLast a d).getD i [] = if i = a.length - 1 ∧ i < a.length then a.getD i [] ++ d else a.getD i [] := fun i => by
    unfold appLast
    rw [List.getD_eq_getElem?_getD, List.getElem?_set]
    by_cases h1 : a.length - 1 = i
    · subst h1
      rw [if_pos rfl]
      by_cases h2 : a.length - 1 < a.length
      · rw [if_pos h2, if_pos ⟨rfl, h2⟩]; rfl
      · rw [if_neg h2, if_neg (fun h => h2 h.2), List.getD_eq_getElem?_getD, List.getElem?_eq_none (by omega)]
    · rw [if_neg h1, if_neg (fun h => h1 h.1.symm), List.getD_eq_getElem?_getD]
  refine ⟨by rw [appLast_len]; exact Nat.le_refl _, fun i hi => ?_, fun i hi => ?_⟩
  · rw [e]
    split
    · exact ⟨d, rfl⟩
    · exact ⟨[], (List.append_nil _).symm⟩
  · rw [e, if_neg (by omega)]
theorem PreR.next (st : Sc) (t : Int × Int × Bool × List Int × Int) : PreR st.runs (nextS st t).runs := by
  unfold nextS
  split
  · exact PreR.trans (PreR.snoc _ []) (PreR.last _ _)
  · exact PreR.last _ _
theorem PreR.run (A : List (List Int)) : ∀ st, PreR st.runs (runS A st).runs := by
  induction A with
  | nil => intro st; exact PreR.rfl' _
  | cons c cs ih => intro st; exact PreR.trans (PreR.next st _) (ih _)
/-! #### a cell, half of it new -/
theorem rd_mix (F O : List Int) (cut : Nat) (hF : F.length = 64) (hO : O.length = 64) (hc : cut ≤ 64) (i : Nat) : rd (F.take cut ++ O.drop cut) (i : Int) = if i < cut then rd F (i : Int) else rd O (i : Int) := by
  have hl : (F.take cut).length = cut := by rw [List.length_take]; omega
  unfold rd
  rw [Int.toNat_natCast, List.getD_eq_getElem?_getD, List.getD_eq_getElem?_getD, List.getD_eq_getElem?_getD]
  by_cases h : i < cut
  · rw [if_pos h, List.getElem?_append_left (by omega), List.getElem?_take, if_pos h]
  · rw [if_neg h, List.getElem?_append_right (by omega), List.getElem?_drop, hl, show cut + (i - cut) = i by omega]
/-- where a whole cell says its stamp -/
structure EndsAt (F : List Int) (a b : Int) : Prop where
  len : F.length = 64
  z0 : rd F ((0 : Nat) : Int) = 0
  z1 : rd F ((1 : Nat) : Int) = 0
  z2 : rd F ((2 : Nat) : Int) = 0
  ge : rd F ((3 : Nat) : Int) = a
  z4 : rd F ((4 : Nat) : Int) = 0
  z5 : rd F ((5 : Nat) : Int) = 0
  z6 : rd F ((6 : Nat) : Int) = 0
  ep : rd F ((7 : Nat) : Int) = b
  back : F.drop 56 = [b, 0, 0, 0, a, 0, 0, 0]
theorem rd_take8 (l : List Int) (i : Nat) (h : i < 8) : rd (l.take 8) (i : Int) = rd l (i : Int) := by
  unfold rd
  rw [Int.toNat_natCast, List.getD_eq_getElem?_getD, List.getD_eq_getElem?_getD, List.getElem?_take, if_pos h]
theorem back_rd (x : List Int) (hl : x.length = 64) (h : backOK x) (i : Nat) (hi : i < 8) : rd x ((56 + i : Nat) : Int) = rd x ((7 - i : Nat) : Int) := by
  unfold backOK at h
  rw [← rd_take8 x (7 - i) (by omega), h]
  unfold rd
  rw [Int.toNat_natCast, Int.toNat_natCast, List.getD_eq_getElem?_getD, List.getD_eq_getElem?_getD, List.getElem?_reverse (by rw [List.length_drop]; omega), List.getElem?_drop, List.length_drop]
  congr 2
  omega
end Go.Proofs.Ythnjkmjcacoajaa.Ext

