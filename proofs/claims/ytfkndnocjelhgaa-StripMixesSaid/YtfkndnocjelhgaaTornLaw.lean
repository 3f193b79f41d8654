/- A cell whose first bytes alone are new: plain law. No condition. -/
import Derived.Test.YtfkndnocjelhgaaScanLaw
namespace Go.Proofs.Ytfkndnocjelhgaa.Ext
open Go Go.RowKit Go.Proofs.YtfkndnocjelhgaaW.PrintWords Go.Proofs.YtfkndnocjelhgaaW.PrintLast Go.Proofs.YtfkndnocjelhgaaW.PrintMore Go.Proofs.Ytfkndnocjelhgaa.Base Go.Proofs.Ytfkndnocjelhgaa.Arr
set_option linter.unusedVariables false
set_option linter.unusedSimpArgs false

/-- runs, of which the last one may be cut -/
structure PreR (a b : List (List Int)) : Prop where
  len : a.length ≤ b.length
  pre : ∀ i, i < a.length → ∃ t, b.getD i [] = a.getD i [] ++ t
  eq : ∀ i, i + 1 < a.length → b.getD i [] = a.getD i []
theorem PreR.rfl' (a : List (List Int)) : PreR a a := ⟨Nat.le_refl _, fun i _ => ⟨[], (List.append_nil _).symm⟩, fun i _ => rfl⟩
theorem PreR.trans {a b c : List (List Int)} (h : PreR a b) (h' : PreR b c) : PreR a c := by
  refine ⟨Nat.le_trans h.len h'.len, fun i hi => ?_, fun i hi => ?_⟩
  · obtain ⟨t, ht⟩ := h.pre i hi
    obtain ⟨u, hu⟩ := h'.pre i (Nat.lt_of_lt_of_le hi h.len)
    exact ⟨t ++ u, by rw [hu, ht, List.append_assoc]⟩
  · rw [h'.eq i (Nat.lt_of_lt_of_le hi h.len), h.eq i hi]
theorem PreR.snoc (a : List (List Int)) (d : List Int) : PreR a (a ++ [d]) := by
  refine ⟨by simp, fun i hi => ⟨[], ?_⟩, fun i hi => ?_⟩
  · rw [List.append_nil, List.getD_eq_getElem?_getD, List.getD_eq_getElem?_getD, List.getElem?_append_left hi]
  · rw [List.getD_eq_getElem?_getD, List.getD_eq_getElem?_getD, List.getElem?_append_left (by omega)]
theorem PreR.last (a : List (List Int)) (d : List Int) : PreR a (appLast a d) := by
  have e : ∀ i, (appLast a d).getD i [] = if i = a.length - 1 ∧ i < a.length then a.getD i [] ++ d else a.getD i [] := fun i => by
    unfold appLast
    rw [List.getD_eq_getElem?_getD, List.getElem?_set]
    by_cases h1 : a.length - 1 = i
    · subst h1
      rw [if_pos rfl]
      by_cases h2 : a.length - 1 < a.length
      · rw [if_pos h2, if_pos ⟨rfl, h2⟩]; rfl
      · rw [if_neg h2, if_neg (fun h => h2 h.2), List.getD_eq_getElem?_getD, List.getElem?_eq_none (by omega)]
    · rw [if_neg h1, if_neg (fun h => h1 h.1.symm), List.getD_eq_getElem?_getD]
  refine ⟨by rw [appLast_len]; exact Nat.le_refl _, fun i hi => ?_, fun i hi => ?_⟩
  · rw [e]
    split
    · exact ⟨d, rfl⟩
    · exact ⟨[], (List.append_nil _).symm⟩
  · rw [e, if_neg (by omega)]
theorem PreR.next (st : Sc) (t : Int × Int × Bool × List Int × Int) : PreR st.runs (nextS st t).runs := by
  unfold nextS
  split
  · exact PreR.trans (PreR.snoc _ []) (PreR.last _ _)
  · exact PreR.last _ _
theorem PreR.run (A : List (List Int)) : ∀ st, PreR st.runs (runS A st).runs := by
  induction A with
  | nil => intro st; exact PreR.rfl' _
  | cons c cs ih => intro st; exact PreR.trans (PreR.next st _) (ih _)
theorem epoch_le (g : Int) (A : List (List Int)) : ∀ st, okS g A st → st.epoch ≤ (runS A st).epoch := by
  induction A with
  | nil => intro st _; exact Int.le_refl _
  | cons c cs ih =>
    intro st h
    refine Int.le_trans ?_ (ih _ h.2)
    show st.epoch ≤ (readT c).2.1
    have := h.1
    unfold badS at this
    omega
/-! #### a cell, half of it new -/
theorem rd_mix (F O : List Int) (cut : Nat) (hF : F.length = 64) (hO : O.length = 64) (hc : cut ≤ 64) (i : Nat) : rd (F.take cut ++ O.drop cut) (i : Int) = if i < cut then rd F (i : Int) else rd O (i : Int) := by
  have hl : (F.take cut).length = cut := by rw [List.length_take]; omega
  unfold rd
  rw [Int.toNat_natCast, List.getD_eq_getElem?_getD, List.getD_eq_getElem?_getD, List.getD_eq_getElem?_getD]
  by_cases h : i < cut
  · rw [if_pos h, List.getElem?_append_left (by omega), List.getElem?_take, if_pos h]
  · rw [if_neg h, List.getElem?_append_right (by omega), List.getElem?_drop, hl, show cut + (i - cut) = i by omega]
theorem mix_same (F O : List Int) (cut m : Nat) (h : F.drop m = O.drop m) (hm : m ≤ cut) : F.take cut ++ O.drop cut = F := by
  have e : F.drop cut = O.drop cut := by
    rw [show cut = m + (cut - m) by omega, ← List.drop_drop, ← List.drop_drop, h]
  rw [← e, List.take_append_drop]
/-- where a whole cell says its stamp -/
structure EndsAt (F : List Int) (a b : Int) : Prop where
  len : F.length = 64
  z0 : rd F ((0 : Nat) : Int) = 0
  z1 : rd F ((1 : Nat) : Int) = 0
  z2 : rd F ((2 : Nat) : Int) = 0
  ge : rd F ((3 : Nat) : Int) = a
  z4 : rd F ((4 : Nat) : Int) = 0
  z5 : rd F ((5 : Nat) : Int) = 0
  z6 : rd F ((6 : Nat) : Int) = 0
  ep : rd F ((7 : Nat) : Int) = b
  back : F.drop 56 = [b, 0, 0, 0, a, 0, 0, 0]
theorem EndsAt.rdb {F : List Int} {a b : Int} (h : EndsAt F a b) (i : Nat) (hi : i < 8) : rd F ((56 + i : Nat) : Int) = ([b, 0, 0, 0, a, 0, 0, 0] : List Int).getD i 0 := by
  rw [← h.back]
  unfold rd
  rw [Int.toNat_natCast, List.getD_eq_getElem?_getD, List.getD_eq_getElem?_getD, List.getElem?_drop]
theorem edge_small : ∀ g : Nat, g < 6 → ∀ e : Nat, e < 10 → edgeL (stampN g e) = [0, 0, 0, (g : Int), 0, 0, 0, (e : Int)] := by decide +kernel
theorem ends_cell (g e : Nat) (f : Bool) (p : List Int) (hg : g < 6) (he : e < 10) (hp : p.length ≤ 47) : EndsAt (cellOf g e f p) (g : Int) (e : Int) := by
  have hE := edge_small g hg e he
  have h8 : (edgeL (stampN g e)).length = 8 := edgeL_len _
  have hr : ∀ i : Nat, i < 8 → rd (cellOf g e f p) (i : Int) = ([0, 0, 0, (g : Int), 0, 0, 0, (e : Int)] : List Int).getD i 0 := fun i hi => by
    have h := cell0_get (edgeL (stampN g e)) (orF f p.length) p h8 hp i
    rw [if_pos hi, hE] at h
    unfold rd
    rw [Int.toNat_natCast, List.getD_eq_getElem?_getD, List.getD_eq_getElem?_getD, cellOf_eq, hE]
    exact congrArg (Option.getD · 0) h
  refine ⟨cellOf_len g e f p hp, hr 0 (by decide), hr 1 (by decide), hr 2 (by decide), hr 3 (by decide), hr 4 (by decide), hr 5 (by decide), hr 6 (by decide), hr 7 (by decide), ?_⟩
  rw [cellOf_eq, cell0_back _ _ _ h8 hp, hE]
  rfl
theorem ends_z : EndsAt (List.replicate 64 0) 0 0 := by
  refine ⟨by simp, ?_, ?_, ?_, ?_, ?_, ?_, ?_, ?_, ?_⟩ <;> decide +kernel
theorem rd_take8 (l : List Int) (i : Nat) (h : i < 8) : rd (l.take 8) (i : Int) = rd l (i : Int) := by
  unfold rd
  rw [Int.toNat_natCast, List.getD_eq_getElem?_getD, List.getD_eq_getElem?_getD, List.getElem?_take, if_pos h]
theorem stamp_of (x : List Int) (h0 : rd x ((0 : Nat) : Int) = 0) (h1 : rd x ((1 : Nat) : Int) = 0) (h2 : rd x ((2 : Nat) : Int) = 0) (h4 : rd x ((4 : Nat) : Int) = 0) (h5 : rd x ((5 : Nat) : Int) = 0) (h6 : rd x ((6 : Nat) : Int) = 0) :
    stampV x = (rd x ((3 : Nat) : Int)).toNat * 4294967296 + (rd x ((7 : Nat) : Int)).toNat := by
  unfold stampV
  have e : ∀ i : Nat, i < 8 → rd (x.take 8) (i : Int) = rd x (i : Int) := rd_take8 x
  simp only [valN, e 0 (by decide), e 1 (by decide), e 2 (by decide), e 3 (by decide), e 4 (by decide), e 5 (by decide), e 6 (by decide), e 7 (by decide), h0, h1, h2, h4, h5, h6]
  generalize (rd x ((3 : Nat) : Int)).toNat = a
  generalize (rd x ((7 : Nat) : Int)).toNat = b
  simp only [Int.toNat_zero]
  omega
theorem back_rd (x : List Int) (hl : x.length = 64) (h : backOK x) (i : Nat) (hi : i < 8) : rd x ((56 + i : Nat) : Int) = rd x ((7 - i : Nat) : Int) := by
  unfold backOK at h
  rw [← rd_take8 x (7 - i) (by omega), h]
  unfold rd
  rw [Int.toNat_natCast, Int.toNat_natCast, List.getD_eq_getElem?_getD, List.getD_eq_getElem?_getD, List.getElem?_reverse (by rw [List.length_drop]; omega), List.getElem?_drop, List.length_drop]
  congr 2
  omega
/-- a new cell of generation 5, in part over an old one: it counts only if it is whole -/
theorem torn_bad (F O : List Int) (cut e b : Nat) (a : Nat) (st : Sc) (hF : EndsAt F 5 (e : Int)) (hO : EndsAt O (a : Int) (b : Int)) (ho : a ≠ 5 ∧ a < 256 ∨ a = 5 ∧ b < 3) (he : 3 ≤ e) (he2 : e < 256) (hb2 : b < 256) (hc : cut ≤ 64) (hs : 3 ≤ st.epoch)
    (hx : F.take cut ++ O.drop cut ≠ F) : badS 5 st (readT (F.take cut ++ O.drop cut)) := by
  obtain ⟨x, hxe⟩ : ∃ x, x = F.take cut ++ O.drop cut := ⟨_, rfl⟩
  have hr : ∀ i : Nat, rd x (i : Int) = if i < cut then rd F (i : Int) else rd O (i : Int) := fun i => by rw [hxe]; exact rd_mix F O cut hF.len hO.len hc i
  have hl : x.length = 64 := by rw [hxe, List.length_append, List.length_take, List.length_drop, hF.len, hO.len]; omega
  rw [← hxe] at hx ⊢
  have z : ∀ i : Nat, rd F (i : Int) = 0 → rd O (i : Int) = 0 → rd x (i : Int) = 0 := fun i h1 h2 => by rw [hr]; split <;> assumption
  have hst := stamp_of x (z 0 hF.z0 hO.z0) (z 1 hF.z1 hO.z1) (z 2 hF.z2 hO.z2) (z 4 hF.z4 hO.z4) (z 5 hF.z5 hO.z5) (z 6 hF.z6 hO.z6)
  by_cases hC : readC x = 0
  case neg =>
    left
    unfold readT
    rw [if_neg (fun h => h hl), if_pos hC]
    exact hC
  have hbk : backOK x := by
    unfold readC at hC
    split at hC
    · cases hC
    · rename_i h; exact Classical.not_not.1 h
  have h3 := hr 3
  have h7 := hr 7
  have h60 := (back_rd x hl hbk 4 (by decide)).symm.trans (hr (56 + 4))
  have h56 := (back_rd x hl hbk 0 (by decide)).symm.trans (hr (56 + 0))
  rw [hF.ge, hO.ge] at h3
  rw [hF.ep, hO.ep] at h7
  rw [hF.rdb 4 (by decide), hO.rdb 4 (by decide)] at h60
  rw [hF.rdb 0 (by decide), hO.rdb 0 (by decide)] at h56
  replace h60 : rd x ((3 : Nat) : Int) = if 56 + 4 < cut then 5 else (a : Int) := h60
  replace h56 : rd x ((7 : Nat) : Int) = if 56 + 0 < cut then (e : Int) else (b : Int) := h56
  have hgen : (rd x ((3 : Nat) : Int)).toNat < 256 ∧ (rd x ((7 : Nat) : Int)).toNat < 256 := by
    rw [h3, h7]
    constructor <;> split <;> omega
  have hbig : ¬ ((rd x ((3 : Nat) : Int)) = 5 ∧ 3 ≤ rd x ((7 : Nat) : Int)) := by
    rintro ⟨g5, e3⟩
    apply hx
    rw [hxe]
    rcases ho with ⟨ha, _⟩ | ⟨ha, hb⟩
    · refine mix_same F O cut 61 ?_ ?_
      · have e1 := congrArg (List.drop 5) hF.back
        have e2 := congrArg (List.drop 5) hO.back
        rw [List.drop_drop] at e1 e2
        exact e1.trans e2.symm
      · rw [h60] at g5
        split at g5
        · omega
        · omega
    · refine mix_same F O cut 57 ?_ ?_
      · have e1 := congrArg (List.drop 1) hF.back
        have e2 := congrArg (List.drop 1) hO.back
        rw [List.drop_drop] at e1 e2
        rw [ha] at e2
        exact e1.trans e2.symm
      · rw [h56] at e3
        split at e3
        · omega
        · omega
  have hT : readT x = ((stampV x : Int) / 4294967296, (stampV x : Int) % 4294967296, decide (128 ≤ (rd x 8).toNat), (x.drop 9).take (headN x), 0) := by
    unfold readT
    rw [if_neg (fun h => h hl), if_neg (fun h => h hC)]
  have hnn : 0 ≤ rd x ((3 : Nat) : Int) ∧ 0 ≤ rd x ((7 : Nat) : Int) := by
    rw [h3, h7]
    constructor <;> split <;> omega
  obtain ⟨A, hA⟩ : ∃ A : Nat, rd x ((3 : Nat) : Int) = (A : Int) := ⟨_, (Int.toNat_of_nonneg hnn.1).symm⟩
  obtain ⟨B, hB⟩ : ∃ B : Nat, rd x ((7 : Nat) : Int) = (B : Int) := ⟨_, (Int.toNat_of_nonneg hnn.2).symm⟩
  rw [hA, hB, Int.toNat_natCast, Int.toNat_natCast] at hst hgen
  rw [hA, hB] at hbig
  have e1 : ((stampV x : Int) / 4294967296) = (A : Int) := by rw [hst]; omega
  have e2 : ((stampV x : Int) % 4294967296) = (B : Int) := by rw [hst]; omega
  rw [hT, e1, e2]
  by_cases hA5 : (A : Int) = 5
  · right; right; left
    show (B : Int) < st.epoch
    have : ¬ (3 ≤ (B : Int)) := fun h => hbig ⟨hA5, h⟩
    omega
  · right; left
    exact hA5
end Go.Proofs.Ytfkndnocjelhgaa.Ext
