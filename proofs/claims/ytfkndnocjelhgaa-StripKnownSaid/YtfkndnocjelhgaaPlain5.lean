/- Small plain laws that many texts of this chapter need; strip.Read with the document's result. No condition beyond those that are stated. -/
import Derived.Test.YtfkndnocjelhgaaCellLaw
namespace Go.Proofs.Ytfkndnocjelhgaa.Ext
open Go Go.RowKit Go.Proofs.YtfkndnocjelhgaaW.PrintWords Go.Proofs.YtfkndnocjelhgaaW.PrintLast Go.Proofs.YtfkndnocjelhgaaW.PrintMore Go.Proofs.Ytfkndnocjelhgaa.Base Go.Proofs.Ytfkndnocjelhgaa.Arr
set_option linter.unusedVariables false
set_option linter.unusedSimpArgs false

theorem eq_l0 (l : List Int) (hl : l.length ≤ 9223372036854775807) : ∀ n j q : Nat, j + n = l.length → encoreref00_EqBytes.l0 (q + n + 1) l l (j : Int) = some true
  | 0, j, q, h => by
    conv => lhs; unfold encoreref00_EqBytes.l0
    rw [if_neg (by omega)]
  | n + 1, j, q, h => by
    have ih := eq_l0 l hl n (j + 1) q (by omega)
    show encoreref00_EqBytes.l0 (q + n + 1 + 1) l l (j : Int) = some true
    conv => lhs; unfold encoreref00_EqBytes.l0
    have hw : wrap64 ((j : Int) + 1) = ((j + 1 : Nat) : Int) := by unfold wrap64; omega
    rw [if_pos (by omega), if_pos (by omega), if_pos (by omega), if_pos rfl, hw, ih]
theorem eq_refl (l : List Int) (hl : l.length ≤ 9223372036854775807) (k : Nat) (hk : l.length + 1 ≤ k) : encoreref00_EqBytes.f k l l = some true := by
  unfold encoreref00_EqBytes.f
  rw [if_pos rfl]
  obtain ⟨q, rfl⟩ : ∃ q, k = q + l.length + 1 := ⟨k - l.length - 1, by omega⟩
  exact eq_l0 l hl l.length 0 q (by omega)
theorem same_l0 (l : List (List Int)) (M : Nat) (hM : M ≤ 9223372036854775807) (hr : ∀ r ∈ l, r.length ≤ M) (hl : l.length ≤ 9223372036854775807) : ∀ n j : Nat, j + n = l.length → encoreref04_Same.l0 (M + 1 + n + 1) l l (j : Int) = some true
  | 0, j, h => by
    conv => lhs; unfold encoreref04_Same.l0
    rw [if_neg (by omega)]
  | n + 1, j, h => by
    have ih := same_l0 l M hM hr hl n (j + 1) (by omega)
    show encoreref04_Same.l0 (M + 1 + n + 1 + 1) l l (j : Int) = some true
    conv => lhs; unfold encoreref04_Same.l0
    have hw : wrap64 ((j : Int) + 1) = ((j + 1 : Nat) : Int) := by unfold wrap64; omega
    have hrow : (rd_L1 l (j : Int)).length ≤ M := by
      unfold rd_L1
      rw [Int.toNat_natCast, List.getD_eq_getElem?_getD, List.getElem?_eq_getElem (by omega)]
      exact hr _ (List.getElem_mem _)
    rw [if_pos (by omega), if_pos (by omega), if_pos (by omega), eq_refl _ (by omega) _ (by omega), Option.bind_some, if_pos rfl, hw, ih]
theorem same_refl (l : List (List Int)) (M : Nat) (hM : M ≤ 9223372036854775807) (hr : ∀ r ∈ l, r.length ≤ M) (hl : l.length ≤ 9223372036854775807) : encoreref04_Same.f (M + 1 + l.length + 1) l l = some true := by
  unfold encoreref04_Same.f
  rw [if_pos rfl]
  exact same_l0 l M hM hr hl l.length 0 (by omega)
theorem runCells_rows (g e : Nat) (b : List Int) : ∀ r ∈ runCells g e b, r.length ≤ 64 := fun r hr => by
  unfold runCells cellsOf at hr
  obtain ⟨i, hi, rfl⟩ := List.mem_mapIdx.1 hr
  exact Nat.le_of_eq (cellOf_len _ _ _ _ (by rw [pieceOf_len]; exact pieceL_le _ _))
theorem runCells_len (g e : Nat) (b : List Int) : (runCells g e b).length = pieces b.length := by
  unfold runCells cellsOf
  rw [List.length_mapIdx, upto_length _ _ (Nat.le_refl _)]
theorem eqd_l0 (l l' : List Int) (hl : l.length ≤ 9223372036854775807) (he : l.length = l'.length) : ∀ n j q : Nat, j + n = l.length → encoreref00_EqBytes.l0 (q + n + 1) l l' (j : Int) = some (decide (l.drop j = l'.drop j))
  | 0, j, q, h => by
    rw [encoreref00_EqBytes.l0, if_neg (by omega), List.drop_eq_nil_of_le (by omega), List.drop_eq_nil_of_le (by omega)]
    rfl
  | n + 1, j, q, h => by
    have ih := eqd_l0 l l' hl he n (j + 1) q (by omega)
    show encoreref00_EqBytes.l0 (q + n + 1 + 1) l l' (j : Int) = _
    generalize q + n + 1 = F at *
    have hw : wrap64 ((j : Int) + 1) = ((j + 1 : Nat) : Int) := by unfold wrap64; omega
    rw [encoreref00_EqBytes.l0, if_pos (by omega), if_pos (by omega), if_pos (by omega), hw, ih]
    have e1 : l.drop j = rd l (j : Int) :: l.drop (j + 1) := by
      rw [List.drop_eq_getElem_cons (by omega : j < l.length), rd_nat, List.getD_eq_getElem?_getD, List.getElem?_eq_getElem (by omega)]; rfl
    have e2 : l'.drop j = rd l' (j : Int) :: l'.drop (j + 1) := by
      rw [List.drop_eq_getElem_cons (by omega : j < l'.length), rd_nat, List.getD_eq_getElem?_getD, List.getElem?_eq_getElem (by omega)]; rfl
    rw [e1, e2]
    by_cases h1 : rd l (j : Int) = rd l' (j : Int)
    · rw [if_pos h1, h1]
      congr 1
      by_cases h2 : l.drop (j + 1) = l'.drop (j + 1)
      · rw [decide_eq_true h2, decide_eq_true (by rw [h2])]
      · rw [decide_eq_false h2, decide_eq_false (fun h => h2 (List.cons.inj h).2)]
    · rw [if_neg h1, decide_eq_false (fun h => h1 (List.cons.inj h).1)]
theorem eq_dec (l l' : List Int) (hl : l.length ≤ 9223372036854775807) (k : Nat) (hk : l.length + 1 ≤ k) : encoreref00_EqBytes.f k l l' = some (decide (l = l')) := by
  unfold encoreref00_EqBytes.f
  by_cases he : l.length = l'.length
  · rw [if_pos (by omega)]
    obtain ⟨q, rfl⟩ : ∃ q, k = q + l.length + 1 := ⟨k - l.length - 1, by omega⟩
    have := eqd_l0 l l' hl he l.length 0 q (by omega)
    rw [List.drop_zero, List.drop_zero] at this
    exact this
  · rw [if_neg (by omega), decide_eq_false (fun h => he (by rw [h]))]
/-- what a cell answers, as the document's result -/
def readT (b : List Int) : Int × Int × Bool × List Int × Int :=
  if b.length ≠ 64 then (0, 0, false, [], 2) else if readC b ≠ 0 then (0, 0, false, [], readC b) else ((stampV b : Int) / 4294967296, (stampV b : Int) % 4294967296, decide (128 ≤ (rd b 8).toNat), (b.drop 9).take (headN b), 0)
theorem copy_eq (b : List Int) (h : b.length < 140737488355328) : encoreref00_CopyBytes.f b = some b := by
  unfold encoreref00_CopyBytes.f
  rw [if_pos (by simpa using h), List.nil_append]
/-- a cell's data as Read hands them out: amid a new block -/
def DataAt (W : World) (base : Nat) (v : Value) (l : List Int) : Prop :=
  (v = .slice none 0 0 ∧ l = []) ∨ ∃ (gb : Nat) (b : List Int), v = .slice (some ⟨gb, 9, none⟩) l.length l.length ∧ HoldsRow W gb 75 (rowK .u8 b) ∧ base ≤ gb ∧ b.length = 64 ∧ l = (b.drop 9).take l.length ∧ l.length ≤ 47
theorem DataAt.below {W W' : World} {base : Nat} {v : Value} {l : List Int} (h : DataAt W base v l) (hb : Below W.heap.size W W') : DataAt W' base v l := by
  rcases h with h | ⟨gb, b, h1, h2, h3⟩
  · exact .inl h
  · exact .inr ⟨gb, b, h1, h2.below hb h2.lt, h3⟩
theorem DataAt.form {W : World} {base : Nat} {v : Value} {l : List Int} (h : DataAt W base v l) : ∃ A, v = .slice A l.length l.length ∧ Kd.C (Kd.int .u8) W A l.length l := by
  rcases h with ⟨h, rfl⟩ | ⟨gb, b, h1, h2, h3, h4, h5, h6⟩
  · exact ⟨none, h, Kd.C_nil _ _⟩
  · refine ⟨_, h1, ?_⟩
    have := hold_C h2 9 l.length (by omega) (by omega)
    rw [← h5] at this
    exact this
theorem Read_T (w : World) (A : Option Addr) (c : Nat) (b : List Int) (hr : Kd.C (Kd.int .u8) w A b.length b) (hc : b.length ≤ c) (hb : Bytes b) :
    Calls Try.prog 23 #[.slice A b.length c] w fun e w' => ∃ v3, e = .returned (.tuple #[.agg #[.int .i64 (readT b).1, .int .i64 (readT b).2.1], .bool (readT b).2.2.1, v3, .int .i64 (readT b).2.2.2.2]) ∧ DataAt w' w.heap.size v3 (readT b).2.2.2.1 ∧ Below w.heap.size w w' := by
  unfold readT
  by_cases hl : b.length = 64
  · rw [if_neg (fun h => h hl)]
    rw [hl] at hr hc ⊢
    refine (Read_calls w A c b hr hc hb).mono ?_
    rintro e w' ⟨h1, h2, h3⟩
    by_cases h0 : readC b = 0
    · rw [if_neg (fun h => h h0)]
      obtain ⟨gb, he, hh, hg⟩ := h2 h0
      have hn : headN b ≤ 47 := by
        unfold readC at h0
        split at h0
        · cases h0
        · split at h0
          · cases h0
          · rename_i hh2; omega
      have hlen : ((b.drop 9).take (headN b)).length = headN b := by rw [List.length_take, List.length_drop]; omega
      refine ⟨_, he, .inr ⟨gb, b, by rw [hlen], hh, hg, hl, by rw [hlen], by rw [hlen]; exact hn⟩, h3⟩
    · rw [if_pos h0]
      exact ⟨_, h1 h0, .inl ⟨rfl, rfl⟩, h3⟩
  · rw [if_pos hl]
    refine (Read_none w A c b.length hl hr.2.1).mono ?_
    rintro e w' ⟨he, h3⟩
    exact ⟨_, he, .inl ⟨rfl, rfl⟩, h3⟩
theorem readT_err (b : List Int) : (readT b).2.2.2.1.length ≤ 47 := by
  unfold readT
  split
  · simp
  · split
    · simp
    · rename_i h1 h2
      show ((b.drop 9).take (headN b)).length ≤ 47
      rw [List.length_take]
      have h0 : readC b = 0 := Classical.not_not.1 h2
      unfold readC at h0
      split at h0
      · cases h0
      · split at h0
        · cases h0
        · rename_i hh2; omega
end Go.Proofs.Ytfkndnocjelhgaa.Ext
