/- Runs one behind the other are scanned as they were: plain law. -/
import Derived.Test.YtfkndnocjelhgaaScanLaw
import Derived.Test.YtfkndnocjelhgaaStripCellsW
import Derived.Test.YtfkndnocjelhgaaLB2
namespace Go.Proofs.Ytfkndnocjelhgaa.LB
open Go Go.RowKit Go.Proofs.YtfkndnocjelhgaaW.PrintWords Go.Proofs.YtfkndnocjelhgaaW.PrintLast Go.Proofs.YtfkndnocjelhgaaW.PrintMore Go.Proofs.Ytfkndnocjelhgaa.Base Go.Proofs.Ytfkndnocjelhgaa.Ext
set_option linter.unusedVariables false
set_option linter.unusedSimpArgs false

/-- what rows brings -/
structure Rw (R : List (List Int)) : Prop where
  len : R.length ≤ 10
  row : ∀ b ∈ R, 0 < b.length ∧ b.length ≤ 200 ∧ Bytes b
theorem rd_row (l : List (List Int)) (i : Nat) (h : i < l.length) : rd_L1 l (i : Int) ∈ l := by
  unfold rd_L1
  rw [Int.toNat_natCast, List.getD_eq_getElem?_getD, List.getElem?_eq_getElem h]
  exact List.getElem_mem h
theorem rows_l0 (l : List (List Int)) (hb : ∀ b ∈ l, Bytes b) : ∀ n x4 : Nat, x4 + n = 10 → ∀ x3 : List (List Int), x3.length ≤ x4 → (∀ b ∈ x3, 0 < b.length ∧ b.length ≤ 200 ∧ Bytes b) →
    ∃ k R, encorelaw05_rows.l0 k l x3 (x4 : Int) = some R ∧ Rw R
  | 0, x4, hx, x3, h3, hr => by
    obtain rfl : x4 = 10 := by omega
    refine ⟨2, x3, ?_, by omega, hr⟩
    simp only [encorelaw05_rows.l0, encorelaw05_rows.j1]
    by_cases h : ((10 : Nat) : Int) < (l.length : Int)
    · rw [if_pos h]; rfl
    · rw [if_neg h]; rfl
  | n + 1, x4, hx, x3, h3, hr => by
    by_cases h : (x4 : Int) < (l.length : Int)
    · have hw : wrap64 ((x4 : Int) + 1) = ((x4 + 1 : Nat) : Int) := by unfold wrap64; omega
      have hm := rd_row l x4 (by omega)
      have hB := hb _ hm
      by_cases h0 : ((rd_L1 l (x4 : Int)).length : Int) > 0
      · have hmn : (mn ((rd_L1 l (x4 : Int)).length : Int) 200).toNat = min (rd_L1 l (x4 : Int)).length 200 ∧ 0 ≤ mn ((rd_L1 l (x4 : Int)).length : Int) 200 ∧ mn ((rd_L1 l (x4 : Int)).length : Int) 200 ≤ ((rd_L1 l (x4 : Int)).length : Int) := by
          unfold mn
          split
          · rename_i hq
            refine ⟨?_, by omega, by omega⟩
            omega
          · rename_i hq
            refine ⟨?_, by omega, by omega⟩
            omega
        obtain ⟨k, R, hk, hR⟩ := rows_l0 l hb n (x4 + 1) (by omega) (x3 ++ [(rd_L1 l (x4 : Int)).take (mn ((rd_L1 l (x4 : Int)).length : Int) 200).toNat]) (by rw [List.length_append, List.length_singleton]; omega) (by
          intro b hbm
          rcases List.mem_append.1 hbm with hq | hq
          · exact hr b hq
          · obtain rfl := List.mem_singleton.1 hq
            rw [hmn.1, List.length_take]
            exact ⟨by omega, by omega, fun y hy => hB y (List.mem_of_mem_take hy)⟩)
        refine ⟨k + 2, R, ?_, hR⟩
        rw [encorelaw05_rows.l0, if_pos h, encorelaw05_rows.j1, if_pos (decide_eq_true (by omega)), if_pos (by omega), if_pos h, if_pos h0, if_pos hmn.2.1, if_pos hmn.2.2, if_pos (by omega), hw]
        exact hk
      · obtain ⟨k, R, hk, hR⟩ := rows_l0 l hb n (x4 + 1) (by omega) x3 (by omega) hr
        refine ⟨k + 2, R, ?_, hR⟩
        rw [encorelaw05_rows.l0, if_pos h, encorelaw05_rows.j1, if_pos (decide_eq_true (by omega)), if_pos (by omega), if_pos h, if_neg h0, hw]
        exact hk
    · refine ⟨2, x3, ?_, by omega, hr⟩
      simp only [encorelaw05_rows.l0, encorelaw05_rows.j1]
      rw [if_neg h]; rfl
theorem rows_f (l : List (List Int)) (hb : ∀ b ∈ l, Bytes b) : ∃ k R, encorelaw05_rows.f k l = some R ∧ Rw R :=
  rows_l0 l hb 10 0 rfl [] (Nat.le_refl _) (fun b h => by cases h)
theorem pieces_200 (n : Nat) (h : n ≤ 200) : pieces n ≤ 5 := by unfold pieces; omega
theorem count_200 : ∀ L : Nat, L < 201 → 0 < L → strip_Count.f (L : Int) = some ((pieces L : Nat) : Int) := by decide +kernel
theorem laid_l0 (R : List (List Int)) (hR : Rw R) : ∀ n i : Nat, i + n = R.length → ∀ x6 : List (List Int), x6.length ≤ 5 * i →
    ∃ k, encorelaw05_laid.l0 k 5 R x6 (i : Int) = some (x6 ++ laidL 5 i (R.drop i), true)
  | 0, i, hi, x6, h6 => by
    refine ⟨1, ?_⟩
    rw [encorelaw05_laid.l0, if_neg (by omega), List.drop_eq_nil_of_le (by omega)]
    show _ = some (x6 ++ [], true)
    rw [List.append_nil]
  | n + 1, i, hi, x6, h6 => by
    have hlen := hR.len
    obtain ⟨hr0, hr1, hrb⟩ := hR.row _ (rd_row R i (by omega))
    have hd : R.drop i = rd_L1 R (i : Int) :: R.drop (i + 1) := by
      rw [List.drop_eq_getElem_cons (by omega)]
      unfold rd_L1
      rw [Int.toNat_natCast, List.getD_eq_getElem?_getD, List.getElem?_eq_getElem (by omega)]
      rfl
    obtain ⟨b, hbb⟩ : ∃ b, b = rd_L1 R (i : Int) := ⟨_, rfl⟩
    rw [← hbb] at hd hr0 hr1
    have hw : wrap64 ((i : Int) + 1) = ((i + 1 : Nat) : Int) := by unfold wrap64; omega
    have hw3 : wrap64 (3 + wrap64 (Int.tdiv (i : Int) 2)) = ((3 + i / 2 : Nat) : Int) := by
      have : Int.tdiv (i : Int) 2 = ((i / 2 : Nat) : Int) := rfl
      rw [this]
      unfold wrap64
      omega
    have hC : strip_Cells.f 5 ((3 + i / 2 : Nat) : Int) b = some (runCells 5 (3 + i / 2) b, 0) := by
      unfold strip_Cells.f
      rw [if_neg (fun h => h ⟨by decide, by decide, by omega, by omega⟩), if_neg (by omega), if_pos (by omega)]
      rw [Int.toNat_natCast]
      rfl
    have hN : strip_Count.f (b.length : Int) = some ((runCells 5 (3 + i / 2) b).length : Int) := by
      rw [runCells_len]
      exact count_200 _ (by omega) hr0
    have hl5 : (runCells 5 (3 + i / 2) b).length ≤ 5 := by rw [runCells_len]; exact pieces_200 _ hr1
    obtain ⟨k, hk⟩ := laid_l0 R hR n (i + 1) (by omega) (x6 ++ runCells 5 (3 + i / 2) b) (by rw [List.length_append]; omega)
    refine ⟨k + 1, ?_⟩
    rw [encorelaw05_laid.l0, if_pos (by omega), if_pos (by omega), hw3, ← hbb, hC]
    simp only [Option.bind_some, if_true, hN]
    rw [if_pos (by omega), hw, hk, hd, List.append_assoc]
    rfl
theorem laid_f (R : List (List Int)) (hR : Rw R) : ∃ k, encorelaw05_laid.f k 5 R = some (laidL 5 0 R, true) := by
  obtain ⟨k, hk⟩ := laid_l0 R hR R.length 0 (Nat.zero_add _) [] (Nat.zero_le _)
  exact ⟨k, hk⟩
theorem laid_len (R : List (List Int)) : ∀ i, (∀ b ∈ R, b.length ≤ 200) → (laidL 5 i R).length ≤ 5 * R.length := by
  induction R with
  | nil => intro i _; exact Nat.le_refl _
  | cons b bs ih =>
    intro i h
    have h1 := ih (i + 1) (fun x hx => h x (List.mem_cons_of_mem _ hx))
    have h2 : (runCells 5 (3 + i / 2) b).length ≤ 5 := by rw [runCells_len]; exact pieces_200 _ (h b (List.mem_cons_self ..))
    show (_ ++ _ : List (List Int)).length ≤ _
    rw [List.length_append, List.length_cons]
    omega
theorem pieceOf_bytes (b : List Int) (j : Nat) (h : Bytes b) : Bytes (pieceOf b j) := fun y hy => h y (List.mem_of_mem_drop (List.mem_of_mem_take hy))
theorem tailC_bytes (g e : Nat) (b : List Int) (h : Bytes b) : ∀ n j, ∀ c ∈ tailC g e b n j, Bytes c
  | 0, _, c, hc => by cases hc
  | n + 1, j, c, hc => by
    rcases List.mem_cons.1 hc with rfl | hc
    · exact cellOf_bytes g e _ _ (by rw [pieceOf_len]; exact pieceL_le _ _) (pieceOf_bytes b j h)
    · exact tailC_bytes g e b h n (j + 1) c hc
theorem laid_bytes (R : List (List Int)) : ∀ i, (∀ b ∈ R, Bytes b) → ∀ c ∈ laidL 5 i R, Bytes c := by
  induction R with
  | nil => intro i _ c hc; cases hc
  | cons b bs ih =>
    intro i h c hc
    rcases List.mem_append.1 hc with hc | hc
    · rw [run_tail] at hc
      exact tailC_bytes 5 _ b (h b (List.mem_cons_self ..)) _ _ c hc
    · exact ih (i + 1) (fun x hx => h x (List.mem_cons_of_mem _ hx)) c hc
theorem back_l1 (R : List (List Int)) (hR : Rw R) : ∀ n i : Nat, i + n = R.length → encorelaw05_StripBack.l1 (201 + n + 1) R R (i : Int) = some true
  | 0, i, hi => by
    rw [encorelaw05_StripBack.l1, if_neg (by omega)]
    simp [encorelaw05_works.f]
  | n + 1, i, hi => by
    have hlen := hR.len
    have hw : wrap64 ((i : Int) + 1) = ((i + 1 : Nat) : Int) := by unfold wrap64; omega
    obtain ⟨hr0, hr1, hrb⟩ := hR.row _ (rd_row R i (by omega))
    have he := eq_refl (rd_L1 R (i : Int)) (by omega) (201 + (n + 1)) (by omega)
    rw [encorelaw05_StripBack.l1, if_pos (by omega), if_pos (by omega), if_pos (by omega), he]
    simp only [Option.bind_some, if_true, hw]
    exact back_l1 R hR n (i + 1) (by omega)
theorem back_up (k m : Nat) (h : k ≤ m) (y0 y1 y2 y3 y4) (r : Bool) (hk : encorelaw05_StripBack.l0 k y0 y1 y2 y3 y4 = some r) : encorelaw05_StripBack.l0 m y0 y1 y2 y3 y4 = some r := by
  obtain ⟨d, rfl⟩ : ∃ d, m = k + d := ⟨m - k, by omega⟩
  induction d with
  | zero => exact hk
  | succ d ih => exact (encorelaw05_StripBack.mono_l (k + d)).1 _ _ _ _ _ _ (ih (by omega))
theorem rows_up (k m : Nat) (h : k ≤ m) (l R) (hk : encorelaw05_rows.f k l = some R) : encorelaw05_rows.f m l = some R := by
  obtain ⟨d, rfl⟩ : ∃ d, m = k + d := ⟨m - k, by omega⟩
  induction d with
  | zero => exact hk
  | succ d ih => exact encorelaw05_rows.mono l (k + d) _ (ih (by omega))
theorem laid_up (k m : Nat) (h : k ≤ m) (a l R) (hk : encorelaw05_laid.f k a l = some R) : encorelaw05_laid.f m a l = some R := by
  obtain ⟨d, rfl⟩ : ∃ d, m = k + d := ⟨m - k, by omega⟩
  induction d with
  | zero => exact hk
  | succ d ih => exact encorelaw05_laid.mono a l (k + d) _ (ih (by omega))
theorem back_l0 (R : List (List Int)) (hR : Rw R) (C : List (List Int)) (hC : C = laidL 5 0 R) : ∀ n z : Nat, n ≤ 4 → z + n ≤ 4 → encorelaw05_StripBack.l0 (201 + R.length + 3 + n) R (C ++ List.replicate z (List.replicate 64 0)) true (C.length : Int) (n : Int) = some true
  | 0, z, hn, hz => by
    have hlen := hR.len
    have hCl : C.length ≤ 5 * R.length := by rw [hC]; exact laid_len R 0 (fun b hb => (hR.row b hb).2.1)
    have hCb : ∀ c ∈ C, Bytes c := by rw [hC]; exact laid_bytes R 0 (fun b hb => (hR.row b hb).2.2)
    have hS : strip_Scan.f (C ++ List.replicate z (List.replicate 64 0)) 5 3 = some (R, (C.length : Int)) := by
      have hb1 : rowsB (C ++ List.replicate z (List.replicate 64 0)) = true := rows_to fun c hc => by
        rcases List.mem_append.1 hc with hc | hc
        · exact hCb c hc
        · rw [List.eq_of_mem_replicate hc]; exact Bytes.zeros 64
      have hl1 : (C ++ List.replicate z (List.replicate 64 (0 : Int))).length ≤ 1000000 := by rw [List.length_append, List.length_replicate]; omega
      obtain ⟨h1, h2⟩ := scan_laid 5 (by decide) (by decide) R 0 ⟨[], 3, true⟩ (by omega) (fun b hb => (hR.row b hb).1) (by show (3 : Int) ≤ _; omega)
      rw [← hC] at h1 h2
      have e := scan_app ((5 : Nat) : Int) C (List.replicate z (List.replicate 64 0)) ⟨[], 3, true⟩ h1
      rw [scan_z, Int.zero_add, h2] at e
      unfold strip_Scan.f
      rw [if_pos ⟨hb1, hl1⟩]
      exact congrArg some e
    show encorelaw05_StripBack.l0 (201 + R.length + 3) _ _ _ _ _ = _
    rw [encorelaw05_StripBack.l0, if_neg (by omega), hS]
    simp only [Option.bind_some, if_true]
    show encorelaw05_StripBack.j1 (201 + R.length + 2) R R ((R.length : Int) != (R.length : Int)) = _
    rw [encorelaw05_StripBack.j1, if_neg (by simp)]
    exact back_l1 R hR R.length 0 (Nat.zero_add _)
  | n + 1, z, hn, hz => by
    have hlen := hR.len
    have hCl : C.length ≤ 5 * R.length := by rw [hC]; exact laid_len R 0 (fun b hb => (hR.row b hb).2.1)
    have hw : wrap64 (((n + 1 : Nat) : Int) - 1) = (n : Int) := by unfold wrap64; omega
    have ih := back_l0 R hR C hC n (z + 1) (by omega) (by omega)
    show encorelaw05_StripBack.l0 (201 + R.length + 3 + n + 1) _ _ _ _ _ = _
    rw [encorelaw05_StripBack.l0, if_pos (by omega), if_pos (by decide), if_pos (by rw [List.length_append, List.length_replicate]; omega), hw, List.append_assoc, ← List.replicate_succ']
    exact ih
theorem bring_eq (i n : Int) (hn : 0 < n) (hn2 : n ≤ 9223372036854775807) : ∃ K : Nat, encoreref00_Bring.f i n = some (K : Int) ∧ (K : Int) < n := by
  unfold encoreref00_Bring.f
  rw [if_neg (by omega), if_neg (by omega)]
  have h1 : Int.tmod i n < n := Int.tmod_lt_of_pos i hn
  have h2 : -n < Int.tmod i n := Int.lt_tmod_of_pos i hn
  by_cases h : Int.tmod i n < 0
  · rw [if_pos h, show wrap64 (Int.tmod i n + n) = Int.tmod i n + n by unfold wrap64; omega]
    exact ⟨(Int.tmod i n + n).toNat, by rw [Int.toNat_of_nonneg (by omega)], by omega⟩
  · rw [if_neg h]
    exact ⟨(Int.tmod i n).toNat, by rw [Int.toNat_of_nonneg (by omega)], by omega⟩
theorem back_f (l : List (List Int)) (a : Int) (hb : ∀ b ∈ l, Bytes b) : ∃ k, encorelaw05_StripBack.f k l a = some true := by
  obtain ⟨k1, R, h1, hR⟩ := rows_f l hb
  obtain ⟨k2, h2⟩ := laid_f R hR
  obtain ⟨n, h3, hn⟩ := bring_eq a 4 (by decide) (by decide)
  have h4 := back_l0 R hR (laidL 5 0 R) rfl n 0 (by omega) (by omega)
  rw [List.replicate_zero, List.append_nil] at h4
  refine ⟨k1 + k2 + (201 + R.length + 3 + n), ?_⟩
  unfold encorelaw05_StripBack.f
  rw [rows_up k1 _ (by omega) _ _ h1]
  show (encorelaw05_laid.f _ 5 R).bind _ = _
  rw [laid_up k2 _ (by omega) _ _ _ h2]
  show (encoreref00_Bring.f a 4).bind _ = _
  rw [h3]
  exact back_up _ _ (by omega) _ _ _ _ _ _ h4
end Go.Proofs.Ytfkndnocjelhgaa.LB
