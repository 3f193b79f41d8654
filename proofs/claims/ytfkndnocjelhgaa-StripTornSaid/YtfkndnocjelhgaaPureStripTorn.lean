/- If of a cell only the first bytes are new: plain law, joined with the printed functions. (The lemmas on rows and laid as in PureStripBack, for this text's own copies.) -/
import Derived.Test.YtfkndnocjelhgaaTornLaw
import Derived.Test.YtfkndnocjelhgaaPlain5
import Derived.Test.YtfkndnocjelhgaaLT2
namespace Go.Proofs.Ytfkndnocjelhgaa.LT
open Go Go.RowKit Go.Proofs.YtfkndnocjelhgaaW.PrintWords Go.Proofs.YtfkndnocjelhgaaW.PrintLast Go.Proofs.YtfkndnocjelhgaaW.PrintMore Go.Proofs.Ytfkndnocjelhgaa.Base Go.Proofs.Ytfkndnocjelhgaa.Ext
set_option linter.unusedVariables false
set_option linter.unusedSimpArgs false

/-- what rows brings -/
structure Rw (R : List (List Int)) : Prop where
  len : R.length ≤ 10
  row : ∀ b ∈ R, 0 < b.length ∧ b.length ≤ 200 ∧ Bytes b
theorem rd_row (l : List (List Int)) (i : Nat) (h : i < l.length) : rd_L1 l (i : Int) ∈ l := by
  unfold rd_L1
  rw [Int.toNat_natCast, List.getD_eq_getElem?_getD, List.getElem?_eq_getElem h]
  exact List.getElem_mem h
theorem rows_l0 (l : List (List Int)) (hb : ∀ b ∈ l, Bytes b) : ∀ n x4 : Nat, x4 + n = 10 → ∀ x3 : List (List Int), x3.length ≤ x4 → (∀ b ∈ x3, 0 < b.length ∧ b.length ≤ 200 ∧ Bytes b) →
    ∃ k R, encorelaw05_rows.l0 k l x3 (x4 : Int) = some R ∧ Rw R
  | 0, x4, hx, x3, h3, hr => by
    obtain rfl : x4 = 10 := by omega
    refine ⟨2, x3, ?_, by omega, hr⟩
    simp only [encorelaw05_rows.l0, encorelaw05_rows.j1]
    by_cases h : ((10 : Nat) : Int) < (l.length : Int)
    · rw [if_pos h]; rfl
    · rw [if_neg h]; rfl
  | n + 1, x4, hx, x3, h3, hr => by
    by_cases h : (x4 : Int) < (l.length : Int)
    · have hw : wrap64 ((x4 : Int) + 1) = ((x4 + 1 : Nat) : Int) := by unfold wrap64; omega
      have hm := rd_row l x4 (by omega)
      have hB := hb _ hm
      by_cases h0 : ((rd_L1 l (x4 : Int)).length : Int) > 0
      · have hmn : (mn ((rd_L1 l (x4 : Int)).length : Int) 200).toNat = min (rd_L1 l (x4 : Int)).length 200 ∧ 0 ≤ mn ((rd_L1 l (x4 : Int)).length : Int) 200 ∧ mn ((rd_L1 l (x4 : Int)).length : Int) 200 ≤ ((rd_L1 l (x4 : Int)).length : Int) := by
          unfold mn
          split
          · rename_i hq
            refine ⟨?_, by omega, by omega⟩
            omega
          · rename_i hq
            refine ⟨?_, by omega, by omega⟩
            omega
        obtain ⟨k, R, hk, hR⟩ := rows_l0 l hb n (x4 + 1) (by omega) (x3 ++ [(rd_L1 l (x4 : Int)).take (mn ((rd_L1 l (x4 : Int)).length : Int) 200).toNat]) (by rw [List.length_append, List.length_singleton]; omega) (by
          intro b hbm
          rcases List.mem_append.1 hbm with hq | hq
          · exact hr b hq
          · obtain rfl := List.mem_singleton.1 hq
            rw [hmn.1, List.length_take]
            exact ⟨by omega, by omega, fun y hy => hB y (List.mem_of_mem_take hy)⟩)
        refine ⟨k + 2, R, ?_, hR⟩
        rw [encorelaw05_rows.l0, if_pos h, encorelaw05_rows.j1, if_pos (decide_eq_true (by omega)), if_pos (by omega), if_pos h, if_pos h0, if_pos hmn.2.1, if_pos hmn.2.2, if_pos (by omega), hw]
        exact hk
      · obtain ⟨k, R, hk, hR⟩ := rows_l0 l hb n (x4 + 1) (by omega) x3 (by omega) hr
        refine ⟨k + 2, R, ?_, hR⟩
        rw [encorelaw05_rows.l0, if_pos h, encorelaw05_rows.j1, if_pos (decide_eq_true (by omega)), if_pos (by omega), if_pos h, if_neg h0, hw]
        exact hk
    · refine ⟨2, x3, ?_, by omega, hr⟩
      simp only [encorelaw05_rows.l0, encorelaw05_rows.j1]
      rw [if_neg h]; rfl
theorem rows_f (l : List (List Int)) (hb : ∀ b ∈ l, Bytes b) : ∃ k R, encorelaw05_rows.f k l = some R ∧ Rw R :=
  rows_l0 l hb 10 0 rfl [] (Nat.le_refl _) (fun b h => by cases h)
theorem pieces_200 (n : Nat) (h : n ≤ 200) : pieces n ≤ 5 := by unfold pieces; omega
theorem count_200 : ∀ L : Nat, L < 201 → 0 < L → strip_Count.f (L : Int) = some ((pieces L : Nat) : Int) := by decide +kernel
theorem laid_l0 (R : List (List Int)) (hR : Rw R) : ∀ n i : Nat, i + n = R.length → ∀ x6 : List (List Int), x6.length ≤ 5 * i →
    ∃ k, encorelaw05_laid.l0 k 5 R x6 (i : Int) = some (x6 ++ laidL 5 i (R.drop i), true)
  | 0, i, hi, x6, h6 => by
    refine ⟨1, ?_⟩
    rw [encorelaw05_laid.l0, if_neg (by omega), List.drop_eq_nil_of_le (by omega)]
    show _ = some (x6 ++ [], true)
    rw [List.append_nil]
  | n + 1, i, hi, x6, h6 => by
    have hlen := hR.len
    obtain ⟨hr0, hr1, hrb⟩ := hR.row _ (rd_row R i (by omega))
    have hd : R.drop i = rd_L1 R (i : Int) :: R.drop (i + 1) := by
      rw [List.drop_eq_getElem_cons (by omega)]
      unfold rd_L1
      rw [Int.toNat_natCast, List.getD_eq_getElem?_getD, List.getElem?_eq_getElem (by omega)]
      rfl
    obtain ⟨b, hbb⟩ : ∃ b, b = rd_L1 R (i : Int) := ⟨_, rfl⟩
    rw [← hbb] at hd hr0 hr1
    have hw : wrap64 ((i : Int) + 1) = ((i + 1 : Nat) : Int) := by unfold wrap64; omega
    have hw3 : wrap64 (3 + wrap64 (Int.tdiv (i : Int) 2)) = ((3 + i / 2 : Nat) : Int) := by
      have : Int.tdiv (i : Int) 2 = ((i / 2 : Nat) : Int) := rfl
      rw [this]
      unfold wrap64
      omega
    have hC : strip_Cells.f 5 ((3 + i / 2 : Nat) : Int) b = some (runCells 5 (3 + i / 2) b, 0) := by
      unfold strip_Cells.f
      rw [if_neg (fun h => h ⟨by decide, by decide, by omega, by omega⟩), if_neg (by omega), if_pos (by omega)]
      rw [Int.toNat_natCast]
      rfl
    have hN : strip_Count.f (b.length : Int) = some ((runCells 5 (3 + i / 2) b).length : Int) := by
      rw [runCells_len]
      exact count_200 _ (by omega) hr0
    have hl5 : (runCells 5 (3 + i / 2) b).length ≤ 5 := by rw [runCells_len]; exact pieces_200 _ hr1
    obtain ⟨k, hk⟩ := laid_l0 R hR n (i + 1) (by omega) (x6 ++ runCells 5 (3 + i / 2) b) (by rw [List.length_append]; omega)
    refine ⟨k + 1, ?_⟩
    rw [encorelaw05_laid.l0, if_pos (by omega), if_pos (by omega), hw3, ← hbb, hC]
    simp only [Option.bind_some, if_true, hN]
    rw [if_pos (by omega), hw, hk, hd, List.append_assoc]
    rfl
theorem laid_f (R : List (List Int)) (hR : Rw R) : ∃ k, encorelaw05_laid.f k 5 R = some (laidL 5 0 R, true) := by
  obtain ⟨k, hk⟩ := laid_l0 R hR R.length 0 (Nat.zero_add _) [] (Nat.zero_le _)
  exact ⟨k, hk⟩
theorem laid_len (R : List (List Int)) : ∀ i, (∀ b ∈ R, b.length ≤ 200) → (laidL 5 i R).length ≤ 5 * R.length := by
  induction R with
  | nil => intro i _; exact Nat.le_refl _
  | cons b bs ih =>
    intro i h
    have h1 := ih (i + 1) (fun x hx => h x (List.mem_cons_of_mem _ hx))
    have h2 : (runCells 5 (3 + i / 2) b).length ≤ 5 := by rw [runCells_len]; exact pieces_200 _ (h b (List.mem_cons_self ..))
    show (_ ++ _ : List (List Int)).length ≤ _
    rw [List.length_append, List.length_cons]
    omega
theorem pieceOf_bytes (b : List Int) (j : Nat) (h : Bytes b) : Bytes (pieceOf b j) := fun y hy => h y (List.mem_of_mem_drop (List.mem_of_mem_take hy))
theorem tailC_bytes (g e : Nat) (b : List Int) (h : Bytes b) : ∀ n j, ∀ c ∈ tailC g e b n j, Bytes c
  | 0, _, c, hc => by cases hc
  | n + 1, j, c, hc => by
    rcases List.mem_cons.1 hc with rfl | hc
    · exact cellOf_bytes g e _ _ (by rw [pieceOf_len]; exact pieceL_le _ _) (pieceOf_bytes b j h)
    · exact tailC_bytes g e b h n (j + 1) c hc
theorem laid_bytes (R : List (List Int)) : ∀ i, (∀ b ∈ R, Bytes b) → ∀ c ∈ laidL 5 i R, Bytes c := by
  induction R with
  | nil => intro i _ c hc; cases hc
  | cons b bs ih =>
    intro i h c hc
    rcases List.mem_append.1 hc with hc | hc
    · rw [run_tail] at hc
      exact tailC_bytes 5 _ b (h b (List.mem_cons_self ..)) _ _ c hc
    · exact ih (i + 1) (fun x hx => h x (List.mem_cons_of_mem _ hx)) c hc
theorem rows_up (k m : Nat) (h : k ≤ m) (l R) (hk : encorelaw05_rows.f k l = some R) : encorelaw05_rows.f m l = some R := by
  obtain ⟨d, rfl⟩ : ∃ d, m = k + d := ⟨m - k, by omega⟩
  induction d with
  | zero => exact hk
  | succ d ih => exact encorelaw05_rows.mono l (k + d) _ (ih (by omega))
theorem laid_up (k m : Nat) (h : k ≤ m) (a l R) (hk : encorelaw05_laid.f k a l = some R) : encorelaw05_laid.f m a l = some R := by
  obtain ⟨d, rfl⟩ : ∃ d, m = k + d := ⟨m - k, by omega⟩
  induction d with
  | zero => exact hk
  | succ d ih => exact encorelaw05_laid.mono a l (k + d) _ (ih (by omega))
theorem bring_eq (i n : Int) (hn : 0 < n) (hn2 : n ≤ 9223372036854775807) : ∃ K : Nat, encoreref00_Bring.f i n = some (K : Int) ∧ (K : Int) < n := by
  unfold encoreref00_Bring.f
  rw [if_neg (by omega), if_neg (by omega)]
  have h1 : Int.tmod i n < n := Int.tmod_lt_of_pos i hn
  have h2 : -n < Int.tmod i n := Int.lt_tmod_of_pos i hn
  by_cases h : Int.tmod i n < 0
  · rw [if_pos h, show wrap64 (Int.tmod i n + n) = Int.tmod i n + n by unfold wrap64; omega]
    exact ⟨(Int.tmod i n + n).toNat, by rw [Int.toNat_of_nonneg (by omega)], by omega⟩
  · rw [if_neg h]
    exact ⟨(Int.tmod i n).toNat, by rw [Int.toNat_of_nonneg (by omega)], by omega⟩

theorem laid_cell (R : List (List Int)) : ∀ i, i + R.length ≤ 13 → (∀ b ∈ R, Bytes b) → ∀ c ∈ laidL 5 i R, ∃ e f p, c = cellOf 5 e f p ∧ 3 ≤ e ∧ e < 10 ∧ p.length ≤ 47 := by
  induction R with
  | nil => intro i _ _ c hc; cases hc
  | cons b bs ih =>
    intro i hi hb c hc
    rw [List.length_cons] at hi
    rcases List.mem_append.1 hc with hc | hc
    · rw [run_tail] at hc
      have : ∀ n j, c ∈ tailC 5 (3 + i / 2) b n j → ∃ f p, c = cellOf 5 (3 + i / 2) f p ∧ p.length ≤ 47 := by
        intro n
        induction n with
        | zero => intro j h; cases h
        | succ n ihn =>
          intro j h
          rcases List.mem_cons.1 h with h | h
          · exact ⟨_, _, h, by rw [pieceOf_len]; exact pieceL_le _ _⟩
          · exact ihn _ h
      obtain ⟨f, p, h1, h2⟩ := this _ _ hc
      exact ⟨_, f, p, h1, by omega, by omega, h2⟩
    · exact ih (i + 1) (by omega) (fun x hx => hb x (List.mem_cons_of_mem _ hx)) c hc
theorem old_f (k d : Int) (hd : 0 ≤ d ∧ d < 256) : ∃ (O : List Int) (a b : Nat), encorelaw05_old.f k d = some O ∧ EndsAt O (a : Int) (b : Int) ∧ (a ≠ 5 ∧ a < 256 ∨ a = 5 ∧ b < 3) ∧ b < 256 ∧ Bytes O := by
  have hB : Bytes [d, d] := fun x hx => by
    simp at hx
    rw [hx]
    exact hd
  obtain ⟨n, hn, hn3⟩ := bring_eq k 3 (by decide) (by decide)
  have hR1 := run_one 4 9 [d, d] (by show 0 < 2; decide) (by show 2 ≤ 47; decide)
  have hR2 := run_one 5 2 [d, d] (by show 0 < 2; decide) (by show 2 ≤ 47; decide)
  have h1 : strip_Cells.f 4 9 [d, d] = some ([cellOf 4 9 true [d, d]], 0) := by
    unfold strip_Cells.f
    rw [if_neg (fun h => h ⟨by decide, by decide, by decide, by decide⟩), if_neg (by simp), if_pos (by simp)]
    exact congrArg (fun z => some (z, (0 : Int))) hR1
  have h2 : strip_Cells.f 5 2 [d, d] = some ([cellOf 5 2 true [d, d]], 0) := by
    unfold strip_Cells.f
    rw [if_neg (fun h => h ⟨by decide, by decide, by decide, by decide⟩), if_neg (by simp), if_pos (by simp)]
    exact congrArg (fun z => some (z, (0 : Int))) hR2
  unfold encorelaw05_old.f
  rw [hn]
  simp only [Option.bind_some]
  by_cases e1 : (n : Int) = 1
  · refine ⟨cellOf 4 9 true [d, d], 4, 9, ?_, ends_cell 4 9 true [d, d] (by decide) (by decide) (by show 2 ≤ 47; decide), .inl ⟨by decide, by decide⟩, by decide, cellOf_bytes 4 9 true _ (by show 2 ≤ 47; decide) hB⟩
    rw [if_pos e1, h1]
    rfl
  · rw [if_neg e1]
    by_cases e2 : (n : Int) = 2
    · refine ⟨cellOf 5 2 true [d, d], 5, 2, ?_, ends_cell 5 2 true [d, d] (by decide) (by decide) (by show 2 ≤ 47; decide), .inr ⟨rfl, by decide⟩, by decide, cellOf_bytes 5 2 true _ (by show 2 ≤ 47; decide) hB⟩
      rw [if_pos e2, h2]
      rfl
    · refine ⟨List.replicate 64 0, 0, 0, ?_, ends_z, .inl ⟨by decide, by decide⟩, by decide, Bytes.zeros 64⟩
      rw [if_neg e2, if_pos (by decide)]
theorem rd_L1_nat (l : List (List Int)) (i : Nat) : rd_L1 l (i : Int) = l.getD i [] := by
  unfold rd_L1
  rw [Int.toNat_natCast]
theorem torn_l0 (R Q : List (List Int)) (hR : Rw R) (hp : PreR Q R) : ∀ n i : Nat, i + n = Q.length → encorelaw05_StripTorn.l0 (201 + n + 1) R Q (i : Int) = some true
  | 0, i, hi => by rw [encorelaw05_StripTorn.l0, if_neg (by omega)]
  | n + 1, i, hi => by
    have hlen := hR.len
    have hle := hp.len
    have hw : wrap64 ((i : Int) + 1) = ((i + 1 : Nat) : Int) := by unfold wrap64; omega
    obtain ⟨t, ht⟩ := hp.pre i (by omega)
    have hq := hp.eq i
    rw [← rd_L1_nat, ← rd_L1_nat] at ht
    obtain ⟨hr0, hr1, hrb⟩ := hR.row _ (rd_row R i (by omega))
    obtain ⟨x, hx⟩ : ∃ x, x = rd_L1 Q (i : Int) := ⟨_, rfl⟩
    obtain ⟨y, hy⟩ : ∃ y, y = rd_L1 R (i : Int) := ⟨_, rfl⟩
    rw [← rd_L1_nat, ← rd_L1_nat] at hq
    rw [encorelaw05_StripTorn.l0]
    rw [← hx, ← hy] at ht
    rw [← hx, ← hy] at hq
    rw [← hy] at hr0 hr1
    rw [← hx, ← hy]
    have hxy : x.length ≤ y.length := by rw [ht, List.length_append]; omega
    have htk : y.take ((x.length : Int)).toNat = x := by rw [Int.toNat_natCast, ht, List.take_left]
    rw [if_pos (by omega), if_pos (by omega), if_pos (by omega), if_neg (by omega), if_pos (by omega), if_pos (by omega), htk, eq_refl x (by omega) (201 + (n + 1)) (by omega)]
    simp only [Option.bind_some, if_true, hw]
    have ih := torn_l0 R Q hR hp n (i + 1) (by omega)
    by_cases hc : ((i + 1 : Nat) : Int) < (Q.length : Int)
    · rw [if_pos hc, if_pos (by rw [hq (by omega)])]
      exact ih
    · rw [if_neg hc]
      exact ih
theorem torn_up (k m : Nat) (h : k ≤ m) (y0 y1 y2 y3 y4 y5) (r : Bool) (hk : encorelaw05_StripTorn.j0 k y0 y1 y2 y3 y4 y5 = some r) : encorelaw05_StripTorn.j0 m y0 y1 y2 y3 y4 y5 = some r := by
  obtain ⟨d, rfl⟩ : ∃ d, m = k + d := ⟨m - k, by omega⟩
  induction d with
  | zero => exact hk
  | succ d ih => exact (encorelaw05_StripTorn.mono_l (k + d)).1 _ _ _ _ _ _ _ (ih (by omega))
theorem torn_j0 (R : List (List Int)) (hR : Rw R) (a1 a2 a3 : Int) : ∃ k, encorelaw05_StripTorn.j0 k a1 (laidL 5 0 R) true (((laidL 5 0 R).length : Int) == 0) a2 a3 = some true := by
  obtain ⟨C, hC⟩ : ∃ C, C = laidL 5 0 R := ⟨_, rfl⟩
  rw [← hC]
  have hlen := hR.len
  have hCl : C.length ≤ 5 * R.length := by rw [hC]; exact laid_len R 0 (fun b hb => (hR.row b hb).2.1)
  have hCb : ∀ c ∈ C, Bytes c := by rw [hC]; exact laid_bytes R 0 (fun b hb => (hR.row b hb).2.2)
  have hCc := laid_cell R 0 (by omega) (fun b hb => (hR.row b hb).2.2)
  rw [← hC] at hCc
  by_cases h0 : C.length = 0
  · refine ⟨1, ?_⟩
    rw [encorelaw05_StripTorn.j0, if_pos (by rw [h0]; rfl)]
  obtain ⟨K, hK, hKl⟩ := bring_eq a1 (C.length : Int) (by omega) (by omega)
  obtain ⟨u, hu, hul⟩ := bring_eq a2 65 (by decide) (by decide)
  have hd : 0 ≤ a1 % 256 ∧ a1 % 256 < 256 := by omega
  obtain ⟨O, ga, eb, hO, hOe, hOa, hOb, hOB⟩ := old_f a3 (a1 % 256) hd
  obtain ⟨h1, h2⟩ := scan_laid 5 (by decide) (by decide) R 0 ⟨[], 3, true⟩ (by omega) (fun b hb => (hR.row b hb).1) (by show (3 : Int) ≤ _; omega)
  rw [← hC] at h1 h2
  have hscan : ∀ l : List (List Int), (∀ c ∈ l, Bytes c) → l.length ≤ 1000000 → strip_Scan.f l 5 3 = some (scanR ((5 : Nat) : Int) l ⟨[], 3, true⟩) := fun l hb hl => by
    unfold strip_Scan.f
    rw [if_pos ⟨rows_to hb, hl⟩]
    rfl
  have hS1 : strip_Scan.f C 5 3 = some (R, (C.length : Int)) := by
    rw [hscan C hCb (by omega), scan_ok _ _ _ h1, h2]
    rfl
  obtain ⟨F, hF⟩ : ∃ F, F = rd_L1 C (K : Int) := ⟨_, rfl⟩
  have hFm : F ∈ C := by rw [hF]; exact rd_row C K (by omega)
  obtain ⟨e, f, p, hFe, he3, he10, hp47⟩ := hCc F hFm
  have hFE : EndsAt F 5 (e : Int) := by rw [hFe]; exact ends_cell 5 e f p (by decide) he10 hp47
  have hul' : u ≤ 64 := by omega
  obtain ⟨x, hx⟩ : ∃ x, x = F.take u ++ O.drop u := ⟨_, rfl⟩
  have hxl : x.length = 64 := by rw [hx, List.length_append, List.length_take, List.length_drop, hFE.len, hOe.len]; omega
  have hxb : Bytes x := by
    rw [hx]
    refine Bytes.app (fun y hy => hCb F hFm y (List.mem_of_mem_take hy)) (hOB.drop u)
  have hsplit : C = C.take K ++ F :: C.drop (K + 1) := by
    have : F = C[K]'(by omega) := by
      rw [hF, rd_L1_nat, List.getD_eq_getElem?_getD, List.getElem?_eq_getElem (by omega)]
      rfl
    rw [this, ← List.drop_eq_getElem_cons, List.take_append_drop]
  have hset : C.set K x = C.take K ++ x :: C.drop (K + 1) := by
    rw [List.set_eq_take_append_cons_drop, if_pos (by omega)]
  have hSb : ∀ c ∈ C.set K x, Bytes c := fun c hc => by
    rcases List.mem_or_eq_of_mem_set hc with h | h
    · exact hCb c h
    · rw [h]; exact hxb
  have hrdx : rd_L1 (C.set K x) (K : Int) = x := by
    rw [rd_L1_nat, List.getD_eq_getElem?_getD, List.getElem?_set, if_pos rfl, if_pos (by omega)]
    rfl
  have hcp : encoreref00_CopyBytes.f (F.take ((u : Int)).toNat) = some (F.take u) := by
    rw [Int.toNat_natCast]
    exact copy_eq _ (by rw [List.length_take, hFE.len]; omega)
  have hfr : ∀ q, encorelaw05_StripTorn.j0 (q + 300) a1 C true ((C.length : Int) == 0) a2 a3 = if x = F then (if (scanR ((5 : Nat) : Int) (C.set K x) ⟨[], 3, true⟩).2 = (C.length : Int) then some (((scanR ((5 : Nat) : Int) (C.set K x) ⟨[], 3, true⟩).1.length : Int) == (R.length : Int)) else some false) else (if (scanR ((5 : Nat) : Int) (C.set K x) ⟨[], 3, true⟩).2 = (K : Int) then encorelaw05_StripTorn.j1 (q + 299) R (scanR ((5 : Nat) : Int) (C.set K x) ⟨[], 3, true⟩).1 (decide (((scanR ((5 : Nat) : Int) (C.set K x) ⟨[], 3, true⟩).1.length : Int) > (R.length : Int))) else encorelaw05_StripTorn.j1 (q + 299) R (scanR ((5 : Nat) : Int) (C.set K x) ⟨[], 3, true⟩).1 true) := by
    intro q
    have hF64 : F.length = 64 := hFE.len
    have hO64 : O.length = 64 := hOe.len
    show encorelaw05_StripTorn.j0 (q + 299 + 1) _ _ _ _ _ _ = _
    rw [encorelaw05_StripTorn.j0, if_neg (show ¬ (((C.length : Int) == 0) = true) from fun h => by have := eq_of_beq h; omega), hS1]
    simp only [Option.bind_some]
    rw [hK]
    simp only [Option.bind_some]
    rw [hu]
    simp only [Option.bind_some]
    rw [← hF, if_pos (by omega), if_pos (by omega), if_pos (by omega), if_pos (by omega), hcp]
    simp only [Option.bind_some]
    rw [hO]
    simp only [Option.bind_some, Int.toNat_natCast]
    rw [if_pos (by omega), if_pos (by rw [List.length_take, List.length_drop]; omega), ← hx, hscan (C.set K x) hSb (by rw [List.length_set]; omega)]
    simp only [Option.bind_some]
    rw [hrdx, eq_dec x F (by omega) (q + 299) (by omega)]
    simp only [Option.bind_some, decide_eq_true_eq]
  by_cases hxF : x = F
  · refine ⟨300, ?_⟩
    have hCC : C.set K x = C := by rw [hset, hxF, ← hsplit]
    show encorelaw05_StripTorn.j0 (0 + 300) _ _ _ _ _ _ = _
    rw [hfr 0, if_pos hxF, hCC, scan_ok _ _ _ h1, h2, if_pos rfl]
    simp
  · have hA := h1
    rw [hsplit, okS_app] at hA
    obtain ⟨hA1, hA2⟩ := hA
    obtain ⟨S, hS⟩ : ∃ S, S = runS (C.take K) ⟨[], 3, true⟩ := ⟨_, rfl⟩
    rw [← hS] at hA2
    have hs3 : 3 ≤ S.epoch := by
      have := epoch_le _ _ _ hA1
      rw [← hS] at this
      exact this
    have hbad : badS 5 S (readT x) := by
      rw [hx]
      refine torn_bad F O u e eb ga S hFE hOe hOa he3 (by omega) hOb hul' hs3 ?_
      rw [← hx]
      exact hxF
    have hsc : scanR ((5 : Nat) : Int) (C.set K x) ⟨[], 3, true⟩ = (S.runs, (K : Int)) := by
      rw [hset]
      have := scan_stop ((5 : Nat) : Int) (C.take K) x (C.drop (K + 1)) ⟨[], 3, true⟩ hA1 (by rw [← hS]; exact hbad)
      rw [this, ← hS, List.length_take]
      congr 1
      omega
    have hpre : PreR S.runs R := by
      have := PreR.run (F :: C.drop (K + 1)) S
      have e : runS (F :: C.drop (K + 1)) S = runS C ⟨[], 3, true⟩ := by
        rw [hS, ← runS_app, ← hsplit]
      rw [e, h2] at this
      exact this
    refine ⟨(S.runs.length) + 300, ?_⟩
    rw [hfr, if_neg hxF, hsc, if_pos rfl]
    show encorelaw05_StripTorn.j1 (S.runs.length + 298 + 1) R S.runs _ = _
    have hle := hpre.len
    rw [encorelaw05_StripTorn.j1, if_neg (fun h => by have h9 : (S.runs.length : Int) > (R.length : Int) := of_decide_eq_true h; omega)]
    have := torn_l0 R S.runs hR hpre S.runs.length 0 (Nat.zero_add _)
    have up : ∀ d, encorelaw05_StripTorn.l0 (201 + S.runs.length + 1 + d) R S.runs ((0 : Nat) : Int) = some true := fun d => by
      induction d with
      | zero => exact this
      | succ d ih => exact (encorelaw05_StripTorn.mono_l _).2.2 _ _ _ _ ih
    have := up 96
    rw [show 201 + S.runs.length + 1 + 96 = S.runs.length + 298 by omega] at this
    exact this
theorem torn_f (l : List (List Int)) (a1 a2 a3 : Int) (hb : ∀ b ∈ l, Bytes b) : ∃ k, encorelaw05_StripTorn.f k l a1 a2 a3 = some true := by
  obtain ⟨k1, R, h1, hR⟩ := rows_f l hb
  obtain ⟨k2, h2⟩ := laid_f R hR
  obtain ⟨k3, h3⟩ := torn_j0 R hR a1 a2 a3
  refine ⟨k1 + k2 + k3, ?_⟩
  unfold encorelaw05_StripTorn.f
  rw [show encorelaw05_works.f = some true from rfl]
  simp only [Option.bind_some, if_true]
  rw [rows_up k1 _ (by omega) _ _ h1]
  simp only [Option.bind_some]
  rw [laid_up k2 _ (by omega) _ _ _ h2]
  simp only [Option.bind_some, if_true]
  exact torn_up k3 _ (by omega) _ _ _ _ _ _ _ h3
end Go.Proofs.Ytfkndnocjelhgaa.LT
