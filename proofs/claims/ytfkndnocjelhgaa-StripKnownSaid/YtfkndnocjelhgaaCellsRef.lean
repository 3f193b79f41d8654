/- The document's Cells and Front are the program's. Plain lists; condition: a row of a million million bytes at most. -/
import Derived.Test.YtfkndnocjelhgaaPlain5
import Derived.Test.YtfkndnocjelhgaaBase2
namespace Go.Proofs.Ytfkndnocjelhgaa.Ext
open Go Go.RowKit Go.Proofs.YtfkndnocjelhgaaW.PrintWords Go.Proofs.YtfkndnocjelhgaaW.PrintLast Go.Proofs.YtfkndnocjelhgaaW.PrintMore Go.Proofs.Ytfkndnocjelhgaa.Base Go.Proofs.Ytfkndnocjelhgaa.Arr
set_option linter.unusedVariables false
set_option linter.unusedSimpArgs false

theorem turned_l0 (l : List Int) (hl : l.length ≤ 1000) : ∀ (n k : Nat) (acc : List Int), n ≤ l.length → acc = (l.drop n).reverse → encoreref05_turned.l0 (k + n + 1) l acc ((n : Int) - 1) = some l.reverse
  | 0, k, acc, _, h => by
    show encoreref05_turned.l0 (k + 1) l acc _ = _
    simp only [encoreref05_turned.l0]
    rw [if_neg (by omega), h, List.drop_zero]
  | n + 1, k, acc, hn, h => by
    have ih := turned_l0 l hl n k (acc ++ [rd l (n : Int)]) (by omega) (by
      rw [h, List.drop_eq_getElem_cons (by omega : n < l.length), List.reverse_cons, rd_nat, List.getD_eq_getElem?_getD, List.getElem?_eq_getElem (by omega)]; rfl)
    show encoreref05_turned.l0 (k + n + 1 + 1) l acc (((n + 1 : Nat) : Int) - 1) = _
    rw [show (((n + 1 : Nat) : Int) - 1) = (n : Int) by omega]
    unfold encoreref05_turned.l0
    have hal : acc.length ≤ 1000 := by rw [h, List.length_reverse, List.length_drop]; omega
    rw [if_pos (by omega), if_pos (by omega), if_pos (by omega), if_pos (by omega), show wrap64 ((n : Int) - 1) = (n : Int) - 1 by unfold wrap64; omega]
    exact ih
theorem turned_eq (l : List Int) (hl : l.length ≤ 1000) (k : Nat) (hk : l.length + 1 ≤ k) : encoreref05_turned.f k l = some l.reverse := by
  unfold encoreref05_turned.f
  obtain ⟨q, rfl⟩ : ∃ q, k = q + l.length + 1 := ⟨k - l.length - 1, by omega⟩
  rw [show wrap64 ((l.length : Int) - 1) = (l.length : Int) - 1 by unfold wrap64; omega]
  exact turned_l0 l hl l.length q [] (Nat.le_refl _) (by rw [List.drop_length]; rfl)
def fourL (n : Nat) : List Int := [((n / 16777216 % 256 : Nat) : Int), ((n / 65536 % 256 : Nat) : Int), ((n / 256 % 256 : Nat) : Int), ((n % 256 : Nat) : Int)]
theorem four_f (n : Nat) : encoreref05_four.f (n : Int) = some (fourL n) := by
  unfold encoreref05_four.f fourL
  simp
theorem four_edge (g e : Nat) (hg : g < 4294967296) (he : e < 4294967296) : fourL g ++ fourL e = edgeL (stampN g e) := by
  have h : edgeL (stampN g e) = [edgeB (stampN g e) 0, edgeB (stampN g e) 1, edgeB (stampN g e) 2, edgeB (stampN g e) 3, edgeB (stampN g e) 4, edgeB (stampN g e) 5, edgeB (stampN g e) 6, edgeB (stampN g e) 7] := rfl
  rw [h]
  simp only [edgeB_nat]
  unfold fourL stampN
  show [_, _, _, _, _, _, _, _] = _
  simp only [Nat.reduceSub, Nat.reduceMul, Nat.reducePow, Nat.pow_zero, Nat.div_one]
  congr 1
  · congr 1; omega
  congr 1
  · congr 1; omega
  congr 1
  · congr 1; omega
  congr 1
  · congr 1; omega
  congr 1
  · congr 1; omega
  congr 1
  · congr 1; omega
  congr 1
  · congr 1; omega
  congr 1
  · congr 1; omega
theorem ref_l1 (x1 : List Int) (x6 : List (List Int)) (x7 : Int) (x9 : List Int) (g e : Int) (h9 : x9.length = 8) (h6 : x6.length < 5864062014805) : ∀ (d k : Nat) (x10 : List Int), x10.length + d = 56 → 9 ≤ k → encoreref05_Cells.l1 (k + d + 1) x1 x6 x7 x9 x10 g e = encoreref05_Cells.l0 k x1 (x6 ++ [x10 ++ List.replicate d 0 ++ x9.reverse]) (wrap64 (x7 + 47)) g e
  | 0, k, x10, hd, hk => by
    show encoreref05_Cells.l1 (k + 1) x1 x6 x7 x9 x10 g e = _
    simp only [encoreref05_Cells.l1]
    rw [if_neg (by omega), turned_eq x9 (by omega) k (by omega), Option.bind_some, if_pos (by rw [List.length_reverse]; omega), if_pos h6]
    simp
  | d + 1, k, x10, hd, hk => by
    have ih := ref_l1 x1 x6 x7 x9 g e h9 h6 d k (x10 ++ [0]) (by simp; omega) hk
    show encoreref05_Cells.l1 (k + d + 1 + 1) x1 x6 x7 x9 x10 g e = _
    rw [encoreref05_Cells.l1]
    rw [if_pos (by omega), if_pos (by omega), ih]
    congr 3
    simp [List.replicate_succ]
theorem ref_up (x1 : List Int) (x6 : List (List Int)) (x7 g e : Int) (r : List (List Int) × Int) : ∀ n k : Nat, encoreref05_Cells.l0 k x1 x6 x7 g e = some r → encoreref05_Cells.l0 (k + n) x1 x6 x7 g e = some r
  | 0, _, h => h
  | n + 1, k, h => (encoreref05_Cells.mono_l (k + n)).2.1 x1 x6 x7 g e r (ref_up x1 x6 x7 g e r n k h)
theorem piece_eq (x1 : List Int) (j : Nat) : ((x1.take (47 * j + pieceL x1.length j)).drop (47 * j)) = pieceOf x1 j := by
  unfold pieceOf
  rw [List.drop_take, Nat.add_sub_cancel_left]
theorem wrap_add (a b : Nat) (h : a + b ≤ 10000000000000) : wrap64 ((a : Int) + (b : Int)) = ((a + b : Nat) : Int) := by unfold wrap64; omega
theorem wrap_sub (a b : Nat) (h : a ≤ 10000000000000) (h2 : b ≤ a) : wrap64 ((a : Int) - (b : Int)) = ((a - b : Nat) : Int) := by unfold wrap64; omega
theorem mn_47 (a n : Nat) (h : n = min 47 a) : mn (a : Int) 47 = (n : Int) := by
  unfold mn
  split <;> omega
theorem head_first (n : Nat) (h : n ≤ 47) : wrap64 (128 + (n : Int)) % 256 = orF true n := by
  have : wrap64 (128 + (n : Int)) = 128 + (n : Int) := by unfold wrap64; omega
  rw [this]
  show (128 + (n : Int)) % 256 = 128 + (n : Int)
  omega
theorem head_next (n : Nat) (h : n ≤ 47) : (n : Int) % 256 = orF false n := by
  show (n : Int) % 256 = 0 + (n : Int)
  omega
theorem ref_fuel {x1 : List Int} {x6 : List (List Int)} {L J n k : Nat} {g e : Nat} {E p cell : List Int} {f : Bool} {r : List (List Int) × Int} (hL : L = x1.length) (hE : E.length = 8) (hp : p.length = n) (hn : n ≤ 47) (h1 : J + n ≤ L) (hbig : J + 47 ≤ 10000000000000) (h6 : x6.length < 5864062014805) (hpe : List.drop J (List.take (J + n) x1) = p)
    (hcell : E ++ [orF f n] ++ p ++ List.replicate (47 - n) 0 ++ E.reverse = cell) (hk : encoreref05_Cells.l0 (k + 9) x1 (x6 ++ [cell]) ((J + 47 : Nat) : Int) (g : Int) (e : Int) = some r) :
    encoreref05_Cells.j2 (k + 9 + (47 - n) + 1 + 1) x1 x6 (J : Int) (n : Int) E (E ++ [orF f n]) (g : Int) (e : Int) = some r := by
  have c1 : (0 : Int) ≤ (J : Int) := Int.natCast_nonneg _
  have c2 : (J : Int) ≤ ((J + n : Nat) : Int) := Int.ofNat_le.2 (Nat.le_add_right _ _)
  have c3 : ((J + n : Nat) : Int) ≤ (L : Int) := Int.ofNat_le.2 h1
  have hl : (E ++ [orF f n]).length = 9 := by rw [List.length_append, hE]; rfl
  have hl1 := ref_l1 x1 x6 (J : Int) E (g : Int) (e : Int) hE h6 (47 - n) (k + 9) (E ++ [orF f n] ++ p) (by rw [List.length_append, hl, hp]; omega) (Nat.le_add_left _ _)
  generalize k + 9 + (47 - n) + 1 = F at *
  rw [encoreref05_Cells.j2, wrap_add J n (by omega), Int.toNat_natCast, Int.toNat_natCast, hpe, ← hL, if_pos c1, if_pos c2, if_pos c3, if_pos (by rw [hl, hp]; omega), hl1, show (47 : Int) = ((47 : Nat) : Int) from rfl, wrap_add J 47 hbig, hcell]
  exact hk
theorem ref_step (x1 : List Int) (hx : x1.length ≤ 1000000000000) (g e : Nat) (hg : g < 4294967296) (he : e < 4294967296) (j : Nat) (hj : j < pieces x1.length) (x6 : List (List Int)) (h6 : x6.length < 5864062014805) (r : List (List Int) × Int)
    (h : ∃ k, encoreref05_Cells.l0 k x1 (x6 ++ [cellOf g e (j == 0) (pieceOf x1 j)]) ((47 * (j + 1) : Nat) : Int) (g : Int) (e : Int) = some r) : ∃ k, encoreref05_Cells.l0 k x1 x6 ((47 * j : Nat) : Int) (g : Int) (e : Int) = some r := by
  obtain ⟨k, hk⟩ := h
  have hk9 := ref_up x1 _ _ _ _ r 9 k hk
  have hp := pieceOf_len x1 j
  have hp47 := pieceL_le x1.length j
  have hlt : 47 * j < x1.length := by unfold pieces at hj; omega
  have hpe := piece_eq x1 j
  have hn1 : pieceL x1.length j = min 47 (x1.length - 47 * j) := rfl
  generalize pieceL x1.length j = n at *
  generalize pieceOf x1 j = p at *
  clear hj hk
  have hE := edgeL_len (stampN g e)
  have hed := four_edge g e hg he
  have hcell : ∀ hd : Int, hd = orF (j == 0) n → edgeL (stampN g e) ++ [hd] ++ p ++ List.replicate (47 - n) 0 ++ (edgeL (stampN g e)).reverse = cellOf g e (j == 0) p := by
    intro hd hhd
    unfold cellOf
    rw [hp, hhd]
    simp
  generalize cellOf g e (j == 0) p = cell at *
  generalize edgeL (stampN g e) = E at *
  obtain ⟨L, hL⟩ : ∃ L, L = x1.length := ⟨_, rfl⟩
  obtain ⟨J, hJ⟩ : ∃ J, J = 47 * j := ⟨_, rfl⟩
  have hJ2 : 47 * (j + 1) = J + 47 := by omega
  rw [hJ2] at hk9
  rw [← hL, ← hJ] at hn1 hlt
  rw [← hJ] at hpe ⊢
  have h1 : J + n ≤ L := by omega
  have hbig : J + 47 ≤ 10000000000000 := by omega
  have hn47 : n ≤ 47 := hp47
  have hLJ : L ≤ 10000000000000 := by omega
  have hJL : J ≤ L := by omega
  have c5 : (J : Int) < (L : Int) := Int.ofNat_lt.2 hlt
  have hmn : mn (wrap64 ((L : Int) - (J : Int))) 47 = (n : Int) := by rw [wrap_sub L J hLJ hJL]; exact mn_47 _ _ hn1
  have hj0 : (J : Int) = 0 ↔ j = 0 := by omega
  clear hx hlt hJ hJ2 hp47 hLJ hJL hn1
  have hj2 := ref_fuel (g := g) (e := e) hL hE hp hn47 h1 hbig h6 hpe (hcell _ rfl) hk9
  refine ⟨k + 9 + (47 - n) + 1 + 1 + 1, ?_⟩
  generalize k + 9 + (47 - n) + 1 + 1 = F at *
  rw [encoreref05_Cells.l0, ← hL, if_pos c5, four_f, Option.bind_some, four_f, Option.bind_some, if_pos (show (fourL g).length + (fourL e).length < 140737488355328 by show 4 + 4 < _; decide), Option.bind_some, hed, copy_eq _ (by rw [hE]; decide), Option.bind_some, hmn]
  by_cases h0 : j = 0
  · rw [if_pos (hj0.2 h0), if_pos (by rw [hE]; decide), head_first n hn47]
    rw [h0] at hj2
    exact hj2
  · rw [if_neg (fun h => h0 (hj0.1 h)), if_pos (by rw [hE]; decide), head_next n hn47]
    rw [show (j == 0) = false by simpa using h0] at hj2
    exact hj2
theorem ref_loop (x1 : List Int) (hx : x1.length ≤ 1000000000000) (g e : Nat) (hg : g < 4294967296) (he : e < 4294967296) : ∀ m j : Nat, j + m = pieces x1.length → ∃ k, encoreref05_Cells.l0 k x1 (cellsOf g e x1 (upto x1.length j)) ((47 * j : Nat) : Int) (g : Int) (e : Int) = some (runCells g e x1, 0)
  | 0, j, hj => by
    refine ⟨1, ?_⟩
    simp only [encoreref05_Cells.l0]
    have : ¬ 47 * j < x1.length := by unfold pieces at hj; omega
    rw [if_neg (by omega)]
    unfold runCells
    obtain rfl : j = pieces x1.length := by omega
    rfl
  | m + 1, j, hj => by
    have hlt : j < pieces x1.length := by omega
    have ih := ref_loop x1 hx g e hg he m (j + 1) (by omega)
    rw [upto_succ x1.length j hlt, cellsOf_snoc, upto_length _ _ (by omega)] at ih
    refine ref_step x1 hx g e hg he j hlt _ ?_ _ ih
    unfold cellsOf
    rw [List.length_mapIdx, upto_length _ _ (by omega)]
    unfold pieces at hlt
    omega
theorem ref_cells (g e : Int) (b : List Int) (hb : b.length ≤ 1000000000000) : ∃ k r, encoreref05_Cells.f k g e b = some r ∧ strip_Cells.f g e b = some r := by
  by_cases hgood : goodS g e
  · have hg := hgood
    obtain ⟨g1, g2, g3, g4⟩ := hg
    obtain ⟨gn, rfl⟩ : ∃ n : Nat, g = (n : Int) := ⟨g.toNat, by omega⟩
    obtain ⟨en, rfl⟩ : ∃ n : Nat, e = (n : Int) := ⟨e.toNat, by omega⟩
    have hf : ∀ k, encoreref05_Cells.f k (gn : Int) (en : Int) b = encoreref05_Cells.j0 k b false (gn : Int) (en : Int) := fun k => by
      unfold encoreref05_Cells.f
      rw [if_neg (by omega), if_neg (by omega), if_neg (by omega), decide_eq_false (by omega)]
    by_cases h0 : b.length = 0
    · refine ⟨1, ([], 2), ?_, ?_⟩
      · rw [hf]
        simp only [encoreref05_Cells.j0]
        rw [if_neg (by decide), if_pos (by omega)]
      · unfold strip_Cells.f
        rw [if_neg (fun h => h hgood), if_pos h0]
    · obtain ⟨k, hk⟩ := ref_loop b hb gn en (by omega) (by omega) (pieces b.length) 0 (by omega)
      refine ⟨k + 1, (runCells gn en b, 0), ?_, ?_⟩
      · rw [hf]
        rw [encoreref05_Cells.j0]
        rw [if_neg (by decide), if_neg (by omega)]
        exact hk
      · unfold strip_Cells.f
        rw [if_neg (fun h => h hgood), if_neg h0, if_pos hb, Int.toNat_natCast, Int.toNat_natCast]
  · refine ⟨1, ([], 9), ?_, ?_⟩
    · unfold encoreref05_Cells.f
      have hj : encoreref05_Cells.j0 1 b true g e = some ([], 9) := by
        simp only [encoreref05_Cells.j0]
        rw [if_pos trivial]
      by_cases h1 : g < 1
      · rw [if_pos h1, hj]
      · rw [if_neg h1]
        by_cases h2 : g ≥ 4294967296
        · rw [if_pos h2, hj]
        · rw [if_neg h2]
          by_cases h3 : e < 0
          · rw [if_pos h3, hj]
          · rw [if_neg h3, decide_eq_true (show e ≥ 4294967296 by unfold goodS at hgood; omega), hj]
    · unfold strip_Cells.f
      rw [if_pos hgood]
end Go.Proofs.Ytfkndnocjelhgaa.Ext
