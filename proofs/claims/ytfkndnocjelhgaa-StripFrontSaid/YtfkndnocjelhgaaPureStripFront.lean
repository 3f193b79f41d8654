import Derived.Test.YtfkndnocjelhgaaCellLaw
import Derived.Test.YtfkndnocjelhgaaLf2
namespace Go.Proofs.Ytfkndnocjelhgaa.Pure
open Go Go.RowKit Go.Proofs.Ytfkndnocjelhgaa.Lf Go.Proofs.YtfkndnocjelhgaaW.PrintWords Go.Proofs.YtfkndnocjelhgaaW.PrintLast Go.Proofs.Ytfkndnocjelhgaa.Base Go.Proofs.Ytfkndnocjelhgaa.Ext

theorem bring_eq (i n : Int) (hn : 0 < n) (hn2 : n ≤ 9223372036854775807) : ∃ K : Nat, encoreref00_Bring.f i n = some (K : Int) ∧ (K : Int) < n := by
  unfold encoreref00_Bring.f
  rw [if_neg (by omega), if_neg (by omega)]
  have h1 : Int.tmod i n < n := Int.tmod_lt_of_pos i hn
  have h2 : -n < Int.tmod i n := Int.lt_tmod_of_pos i hn
  by_cases h : Int.tmod i n < 0
  · rw [if_pos h, show wrap64 (Int.tmod i n + n) = Int.tmod i n + n by unfold wrap64; omega]
    exact ⟨(Int.tmod i n + n).toNat, by rw [Int.toNat_of_nonneg (by omega)], by omega⟩
  · rw [if_neg h]
    exact ⟨(Int.tmod i n).toNat, by rw [Int.toNat_of_nonneg (by omega)], by omega⟩
/-- a cell whose front is the stamp's -/
structure Fr (g e : Nat) (c : List Int) : Prop where
  len : c.length = 64
  front : c.take 8 = edgeL (stampN g e)
  bytes : Bytes c
theorem front_f {g e : Nat} {c : List Int} (h : Fr g e c) (hg : g < 4294967296) (he : e < 4294967296) : strip_Front.f c = some ((g : Int), (e : Int), 0) := by
  unfold strip_Front.f
  have hv : stampV c = stampN g e := by unfold stampV; rw [h.front, val_edge _ (stampN_lt g e hg he)]
  have h1 := stampN_div g e he
  have h2 := stampN_mod g e he
  rw [if_pos h.len, if_pos (bytes_to h.bytes), hv]
  have e1 : ((stampN g e : Int) / 4294967296) = (g : Int) := by omega
  have e2 : ((stampN g e : Int) % 4294967296) = (e : Int) := by omega
  rw [e1, e2]
theorem front_tail {g e : Nat} {c : List Int} (h : Fr g e c) (hg : g < 4294967296) (he : e < 4294967296) : (if 0 < (([c] : List (List Int)).length : Int) then ((strip_Front.f (rd_L3 [c] 0)).bind fun bt124 => (if bt124.2.2 = 0 then (if (bt124.1 == (g : Int) && (bt124.2.1 == (e : Int))) = true then ((encorelaw05_works.f).bind fun t128 => (some t128)) else (some false)) else (some false))) else (none)) = some true := by
  rw [if_pos (show (0 : Int) < (([c] : List (List Int)).length : Int) from Int.zero_lt_one), show rd_L3 [c] 0 = c from rfl, front_f h hg he]
  simp [encorelaw05_works.f]
theorem front_loop (g e : Nat) (hg : g < 4294967296) (he : e < 4294967296) (l2 : List Int) (hl : l2.length ≤ 140737488351232) (hb : Bytes l2) : ∀ n : Nat, n ≤ 56 → ∀ c, Fr g e c → encorelaw05_StripFront.l0 (n + 1) l2 [c] (64 - (n : Int)) (g : Int) (e : Int) = some true
  | 0, _, c, h => by
    simp only [encorelaw05_StripFront.l0]
    rw [if_neg (by omega)]
    exact front_tail h hg he
  | n + 1, hn, c, h => by
    have ih := front_loop g e hg he l2 hl hb n (by omega)
    obtain ⟨x, hx⟩ : ∃ x : Nat, (64 - ((n + 1 : Nat) : Int)) = (x : Int) := ⟨63 - n, by omega⟩
    rw [hx]
    have hx8 : 8 ≤ x := by omega
    have hx64 : x < 64 := by omega
    have hw : wrap64 ((x : Int) - 8) = ((x - 8 : Nat) : Int) := by unfold wrap64; omega
    have hw2 : wrap64 ((x : Int) + 1) = 64 - (n : Int) := by unfold wrap64; omega
    unfold encorelaw05_StripFront.l0
    rw [if_pos (by omega)]
    by_cases hlt : wrap64 ((x : Int) - 8) < (l2.length : Int)
    · rw [if_pos hlt, if_pos (by simp), if_pos (by rw [hw]; omega), if_pos (by omega), if_pos (by rw [show rd_L3 [c] 0 = c from rfl, h.len]; omega), hw2]
      have hset : ([c] : List (List Int)).set (0 : Int).toNat ((rd_L3 [c] 0).set ((x : Int)).toNat (rd l2 (wrap64 ((x : Int) - 8)))) = [c.set x (rd l2 (wrap64 ((x : Int) - 8)))] := by
        rw [show rd_L3 [c] 0 = c from rfl, Int.toNat_natCast]; rfl
      rw [hset]
      refine ih _ ⟨by rw [List.length_set]; exact h.len, ?_, ?_⟩
      · rw [List.take_set_of_le (by omega)]; exact h.front
      · intro y hy
        rcases List.mem_or_eq_of_mem_set hy with h1 | h1
        · exact h.bytes y h1
        · rw [h1, hw]
          exact hb.at_ (x - 8)
    · rw [if_neg hlt]
      exact front_tail h hg he
theorem StripFront : encorelaw05_StripFront.Pure := by
  intro a0 a1 l2 _ _ hm hl hb
  obtain ⟨t, ht, ht2⟩ := bring_eq a0 4294967295 (by decide) (by decide)
  obtain ⟨e, he, he2⟩ := bring_eq a1 4294967296 (by decide) (by decide)
  have hg : wrap64 (1 + (t : Int)) = ((t + 1 : Nat) : Int) := by unfold wrap64; omega
  have hcf : strip_Cells.f ((t + 1 : Nat) : Int) (e : Int) [1] = some ([cellOf (t + 1) e true [1]], 0) := by
    unfold strip_Cells.f
    rw [if_neg (fun h => h (by unfold goodS; omega)), if_neg (by decide), if_pos (by decide), Int.toNat_natCast, Int.toNat_natCast, run_one _ _ [1] (by decide) (by decide)]
  refine ⟨58, ?_⟩
  unfold encorelaw05_StripFront.f
  rw [ht, Option.bind_some, he, Option.bind_some, hg, hcf, Option.bind_some]
  have hl64 := cellOf_len (t + 1) e true [1] (by decide)
  rw [if_pos (show ([cellOf (t + 1) e true [1]], (0 : Int)).2 = 0 from rfl), if_pos (show ((([cellOf (t + 1) e true [1]] : List (List Int)).length : Nat) : Int) = 1 from rfl), if_pos (show (0 : Int) < ((([cellOf (t + 1) e true [1]], (0 : Int)).1.length : Nat) : Int) from Int.zero_lt_one), show rd_L3 ([cellOf (t + 1) e true [1]], (0 : Int)).1 0 = cellOf (t + 1) e true [1] from rfl, hl64]
  simp only [encorelaw05_StripFront.j0]
  rw [if_neg (by decide)]
  refine front_loop (t + 1) e (by omega) (by omega) l2 (by omega) (wf_bytes hb) 56 (Nat.le_refl _) _ ⟨hl64, ?_, cellOf_bytes _ _ _ _ (by decide) (bytes_of (by decide))⟩
  rw [cellOf_eq, cell0_take _ _ _ (edgeL_len _)]
end Go.Proofs.Ytfkndnocjelhgaa.Pure
