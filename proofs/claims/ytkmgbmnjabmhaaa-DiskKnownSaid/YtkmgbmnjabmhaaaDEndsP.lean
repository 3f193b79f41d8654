/- What DiskEnds comes to, in plain Lean; two disks beside each other. No condition. -/
import Derived.Test.YtkmgbmnjabmhaaaDFlushed
namespace Go.Proofs.Ytkmgbmnjabmhaaa.Ext
open Go Go.RowKit Go.Proofs.YtkmgbmnjabmhaaaW.PrintWords Go.Proofs.YtkmgbmnjabmhaaaW.PrintLast Go.Proofs.YtkmgbmnjabmhaaaW.PrintMore Go.Proofs.Ytkmgbmnjabmhaaa.Base Go.Proofs.Ytkmgbmnjabmhaaa.Arr
set_option linter.unusedVariables false
set_option linter.unusedSimpArgs false

/-! ### two disks -/
def Two (H : Nat) (W : World) (okA okB : Nat → Prop) (g h : Nat) (sa sb : DS) : Prop := DL H W okA g sa ∧ DL H W okB h sb ∧ ∀ k, okA k → ¬ okB k
def okU (okA okB : Nat → Prop) (k : Nat) : Prop := okA k ∨ okB k
variable {H : Nat} {w w' : World} {okA okB okA' okB' : Nat → Prop} {g h : Nat} {sa sb sa' sb' : DS}
theorem Two.a (t : Two H w okA okB g h sa sb) : DL H w okA g sa := t.1
theorem Two.b (t : Two H w okA okB g h sa sb) : DL H w okB h sb := t.2.1
theorem Two.below (t : Two H w okA okB g h sa sb) (hb : Below w.heap.size w w') : Two H w' okA okB g h sa sb := ⟨t.1.below hb, t.2.1.below hb, t.2.2⟩
theorem Two.moveA (t : Two H w okA okB g h sa sb) (hd : DL H w' okA' g sa') (hm : Moves H w w' okA okA') : Two H w' okA' okB g h sa' sb ∧ Moves H w w' (okU okA okB) (okU okA' okB) := by
  obtain ⟨t1, t2, t3⟩ := t
  refine ⟨⟨hd, ⟨t2.1.move (fun k hk hlt => hm.2.1.2 k hlt (fun q => t3 k q hk)), fun k hk => Nat.lt_of_lt_of_le (t2.2.1 k hk) hm.2.1.1, Nat.le_trans t2.2.2 hm.2.1.1⟩, fun k hk q => ?_⟩, hm.1, hm.2.1.mono (fun k hk => .inl hk), fun k hk => ?_⟩
  · rcases (hm.2.2 k hk).1 with h1 | h1
    · exact t3 k h1 q
    · have := t2.2.1 k q; omega
  · rcases hk with hk | hk
    · exact ⟨(hm.2.2 k hk).1.elim (fun h => .inl (.inl h)) .inr, (hm.2.2 k hk).2⟩
    · exact ⟨.inl (.inr hk), Nat.lt_of_lt_of_le (t2.2.1 k hk) hm.2.1.1⟩
theorem Two.moveB (t : Two H w okA okB g h sa sb) (hd : DL H w' okB' h sb') (hm : Moves H w w' okB okB') : Two H w' okA okB' g h sa sb' ∧ Moves H w w' (okU okA okB) (okU okA okB') := by
  obtain ⟨t1, t2, t3⟩ := t
  refine ⟨⟨⟨t1.1.move (fun k hk hlt => hm.2.1.2 k hlt (fun q => t3 k hk q)), fun k hk => Nat.lt_of_lt_of_le (t1.2.1 k hk) hm.2.1.1, Nat.le_trans t1.2.2 hm.2.1.1⟩, hd, fun k hk q => ?_⟩, hm.1, hm.2.1.mono (fun k hk => .inr hk), fun k hk => ?_⟩
  · rcases (hm.2.2 k q).1 with h1 | h1
    · exact t3 k hk h1
    · have := t1.2.1 k hk; omega
  · rcases hk with hk | hk
    · exact ⟨.inl (.inl hk), Nat.lt_of_lt_of_le (t1.2.1 k hk) hm.2.1.1⟩
    · exact ⟨(hm.2.2 k hk).1.elim (fun h => .inl (.inr h)) .inr, (hm.2.2 k hk).2⟩
theorem Two.fresh (t : Two H w okA okB g h sa sb) {α : Type} {d : Kd α} {e : Nat} {okr : Nat → Prop} {v : Value} {xs : List α} (hr : d.R e w' w.heap.size okr v xs) : d.R e w' H (fun k => ¬ okU okA okB k) v xs :=
  Kd.R_mono (Kd.R_bound (Kd.R_lower (Kd.R_mono (Kd.R_bound hr) (ok' := fun k => ¬ okU okA okB k) (fun k hk q => by rcases q with q | q; (have := t.1.2.1 k q; omega); (have := t.2.1.2.1 k q; omega))) t.1.2.2)) (fun k hk => hk.1)
theorem row_A {α : Type} {d : Kd α} {e : Nat} {v : Value} {xs : List α} (hr : d.R e w H (fun k => ¬ okU okA okB k) v xs) : d.R e w H (fun k => ¬ okA k) v xs := Kd.R_mono hr (fun k hk q => hk (.inl q))
theorem row_B {α : Type} {d : Kd α} {e : Nat} {v : Value} {xs : List α} (hr : d.R e w H (fun k => ¬ okU okA okB k) v xs) : d.R e w H (fun k => ¬ okB k) v xs := Kd.R_mono hr (fun k hk q => hk (.inr q))
theorem Two.far (t : Two H w okA okB g h sa sb) {b : Nat} (hb : ¬ okU okA okB b) (hm : ∀ k, k ≠ b → w'.heap[k]? = w.heap[k]?) (hs : w'.heap.size = w.heap.size) : Two H w' okA okB g h sa sb :=
  ⟨⟨t.1.1.move (fun k hk _ => hm k (fun e => hb (.inl (by rw [e] at hk; exact hk)))), fun k hk => by rw [hs]; exact t.1.2.1 k hk, by rw [hs]; exact t.1.2.2⟩, ⟨t.2.1.1.move (fun k hk _ => hm k (fun e => hb (.inr (by rw [e] at hk; exact hk)))), fun k hk => by rw [hs]; exact t.2.1.2.1 k hk, by rw [hs]; exact t.2.1.2.2⟩, t.2.2⟩

/-! ### the plain law -/
def flC (l : List Int) (F j : Nat) : DS := { newS 8 with stays := lay zs8 ((l.take F).map wrI), waits := ((l.drop F).take (j - F)).map wrI }
def eH (l : List Int) (F j : Nat) : DS := if j ≤ F then flA l j else flC l F j
def eM (l : List Int) (F j : Nat) : DS := if j < F then flA l j else flC l F j
def stayL (l : List Int) (F j : Nat) : List (Int × List Int) := if j ≤ F then [] else (l.take F).map wrI
theorem flC_good (l : List Int) (F j : Nat) : Good (flC l F j) := ⟨by show (1 : Nat) ≤ 8; omega, by show (8 : Nat) ≤ 512; omega, lay_len zs8_len _ (take_fits l F), wrI_fits _⟩
theorem eH_good (l : List Int) (F j : Nat) : Good (eH l F j) := by
  unfold eH
  split
  · exact flA_good l j
  · exact flC_good l F j
theorem take_drop_take (l : List Int) {F j : Nat} (h : F ≤ j) : l.take F ++ (l.drop F).take (j - F) = l.take j := by
  have e : j = F + (j - F) := by omega
  conv => rhs; rw [e, List.take_add]
theorem eH_small (l : List Int) (F j : Nat) (hj : j ≤ 40) : (eH l F j).waits.length ≤ 1000000 := by
  unfold eH
  split
  · exact map_take_len _ _ hj
  · show (((l.drop F).take (j - F)).map wrI).length ≤ _
    rw [List.length_map, List.length_take]; omega
theorem eM_small (l : List Int) (F j : Nat) (hj : j ≤ 40) : (eM l F j).waits.length ≤ 1000000 := by
  unfold eM
  split
  · exact map_take_len _ _ hj
  · show (((l.drop F).take (j - F)).map wrI).length ≤ _
    rw [List.length_map, List.length_take]; omega
theorem eM_go (l : List Int) (F j : Nat) (h : j ≠ F) : eM l F j = eH l F j := by
  unfold eM eH
  by_cases h1 : j < F
  · rw [if_pos h1, if_pos (by omega)]
  · rw [if_neg h1, if_neg (by omega)]
theorem eH_flush (l : List Int) (F : Nat) : flushF (eH l F F) = (0, eM l F F) := by
  unfold eM eH
  rw [if_pos (Nat.le_refl _), if_neg (by omega), flush_alive rfl rfl]
  unfold flC flA
  simp
  rfl
theorem eM_wr (l : List Int) (F j : Nat) (hj : j < l.length) (a : Nat) (ha : rd l j % 8 = (a : Int)) : writeF (eM l F j) (a : Int) (secI ((rd l j).tdiv 8)) = (0, eH l F (j + 1)) := by
  unfold eM eH
  by_cases h1 : j < F
  · rw [if_pos h1, if_pos (by omega)]
    exact flA_wr l j hj a ha
  · rw [if_neg h1, if_neg (by omega), write_alive rfl rfl (by omega) (by show (a : Int) < ((8 : Nat) : Int); omega) (secI_len _)]
    unfold flC
    have e : (l.drop F).take (j + 1 - F) = (l.drop F).take (j - F) ++ [rd l j] := by
      rw [show j + 1 - F = (j - F) + 1 by omega, take_rd (by rw [List.length_drop]; omega)]
      congr 2
      unfold rd
      rw [Int.toNat_natCast, Int.toNat_natCast, List.getD_eq_getElem?_getD, List.getD_eq_getElem?_getD, List.getElem?_drop, show F + (j - F) = j by omega]
    rw [e, List.map_append, ← ha]
    rfl
theorem eH_cur (l : List Int) (F j : Nat) {i : Nat} (hi : i < 8) : curS (eH l F j).stays (eH l F j).waits i = curS zs8 ((l.take j).map wrI) i := by
  unfold eH
  by_cases h1 : j ≤ F
  · rw [if_pos h1]; rfl
  · rw [if_neg h1]
    show curS (lay zs8 ((l.take F).map wrI)) (((l.drop F).take (j - F)).map wrI) i = _
    rw [curS_lay zs8_len hi (take_fits l F), ← List.map_append, take_drop_take l (by omega)]
theorem eH_stays (l : List Int) (F j : Nat) {i : Nat} (hi : i < 8) : secOf (eH l F j).stays i = curS zs8 (stayL l F j) i := by
  unfold eH stayL
  by_cases h1 : j ≤ F
  · rw [if_pos h1, if_pos h1]; rfl
  · rw [if_neg h1, if_neg h1]
    exact lay_cur zs8_len hi _ _ rfl (take_fits l F)
theorem ends_seen (l : List Int) (F j : Nat) {i : Nat} (hi : i < 8) : thereE (eH l F j) i = 0 ∧ readF (eH l F j) i = curS zs8 ((l.take j).map wrI) i := by
  have hn : (eH l F j).n = 8 ∧ (eH l F j).dead = false := by unfold eH; split <;> exact ⟨rfl, rfl⟩
  have ht : thereE (eH l F j) i = 0 := there_alive hn.2 (by omega) (by rw [hn.1]; omega)
  exact ⟨ht, (read_alive ht).trans (eH_cur l F j hi)⟩
theorem ends_all (l : List Int) (F j : Nat) {i : Nat} (hi : i < 8) : thereE (bootS (goneS (eH l F j) 18446744073709551615 64)) i = 0 ∧ readF (bootS (goneS (eH l F j) 18446744073709551615 64)) i = curS zs8 ((l.take j).map wrI) i := by
  have hn : (eH l F j).n = 8 := by unfold eH; split <;> rfl
  obtain ⟨h1, h2⟩ := read_gone (eH_good l F j) 18446744073709551615 64 (j := i) (by rw [hn]; exact hi)
  refine ⟨h1, h2.trans ?_⟩
  rw [kept_all (eH_good l F j) _ _ offB_max (by decide) _ (Nat.le_refl _), List.take_length]
  exact eH_cur l F j hi
theorem ends_none (l : List Int) (F j : Nat) {i : Nat} (hi : i < 8) : thereE (bootS (goneS (eH l F j) 0 64)) i = 0 ∧ readF (bootS (goneS (eH l F j) 0 64)) i = curS zs8 (stayL l F j) i := by
  have hn : (eH l F j).n = 8 := by unfold eH; split <;> rfl
  obtain ⟨h1, h2⟩ := read_gone (eH_good l F j) 0 64 (j := i) (by rw [hn]; exact hi)
  refine ⟨h1, h2.trans ?_⟩
  rw [kept_none _ _ offB_zero]
  exact eH_stays l F j hi
theorem stay_go (l : List Int) {F j : Nat} (h : j ≠ F) : stayL l F j = stayL l F (j + 1) := by
  unfold stayL
  by_cases h1 : j ≤ F
  · rw [if_pos h1, if_pos (by omega)]
  · rw [if_neg h1, if_neg (by omega)]
theorem stay_at (l : List Int) (F : Nat) : stayL l F (F + 1) = (l.take F).map wrI := by unfold stayL; rw [if_neg (by omega)]
theorem stay_fits (l : List Int) (F j : Nat) : Fits 8 (stayL l F j) := by
  unfold stayL
  split
  · exact fun p hp => by cases hp
  · exact take_fits l F
end Go.Proofs.Ytkmgbmnjabmhaaa.Ext
