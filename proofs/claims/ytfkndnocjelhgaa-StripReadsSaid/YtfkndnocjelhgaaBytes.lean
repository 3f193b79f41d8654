/- The bytes of strip's cell, walked. No condition beyond the row's own. -/
import Derived.Test.YtfkndnocjelhgaaConcat
namespace Go.Proofs.Ytfkndnocjelhgaa.Ext
open Go Go.RowKit Go.Proofs.YtfkndnocjelhgaaW.PrintWords Go.Proofs.YtfkndnocjelhgaaW.PrintLast Go.Proofs.YtfkndnocjelhgaaW.PrintMore Go.Proofs.Ytfkndnocjelhgaa.Base Go.Proofs.Ytfkndnocjelhgaa.Arr
set_option linter.unusedVariables false
set_option linter.unusedSimpArgs false

/-- a part of a row that is held, as what is read -/
theorem hold_C {W : World} {g t : Nat} {b : List Int} (h : HoldsRow W g t (rowK .u8 b)) (off n : Nat) (hn : off + n ≤ b.length) (hm : b.length ≤ 9223372036854775807) : Kd.C (Kd.int .u8) W (some ⟨g, off, none⟩) n ((b.drop off).take n) := by
  refine ⟨by rw [List.length_take, List.length_drop]; omega, by omega, fun h0 => ⟨⟨g, off, none⟩, rfl, fun j x hx => ⟨[.int .u8 x], rfl, rfl, fun i u hu => ?_⟩⟩⟩
  have hi : i = 0 := by
    cases i with
    | zero => rfl
    | succ i => simp at hu
  subst hi
  have hu' : Value.int .u8 x = u := by simpa using hu
  subst hu'
  have hr := range_row h off n j (.int .u8 x) (by unfold nums; rw [List.getElem?_map, hx]; rfl)
  have e : ((⟨g, off, none⟩ : Addr).add (j * (Kd.int .u8).sz + 0)) = ⟨g, off + j, none⟩ := by
    show (⟨g, off, none⟩ : Addr).add (j * 1 + 0) = _
    rw [Nat.mul_one, Nat.add_zero]
    unfold Addr.add
    split
    · rename_i e; rw [e]; rfl
    · rfl
  rw [e]
  exact hr
/-- slices in a row that is held, as rows that are read -/
theorem slices_C {W : World} {g t : Nat} {vs : List Value} {ls : List (List Int)} (h : HoldsRow W g t vs.toArray) (hlen : vs.length = ls.length) (hm : ls.length ≤ 9223372036854775807)
    (hK : ∀ (j : Nat) (l : List Int), ls[j]? = some l → ∃ (A : Option Addr) (c : Nat), vs[j]? = some (Value.slice A l.length c) ∧ l.length ≤ c ∧ Kd.C (Kd.int .u8) W A l.length l) : (Kd.slice 5 (Kd.int .u8)).C W (some ⟨g, 0, none⟩) ls.length ls := by
  refine ⟨rfl, hm, fun h0 => ⟨⟨g, 0, none⟩, rfl, fun j l hl => ?_⟩⟩
  obtain ⟨A, c, hv, hle, hc⟩ := hK j l hl
  refine ⟨[.slice A l.length c], rfl, ⟨A, c, rfl, hle, hc⟩, fun i u hu => ?_⟩
  have hi : i = 0 := by
    cases i with
    | zero => rfl
    | succ i => simp at hu
  subst hi
  have hu' : Value.slice A l.length c = u := by simpa using hu
  subst hu'
  have hr := h.cell (j := j) (v := .slice A l.length c) (by simpa using hv)
  have e : ((⟨g, 0, none⟩ : Addr).add (j * (Kd.slice 5 (Kd.int .u8)).sz + 0)) = ⟨g, j, none⟩ := by
    show (⟨g, 0, none⟩ : Addr).add (j * 1 + 0) = _
    rw [Nat.mul_one, Nat.add_zero]
    unfold Addr.add
    split
    · rename_i e; rw [e]
    · rw [Nat.zero_add]
  rw [e]
  exact hr
def cutL (b : List Int) : List (List Int) := [b.take 8, [rd b 8], (b.drop 9).take 47, b.drop 56]
theorem cut_flat (b : List Int) (hb : b.length = 64) : (cutL b).flatten = b := by
  have e9 : b.drop 8 = rd b 8 :: b.drop 9 := by
    rw [List.drop_eq_getElem_cons (by omega : 8 < b.length)]
    congr 1
    show _ = rd b ((8 : Nat) : Int)
    rw [rd_nat, List.getD_eq_getElem?_getD, List.getElem?_eq_getElem (by omega)]; rfl
  have e56 : b.drop 9 = (b.drop 9).take 47 ++ b.drop 56 := by
    rw [show b.drop 56 = (b.drop 9).drop 47 by rw [List.drop_drop]]
    exact (List.take_append_drop 47 (b.drop 9)).symm
  show b.take 8 ++ ([rd b 8] ++ ((b.drop 9).take 47 ++ (b.drop 56 ++ []))) = b
  rw [List.append_nil, ← e56]
  show b.take 8 ++ (rd b 8 :: b.drop 9) = b
  rw [← e9, List.take_append_drop]
set_option maxHeartbeats 4000000 in
set_option maxRecDepth 100000 in
theorem bytes_calls (w : World) (b : List Int) (hb : b.length = 64) :
    Calls Try.prog 34 #[.agg (rowK .u8 b)] w fun e w' => ∃ v, e = .returned v ∧ Kd.R (Kd.int .u8) 5 w' w.heap.size (fun _ => True) v b ∧ Below w.heap.size w w' := by
  have HB := Aside0.mk hb
  obtain ⟨W1, hW1⟩ : ∃ W1, W1 = w.alloc (.cells (rowK .u8 b) 75) := ⟨_, rfl⟩
  obtain ⟨g, hg⟩ : ∃ g, g = w.heap.size := ⟨_, rfl⟩
  have P1 := Aside0.mk (show HoldsRow W1 g 75 (rowK .u8 b) by rw [hW1, hg]; exact HoldsRow.new _ _ _)
  have B1 := Aside0.mk (show Below w.heap.size w W1 by rw [hW1]; exact below_alloc (Below.refl _ _) _)
  have HG := Aside0.mk hg
  have HW1 := Aside0.mk hW1
  clear hb hg hW1
  go_enter Try.func34, Try.ntmps34
  go_wp2_with fail
  rw [← HW1.out, ← HG.out]
  have K8 : W1.drew.cell? ⟨g, 8, none⟩ = some (.int .u8 (rd b 8)) := P1.out.cell (rowK_get _ _ 8 (by have := HB.out; omega))
  obtain ⟨W2, hW2⟩ : ∃ W2, W2 = W1.drew.alloc (.cells #[.int .u8 (rd b 8)] 5) := ⟨_, rfl⟩
  obtain ⟨W3, hW3⟩ : ∃ W3, W3 = W2.alloc (.cells #[.slice (some ⟨g, 0, none⟩) 8 8, .slice (some ⟨W1.heap.size, 0, none⟩) 1 1, .slice (some ⟨g, 9, none⟩) 47 47, .slice (some ⟨g, 56, none⟩) 8 8] 24) := ⟨_, rfl⟩
  have P2 : HoldsRow W2 g 75 (rowK .u8 b) := by rw [hW2]; exact HoldsRow.alloc (show HoldsRow W1.drew g 75 (rowK .u8 b) from P1.out) _
  have Q2 : HoldsRow W2 W1.heap.size 5 (rowK .u8 [rd b 8]) := by rw [hW2]; exact HoldsRow.new W1.drew _ _
  have P3 : HoldsRow W3 g 75 (rowK .u8 b) := by rw [hW3]; exact HoldsRow.alloc P2 _
  have Q3 : HoldsRow W3 W1.heap.size 5 (rowK .u8 [rd b 8]) := by rw [hW3]; exact HoldsRow.alloc Q2 _
  have T3 : HoldsRow W3 W2.heap.size 24 [.slice (some ⟨g, 0, none⟩) 8 8, .slice (some ⟨W1.heap.size, 0, none⟩) 1 1, .slice (some ⟨g, 9, none⟩) 47 47, .slice (some ⟨g, 56, none⟩) 8 8].toArray := by rw [hW3]; exact HoldsRow.new _ _ _
  have hB3 : Below w.heap.size w W3 := by rw [hW3, hW2]; exact below_alloc (below_alloc (below_drew B1.out) _) _
  have HLS : (Kd.slice 5 (Kd.int .u8)).C W3 (some ⟨W2.heap.size, 0, none⟩) (cutL b).length (cutL b) := by
    have hb := HB.out
    refine slices_C T3 rfl (by show 4 ≤ _; omega) (fun j l hl => ?_)
    match j, hl with
    | 0, hl =>
      obtain rfl : b.take 8 = l := by simpa [cutL] using hl
      have e : (b.take 8).length = 8 := by rw [List.length_take]; omega
      have := hold_C P3 0 8 (by omega) (by omega)
      rw [List.drop_zero] at this
      rw [e]
      exact ⟨_, 8, rfl, by omega, this⟩
    | 1, hl =>
      obtain rfl : [rd b 8] = l := by simpa [cutL] using hl
      exact ⟨_, 1, rfl, by simp, hold_C Q3 0 1 (by simp) (by simp)⟩
    | 2, hl =>
      obtain rfl : (b.drop 9).take 47 = l := by simpa [cutL] using hl
      have e : ((b.drop 9).take 47).length = 47 := by rw [List.length_take, List.length_drop]; omega
      rw [e]
      exact ⟨_, 47, rfl, by omega, hold_C P3 9 47 (by omega) (by omega)⟩
    | 3, hl =>
      obtain rfl : b.drop 56 = l := by simpa [cutL] using hl
      have e : (b.drop 56).length = 8 := by rw [List.length_drop]; omega
      have := hold_C P3 56 8 (by omega) (by omega)
      rw [List.take_of_length_le (by omega)] at this
      rw [e]
      exact ⟨_, 8, rfl, by omega, this⟩
    | j + 4, hl => simp [cutL] at hl
  have HCALL := Aside0.mk (show Calls Try.prog 42 #[.slice (some ⟨W2.heap.size, 0, none⟩) 4 4] W3 fun e w' => ∃ v, e = .returned v ∧ Kd.R (Kd.int .u8) 5 w' W3.heap.size (fun _ => True) v b ∧ Below W3.heap.size W3 w' from by
    have h := Concat_calls W3 (some ⟨W2.heap.size, 0, none⟩) 4 (cutL b) HLS (Nat.le_refl _) (by rw [cut_flat b HB.out]; exact HB.out)
    rw [cut_flat b HB.out] at h
    exact h)
  have HB3 := Aside0.mk hB3
  have HW2 := Aside0.mk hW2
  have HW3 := Aside0.mk hW3
  clear P2 Q2 P3 Q3 T3 hB3 HLS hW2 hW3
  refine start_ (n := 12) (S := fun w' => w'.cell? ⟨g, 8, none⟩ = some (.int .u8 (rd b 8))) (ds := []) #[false, false, false, false, false, false, false, false, false, false, false, false] (by kernel_rfl) rfl rfl (K8) (fun hHeld => ?_)
  refine pure_ (i := 0) (N := some 3) (v := ?_) (a' := ?_) #[true, false, false, false, false, false, false, false, false, false, false, false] rfl rfl (by kernel_rfl) (fun _ _ _ h => h) (Or.inl ⟨by rfl, ?_⟩) ?_ ?_
  rotate_left
  · intro w'
    go_simp
    with_reducible rfl
  rotate_left
  · simp only [Act.put, List.setIfInBounds_toArray, List.set_cons_zero, List.set_cons_succ, i64_w, i32_w]
    rfl
  refine pure_ (i := 1) (N := some 4) (v := ?_) (a' := ?_) #[true, true, false, false, false, false, false, false, false, false, false, false] rfl rfl (by kernel_rfl) (fun _ _ _ h => h) (Or.inl ⟨by rfl, ?_⟩) ?_ ?_
  rotate_left
  · intro w'
    go_simp
    with_reducible rfl
  rotate_left
  · simp only [Act.put, List.setIfInBounds_toArray, List.set_cons_zero, List.set_cons_succ, i64_w, i32_w]
    rfl
  refine pure_ (i := 2) (N := some 5) (v := ?_) (a' := ?_) #[true, true, true, false, false, false, false, false, false, false, false, false] rfl rfl (by kernel_rfl) (fun _ _ _ h => h) (Or.inl ⟨by rfl, ?_⟩) ?_ ?_
  rotate_left
  · intro w'
    go_simp
    with_reducible rfl
  rotate_left
  · simp only [Act.put, List.setIfInBounds_toArray, List.set_cons_zero, List.set_cons_succ, i64_w, i32_w]
    rfl
  refine pure_ (i := 5) (N := some 8) (v := ?_) (a' := ?_) #[true, true, true, false, false, true, false, false, false, false, false, false] rfl rfl (by kernel_rfl) (fun _ _ _ h => h) (Or.inl ⟨by rfl, ?_⟩) ?_ ?_
  rotate_left
  · intro w'
    go_simp
    with_reducible rfl
  rotate_left
  · simp only [Act.put, List.setIfInBounds_toArray, List.set_cons_zero, List.set_cons_succ, i64_w, i32_w]
    rfl
  refine pure_ (i := 6) (N := some 9) (v := ?_) (a' := ?_) #[true, true, true, false, false, true, true, false, false, false, false, false] rfl rfl (by kernel_rfl) (fun _ _ _ h => h) (Or.inl ⟨by rfl, ?_⟩) ?_ ?_
  rotate_left
  · intro w'
    go_simp
    with_reducible rfl
  rotate_left
  · simp only [Act.put, List.setIfInBounds_toArray, List.set_cons_zero, List.set_cons_succ, i64_w, i32_w]
    rfl
  refine pure_ (i := 7) (N := some 10) (v := ?_) (a' := ?_) #[true, true, true, false, false, true, true, true, false, false, false, false] rfl rfl (by kernel_rfl) (fun _ _ _ h => h) (Or.inl ⟨by rfl, ?_⟩) ?_ ?_
  rotate_left
  · intro w'
    go_simp
    with_reducible rfl
  rotate_left
  · simp only [Act.put, List.setIfInBounds_toArray, List.set_cons_zero, List.set_cons_succ, i64_w, i32_w]
    rfl
  refine pure_ (i := 8) (N := some 11) (v := ?_) (a' := ?_) #[true, true, true, false, false, true, true, true, true, false, false, false] rfl rfl (by kernel_rfl) (fun _ _ _ h => h) (Or.inl ⟨by rfl, ?_⟩) ?_ ?_
  rotate_left
  · intro w'
    go_simp
    with_reducible rfl
  rotate_left
  · simp only [Act.put, List.setIfInBounds_toArray, List.set_cons_zero, List.set_cons_succ, i64_w, i32_w]
    rfl
  refine take_ (i := 3) (N := some 6) (v := ?_) (a' := ?_) #[true, true, true, true, false, true, true, true, true, false, false, false] rfl rfl (by kernel_rfl) (fun _ _ _ h => h) (Or.inl ⟨by rfl, ?_⟩) hHeld ?_ ?_
  rotate_left
  · intro w' s0
    go_simp
    with_reducible rfl
  rotate_left
  · simp only [Act.put, List.setIfInBounds_toArray, List.set_cons_zero, List.set_cons_succ, i64_w, i32_w]
    rfl
  refine one_ (i := 4) (N := some 7) #[true, true, true, true, true, true, true, true, true, false, false, false] rfl rfl (by kernel_rfl) (by decide) (fun K hK => ?_)
  refine value_ (w1 := W2) (v := .slice (some ⟨W1.heap.size, 0, none⟩) 1 1) (by rfl) rfl ?_ ?_
  · rw [HW2.out]
    go_simp
  refine hK.out _ _ ((by rw [HW2.out]; exact cell_alloc_old _ K8)) (fun hHeld => ?_)
  clear hK K
  refine norm_ (a' := ?_) ?_ ?_
  rotate_left
  · show Act.put _ (some 7) _ = _
    simp only [Act.put, List.setIfInBounds_toArray, List.set_cons_zero, List.set_cons_succ, i64_w, i32_w]
    rfl
  refine one_ (i := 9) (N := some 12) #[true, true, true, true, true, true, true, true, true, true, false, false] rfl rfl (by kernel_rfl) (by decide) (fun K hK => ?_)
  refine value_ (w1 := W3) (v := .slice (some ⟨W2.heap.size, 0, none⟩) 4 4) (by rfl) rfl ?_ ?_
  · rw [HW3.out]
    go_simp
  refine hK.out _ _ ((by rw [HW3.out, HW2.out]; exact cell_alloc_old _ (cell_alloc_old _ K8))) (fun hHeld => ?_)
  clear hK K
  refine norm_ (a' := ?_) ?_ ?_
  rotate_left
  · show Act.put _ (some 12) _ = _
    simp only [Act.put, List.setIfInBounds_toArray, List.set_cons_zero, List.set_cons_succ, i64_w, i32_w]
    rfl
  refine one_ (i := 10) (N := some 13) #[true, true, true, true, true, true, true, true, true, true, true, false] rfl rfl (by kernel_rfl) (by decide) (fun K hK => ?_)
  refine goes_ Try.func42 (by kernel_rfl) rfl #[.slice (some ⟨W2.heap.size, 0, none⟩) 4 4] (by rfl) rfl rfl (by simp only [List.map_toArray, List.map_cons, List.map_nil]; rfl) ?_
  with_reducible refine (HCALL.out).mono ?_
  rintro e w5 ⟨v5, rfl, ho, hb5⟩
  refine ⟨_, rfl, ?_⟩
  have R5 := Aside0.mk ho
  have B5 := Aside0.mk hb5
  clear ho hb5
  refine hK.out _ _ ((pw_cell_below B5.out (by rw [HW3.out, HW2.out]; exact cell_alloc_old _ (cell_alloc_old _ K8)))) (fun hHeld => ?_)
  clear hK K
  refine norm_ (a' := ?_) ?_ ?_
  rotate_left
  · show Act.put _ (some 13) _ = _
    simp only [Act.put, List.setIfInBounds_toArray, List.set_cons_zero, List.set_cons_succ, i64_w, i32_w]
    rfl
  refine pure_ (i := 11) (N := some 2) (v := ?_) (a' := ?_) #[true, true, true, true, true, true, true, true, true, true, true, true] rfl rfl (by kernel_rfl) (fun _ _ _ h => h) (Or.inl ⟨by rfl, ?_⟩) ?_ ?_
  rotate_left
  · intro w'
    go_simp
    with_reducible rfl
  rotate_left
  · simp only [Act.put, List.setIfInBounds_toArray, List.set_cons_zero, List.set_cons_succ, i64_w, i32_w]
    rfl
  refine done_ (by kernel_rfl) ?_
  
  go_wp2_with fail
  go_ret
  have HS : w.heap.size ≤ W3.heap.size := HB3.out.size
  exact ⟨_, rfl, Kd.R_lower R5.out HS, HB3.out.trans (B5.out.mono HS)⟩
end Go.Proofs.Ytfkndnocjelhgaa.Ext
