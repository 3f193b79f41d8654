/- slices.Reverse of eight bytes; an edge turned. No condition. -/
import Derived.Great.Walk
import Derived.Test.YtfkndnocjelhgaaStripA
namespace Go.Proofs.Ytfkndnocjelhgaa.Ext
open Go Go.RowKit Go.Proofs.YtfkndnocjelhgaaW.PrintWords Go.Proofs.YtfkndnocjelhgaaW.PrintLast Go.Proofs.YtfkndnocjelhgaaW.PrintMore Go.Proofs.Ytfkndnocjelhgaa.Base Go.Proofs.Ytfkndnocjelhgaa.Arr
set_option linter.unusedVariables false
set_option linter.unusedSimpArgs false

/-- the first k and the last k of eight are turned -/
def revTo (l : List Int) (k : Nat) : List Int := (List.range 8).map fun i => if i < k ∨ 8 ≤ i + k then rd l ((7 - i : Nat) : Int) else rd l (i : Int)
theorem rev_len (l : List Int) (k : Nat) : (revTo l k).length = 8 := by simp [revTo]
theorem rev_get (l : List Int) (k i : Nat) (hi : i < 8) : rd (revTo l k) (i : Int) = if i < k ∨ 8 ≤ i + k then rd l ((7 - i : Nat) : Int) else rd l (i : Int) := by
  unfold revTo
  show (List.map _ _).getD (i : Int).toNat 0 = _
  rw [Int.toNat_natCast, List.getD_eq_getElem?_getD, List.getElem?_map, List.getElem?_range hi]
  rfl
theorem rd_nat (l : List Int) (i : Nat) : rd l (i : Int) = l.getD i 0 := by unfold rd; rw [Int.toNat_natCast]
theorem rev_step (l : List Int) (k j : Nat) (hk : k + j = 7) (hlt : k < j) : ((revTo l k).set k (rd (revTo l k) (j : Int))).set j (rd (revTo l k) (k : Int)) = revTo l (k + 1) := by
  apply List.ext_getElem?
  intro i
  by_cases hi : i < 8
  · have hr : (revTo l (k + 1))[i]? = some (rd (revTo l (k + 1)) (i : Int)) := by
      rw [rd_nat, List.getD_eq_getElem?_getD, List.getElem?_eq_getElem (by rw [rev_len]; exact hi)]; rfl
    rw [hr, rev_get l (k + 1) i hi]
    by_cases h1 : i = j
    · subst h1
      rw [List.getElem?_set_self (by rw [List.length_set, rev_len]; exact hi), rev_get l k k (by omega), if_neg (by omega), if_pos (by omega)]
      congr 3; omega
    · rw [List.getElem?_set_ne (fun e => h1 e.symm)]
      by_cases h2 : i = k
      · subst h2
        rw [List.getElem?_set_self (by rw [rev_len]; exact hi), rev_get l i j (by omega), if_neg (by omega), if_pos (by omega)]
        congr 3; omega
      · rw [List.getElem?_set_ne (fun e => h2 e.symm)]
        have hr2 : (revTo l k)[i]? = some (rd (revTo l k) (i : Int)) := by
          rw [rd_nat, List.getD_eq_getElem?_getD, List.getElem?_eq_getElem (by rw [rev_len]; exact hi)]; rfl
        rw [hr2, rev_get l k i hi]
        by_cases h3 : i < k ∨ 8 ≤ i + k
        · rw [if_pos h3, if_pos (by omega)]
        · rw [if_neg h3, if_neg (by omega)]
  · rw [List.getElem?_eq_none (by simp [rev_len]; omega), List.getElem?_eq_none (by rw [rev_len]; omega)]
theorem rev_zero (l : List Int) (hl : l.length = 8) : revTo l 0 = l := by
  apply List.ext_getElem?
  intro i
  by_cases hi : i < 8
  · have hr2 : (revTo l 0)[i]? = some (rd (revTo l 0) (i : Int)) := by
      rw [rd_nat, List.getD_eq_getElem?_getD, List.getElem?_eq_getElem (by rw [rev_len]; exact hi)]; rfl
    rw [hr2, rev_get l 0 i hi, if_neg (by omega), rd_nat, List.getD_eq_getElem?_getD, List.getElem?_eq_getElem (by omega)]; rfl
  · rw [List.getElem?_eq_none (by rw [rev_len]; omega), List.getElem?_eq_none (by omega)]
theorem rev_four (l : List Int) (hl : l.length = 8) : revTo l 4 = l.reverse := by
  apply List.ext_getElem?
  intro i
  by_cases hi : i < 8
  · have hr2 : (revTo l 4)[i]? = some (rd (revTo l 4) (i : Int)) := by
      rw [rd_nat, List.getD_eq_getElem?_getD, List.getElem?_eq_getElem (by rw [rev_len]; exact hi)]; rfl
    rw [hr2, rev_get l 4 i hi, if_pos (by omega), List.getElem?_reverse (by omega), rd_nat, List.getD_eq_getElem?_getD, hl, List.getElem?_eq_getElem (by omega)]
    simp
  · rw [List.getElem?_eq_none (by rw [rev_len]; omega), List.getElem?_eq_none (by simp; omega)]
set_option maxHeartbeats 4000000 in
set_option maxRecDepth 100000 in
theorem Reverse_calls (w : World) (b : Nat) (l : List Int) (hl : l.length = 8) (h : HoldsRow w b 71 (rowK .u8 l)) :
    Calls Try.prog 41 #[.slice (some ⟨b, 0, none⟩) 8 8] w fun en w' => en = .returned (.tuple #[]) ∧ HoldsRow w' b 71 (rowK .u8 l.reverse) ∧ Below b w w' ∧ ∀ k, k ≠ b → w'.heap[k]? = w.heap[k]? := by
  have H0 := Aside0.mk (show HoldsRow w b 71 (rowK .u8 (revTo l 0)) by rw [rev_zero l hl]; exact h)
  have HL := Aside0.mk hl
  clear h hl
  go_enter Try.func41, Try.ntmps41
  go_wp2_with fail
  go_loopw [2, 3] (fun i j wr => ∃ (k : Nat), k ≤ 4 ∧ i = .int .i64 (k : Nat) ∧ j = .int .i64 (7 - (k : Int)) ∧ Aside0 (HoldsRow wr b 71 (rowK .u8 (revTo l k))) ∧ Aside0 (Below b w wr ∧ ∀ q, q ≠ b → wr.heap[q]? = w.heap[q]?)) (fun i _ _ => 8 - (intOf i).toNat)
  case atStart => exact ⟨0, by omega, rfl, rfl, H0, ⟨Below.refl _ _, fun _ _ => rfl⟩⟩
  case round =>
    obtain ⟨k, hk, rfl, rfl, R, B⟩ := hrel
    by_cases hlt : k < 4
    · obtain ⟨j, hj⟩ : ∃ j, k + j = 7 := ⟨7 - k, by omega⟩
      rw [show (7 - (k : Int)) = (j : Int) by omega]
      have d1 : decide ((k : Int) < (j : Int)) = true := decide_eq_true (by omega)
      have d2 : decide (k < j) = true := decide_eq_true (by omega)
      have b0 := eq_true (show (0 : Int) ≤ (k : Int) by omega)
      have b1 := eq_true (show (k : Int) < 8 by omega)
      have b2 := eq_true (show (0 : Int) ≤ (j : Int) by omega)
      have b3 := eq_true (show (j : Int) < 8 by omega)
      have hc1 := R.out.cell (j := k) (rowK_get _ _ k (by rw [rev_len]; omega))
      have hc2 := R.out.cell (j := j) (rowK_get _ _ j (by rw [rev_len]; omega))
      have hf1 := R.out.free k
      have hf2 := R.out.free j
      have hne : k ≠ j := by omega
      have hne2 : j ≠ k := by omega
      go_wp2_with fail
      go_region
      go_wp2_with fail
      have h1 := (R.out.set k (.int .u8 (rd (revTo l k) (j : Int)))).set j (.int .u8 (rd (revTo l k) (k : Int)))
      rw [rowK_set, rowK_set, rev_step l k j hj (by omega)] at h1
      have hb := ((B.out.1.setCell (p := ⟨b, k, none⟩) (Nat.le_refl _) (.int .u8 (rd (revTo l k) (j : Int)))).setCell (p := ⟨b, j, none⟩) (Nat.le_refl _) (.int .u8 (rd (revTo l k) (k : Int))))
      refine ⟨⟨k + 1, by omega, by go_num, ?_, ⟨h1⟩, ⟨below_drew hb, fun q hq => ?_⟩⟩, by simp [intOf]; omega⟩
      · congr 1; omega
      · exact ((Below.heap_setCell _ ⟨b, j, none⟩ _ q hq).trans (Below.heap_setCell _ ⟨b, k, none⟩ _ q hq)).trans (B.out.2 q hq)
    · obtain rfl : k = 4 := by omega
      rw [show (7 - ((4 : Nat) : Int)) = 3 from rfl, show ((4 : Nat) : Int) = 4 from rfl]
      have R4 := Aside0.mk (show HoldsRow wr b 71 (rowK .u8 l.reverse) by rw [← rev_four l HL.out]; exact R.out)
      go_wp2_with fail
      exact Go.Great.bodyPost_end0 rfl rfl ⟨rfl, R4.out, B.out.1, B.out.2⟩
set_option maxHeartbeats 4000000 in
set_option maxRecDepth 100000 in
theorem turned_calls (w : World) (l : List Int) (hl : l.length = 8) :
    Calls Try.prog 33 #[.agg (rowK .u8 l)] w fun en w' => en = .returned (.agg (rowK .u8 l.reverse)) ∧ Below w.heap.size w w' := by
  have HL := Aside0.mk hl
  have hsz : (rowK .u8 l).size = 8 := by rw [rowK_size]; exact hl
  have hsz2 : (rowK .u8 l.reverse).size = 8 := by rw [rowK_size, List.length_reverse]; exact hl
  have HZ := Aside0.mk hsz
  have HZ2 := Aside0.mk hsz2
  clear hl hsz hsz2
  go_enter Try.func33, Try.ntmps33
  go_wp2_with fail
  obtain ⟨b1, hb1⟩ : ∃ b1, b1 = w.heap.size := ⟨_, rfl⟩
  obtain ⟨b2, hb2⟩ : ∃ b2, b2 = w.heap.size + 1 := ⟨_, rfl⟩
  obtain ⟨W1, hW1⟩ : ∃ W1 : World, W1 = (w.alloc (.cells (rowK .u8 l) 71)).alloc (.cells #[.int .u8 0, .int .u8 0, .int .u8 0, .int .u8 0, .int .u8 0, .int .u8 0, .int .u8 0, .int .u8 0] 71) := ⟨_, rfl⟩
  have P1 := Aside0.mk (show HoldsRow W1 b1 71 (rowK .u8 l) by rw [hW1, hb1]; exact (HoldsRow.new w _ _).alloc _)
  have P2 := Aside0.mk (show HoldsRow W1 b2 71 (rowK .u8 [0, 0, 0, 0, 0, 0, 0, 0]) by
    have e : b2 = (w.alloc (.cells (rowK .u8 l) 71)).heap.size := by rw [hb2, alloc_size]
    rw [hW1, e]; exact HoldsRow.new _ _ _)
  have B1 := Aside0.mk (show Below w.heap.size w W1 by rw [hW1]; exact below_alloc (below_alloc (Below.refl _ _) _) _)
  have HBB := Aside0.mk (show b1 = w.heap.size ∧ b2 = w.heap.size + 1 from ⟨hb1, hb2⟩)
  rw [← hW1, ← hb2, ← hb1]
  clear hW1 hb1 hb2
  ((with_reducible refine (Reverse_calls W1 b1 l HL.out P1.out).mono ?_))
  rintro en w2 ⟨rfl, h1, h2, h3⟩
  have R1 := Aside0.mk h1
  have R2 := Aside0.mk (hr_move P2.out (h3 b2 (by have := HBB.out; omega)))
  have B2 := Aside0.mk (B1.out.trans (h2.mono (by have := HBB.out; omega)))
  have HW := Aside0.mk (show w.heap.size ≤ b2 by have := HBB.out; omega)
  clear h1 h2 h3 P1 P2 B1
  go_wp2_with (first | (refine wpList_load_row rfl 71 (.tmp 1) rfl b1 rfl 71 (rowK .u8 l.reverse) (0, 0) _ R1.out Try.underlying71 rfl (by rw [HZ2.out]; kernel_rfl) ?_) | (refine wpList_store_row rfl 71 _ _ rfl b2 (rowK .u8 l.reverse) rfl rfl 71 (rowK .u8 [0, 0, 0, 0, 0, 0, 0, 0]) R2.out (by rw [HZ2.out]; kernel_rfl) (by rw [HZ2.out]; rfl) (rowK_one _ _) ?_))
  exact bodyPost_ret (results_cell_row (p := 2) (ty := 71) rfl _ _ b2 71 (rowK .u8 l.reverse) (0, 0) _ rfl (R2.out.row _) Try.underlying71 rfl (by rw [HZ2.out]; kernel_rfl)) rfl ⟨rfl, Go.Proofs.Ytfkndnocjelhgaa.Arr.below_setRow B2.out _ HW.out⟩
/-- each is a byte -/
def Bytes (l : List Int) : Prop := ∀ x ∈ l, 0 ≤ x ∧ x < 256
theorem Bytes.at_ {l : List Int} (h : Bytes l) (i : Nat) : 0 ≤ rd l (i : Int) ∧ rd l (i : Int) < 256 := by
  rw [rd_nat, List.getD_eq_getElem?_getD]
  cases hx : l[i]? with
  | none => simp
  | some x => exact h x (List.mem_of_getElem? hx)
/-- the number of the first j bytes -/
def valN (l : List Int) : Nat → Nat
  | 0 => 0
  | j + 1 => valN l j * 256 + (rd l (j : Int)).toNat
theorem val_lt {l : List Int} (h : Bytes l) : ∀ j, valN l j < 256 ^ j
  | 0 => by simp [valN]
  | j + 1 => by
    have h1 := val_lt h j
    have h2 := h.at_ j
    have h3 : (rd l (j : Int)).toNat < 256 := by omega
    show valN l j * 256 + _ < 256 ^ (j + 1)
    rw [Nat.pow_succ]
    generalize 256 ^ j = q at *
    omega
theorem val_or {l : List Int} (h : Bytes l) (j : Nat) (hj : j < 8) : bits .or .u64 (IntKind.u64.wrap ((valN l j : Int) * 256)) (rd l (j : Int)) = (valN l (j + 1) : Int) := by
  have h1 := val_lt h j
  have h2 := h.at_ j
  have h4 : 256 ^ j ≤ 256 ^ 7 := Nat.pow_le_pow_right (by decide) (by omega)
  have h5 : (256 : Nat) ^ 7 = 72057594037927936 := by decide
  rw [h5] at h4
  have h3 : (rd l (j : Int)).toNat < 256 := by omega
  rw [u64_small _ (by omega) (by omega)]
  have e1 : ((valN l j : Int) * 256) = ((valN l j * 2 ^ 8 : Nat) : Int) := by omega
  have e2 : rd l (j : Int) = ((rd l (j : Int)).toNat : Int) := by omega
  rw [e1, e2, or64 _ _ (by omega) (by omega), or_hi 8 _ _ (by omega)]
  show _ = ((valN l j * 256 + _ : Nat) : Int)
  omega
def stampC (v : Nat) : Array Value := #[.int .i64 ((v : Int) / 4294967296), .int .i64 ((v : Int) % 4294967296)]
theorem stamp_one (v : Nat) : (stampC v).all (·.oneCell') = true := by simp [stampC, Value.oneCell']
theorem and_lo (v : Nat) (hv : v < 18446744073709551616) : bits .and .u64 (v : Int) 4294967295 = ((v % 4294967296 : Nat) : Int) := by
  show IntKind.u64.wrap ((BitVec.ofInt 64 (v : Int) &&& BitVec.ofInt 64 4294967295).toNat : Int) = _
  have e : (BitVec.ofInt 64 4294967295).toNat = 2 ^ 32 - 1 := by decide
  rw [BitVec.toNat_and, ofInt_nat64 v hv, e, Nat.and_two_pow_sub_one_eq_mod]
  rw [u64_small _ (by omega) (by omega)]
theorem run_index_edge (w : World) (l : List Int) (hl : l.length = 8) (j : Nat) (hj : j < 8) : (Instr.index 71 (.agg (rowK .u8 l)) (.int .i64 (j : Int))).run Try.prog w = .ok (.int .u8 (rd l (j : Int))) w := by
  have h1 : (0 : Int) ≤ (j : Int) ∧ (j : Int) < 8 := by omega
  have h2 := rowK_get .u8 l j (by omega)
  simp [Instr.index, asIntOf, run_underlying Try.underlying71, h1, go_sem]
  rw [if_pos hj, h2]; rfl
set_option maxHeartbeats 4000000 in
set_option maxRecDepth 100000 in
theorem stamp_calls (w : World) (l : List Int) (hl : l.length = 8) (hb : Bytes l) :
    Calls Try.prog 38 #[.agg (rowK .u8 l)] w fun en w' => en = .returned (.agg (stampC (valN l 8))) ∧ Below w.heap.size w w' := by
  have HL := Aside0.mk hl
  have HB := Aside0.mk hb
  have hsz : (rowK .u8 l).size = 8 := by rw [rowK_size]; exact hl
  have HZ := Aside0.mk hsz
  have hvl : valN l 8 < 18446744073709551616 := by have := val_lt hb 8; have e : (256 : Nat) ^ 8 = 18446744073709551616 := by decide
                                                   omega
  have HVL := Aside0.mk hvl
  clear hl hsz hb hvl
  go_enter Try.func38, Try.ntmps38
  obtain ⟨b1, hb1⟩ : ∃ b1, b1 = w.heap.size := ⟨_, rfl⟩
  obtain ⟨W1, hW1⟩ : ∃ W1 : World, W1 = (w.alloc (.cells (rowK .u8 l) 71)).alloc (.cells #[.int .i64 0, .int .i64 0] 23) := ⟨_, rfl⟩
  have P1 := Aside0.mk (show HoldsRow W1 w.heap.size 71 (rowK .u8 l) by rw [hW1]; exact (HoldsRow.new w _ _).alloc _)
  have P1' := Aside0.mk (show HoldsRow ((w.alloc (.cells (rowK .u8 l) 71)).alloc (.cells #[.int .i64 0, .int .i64 0] 23)) w.heap.size 71 (rowK .u8 l) from (HoldsRow.new w _ _).alloc _)
  go_wp2_with (first | (refine wpList_load_row rfl 71 (.tmp 1) rfl w.heap.size rfl 71 (rowK .u8 l) (0, 0) _ P1'.out Try.underlying71 rfl (by rw [HZ.out]; kernel_rfl) ?_))
  have P2 := Aside0.mk (show HoldsRow W1 (w.heap.size + 1) 23 #[.int .i64 0, .int .i64 0] by
    have e : w.heap.size + 1 = (w.alloc (.cells (rowK .u8 l) 71)).heap.size := by rw [alloc_size]
    rw [hW1, e]; exact HoldsRow.new _ _ _)
  have B1 := Aside0.mk (show Below w.heap.size w W1 by rw [hW1]; exact below_alloc (below_alloc (Below.refl _ _) _) _)
  rw [← hW1]
  clear P1' P1 hW1 hb1
  go_loopw [3, 7] (fun v i wr => ∃ (j : Nat), j ≤ 8 ∧ v = .int .u64 (valN l j : Int) ∧ i = .int .i64 (j : Nat) ∧ wr = W1) (fun _ i _ => 8 - (intOf i).toNat)
  case atStart => exact ⟨0, by omega, rfl, rfl, rfl⟩
  case round =>
    obtain ⟨j, hj, rfl, rfl, rfl⟩ := hrel
    by_cases hlt : j < 8
    · have d1 : decide ((j : Int) < 8) = true := decide_eq_true (by omega)
      have b0 := eq_true (show (0 : Int) ≤ (j : Int) by omega)
      have b1 := eq_true (show (j : Int) < 8 by omega)
      have hidx := run_index_edge wr l HL.out j hlt
      have hx := HB.out.at_ j
      have ux := u64_small (rd l (j : Int)) hx.1 (by omega)
      have hor := val_or HB.out j hlt
      clear hx
      go_wp2_with fail
      exact ⟨⟨j + 1, by omega, by rw [← hor, Int.mul_comm], by go_num, by first | rfl | trivial⟩, by simp [intOf]; omega⟩
    · obtain rfl : j = 8 := by omega
      have d1 : decide (((8 : Nat) : Int) < 8) = false := rfl
      rw [show ((8 : Nat) : Int) = 8 from rfl]
      have hand := and_lo (valN l 8) HVL.out
      have hsz2 : (stampC (valN l 8)).size = 2 := rfl
      have huw : wrap64 ((valN l 8 : Int) / 4294967296) = (valN l 8 : Int) / 4294967296 := by unfold wrap64; have := HVL.out; omega
      have HW := Aside0.mk (show w.heap.size ≤ w.heap.size + 1 by omega)
      clear d1
      go_wp2_with (first | (refine wpList_store_row rfl 23 _ _ rfl (w.heap.size + 1) (stampC (valN l 8)) rfl rfl 23 #[.int .i64 0, .int .i64 0] P2.out (by rw [hsz2]; kernel_rfl) rfl (stamp_one _) ?_))
      exact bodyPost_ret (results_cell_row (p := 2) (ty := 23) rfl _ _ (w.heap.size + 1) 23 (stampC (valN l 8)) (0, 0) _ rfl (P2.out.row _) Try.underlying23 rfl (by rw [hsz2]; kernel_rfl)) rfl ⟨rfl, Go.Proofs.Ytfkndnocjelhgaa.Arr.below_setRow B1.out _ HW.out⟩
end Go.Proofs.Ytfkndnocjelhgaa.Ext
