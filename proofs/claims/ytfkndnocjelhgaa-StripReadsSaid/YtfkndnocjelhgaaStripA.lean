/- The stamps of strip, as bytes and back, walked. Condition: a stamp of two numbers of 32 bits. -/
import Derived.Test.YtfkndnocjelhgaaMidG
namespace Go.Proofs.Ytfkndnocjelhgaa.Ext
open Go Go.RowKit Go.Proofs.YtfkndnocjelhgaaW.PrintWords Go.Proofs.YtfkndnocjelhgaaW.PrintLast Go.Proofs.YtfkndnocjelhgaaW.PrintMore Go.Proofs.Ytfkndnocjelhgaa.Base Go.Proofs.Ytfkndnocjelhgaa.Arr
set_option linter.unusedVariables false
set_option linter.unusedSimpArgs false

theorem hr_move {W W1 : World} {b : Nat} {t : TypeId} {cs : Array Value} (h : HoldsRow W b t cs) (hm : W1.heap[b]? = W.heap[b]?) : HoldsRow W1 b t cs := hm.trans h
theorem u64_small (n : Int) (h0 : 0 ≤ n) (h : n < 18446744073709551616) : IntKind.u64.wrap n = n := by
  simp only [IntKind.wrap]
  simp [IntKind.bits, IntKind.signed]
  omega
theorem ofInt_nat64 (n : Nat) (h : n < 18446744073709551616) : (BitVec.ofInt 64 (n : Int)).toNat = n := by
  rw [BitVec.toNat_ofInt]
  omega
theorem or64 (a b : Nat) (ha : a < 18446744073709551616) (hb : b < 18446744073709551616) : bits .or .u64 (a : Int) (b : Int) = ((a ||| b : Nat) : Int) := by
  show IntKind.u64.wrap ((BitVec.ofInt 64 (a : Int) ||| BitVec.ofInt 64 (b : Int)).toNat : Int) = _
  have h := (BitVec.ofInt 64 (a : Int) ||| BitVec.ofInt 64 (b : Int)).isLt
  rw [u64_small _ (by omega) (by omega), BitVec.toNat_or, ofInt_nat64 a ha, ofInt_nat64 b hb]
theorem or_hi (k a b : Nat) (hb : b < 2 ^ k) : (a * 2 ^ k) ||| b = a * 2 ^ k + b := by
  rw [← Nat.shiftLeft_eq, Nat.shiftLeft_add_eq_or_of_lt hb]
theorem shr_nat (k : IntKind) (v e : Nat) (he : e ≤ k.bits) : shr k (v : Int) (e : Int) = ((v / 2 ^ e : Nat) : Int) := by
  unfold shr
  simp only [Int.toNat_natCast]
  rw [Nat.min_eq_left he]
  simp
theorem alloc_size (w : World) (o : Obj) : (w.alloc o).heap.size = w.heap.size + 1 := by
  show (w.heap.push o).size = _
  exact Array.size_push _
/-- a stamp's number -/
def stampN (g e : Nat) : Nat := g * 4294967296 + e
def edgeB (v i : Nat) : Int := (v : Int) / 2 ^ (8 * (7 - i)) % 256
/-- its bytes -/
def edgeL (v : Nat) : List Int := (List.range 8).map (edgeB v)
theorem stamp_or (g e : Nat) (hg : g < 4294967296) (he : e < 4294967296) : bits .or .u64 (IntKind.u64.wrap ((g : Int) * 4294967296)) (e : Int) = (stampN g e : Int) := by
  rw [u64_small _ (by omega) (by omega)]
  have : ((g : Int) * 4294967296) = ((g * 2 ^ 32 : Nat) : Int) := by omega
  rw [this, or64 _ _ (by omega) (by omega), or_hi 32 g e (by omega)]
  unfold stampN
  omega
def edgeTo (v n : Nat) : List Int := (List.range 8).map fun i => if i < n then edgeB v i else 0
theorem edge_set (v n : Nat) (hn : n < 8) : (edgeTo v n).set n (edgeB v n) = edgeTo v (n + 1) := by
  apply List.ext_getElem?
  intro i
  unfold edgeTo
  by_cases h : i = n
  · subst h
    rw [List.getElem?_set_self (by simpa using hn)]
    simp [List.getElem?_map, List.getElem?_range hn]
  · rw [List.getElem?_set_ne (fun e => h e.symm)]
    simp only [List.getElem?_map]
    by_cases hi : i < 8
    · rw [List.getElem?_range hi]
      simp only [Option.map_some]
      by_cases h2 : i < n
      · rw [if_pos h2, if_pos (by omega)]
      · rw [if_neg h2, if_neg (by omega)]
    · rw [List.getElem?_eq_none (by simp; omega)]; rfl
theorem edge_zero (v : Nat) : edgeTo v 0 = [0, 0, 0, 0, 0, 0, 0, 0] := rfl
theorem edge_eight (v : Nat) : edgeTo v 8 = edgeL v := rfl
theorem edge_len (v n : Nat) : (edgeTo v n).length = 8 := by simp [edgeTo]
set_option maxHeartbeats 4000000 in
set_option maxRecDepth 100000 in
theorem edge_calls (w : World) (g e : Nat) (hg : g < 4294967296) (he : e < 4294967296) :
    Calls Try.prog 32 #[.agg #[.int .i64 (g : Int), .int .i64 (e : Int)]] w fun en w' => en = .returned (.agg (rowK .u8 (edgeL (stampN g e)))) ∧ Below w.heap.size w w' := by
  have HV := Aside0.mk (stamp_or g e hg he)
  have HG := Aside0.mk hg
  have HE := Aside0.mk he
  have hvl : stampN g e < 18446744073709551616 := by unfold stampN; omega
  have HVL := Aside0.mk hvl
  have ug := u64_small (g : Int) (by omega) (by omega)
  have ue := u64_small (e : Int) (by omega) (by omega)
  clear hg he hvl
  go_enter Try.func32, Try.ntmps32
  go_wp2_with fail
  rw [HV.out]
  obtain ⟨b2, hb2⟩ : ∃ b2, b2 = w.heap.size + 1 := ⟨_, rfl⟩
  have HB2 := Aside0.mk hb2
  rw [← hb2]
  clear hb2
  go_loopw [13] (fun i wr => ∃ (j : Nat), j ≤ 8 ∧ i = .int .i64 (j : Nat) ∧ Aside0 (HoldsRow wr b2 71 (rowK .u8 (edgeTo (stampN g e) j))) ∧ Aside0 (Below w.heap.size w wr)) (fun i _ => 8 - (intOf i).toNat)
  case atStart =>
    refine ⟨0, by omega, rfl, ⟨?_⟩, ⟨below_alloc (below_alloc (Below.refl _ _) _) _⟩⟩
    have e : b2 = (w.alloc (.cells #[.int .i64 (g : Int), .int .i64 (e : Int)] 23)).heap.size := by rw [HB2.out, alloc_size]
    rw [e]
    exact HoldsRow.new _ _ _
  case round =>
    obtain ⟨j, hj, rfl, R, B⟩ := hrel
    by_cases hlt : j < 8
    · have d1 : decide ((j : Int) < 8) = true := decide_eq_true (by omega)
      have b0 := eq_true (show (0 : Int) ≤ (j : Int) by omega)
      have b1 := eq_true (show (j : Int) < 8 by omega)
      have hc := R.out.cell (j := j) (rowK_get _ _ j (by rw [edge_len]; exact hlt))
      have hf := R.out.free j
      go_wp2_with fail
      have h1 := R.out.set j (.int .u8 (edgeB (stampN g e) j))
      rw [rowK_set, edge_set _ _ hlt] at h1
      refine ⟨⟨j + 1, by omega, by go_num, ⟨h1⟩, ⟨B.out.setCell (show w.heap.size ≤ b2 by have := HB2.out; omega) _⟩⟩, by simp [intOf]; omega⟩
    · obtain rfl : j = 8 := by omega
      have d1 : decide (((8 : Nat) : Int) < 8) = false := rfl
      rw [show ((8 : Nat) : Int) = 8 from rfl]
      have R8 := Aside0.mk (show HoldsRow wr b2 71 (rowK .u8 (edgeL (stampN g e))) from R.out)
      have hsz : (rowK .u8 (edgeL (stampN g e))).size = 8 := by rw [rowK_size]; rfl
      have HBW := Aside0.mk (show w.heap.size ≤ b2 by have := HB2.out; omega)
      clear d1 R
      go_wp2_with (first | (refine wpList_load_row rfl 71 (.tmp 2) rfl b2 rfl 71 (rowK .u8 (edgeL (stampN g e))) (0, 0) _ R8.out Try.underlying71 rfl (by rw [hsz]; kernel_rfl) ?_) | (refine wpList_store_row rfl 71 _ _ rfl b2 (rowK .u8 (edgeL (stampN g e))) rfl rfl 71 (rowK .u8 (edgeL (stampN g e))) R8.out (by rw [hsz]; kernel_rfl) rfl (rowK_one _ _) ?_))
      exact bodyPost_ret (results_cell_row (p := 2) (ty := 71) rfl _ _ b2 71 (rowK .u8 (edgeL (stampN g e))) (0, 0) _ rfl (R8.out.row _) Try.underlying71 rfl (by rw [hsz]; kernel_rfl)) rfl ⟨rfl, Go.Proofs.Ytfkndnocjelhgaa.Arr.below_setRow B.out _ HBW.out⟩
end Go.Proofs.Ytfkndnocjelhgaa.Ext
