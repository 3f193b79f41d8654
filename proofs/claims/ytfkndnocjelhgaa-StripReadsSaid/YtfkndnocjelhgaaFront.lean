/- strip.Front, walked. No condition beyond the row's own; bytes are bytes. -/
import Derived.Test.YtfkndnocjelhgaaParts
namespace Go.Proofs.Ytfkndnocjelhgaa.Ext
open Go Go.RowKit Go.Proofs.YtfkndnocjelhgaaW.PrintWords Go.Proofs.YtfkndnocjelhgaaW.PrintLast Go.Proofs.YtfkndnocjelhgaaW.PrintMore Go.Proofs.Ytfkndnocjelhgaa.Base Go.Proofs.Ytfkndnocjelhgaa.Arr
set_option linter.unusedVariables false
set_option linter.unusedSimpArgs false

def s00 : Array Value := #[.int .i64 0, .int .i64 0]
theorem s00_one : s00.all (·.oneCell') = true := by simp [s00, Value.oneCell']
set_option maxHeartbeats 4000000 in
set_option maxRecDepth 100000 in
theorem Front_none (w : World) (A : Option Addr) (c : Nat) (n : Nat) (hn : n ≠ 64) (hm : n ≤ 9223372036854775807) :
    Calls Try.prog 21 #[.slice A n c] w fun e w' => e = .returned (.tuple #[.agg s00, .int .i64 2]) ∧ Below w.heap.size w w' := by
  have hz := zero_cell
  have HNM := Aside0.mk (show n ≠ 64 ∧ n ≤ 9223372036854775807 from ⟨hn, hm⟩)
  have hsz : (rowK .u8 z64).size = 64 := by rw [rowK_size, z64_len]
  clear hn hm
  go_enter Try.func21, Try.ntmps21
  go_wp2_with fail
  obtain ⟨W1, hW1⟩ : ∃ W1, W1 = w.alloc (.cells #[.int .i64 0, .int .i64 0] 23) := ⟨_, rfl⟩
  have P1 := Aside0.mk (show HoldsRow W1 w.heap.size 23 s00 by rw [hW1]; exact HoldsRow.new _ _ _)
  have B1 := Aside0.mk (show Below w.heap.size w W1 by rw [hW1]; exact below_alloc (Below.refl _ _) _)
  rw [← hW1]
  clear hW1
  ((with_reducible refine (parts_none W1 A c n HNM.out.1 HNM.out.2).mono ?_))
  rintro e w2 ⟨rfl, hb⟩
  have P2 := Aside0.mk (P1.out.below hb P1.out.lt)
  have B2 := Aside0.mk (B1.out.trans (hb.mono B1.out.size))
  have HNEW := Aside0.mk (HoldsRow.new w2 75 (rowK .u8 z64))
  obtain ⟨W3, hW3⟩ : ∃ W3, W3 = (w2.alloc (.cells (rowK .u8 z64) 75)).setRow w2.heap.size (rowK .u8 z64) := ⟨_, rfl⟩
  have hb3 : Below w2.heap.size w2 W3 := by rw [hW3]; exact Go.Proofs.Ytfkndnocjelhgaa.Arr.below_setRow (below_alloc (Below.refl w2.heap.size w2) (.cells (rowK .u8 z64) 75)) _ (Nat.le_refl _)
  have P3 := Aside0.mk (P2.out.below hb3 P2.out.lt)
  have B3 := Aside0.mk (B2.out.trans (hb3.mono B2.out.size))
  have HW3 := Aside0.mk hW3
  clear hb P1 B1 P2 B2 hb3 hW3
  go_wp2_with (first | (refine wpList_store_row rfl 75 _ _ rfl w2.heap.size (rowK .u8 z64) rfl rfl 75 (rowK .u8 z64) HNEW.out (by rw [hsz]; kernel_rfl) rfl (rowK_one _ _) ?_; rw [← HW3.out]) | (refine wpList_store_row rfl 23 _ _ rfl w.heap.size s00 rfl rfl 23 s00 P3.out (by kernel_rfl) rfl s00_one ?_))
  exact bodyPost_ret (results_cell2 (p := 2) (q := 3) (ty := 23) rfl _ _ w.heap.size s00 rfl (run_loadVar_row _ w.heap.size 23 23 s00 (0, 0) _ (P3.out.row _) Try.underlying23 rfl (by kernel_rfl))) rfl ⟨rfl, Go.Proofs.Ytfkndnocjelhgaa.Arr.below_setRow B3.out _ (Nat.le_refl _)⟩
theorem Bytes.take {l : List Int} (h : Bytes l) (n : Nat) : Bytes (l.take n) := fun x hx => h x (List.mem_of_mem_take hx)
set_option maxHeartbeats 4000000 in
set_option maxRecDepth 100000 in
theorem Front_calls (w : World) (A : Option Addr) (c : Nat) (b : List Int) (hr : Kd.C (Kd.int .u8) w A 64 b) (hc : 64 ≤ c) (hbb : Bytes b) :
    Calls Try.prog 21 #[.slice A 64 c] w fun e w' => e = .returned (.tuple #[.agg (stampC (valN (b.take 8) 8)), .int .i64 0]) ∧ Below w.heap.size w w' := by
  have hz := zero_cell
  have HR := Aside0.mk hr
  have HC := Aside0.mk hc
  have HB := Aside0.mk hbb
  have HB64 := Aside0.mk hr.1
  have hsz : (rowK .u8 b).size = 64 := by rw [rowK_size, hr.1]
  have hszz : (rowK .u8 z64).size = 64 := by rw [rowK_size, z64_len]
  have hsz2 : (stampC (valN (b.take 8) 8)).size = 2 := rfl
  clear hr hc hbb
  go_enter Try.func21, Try.ntmps21
  go_wp2_with fail
  obtain ⟨W1, hW1⟩ : ∃ W1, W1 = w.alloc (.cells #[.int .i64 0, .int .i64 0] 23) := ⟨_, rfl⟩
  have P1 := Aside0.mk (show HoldsRow W1 w.heap.size 23 s00 by rw [hW1]; exact HoldsRow.new _ _ _)
  have B1 := Aside0.mk (show Below w.heap.size w W1 by rw [hW1]; exact below_alloc (Below.refl _ _) _)
  rw [← hW1]
  clear hW1
  ((with_reducible refine (parts_calls W1 A c b (Kd.C_below HR.out B1.out) HC.out).mono ?_))
  rintro e w2 ⟨rfl, hb⟩
  have P2 := Aside0.mk (P1.out.below hb P1.out.lt)
  have B2 := Aside0.mk (B1.out.trans (hb.mono B1.out.size))
  have HNEW := Aside0.mk (HoldsRow.new w2 75 (rowK .u8 z64))
  obtain ⟨W3, hW3⟩ : ∃ W3, W3 = (w2.alloc (.cells (rowK .u8 z64) 75)).setRow w2.heap.size (rowK .u8 b) := ⟨_, rfl⟩
  have hb3 : Below w2.heap.size w2 W3 := by rw [hW3]; exact Go.Proofs.Ytfkndnocjelhgaa.Arr.below_setRow (below_alloc (Below.refl w2.heap.size w2) (.cells (rowK .u8 z64) 75)) _ (Nat.le_refl _)
  have P3 := Aside0.mk (P2.out.below hb3 P2.out.lt)
  have B3 := Aside0.mk (B2.out.trans (hb3.mono B2.out.size))
  have R3 := Aside0.mk (show HoldsRow W3 w2.heap.size 75 (rowK .u8 b) by rw [hW3]; exact HNEW.out.row _)
  have HW3 := Aside0.mk hW3
  have HCL := Aside0.mk (show ∀ j v, (nums .u8 (b.take 8))[j]? = some v → W3.cell? ((⟨w2.heap.size, 0, none⟩ : Addr).add j) = some v from fun j v hv => by
    have := R3.out.cell (j := j) (v := v) (by have := take_cell hv; unfold rowK; simpa using this)
    unfold Addr.add
    split
    · rename_i e; rw [e] at this; exact this
    · rw [Nat.zero_add]; exact this)
  clear hb P1 B1 P2 B2 hb3 hW3
  go_wp2_with (first | (refine wpList_store_row rfl 75 _ _ rfl w2.heap.size (rowK .u8 b) rfl rfl 75 (rowK .u8 z64) HNEW.out (by rw [hsz]; kernel_rfl) (by rw [hsz, hszz]) (rowK_one _ _) ?_; rw [← HW3.out]) | (refine wpList_load_at rfl 71 (.tmp 14) rfl ⟨w2.heap.size, 0, none⟩ rfl (nums .u8 (b.take 8)) _ HCL.out Try.underlying71 rfl (by rw [nums_length, List.length_take, HB64.out]; kernel_rfl) ?_))
  rw [nums_rowK]
  have hl8 : (b.take 8).length = 8 := by rw [List.length_take, HB64.out]; rfl
  have HB8 := HB.out.take 8
  ((with_reducible refine (stamp_calls W3 (b.take 8) hl8 HB8).mono ?_))
  rintro e w4 ⟨rfl, hb⟩
  have P4 := Aside0.mk (P3.out.below hb P3.out.lt)
  have B4 := Aside0.mk (B3.out.trans (hb.mono B3.out.size))
  clear hb P3 B3 R3 HW3 HCL HNEW
  go_wp2_with (first | (refine wpList_store_row rfl 23 _ _ rfl w.heap.size (stampC (valN (b.take 8) 8)) rfl rfl 23 s00 P4.out (by rw [hsz2]; kernel_rfl) rfl (stamp_one _) ?_))
  exact bodyPost_ret (results_cell2 (p := 2) (q := 3) (ty := 23) rfl _ _ w.heap.size (stampC (valN (b.take 8) 8)) rfl (run_loadVar_row _ w.heap.size 23 23 (stampC (valN (b.take 8) 8)) (0, 0) _ (P4.out.row _) Try.underlying23 rfl (by rw [hsz2]; kernel_rfl))) rfl ⟨rfl, Go.Proofs.Ytfkndnocjelhgaa.Arr.below_setRow B4.out _ (Nat.le_refl _)⟩
end Go.Proofs.Ytfkndnocjelhgaa.Ext
