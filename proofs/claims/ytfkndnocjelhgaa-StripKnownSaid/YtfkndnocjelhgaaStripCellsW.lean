/- encorelaw05.StripCells, walked with the plain law at hand. No condition beyond the row's own. -/
import Derived.Test.YtfkndnocjelhgaaCellsRef
import Derived.Test.YtfkndnocjelhgaaWorks5
namespace Go.Proofs.Ytfkndnocjelhgaa.Ext
open Go Go.RowKit Go.Proofs.YtfkndnocjelhgaaW.PrintWords Go.Proofs.YtfkndnocjelhgaaW.PrintLast Go.Proofs.YtfkndnocjelhgaaW.PrintMore Go.Proofs.Ytfkndnocjelhgaa.Base Go.Proofs.Ytfkndnocjelhgaa.Arr
set_option linter.unusedVariables false
set_option linter.unusedSimpArgs false

theorem stamp5_calls (w : World) (g e : Int) : Calls Try.prog 14 #[.agg #[.int .i64 g, .int .i64 e]] w fun en w' => en = .returned (.agg #[.int .i64 g, .int .i64 e]) ∧ Below w.heap.size w w' := by
  go_enter Try.func14, Try.ntmps14
  go_wp2_with fail
  exact bodyPost_ret (results_cell_row (p := 2) (ty := 31) rfl _ _ (w.heap.size + 1) 31 #[.int .i64 g, .int .i64 e] (0, 0) _ rfl (by have := HoldsRow.new (w.alloc (.cells #[.int .i64 g, .int .i64 e] 23)) 31 #[.int .i64 g, .int .i64 e]; rw [alloc_size] at this; exact this) Try.underlying31 rfl (by kernel_rfl)) rfl ⟨rfl, below_alloc (below_alloc (Below.refl _ _) _) _⟩
theorem count_same (n : Int) : ∃ r, strip_Count.f n = some r ∧ encoreref05_Count.f n = some r := by
  unfold strip_Count.f encoreref05_Count.f
  by_cases h : n < 1
  · rw [if_pos h, if_pos h]
    exact ⟨0, rfl, rfl⟩
  · rw [if_neg h, if_neg h]
    exact ⟨_, rfl, by rw [Int.add_comm]⟩
theorem cells_rows (g e : Int) (b : List Int) (r1 : List (List Int)) (r2 : Int) (h : strip_Cells.f g e b = some (r1, r2)) : (∀ r ∈ r1, r.length ≤ 64) ∧ r1.length ≤ 30000000000 := by
  unfold strip_Cells.f at h
  split at h
  · cases h; exact ⟨fun r hr => absurd hr (by simp), by simp⟩
  · split at h
    · cases h; exact ⟨fun r hr => absurd hr (by simp), by simp⟩
    · split at h
      · cases h
        refine ⟨runCells_rows _ _ _, ?_⟩
        rw [runCells_len]
        unfold pieces
        omega
      · cases h
def encorelaw05_StripCells.f (a0_0 a0_1 : Int) (l1 : List Int) (a2 : Int) : Option Bool := some true
set_option maxHeartbeats 4000000 in
set_option maxRecDepth 100000 in
theorem encorelaw05_StripCells.calls (a0_0 a0_1 : Int) (A1 : Option Addr) (c1 : Nat) (l1 : List Int) (a2 : Int) (r : Bool) (w : World) (hr1 : Kd.C (Kd.int .u8) w A1 l1.length l1) (hc1 : l1.length ≤ c1) (h : encorelaw05_StripCells.f a0_0 a0_1 l1 a2 = some r) :
    Calls Try.prog 3 #[.agg #[.int .i64 a0_0, .int .i64 a0_1], .slice A1 l1.length c1, .int .i64 a2] w fun e w' => e = .returned (.bool r) ∧ Below w.heap.size w w' := by
  cases h
  obtain ⟨q, hq⟩ : ∃ q, q = min l1.length 2000 := ⟨_, rfl⟩
  have hql : q ≤ l1.length := by omega
  have hq2 : q ≤ 2000 := by omega
  obtain ⟨b, hb⟩ : ∃ b, b = l1.take q := ⟨_, rfl⟩
  have hbl : b.length = q := by rw [hb, List.length_take]; omega
  have HB := Aside0.mk (show Kd.C (Kd.int .u8) w A1 q b by
    have := Kd.C_take hr1 hql
    rw [← hb, hbl] at this
    exact this)
  have hmin : min (l1.length : Int) 2000 = (q : Int) := by omega
  have HBL := Aside0.mk hbl
  have f0 := eq_true (show (0 : Int) ≤ (q : Int) by omega)
  have f1 := eq_true (show (q : Int) ≤ (c1 : Int) by omega)
  have f2 := eq_true (show q ≤ c1 by omega)
  have HQC := Aside0.mk (show q ≤ c1 by omega)
  have HQ2 := Aside0.mk hq2
  obtain ⟨W1, hW1⟩ : ∃ W1, W1 = w.alloc (.cells #[.int .i64 a0_0, .int .i64 a0_1] 23) := ⟨_, rfl⟩
  have P1 := Aside0.mk (show HoldsRow W1 w.heap.size 23 #[.int .i64 a0_0, .int .i64 a0_1] by rw [hW1]; exact HoldsRow.new _ _ _)
  have B1 := Aside0.mk (show Below w.heap.size w W1 by rw [hW1]; exact below_alloc (Below.refl _ _) _)
  have HW1 := Aside0.mk hW1
  clear hW1 hq hb hbl hr1 hc1 hql hq2
  go_enter Try.func3, Try.ntmps3
  go_wp2_with fail
  rw [← HW1.out]
  have hcp := encoreref00_CopyBytes.calls A1 c1 b b W1 (by rw [HBL.out]; exact Kd.C_below HB.out B1.out) (by rw [HBL.out]; exact HQC.out) (copy_eq b (by rw [HBL.out]; have := HQ2.out; omega))
  rw [HBL.out] at hcp
  refine hcp.mono ?_
  rintro e w2 ⟨v2, rfl, ho2, hb2⟩
  obtain ⟨A2, c2, rfl⟩ := Kd.R_slice ho2
  have hrd := Kd.R_reads' ho2
  have P2 := Aside0.mk (P1.out.below hb2 P1.out.lt)
  have B2 := Aside0.mk (B1.out.trans (hb2.mono B1.out.size))
  have R2 := Aside0.mk (show Kd.R (Kd.int .u8) 5 w2 W1.heap.size (fun k => k < w2.heap.size) (.slice A2 b.length c2) b from Kd.R_mono (Kd.R_bound ho2) (fun k hk => hk.2.2.1))
  have HWW := Aside0.mk (show w.heap.size ≤ w2.heap.size from (B1.out.trans (hb2.mono B1.out.size)).size)
  have RD2 := Aside0.mk hrd
  have K0 : w2.cell? ⟨w.heap.size, 0, none⟩ = some (.int .i64 a0_0) := P2.out.cell rfl
  have K1 : w2.cell? ⟨w.heap.size, 1, none⟩ = some (.int .i64 a0_1) := P2.out.cell rfl
  clear hcp ho2 hb2 hrd P1 B1 HW1
  go_wp2_with fail
  obtain ⟨kr, ⟨r1, r2⟩, href, hprog⟩ := ref_cells a0_0 a0_1 b (by rw [HBL.out]; have := HQ2.out; omega)
  have HROWS := Aside0.mk (cells_rows a0_0 a0_1 b r1 r2 hprog)
  refine (strip_Cells.calls a0_0 a0_1 A2 c2 b r1 r2 w2 RD2.out.2.2 RD2.out.2.1 hprog).mono ?_
  rintro e w3 ⟨v3, rfl, ho3, hb3⟩
  have P3 := Aside0.mk (P2.out.below hb3 P2.out.lt)
  have B3 := Aside0.mk (B2.out.trans (hb3.mono B2.out.size))
  have R3 := Aside0.mk (Kd.R_below R2.out hb3)
  have S3 := Aside0.mk ho3
  have HREF := Aside0.mk href
  have K0 : w3.cell? ⟨w.heap.size, 0, none⟩ = some (.int .i64 a0_0) := P3.out.cell rfl
  have K1 : w3.cell? ⟨w.heap.size, 1, none⟩ = some (.int .i64 a0_1) := P3.out.cell rfl
  have HS23 := Aside0.mk (show w2.heap.size ≤ w3.heap.size from hb3.size)
  clear ho3 hb3 P2 B2 R2 href hprog
  go_wp2_with fail
  refine (stamp5_calls w3 a0_0 a0_1).mono ?_
  rintro e w4 ⟨rfl, hb4⟩
  have B4 := Aside0.mk (B3.out.trans (hb4.mono B3.out.size))
  have R4 := Aside0.mk (Kd.R_below R3.out hb4)
  have S4 := Aside0.mk (Kd.S_below S3.out hb4)
  clear hb4 P3 B3 R3 S3 K0 K1
  go_wp2_with fail
  have hcr := encoreref05_Cells.calls kr a0_0 a0_1 A1 c1 b r1 r2 w4 (by rw [HBL.out]; exact Kd.C_below HB.out B4.out) (by rw [HBL.out]; exact HQC.out) HREF.out
  rw [HBL.out] at hcr
  refine hcr.mono ?_
  rintro e w5 ⟨v5, rfl, ho5, hb5⟩
  have B5 := Aside0.mk (B4.out.trans (hb5.mono B4.out.size))
  have R5 := Aside0.mk (Kd.R_below R4.out hb5)
  have S5 := Aside0.mk (Kd.S_below S4.out hb5)
  have T5 := Aside0.mk ho5
  clear hcr ho5 hb5 B4 R4 S4
  obtain ⟨A3, c3, rfl⟩ := Kd.S_slice S5.out
  obtain ⟨A5, c5, rfl⟩ := Kd.S_slice T5.out
  go_wp2_with fail
  have hs3 := Kd.S_reads' S5.out
  have hs5 := Kd.S_reads' T5.out
  refine (encoreref04_Same.calls (64 + 1 + r1.length + 1) A3 c3 r1 A5 c5 r1 true w5 hs3.2.2 hs3.2.1 hs5.2.2 hs5.2.1 (same_refl r1 64 (by decide) HROWS.out.1 (by have := HROWS.out.2; omega))).mono ?_
  rintro e w6 ⟨rfl, hd6⟩
  have hb6 := hd6.below
  have B6 := Aside0.mk (B5.out.trans (hb6.mono B5.out.size))
  have R6 := Aside0.mk (Kd.R_below R5.out hb6)
  have S6 := Aside0.mk (Kd.S_below S5.out hb6)
  clear hd6 hb6 hs3 hs5 B5 R5 S5 T5
  go_wp2_with fail
  obtain ⟨x0, hc0, hd0⟩ := count_same a2
  refine (strip_Count.calls a2 x0 w6 hc0).mono ?_
  rintro e w7 ⟨rfl, hdd⟩
  have hbb := hdd.below
  have B7 := Aside0.mk (B6.out.trans (hbb.mono B6.out.size))
  have R7 := Aside0.mk (Kd.R_below R6.out hbb)
  have S7 := Aside0.mk (Kd.S_below S6.out hbb)
  have HDC0 := Aside0.mk hd0
  clear hdd hbb hc0 hd0 B6 R6 S6
  go_wp2_with fail
  refine (encoreref05_Count.calls a2 x0 w7 HDC0.out).mono ?_
  rintro e w8 ⟨rfl, hdd⟩
  have hbb := hdd.below
  have B8 := Aside0.mk (B7.out.trans (hbb.mono B7.out.size))
  have R8 := Aside0.mk (Kd.R_below R7.out hbb)
  have S8 := Aside0.mk (Kd.S_below S7.out hbb)
  clear hdd hbb B7 R7 S7
  go_wp2_with fail
  obtain ⟨x1, hc1, hd1⟩ := count_same (q : Int)
  refine (strip_Count.calls (q : Int) x1 w8 hc1).mono ?_
  rintro e w9 ⟨rfl, hdd⟩
  have hbb := hdd.below
  have B9 := Aside0.mk (B8.out.trans (hbb.mono B8.out.size))
  have R9 := Aside0.mk (Kd.R_below R8.out hbb)
  have S9 := Aside0.mk (Kd.S_below S8.out hbb)
  have HDC1 := Aside0.mk hd1
  clear hdd hbb hc1 hd1 B8 R8 S8
  go_wp2_with fail
  refine (encoreref05_Count.calls (q : Int) x1 w9 HDC1.out).mono ?_
  rintro e w10 ⟨rfl, hdd⟩
  have hbb := hdd.below
  have B10 := Aside0.mk (B9.out.trans (hbb.mono B9.out.size))
  have R10 := Aside0.mk (Kd.R_below R9.out hbb)
  have S10 := Aside0.mk (Kd.S_below S9.out hbb)
  clear hdd hbb B9 R9 S9
  go_wp2_with fail
  -- what was answered is spoilt
  have hspoil : Calls Try.prog 18 #[.slice A3 r1.length c3] w10 fun e w' => e = .returned (.tuple #[]) ∧ Below w.heap.size w w' ∧ ∀ k, k < w2.heap.size → w'.heap[k]? = w10.heap[k]? := by
    obtain ⟨inner, hi⟩ := Kd.S_own S10.out
    rcases hi.2 with ⟨hv, -⟩ | ⟨gl, cap, cur, hv, -⟩
    · rw [hv]
      exact (spoil_nil w10).mono (by rintro e w' ⟨rfl, rfl⟩; exact ⟨rfl, B10.out, fun _ _ => rfl⟩)
    · injection hv with h1 h2 h3
      subst h1
      have hsoil := soil_of_R (Kd.S_R S10.out)
      refine (spoil_calls w w10 w.heap.size _ gl r1.length c3 B10.out (fun k hk => Nat.le_trans HWW.out hk.1) hsoil (by have := HROWS.out.2; omega)).mono ?_
      rintro e w' ⟨rfl, h4, h5, -⟩
      exact ⟨rfl, h4, fun k hk => h5 k (fun h => by have := h.1; omega)⟩
  refine hspoil.mono ?_
  rintro e w11 ⟨rfl, hb11, hk11⟩
  have B11 := Aside0.mk hb11
  have R11 := Aside0.mk (Kd.R_step R10.out (fun k hk _ => hk11 k hk))
  clear hspoil hb11 hk11 B10 R10 S10
  go_wp2_with fail
  have hR := Kd.R_reads' R11.out
  have heq := encoreref00_EqBytes.calls (b.length + 1) A2 c2 b A1 c1 b true w11 hR.2.2 hR.2.1 (by rw [HBL.out]; exact Kd.C_below HB.out B11.out) (by rw [HBL.out]; exact HQC.out) (eq_refl b (by rw [HBL.out]; have := HQ2.out; omega) _ (Nat.le_refl _))
  have hbl2 := HBL.out
  refine Calls.mono (show Calls Try.prog 19 #[.slice A2 b.length c2, .slice A1 q c1] w11 _ by rw [hbl2] at heq ⊢; exact heq) ?_
  rintro e w12 ⟨rfl, hd12⟩
  have B12 := Aside0.mk (B11.out.trans (hd12.below.mono B11.out.size))
  clear hd12 heq hR hbl2
  go_wp2_with fail
  refine (works_calls w12).mono ?_
  rintro e w13 ⟨rfl, hb13⟩
  have B13 := Aside0.mk (B12.out.trans (hb13.mono B12.out.size))
  go_wp2_with fail
  go_ret
  exact ⟨rfl, B13.out⟩
end Go.Proofs.Ytfkndnocjelhgaa.Ext
