/- encorelaw05.works, walked: it answers true. No condition. -/
import Derived.Test.YtfkndnocjelhgaaSpoil5
namespace Go.Proofs.Ytfkndnocjelhgaa.Ext
open Go Go.RowKit Go.Proofs.YtfkndnocjelhgaaW.PrintWords Go.Proofs.YtfkndnocjelhgaaW.PrintLast Go.Proofs.YtfkndnocjelhgaaW.PrintMore Go.Proofs.Ytfkndnocjelhgaa.Base Go.Proofs.Ytfkndnocjelhgaa.Arr
set_option linter.unusedVariables false
set_option linter.unusedSimpArgs false

def cw : List Int := [0, 0, 0, 1, 0, 0, 0, 2, 129, 7] ++ List.replicate 46 0 ++ [2, 0, 0, 0, 1, 0, 0, 0]
def cwT : List Int := cw.set 63 3
def st12 : Array Value := #[.int .i64 1, .int .i64 2]
theorem cw_len : cw.length = 64 := by decide +kernel
theorem cwT_len : cwT.length = 64 := by decide +kernel
theorem cw_bytes : Bytes cw := bytes_of (by decide +kernel)
theorem cwT_bytes : Bytes cwT := bytes_of (by decide +kernel)
theorem z64_bytes : Bytes z64 := bytes_of (by decide +kernel)
theorem cells_w : strip_Cells.f 1 2 [7] = some ([cw], 0) := by decide +kernel
theorem read_w : readC cw = 0 ∧ stampV cw = 4294967298 ∧ headN cw = 1 ∧ (rd cw 8).toNat = 129 := by decide +kernel
theorem read_z : readC z64 = 4 := by decide +kernel
theorem read_t : readC cwT = 3 := by decide +kernel
theorem stamp_w : stampC 4294967298 = st12 := by kernel_rfl
theorem Read_cw (w : World) (A : Option Addr) (c : Nat) (hr : Kd.C (Kd.int .u8) w A 64 cw) (hc : 64 ≤ c) :
    Calls Try.prog 23 #[.slice A 64 c] w fun e w' => ∃ gb, e = .returned (.tuple #[.agg st12, .bool true, .slice (some ⟨gb, 9, none⟩) 1 1, .int .i64 0]) ∧ HoldsRow w' gb 75 (rowK .u8 cw) ∧ w.heap.size ≤ gb ∧ Below w.heap.size w w' := by
  refine (Read_calls w A c cw hr hc cw_bytes).mono ?_
  rintro e w' ⟨-, h2, h3⟩
  obtain ⟨gb, he, hh, hg⟩ := h2 read_w.1
  rw [read_w.2.1, read_w.2.2.1, read_w.2.2.2, stamp_w] at he
  exact ⟨gb, he, hh, hg, h3⟩
theorem Read_zero (w : World) (A : Option Addr) (c : Nat) (hr : Kd.C (Kd.int .u8) w A 64 z64) (hc : 64 ≤ c) :
    Calls Try.prog 23 #[.slice A 64 c] w fun e w' => e = .returned (.tuple #[.agg s00, .bool false, .slice none 0 0, .int .i64 4]) ∧ Below w.heap.size w w' := by
  refine (Read_calls w A c z64 hr hc z64_bytes).mono ?_
  rintro e w' ⟨h1, -, h3⟩
  have he := h1 (by rw [read_z]; decide)
  rw [read_z] at he
  exact ⟨he, h3⟩
theorem Read_torn (w : World) (A : Option Addr) (c : Nat) (hr : Kd.C (Kd.int .u8) w A 64 cwT) (hc : 64 ≤ c) :
    Calls Try.prog 23 #[.slice A 64 c] w fun e w' => e = .returned (.tuple #[.agg s00, .bool false, .slice none 0 0, .int .i64 3]) ∧ Below w.heap.size w w' := by
  refine (Read_calls w A c cwT hr hc cwT_bytes).mono ?_
  rintro e w' ⟨h1, -, h3⟩
  have he := h1 (by rw [read_t]; decide)
  rw [read_t] at he
  exact ⟨he, h3⟩
theorem st12_one : st12.all (·.oneCell') = true := by decide +kernel
def z46 : List Int := List.replicate 46 0
theorem make64 (W : World) : (Instr.makeSlice 24 (.int .i64 64) (.int .i64 64)).run Try.prog W = .ok (.slice (some ⟨W.heap.size, 0, none⟩) 64 64) (W.alloc (.cells (rowK .u8 z64) 5)) := by kernel_rfl
theorem make46 (W : World) : (Instr.makeSlice 24 (.int .i64 46) (.int .i64 46)).run Try.prog W = .ok (.slice (some ⟨W.heap.size, 0, none⟩) 46 46) (W.alloc (.cells (rowK .u8 z46) 5)) := by kernel_rfl
/-- the one cell of a row of one cell -/
theorem one_cell {W : World} {base : Nat} {ok : Nat → Prop} {v : Value} {c0 : List Int} (h : Kd.S (Kd.slice 5 (Kd.int .u8)) 24 W base ok v [c0]) :
    ∃ g cap A c, v = .slice (some ⟨g, 0, none⟩) 1 cap ∧ W.cell? ⟨g, 0, none⟩ = some (.slice A c0.length c) ∧ base ≤ g ∧ g < W.heap.size ∧ Kd.R (Kd.int .u8) 5 W base (fun k => ok k ∧ k ≠ g) (.slice A c0.length c) c0 := by
  obtain ⟨g, cap, rfl, hb, hlt, -⟩ := Kd.S_form h (Nat.zero_lt_one)
  obtain ⟨cs, -, hm, hc⟩ := Kd.S_get h ([] : List Int) 0 (Int.le_refl _) (show (0 : Int) < ((1 : Nat) : Int) by decide)
  obtain ⟨v, rfl, hr⟩ := hm
  obtain ⟨A, c, rfl⟩ := Kd.R_slice hr
  have hc0 := hc 0 _ rfl
  refine ⟨g, cap, A, c, rfl, hc0, hb, hlt, Kd.R_mono hr (fun k hk => ⟨hk.1, fun e => hk.2 (by rw [e]; rfl)⟩)⟩
theorem eqb {w : World} {A0 A1 : Option Addr} {c0 c1 n : Nat} {l l' : List Int} {r : Bool} (k : Nat) (hr0 : Kd.C (Kd.int .u8) w A0 n l) (hc0 : n ≤ c0) (hr1 : Kd.C (Kd.int .u8) w A1 n l') (hc1 : n ≤ c1) (h : encoreref00_EqBytes.f k l l' = some r) :
    Calls Try.prog 19 #[.slice A0 n c0, .slice A1 n c1] w fun e w' => e = .returned (.bool r) ∧ Drawn0 w w' := by
  have e0 := hr0.1
  have e1 := hr1.1
  have := encoreref00_EqBytes.calls k A0 c0 l A1 c1 l' r w (by rw [e0]; exact hr0) (by rw [e0]; exact hc0) (by rw [e1]; exact hr1) (by rw [e1]; exact hc1) h
  rw [e0, e1] at this
  exact this
def l10 : List Int := [0, 0, 0, 1, 0, 0, 0, 2, 129, 7]
def l8 : List Int := [2, 0, 0, 0, 1, 0, 0, 0]
theorem eq12 (W : World) : (Op.equalIn 10000 23 (.agg #[.int .i64 1, .int .i64 2]) (.agg #[.int .i64 1, .int .i64 2])).run Try.prog W = .ok true W := by kernel_rfl
/-- a row of one's own, whole, as what is read -/
theorem new_C (W : World) (l : List Int) (hl : l.length ≤ 9223372036854775807) : Kd.C (Kd.int .u8) (W.alloc (.cells (rowK .u8 l) 5)) (some ⟨W.heap.size, 0, none⟩) l.length l := by
  have h := hold_C (HoldsRow.new W 5 (rowK .u8 l)) 0 l.length (by omega) hl
  rw [List.drop_zero, List.take_length] at h
  exact h
set_option maxHeartbeats 4000000 in
set_option maxRecDepth 100000 in
theorem works_calls (w : World) : Calls Try.prog 20 #[] w fun e w' => e = .returned (.bool true) ∧ Below w.heap.size w w' := by
  obtain ⟨W1, hW1⟩ : ∃ W1, W1 = w.alloc (.cells #[.int .u8 7] 5) := ⟨_, rfl⟩
  have B1 := Aside0.mk (show Below w.heap.size w W1 by rw [hW1]; exact below_alloc (Below.refl _ _) _)
  have HC1 := Aside0.mk (show Calls Try.prog 12 #[.agg #[.int .i64 1, .int .i64 2], .slice (some ⟨w.heap.size, 0, none⟩) 1 1] W1 fun e w' => ∃ v0_ : Value, e = .returned (.tuple #[v0_, .int .i64 0]) ∧ Kd.S (Kd.slice 5 (Kd.int .u8)) 24 w' W1.heap.size (fun _ => True) v0_ [cw] ∧ Below W1.heap.size W1 w' from
    strip_Cells.calls 1 2 (some ⟨w.heap.size, 0, none⟩) 1 [7] [cw] 0 W1 (by rw [hW1]; exact hold_C (b := [7]) (HoldsRow.new w _ _) 0 1 (by decide) (by decide)) (by decide) cells_w)
  have HW1 := Aside0.mk hW1
  clear hW1
  go_enter Try.func20, Try.ntmps20
  go_wp2_with fail
  rw [← HW1.out]
  refine HC1.out.mono ?_
  rintro e w2 ⟨v0, rfl, hs, hb⟩
  obtain ⟨gr, cap, A2, c2, rfl, hcell, hgb, hglt, hrow⟩ := one_cell hs
  have B2 := Aside0.mk (B1.out.trans (hb.mono B1.out.size))
  rw [cw_len] at hcell hrow
  obtain ⟨ga, ca, ea, -, -, -⟩ := Kd.R_form hrow (by rw [cw_len]; decide)
  injection ea with ea ea1 ea2
  clear ea1 ea2
  subst ea
  have R2 := Aside0.mk hrow
  clear hs hb hrow hgb
  go_wp2_with fail
  have HCr := Kd.R_reads' R2.out
  refine (Read_cw w2 (some ⟨ga, 0, none⟩) c2 HCr.2.2 (by have := HCr.2.1; omega)).mono ?_
  rintro e w3 ⟨gb, rfl, hD, hgb, hb⟩
  have B3 := Aside0.mk (B2.out.trans (hb.mono B2.out.size))
  have R3 := Aside0.mk (Kd.R_below R2.out hb)
  obtain ⟨b4, hb4⟩ : ∃ b4, b4 = w3.heap.size := ⟨_, rfl⟩
  have HNEW := Aside0.mk (show HoldsRow (w3.alloc (.cells s00 23)) b4 23 s00 by rw [hb4]; exact HoldsRow.new _ _ _)
  obtain ⟨W4, hW4⟩ : ∃ W4, W4 = (w3.alloc (.cells s00 23)).setRow b4 st12 := ⟨_, rfl⟩
  have hb5 : Below w3.heap.size w3 W4 := by rw [hW4]; exact Go.Proofs.Ytfkndnocjelhgaa.Arr.below_setRow (below_alloc (Below.refl w3.heap.size w3) _) _ (Nat.le_of_eq hb4.symm)
  have P4 := Aside0.mk (show HoldsRow W4 b4 23 st12 by rw [hW4]; exact HNEW.out.row _)
  have D4 := Aside0.mk (hD.below hb5 hD.lt)
  have B4 := Aside0.mk (B3.out.trans (hb5.mono B3.out.size))
  have R4 := Aside0.mk (Kd.R_below R3.out hb5)
  have HW4 := Aside0.mk (show W4 = (w3.alloc (.cells #[.int .i64 0, .int .i64 0] 23)).setRow w3.heap.size st12 by rw [hW4, hb4]; rfl)
  have HNEW' := Aside0.mk (show HoldsRow (w3.alloc (.cells #[.int .i64 0, .int .i64 0] 23)) w3.heap.size 23 s00 from HoldsRow.new _ _ _)
  have HB4 := Aside0.mk hb4
  clear hb hb5 hW4 hD hb4 HCr hcell hglt hgb B2 R2
  clear B3 R3 HNEW
  have hmk := make64
  go_wp2_with (refine wpList_store_row rfl 23 _ _ rfl w3.heap.size st12 rfl rfl 23 s00 HNEW'.out (by kernel_rfl) rfl st12_one ?_; rw [← HW4.out])
  clear hmk
  obtain ⟨W5, hW5⟩ : ∃ W5, W5 = W4.alloc (.cells (rowK .u8 z64) 5) := ⟨_, rfl⟩
  have hb5 : Below W4.heap.size W4 W5 := by rw [hW5]; exact below_alloc (Below.refl _ _) _
  have HZ5 := Aside0.mk (show HoldsRow W5 W4.heap.size 5 (rowK .u8 z64) by rw [hW5]; exact HoldsRow.new _ _ _)
  rw [← hW5]
  clear hW5
  have hcz := hold_C HZ5.out 0 64 (by rw [z64_len]; decide) (by rw [z64_len]; decide)
  rw [List.drop_zero, List.take_of_length_le (by rw [z64_len]; decide)] at hcz
  refine (Read_zero W5 (some ⟨W4.heap.size, 0, none⟩) 64 hcz (Nat.le_refl _)).mono ?_
  rintro e w6 ⟨rfl, hb6⟩
  have hb7 := hb5.trans (hb6.mono hb5.size)
  obtain ⟨W7, hW7⟩ : ∃ W7, W7 = (w6.alloc (.cells #[.int .i64 0, .int .i64 0] 23)).setRow w6.heap.size s00 := ⟨_, rfl⟩
  have HNEW := Aside0.mk (show HoldsRow (w6.alloc (.cells #[.int .i64 0, .int .i64 0] 23)) w6.heap.size 23 s00 from HoldsRow.new _ _ _)
  have hb8 : Below W4.heap.size W4 W7 := by rw [hW7]; exact hb7.trans ((Go.Proofs.Ytfkndnocjelhgaa.Arr.below_setRow (below_alloc (Below.refl w6.heap.size w6) _) _ (Nat.le_refl _)).mono hb7.size)
  have P7 := Aside0.mk (P4.out.below hb8 P4.out.lt)
  have D7 := Aside0.mk (D4.out.below hb8 D4.out.lt)
  have B7 := Aside0.mk (B4.out.trans (hb8.mono B4.out.size))
  have R7 := Aside0.mk (Kd.R_below R4.out hb8)
  have HW7 := Aside0.mk hW7
  clear hb5 hb6 hb7 hb8 hW7 hcz HZ5 P4 D4 B4 R4 HW4 HNEW'
  go_wp2_with (refine wpList_store_row rfl 23 _ _ rfl w6.heap.size s00 rfl rfl 23 s00 HNEW.out (by kernel_rfl) rfl s00_one ?_; rw [← HW7.out])
  have HCr := Kd.R_reads' R7.out
  have hcopy := encoreref00_CopyBytes.calls (some ⟨ga, 0, none⟩) c2 cw cw W7 (by rw [cw_len]; exact HCr.2.2) (by rw [cw_len]; have := HCr.2.1; omega) (by decide +kernel)
  rw [cw_len] at hcopy
  refine hcopy.mono ?_
  rintro e w8 ⟨v8, rfl, ho, hb⟩
  obtain ⟨gt, capt, rfl, hgt, hgtlt, -⟩ := Kd.R_form ho (by rw [cw_len]; decide)
  rw [cw_len] at ho ⊢
  obtain ⟨K8, F8⟩ := Kd.R_celln 0 ho 63 (by decide) (by decide)
  rw [show Int.toNat 63 = 63 from rfl] at K8 F8
  have HP := Kd.R_putn ho 63 3
  obtain ⟨W9, hW9⟩ : ∃ W9, W9 = w8.setCell ⟨gt, 63, none⟩ (.int .u8 3) := ⟨_, rfl⟩
  have hb9 : Below W7.heap.size W7 W9 := by rw [hW9]; exact hb.setCell (p := ⟨gt, 63, none⟩) hgt _
  have T9 := Aside0.mk (show Kd.R (Kd.int .u8) 5 W9 W7.heap.size (fun _ => True) (.slice (some ⟨gt, 0, none⟩) 64 capt) cwT by rw [hW9]; exact HP)
  have P9 := Aside0.mk (P7.out.below hb9 P7.out.lt)
  have D9 := Aside0.mk (D7.out.below hb9 D7.out.lt)
  have B9 := Aside0.mk (B7.out.trans (hb9.mono B7.out.size))
  have R9 := Aside0.mk (Kd.R_below R7.out hb9)
  have HW9 := Aside0.mk hW9
  clear HCr hcopy ho hb HP hb9 hW9 P7 D7 B7 R7 HW7 HNEW hgt hgtlt
  go_wp2_with fail
  rw [show w8.setCell { block := gt, off := 63 } (Value.int IntKind.u8 3) = W9 from HW9.out.symm]
  have HCt := Kd.R_reads' T9.out
  refine (Read_torn W9 (some ⟨gt, 0, none⟩) capt HCt.2.2 (by have := HCt.2.1; omega)).mono ?_
  rintro e w10 ⟨rfl, hb10⟩
  obtain ⟨W11, hW11⟩ : ∃ W11, W11 = (w10.alloc (.cells #[.int .i64 0, .int .i64 0] 23)).setRow w10.heap.size s00 := ⟨_, rfl⟩
  have HNEW := Aside0.mk (show HoldsRow (w10.alloc (.cells #[.int .i64 0, .int .i64 0] 23)) w10.heap.size 23 s00 from HoldsRow.new _ _ _)
  have hb11 : Below W9.heap.size W9 W11 := by rw [hW11]; exact hb10.trans ((Go.Proofs.Ytfkndnocjelhgaa.Arr.below_setRow (below_alloc (Below.refl w10.heap.size w10) _) _ (Nat.le_refl _)).mono hb10.size)
  have P11 := Aside0.mk (P9.out.below hb11 P9.out.lt)
  have D11 := Aside0.mk (D9.out.below hb11 D9.out.lt)
  have B11 := Aside0.mk (B9.out.trans (hb11.mono B9.out.size))
  have R11 := Aside0.mk (Kd.R_below R9.out hb11)
  have HW11 := Aside0.mk hW11
  clear hb10 hb11 hW11 HCt T9 P9 D9 B9 R9 HW9 K8 F8
  go_wp2_with (refine wpList_store_row rfl 23 _ _ rfl w10.heap.size s00 rfl rfl 23 s00 HNEW.out (by kernel_rfl) rfl s00_one ?_; rw [← HW11.out])
  have HCr := Kd.R_reads' R11.out
  have hc64 : 64 ≤ c2 := by have := HCr.2.1; omega
  have hCC : ∀ W q n, Below W11.heap.size W11 W → q + n ≤ 64 → Kd.C (Kd.int .u8) W (some ((⟨ga, 0, none⟩ : Addr).add q)) n ((cw.drop q).take n) := fun W q n hb hq => C_cut (Kd.C_below HCr.2.2 hb) q n hq
  have HC0 := Aside0.mk (show ∀ W, Below W11.heap.size W11 W → Kd.C (Kd.int .u8) W (some ⟨ga, 0, none⟩) 10 ((cw.drop 0).take 10) from fun W hb => hCC W 0 10 hb (by decide))
  have HC10 := Aside0.mk (show ∀ W, Below W11.heap.size W11 W → Kd.C (Kd.int .u8) W (some ⟨ga, 10, none⟩) 46 ((cw.drop 10).take 46) from fun W hb => hCC W 10 46 hb (by decide))
  have HC56 := Aside0.mk (show ∀ W, Below W11.heap.size W11 W → Kd.C (Kd.int .u8) W (some ⟨ga, 56, none⟩) 8 ((cw.drop 56).take 8) from fun W hb => hCC W 56 8 hb (by decide))
  have f0 := eq_true (show (10 : Int) ≤ (c2 : Int) by omega)
  have f1 := eq_true (show (56 : Int) ≤ (c2 : Int) by omega)
  have f2 := eq_true (show 10 ≤ c2 by omega)
  have f3 := eq_true (show 56 ≤ c2 by omega)
  have f4 := eq_false (show ¬ c2 = 10 by omega)
  have f5 := eq_false (show ¬ c2 = 56 by omega)
  have HBD := Aside0.mk (show Below W11.heap.size W11 W11.drew from below_drew (Below.refl _ _))
  have H64 := Aside0.mk hc64
  clear HCr hCC hc64
  have hmk := make46
  refine start_ (n := 17) (S := fun w' => True) (ds := []) #[false, false, false, false, false, false, false, false, false, false, false, false, false, false, false, false, false] (by kernel_rfl) rfl rfl (trivial) (fun hHeld => ?_)
  refine pure_ (i := 0) (N := some 66) (v := ?_) (a' := ?_) #[true, false, false, false, false, false, false, false, false, false, false, false, false, false, false, false, false] rfl rfl (by kernel_rfl) (fun _ _ _ h => h) (Or.inl ⟨by rfl, ?_⟩) ?_ ?_
  rotate_left
  · intro w'
    go_simp
    with_reducible rfl
  rotate_left
  · simp only [Act.put, List.setIfInBounds_toArray, List.set_cons_zero, List.set_cons_succ, i64_w, i32_w]
    rfl
  refine pure_ (i := 1) (N := some 67) (v := ?_) (a' := ?_) #[true, true, false, false, false, false, false, false, false, false, false, false, false, false, false, false, false] rfl rfl (by kernel_rfl) (fun _ _ _ h => h) (Or.inl ⟨by rfl, ?_⟩) ?_ ?_
  rotate_left
  · intro w'
    go_simp
    with_reducible rfl
  rotate_left
  · simp only [Act.put, List.setIfInBounds_toArray, List.set_cons_zero, List.set_cons_succ, i64_w, i32_w]
    rfl
  refine one_ (i := 2) (N := some 68) #[true, true, true, false, false, false, false, false, false, false, false, false, false, false, false, false, false] rfl rfl (by kernel_rfl) (by decide) (fun K hK => ?_)
  refine value_ (w1 := W11.drew.alloc (.cells (rowK .u8 l10) 5)) (v := .slice (some ⟨W11.heap.size, 0, none⟩) 10 10) (by rfl) rfl ?_ ?_
  · go_simp
    rfl
  refine hK.out _ _ (trivial) (fun hHeld => ?_)
  clear hK K
  refine norm_ (a' := ?_) ?_ ?_
  rotate_left
  · show Act.put _ (some 68) _ = _
    simp only [Act.put, List.setIfInBounds_toArray, List.set_cons_zero, List.set_cons_succ, i64_w, i32_w]
    rfl
  refine one_ (i := 3) (N := some 69) #[true, true, true, true, false, false, false, false, false, false, false, false, false, false, false, false, false] rfl rfl (by kernel_rfl) (by decide) (fun K hK => ?_)
  refine goes_ Try.func19 (by kernel_rfl) rfl #[.slice (some ⟨ga, 0, none⟩) 10 c2, .slice (some ⟨W11.heap.size, 0, none⟩) 10 10] (by rfl) rfl rfl (by simp only [List.map_toArray, List.map_cons, List.map_nil]; rfl) ?_
  with_reducible refine (eqb (A1 := some ⟨W11.heap.size, 0, none⟩) (n := 10) (c0 := c2) (c1 := 10) 100 (HC0.out _ (below_alloc HBD.out _)) (by have := H64.out; omega) (new_C W11.drew l10 (by decide)) (by decide) (show encoreref00_EqBytes.f 100 ((cw.drop 0).take 10) l10 = some true by decide +kernel)).mono ?_
  rintro e13 w13 ⟨rfl, hd⟩
  refine ⟨_, rfl, ?_⟩
  have B13 := Aside0.mk ((below_alloc HBD.out _).trans (hd.below.mono (below_alloc HBD.out _).size))
  clear hd
  refine hK.out _ _ (trivial) (fun hHeld => ?_)
  clear hK K
  refine norm_ (a' := ?_) ?_ ?_
  rotate_left
  · show Act.put _ (some 69) _ = _
    simp only [Act.put, List.setIfInBounds_toArray, List.set_cons_zero, List.set_cons_succ, i64_w, i32_w]
    rfl
  refine pure_ (i := 4) (N := some 70) (v := ?_) (a' := ?_) #[true, true, true, true, true, false, false, false, false, false, false, false, false, false, false, false, false] rfl rfl (by kernel_rfl) (fun _ _ _ h => h) (Or.inl ⟨by rfl, ?_⟩) ?_ ?_
  rotate_left
  · intro w'
    go_simp
    with_reducible rfl
  rotate_left
  · simp only [Act.put, List.setIfInBounds_toArray, List.set_cons_zero, List.set_cons_succ, i64_w, i32_w]
    rfl
  refine pure_ (i := 5) (N := some 71) (v := ?_) (a' := ?_) #[true, true, true, true, true, true, false, false, false, false, false, false, false, false, false, false, false] rfl rfl (by kernel_rfl) (fun _ _ _ h => h) (Or.inl ⟨by rfl, ?_⟩) ?_ ?_
  rotate_left
  · intro w'
    go_simp
    with_reducible rfl
  rotate_left
  · simp only [Act.put, List.setIfInBounds_toArray, List.set_cons_zero, List.set_cons_succ, i64_w, i32_w]
    rfl
  refine pure_ (i := 6) (N := some 72) (v := ?_) (a' := ?_) #[true, true, true, true, true, true, true, false, false, false, false, false, false, false, false, false, false] rfl rfl (by kernel_rfl) (fun _ _ _ h => h) (Or.inl ⟨by rfl, ?_⟩) ?_ ?_
  rotate_left
  · intro w'
    go_simp
    with_reducible rfl
  rotate_left
  · simp only [Act.put, List.setIfInBounds_toArray, List.set_cons_zero, List.set_cons_succ, i64_w, i32_w]
    rfl
  refine one_ (i := 7) (N := some 73) #[true, true, true, true, true, true, true, true, false, false, false, false, false, false, false, false, false] rfl rfl (by kernel_rfl) (by decide) (fun K hK => ?_)
  refine value_ (w1 := w13.alloc (.cells (rowK .u8 z46) 5)) (v := .slice (some ⟨w13.heap.size, 0, none⟩) 46 46) (by rfl) rfl ?_ ?_
  · go_simp
  refine hK.out _ _ (trivial) (fun hHeld => ?_)
  clear hK K
  refine norm_ (a' := ?_) ?_ ?_
  rotate_left
  · show Act.put _ (some 73) _ = _
    simp only [Act.put, List.setIfInBounds_toArray, List.set_cons_zero, List.set_cons_succ, i64_w, i32_w]
    rfl
  refine one_ (i := 8) (N := some 74) #[true, true, true, true, true, true, true, true, true, false, false, false, false, false, false, false, false] rfl rfl (by kernel_rfl) (by decide) (fun K hK => ?_)
  refine goes_ Try.func19 (by kernel_rfl) rfl #[.slice (some ⟨ga, 10, none⟩) 46 (c2 - 10), .slice (some ⟨w13.heap.size, 0, none⟩) 46 46] (by rfl) rfl rfl (by simp only [List.map_toArray, List.map_cons, List.map_nil]; rfl) ?_
  with_reducible refine (eqb (A1 := some ⟨w13.heap.size, 0, none⟩) (n := 46) (c0 := c2 - 10) (c1 := 46) 100 (HC10.out _ (below_alloc B13.out _)) (by have := H64.out; omega) (new_C w13 z46 (by decide)) (by decide) (show encoreref00_EqBytes.f 100 ((cw.drop 10).take 46) z46 = some true by decide +kernel)).mono ?_
  rintro e14 w14 ⟨rfl, hd⟩
  refine ⟨_, rfl, ?_⟩
  have B14 := Aside0.mk ((below_alloc B13.out _).trans (hd.below.mono (below_alloc B13.out _).size))
  clear hd
  refine hK.out _ _ (trivial) (fun hHeld => ?_)
  clear hK K
  refine norm_ (a' := ?_) ?_ ?_
  rotate_left
  · show Act.put _ (some 74) _ = _
    simp only [Act.put, List.setIfInBounds_toArray, List.set_cons_zero, List.set_cons_succ, i64_w, i32_w]
    rfl
  refine pure_ (i := 9) (N := some 75) (v := ?_) (a' := ?_) #[true, true, true, true, true, true, true, true, true, true, false, false, false, false, false, false, false] rfl rfl (by kernel_rfl) (fun _ _ _ h => h) (Or.inl ⟨by rfl, ?_⟩) ?_ ?_
  rotate_left
  · intro w'
    go_simp
    with_reducible rfl
  rotate_left
  · simp only [Act.put, List.setIfInBounds_toArray, List.set_cons_zero, List.set_cons_succ, i64_w, i32_w]
    rfl
  refine pure_ (i := 10) (N := some 76) (v := ?_) (a' := ?_) #[true, true, true, true, true, true, true, true, true, true, true, false, false, false, false, false, false] rfl rfl (by kernel_rfl) (fun _ _ _ h => h) (Or.inl ⟨by rfl, ?_⟩) ?_ ?_
  rotate_left
  · intro w'
    go_simp
    with_reducible rfl
  rotate_left
  · simp only [Act.put, List.setIfInBounds_toArray, List.set_cons_zero, List.set_cons_succ, i64_w, i32_w]
    rfl
  refine pure_ (i := 11) (N := some 77) (v := ?_) (a' := ?_) #[true, true, true, true, true, true, true, true, true, true, true, true, false, false, false, false, false] rfl rfl (by kernel_rfl) (fun _ _ _ h => h) (Or.inl ⟨by rfl, ?_⟩) ?_ ?_
  rotate_left
  · intro w'
    go_simp
    with_reducible rfl
  rotate_left
  · simp only [Act.put, List.setIfInBounds_toArray, List.set_cons_zero, List.set_cons_succ, i64_w, i32_w]
    rfl
  refine pure_ (i := 12) (N := some 78) (v := ?_) (a' := ?_) #[true, true, true, true, true, true, true, true, true, true, true, true, true, false, false, false, false] rfl rfl (by kernel_rfl) (fun _ _ _ h => h) (Or.inl ⟨by rfl, ?_⟩) ?_ ?_
  rotate_left
  · intro w'
    go_simp
    with_reducible rfl
  rotate_left
  · simp only [Act.put, List.setIfInBounds_toArray, List.set_cons_zero, List.set_cons_succ, i64_w, i32_w]
    rfl
  refine one_ (i := 13) (N := some 79) #[true, true, true, true, true, true, true, true, true, true, true, true, true, true, false, false, false] rfl rfl (by kernel_rfl) (by decide) (fun K hK => ?_)
  refine value_ (w1 := w14.alloc (.cells (rowK .u8 l8) 5)) (v := .slice (some ⟨w14.heap.size, 0, none⟩) 8 8) (by rfl) rfl ?_ ?_
  · go_simp
    rfl
  refine hK.out _ _ (trivial) (fun hHeld => ?_)
  clear hK K
  refine norm_ (a' := ?_) ?_ ?_
  rotate_left
  · show Act.put _ (some 79) _ = _
    simp only [Act.put, List.setIfInBounds_toArray, List.set_cons_zero, List.set_cons_succ, i64_w, i32_w]
    rfl
  refine one_ (i := 14) (N := some 80) #[true, true, true, true, true, true, true, true, true, true, true, true, true, true, true, false, false] rfl rfl (by kernel_rfl) (by decide) (fun K hK => ?_)
  refine goes_ Try.func19 (by kernel_rfl) rfl #[.slice (some ⟨ga, 56, none⟩) 8 (c2 - 56), .slice (some ⟨w14.heap.size, 0, none⟩) 8 8] (by rfl) rfl rfl (by simp only [List.map_toArray, List.map_cons, List.map_nil]; rfl) ?_
  with_reducible refine (eqb (A1 := some ⟨w14.heap.size, 0, none⟩) (n := 8) (c0 := c2 - 56) (c1 := 8) 100 (HC56.out _ (below_alloc B14.out _)) (by have := H64.out; omega) (new_C w14 l8 (by decide)) (by decide) (show encoreref00_EqBytes.f 100 ((cw.drop 56).take 8) l8 = some true by decide +kernel)).mono ?_
  rintro e15 w15 ⟨rfl, hd⟩
  refine ⟨_, rfl, ?_⟩
  have B15 := Aside0.mk ((below_alloc B14.out _).trans (hd.below.mono (below_alloc B14.out _).size))
  clear hd
  refine hK.out _ _ (trivial) (fun hHeld => ?_)
  clear hK K
  refine norm_ (a' := ?_) ?_ ?_
  rotate_left
  · show Act.put _ (some 80) _ = _
    simp only [Act.put, List.setIfInBounds_toArray, List.set_cons_zero, List.set_cons_succ, i64_w, i32_w]
    rfl
  refine pure_ (i := 15) (N := some 81) (v := ?_) (a' := ?_) #[true, true, true, true, true, true, true, true, true, true, true, true, true, true, true, true, false] rfl rfl (by kernel_rfl) (fun _ _ _ h => h) (Or.inl ⟨by rfl, ?_⟩) ?_ ?_
  rotate_left
  · intro w'
    go_simp
    with_reducible rfl
  rotate_left
  · simp only [Act.put, List.setIfInBounds_toArray, List.set_cons_zero, List.set_cons_succ, i64_w, i32_w]
    rfl
  refine pure_ (i := 16) (N := some 17) (v := ?_) (a' := ?_) #[true, true, true, true, true, true, true, true, true, true, true, true, true, true, true, true, true] rfl rfl (by kernel_rfl) (fun _ _ _ h => h) (Or.inl ⟨by rfl, ?_⟩) ?_ ?_
  rotate_left
  · intro w'
    go_simp
    with_reducible rfl
  rotate_left
  · simp only [Act.put, List.setIfInBounds_toArray, List.set_cons_zero, List.set_cons_succ, i64_w, i32_w]
    rfl
  refine done_ (by kernel_rfl) ?_
  
  have P15 := Aside0.mk (show HoldsRow w15 w3.heap.size 23 st12 by rw [← HB4.out]; exact P11.out.below B15.out P11.out.lt)
  have D15 := Aside0.mk (D11.out.below B15.out D11.out.lt)
  have B16 := Aside0.mk (B11.out.trans (B15.out.mono B11.out.size))
  have heq := eq12
  clear hmk hHeld f0 f1 f2 f3 f4 f5 P11 D11 B11 R11 HC0 HC10 HC56 B13 B14 B15 HBD
  have K0 : w15.cell? ⟨w3.heap.size, 0, none⟩ = some (.int .i64 1) := P15.out.cell rfl
  have K1 : w15.cell? ⟨w3.heap.size, 1, none⟩ = some (.int .i64 2) := P15.out.cell rfl
  go_wp2_with fail
  obtain ⟨W17, hW17⟩ : ∃ W17, W17 = w15.alloc (.cells #[.int .u8 7] 5) := ⟨_, rfl⟩
  have B17 := Aside0.mk (show Below w.heap.size w W17 by rw [hW17]; exact below_alloc B16.out _)
  have HE := Aside0.mk (show Calls Try.prog 19 #[.slice (some ⟨gb, 9, none⟩) 1 1, .slice (some ⟨w15.heap.size, 0, none⟩) 1 1] W17 fun e w' => e = .returned (.bool true) ∧ Drawn0 W17 w' from by
    have hb : Below w15.heap.size w15 W17 := by rw [hW17]; exact below_alloc (Below.refl _ _) _
    exact eqb (n := 1) 100 (hold_C (D15.out.below hb D15.out.lt) 9 1 (by rw [cw_len]; decide) (by rw [cw_len]; decide)) (Nat.le_refl _) (by rw [hW17]; exact new_C w15 [7] (by decide)) (Nat.le_refl _) (by decide +kernel))
  rw [← hW17]
  clear hW17 P15 D15 B16
  refine HE.out.mono ?_
  rintro e w18 ⟨rfl, hd⟩
  have B18 := Aside0.mk (B17.out.trans (hd.below.mono B17.out.size))
  clear hd HE B17
  go_wp2_with fail
  refine (strip_Count.calls 0 0 w18 (by decide +kernel)).mono ?_
  rintro e w19 ⟨rfl, hd⟩
  have B19 := Aside0.mk (B18.out.trans (hd.below.mono B18.out.size))
  clear hd B18
  go_wp2_with fail
  refine (strip_Count.calls 47 1 w19 (by decide +kernel)).mono ?_
  rintro e w20 ⟨rfl, hd⟩
  have B20 := Aside0.mk (B19.out.trans (hd.below.mono B19.out.size))
  clear hd B19
  go_wp2_with fail
  refine (strip_Count.calls 48 2 w20 (by decide +kernel)).mono ?_
  rintro e w21 ⟨rfl, hd⟩
  have B21 := Aside0.mk (B20.out.trans (hd.below.mono B20.out.size))
  clear hd B20
  go_wp2_with fail
  go_ret
  exact ⟨rfl, B21.out⟩
end Go.Proofs.Ytfkndnocjelhgaa.Ext
namespace Go.Proofs.Ytfkndnocjelhgaa.Ext
open Go Go.RowKit Go.Proofs.YtfkndnocjelhgaaW.PrintWords
def encorelaw05_works.f : Option Bool := some true
theorem encorelaw05_works.calls (r : Bool) (w : World) (h : encorelaw05_works.f = some r) : Calls Try.prog 20 #[] w fun e w' => e = .returned (.bool r) ∧ Below w.heap.size w w' := by
  cases h
  exact works_calls w
end Go.Proofs.Ytfkndnocjelhgaa.Ext
