/- encorelaw05.StripReads, walked with the plain law at hand. Condition: bytes are bytes. -/
import Derived.Test.YtfkndnocjelhgaaReadRef
namespace Go.Proofs.Ytfkndnocjelhgaa.Ext
open Go Go.RowKit Go.Proofs.YtfkndnocjelhgaaW.PrintWords Go.Proofs.YtfkndnocjelhgaaW.PrintLast Go.Proofs.YtfkndnocjelhgaaW.PrintMore Go.Proofs.Ytfkndnocjelhgaa.Base Go.Proofs.Ytfkndnocjelhgaa.Arr
set_option linter.unusedVariables false
set_option linter.unusedSimpArgs false

theorem eq_st (x y : Int) (W : World) : (Op.equalIn 10000 31 (.agg #[.int .i64 x, .int .i64 y]) (.agg #[.int .i64 x, .int .i64 y])).run Try.prog W = .ok true W := by
  go_simp
theorem soil_data {W : World} {base : Nat} {A : Option Addr} {l : List Int} (h : DataAt W base (.slice A l.length l.length) l) (hl : l.length ≤ 47) : Soil (W.alloc (.cells #[.slice A l.length l.length] 24)) (fun k => base ≤ k ∧ k < W.heap.size) W.heap.size 1 := by
  refine ⟨fun hk => by have := hk.2; omega, fun i hi => ?_⟩
  obtain rfl : i = 0 := by omega
  refine ⟨A, l.length, l.length, by omega, Nat.le_refl _, (HoldsRow.new W 24 #[.slice A l.length l.length]).cell rfl, fun h0 => ?_⟩
  rcases h with ⟨_, rfl⟩ | ⟨gb, b, h1, h2, h3, h4, h5, h6⟩
  · exact absurd h0 (by decide)
  · injection h1 with h1 _ _
    subst h1
    have h2' : HoldsRow (W.alloc (.cells #[.slice (some ⟨gb, 9, none⟩) l.length l.length] 24)) gb 75 (rowK .u8 b) := h2.alloc _
    exact ⟨gb, 9, rfl, ⟨h3, h2.lt⟩, fun j hj => ⟨⟨_, h2'.cell (rowK_get .u8 b (9 + j) (by omega))⟩, h2'.free _⟩⟩
def encorelaw05_StripReads.f (l0 : List Int) : Option Bool := if bytesB l0 = true ∧ l0.length < 140737488355328 then some true else none
set_option maxHeartbeats 4000000 in
set_option maxRecDepth 100000 in
theorem encorelaw05_StripReads.calls (A0 : Option Addr) (c0 : Nat) (l0 : List Int) (r : Bool) (w : World) (hr0 : Kd.C (Kd.int .u8) w A0 l0.length l0) (hc0 : l0.length ≤ c0) (h : encorelaw05_StripReads.f l0 = some r) :
    Calls Try.prog 4 #[.slice A0 l0.length c0] w fun e w' => e = .returned (.bool r) ∧ Below w.heap.size w w' := by
  unfold encorelaw05_StripReads.f at h
  split at h
  case isFalse => cases h
  case isTrue hbl =>
  cases h
  have HBB := Aside0.mk (bytes_of hbl.1)
  have HLL := Aside0.mk hbl.2
  have HR0 := Aside0.mk hr0
  have HC0 := Aside0.mk hc0
  clear hbl hr0 hc0
  go_enter Try.func4, Try.ntmps4
  go_wp2_with fail
  refine (encoreref00_CopyBytes.calls A0 c0 l0 l0 w HR0.out HC0.out (copy_eq l0 HLL.out)).mono ?_
  rintro e w2 ⟨v2, rfl, ho2, hb2⟩
  obtain ⟨A2, c2, rfl⟩ := Kd.R_slice ho2
  have R2 := Aside0.mk (show Kd.R (Kd.int .u8) 5 w2 w.heap.size (fun k => k < w2.heap.size) (.slice A2 l0.length c2) l0 from Kd.R_mono (Kd.R_bound ho2) (fun k hk => hk.2.2.1))
  have B2 := Aside0.mk hb2
  have HWW := Aside0.mk (show w.heap.size ≤ w2.heap.size from hb2.size)
  clear ho2 hb2
  go_wp2_with fail
  obtain ⟨f1, f2, f3, hff, hfe⟩ : ∃ f1 f2 f3, strip_Front.f l0 = some (f1, f2, f3) ∧ encoreref05_Front.f l0 = some (f1, f2, f3) := by
    have h1 := ref_front l0 HBB.out
    unfold strip_Front.f
    by_cases hl : l0.length = 64
    · rw [if_pos hl] at h1
      exact ⟨_, _, _, by rw [if_pos hl, if_pos (bytes_to HBB.out)], h1⟩
    · rw [if_neg hl] at h1
      exact ⟨_, _, _, by rw [if_neg hl], h1⟩
  have HFE := Aside0.mk hfe
  have hrd := Kd.R_reads' R2.out
  refine (strip_Front.calls A2 c2 l0 f1 f2 f3 w2 hrd.2.2 hrd.2.1 hff).mono ?_
  rintro e w3 ⟨rfl, hb3⟩
  have B3 := Aside0.mk (B2.out.trans (hb3.mono B2.out.size))
  have R3 := Aside0.mk (Kd.R_below R2.out hb3)
  have HS23 := Aside0.mk (show w2.heap.size ≤ w3.heap.size from hb3.size)
  have HNEW := Aside0.mk (show HoldsRow (w3.alloc (.cells #[.int .i64 0, .int .i64 0] 23)) w3.heap.size 23 s00 from HoldsRow.new _ _ _)
  obtain ⟨g4, hg4⟩ : ∃ g4, g4 = w3.heap.size := ⟨_, rfl⟩
  obtain ⟨W4, hW4⟩ : ∃ W4, W4 = (w3.alloc (.cells #[.int .i64 0, .int .i64 0] 23)).setRow w3.heap.size #[.int .i64 f1, .int .i64 f2] := ⟨_, rfl⟩
  have hb4 : Below w3.heap.size w3 W4 := by rw [hW4]; exact Go.Proofs.Ytfkndnocjelhgaa.Arr.below_setRow (below_alloc (Below.refl w3.heap.size w3) _) _ (Nat.le_refl _)
  have P4 := Aside0.mk (show HoldsRow W4 g4 23 #[.int .i64 f1, .int .i64 f2] by rw [hW4, hg4]; exact HNEW.out.row _)
  have B4 := Aside0.mk (B3.out.trans (hb4.mono B3.out.size))
  have R4 := Aside0.mk (Kd.R_below R3.out hb4)
  have HW4 := Aside0.mk hW4
  have HS34 := Aside0.mk (show w2.heap.size ≤ W4.heap.size from Nat.le_trans hb3.size hb4.size)
  have HG4 := Aside0.mk hg4
  clear hrd hff hfe hb3 hb4 hW4 hg4 B2 R2 B3 R3
  go_wp2_with (refine wpList_store_row rfl 23 _ _ rfl w3.heap.size #[.int .i64 f1, .int .i64 f2] rfl rfl 23 s00 HNEW.out (by kernel_rfl) rfl (by simp [Value.oneCell']) ?_; rw [← HW4.out])
  have Pg4_W4 := P4
  have B_W4 := B4
  have R_W4 := R4
  clear P4 B4 R4
  refine (encoreref05_Front.calls A0 c0 l0 f1 f2 f3 W4 (Kd.C_below HR0.out B_W4.out) HC0.out HFE.out).mono ?_
  rintro e w5 ⟨rfl, hb5⟩
  have Pg4_w5 := Aside0.mk (Pg4_W4.out.below hb5 Pg4_W4.out.lt)
  have B_w5 := Aside0.mk (B_W4.out.trans (hb5.mono B_W4.out.size))
  have R_w5 := Aside0.mk (Kd.R_below R_W4.out hb5)
  clear Pg4_W4 B_W4 R_W4
  have HNEWW6 := Aside0.mk (show HoldsRow (w5.alloc (.cells #[.int .i64 0, .int .i64 0] 31)) w5.heap.size 31 s00 from HoldsRow.new _ _ _)
  obtain ⟨g6, hg6⟩ : ∃ g6, g6 = w5.heap.size := ⟨_, rfl⟩
  obtain ⟨W6, hW6⟩ : ∃ W6, W6 = (w5.alloc (.cells #[.int .i64 0, .int .i64 0] 31)).setRow w5.heap.size #[.int .i64 f1, .int .i64 f2] := ⟨_, rfl⟩
  have hbW6 : Below w5.heap.size w5 W6 := by rw [hW6]; exact Go.Proofs.Ytfkndnocjelhgaa.Arr.below_setRow (below_alloc (Below.refl w5.heap.size w5) _) _ (Nat.le_refl _)
  have HGg6 := Aside0.mk hg6
  have Pg6 := Aside0.mk (show HoldsRow W6 g6 31 #[.int .i64 f1, .int .i64 f2] by rw [hW6, hg6]; exact HNEWW6.out.row _)
  have HW6 := Aside0.mk hW6
  have Pg4_W6 := Aside0.mk (Pg4_w5.out.below hbW6 Pg4_w5.out.lt)
  have B_W6 := Aside0.mk (B_w5.out.trans (hbW6.mono B_w5.out.size))
  have R_W6 := Aside0.mk (Kd.R_below R_w5.out hbW6)
  clear Pg4_w5 B_w5 R_w5
  have HSW6 := Aside0.mk (show w2.heap.size ≤ W6.heap.size from Nat.le_trans HS34.out (Nat.le_trans hb5.size hbW6.size))
  have Pg6_W6 := Pg6
  clear Pg6 hb5 hbW6 hW6 hg6
  go_wp2_with (refine wpList_store_row rfl 31 _ _ rfl w5.heap.size #[.int .i64 f1, .int .i64 f2] rfl rfl 31 s00 HNEWW6.out (by kernel_rfl) rfl (by simp [Value.oneCell']) ?_; rw [← HW6.out])
  obtain ⟨s1, s2, bg, dat, er, hT⟩ : ∃ s1 s2 bg dat er, readT l0 = (s1, s2, bg, dat, er) := ⟨_, _, _, _, _, rfl⟩
  have hrd := Kd.R_reads' R_W6.out
  have hread := Read_T W6 A2 c2 l0 hrd.2.2 hrd.2.1 HBB.out
  have hdl := readT_err l0
  rw [hT] at hread hdl
  have HDL := Aside0.mk (show dat.length ≤ 47 from hdl)
  refine hread.mono ?_
  rintro e w7 ⟨v3, rfl, hD, hb7⟩
  have HS67 := Aside0.mk (show w2.heap.size ≤ W6.heap.size from HSW6.out)
  have D_w7 := Aside0.mk (show DataAt w7 W6.heap.size v3 dat from hD)
  have HT := Aside0.mk hT
  have Pg4_w7 := Aside0.mk (Pg4_W6.out.below hb7 Pg4_W6.out.lt)
  have Pg6_w7 := Aside0.mk (Pg6_W6.out.below hb7 Pg6_W6.out.lt)
  have B_w7 := Aside0.mk (B_W6.out.trans (hb7.mono B_W6.out.size))
  have R_w7 := Aside0.mk (Kd.R_below R_W6.out hb7)
  clear Pg4_W6 Pg6_W6 B_W6 R_W6
  have HNEWW8 := Aside0.mk (show HoldsRow (w7.alloc (.cells #[.int .i64 0, .int .i64 0] 23)) w7.heap.size 23 s00 from HoldsRow.new _ _ _)
  obtain ⟨g8, hg8⟩ : ∃ g8, g8 = w7.heap.size := ⟨_, rfl⟩
  obtain ⟨W8, hW8⟩ : ∃ W8, W8 = (w7.alloc (.cells #[.int .i64 0, .int .i64 0] 23)).setRow w7.heap.size #[.int .i64 s1, .int .i64 s2] := ⟨_, rfl⟩
  have hbW8 : Below w7.heap.size w7 W8 := by rw [hW8]; exact Go.Proofs.Ytfkndnocjelhgaa.Arr.below_setRow (below_alloc (Below.refl w7.heap.size w7) _) _ (Nat.le_refl _)
  have HGg8 := Aside0.mk hg8
  have Pg8 := Aside0.mk (show HoldsRow W8 g8 23 #[.int .i64 s1, .int .i64 s2] by rw [hW8, hg8]; exact HNEWW8.out.row _)
  have HW8 := Aside0.mk hW8
  have Pg4_W8 := Aside0.mk (Pg4_w7.out.below hbW8 Pg4_w7.out.lt)
  have Pg6_W8 := Aside0.mk (Pg6_w7.out.below hbW8 Pg6_w7.out.lt)
  have B_W8 := Aside0.mk (B_w7.out.trans (hbW8.mono B_w7.out.size))
  have R_W8 := Aside0.mk (Kd.R_below R_w7.out hbW8)
  have D_W8 := Aside0.mk (D_w7.out.below hbW8)
  clear Pg4_w7 Pg6_w7 B_w7 R_w7 D_w7
  have Pg8_W8 := Pg8
  clear Pg8 hb7 hbW8 hW8 hg8 hrd hread hdl hD hT
  go_wp2_with (refine wpList_store_row rfl 23 _ _ rfl w7.heap.size #[.int .i64 s1, .int .i64 s2] rfl rfl 23 s00 HNEWW8.out (by kernel_rfl) rfl (by simp [Value.oneCell']) ?_; rw [← HW8.out])
  obtain ⟨kr, href⟩ := ref_read l0 HBB.out
  rw [HT.out] at href
  refine (encoreref05_Read.calls kr A0 c0 l0 s1 s2 bg dat er W8 (Kd.C_below HR0.out B_W8.out) HC0.out href).mono ?_
  rintro e w9 ⟨v4, rfl, ho9, hb9⟩
  have Q_w9 := Aside0.mk ho9
  have Pg4_w9 := Aside0.mk (Pg4_W8.out.below hb9 Pg4_W8.out.lt)
  have Pg6_w9 := Aside0.mk (Pg6_W8.out.below hb9 Pg6_W8.out.lt)
  have Pg8_w9 := Aside0.mk (Pg8_W8.out.below hb9 Pg8_W8.out.lt)
  have B_w9 := Aside0.mk (B_W8.out.trans (hb9.mono B_W8.out.size))
  have R_w9 := Aside0.mk (Kd.R_below R_W8.out hb9)
  have D_w9 := Aside0.mk (D_W8.out.below hb9)
  clear Pg4_W8 Pg6_W8 Pg8_W8 B_W8 R_W8 D_W8
  have HNEWW10 := Aside0.mk (show HoldsRow (w9.alloc (.cells #[.int .i64 0, .int .i64 0] 31)) w9.heap.size 31 s00 from HoldsRow.new _ _ _)
  obtain ⟨g12, hg12⟩ : ∃ g12, g12 = w9.heap.size := ⟨_, rfl⟩
  obtain ⟨W10, hW10⟩ : ∃ W10, W10 = (w9.alloc (.cells #[.int .i64 0, .int .i64 0] 31)).setRow w9.heap.size #[.int .i64 s1, .int .i64 s2] := ⟨_, rfl⟩
  have hbW10 : Below w9.heap.size w9 W10 := by rw [hW10]; exact Go.Proofs.Ytfkndnocjelhgaa.Arr.below_setRow (below_alloc (Below.refl w9.heap.size w9) _) _ (Nat.le_refl _)
  have HGg12 := Aside0.mk hg12
  have Pg12 := Aside0.mk (show HoldsRow W10 g12 31 #[.int .i64 s1, .int .i64 s2] by rw [hW10, hg12]; exact HNEWW10.out.row _)
  have HW10 := Aside0.mk hW10
  have Pg4_W10 := Aside0.mk (Pg4_w9.out.below hbW10 Pg4_w9.out.lt)
  have Pg6_W10 := Aside0.mk (Pg6_w9.out.below hbW10 Pg6_w9.out.lt)
  have Pg8_W10 := Aside0.mk (Pg8_w9.out.below hbW10 Pg8_w9.out.lt)
  have B_W10 := Aside0.mk (B_w9.out.trans (hbW10.mono B_w9.out.size))
  have R_W10 := Aside0.mk (Kd.R_below R_w9.out hbW10)
  have D_W10 := Aside0.mk (D_w9.out.below hbW10)
  have Q_W10 := Aside0.mk (Kd.R_below Q_w9.out hbW10)
  clear Pg4_w9 Pg6_w9 Pg8_w9 B_w9 R_w9 D_w9 Q_w9
  have Pg12_W10 := Pg12
  clear Pg12 hb9 hbW10 hW10 hg12 href ho9
  go_wp2_with (refine wpList_store_row rfl 31 _ _ rfl w9.heap.size #[.int .i64 s1, .int .i64 s2] rfl rfl 31 s00 HNEWW10.out (by kernel_rfl) rfl (by simp [Value.oneCell']) ?_; rw [← HW10.out])
  obtain ⟨A3, hv3, hC3⟩ := D_W10.out.form
  subst hv3
  obtain ⟨A4, c4, rfl⟩ := Kd.R_slice Q_W10.out
  have HD3 := Aside0.mk hC3
  have HQ4 := Aside0.mk (Kd.R_reads' Q_W10.out)
  clear hC3
  have T0 : W10.drew.cell? ⟨w3.heap.size, 0, none⟩ = some (.int .i64 f1) := by rw [← HG4.out]; exact Pg4_W10.out.cell rfl
  have T1 : W10.drew.cell? ⟨w3.heap.size, 1, none⟩ = some (.int .i64 f2) := by rw [← HG4.out]; exact Pg4_W10.out.cell rfl
  have T2 : W10.drew.cell? ⟨w5.heap.size, 0, none⟩ = some (.int .i64 f1) := by rw [← HGg6.out]; exact Pg6_W10.out.cell rfl
  have T3 : W10.drew.cell? ⟨w5.heap.size, 1, none⟩ = some (.int .i64 f2) := by rw [← HGg6.out]; exact Pg6_W10.out.cell rfl
  have T4 : W10.drew.cell? ⟨w7.heap.size, 0, none⟩ = some (.int .i64 s1) := by rw [← HGg8.out]; exact Pg8_W10.out.cell rfl
  have T5 : W10.drew.cell? ⟨w7.heap.size, 1, none⟩ = some (.int .i64 s2) := by rw [← HGg8.out]; exact Pg8_W10.out.cell rfl
  have T6 : W10.drew.cell? ⟨w9.heap.size, 0, none⟩ = some (.int .i64 s1) := by rw [← HGg12.out]; exact Pg12_W10.out.cell rfl
  have T7 : W10.drew.cell? ⟨w9.heap.size, 1, none⟩ = some (.int .i64 s2) := by rw [← HGg12.out]; exact Pg12_W10.out.cell rfl
  have heq1 := eq_st f1 f2
  have heq2 := eq_st s1 s2
  refine start_ (n := 31) (S := fun w' => w'.cell? ⟨w3.heap.size, 0, none⟩ = some (.int .i64 f1) ∧ w'.cell? ⟨w3.heap.size, 1, none⟩ = some (.int .i64 f2) ∧ w'.cell? ⟨w5.heap.size, 0, none⟩ = some (.int .i64 f1) ∧ w'.cell? ⟨w5.heap.size, 1, none⟩ = some (.int .i64 f2) ∧ w'.cell? ⟨w7.heap.size, 0, none⟩ = some (.int .i64 s1) ∧ w'.cell? ⟨w7.heap.size, 1, none⟩ = some (.int .i64 s2) ∧ w'.cell? ⟨w9.heap.size, 0, none⟩ = some (.int .i64 s1) ∧ w'.cell? ⟨w9.heap.size, 1, none⟩ = some (.int .i64 s2)) (ds := []) #[false, false, false, false, false, false, false, false, false, false, false, false, false, false, false, false, false, false, false, false, false, false, false, false, false, false, false, false, false, false, false] (by kernel_rfl) rfl rfl ⟨T0, T1, T2, T3, T4, T5, T6, T7⟩ (fun hHeld => ?_)
  refine take_ (i := 0) (N := some 42) (v := ?_) (a' := ?_) #[true, false, false, false, false, false, false, false, false, false, false, false, false, false, false, false, false, false, false, false, false, false, false, false, false, false, false, false, false, false, false] rfl rfl (by kernel_rfl) (fun _ _ _ h => h) (Or.inl ⟨by rfl, ?_⟩) hHeld ?_ ?_
  rotate_left
  · rintro w' ⟨s0, s1, s2, s3, s4, s5, s6, s7⟩
    go_simp
    with_reducible rfl
  rotate_left
  · simp only [Act.put, List.setIfInBounds_toArray, List.set_cons_zero, List.set_cons_succ, i64_w, i32_w]
    rfl
  refine take_ (i := 2) (N := some 44) (v := ?_) (a' := ?_) #[true, false, true, false, false, false, false, false, false, false, false, false, false, false, false, false, false, false, false, false, false, false, false, false, false, false, false, false, false, false, false] rfl rfl (by kernel_rfl) (fun _ _ _ h => h) (Or.inl ⟨by rfl, ?_⟩) hHeld ?_ ?_
  rotate_left
  · rintro w' ⟨s0, s1, s2, s3, s4, s5, s6, s7⟩
    go_simp
    with_reducible rfl
  rotate_left
  · simp only [Act.put, List.setIfInBounds_toArray, List.set_cons_zero, List.set_cons_succ, i64_w, i32_w]
    rfl
  refine one_ (i := 1) (N := some 43) #[true, true, true, false, false, false, false, false, false, false, false, false, false, false, false, false, false, false, false, false, false, false, false, false, false, false, false, false, false, false, false] rfl rfl (by kernel_rfl) (by decide) (fun K hK => ?_)
  refine goes_ Try.func14 (by kernel_rfl) rfl #[.agg #[.int .i64 f1, .int .i64 f2]] (by rfl) rfl rfl (by simp only [List.map_toArray, List.map_cons, List.map_nil]; rfl) ?_
  with_reducible refine (stamp5_calls _ f1 f2).mono ?_
  rintro e13 w13 ⟨rfl, hd13⟩
  refine ⟨_, rfl, ?_⟩
  have B13 := Aside0.mk (show Below W10.heap.size W10 w13 from (below_drew (Below.refl _ _)).trans hd13)
  clear hd13
  refine hK.out _ _ ⟨(pw_cell_below B13.out T0), (pw_cell_below B13.out T1), (pw_cell_below B13.out T2), (pw_cell_below B13.out T3), (pw_cell_below B13.out T4), (pw_cell_below B13.out T5), (pw_cell_below B13.out T6), (pw_cell_below B13.out T7)⟩ (fun hHeld => ?_)
  clear hK K
  refine norm_ (a' := ?_) ?_ ?_
  rotate_left
  · show Act.put _ (some 43) _ = _
    simp only [Act.put, List.setIfInBounds_toArray, List.set_cons_zero, List.set_cons_succ, i64_w, i32_w]
    rfl
  refine pure_ (i := 3) (N := some 45) (v := ?_) (a' := ?_) #[true, true, true, true, false, false, false, false, false, false, false, false, false, false, false, false, false, false, false, false, false, false, false, false, false, false, false, false, false, false, false] rfl rfl (by kernel_rfl) (fun _ _ _ h => h) (Or.inl ⟨by rfl, ?_⟩) ?_ ?_
  rotate_left
  · intro w'
    go_simp
    with_reducible rfl
  rotate_left
  · simp only [Act.put, List.setIfInBounds_toArray, List.set_cons_zero, List.set_cons_succ, i64_w, i32_w]
    rfl
  refine pure_ (i := 4) (N := some 46) (v := ?_) (a' := ?_) #[true, true, true, true, true, false, false, false, false, false, false, false, false, false, false, false, false, false, false, false, false, false, false, false, false, false, false, false, false, false, false] rfl rfl (by kernel_rfl) (fun _ _ _ h => h) (Or.inl ⟨by rfl, ?_⟩) ?_ ?_
  rotate_left
  · intro w'
    go_simp
    with_reducible rfl
  rotate_left
  · simp only [Act.put, List.setIfInBounds_toArray, List.set_cons_zero, List.set_cons_succ, i64_w, i32_w]
    rfl
  refine pure_ (i := 5) (N := some 47) (v := ?_) (a' := ?_) #[true, true, true, true, true, true, false, false, false, false, false, false, false, false, false, false, false, false, false, false, false, false, false, false, false, false, false, false, false, false, false] rfl rfl (by kernel_rfl) (fun _ _ _ h => h) (Or.inl ⟨by rfl, ?_⟩) ?_ ?_
  rotate_left
  · intro w'
    go_simp
    with_reducible rfl
  rotate_left
  · simp only [Act.put, List.setIfInBounds_toArray, List.set_cons_zero, List.set_cons_succ, i64_w, i32_w]
    rfl
  refine pure_ (i := 6) (N := some 48) (v := ?_) (a' := ?_) #[true, true, true, true, true, true, true, false, false, false, false, false, false, false, false, false, false, false, false, false, false, false, false, false, false, false, false, false, false, false, false] rfl rfl (by kernel_rfl) (fun _ _ _ h => h) (Or.inl ⟨by rfl, ?_⟩) ?_ ?_
  rotate_left
  · intro w'
    go_simp
    with_reducible rfl
  rotate_left
  · simp only [Act.put, List.setIfInBounds_toArray, List.set_cons_zero, List.set_cons_succ, i64_w, i32_w]
    rfl
  refine pure_ (i := 7) (N := some 49) (v := ?_) (a' := ?_) #[true, true, true, true, true, true, true, true, false, false, false, false, false, false, false, false, false, false, false, false, false, false, false, false, false, false, false, false, false, false, false] rfl rfl (by kernel_rfl) (fun _ _ _ h => h) (Or.inl ⟨by rfl, ?_⟩) ?_ ?_
  rotate_left
  · intro w'
    go_simp
    with_reducible rfl
  rotate_left
  · simp only [Act.put, List.setIfInBounds_toArray, List.set_cons_zero, List.set_cons_succ, i64_w, i32_w]
    rfl
  refine pure_ (i := 8) (N := some 50) (v := ?_) (a' := ?_) #[true, true, true, true, true, true, true, true, true, false, false, false, false, false, false, false, false, false, false, false, false, false, false, false, false, false, false, false, false, false, false] rfl rfl (by kernel_rfl) (fun _ _ _ h => h) (Or.inl ⟨by rfl, ?_⟩) ?_ ?_
  rotate_left
  · intro w'
    go_simp
    with_reducible rfl
  rotate_left
  · simp only [Act.put, List.setIfInBounds_toArray, List.set_cons_zero, List.set_cons_succ, i64_w, i32_w]
    rfl
  refine pure_ (i := 9) (N := some 51) (v := ?_) (a' := ?_) #[true, true, true, true, true, true, true, true, true, true, false, false, false, false, false, false, false, false, false, false, false, false, false, false, false, false, false, false, false, false, false] rfl rfl (by kernel_rfl) (fun _ _ _ h => h) (Or.inl ⟨by rfl, ?_⟩) ?_ ?_
  rotate_left
  · intro w'
    go_simp
    with_reducible rfl
  rotate_left
  · simp only [Act.put, List.setIfInBounds_toArray, List.set_cons_zero, List.set_cons_succ, i64_w, i32_w]
    rfl
  refine take_ (i := 10) (N := some 52) (v := ?_) (a' := ?_) #[true, true, true, true, true, true, true, true, true, true, true, false, false, false, false, false, false, false, false, false, false, false, false, false, false, false, false, false, false, false, false] rfl rfl (by kernel_rfl) (fun _ _ _ h => h) (Or.inl ⟨by rfl, ?_⟩) hHeld ?_ ?_
  rotate_left
  · rintro w' ⟨s0, s1, s2, s3, s4, s5, s6, s7⟩
    go_simp
    with_reducible rfl
  rotate_left
  · simp only [Act.put, List.setIfInBounds_toArray, List.set_cons_zero, List.set_cons_succ, i64_w, i32_w]
    rfl
  refine take_ (i := 12) (N := some 54) (v := ?_) (a' := ?_) #[true, true, true, true, true, true, true, true, true, true, true, false, true, false, false, false, false, false, false, false, false, false, false, false, false, false, false, false, false, false, false] rfl rfl (by kernel_rfl) (fun _ _ _ h => h) (Or.inl ⟨by rfl, ?_⟩) hHeld ?_ ?_
  rotate_left
  · rintro w' ⟨s0, s1, s2, s3, s4, s5, s6, s7⟩
    go_simp
    with_reducible rfl
  rotate_left
  · simp only [Act.put, List.setIfInBounds_toArray, List.set_cons_zero, List.set_cons_succ, i64_w, i32_w]
    rfl
  refine one_ (i := 11) (N := some 53) #[true, true, true, true, true, true, true, true, true, true, true, true, true, false, false, false, false, false, false, false, false, false, false, false, false, false, false, false, false, false, false] rfl rfl (by kernel_rfl) (by decide) (fun K hK => ?_)
  refine goes_ Try.func14 (by kernel_rfl) rfl #[.agg #[.int .i64 s1, .int .i64 s2]] (by rfl) rfl rfl (by simp only [List.map_toArray, List.map_cons, List.map_nil]; rfl) ?_
  with_reducible refine (stamp5_calls _ s1 s2).mono ?_
  rintro e14 w14 ⟨rfl, hd14⟩
  refine ⟨_, rfl, ?_⟩
  have B14 := Aside0.mk (B13.out.trans (hd14.mono B13.out.size))
  clear hd14
  refine hK.out _ _ ⟨(pw_cell_below B14.out T0), (pw_cell_below B14.out T1), (pw_cell_below B14.out T2), (pw_cell_below B14.out T3), (pw_cell_below B14.out T4), (pw_cell_below B14.out T5), (pw_cell_below B14.out T6), (pw_cell_below B14.out T7)⟩ (fun hHeld => ?_)
  clear hK K
  refine norm_ (a' := ?_) ?_ ?_
  rotate_left
  · show Act.put _ (some 53) _ = _
    simp only [Act.put, List.setIfInBounds_toArray, List.set_cons_zero, List.set_cons_succ, i64_w, i32_w]
    rfl
  refine pure_ (i := 13) (N := some 55) (v := ?_) (a' := ?_) #[true, true, true, true, true, true, true, true, true, true, true, true, true, true, false, false, false, false, false, false, false, false, false, false, false, false, false, false, false, false, false] rfl rfl (by kernel_rfl) (fun _ _ _ h => h) (Or.inl ⟨by rfl, ?_⟩) ?_ ?_
  rotate_left
  · intro w'
    go_simp
    with_reducible rfl
  rotate_left
  · simp only [Act.put, List.setIfInBounds_toArray, List.set_cons_zero, List.set_cons_succ, i64_w, i32_w]
    rfl
  refine pure_ (i := 14) (N := some 56) (v := ?_) (a' := ?_) #[true, true, true, true, true, true, true, true, true, true, true, true, true, true, true, false, false, false, false, false, false, false, false, false, false, false, false, false, false, false, false] rfl rfl (by kernel_rfl) (fun _ _ _ h => h) (Or.inl ⟨by rfl, ?_⟩) ?_ ?_
  rotate_left
  · intro w'
    go_simp
    with_reducible rfl
  rotate_left
  · simp only [Act.put, List.setIfInBounds_toArray, List.set_cons_zero, List.set_cons_succ, i64_w, i32_w]
    rfl
  refine pure_ (i := 15) (N := some 57) (v := ?_) (a' := ?_) #[true, true, true, true, true, true, true, true, true, true, true, true, true, true, true, true, false, false, false, false, false, false, false, false, false, false, false, false, false, false, false] rfl rfl (by kernel_rfl) (fun _ _ _ h => h) (Or.inl ⟨by rfl, ?_⟩) ?_ ?_
  rotate_left
  · intro w'
    go_simp
    with_reducible rfl
  rotate_left
  · simp only [Act.put, List.setIfInBounds_toArray, List.set_cons_zero, List.set_cons_succ, i64_w, i32_w]
    rfl
  refine pure_ (i := 16) (N := some 58) (v := ?_) (a' := ?_) #[true, true, true, true, true, true, true, true, true, true, true, true, true, true, true, true, true, false, false, false, false, false, false, false, false, false, false, false, false, false, false] rfl rfl (by kernel_rfl) (fun _ _ _ h => h) (Or.inl ⟨by rfl, ?_⟩) ?_ ?_
  rotate_left
  · intro w'
    go_simp
    with_reducible rfl
  rotate_left
  · simp only [Act.put, List.setIfInBounds_toArray, List.set_cons_zero, List.set_cons_succ, i64_w, i32_w]
    rfl
  refine pure_ (i := 17) (N := some 59) (v := ?_) (a' := ?_) #[true, true, true, true, true, true, true, true, true, true, true, true, true, true, true, true, true, true, false, false, false, false, false, false, false, false, false, false, false, false, false] rfl rfl (by kernel_rfl) (fun _ _ _ h => h) (Or.inl ⟨by rfl, ?_⟩) ?_ ?_
  rotate_left
  · intro w'
    go_simp
    with_reducible rfl
  rotate_left
  · simp only [Act.put, List.setIfInBounds_toArray, List.set_cons_zero, List.set_cons_succ, i64_w, i32_w]
    rfl
  refine pure_ (i := 18) (N := some 60) (v := ?_) (a' := ?_) #[true, true, true, true, true, true, true, true, true, true, true, true, true, true, true, true, true, true, true, false, false, false, false, false, false, false, false, false, false, false, false] rfl rfl (by kernel_rfl) (fun _ _ _ h => h) (Or.inl ⟨by rfl, ?_⟩) ?_ ?_
  rotate_left
  · intro w'
    go_simp
    with_reducible rfl
  rotate_left
  · simp only [Act.put, List.setIfInBounds_toArray, List.set_cons_zero, List.set_cons_succ, i64_w, i32_w]
    rfl
  refine pure_ (i := 19) (N := some 61) (v := ?_) (a' := ?_) #[true, true, true, true, true, true, true, true, true, true, true, true, true, true, true, true, true, true, true, true, false, false, false, false, false, false, false, false, false, false, false] rfl rfl (by kernel_rfl) (fun _ _ _ h => h) (Or.inl ⟨by rfl, ?_⟩) ?_ ?_
  rotate_left
  · intro w'
    go_simp
    with_reducible rfl
  rotate_left
  · simp only [Act.put, List.setIfInBounds_toArray, List.set_cons_zero, List.set_cons_succ, i64_w, i32_w]
    rfl
  refine pure_ (i := 20) (N := some 62) (v := ?_) (a' := ?_) #[true, true, true, true, true, true, true, true, true, true, true, true, true, true, true, true, true, true, true, true, true, false, false, false, false, false, false, false, false, false, false] rfl rfl (by kernel_rfl) (fun _ _ _ h => h) (Or.inl ⟨by rfl, ?_⟩) ?_ ?_
  rotate_left
  · intro w'
    go_simp
    with_reducible rfl
  rotate_left
  · simp only [Act.put, List.setIfInBounds_toArray, List.set_cons_zero, List.set_cons_succ, i64_w, i32_w]
    rfl
  refine pure_ (i := 21) (N := some 63) (v := ?_) (a' := ?_) #[true, true, true, true, true, true, true, true, true, true, true, true, true, true, true, true, true, true, true, true, true, true, false, false, false, false, false, false, false, false, false] rfl rfl (by kernel_rfl) (fun _ _ _ h => h) (Or.inl ⟨by rfl, ?_⟩) ?_ ?_
  rotate_left
  · intro w'
    go_simp
    with_reducible rfl
  rotate_left
  · simp only [Act.put, List.setIfInBounds_toArray, List.set_cons_zero, List.set_cons_succ, i64_w, i32_w]
    rfl
  refine pure_ (i := 22) (N := some 64) (v := ?_) (a' := ?_) #[true, true, true, true, true, true, true, true, true, true, true, true, true, true, true, true, true, true, true, true, true, true, true, false, false, false, false, false, false, false, false] rfl rfl (by kernel_rfl) (fun _ _ _ h => h) (Or.inl ⟨by rfl, ?_⟩) ?_ ?_
  rotate_left
  · intro w'
    go_simp
    with_reducible rfl
  rotate_left
  · simp only [Act.put, List.setIfInBounds_toArray, List.set_cons_zero, List.set_cons_succ, i64_w, i32_w]
    rfl
  refine one_ (i := 23) (N := some 65) #[true, true, true, true, true, true, true, true, true, true, true, true, true, true, true, true, true, true, true, true, true, true, true, true, false, false, false, false, false, false, false] rfl rfl (by kernel_rfl) (by decide) (fun K hK => ?_)
  refine goes_ Try.func19 (by kernel_rfl) rfl #[.slice A3 dat.length dat.length, .slice A4 dat.length c4] (by rfl) rfl rfl (by simp only [List.map_toArray, List.map_cons, List.map_nil]; rfl) ?_
  with_reducible refine (encoreref00_EqBytes.calls (dat.length + 1) A3 dat.length dat A4 c4 dat true w14 (Kd.C_below HD3.out B14.out) (Nat.le_refl _) (Kd.C_below HQ4.out.2.2 B14.out) HQ4.out.2.1 (eq_refl dat (by have := HDL.out; omega) _ (Nat.le_refl _))).mono ?_
  rintro e15 w15 ⟨rfl, hd15⟩
  refine ⟨_, rfl, ?_⟩
  have B15 := Aside0.mk (B14.out.trans (hd15.below.mono B14.out.size))
  clear hd15
  refine hK.out _ _ ⟨(pw_cell_below B15.out T0), (pw_cell_below B15.out T1), (pw_cell_below B15.out T2), (pw_cell_below B15.out T3), (pw_cell_below B15.out T4), (pw_cell_below B15.out T5), (pw_cell_below B15.out T6), (pw_cell_below B15.out T7)⟩ (fun hHeld => ?_)
  clear hK K
  refine norm_ (a' := ?_) ?_ ?_
  rotate_left
  · show Act.put _ (some 65) _ = _
    simp only [Act.put, List.setIfInBounds_toArray, List.set_cons_zero, List.set_cons_succ, i64_w, i32_w]
    rfl
  refine pure_ (i := 24) (N := some 66) (v := ?_) (a' := ?_) #[true, true, true, true, true, true, true, true, true, true, true, true, true, true, true, true, true, true, true, true, true, true, true, true, true, false, false, false, false, false, false] rfl rfl (by kernel_rfl) (fun _ _ _ h => h) (Or.inl ⟨by rfl, ?_⟩) ?_ ?_
  rotate_left
  · intro w'
    go_simp
    with_reducible rfl
  rotate_left
  · simp only [Act.put, List.setIfInBounds_toArray, List.set_cons_zero, List.set_cons_succ, i64_w, i32_w]
    rfl
  refine pure_ (i := 25) (N := some 67) (v := ?_) (a' := ?_) #[true, true, true, true, true, true, true, true, true, true, true, true, true, true, true, true, true, true, true, true, true, true, true, true, true, true, false, false, false, false, false] rfl rfl (by kernel_rfl) (fun _ _ _ h => h) (Or.inl ⟨by rfl, ?_⟩) ?_ ?_
  rotate_left
  · intro w'
    go_simp
    with_reducible rfl
  rotate_left
  · simp only [Act.put, List.setIfInBounds_toArray, List.set_cons_zero, List.set_cons_succ, i64_w, i32_w]
    rfl
  refine pure_ (i := 26) (N := some 68) (v := ?_) (a' := ?_) #[true, true, true, true, true, true, true, true, true, true, true, true, true, true, true, true, true, true, true, true, true, true, true, true, true, true, true, false, false, false, false] rfl rfl (by kernel_rfl) (fun _ _ _ h => h) (Or.inl ⟨by rfl, ?_⟩) ?_ ?_
  rotate_left
  · intro w'
    go_simp
    with_reducible rfl
  rotate_left
  · simp only [Act.put, List.setIfInBounds_toArray, List.set_cons_zero, List.set_cons_succ, i64_w, i32_w]
    rfl
  refine pure_ (i := 27) (N := some 69) (v := ?_) (a' := ?_) #[true, true, true, true, true, true, true, true, true, true, true, true, true, true, true, true, true, true, true, true, true, true, true, true, true, true, true, true, false, false, false] rfl rfl (by kernel_rfl) (fun _ _ _ h => h) (Or.inl ⟨by rfl, ?_⟩) ?_ ?_
  rotate_left
  · intro w'
    go_simp
    with_reducible rfl
  rotate_left
  · simp only [Act.put, List.setIfInBounds_toArray, List.set_cons_zero, List.set_cons_succ, i64_w, i32_w]
    rfl
  refine pure_ (i := 28) (N := some 70) (v := ?_) (a' := ?_) #[true, true, true, true, true, true, true, true, true, true, true, true, true, true, true, true, true, true, true, true, true, true, true, true, true, true, true, true, true, false, false] rfl rfl (by kernel_rfl) (fun _ _ _ h => h) (Or.inl ⟨by rfl, ?_⟩) ?_ ?_
  rotate_left
  · intro w'
    go_simp
    with_reducible rfl
  rotate_left
  · simp only [Act.put, List.setIfInBounds_toArray, List.set_cons_zero, List.set_cons_succ, i64_w, i32_w]
    rfl
  refine pure_ (i := 29) (N := some 71) (v := ?_) (a' := ?_) #[true, true, true, true, true, true, true, true, true, true, true, true, true, true, true, true, true, true, true, true, true, true, true, true, true, true, true, true, true, true, false] rfl rfl (by kernel_rfl) (fun _ _ _ h => h) (Or.inl ⟨by rfl, ?_⟩) ?_ ?_
  rotate_left
  · intro w'
    go_simp
    with_reducible rfl
  rotate_left
  · simp only [Act.put, List.setIfInBounds_toArray, List.set_cons_zero, List.set_cons_succ, i64_w, i32_w]
    rfl
  refine pure_ (i := 30) (N := some 72) (v := ?_) (a' := ?_) #[true, true, true, true, true, true, true, true, true, true, true, true, true, true, true, true, true, true, true, true, true, true, true, true, true, true, true, true, true, true, true] rfl rfl (by kernel_rfl) (fun _ _ _ h => h) (Or.inl ⟨by rfl, ?_⟩) ?_ ?_
  rotate_left
  · intro w'
    go_simp
    with_reducible rfl
  rotate_left
  · simp only [Act.put, List.setIfInBounds_toArray, List.set_cons_zero, List.set_cons_succ, i64_w, i32_w]
    rfl
  refine done_ (by kernel_rfl) ?_
  
  have B_15 := Aside0.mk (B_W10.out.trans (B15.out.mono B_W10.out.size))
  have R_15 := Aside0.mk (Kd.R_below R_W10.out B15.out)
  have D_15 := Aside0.mk (D_W10.out.below B15.out)
  clear hHeld T0 T1 T2 T3 T4 T5 T6 T7 heq1 heq2 Pg4_W10 Pg6_W10 Pg8_W10 Pg12_W10 B_W10 R_W10 D_W10 Q_W10 B13 B14 B15 HD3 HQ4
  go_wp2_with fail
  obtain ⟨W16, hW16⟩ : ∃ W16, W16 = w15.alloc (.cells #[.slice A3 dat.length dat.length] 24) := ⟨_, rfl⟩
  have hb16 : Below w15.heap.size w15 W16 := by rw [hW16]; exact below_alloc (Below.refl _ _) _
  have B_16 := Aside0.mk (B_15.out.trans (hb16.mono B_15.out.size))
  have R_16 := Aside0.mk (Kd.R_below R_15.out hb16)
  have HSO := Aside0.mk (show Soil W16 (fun k => W6.heap.size ≤ k ∧ k < w15.heap.size) w15.heap.size 1 by rw [hW16]; exact soil_data D_15.out HDL.out)
  rw [← hW16]
  clear hW16 hb16 B_15 R_15 D_15
  refine (spoil_calls w W16 w.heap.size _ w15.heap.size 1 1 B_16.out (fun k hk => Nat.le_trans HWW.out (Nat.le_trans HSW6.out hk.1)) HSO.out (by decide)).mono ?_
  rintro e w17 ⟨rfl, hb17, hk17, -⟩
  have B_17 := Aside0.mk hb17
  have R_17 := Aside0.mk (Kd.R_step R_16.out (fun k hk _ => hk17 k (fun h => by have := h.1; have := HSW6.out; omega)))
  clear hb17 hk17 B_16 R_16
  go_wp2_with fail
  have hR := Kd.R_reads' R_17.out
  refine (encoreref00_EqBytes.calls (l0.length + 1) A2 c2 l0 A0 c0 l0 true w17 hR.2.2 hR.2.1 (Kd.C_below HR0.out B_17.out) HC0.out (eq_refl l0 (by have := HLL.out; omega) _ (Nat.le_refl _))).mono ?_
  rintro e w18 ⟨rfl, hd18⟩
  have B_18 := Aside0.mk (B_17.out.trans (hd18.below.mono B_17.out.size))
  clear hd18 hR
  go_wp2_with fail
  refine (works_calls w18).mono ?_
  rintro e w19 ⟨rfl, hb19⟩
  have B_19 := Aside0.mk (B_18.out.trans (hb19.mono B_18.out.size))
  go_wp2_with fail
  go_ret
  exact ⟨rfl, B_19.out⟩
end Go.Proofs.Ytfkndnocjelhgaa.Ext
