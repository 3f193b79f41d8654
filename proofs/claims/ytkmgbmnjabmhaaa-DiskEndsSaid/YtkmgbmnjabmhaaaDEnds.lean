/- DiskEnds answers true, walked with the plain law at hand: for every row of numbers and number. No condition beyond the kinds' own. -/
import Derived.Test.YtkmgbmnjabmhaaaDEndsP
namespace Go.Proofs.Ytkmgbmnjabmhaaa.Ext
open Go Go.RowKit Go.Proofs.YtkmgbmnjabmhaaaW.PrintWords Go.Proofs.YtkmgbmnjabmhaaaW.PrintLast Go.Proofs.YtkmgbmnjabmhaaaW.PrintMore Go.Proofs.Ytkmgbmnjabmhaaa.Base Go.Proofs.Ytkmgbmnjabmhaaa.Arr
set_option linter.unusedVariables false
set_option linter.unusedSimpArgs false

def filled (j : Nat) : List (List Int) := List.replicate j z64 ++ List.replicate (8 - j) []
theorem filled_set {j : Nat} (hj : j < 8) : (filled j).set j z64 = filled (j + 1) := by
  unfold filled
  rw [List.set_append_right _ _ (by simp), List.length_replicate, Nat.sub_self, show 8 - j = (8 - (j + 1)) + 1 by omega, List.replicate_succ, List.set_cons_zero, List.replicate_succ' (n := j)]
  simp
theorem Wants.size {H : Nat} {W : World} {ok : Nat → Prop} {b a : Nat} {u : Value} : (W.setCell ⟨b, a, none⟩ u).heap.size = W.heap.size := by simp [World.setCell]
set_option maxHeartbeats 16000000 in
set_option maxRecDepth 100000 in
theorem ends_calls (A0 : Option Addr) (c0 : Nat) (l0 : List Int) (fl : Int) (w : World) (hr0 : Kd.C (Kd.int .i64) w A0 l0.length l0) (hc0 : l0.length ≤ c0) (hb0 : ∀ x ∈ l0, (Lit.int .i64 x).wf = true) :
    Calls Try.prog 4 #[.slice A0 l0.length c0, .int .i64 fl] w fun e w' => e = .returned (.bool true) ∧ Below w.heap.size w w' := by
  have hmx0 : l0.length ≤ 9223372036854775807 := Kd.C_max hr0
  have HR0 := Aside0.mk hr0
  obtain ⟨F, hF⟩ : ∃ F : Nat, fl % 40 = (F : Int) := ⟨(fl % 40).toNat, by omega⟩
  have HBF := Aside0.mk (show encoreref00_Bring.f fl 40 = some (F : Int) by rw [← hF]; exact bring_eq fl 40 (by decide) (by decide))
  clear hr0 hc0 hF
  have hz8 := zero_rows
  have hmk := make64
  go_enter Try.func4, Try.ntmps4
  go_wp2_with fail
  ((with_reducible refine (made_calls w).mono ?_))
  rintro e w1 ⟨g, rfl, hb, hd⟩
  have B1 := Aside0.mk hb
  have D1 := Aside0.mk hd
  obtain ⟨okA, hokA⟩ : ∃ okA : Nat → Prop, okA = (fun k => w.heap.size ≤ k ∧ k < w1.heap.size) := ⟨_, rfl⟩
  rw [← hokA] at D1
  clear hb hd
  go_wp2_with fail
  ((with_reducible refine (made_calls w1).mono ?_))
  rintro e w2 ⟨h, rfl, hb, hd⟩
  have B2 := Aside0.mk (B1.out.trans (hb.mono B1.out.size))
  obtain ⟨okB, hokB⟩ : ∃ okB : Nat → Prop, okB = (fun k => w1.heap.size ≤ k ∧ k < w2.heap.size) := ⟨_, rfl⟩
  rw [← hokB] at hd
  have hd2 : DL w.heap.size w2 okB h (newS 8) := ⟨by
    obtain ⟨gs, m, vw, pp, h1, h2, h3, h4, h5, o, ⟨b1, b2, b3⟩, hG⟩ := hd.1
    have hle := B1.out.size
    refine ⟨gs, m, vw, pp, h1, h2, h3, Kd.R_lower h4 hle, h5, o, ⟨by omega, by omega, by omega⟩, hG⟩, hd.2.1, Nat.le_trans B1.out.size hd.2.2⟩
  have T2 := Aside0.mk (show Two w.heap.size w2 okA okB g h (newS 8) (newS 8) from ⟨D1.out.below hb, hd2, fun k hk q => by rw [hokA] at hk; rw [hokB] at q; have h1 := hk.2; have h2 := q.1; omega⟩)
  clear hb hd hd2 hokA hokB D1 B1
  go_wp2_with fail
  have hlt7 : ∀ k, okU okA okB k → k < w2.heap.size := fun k hk => hk.elim (T2.out.1.2.1 k) (T2.out.2.1.2.1 k)
  have W70 := Wants.new (H := w.heap.size) (ok := okU okA okB) w2 B2.out.size hlt7
  have W80 := Wants.new (H := w.heap.size) (ok := okU okA okB) (w2.alloc (.cells nil8.toArray 27)) (by rw [World.size_alloc]; have := B2.out.size; omega) (fun k hk => by rw [World.size_alloc]; have := hlt7 k hk; omega)
  rw [World.size_alloc] at W80
  obtain ⟨W0, hW0⟩ : ∃ W0 : World, W0 = (w2.alloc (.cells nil8.toArray 27)).alloc (.cells nil8.toArray 27) := ⟨_, rfl⟩
  obtain ⟨b7, hb7⟩ : ∃ b, b = w2.heap.size := ⟨_, rfl⟩
  obtain ⟨b8, hb8⟩ : ∃ b, b = w2.heap.size + 1 := ⟨_, rfl⟩
  have W7 := Aside0.mk (show Wants w.heap.size W0 (okU okA okB) b7 nil8 (filled 0) by rw [hW0, hb7]; exact W70.below (below_alloc (Below.refl _ _) _))
  have W8 := Aside0.mk (show Wants w.heap.size W0 (okU okA okB) b8 nil8 (filled 0) by rw [hW0, hb8]; exact W80)
  have hbel : Below w2.heap.size w2 W0 := by rw [hW0]; exact below_alloc (below_alloc (Below.refl _ _) _) _
  have T0 := Aside0.mk (T2.out.below hbel)
  have B0 := Aside0.mk (B2.out.trans (hbel.mono B2.out.size))
  have HNE := Aside0.mk (show b8 ≠ b7 by omega)
  rw [← hW0, ← hb8, ← hb7]
  clear hW0 hb7 hb8 hbel W70 W80 T2 B2 hz8 hlt7
  go_loopw [9] (fun i wr => ∃ (j : Nat) (vs7 vs8 : List Value), j ≤ 8 ∧ i = .int .i64 (j : Nat) ∧ Aside0 (Two w.heap.size wr okA okB g h (newS 8) (newS 8)) ∧ Aside0 (Wants w.heap.size wr (okU okA okB) b7 vs7 (filled j)) ∧ Aside0 (Wants w.heap.size wr (okU okA okB) b8 vs8 (filled j)) ∧ Aside0 (Below w.heap.size w wr)) (fun i _ => 8 - (intOf i).toNat)
  case atStart => exact ⟨0, nil8, nil8, by omega, rfl, T0, W7, W8, B0⟩
  case round =>
    clear T0 W7 W8 B0
    obtain ⟨j, vs7, vs8, hj, rfl, RT, R7, R8, RB⟩ := hrel
    by_cases hlt : j < 8
    · have d1 : decide ((j : Int) < 8) = true := decide_eq_true (by omega)
      have d2 : decide (j < 8) = true := decide_eq_true (by omega)
      have x0 := eq_true (show (0 : Int) ≤ (j : Int) by omega)
      have x1 := eq_true (show (j : Int) < 8 by omega)
      -- the first row
      obtain ⟨W2, hW2⟩ : ∃ W2 : World, W2 = wr.alloc (.cells (rowK .u8 z64) 5) := ⟨_, rfl⟩
      have hbel : Below wr.heap.size wr W2 := by rw [hW2]; exact below_alloc (Below.refl _ _) _
      have S7 := R7.out.below hbel
      have S8 := R8.out.below hbel
      have ST := RT.out.below hbel
      obtain ⟨A, c, K1, -⟩ := S7.cell hlt
      have z1 := S7.1.free j
      have hr : Kd.R (Kd.int .u8) 5 W2 wr.heap.size (fun _ => True) (.slice (some ⟨wr.heap.size, 0, none⟩) 64 64) z64 := by
        rw [hW2]
        have := (HoldsRow.new wr 5 (rowK .u8 z64)).own (base := wr.heap.size) (Nat.le_refl _) (by rw [z64_len]; decide)
        rw [z64_len] at this
        exact this
      have U7 := S7.set hlt (A := some ⟨wr.heap.size, 0, none⟩) (n := 64) (c := 64) (x := z64) z64_len (RT.out.fresh hr)
      rw [filled_set hlt] at U7
      obtain ⟨W3, hW3⟩ : ∃ W3 : World, W3 = W2.setCell ⟨b7, j, none⟩ (.slice (some ⟨wr.heap.size, 0, none⟩) 64 64) := ⟨_, rfl⟩
      have hfar : ∀ k, k ≠ b7 → W3.heap[k]? = W2.heap[k]? := fun k hk => by rw [hW3]; exact Below.heap_setCell W2 ⟨b7, j, none⟩ _ k hk
      have hsz : W3.heap.size = W2.heap.size := by rw [hW3]; simp [World.setCell]
      have U8 := S8.far' S7.1 HNE.out (by decide) hfar
      have UT := ST.far S7.2.2.2.1 hfar hsz
      have UB : Below w.heap.size w W3 := by rw [hW3]; exact (RB.out.trans (hbel.mono RB.out.size)).setCell (show w.heap.size ≤ (⟨b7, j, none⟩ : Addr).block from S7.2.2.2.2.1) _
      rw [← hW3] at U7
      -- the second row
      obtain ⟨W4, hW4⟩ : ∃ W4 : World, W4 = W3.alloc (.cells (rowK .u8 z64) 5) := ⟨_, rfl⟩
      have hbel4 : Below W3.heap.size W3 W4 := by rw [hW4]; exact below_alloc (Below.refl _ _) _
      have V7 := U7.below hbel4
      have V8 := U8.below hbel4
      have VT := UT.below hbel4
      obtain ⟨A', c', K2, -⟩ := V8.cell hlt
      have z2 := V8.1.free j
      have hr4 : Kd.R (Kd.int .u8) 5 W4 W3.heap.size (fun _ => True) (.slice (some ⟨W3.heap.size, 0, none⟩) 64 64) z64 := by
        rw [hW4]
        have := (HoldsRow.new W3 5 (rowK .u8 z64)).own (base := W3.heap.size) (Nat.le_refl _) (by rw [z64_len]; decide)
        rw [z64_len] at this
        exact this
      have X8 := V8.set hlt (A := some ⟨W3.heap.size, 0, none⟩) (n := 64) (c := 64) (x := z64) z64_len (UT.fresh hr4)
      rw [filled_set hlt] at X8
      have hfar5 : ∀ k, k ≠ b8 → (W4.setCell ⟨b8, j, none⟩ (.slice (some ⟨W3.heap.size, 0, none⟩) 64 64)).heap[k]? = W4.heap[k]? := fun k hk => Below.heap_setCell W4 ⟨b8, j, none⟩ _ k hk
      have X7 := V7.far' V8.1 (Ne.symm HNE.out) (by decide) hfar5
      have XT := VT.far V8.2.2.2.1 hfar5 (by simp [World.setCell])
      have XB : Below w.heap.size w (W4.setCell ⟨b8, j, none⟩ (.slice (some ⟨W3.heap.size, 0, none⟩) 64 64)) := (UB.trans (hbel4.mono UB.size)).setCell (show w.heap.size ≤ (⟨b8, j, none⟩ : Addr).block from V8.2.2.2.2.1) _
      have Y1 := Aside0.mk X7
      have Y2 := Aside0.mk X8
      have Y3 := Aside0.mk XT
      have Y4 := Aside0.mk XB
      have HW3 := Aside0.mk hW3
      have HW4 := Aside0.mk hW4
      have HW2 := Aside0.mk hW2
      have hs3 : W3.heap.size = wr.heap.size + 1 := by rw [hsz, hW2, World.size_alloc]
      have HS3 := Aside0.mk hs3
      rw [hW2] at K1 z1
      rw [hW4, hW3, hW2] at K2 z2
      clear hW2 hW3 hW4 hbel hbel4 S7 S8 ST hr hr4 U7 U8 UT UB V7 V8 VT X7 X8 XT XB hfar hfar5 hsz hs3 RT R7 R8 RB
      go_wp2_with fail
      rw [← HW2.out, ← HW3.out, ← HW4.out, ← HS3.out]
      go_roundw
      case rel => exact ⟨j + 1, _, _, by omega, by go_num, Y3, Y1, Y2, Y4⟩
      case measure => simp [intOf]; omega
    · obtain rfl : j = 8 := by omega
      have e8 : filled 8 = eight zs8 [] := by decide +kernel
      rw [e8] at R7 R8
      have d1 : decide ((8 : Int) < 8) = false := rfl
      obtain ⟨N0, hN1, hN2, hN3⟩ := min40 l0.length
      clear e8 hj hlt hmk
      go_wp2_with fail
      have e8c : ((8 : Nat) : Int) = 8 := rfl
      rw [e8c]
      clear e8c
      have RT0 := Aside0.mk (show Two w.heap.size wr okA okB g h (eH l0 F 0) (eH l0 F 0) from RT.out)
      have R70 := Aside0.mk (show Wants w.heap.size wr (okU okA okB) b7 vs7 (eight zs8 (stayL l0 F 0)) from R7.out)
      have R80 := Aside0.mk (show Wants w.heap.size wr (okU okA okB) b8 vs8 (eight zs8 ((l0.take 0).map wrI)) from R8.out)
      go_loopw [10] (fun i wr => ∃ (j : Nat) (vs7 vs8 : List Value) (okA okB : Nat → Prop), j ≤ N0 ∧ i = .int .i64 (j : Nat) ∧ Aside0 (Two w.heap.size wr okA okB g h (eH l0 F j) (eH l0 F j)) ∧ Aside0 (Wants w.heap.size wr (okU okA okB) b7 vs7 (eight zs8 (stayL l0 F j))) ∧ Aside0 (Wants w.heap.size wr (okU okA okB) b8 vs8 (eight zs8 ((l0.take j).map wrI))) ∧ Aside0 (Below w.heap.size w wr)) (fun i _ => N0 - (intOf i).toNat)
      case atStart => exact ⟨0, vs7, vs8, okA, okB, by omega, rfl, RT0, R70, R80, RB⟩
      case round =>
        clear RT0 R70 R80 RT R7 R8 RB d1
        obtain ⟨j, vs7, vs8, okA, okB, hj, rfl, RT, R7, R8, RB⟩ := hrel
        by_cases hlt : j < N0
        · have d1 : decide ((j : Int) < (l0.length : Int)) = true := decide_eq_true (by omega)
          have d2 : decide (j < l0.length) = true := decide_eq_true (by omega)
          have d3 : decide ((j : Int) < 40) = true := decide_eq_true (by omega)
          have d4 : decide (j < 40) = true := decide_eq_true (by omega)
          have b0 := eq_true (show (0 : Int) ≤ (j : Int) by omega)
          have b1 := eq_true (show (j : Int) < (l0.length : Int) by omega)
          obtain ⟨ad, hA, -⟩ := Kd.at_int (Kd.C_below HR0.out RB.out) (j : Int) (by omega) (by omega)
          subst hA
          have hcellf : ∀ W, Below w.heap.size w W → W.cell? (ad.add j) = some (.int .i64 (rd l0 j)) := fun W hb => by
            obtain ⟨ad', e, hc'⟩ := Kd.at_int (Kd.C_below HR0.out hb) (j : Int) (by omega) (by omega)
            cases e
            rw [Int.toNat_natCast] at hc'
            exact hc'
          have HCF := Aside0.mk hcellf
          obtain ⟨a, ha⟩ : ∃ a : Nat, rd l0 j % 8 = (a : Int) := ⟨(rd l0 j % 8).toNat, by omega⟩
          have ha8 : a < 8 := by omega
          have HA := Aside0.mk ha
          have HBG := Aside0.mk (show encoreref00_Bring.f (rd l0 j) 8 = some (a : Int) by rw [← ha]; exact bring_eq (rd l0 j) 8 (by decide) (by decide))
          have HQW := Aside0.mk (quo8 (hb0 (rd l0 j) (rd_mem (by omega))))
          have HWR := Aside0.mk (eM_wr l0 F j (by omega) a ha)
          have HSM := Aside0.mk (And.intro (eH_small l0 F j (by omega)) (And.intro (eM_small l0 F j (by omega)) (eH_small l0 F (j + 1) (by omega))))
          clear ha hcellf
          go_wp2_with fail
          ((with_reducible refine (encoreref00_Bring.calls fl 40 (F : Int) wr HBF.out).mono ?_))
          rintro e w3 ⟨rfl, hd⟩
          have hb3 := hd.below
          have RT3 := Aside0.mk (RT.out.below hb3)
          have R73 := Aside0.mk (R7.out.below hb3)
          have R83 := Aside0.mk (R8.out.below hb3)
          have RB3 := Aside0.mk (RB.out.trans (hb3.mono RB.out.size))
          clear hd hb3 RT R7 R8 RB
          by_cases hjF : j = F
          · subst hjF
            have dF : ((j : Int) == (j : Int)) = true := by simp
            have dF2 : (j == j) = true := by simp
            have HFL := Aside0.mk (eH_flush l0 j)
            go_wp2_with fail
            ((with_reducible refine (LFlush w.heap.size w3 okA g (eH l0 j j) (eM l0 j j) 0 (Two.a RT3.out) HSM.out.1 HFL.out).mono ?_))
            rintro e w4 ⟨rfl, okA4, hd, hm⟩
            obtain ⟨ht4, hm4⟩ := RT3.out.moveA hd hm
            have RT4 := Aside0.mk ht4
            have R74 := Aside0.mk (R73.out.moves hm4)
            have R84 := Aside0.mk (R83.out.moves hm4)
            have RB4 := Aside0.mk (RB3.out.trans hm4.1)
            clear hd hm ht4 hm4 RT3 R73 R83 RB3
            go_wp2_with fail
            ((with_reducible refine (LFlush w.heap.size w4 okB h (eH l0 j j) (eM l0 j j) 0 (Two.b RT4.out) HSM.out.1 HFL.out).mono ?_))
            rintro e w5 ⟨rfl, okB5, hd, hm⟩
            obtain ⟨ht5, hm5⟩ := RT4.out.moveB hd hm
            have RT5 := Aside0.mk ht5
            have R75 := Aside0.mk (R74.out.moves hm5)
            have R85 := Aside0.mk (R84.out.moves hm5)
            have RB5 := Aside0.mk (RB4.out.trans hm5.1)
            clear hd hm ht5 hm5 RT4 R74 R84 RB4
            obtain ⟨wM, hwM⟩ : ∃ wM, wM = w5.setRow b7 vs8.toArray := ⟨_, rfl⟩
            have hfar : ∀ k, k ≠ b7 → wM.heap[k]? = w5.heap[k]? := fun k hk => by rw [hwM]; exact setRow_other _ _ _ _ hk
            have hsz : wM.heap.size = w5.heap.size := by rw [hwM]; simp [World.setRow]
            have hcp := R75.out.copy R85.out HNE.out
            rw [← hwM] at hcp
            have R7M := Aside0.mk (show Wants w.heap.size wM (okU okA4 okB5) b7 vs8 (eight zs8 (stayL l0 j (j + 1))) by rw [stay_at]; exact hcp.1)
            have R8M := Aside0.mk hcp.2
            have RTM := Aside0.mk (RT5.out.far R75.out.2.2.2.1 hfar hsz)
            have RBM := Aside0.mk (show Below w.heap.size w wM by rw [hwM]; exact Go.Proofs.Ytkmgbmnjabmhaaa.Arr.below_setRow RB5.out _ R75.out.2.2.2.2.1)
            have HWM := Aside0.mk hwM
            have K1 := HCF.out wM RBM.out
            clear hwM hfar hsz hcp RT5 RB5
            go_wp2_with (first | (refine wpList_load_row rfl 27 (.tmp 8) rfl b8 rfl 27 vs8.toArray (0, 0) _ R85.out.1 Try.underlying27 rfl (by rw [List.size_toArray, R85.out.2.1]; kernel_rfl) ?_) | (refine wpList_store_row rfl 27 (.tmp 7) (.tmp 44) rfl b7 vs8.toArray rfl rfl 27 vs7.toArray R75.out.1 (by rw [List.size_toArray, R85.out.2.1]; kernel_rfl) (by rw [List.size_toArray, List.size_toArray, R75.out.2.1, R85.out.2.1]) R85.out.one ?_; rw [← HWM.out]))
            clear R75 R85 HWM
            clear vs7
            obtain ⟨vs7, hv7⟩ : ∃ vs7, vs7 = vs8 := ⟨_, rfl⟩
            rw [← hv7] at R7M
            clear hv7
            ((with_reducible refine (encoreref00_Bring.calls (rd l0 j) 8 (a : Int) wM HBG.out).mono ?_))
            rintro e w6 ⟨rfl, hd⟩
            have hb6 := hd.below
            have RT6 := Aside0.mk (RTM.out.below hb6)
            have R76 := Aside0.mk (R7M.out.below hb6)
            have R86 := Aside0.mk (R8M.out.below hb6)
            have RB6 := Aside0.mk (RBM.out.trans (hb6.mono RBM.out.size))
            clear K1 hd hb6 RTM R7M R8M RBM
            have K1 := HCF.out w6 RB6.out
            have hqw := HQW.out
            go_wp2_with fail
            clear hqw
            ((with_reducible refine (sector_calls ((rd l0 j).tdiv 8) w6).mono ?_))
            rintro e w7 ⟨A7, c7, rfl, hr, hb⟩
            have RT7 := Aside0.mk (RT6.out.below hb)
            have R77 := Aside0.mk (R76.out.below hb)
            have R87 := Aside0.mk (R86.out.below hb)
            have RB7 := Aside0.mk (RB6.out.trans (hb.mono RB6.out.size))
            have Q7 := Aside0.mk (row_A (RT6.out.fresh hr))
            clear K1 hr hb RT6 R76 R86 RB6
            go_wp2_with fail
            ((with_reducible refine (LWrite w.heap.size w7 okA4 g (eM l0 j j) (eH l0 j (j + 1)) 0 ((rd l0 j).tdiv 8) (a : Int) A7 c7 (Two.a RT7.out) HSM.out.2.1 Q7.out HWR.out).mono ?_))
            rintro e w8 ⟨rfl, okA8, hd, hm⟩
            obtain ⟨ht8, hm8⟩ := RT7.out.moveA hd hm
            have RT8 := Aside0.mk ht8
            have R78 := Aside0.mk (R77.out.moves hm8)
            have R88 := Aside0.mk (R87.out.moves hm8)
            have RB8 := Aside0.mk (RB7.out.trans hm8.1)
            clear hd hm ht8 hm8 RT7 R77 R87 RB7 Q7
            have K1 := HCF.out w8 RB8.out
            have hqw := HQW.out
            go_wp2_with fail
            clear hqw
            ((with_reducible refine (sector_calls ((rd l0 j).tdiv 8) w8).mono ?_))
            rintro e w9 ⟨A9, c9, rfl, hr, hb⟩
            have RT9 := Aside0.mk (RT8.out.below hb)
            have R79 := Aside0.mk (R78.out.below hb)
            have R89 := Aside0.mk (R88.out.below hb)
            have RB9 := Aside0.mk (RB8.out.trans (hb.mono RB8.out.size))
            have Q9 := Aside0.mk (row_B (RT8.out.fresh hr))
            clear K1 hr hb RT8 R78 R88 RB8
            go_wp2_with fail
            ((with_reducible refine (LWrite w.heap.size w9 okB5 h (eM l0 j j) (eH l0 j (j + 1)) 0 ((rd l0 j).tdiv 8) (a : Int) A9 c9 (Two.b RT9.out) HSM.out.2.1 Q9.out HWR.out).mono ?_))
            rintro e w10 ⟨rfl, okB10, hd, hm⟩
            obtain ⟨ht10, hm10⟩ := RT9.out.moveB hd hm
            have RT10 := Aside0.mk ht10
            have R710 := Aside0.mk (R79.out.moves hm10)
            have R810 := Aside0.mk (R89.out.moves hm10)
            have RB10 := Aside0.mk (RB9.out.trans hm10.1)
            clear hd hm ht10 hm10 RT9 R79 R89 RB9 Q9
            have K1 := HCF.out w10 RB10.out
            have hqw := HQW.out
            go_wp2_with fail
            clear hqw
            ((with_reducible refine (sector_calls ((rd l0 j).tdiv 8) w10).mono ?_))
            rintro e w11 ⟨A11, c11, rfl, hr, hb⟩
            have RT11 := RT10.out.below hb
            have R711 := R710.out.below hb
            have R811 := R810.out.below hb
            have RB11 := RB10.out.trans (hb.mono RB10.out.size)
            have Q11 := RT10.out.fresh hr
            clear K1 hr hb RT10 R710 R810 RB10
            obtain ⟨A12, c12, K2, -⟩ := R811.cell ha8
            have z2 := R811.1.free a
            have y0 := eq_true (show (0 : Int) ≤ (a : Int) by omega)
            have y1 := eq_true (show (a : Int) < 8 by omega)
            have WA := R811.set ha8 (secI_len _) Q11
            have ex : (eight zs8 ((l0.take j).map wrI)).set a (secI ((rd l0 j).tdiv 8)) = eight zs8 ((l0.take (j + 1)).map wrI) := by
              rw [take_rd (show j < l0.length by omega), List.map_append, ← eight_snoc _ _ _ ha8, ← HA.out]
              rfl
            rw [ex] at WA
            have hfar : ∀ k, k ≠ b8 → (w11.setCell ⟨b8, a, none⟩ (.slice A11 64 c11)).heap[k]? = w11.heap[k]? := fun k hk => Below.heap_setCell w11 ⟨b8, a, none⟩ _ k hk
            have V1 := Aside0.mk (RT11.far R811.2.2.2.1 hfar (by simp [World.setCell]))
            have V2 := Aside0.mk (R711.far' R811.1 (Ne.symm HNE.out) (by decide) hfar)
            have V3 := Aside0.mk WA
            have V4 := Aside0.mk (R811.bel RB11 a (.slice A11 64 c11))
            clear WA ex hfar RT11 R711 R811 RB11 Q11
            go_wp2_with fail
            go_roundw
            case rel => exact ⟨j + 1, _, _, okA8, okB10, by omega, by go_num, V1, V2, V3, V4⟩
            case measure => simp [intOf]; omega
          · have dF : ((j : Int) == (F : Int)) = false := by simp; omega
            have dF2 : (j == F) = false := by simp; omega
            have RTM := Aside0.mk (show Two w.heap.size w3 okA okB g h (eM l0 F j) (eM l0 F j) by rw [eM_go l0 F j hjF]; exact RT3.out)
            have R7M := Aside0.mk (show Wants w.heap.size w3 (okU okA okB) b7 vs7 (eight zs8 (stayL l0 F (j + 1))) by rw [← stay_go l0 hjF]; exact R73.out)
            have R8M := R83
            have RBM := RB3
            clear RT3 R73 R83 RB3 hjF
            obtain ⟨wM, hwM⟩ : ∃ wM, wM = w3 := ⟨_, rfl⟩
            subst hwM
            have K1 := HCF.out wM RBM.out
            go_wp2_with fail
            ((with_reducible refine (encoreref00_Bring.calls (rd l0 j) 8 (a : Int) wM HBG.out).mono ?_))
            rintro e w6 ⟨rfl, hd⟩
            have hb6 := hd.below
            have RT6 := Aside0.mk (RTM.out.below hb6)
            have R76 := Aside0.mk (R7M.out.below hb6)
            have R86 := Aside0.mk (R8M.out.below hb6)
            have RB6 := Aside0.mk (RBM.out.trans (hb6.mono RBM.out.size))
            clear K1 hd hb6 RTM R7M R8M RBM
            have K1 := HCF.out w6 RB6.out
            have hqw := HQW.out
            go_wp2_with fail
            clear hqw
            ((with_reducible refine (sector_calls ((rd l0 j).tdiv 8) w6).mono ?_))
            rintro e w7 ⟨A7, c7, rfl, hr, hb⟩
            have RT7 := Aside0.mk (RT6.out.below hb)
            have R77 := Aside0.mk (R76.out.below hb)
            have R87 := Aside0.mk (R86.out.below hb)
            have RB7 := Aside0.mk (RB6.out.trans (hb.mono RB6.out.size))
            have Q7 := Aside0.mk (row_A (RT6.out.fresh hr))
            clear K1 hr hb RT6 R76 R86 RB6
            go_wp2_with fail
            ((with_reducible refine (LWrite w.heap.size w7 okA g (eM l0 F j) (eH l0 F (j + 1)) 0 ((rd l0 j).tdiv 8) (a : Int) A7 c7 (Two.a RT7.out) HSM.out.2.1 Q7.out HWR.out).mono ?_))
            rintro e w8 ⟨rfl, okA8, hd, hm⟩
            obtain ⟨ht8, hm8⟩ := RT7.out.moveA hd hm
            have RT8 := Aside0.mk ht8
            have R78 := Aside0.mk (R77.out.moves hm8)
            have R88 := Aside0.mk (R87.out.moves hm8)
            have RB8 := Aside0.mk (RB7.out.trans hm8.1)
            clear hd hm ht8 hm8 RT7 R77 R87 RB7 Q7
            have K1 := HCF.out w8 RB8.out
            have hqw := HQW.out
            go_wp2_with fail
            clear hqw
            ((with_reducible refine (sector_calls ((rd l0 j).tdiv 8) w8).mono ?_))
            rintro e w9 ⟨A9, c9, rfl, hr, hb⟩
            have RT9 := Aside0.mk (RT8.out.below hb)
            have R79 := Aside0.mk (R78.out.below hb)
            have R89 := Aside0.mk (R88.out.below hb)
            have RB9 := Aside0.mk (RB8.out.trans (hb.mono RB8.out.size))
            have Q9 := Aside0.mk (row_B (RT8.out.fresh hr))
            clear K1 hr hb RT8 R78 R88 RB8
            go_wp2_with fail
            ((with_reducible refine (LWrite w.heap.size w9 okB h (eM l0 F j) (eH l0 F (j + 1)) 0 ((rd l0 j).tdiv 8) (a : Int) A9 c9 (Two.b RT9.out) HSM.out.2.1 Q9.out HWR.out).mono ?_))
            rintro e w10 ⟨rfl, okB10, hd, hm⟩
            obtain ⟨ht10, hm10⟩ := RT9.out.moveB hd hm
            have RT10 := Aside0.mk ht10
            have R710 := Aside0.mk (R79.out.moves hm10)
            have R810 := Aside0.mk (R89.out.moves hm10)
            have RB10 := Aside0.mk (RB9.out.trans hm10.1)
            clear hd hm ht10 hm10 RT9 R79 R89 RB9 Q9
            have K1 := HCF.out w10 RB10.out
            have hqw := HQW.out
            go_wp2_with fail
            clear hqw
            ((with_reducible refine (sector_calls ((rd l0 j).tdiv 8) w10).mono ?_))
            rintro e w11 ⟨A11, c11, rfl, hr, hb⟩
            have RT11 := RT10.out.below hb
            have R711 := R710.out.below hb
            have R811 := R810.out.below hb
            have RB11 := RB10.out.trans (hb.mono RB10.out.size)
            have Q11 := RT10.out.fresh hr
            clear K1 hr hb RT10 R710 R810 RB10
            obtain ⟨A12, c12, K2, -⟩ := R811.cell ha8
            have z2 := R811.1.free a
            have y0 := eq_true (show (0 : Int) ≤ (a : Int) by omega)
            have y1 := eq_true (show (a : Int) < 8 by omega)
            have WA := R811.set ha8 (secI_len _) Q11
            have ex : (eight zs8 ((l0.take j).map wrI)).set a (secI ((rd l0 j).tdiv 8)) = eight zs8 ((l0.take (j + 1)).map wrI) := by
              rw [take_rd (show j < l0.length by omega), List.map_append, ← eight_snoc _ _ _ ha8, ← HA.out]
              rfl
            rw [ex] at WA
            have hfar : ∀ k, k ≠ b8 → (w11.setCell ⟨b8, a, none⟩ (.slice A11 64 c11)).heap[k]? = w11.heap[k]? := fun k hk => Below.heap_setCell w11 ⟨b8, a, none⟩ _ k hk
            have V1 := Aside0.mk (RT11.far R811.2.2.2.1 hfar (by simp [World.setCell]))
            have V2 := Aside0.mk (R711.far' R811.1 (Ne.symm HNE.out) (by decide) hfar)
            have V3 := Aside0.mk WA
            have V4 := Aside0.mk (R811.bel RB11 a (.slice A11 64 c11))
            clear WA ex hfar RT11 R711 R811 RB11 Q11
            go_wp2_with fail
            go_roundw
            case rel => exact ⟨j + 1, _, _, okA8, okB10, by omega, by go_num, V1, V2, V3, V4⟩
            case measure => simp [intOf]; omega
        · obtain rfl : j = N0 := by omega
          by_cases hll : j < l0.length
          · have d1 : decide ((j : Int) < (l0.length : Int)) = true := decide_eq_true (by omega)
            have d2 : decide (j < l0.length) = true := decide_eq_true (by omega)
            have d3 : decide ((j : Int) < 40) = false := decide_eq_false (by omega)
            have d4 : decide (j < 40) = false := decide_eq_false (by omega)
            clear hll hlt hN3
            obtain ⟨n0, hn0⟩ : ∃ n0, n0 = j := ⟨_, rfl⟩
            subst hn0
            have HS0 := Aside0.mk (eH_small l0 F n0 (by omega))
            go_wp2_with fail
            go_loopw [12] (fun i wr => ∃ (j : Nat), j ≤ 8 ∧ i = .int .i64 (j : Nat) ∧ Aside0 (Two w.heap.size wr okA okB g h (eH l0 F n0) (eH l0 F n0)) ∧ Aside0 (Wants w.heap.size wr (okU okA okB) b7 vs7 (eight zs8 (stayL l0 F n0))) ∧ Aside0 (Wants w.heap.size wr (okU okA okB) b8 vs8 (eight zs8 ((l0.take n0).map wrI))) ∧ Aside0 (Below w.heap.size w wr)) (fun i _ => 8 - (intOf i).toNat)
            case atStart => exact ⟨0, by omega, rfl, RT, R7, R8, RB⟩
            case round =>
              clear RT R7 R8 RB d1 d2
              obtain ⟨i, hi, rfl, RT, R7, R8, RB⟩ := hrel
              by_cases hlt : i < 8
              · have d1 : decide ((i : Int) < 8) = true := decide_eq_true (by omega)
                have d2 : decide (i < 8) = true := decide_eq_true (by omega)
                have b0 := eq_true (show (0 : Int) ≤ (i : Int) by omega)
                have b1 := eq_true (show (i : Int) < 8 by omega)
                have HRD := Aside0.mk (ends_seen l0 F n0 hlt)
                obtain ⟨A9, c9, K2, hr9⟩ := R8.out.cell hlt
                rw [eight_getD _ _ hlt] at K2 hr9
                have hcl : (curS zs8 ((l0.take n0).map wrI) i).length = 64 := curS_len (secOf_len zs8_len hlt) (fun p hp => (take_fits l0 n0 p hp).2.2)
                rw [hcl] at K2 hr9
                have HCL := Aside0.mk hcl
                have R9 := Aside0.mk (row_A hr9)
                clear hcl hr9
                go_wp2_with fail
                ((with_reducible refine (LHas w.heap.size wr okA g (eH l0 F n0) (i : Int) A9 64 c9 (curS zs8 ((l0.take n0).map wrI) i) (Two.a RT.out) R9.out HCL.out (by decide) HRD.out.1 HRD.out.2).mono ?_))
                rintro e w6 ⟨rfl, hb⟩
                have T1 := Aside0.mk (RT.out.below hb)
                have T2 := Aside0.mk (R7.out.below hb)
                have T3 := Aside0.mk (R8.out.below hb)
                have T4 := Aside0.mk (RB.out.trans (hb.mono RB.out.size))
                clear hb RT R7 R8 RB R9 K2
                go_wp2_with fail
                go_roundw
                case rel => exact ⟨i + 1, by omega, by go_num, T1, T2, T3, T4⟩
                case measure => simp [intOf]; omega
              · obtain rfl : i = 8 := by omega
                have d1 : decide (((8 : Nat) : Int) < 8) = false := rfl
                have d2 : decide ((8 : Int) < 8) = false := rfl
                have e8c : ((8 : Nat) : Int) = 8 := rfl
                rw [e8c]
                clear e8c
                obtain ⟨sa, hsa⟩ : ∃ sa, sa = goneS (eH l0 F n0) 18446744073709551615 64 := ⟨_, rfl⟩
                obtain ⟨sb, hsb⟩ : ∃ sb, sb = goneS (eH l0 F n0) 0 64 := ⟨_, rfl⟩
                have hed : (eH l0 F n0).dead = false := by unfold eH; split <;> rfl
                have HCA := Aside0.mk (show crashF (eH l0 F n0) 18446744073709551615 64 = (0, sa) by rw [hsa]; exact crash_alive hed _ _)
                have HCB := Aside0.mk (show crashF (eH l0 F n0) 0 64 = (0, sb) by rw [hsb]; exact crash_alive hed _ _)
                have HSA := Aside0.mk hsa
                have HSB := Aside0.mk hsb
                clear hsa hsb hed hlt hi
                go_wp2_with fail
                ((with_reducible refine (LCrash w.heap.size wr okA g (eH l0 F n0) sa 0 18446744073709551615 64 (Two.a RT.out) HS0.out HCA.out).mono ?_))
                rintro e w4 ⟨rfl, okA4, hd, hm⟩
                obtain ⟨ht4, hm4⟩ := RT.out.moveA hd hm
                have RT4 := Aside0.mk ht4
                have R74 := Aside0.mk (R7.out.moves hm4)
                have R84 := Aside0.mk (R8.out.moves hm4)
                have RB4 := Aside0.mk (RB.out.trans hm4.1)
                clear hd hm ht4 hm4 RT R7 R8 RB
                go_wp2_with fail
                ((with_reducible refine (LCrash w.heap.size w4 okB h (eH l0 F n0) sb 0 0 64 (Two.b RT4.out) HS0.out HCB.out).mono ?_))
                rintro e w5 ⟨rfl, okB5, hd, hm⟩
                obtain ⟨ht5, hm5⟩ := RT4.out.moveB hd hm
                have RT5 := Aside0.mk ht5
                have R75 := Aside0.mk (R74.out.moves hm5)
                have R85 := Aside0.mk (R84.out.moves hm5)
                have RB5 := Aside0.mk (RB4.out.trans hm5.1)
                clear hd hm ht5 hm5 RT4 R74 R84 RB4
                go_wp2_with fail
                ((with_reducible refine (LBoot w.heap.size w5 okA4 g sa (Two.a RT5.out)).mono ?_))
                rintro e w6 ⟨rfl, okA6, hd, hm⟩
                obtain ⟨ht6, hm6⟩ := RT5.out.moveA hd hm
                have RT6 := Aside0.mk ht6
                have R76 := Aside0.mk (R75.out.moves hm6)
                have R86 := Aside0.mk (R85.out.moves hm6)
                have RB6 := Aside0.mk (RB5.out.trans hm6.1)
                clear hd hm ht6 hm6 RT5 R75 R85 RB5
                go_wp2_with fail
                ((with_reducible refine (LBoot w.heap.size w6 okB5 h sb (Two.b RT6.out)).mono ?_))
                rintro e w7 ⟨rfl, okB7, hd, hm⟩
                obtain ⟨ht7, hm7⟩ := RT6.out.moveB hd hm
                obtain ⟨sa', hsa'⟩ : ∃ sa', sa' = bootS sa := ⟨_, rfl⟩
                obtain ⟨sb', hsb'⟩ : ∃ sb', sb' = bootS sb := ⟨_, rfl⟩
                rw [← hsa', ← hsb'] at ht7
                have HSA' := Aside0.mk hsa'
                have HSB' := Aside0.mk hsb'
                have RT7 := Aside0.mk ht7
                have R77 := Aside0.mk (R76.out.moves hm7)
                have R87 := Aside0.mk (R86.out.moves hm7)
                have RB7 := Aside0.mk (RB6.out.trans hm7.1)
                clear hd hm ht7 hm7 RT6 R76 R86 RB6 hsa' hsb'
                go_wp2_with fail
                go_loopw [13] (fun i wr => ∃ (j : Nat), j ≤ 8 ∧ i = .int .i64 (j : Nat) ∧ Aside0 (Two w.heap.size wr okA6 okB7 g h sa' sb') ∧ Aside0 (Wants w.heap.size wr (okU okA6 okB7) b7 vs7 (eight zs8 (stayL l0 F n0))) ∧ Aside0 (Wants w.heap.size wr (okU okA6 okB7) b8 vs8 (eight zs8 ((l0.take n0).map wrI))) ∧ Aside0 (Below w.heap.size w wr)) (fun i _ => 8 - (intOf i).toNat)
                case atStart => exact ⟨0, by omega, rfl, RT7, R77, R87, RB7⟩
                case round =>
                  clear RT7 R77 R87 RB7 d1 d2
                  obtain ⟨i, hi, rfl, RT, R7, R8, RB⟩ := hrel
                  by_cases hlt : i < 8
                  · have d1 : decide ((i : Int) < 8) = true := decide_eq_true (by omega)
                    have d2 : decide (i < 8) = true := decide_eq_true (by omega)
                    have b0 := eq_true (show (0 : Int) ≤ (i : Int) by omega)
                    have b1 := eq_true (show (i : Int) < 8 by omega)
                    have HRA := Aside0.mk (show thereE sa' i = 0 ∧ readF sa' i = curS zs8 ((l0.take n0).map wrI) i by rw [HSA'.out, HSA.out]; exact ends_all l0 F n0 hlt)
                    have HRB := Aside0.mk (show thereE sb' i = 0 ∧ readF sb' i = curS zs8 (stayL l0 F n0) i by rw [HSB'.out, HSB.out]; exact ends_none l0 F n0 hlt)
                    obtain ⟨A9, c9, K2, hr9⟩ := R8.out.cell hlt
                    rw [eight_getD _ _ hlt] at K2 hr9
                    have hcl : (curS zs8 ((l0.take n0).map wrI) i).length = 64 := curS_len (secOf_len zs8_len hlt) (fun p hp => (take_fits l0 n0 p hp).2.2)
                    rw [hcl] at K2 hr9
                    have HCL := Aside0.mk hcl
                    have R9 := Aside0.mk (row_A hr9)
                    clear hcl hr9
                    go_wp2_with fail
                    ((with_reducible refine (LHas w.heap.size wr okA6 g sa' (i : Int) A9 64 c9 (curS zs8 ((l0.take n0).map wrI) i) (Two.a RT.out) R9.out HCL.out (by decide) HRA.out.1 HRA.out.2).mono ?_))
                    rintro e w6 ⟨rfl, hb⟩
                    have T1 := Aside0.mk (RT.out.below hb)
                    have T2 := Aside0.mk (R7.out.below hb)
                    have T3 := Aside0.mk (R8.out.below hb)
                    have T4 := Aside0.mk (RB.out.trans (hb.mono RB.out.size))
                    clear hb RT R7 R8 RB R9 K2
                    obtain ⟨A8, c8, K2, hr9⟩ := T2.out.cell hlt
                    rw [eight_getD _ _ hlt] at K2 hr9
                    have hcl : (curS zs8 (stayL l0 F n0) i).length = 64 := curS_len (secOf_len zs8_len hlt) (fun p hp => (stay_fits l0 F n0 p hp).2.2)
                    rw [hcl] at K2 hr9
                    have HCL2 := Aside0.mk hcl
                    have R9 := Aside0.mk (row_B hr9)
                    clear hcl hr9
                    go_wp2_with fail
                    ((with_reducible refine (LHas w.heap.size w6 okB7 h sb' (i : Int) A8 64 c8 (curS zs8 (stayL l0 F n0) i) (Two.b T1.out) R9.out HCL2.out (by decide) HRB.out.1 HRB.out.2).mono ?_))
                    rintro e w7 ⟨rfl, hb⟩
                    have V1 := Aside0.mk (T1.out.below hb)
                    have V2 := Aside0.mk (T2.out.below hb)
                    have V3 := Aside0.mk (T3.out.below hb)
                    have V4 := Aside0.mk (T4.out.trans (hb.mono T4.out.size))
                    clear hb T1 T2 T3 T4 R9 K2
                    go_wp2_with fail
                    go_roundw
                    case rel => exact ⟨i + 1, by omega, by go_num, V1, V2, V3, V4⟩
                    case measure => simp [intOf]; omega
                  · obtain rfl : i = 8 := by omega
                    have d1 : decide (((8 : Nat) : Int) < 8) = false := rfl
                    have d2 : decide ((8 : Int) < 8) = false := rfl
                    go_wp2_with fail
                    ((with_reducible refine (works_calls wr).mono ?_))
                    rintro e w6 ⟨rfl, hb⟩
                    have T4 := Aside0.mk (RB.out.trans (hb.mono RB.out.size))
                    clear hb
                    go_wp2_with fail
                    go_ret
                    exact ⟨rfl, T4.out⟩
          · have d1 : decide ((j : Int) < (l0.length : Int)) = false := decide_eq_false (by omega)
            have d2 : decide (j < l0.length) = false := decide_eq_false (by omega)
            clear hll hlt hN3
            obtain ⟨n0, hn0⟩ : ∃ n0, n0 = j := ⟨_, rfl⟩
            subst hn0
            have HS0 := Aside0.mk (eH_small l0 F n0 (by omega))
            go_wp2_with fail
            go_loopw [12] (fun i wr => ∃ (j : Nat), j ≤ 8 ∧ i = .int .i64 (j : Nat) ∧ Aside0 (Two w.heap.size wr okA okB g h (eH l0 F n0) (eH l0 F n0)) ∧ Aside0 (Wants w.heap.size wr (okU okA okB) b7 vs7 (eight zs8 (stayL l0 F n0))) ∧ Aside0 (Wants w.heap.size wr (okU okA okB) b8 vs8 (eight zs8 ((l0.take n0).map wrI))) ∧ Aside0 (Below w.heap.size w wr)) (fun i _ => 8 - (intOf i).toNat)
            case atStart => exact ⟨0, by omega, rfl, RT, R7, R8, RB⟩
            case round =>
              clear RT R7 R8 RB d1 d2
              obtain ⟨i, hi, rfl, RT, R7, R8, RB⟩ := hrel
              by_cases hlt : i < 8
              · have d1 : decide ((i : Int) < 8) = true := decide_eq_true (by omega)
                have d2 : decide (i < 8) = true := decide_eq_true (by omega)
                have b0 := eq_true (show (0 : Int) ≤ (i : Int) by omega)
                have b1 := eq_true (show (i : Int) < 8 by omega)
                have HRD := Aside0.mk (ends_seen l0 F n0 hlt)
                obtain ⟨A9, c9, K2, hr9⟩ := R8.out.cell hlt
                rw [eight_getD _ _ hlt] at K2 hr9
                have hcl : (curS zs8 ((l0.take n0).map wrI) i).length = 64 := curS_len (secOf_len zs8_len hlt) (fun p hp => (take_fits l0 n0 p hp).2.2)
                rw [hcl] at K2 hr9
                have HCL := Aside0.mk hcl
                have R9 := Aside0.mk (row_A hr9)
                clear hcl hr9
                go_wp2_with fail
                ((with_reducible refine (LHas w.heap.size wr okA g (eH l0 F n0) (i : Int) A9 64 c9 (curS zs8 ((l0.take n0).map wrI) i) (Two.a RT.out) R9.out HCL.out (by decide) HRD.out.1 HRD.out.2).mono ?_))
                rintro e w6 ⟨rfl, hb⟩
                have T1 := Aside0.mk (RT.out.below hb)
                have T2 := Aside0.mk (R7.out.below hb)
                have T3 := Aside0.mk (R8.out.below hb)
                have T4 := Aside0.mk (RB.out.trans (hb.mono RB.out.size))
                clear hb RT R7 R8 RB R9 K2
                go_wp2_with fail
                go_roundw
                case rel => exact ⟨i + 1, by omega, by go_num, T1, T2, T3, T4⟩
                case measure => simp [intOf]; omega
              · obtain rfl : i = 8 := by omega
                have d1 : decide (((8 : Nat) : Int) < 8) = false := rfl
                have d2 : decide ((8 : Int) < 8) = false := rfl
                have e8c : ((8 : Nat) : Int) = 8 := rfl
                rw [e8c]
                clear e8c
                obtain ⟨sa, hsa⟩ : ∃ sa, sa = goneS (eH l0 F n0) 18446744073709551615 64 := ⟨_, rfl⟩
                obtain ⟨sb, hsb⟩ : ∃ sb, sb = goneS (eH l0 F n0) 0 64 := ⟨_, rfl⟩
                have hed : (eH l0 F n0).dead = false := by unfold eH; split <;> rfl
                have HCA := Aside0.mk (show crashF (eH l0 F n0) 18446744073709551615 64 = (0, sa) by rw [hsa]; exact crash_alive hed _ _)
                have HCB := Aside0.mk (show crashF (eH l0 F n0) 0 64 = (0, sb) by rw [hsb]; exact crash_alive hed _ _)
                have HSA := Aside0.mk hsa
                have HSB := Aside0.mk hsb
                clear hsa hsb hed hlt hi
                go_wp2_with fail
                ((with_reducible refine (LCrash w.heap.size wr okA g (eH l0 F n0) sa 0 18446744073709551615 64 (Two.a RT.out) HS0.out HCA.out).mono ?_))
                rintro e w4 ⟨rfl, okA4, hd, hm⟩
                obtain ⟨ht4, hm4⟩ := RT.out.moveA hd hm
                have RT4 := Aside0.mk ht4
                have R74 := Aside0.mk (R7.out.moves hm4)
                have R84 := Aside0.mk (R8.out.moves hm4)
                have RB4 := Aside0.mk (RB.out.trans hm4.1)
                clear hd hm ht4 hm4 RT R7 R8 RB
                go_wp2_with fail
                ((with_reducible refine (LCrash w.heap.size w4 okB h (eH l0 F n0) sb 0 0 64 (Two.b RT4.out) HS0.out HCB.out).mono ?_))
                rintro e w5 ⟨rfl, okB5, hd, hm⟩
                obtain ⟨ht5, hm5⟩ := RT4.out.moveB hd hm
                have RT5 := Aside0.mk ht5
                have R75 := Aside0.mk (R74.out.moves hm5)
                have R85 := Aside0.mk (R84.out.moves hm5)
                have RB5 := Aside0.mk (RB4.out.trans hm5.1)
                clear hd hm ht5 hm5 RT4 R74 R84 RB4
                go_wp2_with fail
                ((with_reducible refine (LBoot w.heap.size w5 okA4 g sa (Two.a RT5.out)).mono ?_))
                rintro e w6 ⟨rfl, okA6, hd, hm⟩
                obtain ⟨ht6, hm6⟩ := RT5.out.moveA hd hm
                have RT6 := Aside0.mk ht6
                have R76 := Aside0.mk (R75.out.moves hm6)
                have R86 := Aside0.mk (R85.out.moves hm6)
                have RB6 := Aside0.mk (RB5.out.trans hm6.1)
                clear hd hm ht6 hm6 RT5 R75 R85 RB5
                go_wp2_with fail
                ((with_reducible refine (LBoot w.heap.size w6 okB5 h sb (Two.b RT6.out)).mono ?_))
                rintro e w7 ⟨rfl, okB7, hd, hm⟩
                obtain ⟨ht7, hm7⟩ := RT6.out.moveB hd hm
                obtain ⟨sa', hsa'⟩ : ∃ sa', sa' = bootS sa := ⟨_, rfl⟩
                obtain ⟨sb', hsb'⟩ : ∃ sb', sb' = bootS sb := ⟨_, rfl⟩
                rw [← hsa', ← hsb'] at ht7
                have HSA' := Aside0.mk hsa'
                have HSB' := Aside0.mk hsb'
                have RT7 := Aside0.mk ht7
                have R77 := Aside0.mk (R76.out.moves hm7)
                have R87 := Aside0.mk (R86.out.moves hm7)
                have RB7 := Aside0.mk (RB6.out.trans hm7.1)
                clear hd hm ht7 hm7 RT6 R76 R86 RB6 hsa' hsb'
                go_wp2_with fail
                go_loopw [13] (fun i wr => ∃ (j : Nat), j ≤ 8 ∧ i = .int .i64 (j : Nat) ∧ Aside0 (Two w.heap.size wr okA6 okB7 g h sa' sb') ∧ Aside0 (Wants w.heap.size wr (okU okA6 okB7) b7 vs7 (eight zs8 (stayL l0 F n0))) ∧ Aside0 (Wants w.heap.size wr (okU okA6 okB7) b8 vs8 (eight zs8 ((l0.take n0).map wrI))) ∧ Aside0 (Below w.heap.size w wr)) (fun i _ => 8 - (intOf i).toNat)
                case atStart => exact ⟨0, by omega, rfl, RT7, R77, R87, RB7⟩
                case round =>
                  clear RT7 R77 R87 RB7 d1 d2
                  obtain ⟨i, hi, rfl, RT, R7, R8, RB⟩ := hrel
                  by_cases hlt : i < 8
                  · have d1 : decide ((i : Int) < 8) = true := decide_eq_true (by omega)
                    have d2 : decide (i < 8) = true := decide_eq_true (by omega)
                    have b0 := eq_true (show (0 : Int) ≤ (i : Int) by omega)
                    have b1 := eq_true (show (i : Int) < 8 by omega)
                    have HRA := Aside0.mk (show thereE sa' i = 0 ∧ readF sa' i = curS zs8 ((l0.take n0).map wrI) i by rw [HSA'.out, HSA.out]; exact ends_all l0 F n0 hlt)
                    have HRB := Aside0.mk (show thereE sb' i = 0 ∧ readF sb' i = curS zs8 (stayL l0 F n0) i by rw [HSB'.out, HSB.out]; exact ends_none l0 F n0 hlt)
                    obtain ⟨A9, c9, K2, hr9⟩ := R8.out.cell hlt
                    rw [eight_getD _ _ hlt] at K2 hr9
                    have hcl : (curS zs8 ((l0.take n0).map wrI) i).length = 64 := curS_len (secOf_len zs8_len hlt) (fun p hp => (take_fits l0 n0 p hp).2.2)
                    rw [hcl] at K2 hr9
                    have HCL := Aside0.mk hcl
                    have R9 := Aside0.mk (row_A hr9)
                    clear hcl hr9
                    go_wp2_with fail
                    ((with_reducible refine (LHas w.heap.size wr okA6 g sa' (i : Int) A9 64 c9 (curS zs8 ((l0.take n0).map wrI) i) (Two.a RT.out) R9.out HCL.out (by decide) HRA.out.1 HRA.out.2).mono ?_))
                    rintro e w6 ⟨rfl, hb⟩
                    have T1 := Aside0.mk (RT.out.below hb)
                    have T2 := Aside0.mk (R7.out.below hb)
                    have T3 := Aside0.mk (R8.out.below hb)
                    have T4 := Aside0.mk (RB.out.trans (hb.mono RB.out.size))
                    clear hb RT R7 R8 RB R9 K2
                    obtain ⟨A8, c8, K2, hr9⟩ := T2.out.cell hlt
                    rw [eight_getD _ _ hlt] at K2 hr9
                    have hcl : (curS zs8 (stayL l0 F n0) i).length = 64 := curS_len (secOf_len zs8_len hlt) (fun p hp => (stay_fits l0 F n0 p hp).2.2)
                    rw [hcl] at K2 hr9
                    have HCL2 := Aside0.mk hcl
                    have R9 := Aside0.mk (row_B hr9)
                    clear hcl hr9
                    go_wp2_with fail
                    ((with_reducible refine (LHas w.heap.size w6 okB7 h sb' (i : Int) A8 64 c8 (curS zs8 (stayL l0 F n0) i) (Two.b T1.out) R9.out HCL2.out (by decide) HRB.out.1 HRB.out.2).mono ?_))
                    rintro e w7 ⟨rfl, hb⟩
                    have V1 := Aside0.mk (T1.out.below hb)
                    have V2 := Aside0.mk (T2.out.below hb)
                    have V3 := Aside0.mk (T3.out.below hb)
                    have V4 := Aside0.mk (T4.out.trans (hb.mono T4.out.size))
                    clear hb T1 T2 T3 T4 R9 K2
                    go_wp2_with fail
                    go_roundw
                    case rel => exact ⟨i + 1, by omega, by go_num, V1, V2, V3, V4⟩
                    case measure => simp [intOf]; omega
                  · obtain rfl : i = 8 := by omega
                    have d1 : decide (((8 : Nat) : Int) < 8) = false := rfl
                    have d2 : decide ((8 : Int) < 8) = false := rfl
                    go_wp2_with fail
                    ((with_reducible refine (works_calls wr).mono ?_))
                    rintro e w6 ⟨rfl, hb⟩
                    have T4 := Aside0.mk (RB.out.trans (hb.mono RB.out.size))
                    clear hb
                    go_wp2_with fail
                    go_ret
                    exact ⟨rfl, T4.out⟩
def encorelaw03_DiskEnds.f (l0 : List Int) (a1 : Int) : Option Bool := if (∀ x ∈ l0, (Lit.int .i64 x).wf = true) then some true else none
theorem encorelaw03_DiskEnds.calls (A0 : Option Addr) (c0 : Nat) (l0 : List Int) (a1 : Int) (r : Bool) (w : World) (hr0 : Kd.C (Kd.int .i64) w A0 l0.length l0) (hc0 : l0.length ≤ c0) (h : encorelaw03_DiskEnds.f l0 a1 = some r) :
    Calls Try.prog 4 #[.slice A0 l0.length c0, .int .i64 a1] w fun e w' => e = .returned (.bool r) ∧ Below w.heap.size w w' := by
  unfold encorelaw03_DiskEnds.f at h
  split at h
  case isTrue hc =>
    obtain rfl := Option.some.inj h
    exact ends_calls A0 c0 l0 a1 w hr0 hc0 hc
  case isFalse => cases h
end Go.Proofs.Ytkmgbmnjabmhaaa.Ext
