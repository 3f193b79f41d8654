import Derived.Test.YtgfjijfjlbjajaaFrameNext
/- frame.All, walked. Condition: rows that append bears. -/
namespace Go.Proofs.Ytgfjijfjlbjajaa.Ext
open Go.RowKit Go.Proofs.YtgfjijfjlbjajaaW.PrintWords Go.Proofs.YtgfjijfjlbjajaaW.PrintLast Go.Proofs.YtgfjijfjlbjajaaW.PrintMore Go.Proofs.Ytgfjijfjlbjajaa.Base Go.Proofs.Ytgfjijfjlbjajaa.Arr Go.Proofs.Ytgfjijfjlbjajaa.Mid
set_option linter.unusedVariables false
set_option linter.unusedSimpArgs false

theorem infoRow : (Try.prog.info? 22).map (fun i => (i.zero, i.size, i.bytes)) = some (some (.slice none 0 0), 1, 24) := by kernel_rfl
/-- the payloads that are whole, what is left, what is told -/
def allF : Nat → List Int → List (List Int) → Option (List (List Int) × Int × Int)
  | 0, _, _ => none
  | k + 1, x, y => if x.length = 0 then some (y, 0, 0) else (firstF x).bind fun q =>
      if q.2.2.2 = 0 then (if 0 < q.1 ∧ q.1 ≤ q.2.1 ∧ q.2.2.1 = q.2.1 + 4 ∧ q.2.2.1 ≤ (x.length : Int) ∧ x.length < 140737488355328 ∧ y.length < 5864062014805 then allF k (x.drop q.2.2.1.toNat) (y ++ [(x.drop q.1.toNat).take (q.2.1.toNat - q.1.toNat)]) else none)
      else if q.2.2.2 = 3 then some (y, (x.length : Int), 0)
      else some ([], 0, q.2.2.2)
def frame_All.f (l0 : List Int) : Option (List (List Int) × Int × Int) := allF (l0.length + 1) l0 []
set_option maxHeartbeats 8000000 in
set_option maxRecDepth 100000 in
theorem frame_All.calls (A0 : Option Addr) (c0 : Nat) (l0 : List Int) (r1 : List (List Int)) (r2 r3 : Int) (w : World) (hr0 : Kd.C (Kd.int .u8) w A0 l0.length l0) (hc0 : l0.length ≤ c0) (h : frame_All.f l0 = some (r1, r2, r3)) :
    Calls Try.prog 21 #[.slice A0 l0.length c0] w fun e w' => ∃ v0_ : Value, e = .returned (.tuple #[v0_, .int .i64 r2, .int .i64 r3]) ∧ Kd.S (Kd.slice 5 (Kd.int .u8)) 22 w' w.heap.size (fun _ => True) v0_ r1 ∧ Below w.heap.size w w' := by
  have H : allF (l0.length + 1) l0 [] = some (r1, r2, r3) := h
  clear h
  generalize l0.length + 1 = k at H
  have H' := Aside0.mk H
  have HR0 := Aside0.mk (And.intro hr0 hc0)
  clear H hr0 hc0
  go_enter Try.func21, Try.ntmps21
  go_wp2
  go_step3
  go_wp2
  go_step3
  go_wp2
  go_loopg [0, 2] k (fun kq v0 v2 w' => ∃ (x : List Int) (y : List (List Int)) (A : Option Addr) (c : Nat), v0 = .slice A x.length c ∧ Aside0 (allF kq x y = some (r1, r2, r3)) ∧ Aside0 (kq ≤ k) ∧ Aside0 (Kd.C (Kd.int .u8) w A x.length x ∧ x.length ≤ c) ∧ Aside0 (Kd.S (Kd.slice 5 (Kd.int .u8)) 22 w' w.heap.size (fun _ => True) v2 y) ∧ Aside0 (Below w.heap.size w w'))
  case atStart => exact ⟨l0, [], A0, c0, rfl, H', ⟨Nat.le_refl _⟩, HR0, ⟨Kd.S_nil _ _ _ _ _⟩, ⟨Below.refl _ _⟩⟩
  case round =>
    clear H' HR0
    obtain ⟨x, y, A, c, rfl, HA, HK1, HC, HS, HB⟩ := hrel
    cases gk with
    | zero => exact absurd HA.out (by simp [allF])
    | succ k1 =>
      have H := HA.out
      clear HA
      unfold allF at H
      by_cases hx : x.length = 0
      · rw [if_pos hx] at H
        have d1 : decide (0 < (x.length : Int)) = false := decide_eq_false (by omega)
        have d2 : decide (0 < x.length) = false := decide_eq_false (by omega)
        have hx' := Aside0.mk hx
        clear hx
        simp only [Option.some.injEq, Prod.mk.injEq] at H
        obtain ⟨rfl, rfl, rfl⟩ := H
        go_wp2_with fail
        rw [Exit.noGoto_ret]
        go_ret3
        refine ⟨_, ?_, HS.out, HB.out⟩
        rw [hx'.out]
        rfl
      · rw [if_neg hx] at H
        have d1 : decide (0 < (x.length : Int)) = true := decide_eq_true (by omega)
        have d2 : decide (0 < x.length) = true := decide_eq_true (by omega)
        clear hx
        obtain ⟨⟨fa, fb, fc, er⟩, hf, H⟩ := Option.bind_eq_some_iff.mp H
        simp only at H
        have HF := Aside0.mk hf
        clear hf
        by_cases he : er = 0
        · subst he
          rw [if_pos rfl] at H
          by_cases hc : 0 < fa ∧ fa ≤ fb ∧ fc = fb + 4 ∧ fc ≤ (x.length : Int) ∧ x.length < 140737488355328 ∧ y.length < 5864062014805
          case neg => rw [if_neg hc] at H; cases H
          rw [if_pos hc] at H
          obtain ⟨h0, h1, h2, h3, h4, h5⟩ := hc
          obtain ⟨fr, rfl⟩ := Int.eq_ofNat_of_zero_le (show 0 ≤ fa by omega)
          obtain ⟨to_, rfl⟩ := Int.eq_ofNat_of_zero_le (show 0 ≤ fb by omega)
          obtain ⟨en_, rfl⟩ := Int.eq_ofNat_of_zero_le (show 0 ≤ fc by omega)
          simp only [Int.toNat_natCast] at H
          have H' := Aside0.mk H
          clear H
          obtain ⟨ad, rfl, _⟩ := Kd.at_int HC.out.1 0 (Int.le_refl 0) (by omega)
          obtain ⟨i0, hi0, _, hsz0, _⟩ := info_parts infoU8
          have hcc := HC.out.2
          have hcut1 := cut_mid (P := Try.prog) 22 5 .i64 .i64 Try.underlying22 hi0 1 hsz0 (some ad) x.length c (fr : Int) (to_ : Int) (by omega) (by omega) (by omega) hcc
          have hcut2 := cut_from (P := Try.prog) 22 5 .i64 Try.underlying22 hi0 1 hsz0 (some ad) x.length c (en_ : Int) (by omega) (by omega)
          rw [Int.toNat_natCast, Int.toNat_natCast, if_neg (show ¬ c = fr by omega), Nat.mul_one, Option.map_some] at hcut1
          rw [Int.toNat_natCast, Nat.mul_one, Option.map_some] at hcut2
          obtain ⟨A4, hA4⟩ : ∃ A4, A4 = some (ad.add fr) := ⟨_, rfl⟩
          obtain ⟨A5, hA5⟩ : ∃ A5, A5 = (if c = en_ then some ad else some (ad.add en_)) := ⟨_, rfl⟩
          rw [← hA4] at hcut1
          rw [← hA5] at hcut2
          have clone1 : ∀ W : World, Kd.C (Kd.int .u8) W (some ad) x.length x → Calls Try.prog 29 #[.slice A4 (to_ - fr) (c - fr)] W fun e w' => ∃ v0_ : Value, e = .returned (v0_) ∧ Kd.R (Kd.int .u8) 5 w' W.heap.size (fun _ => True) v0_ ((x.drop fr).take (to_ - fr)) ∧ Below W.heap.size W w' := fun W hC => by
            have hlt : ((x.drop fr).take (to_ - fr)).length = to_ - fr := by rw [List.length_take, List.length_drop]; omega
            have := bytes_Clone.calls (some (ad.add fr)) (c - fr) ((x.drop fr).take (to_ - fr)) _ W (C_take (C_drop hC fr) (to_ - fr)) (by rw [hlt]; omega) (by unfold bytes_Clone.f; rw [if_pos (by rw [hlt]; omega)])
            rw [hlt, ← hA4] at this
            exact this
          generalize (x.drop fr).take (to_ - fr) = p at *
          have HCL := Aside0.mk clone1
          have hlt5 : (x.drop en_).length = x.length - en_ := List.length_drop
          have hC5 : Kd.C (Kd.int .u8) w A5 (x.drop en_).length (x.drop en_) := by
            rw [hA5]
            by_cases hce : c = en_
            · rw [if_pos hce, List.drop_eq_nil_of_le (by omega)]
              exact C_empty _
            · rw [if_neg hce]
              exact C_drop HC.out.1 en_
          have HC5 := Aside0.mk (And.intro hC5 (show (x.drop en_).length ≤ c - en_ by rw [hlt5]; omega))
          have HLT5 := Aside0.mk hlt5
          have HY := Aside0.mk h5
          have hsl := Kd.S_lt HS.out
          clear hA4 hA5 h0 h1 h2 h3 h4 h5 hcc clone1 hC5 hlt5
          have HSL := Aside0.mk hsl
          clear hsl
          go_wp2_with fail
          refine (frame_first.calls (some ad) c x fr to_ en_ 0 _ (Kd.C_below HC.out.1 HB.out) HC.out.2 HF.out).mono ?_
          rintro e w1 ⟨rfl, hb1⟩
          have HB1 := Aside0.mk (below_then HB.out HB.out.size hb1)
          have hrow := HoldsRow.new w1 50 #[.int .i64 0, .int .i64 0, .int .i64 0]
          have hb2 := below_setRow (b := w1.heap.size) (below_alloc HB1.out (.cells #[.int .i64 0, .int .i64 0, .int .i64 0] 50)) (trio fr to_ en_) HB1.out.size
          have hrow2 := hrow.row (trio fr to_ en_)
          have hs2 : Kd.S (Kd.slice 5 (Kd.int .u8)) 22 ((w1.alloc (.cells #[.int .i64 0, .int .i64 0, .int .i64 0] 50)).setRow w1.heap.size (trio fr to_ en_)) w.heap.size (fun _ => True) u2 y := Kd.S_step (Kd.S_below HS.out hb1) (fun k _ hk => (setRow_other _ _ k _ (by omega)).trans (Go.heap_alloc_old w1 _ hk))
          have HROW := Aside0.mk hrow
          have hgw := HB1.out.size
          clear hb1 hrow
          obtain ⟨g, hg⟩ : ∃ g, g = w1.heap.size := ⟨_, rfl⟩
          obtain ⟨w2, hw2⟩ : ∃ w2 : World, w2 = (w1.alloc (.cells #[.int .i64 0, .int .i64 0, .int .i64 0] 50)).setRow w1.heap.size (trio fr to_ en_) := ⟨_, rfl⟩
          rw [← hw2, ← hg] at hrow2
          rw [← hw2] at hb2 hs2
          rw [← hg] at hgw
          have HB2 := Aside0.mk hb2
          have HS2 := Aside0.mk hs2
          have HROW2 := Aside0.mk hrow2
          have HGW := Aside0.mk hgw
          have K0 : w2.cell? ⟨g, 0, none⟩ = some (.int .i64 (fr : Nat)) := hrow2.cell rfl
          have K1 : w2.cell? ⟨g, 1, none⟩ = some (.int .i64 (to_ : Nat)) := hrow2.cell rfl
          clear hb2 hs2 hrow2 hgw
          go_wp2_with (first | (refine wpList_store_row rfl 50 _ _ rfl w1.heap.size (trio fr to_ en_) rfl rfl 50 #[.int .i64 0, .int .i64 0, .int .i64 0] HROW.out (by rw [trio_size]; kernel_rfl) rfl (trio_one _ _ _) ?_; rw [← hw2, ← hg]; clear hg hw2 HROW))
          refine (HCL.out w2 (Kd.C_below HC.out.1 HB2.out)).mono ?_
          rintro e w3 ⟨v3, rfl, h3, b3⟩
          obtain ⟨A3, c3, rfl⟩ := Kd.R_slice h3
          have HB3 := Aside0.mk (below_then HB2.out HB2.out.size b3)
          have HR3 := Aside0.mk h3
          have HS3 := Aside0.mk (Kd.S_old HS2.out b3)
          have HROW3 := Aside0.mk (HROW2.out.below b3 HROW2.out.lt)
          have HLT2 := Aside0.mk (Kd.S_lt HS2.out)
          have HSZ := Aside0.mk HB2.out.size
          have hne : some g ≠ u2.ownBlock := fun he => by
            obtain ⟨cells, hcl⟩ := Kd.S_typed HS2.out g he.symm
            have := hcl.symm.trans HROW2.out
            simp at this
          have HNE := Aside0.mk hne
          have HK1' := Aside0.mk (fun (k : Nat) (hk : some k = (Value.slice A3 p.length c3).ownBlock) => (And.intro trivial (fun he => absurd (HLT2.out k he.symm) (Nat.not_lt.mpr (Kd.R_base h3 k hk.symm))) : True ∧ some k ≠ u2.ownBlock))
          have HO1 := Aside0.mk (Kd.S_mono (ok' := fun k => True ∧ ¬ some k = (Value.slice A3 p.length c3).ownBlock) HS3.out (fun k hk => ⟨trivial, fun he => absurd hk.2 (Nat.not_lt.mpr (Kd.R_base h3 k he.symm))⟩))
          have HP1 := Aside0.mk (Kd.M_row (Kd.R_lower (Kd.R_tight rfl h3) HSZ.out))
          clear h3 b3 hne K0 K1 HB2 HB1 HS2 HROW2
          go_wp2_with (first | (at_builtin; refine Kd.S_append (Kd.slice 5 (Kd.int .u8)) (w0 := w) w.heap.size rfl (.tmp 19) (.tmp 29) 38 22 (.slice none 0 0) 24 rfl Try.underlying38 infoRow rfl (by decide) (by omega) u2 y p [.slice A3 p.length c3] (fun _ => True) (fun k => some k = (Value.slice A3 p.length c3).ownBlock) rfl rfl HP1.out HK1'.out (fun _ _ => trivial) HO1.out HB3.out HB3.out.size ?aL ?_; (case aL => have := HY.out; omega); intro v4 w4 ho hb hg hat; have HS4 := Aside0.mk ho; have HB4 := Aside0.mk hb; have HROW4 := Aside0.mk (show HoldsRow w4 g 50 (trio fr to_ en_) from blk_grown HROW3.out hg HNE.out); have K2 : w4.cell? ⟨g, 2, none⟩ = some (.int .i64 (en_ : Nat)) := HROW4.out.cell rfl; clear ho hb hg hat))
          go_roundg k1
          case measure => have := HK1.out; omega
          case rel => exact ⟨x.drop en_, y ++ [p], A5, c - en_, by rw [HLT5.out], H', ⟨by have := HK1.out; omega⟩, HC5, HS4, HB4⟩
        · rw [if_neg he] at H
          have b1 : (er == 0) = false := beq_eq_false_iff_ne.mpr he
          have b2 : (er != 0) = true := bne_iff_ne.mpr he
          by_cases he3 : er = 3
          · subst he3
            rw [if_pos rfl] at H
            simp only [Option.some.injEq, Prod.mk.injEq] at H
            obtain ⟨rfl, rfl, rfl⟩ := H
            clear he b1 b2
            go_wp2_with fail
            refine (frame_first.calls A c x fa fb fc 3 _ (Kd.C_below HC.out.1 HB.out) HC.out.2 HF.out).mono ?_
            rintro e w1 ⟨rfl, hb1⟩
            have HB1 := Aside0.mk (below_then HB.out HB.out.size hb1)
            have HS1 := Aside0.mk (Kd.S_below HS.out hb1)
            have HROW := Aside0.mk (HoldsRow.new w1 50 #[.int .i64 0, .int .i64 0, .int .i64 0])
            clear hb1
            go_wp2_with (first | (refine wpList_store_row rfl 50 _ _ rfl w1.heap.size (trio fa fb fc) rfl rfl 50 #[.int .i64 0, .int .i64 0, .int .i64 0] HROW.out (by rw [trio_size]; kernel_rfl) rfl (trio_one _ _ _) ?_))
            rw [Exit.noGoto_ret]
            go_ret3
            refine ⟨_, rfl, Kd.S_step HS1.out (fun k _ hk => (setRow_other _ _ k _ (by omega)).trans (Go.heap_alloc_old w1 _ hk)), below_setRow (b := w1.heap.size) (below_alloc HB1.out (.cells #[.int .i64 0, .int .i64 0, .int .i64 0] 50)) (trio fa fb fc) HB1.out.size⟩
          · rw [if_neg he3] at H
            have b3 : (er == 3) = false := beq_eq_false_iff_ne.mpr he3
            have b4 : (er != 3) = true := bne_iff_ne.mpr he3
            clear he he3
            simp only [Option.some.injEq, Prod.mk.injEq] at H
            obtain ⟨rfl, rfl, rfl⟩ := H
            go_wp2_with fail
            refine (frame_first.calls A c x fa fb fc _ _ (Kd.C_below HC.out.1 HB.out) HC.out.2 HF.out).mono ?_
            rintro e w1 ⟨rfl, hb1⟩
            have HB1 := Aside0.mk (below_then HB.out HB.out.size hb1)
            have HROW := Aside0.mk (HoldsRow.new w1 50 #[.int .i64 0, .int .i64 0, .int .i64 0])
            clear hb1
            go_wp2_with (first | (refine wpList_store_row rfl 50 _ _ rfl w1.heap.size (trio fa fb fc) rfl rfl 50 #[.int .i64 0, .int .i64 0, .int .i64 0] HROW.out (by rw [trio_size]; kernel_rfl) rfl (trio_one _ _ _) ?_))
            rw [Exit.noGoto_ret]
            go_ret3
            refine ⟨_, rfl, Kd.S_nil _ _ _ _ _, below_setRow (b := w1.heap.size) (below_alloc HB1.out (.cells #[.int .i64 0, .int .i64 0, .int .i64 0] 50)) (trio fa fb fc) HB1.out.size⟩
end Go.Proofs.Ytgfjijfjlbjajaa.Ext
