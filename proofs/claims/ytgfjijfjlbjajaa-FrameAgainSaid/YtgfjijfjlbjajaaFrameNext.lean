/- frame.Next, walked. Condition: a row that append bears. -/
import Derived.Test.YtgfjijfjlbjajaaFrameFirst2
namespace Go.Proofs.Ytgfjijfjlbjajaa.Ext
open Go.RowKit Go.Proofs.YtgfjijfjlbjajaaW.PrintWords Go.Proofs.YtgfjijfjlbjajaaW.PrintLast Go.Proofs.YtgfjijfjlbjajaaW.PrintMore Go.Proofs.Ytgfjijfjlbjajaa.Base Go.Proofs.Ytgfjijfjlbjajaa.Arr Go.Proofs.Ytgfjijfjlbjajaa.Mid
set_option linter.unusedVariables false
set_option linter.unusedSimpArgs false

theorem trio_one (a b c : Int) : (trio a b c).all (·.oneCell') = true := by
  rw [Array.all_eq_true_iff_forall_mem]
  intro x hx
  simp [trio] at hx
  rcases hx with rfl | rfl | rfl <;> rfl
set_option maxHeartbeats 4000000 in
set_option maxRecDepth 100000 in
theorem next_bad (A0 : Option Addr) (c0 : Nat) (l0 : List Int) (w : World) (hr0 : Kd.C (Kd.int .u8) w A0 l0.length l0) (hc0 : l0.length ≤ c0) (a b c er : Int) (hf : firstF l0 = some (a, b, c, er)) (he : er ≠ 0) :
    Calls Try.prog 17 #[.slice A0 l0.length c0] w fun e w' => e = .returned (.tuple #[.slice none 0 0, .slice none 0 0, .int .i64 er]) ∧ Below w.heap.size w w' := by
  have HF := Aside0.mk hf
  have HR := Aside0.mk hr0
  have b1 : (er != 0) = true := bne_iff_ne.mpr he
  have b2 : (er == 0) = false := beq_eq_false_iff_ne.mpr he
  clear hr0 hf he
  go_enter Try.func17, Try.ntmps17
  go_wp2_with fail
  refine (frame_first.calls A0 c0 l0 a b c er w HR.out hc0 HF.out).mono ?_
  rintro e w1 ⟨rfl, hb1⟩
  have HB1 := Aside0.mk hb1
  have hrow := HoldsRow.new w1 50 (trio 0 0 0)
  have hb4 := below_setRow (b := w1.heap.size) (below_alloc HB1.out (.cells (trio 0 0 0) 50)) (trio a b c) HB1.out.size
  have HB4 := Aside0.mk hb4
  have HROW := Aside0.mk hrow
  clear hb1 hb4 hrow
  go_wp2_with (first | (refine wpList_store_row rfl 50 _ _ rfl w1.heap.size (trio a b c) rfl rfl 50 (trio 0 0 0) HROW.out (by rw [trio_size]; kernel_rfl) rfl (trio_one _ _ _) ?_))
  go_ret3
  exact ⟨rfl, HB4.out⟩

set_option maxHeartbeats 4000000 in
set_option maxRecDepth 100000 in
theorem next_calls (ad : Addr) (c0 : Nat) (l0 : List Int) (w : World) (hr0 : Kd.C (Kd.int .u8) w (some ad) l0.length l0) (hc0 : l0.length ≤ c0) (hl : l0.length < 140737488355328) (fr to_ en_ : Nat) (h0 : 0 < fr) (h1 : fr ≤ to_) (h2 : en_ = to_ + 4) (h3 : en_ ≤ l0.length) (hf : firstF l0 = some ((fr : Int), (to_ : Int), (en_ : Int), 0)) :
    Calls Try.prog 17 #[.slice (some ad) l0.length c0] w fun e w' => ∃ v0_ v1_ : Value, e = .returned (.tuple #[v0_, v1_, .int .i64 0]) ∧ Kd.R (Kd.int .u8) 5 w' w.heap.size (fun k_ => some k_ ≠ (v1_ : Value).ownBlock) v0_ ((l0.drop fr).take (to_ - fr)) ∧ Kd.R (Kd.int .u8) 5 w' w.heap.size (fun k_ => some k_ ≠ (v0_ : Value).ownBlock) v1_ (l0.drop en_) ∧ Below w.heap.size w w' := by
  have HF := Aside0.mk hf
  have HR := Aside0.mk hr0
  have HC0 := Aside0.mk hc0
  have HL := Aside0.mk hl
  obtain ⟨i0, hi0, _, hsz0, _⟩ := info_parts infoU8
  have hcut1 := cut_mid (P := Try.prog) 22 5 .i64 .i64 Try.underlying22 hi0 1 hsz0 (some ad) l0.length c0 (fr : Int) (to_ : Int) (by omega) (by omega) (by omega) hc0
  have hcut2 := cut_from (P := Try.prog) 22 5 .i64 Try.underlying22 hi0 1 hsz0 (some ad) l0.length c0 (en_ : Int) (by omega) (by omega)
  rw [Int.toNat_natCast, Int.toNat_natCast, if_neg (show ¬ c0 = fr by omega), Nat.mul_one, Option.map_some] at hcut1
  rw [Int.toNat_natCast, Nat.mul_one, Option.map_some] at hcut2
  obtain ⟨A4, hA4⟩ : ∃ A4, A4 = some (ad.add fr) := ⟨_, rfl⟩
  obtain ⟨A5, hA5⟩ : ∃ A5, A5 = (if c0 = en_ then some ad else some (ad.add en_)) := ⟨_, rfl⟩
  rw [← hA4] at hcut1
  rw [← hA5] at hcut2
  have clone1 : ∀ W : World, Kd.C (Kd.int .u8) W (some ad) l0.length l0 → Calls Try.prog 29 #[.slice A4 (to_ - fr) (c0 - fr)] W fun e w' => ∃ v0_ : Value, e = .returned (v0_) ∧ Kd.R (Kd.int .u8) 5 w' W.heap.size (fun _ => True) v0_ ((l0.drop fr).take (to_ - fr)) ∧ Below W.heap.size W w' := fun W hC => by
    have hlt : ((l0.drop fr).take (to_ - fr)).length = to_ - fr := by rw [List.length_take, List.length_drop]; omega
    have := bytes_Clone.calls (some (ad.add fr)) (c0 - fr) ((l0.drop fr).take (to_ - fr)) _ W (C_take (C_drop hC fr) (to_ - fr)) (by rw [hlt]; omega) (by unfold bytes_Clone.f; rw [if_pos (by rw [hlt]; omega)])
    rw [hlt, ← hA4] at this
    exact this
  have clone2 : ∀ W : World, Kd.C (Kd.int .u8) W (some ad) l0.length l0 → Calls Try.prog 29 #[.slice A5 (l0.length - en_) (c0 - en_)] W fun e w' => ∃ v0_ : Value, e = .returned (v0_) ∧ Kd.R (Kd.int .u8) 5 w' W.heap.size (fun _ => True) v0_ (l0.drop en_) ∧ Below W.heap.size W w' := fun W hC => by
    have hlt : (l0.drop en_).length = l0.length - en_ := List.length_drop
    have hC5 : Kd.C (Kd.int .u8) W A5 (l0.drop en_).length (l0.drop en_) := by
      rw [hA5]
      by_cases hce : c0 = en_
      · rw [if_pos hce, List.drop_eq_nil_of_le (by omega)]
        exact C_empty _
      · rw [if_neg hce]
        exact C_drop hC en_
    have := bytes_Clone.calls A5 (c0 - en_) (l0.drop en_) _ W hC5 (by rw [hlt]; omega) (by unfold bytes_Clone.f; rw [if_pos (by rw [hlt]; omega)])
    rw [hlt] at this
    exact this
  clear hr0 hf hA4 hA5 h0 h1 h2 h3 hl
  go_enter Try.func17, Try.ntmps17
  go_wp2_with fail
  refine (frame_first.calls (some ad) c0 l0 fr to_ en_ 0 w HR.out HC0.out HF.out).mono ?_
  rintro e w1 ⟨rfl, hb1⟩
  have HB1 := Aside0.mk hb1
  have hrow := HoldsRow.new w1 50 #[.int .i64 0, .int .i64 0, .int .i64 0]
  have hb2 := below_setRow (b := w1.heap.size) (below_alloc HB1.out (.cells #[.int .i64 0, .int .i64 0, .int .i64 0] 50)) (trio fr to_ en_) HB1.out.size
  have hrow2 := hrow.row (trio fr to_ en_)
  have HROW := Aside0.mk hrow
  clear hb1 hrow
  obtain ⟨g, hg⟩ : ∃ g, g = w1.heap.size := ⟨_, rfl⟩
  obtain ⟨w2, hw2⟩ : ∃ w2 : World, w2 = (w1.alloc (.cells #[.int .i64 0, .int .i64 0, .int .i64 0] 50)).setRow w1.heap.size (trio fr to_ en_) := ⟨_, rfl⟩
  rw [← hw2, ← hg] at hrow2
  rw [← hw2] at hb2
  have HR2 := Aside0.mk (Kd.C_below HR.out hb2)
  have hfacts : ∀ W : World, HoldsRow W g 50 (trio fr to_ en_) → W.cell? ⟨g, 0, none⟩ = some (.int .i64 (fr : Nat)) ∧ W.cell? ⟨g, 1, none⟩ = some (.int .i64 (to_ : Nat)) ∧ W.cell? ⟨g, 2, none⟩ = some (.int .i64 (en_ : Nat)) := fun W h => ⟨h.cell rfl, h.cell rfl, h.cell rfl⟩
  have K0 := hfacts w2 hrow2
  go_wp2_with (first | (refine wpList_store_row rfl 50 _ _ rfl w1.heap.size (trio fr to_ en_) rfl rfl 50 #[.int .i64 0, .int .i64 0, .int .i64 0] HROW.out (by rw [trio_size]; kernel_rfl) rfl (trio_one _ _ _) ?_))
  rw [← hw2, ← hg]
  clear hg hw2 HROW
  refine start_ (n := 17) (S := fun w' => w'.cell? ⟨g, 0, none⟩ = some (.int .i64 (fr : Nat)) ∧ w'.cell? ⟨g, 1, none⟩ = some (.int .i64 (to_ : Nat)) ∧ w'.cell? ⟨g, 2, none⟩ = some (.int .i64 (en_ : Nat))) (ds := []) #[false, false, false, false, false, false, false, false, false, false, false, false, false, false, false, false, false] (by kernel_rfl) rfl rfl ⟨K0.1, K0.2.1, K0.2.2⟩ (fun hHeld => ?_)
  refine pure_ (i := 0) (N := some 14) (v := ?_) (a' := ?_) #[true, false, false, false, false, false, false, false, false, false, false, false, false, false, false, false, false] rfl rfl (by kernel_rfl) (fun _ _ _ h => h) (Or.inl ⟨by rfl, ?_⟩) ?_ ?_
  rotate_left
  · intro w'
    go_simp
    with_reducible rfl
  rotate_left
  · simp only [Act.put, List.setIfInBounds_toArray, List.set_cons_zero, List.set_cons_succ, i64_w, i32_w]
    rfl
  refine pure_ (i := 1) (N := some 15) (v := ?_) (a' := ?_) #[true, true, false, false, false, false, false, false, false, false, false, false, false, false, false, false, false] rfl rfl (by kernel_rfl) (fun _ _ _ h => h) (Or.inl ⟨by rfl, ?_⟩) ?_ ?_
  rotate_left
  · intro w'
    go_simp
    with_reducible rfl
  rotate_left
  · simp only [Act.put, List.setIfInBounds_toArray, List.set_cons_zero, List.set_cons_succ, i64_w, i32_w]
    rfl
  refine pure_ (i := 2) (N := some 16) (v := ?_) (a' := ?_) #[true, true, true, false, false, false, false, false, false, false, false, false, false, false, false, false, false] rfl rfl (by kernel_rfl) (fun _ _ _ h => h) (Or.inl ⟨by rfl, ?_⟩) ?_ ?_
  rotate_left
  · intro w'
    go_simp
    with_reducible rfl
  rotate_left
  · simp only [Act.put, List.setIfInBounds_toArray, List.set_cons_zero, List.set_cons_succ, i64_w, i32_w]
    rfl
  refine pure_ (i := 4) (N := some 18) (v := ?_) (a' := ?_) #[true, true, true, false, true, false, false, false, false, false, false, false, false, false, false, false, false] rfl rfl (by kernel_rfl) (fun _ _ _ h => h) (Or.inl ⟨by rfl, ?_⟩) ?_ ?_
  rotate_left
  · intro w'
    go_simp
    with_reducible rfl
  rotate_left
  · simp only [Act.put, List.setIfInBounds_toArray, List.set_cons_zero, List.set_cons_succ, i64_w, i32_w]
    rfl
  refine pure_ (i := 5) (N := some 19) (v := ?_) (a' := ?_) #[true, true, true, false, true, true, false, false, false, false, false, false, false, false, false, false, false] rfl rfl (by kernel_rfl) (fun _ _ _ h => h) (Or.inl ⟨by rfl, ?_⟩) ?_ ?_
  rotate_left
  · intro w'
    go_simp
    with_reducible rfl
  rotate_left
  · simp only [Act.put, List.setIfInBounds_toArray, List.set_cons_zero, List.set_cons_succ, i64_w, i32_w]
    rfl
  refine pure_ (i := 9) (N := some 23) (v := ?_) (a' := ?_) #[true, true, true, false, true, true, false, false, false, true, false, false, false, false, false, false, false] rfl rfl (by kernel_rfl) (fun _ _ _ h => h) (Or.inl ⟨by rfl, ?_⟩) ?_ ?_
  rotate_left
  · intro w'
    go_simp
    with_reducible rfl
  rotate_left
  · simp only [Act.put, List.setIfInBounds_toArray, List.set_cons_zero, List.set_cons_succ, i64_w, i32_w]
    rfl
  refine pure_ (i := 10) (N := some 24) (v := ?_) (a' := ?_) #[true, true, true, false, true, true, false, false, false, true, true, false, false, false, false, false, false] rfl rfl (by kernel_rfl) (fun _ _ _ h => h) (Or.inl ⟨by rfl, ?_⟩) ?_ ?_
  rotate_left
  · intro w'
    go_simp
    with_reducible rfl
  rotate_left
  · simp only [Act.put, List.setIfInBounds_toArray, List.set_cons_zero, List.set_cons_succ, i64_w, i32_w]
    rfl
  refine take_ (i := 3) (N := some 17) (v := ?_) (a' := ?_) #[true, true, true, true, true, true, false, false, false, true, true, false, false, false, false, false, false] rfl rfl (by kernel_rfl) (fun _ _ _ h => h) (Or.inl ⟨by rfl, ?_⟩) hHeld ?_ ?_
  rotate_left
  · rintro w' ⟨s0, s1, s2⟩
    go_simp
    with_reducible rfl
  rotate_left
  · simp only [Act.put, List.setIfInBounds_toArray, List.set_cons_zero, List.set_cons_succ, i64_w, i32_w]
    rfl
  refine take_ (i := 6) (N := some 20) (v := ?_) (a' := ?_) #[true, true, true, true, true, true, true, false, false, true, true, false, false, false, false, false, false] rfl rfl (by kernel_rfl) (fun _ _ _ h => h) (Or.inl ⟨by rfl, ?_⟩) hHeld ?_ ?_
  rotate_left
  · rintro w' ⟨s0, s1, s2⟩
    go_simp
    with_reducible rfl
  rotate_left
  · simp only [Act.put, List.setIfInBounds_toArray, List.set_cons_zero, List.set_cons_succ, i64_w, i32_w]
    rfl
  refine pure_ (i := 7) (N := some 21) (v := ?_) (a' := ?_) #[true, true, true, true, true, true, true, true, false, true, true, false, false, false, false, false, false] rfl rfl (by kernel_rfl) (fun _ _ _ h => h) (Or.inl ⟨by rfl, ?_⟩) ?_ ?_
  rotate_left
  · intro w'
    go_simp
    with_reducible rfl
  rotate_left
  · simp only [Act.put, List.setIfInBounds_toArray, List.set_cons_zero, List.set_cons_succ, i64_w, i32_w]
    rfl
  refine take_ (i := 11) (N := some 25) (v := ?_) (a' := ?_) #[true, true, true, true, true, true, true, true, false, true, true, true, false, false, false, false, false] rfl rfl (by kernel_rfl) (fun _ _ _ h => h) (Or.inl ⟨by rfl, ?_⟩) hHeld ?_ ?_
  rotate_left
  · rintro w' ⟨s0, s1, s2⟩
    go_simp
    with_reducible rfl
  rotate_left
  · simp only [Act.put, List.setIfInBounds_toArray, List.set_cons_zero, List.set_cons_succ, i64_w, i32_w]
    rfl
  refine pure_ (i := 12) (N := some 26) (v := ?_) (a' := ?_) #[true, true, true, true, true, true, true, true, false, true, true, true, true, false, false, false, false] rfl rfl (by kernel_rfl) (fun _ _ _ h => h) (Or.inl ⟨by rfl, ?_⟩) ?_ ?_
  rotate_left
  · intro w'
    go_simp
    with_reducible rfl
  rotate_left
  · simp only [Act.put, List.setIfInBounds_toArray, List.set_cons_zero, List.set_cons_succ, i64_w, i32_w]
    rfl
  refine one_ (i := 8) (N := some 22) #[true, true, true, true, true, true, true, true, true, true, true, true, true, false, false, false, false] rfl rfl (by kernel_rfl) (by decide) (fun K hK => ?_)
  refine goes_ Try.func29 (by kernel_rfl) rfl #[.slice A4 (to_ - fr) (c0 - fr)] (by rfl) rfl rfl (by simp only [List.map_toArray, List.map_cons, List.map_nil]; rfl) ?_
  with_reducible refine (clone1 _ (Kd.C_drew HR2.out)).mono ?_
  rintro e w5 ⟨v5, rfl, ho5, hb5⟩
  refine ⟨_, rfl, ?_⟩
  have F := hfacts w5 (HoldsRow.below (w := w2.drew) (w' := w5) hrow2 hb5 hrow2.lt)
  have hrow5 := HoldsRow.below (w := w2.drew) (w' := w5) hrow2 hb5 hrow2.lt
  have HR5 := Aside0.mk (Kd.C_below (Kd.C_drew HR2.out) hb5)
  have HO5 := Aside0.mk ho5
  have HB5 := Aside0.mk (below_then (below_drew hb2) (by have := hb2.size; simpa using this) hb5)
  have HX5 := Aside0.mk hb5.size
  clear ho5 hb5
  refine hK.out _ _ ⟨F.1, F.2.1, F.2.2⟩ (fun hHeld => ?_)
  clear hK K
  refine norm_ (a' := ?_) ?_ ?_
  rotate_left
  · show Act.put _ (some 22) _ = _
    simp only [Act.put, List.setIfInBounds_toArray, List.set_cons_zero, List.set_cons_succ, i64_w, i32_w]
    rfl
  refine one_ (i := 13) (N := some 27) #[true, true, true, true, true, true, true, true, true, true, true, true, true, true, false, false, false] rfl rfl (by kernel_rfl) (by decide) (fun K hK => ?_)
  refine goes_ Try.func29 (by kernel_rfl) rfl #[.slice A5 (l0.length - en_) (c0 - en_)] (by rfl) rfl rfl (by simp only [List.map_toArray, List.map_cons, List.map_nil]; rfl) ?_
  with_reducible refine (clone2 _ HR5.out).mono ?_
  rintro e w6 ⟨v6, rfl, ho6, hb6⟩
  refine ⟨_, rfl, ?_⟩
  have F6 := hfacts w6 (HoldsRow.below hrow5 hb6 hrow5.lt)
  have HO6 := Aside0.mk ho6
  have HB6 := Aside0.mk (below_then HB5.out HB5.out.size hb6)
  have HO5c := Aside0.mk (Kd.R_below (Kd.R_bound HO5.out) hb6)
  have HX6 := Aside0.mk hb6.size
  clear ho6 hb6
  refine hK.out _ _ ⟨F6.1, F6.2.1, F6.2.2⟩ (fun hHeld => ?_)
  clear hK K
  refine norm_ (a' := ?_) ?_ ?_
  rotate_left
  · show Act.put _ (some 27) _ = _
    simp only [Act.put, List.setIfInBounds_toArray, List.set_cons_zero, List.set_cons_succ, i64_w, i32_w]
    rfl
  refine pure_ (i := 14) (N := some 2) (v := ?_) (a' := ?_) #[true, true, true, true, true, true, true, true, true, true, true, true, true, true, true, false, false] rfl rfl (by kernel_rfl) (fun _ _ _ h => h) (Or.inl ⟨by rfl, ?_⟩) ?_ ?_
  rotate_left
  · intro w'
    go_simp
    with_reducible rfl
  rotate_left
  · simp only [Act.put, List.setIfInBounds_toArray, List.set_cons_zero, List.set_cons_succ, i64_w, i32_w]
    rfl
  refine pure_ (i := 15) (N := some 3) (v := ?_) (a' := ?_) #[true, true, true, true, true, true, true, true, true, true, true, true, true, true, true, true, false] rfl rfl (by kernel_rfl) (fun _ _ _ h => h) (Or.inl ⟨by rfl, ?_⟩) ?_ ?_
  rotate_left
  · intro w'
    go_simp
    with_reducible rfl
  rotate_left
  · simp only [Act.put, List.setIfInBounds_toArray, List.set_cons_zero, List.set_cons_succ, i64_w, i32_w]
    rfl
  refine pure_ (i := 16) (N := some 4) (v := ?_) (a' := ?_) #[true, true, true, true, true, true, true, true, true, true, true, true, true, true, true, true, true] rfl rfl (by kernel_rfl) (fun _ _ _ h => h) (Or.inl ⟨by rfl, ?_⟩) ?_ ?_
  rotate_left
  · intro w'
    go_simp
    with_reducible rfl
  rotate_left
  · simp only [Act.put, List.setIfInBounds_toArray, List.set_cons_zero, List.set_cons_succ, i64_w, i32_w]
    rfl
  refine done_ (by kernel_rfl) ?_
  
  go_wp2_with fail
  go_ret3
  have q2 : w.heap.size ≤ w2.drew.heap.size := by have := hb2.size; simpa using this
  refine ⟨v5, v6, rfl, Kd.R_lower (Kd.R_mono HO5c.out (fun k hk he => ?_)) q2, Kd.R_lower (Kd.R_mono (Kd.R_bound HO6.out) (fun k hk he => ?_)) HB5.out.size, HB6.out⟩
  · have := Kd.R_base HO6.out k he.symm
    have := hk.2.2.1
    omega
  · have := Kd.R_lt HO5.out k he.symm
    have := hk.2.1
    omega
/-- the first frame's payload, what stands behind it, what is told -/
def frame_Next.f (l0 : List Int) : Option (List Int × List Int × Int) :=
  (firstF l0).bind fun q =>
    if q.2.2.2 ≠ 0 then some ([], [], q.2.2.2)
    else if 0 < q.1 ∧ q.1 ≤ q.2.1 ∧ q.2.2.1 = q.2.1 + 4 ∧ q.2.2.1 ≤ (l0.length : Int) ∧ l0.length < 140737488355328 then some ((l0.drop q.1.toNat).take (q.2.1.toNat - q.1.toNat), l0.drop q.2.2.1.toNat, 0)
    else none
theorem frame_Next.calls (A0 : Option Addr) (c0 : Nat) (l0 : List Int) (r1 : List Int) (r2 : List Int) (r3 : Int) (w : World) (hr0 : Kd.C (Kd.int .u8) w A0 l0.length l0) (hc0 : l0.length ≤ c0) (h : frame_Next.f l0 = some (r1, r2, r3)) :
    Calls Try.prog 17 #[.slice A0 l0.length c0] w fun e w' => ∃ v0_ v1_ : Value, e = .returned (.tuple #[v0_, v1_, .int .i64 r3]) ∧ Kd.R (Kd.int .u8) 5 w' w.heap.size (fun k_ => some k_ ≠ (v1_ : Value).ownBlock) v0_ r1 ∧ Kd.R (Kd.int .u8) 5 w' w.heap.size (fun k_ => some k_ ≠ (v0_ : Value).ownBlock) v1_ r2 ∧ Below w.heap.size w w' := by
  unfold frame_Next.f at h
  obtain ⟨⟨a, b, c, er⟩, hf, h⟩ := Option.bind_eq_some_iff.mp h
  simp only at h
  by_cases he : er ≠ 0
  · rw [if_pos he] at h
    cases h
    refine (next_bad A0 c0 l0 w hr0 hc0 a b c _ hf he).mono ?_
    rintro e w' ⟨rfl, hb⟩
    exact ⟨_, _, rfl, Kd.R_nil _ _ _ _ _, Kd.R_nil _ _ _ _ _, hb⟩
  · rw [if_neg he] at h
    have he0 : er = 0 := Decidable.not_not.mp he
    subst he0
    by_cases hc : 0 < a ∧ a ≤ b ∧ c = b + 4 ∧ c ≤ (l0.length : Int) ∧ l0.length < 140737488355328
    · rw [if_pos hc] at h
      obtain ⟨h0, h1, h2, h3, h4⟩ := hc
      cases h
      obtain ⟨fr, rfl⟩ := Int.eq_ofNat_of_zero_le (show 0 ≤ a by omega)
      obtain ⟨to_, rfl⟩ := Int.eq_ofNat_of_zero_le (show 0 ≤ b by omega)
      obtain ⟨en_, rfl⟩ := Int.eq_ofNat_of_zero_le (show 0 ≤ c by omega)
      obtain ⟨ad, rfl, _⟩ := Kd.at_int hr0 0 (Int.le_refl 0) (by omega)
      simp only [Int.toNat_natCast]
      exact next_calls ad c0 l0 w hr0 hc0 h4 fr to_ en_ (by omega) (by omega) (by omega) (by omega) hf
    · rw [if_neg hc] at h
      cases h
end Go.Proofs.Ytgfjijfjlbjajaa.Ext
