/- frame.first, all its ways. Condition: a row that append bears. -/
import Derived.Test.YtgfjijfjlbjajaaFrameFirst
namespace Go.Proofs.Ytgfjijfjlbjajaa.Ext
open Go.RowKit Go.Proofs.YtgfjijfjlbjajaaW.PrintWords Go.Proofs.YtgfjijfjlbjajaaW.PrintLast Go.Proofs.YtgfjijfjlbjajaaW.PrintMore Go.Proofs.Ytgfjijfjlbjajaa.Base Go.Proofs.Ytgfjijfjlbjajaa.Arr Go.Proofs.Ytgfjijfjlbjajaa.Mid
set_option linter.unusedVariables false
set_option linter.unusedSimpArgs false

set_option maxHeartbeats 4000000 in
set_option maxRecDepth 100000 in
theorem first_bad (A0 : Option Addr) (c0 : Nat) (l0 : List Int) (w : World) (hr0 : Kd.C (Kd.int .u8) w A0 l0.length l0) (hc0 : l0.length ≤ c0) (n er : Int) (rest : List Int) (hn : bin_TakeNum.f l0 = some (n, rest, er)) (he : er ≠ 0) :
    Calls Try.prog 28 #[.slice A0 l0.length c0] w fun e w' => e = .returned (.tuple #[.agg (trio 0 0 0), .int .i64 er]) ∧ Below w.heap.size w w' := by
  have HN := Aside0.mk hn
  have HC0 := Aside0.mk hc0
  have b1 : (er != 0) = true := bne_iff_ne.mpr he
  have b2 : (er == 0) = false := beq_eq_false_iff_ne.mpr he
  have hb0 := (Below.refl w.heap.size w).alloc (Nat.le_refl _) (.cells (trio 0 0 0) 50)
  have hrow0 := HoldsRow.new w 50 (trio 0 0 0)
  have HC := Aside0.mk (Kd.C_alloc hr0 (.cells (trio 0 0 0) 50))
  have HS0 := Aside0.mk (show w.heap.size < (w.alloc (.cells (trio 0 0 0) 50)).heap.size by simp)
  clear hr0 hn hc0 he
  go_enter Try.func28, Try.ntmps28
  go_wp2_with fail
  refine (bin_TakeNum.calls A0 c0 l0 n rest er _ HC.out HC0.out HN.out).mono ?_
  rintro e w1 ⟨v1, rfl, hv1, hb1⟩
  have hrow1 := hrow0.below hb1 HS0.out
  have HB5 := Aside0.mk (below_then hb0 hb0.size hb1)
  have hcell0 := hrow1.cell (j := 0) (v := .int .i64 0) rfl
  have hcell1 := hrow1.cell (j := 1) (v := .int .i64 0) rfl
  have hcell2 := hrow1.cell (j := 2) (v := .int .i64 0) rfl
  have hfr0 := hrow1.free 0
  have hfr1 := hrow1.free 1
  have hfr2 := hrow1.free 2
  clear hb0 hrow0 HC HS0 hb1 hv1 HN
  go_wp2_with fail
  have hr6 := ((hrow1.set 0 (.int .i64 0)).set 1 (.int .i64 0)).set 2 (.int .i64 0)
  have hs6 : (((trio 0 0 0).setIfInBounds 0 (.int .i64 0)).setIfInBounds 1 (.int .i64 0)).setIfInBounds 2 (.int .i64 0) = trio 0 0 0 := rfl
  rw [hs6] at hr6
  exact bodyPost_ret (results_cell2 (p := 2) (q := 3) (ty := 50) rfl _ _ w.heap.size (trio 0 0 0) rfl (run_loadVar_row _ w.heap.size 50 50 (trio 0 0 0) (0, 0) _ hr6 Try.underlying50 rfl (by rw [trio_size]; kernel_rfl))) rfl ⟨rfl, ((HB5.out.setCell (show w.heap.size ≤ (⟨w.heap.size, 0, none⟩ : Addr).block from Nat.le_refl _) _).setCell (show w.heap.size ≤ (⟨w.heap.size, 1, none⟩ : Addr).block from Nat.le_refl _) _).setCell (show w.heap.size ≤ (⟨w.heap.size, 2, none⟩ : Addr).block from Nat.le_refl _) _⟩

set_option maxHeartbeats 4000000 in
set_option maxRecDepth 100000 in
theorem first_big (A0 : Option Addr) (c0 : Nat) (l0 : List Int) (w : World) (hr0 : Kd.C (Kd.int .u8) w A0 l0.length l0) (hc0 : l0.length ≤ c0) (n : Int) (rest : List Int) (hn : bin_TakeNum.f l0 = some (n, rest, 0)) (h1 : n > 8192) :
    Calls Try.prog 28 #[.slice A0 l0.length c0] w fun e w' => e = .returned (.tuple #[.agg (trio 0 0 0), .int .i64 5]) ∧ Below w.heap.size w w' := by
  have HN := Aside0.mk hn
  have HC0 := Aside0.mk hc0
  have hlim : decide ((8192 : Int) < n) = true := decide_eq_true h1
  have hb0 := (Below.refl w.heap.size w).alloc (Nat.le_refl _) (.cells (trio 0 0 0) 50)
  have hrow0 := HoldsRow.new w 50 (trio 0 0 0)
  have HC := Aside0.mk (Kd.C_alloc hr0 (.cells (trio 0 0 0) 50))
  have HS0 := Aside0.mk (show w.heap.size < (w.alloc (.cells (trio 0 0 0) 50)).heap.size by simp)
  clear hr0 hn hc0 h1
  go_enter Try.func28, Try.ntmps28
  go_wp2_with fail
  refine (bin_TakeNum.calls A0 c0 l0 n rest 0 _ HC.out HC0.out HN.out).mono ?_
  rintro e w1 ⟨v1, rfl, hv1, hb1⟩
  obtain ⟨A1, c1, rfl, hc1⟩ := Kd.Q_slice (Kd.Q_of_R hv1)
  have hrow1 := hrow0.below hb1 HS0.out
  have HB5 := Aside0.mk (below_then hb0 hb0.size hb1)
  have hcell0 := hrow1.cell (j := 0) (v := .int .i64 0) rfl
  have hcell1 := hrow1.cell (j := 1) (v := .int .i64 0) rfl
  have hcell2 := hrow1.cell (j := 2) (v := .int .i64 0) rfl
  have hfr0 := hrow1.free 0
  have hfr1 := hrow1.free 1
  have hfr2 := hrow1.free 2
  obtain ⟨q1, e1⟩ : ∃ q : Int, wrap64 ((l0.length : Int) - (rest.length : Int)) = q := ⟨_, rfl⟩
  obtain ⟨q2, e2⟩ : ∃ q : Int, wrap64 (q1 + n) = q := ⟨_, rfl⟩
  obtain ⟨q3, e3⟩ : ∃ q : Int, wrap64 (q2 + 4) = q := ⟨_, rfl⟩
  clear hb0 hrow0 HC HS0 hb1 hv1 HN hc1
  go_wp2_with fail
  have hr6 := (((((hrow1.set 0 (.int .i64 q1)).set 1 (.int .i64 q2)).set 2 (.int .i64 q3)).set 0 (.int .i64 0)).set 1 (.int .i64 0)).set 2 (.int .i64 0)
  have hs6 : ((((((trio 0 0 0).setIfInBounds 0 (.int .i64 q1)).setIfInBounds 1 (.int .i64 q2)).setIfInBounds 2 (.int .i64 q3)).setIfInBounds 0 (.int .i64 0)).setIfInBounds 1 (.int .i64 0)).setIfInBounds 2 (.int .i64 0) = trio 0 0 0 := rfl
  rw [hs6] at hr6
  have S := fun (W : World) (h : Below w.heap.size w W) (j : Nat) (v : Value) => h.setCell (show w.heap.size ≤ (⟨w.heap.size, j, none⟩ : Addr).block from Nat.le_refl _) v
  exact bodyPost_ret (results_cell2 (p := 2) (q := 3) (ty := 50) rfl _ _ w.heap.size (trio 0 0 0) rfl (run_loadVar_row _ w.heap.size 50 50 (trio 0 0 0) (0, 0) _ hr6 Try.underlying50 rfl (by rw [trio_size]; kernel_rfl))) rfl ⟨rfl, S _ (S _ (S _ (S _ (S _ (S _ HB5.out _ _) _ _) _ _) _ _) _ _) _ _⟩

set_option maxHeartbeats 4000000 in
set_option maxRecDepth 100000 in
theorem first_short (A0 : Option Addr) (c0 : Nat) (l0 : List Int) (w : World) (hr0 : Kd.C (Kd.int .u8) w A0 l0.length l0) (hc0 : l0.length ≤ c0) (n fr to_ en_ : Nat) (rest : List Int) (hn : bin_TakeNum.f l0 = some ((n : Int), rest, 0)) (hfr : fr + rest.length = l0.length) (hl : l0.length < 140737488355328)
    (h1 : n ≤ 8192) (ht : to_ = fr + n) (he : en_ = to_ + 4) (h2 : l0.length < en_) :
    Calls Try.prog 28 #[.slice A0 l0.length c0] w fun e w' => e = .returned (.tuple #[.agg (trio 0 0 0), .int .i64 3]) ∧ Below w.heap.size w w' := by
  have HN := Aside0.mk hn
  have HC0 := Aside0.mk hc0
  have hlim : decide ((8192 : Int) < (n : Int)) = false := decide_eq_false (by omega)
  have hlim2 : decide (8192 < n) = false := decide_eq_false (by omega)
  have hb0 := (Below.refl w.heap.size w).alloc (Nat.le_refl _) (.cells (trio 0 0 0) 50)
  have hrow0 := HoldsRow.new w 50 (trio 0 0 0)
  have HC := Aside0.mk (Kd.C_alloc hr0 (.cells (trio 0 0 0) 50))
  have HS0 := Aside0.mk (show w.heap.size < (w.alloc (.cells (trio 0 0 0) 50)).heap.size by simp)
  clear hr0 hn hc0
  have e1 : wrap64 ((l0.length : Int) - (rest.length : Int)) = (fr : Int) := by unfold wrap64; omega
  have e2 : wrap64 ((fr : Int) + (n : Int)) = (to_ : Int) := by unfold wrap64; omega
  have e3 : wrap64 ((to_ : Int) + 4) = (en_ : Int) := by unfold wrap64; omega
  have d1 : decide ((l0.length : Int) < (en_ : Int)) = true := decide_eq_true (by omega)
  have d2 : decide (l0.length < en_) = true := decide_eq_true (by omega)
  clear hfr hl ht he h2
  go_enter Try.func28, Try.ntmps28
  go_wp2_with fail
  refine (bin_TakeNum.calls A0 c0 l0 n rest 0 _ HC.out HC0.out HN.out).mono ?_
  rintro e w1 ⟨v1, rfl, hv1, hb1⟩
  obtain ⟨A1, c1, rfl, hc1⟩ := Kd.Q_slice (Kd.Q_of_R hv1)
  have hrow1 := hrow0.below hb1 HS0.out
  have HB5 := Aside0.mk (below_then hb0 hb0.size hb1)
  have hcell0 := hrow1.cell (j := 0) (v := .int .i64 0) rfl
  have hcell1 := hrow1.cell (j := 1) (v := .int .i64 0) rfl
  have hcell2 := hrow1.cell (j := 2) (v := .int .i64 0) rfl
  have hfr0 := hrow1.free 0
  have hfr1 := hrow1.free 1
  have hfr2 := hrow1.free 2
  clear hb0 hrow0 HC HS0 hb1 hv1 HN hc1
  go_wp2_with fail
  have hr6 := (((((hrow1.set 0 (.int .i64 (fr : Int))).set 1 (.int .i64 (to_ : Int))).set 2 (.int .i64 (en_ : Int))).set 0 (.int .i64 0)).set 1 (.int .i64 0)).set 2 (.int .i64 0)
  have hs6 : ((((((trio 0 0 0).setIfInBounds 0 (.int .i64 (fr : Int))).setIfInBounds 1 (.int .i64 (to_ : Int))).setIfInBounds 2 (.int .i64 (en_ : Int))).setIfInBounds 0 (.int .i64 0)).setIfInBounds 1 (.int .i64 0)).setIfInBounds 2 (.int .i64 0) = trio 0 0 0 := rfl
  rw [hs6] at hr6
  have S := fun (W : World) (h : Below w.heap.size w W) (j : Nat) (v : Value) => h.setCell (show w.heap.size ≤ (⟨w.heap.size, j, none⟩ : Addr).block from Nat.le_refl _) v
  exact bodyPost_ret (results_cell2 (p := 2) (q := 3) (ty := 50) rfl _ _ w.heap.size (trio 0 0 0) rfl (run_loadVar_row _ w.heap.size 50 50 (trio 0 0 0) (0, 0) _ hr6 Try.underlying50 rfl (by rw [trio_size]; kernel_rfl))) rfl ⟨rfl, S _ (S _ (S _ (S _ (S _ (S _ HB5.out _ _) _ _) _ _) _ _) _ _) _ _⟩

/-- where the first frame lies: its payload's two ends, its own end; what is told -/
def firstF (l0 : List Int) : Option (Int × Int × Int × Int) :=
  (bin_TakeNum.f l0).bind fun q =>
    if q.2.2 ≠ 0 then some (0, 0, 0, q.2.2)
    else if q.1 > 8192 then some (0, 0, 0, 5)
    else if 0 ≤ q.1 ∧ q.2.1.length < l0.length ∧ l0.length < 140737488355328 then
      if l0.length < l0.length - q.2.1.length + q.1.toNat + 4 then some (0, 0, 0, 3)
      else (crc_Of.f (l0.take (l0.length - q.2.1.length + q.1.toNat))).bind fun s =>
        if four s = (l0.drop (l0.length - q.2.1.length + q.1.toNat)).take 4 then some (((l0.length - q.2.1.length : Nat) : Int), ((l0.length - q.2.1.length + q.1.toNat : Nat) : Int), ((l0.length - q.2.1.length + q.1.toNat + 4 : Nat) : Int), 0)
        else some (0, 0, 0, 40)
    else none
theorem frame_first.calls (A0 : Option Addr) (c0 : Nat) (l0 : List Int) (a b c er : Int) (w : World) (hr0 : Kd.C (Kd.int .u8) w A0 l0.length l0) (hc0 : l0.length ≤ c0) (h : firstF l0 = some (a, b, c, er)) :
    Calls Try.prog 28 #[.slice A0 l0.length c0] w fun e w' => e = .returned (.tuple #[.agg (trio a b c), .int .i64 er]) ∧ Below w.heap.size w w' := by
  unfold firstF at h
  obtain ⟨⟨n, rest, e⟩, hn, h⟩ := Option.bind_eq_some_iff.mp h
  simp only at h
  by_cases he : e ≠ 0
  · rw [if_pos he] at h
    cases h
    exact first_bad A0 c0 l0 w hr0 hc0 n _ rest hn he
  · rw [if_neg he] at h
    have he0 : e = 0 := Decidable.not_not.mp he
    subst he0
    by_cases hbig : n > 8192
    · rw [if_pos hbig] at h
      cases h
      exact first_big A0 c0 l0 w hr0 hc0 n rest hn hbig
    · rw [if_neg hbig] at h
      by_cases hc : 0 ≤ n ∧ rest.length < l0.length ∧ l0.length < 140737488355328
      · rw [if_pos hc] at h
        obtain ⟨h0, h1, h2⟩ := hc
        obtain ⟨m, rfl⟩ := Int.eq_ofNat_of_zero_le h0
        simp only [Int.toNat_natCast] at h
        by_cases hs : l0.length < l0.length - rest.length + m + 4
        · rw [if_pos hs] at h
          cases h
          exact first_short A0 c0 l0 w hr0 hc0 m (l0.length - rest.length) _ _ rest hn (by omega) h2 (by omega) rfl rfl hs
        · rw [if_neg hs] at h
          obtain ⟨s, hcs, h⟩ := Option.bind_eq_some_iff.mp h
          obtain ⟨ad, rfl, _⟩ := Kd.at_int hr0 0 (Int.le_refl 0) (by omega)
          refine first_calls ad c0 l0 w hr0 hc0 m (l0.length - rest.length) _ _ rest hn (by omega) (by omega) h2 (by omega) rfl rfl (by omega) s hcs _ ⟨?_⟩
          split at h
          · next hq =>
            cases h
            rw [if_pos hq]
          · next hq =>
            cases h
            rw [if_neg hq]
      · rw [if_neg hc] at h
        cases h
end Go.Proofs.Ytgfjijfjlbjajaa.Ext
