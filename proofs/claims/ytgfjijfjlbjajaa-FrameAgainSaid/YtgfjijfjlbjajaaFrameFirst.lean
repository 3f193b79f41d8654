/- frame.first, walked. Condition: a row that append bears. -/
import Derived.Test.YtgfjijfjlbjajaaEqFour
namespace Go.Proofs.Ytgfjijfjlbjajaa.Ext
open Go.RowKit Go.Proofs.YtgfjijfjlbjajaaW.PrintWords Go.Proofs.YtgfjijfjlbjajaaW.PrintLast Go.Proofs.YtgfjijfjlbjajaaW.PrintMore Go.Proofs.Ytgfjijfjlbjajaa.Base Go.Proofs.Ytgfjijfjlbjajaa.Arr Go.Proofs.Ytgfjijfjlbjajaa.Mid
set_option linter.unusedVariables false
set_option linter.unusedSimpArgs false

/-- three whole numbers in a row of cells -/
def trio (a b c : Int) : Array Value := #[.int .i64 a, .int .i64 b, .int .i64 c]
theorem trio_size (a b c : Int) : (trio a b c).size = 3 := rfl
theorem results_cell2 {fn : Func} {p q : Tmp} {ty : TypeId} (h : fn.results = #[.cell p ty, .tmp q]) (tmps : Array Value) (w : World) (g : Nat) (cs : Array Value)
    (hp : tmps.getD p undef = .pointer (some ⟨g, 0, none⟩)) (hv : (loadVar ty ⟨g, 0, none⟩).run Try.prog w = .ok (.agg cs) w) :
    (results fn tmps).run Try.prog w = .ok (.tuple #[.agg cs, tmps.getD q undef]) w := by
  have hp' : tmps[p]?.getD undef = .pointer (some ⟨g, 0, none⟩) := by simpa using hp
  simp [results, h, hp', asAddr, hv]
theorem take_four (l : List Int) (n : Nat) (h : n + 3 < l.length) : (l.drop n).take 4 = [rd l (n : Nat), rd l ((n + 1 : Nat) : Int), rd l ((n + 2 : Nat) : Int), rd l ((n + 3 : Nat) : Int)] := by
  have e : ∀ j, j < l.length → rd l (j : Nat) = l.getD j 0 := fun j _ => by unfold rd; rw [Int.toNat_natCast]
  rw [e _ (by omega), e _ (by omega), e _ (by omega), e _ h]
  apply List.ext_getElem?
  intro i
  rw [List.getElem?_take, List.getElem?_drop]
  rcases i with _ | _ | _ | _ | i
  · simp [List.getD_eq_getElem?_getD, show n < l.length by omega]
  · simp [List.getD_eq_getElem?_getD, show n + 1 < l.length by omega]
  · simp [List.getD_eq_getElem?_getD, show n + 2 < l.length by omega]
  · simp [List.getD_eq_getElem?_getD, h]
  · simp
    omega
set_option maxHeartbeats 4000000 in
set_option maxRecDepth 100000 in
theorem first_calls (ad : Addr) (c0 : Nat) (l0 : List Int) (w : World) (hr0 : Kd.C (Kd.int .u8) w (some ad) l0.length l0) (hc0 : l0.length ≤ c0) (n fr to_ en_ : Nat) (rest : List Int) (hn : bin_TakeNum.f l0 = some ((n : Int), rest, 0)) (hfr1 : 0 < fr) (hfr : fr + rest.length = l0.length) (hl : l0.length < 140737488355328)
    (h1 : n ≤ 8192) (ht : to_ = fr + n) (he : en_ = to_ + 4) (h2 : en_ ≤ l0.length) (s : Int) (hs : crc_Of.f (l0.take to_) = some s) (ans : Value) (Hans : Aside0 ((if four s = (l0.drop to_).take 4 then .tuple #[.agg (trio (fr : Int) (to_ : Int) (en_ : Int)), .int .i64 0] else .tuple #[.agg (trio 0 0 0), .int .i64 40]) = ans)) :
    Calls Try.prog 28 #[.slice (some ad) l0.length c0] w fun e w' => e = .returned ans ∧ Below w.heap.size w w' := by
  have HR := Aside0.mk hr0
  have HN := Aside0.mk hn
  have HS := Aside0.mk hs
  have HC0 := Aside0.mk hc0
  have H2 := Aside0.mk h2
  have HL := Aside0.mk hl
  have hlim : decide ((8192 : Int) < (n : Int)) = false := decide_eq_false (by omega)
  have hlim2 : decide (8192 < n) = false := decide_eq_false (by omega)
  have hb0 := (Below.refl w.heap.size w).alloc (Nat.le_refl _) (.cells (trio 0 0 0) 50)
  have hrow0 := HoldsRow.new w 50 (trio 0 0 0)
  have HC := Aside0.mk (Kd.C_alloc hr0 (.cells (trio 0 0 0) 50))
  have HS0 := Aside0.mk (show w.heap.size < (w.alloc (.cells (trio 0 0 0) 50)).heap.size by simp)
  clear hr0 hn hs hc0
  go_enter Try.func28, Try.ntmps28
  go_wp2_with fail
  refine (bin_TakeNum.calls (some ad) c0 l0 n rest 0 _ HC.out HC0.out HN.out).mono ?_
  rintro e w1 ⟨v1, rfl, hv1, hb1⟩
  obtain ⟨A1, c1, rfl, hc1⟩ := Kd.Q_slice (Kd.Q_of_R hv1)
  have hrow1 := hrow0.below hb1 HS0.out
  have HB1 := Aside0.mk (below_then hb0 hb0.size hb1)
  have HRR := Aside0.mk (Kd.C_below HR.out HB1.out)
  have hcell0 := hrow1.cell (j := 0) (v := .int .i64 0) rfl
  have hcell1 := hrow1.cell (j := 1) (v := .int .i64 0) rfl
  have hcell2 := hrow1.cell (j := 2) (v := .int .i64 0) rfl
  have hfr0 := hrow1.free 0
  have hfr1 := hrow1.free 1
  have hfr2 := hrow1.free 2
  have HROW := Aside0.mk hrow1
  clear hb0 hrow0 HC HS0 hb1 hv1 hc1 HN
  have e1 : wrap64 ((l0.length : Int) - (rest.length : Int)) = (fr : Int) := by unfold wrap64; omega
  have e2 : wrap64 ((fr : Int) + (n : Int)) = (to_ : Int) := by unfold wrap64; omega
  have e3 : wrap64 ((to_ : Int) + 4) = (en_ : Int) := by unfold wrap64; omega
  have d1 : decide ((l0.length : Int) < (en_ : Int)) = false := decide_eq_false (by omega)
  have d2 : decide (l0.length < en_) = false := decide_eq_false (by omega)
  have HFR := Aside0.mk hfr
  have HT0 := Aside0.mk (show 0 < to_ by omega)
  have HT := Aside0.mk (show to_ ≤ l0.length by omega)
  have HT4 := Aside0.mk (show to_ + 4 = en_ by omega)
  have HE := Aside0.mk h2
  clear hfr h2 hl ht he
  obtain ⟨i0, hi0, _, hsz0, _⟩ := info_parts infoU8
  have hcut1 := cut_to (P := Try.prog) 22 5 .i64 Try.underlying22 hi0 (some ad) l0.length c0 (to_ : Int) (by omega) (by have := HT.out; omega) HC0.out
  have hcut2 := cut_mid (P := Try.prog) 22 5 .i64 .i64 Try.underlying22 hi0 1 hsz0 (some ad) l0.length c0 (to_ : Int) (en_ : Int) (by omega) (by have := HT4.out; omega) (by have := HE.out; omega) HC0.out
  have hc1 : ¬ c0 = to_ := by have := HC0.out; have := HT4.out; have := HE.out; omega
  have hadd : (some ad : Option Addr).map (·.add (to_ * 1)) = some ⟨ad.block, ad.off + to_, none⟩ := by
    rw [Nat.mul_one, Option.map_some]
    unfold Addr.add
    have := HT0.out
    rw [if_neg (by omega)]
  rw [Int.toNat_natCast, Int.toNat_natCast, if_neg hc1, hadd, show en_ - to_ = 4 by have := HT4.out; omega] at hcut2
  rw [Int.toNat_natCast] at hcut1
  have hap : ∀ W : World, (Instr.arrayAt 45 (.slice (some ⟨ad.block, ad.off + to_, none⟩) 4 (c0 - to_))).run Try.prog W = .ok (.pointer (some ⟨ad.block, ad.off + to_, none⟩)) W := by
    intro W
    simp [Instr.arrayAt, underlying, Try.underlying45]
  clear hadd
  go_wp2_with fail
  have hrow2 := ((hrow1.set 0 (.int .i64 (fr : Int))).set 1 (.int .i64 (to_ : Int))).set 2 (.int .i64 (en_ : Int))
  have hb2 := ((HB1.out.setCell (show w.heap.size ≤ (⟨w.heap.size, 0, none⟩ : Addr).block from Nat.le_refl _) (.int .i64 (fr : Int))).setCell (show w.heap.size ≤ (⟨w.heap.size, 1, none⟩ : Addr).block from Nat.le_refl _) (.int .i64 (to_ : Int))).setCell (show w.heap.size ≤ (⟨w.heap.size, 2, none⟩ : Addr).block from Nat.le_refl _) (.int .i64 (en_ : Int))
  have hset : (((trio 0 0 0).setIfInBounds 0 (.int .i64 (fr : Int))).setIfInBounds 1 (.int .i64 (to_ : Int))).setIfInBounds 2 (.int .i64 (en_ : Int)) = trio fr to_ en_ := rfl
  rw [hset] at hrow2
  obtain ⟨w2, hw2⟩ : ∃ w2 : World, w2 = ((w1.setCell ⟨w.heap.size, 0, none⟩ (.int .i64 (fr : Int))).setCell ⟨w.heap.size, 1, none⟩ (.int .i64 (to_ : Int))).setCell ⟨w.heap.size, 2, none⟩ (.int .i64 (en_ : Int)) := ⟨_, rfl⟩
  rw [← hw2] at hrow2 hb2 ⊢
  clear hw2 hset hrow1 HB1 HROW hcell0 hcell1 hcell2 hfr0 hfr1 hfr2
  have HR2 := Aside0.mk (Kd.C_below HR.out hb2)
  have hx : ∀ (W : World) (hW : Kd.C (Kd.int .u8) W (some ad) l0.length l0) (j : Nat), to_ + j < l0.length → W.cell? ⟨ad.block, ad.off + to_ + j, none⟩ = some (.int .u8 (rd l0 ((to_ + j : Nat) : Int))) := fun W hW j hj => by
    obtain ⟨ad', e', hc'⟩ := Kd.at_int hW ((to_ + j : Nat) : Int) (by omega) (by omega)
    cases e'
    rw [Int.toNat_natCast] at hc'
    rw [← hc']
    unfold Addr.add
    rw [if_neg (by have := HT0.out; omega), Nat.add_assoc]
  have hlen : to_ + 3 < l0.length := by have := HT4.out; have := HE.out; omega
  have hfacts : ∀ W : World, HoldsRow W w.heap.size 50 (trio fr to_ en_) → Kd.C (Kd.int .u8) W (some ad) l0.length l0 → W.cell? ⟨w.heap.size, 1, none⟩ = some (.int .i64 to_) ∧ W.cell? ⟨w.heap.size, 2, none⟩ = some (.int .i64 en_) ∧ W.cell? ⟨ad.block, ad.off + to_, none⟩ = some (.int .u8 (rd l0 (to_ : Nat))) ∧ W.cell? ⟨ad.block, ad.off + to_ + 1, none⟩ = some (.int .u8 (rd l0 ((to_ + 1 : Nat) : Int))) ∧ W.cell? ⟨ad.block, ad.off + to_ + 2, none⟩ = some (.int .u8 (rd l0 ((to_ + 2 : Nat) : Int))) ∧ W.cell? ⟨ad.block, ad.off + to_ + 3, none⟩ = some (.int .u8 (rd l0 ((to_ + 3 : Nat) : Int))) :=
    fun W h1 h2 => ⟨h1.cell rfl, h1.cell rfl, hx W h2 0 (by omega), hx W h2 1 (by omega), hx W h2 2 (by omega), hx W h2 3 (by omega)⟩
  have K0 := hfacts w2 hrow2 HR2.out
  have hfour : (l0.drop to_).take 4 = [rd l0 (to_ : Nat), rd l0 ((to_ + 1 : Nat) : Int), rd l0 ((to_ + 2 : Nat) : Int), rd l0 ((to_ + 3 : Nat) : Int)] := take_four l0 to_ hlen
  have HFOUR := Aside0.mk hfour
  clear hx hfour hlen
  generalize rd l0 (to_ : Nat) = x0 at *
  generalize rd l0 ((to_ + 1 : Nat) : Int) = x1 at *
  generalize rd l0 ((to_ + 2 : Nat) : Int) = x2 at *
  generalize rd l0 ((to_ + 3 : Nat) : Int) = x3 at *
  have sum_at : ∀ W : World, Kd.C (Kd.int .u8) W (some ad) l0.length l0 → Calls Try.prog 25 #[.slice (some ad) to_ c0] W fun e w' => e = .returned (.agg (rowK .u8 (four s))) ∧ Below W.heap.size W w' := fun W hC => by
    have hlt : (l0.take to_).length = to_ := by rw [List.length_take]; have := HT.out; omega
    have := frame_sum.calls (some ad) c0 (l0.take to_) s W (C_take hC to_) (by rw [hlt]; have := HT.out; have := HC0.out; omega) HS.out
    rw [hlt] at this
    exact this
  have heq : ∀ W : World, (Op.equalIn 10000 45 (.agg (rowK .u8 (four s))) (.agg #[.int .u8 x0, .int .u8 x1, .int .u8 x2, .int .u8 x3])).run Try.prog W = .ok (decide (four s = [x0, x1, x2, x3])) W := fun W => eq_four W _ _ _ _ x0 x1 x2 x3
  by_cases hq : four s = [x0, x1, x2, x3]
  · have bq : decide (four s = [x0, x1, x2, x3]) = true := decide_eq_true hq
    rw [HFOUR.out, if_pos hq] at Hans
    obtain rfl := Hans.out
    clear hq
    refine start_ (n := 17) (S := fun w' => w'.cell? ⟨w.heap.size, 1, none⟩ = some (.int .i64 to_) ∧ w'.cell? ⟨w.heap.size, 2, none⟩ = some (.int .i64 en_) ∧ w'.cell? ⟨ad.block, ad.off + to_, none⟩ = some (.int .u8 x0) ∧ w'.cell? ⟨ad.block, ad.off + to_ + 1, none⟩ = some (.int .u8 x1) ∧ w'.cell? ⟨ad.block, ad.off + to_ + 2, none⟩ = some (.int .u8 x2) ∧ w'.cell? ⟨ad.block, ad.off + to_ + 3, none⟩ = some (.int .u8 x3)) (ds := []) #[false, false, false, false, false, false, false, false, false, false, false, false, false, false, false, false, false] (by kernel_rfl) rfl rfl ⟨K0.1, K0.2.1, K0.2.2.1, K0.2.2.2.1, K0.2.2.2.2.1, K0.2.2.2.2.2⟩ (fun hHeld => ?_)
    refine pure_ (i := 0) (N := some 47) (v := ?_) (a' := ?_) #[true, false, false, false, false, false, false, false, false, false, false, false, false, false, false, false, false] rfl rfl (by kernel_rfl) (fun _ _ _ h => h) (Or.inl ⟨by rfl, ?_⟩) ?_ ?_
    rotate_left
    · intro w'
      go_simp
      with_reducible rfl
    rotate_left
    · simp only [Act.put, List.setIfInBounds_toArray, List.set_cons_zero, List.set_cons_succ, i64_w, i32_w]
      rfl
    refine pure_ (i := 1) (N := some 48) (v := ?_) (a' := ?_) #[true, true, false, false, false, false, false, false, false, false, false, false, false, false, false, false, false] rfl rfl (by kernel_rfl) (fun _ _ _ h => h) (Or.inl ⟨by rfl, ?_⟩) ?_ ?_
    rotate_left
    · intro w'
      go_simp
      with_reducible rfl
    rotate_left
    · simp only [Act.put, List.setIfInBounds_toArray, List.set_cons_zero, List.set_cons_succ, i64_w, i32_w]
      rfl
    refine pure_ (i := 2) (N := some 49) (v := ?_) (a' := ?_) #[true, true, true, false, false, false, false, false, false, false, false, false, false, false, false, false, false] rfl rfl (by kernel_rfl) (fun _ _ _ h => h) (Or.inl ⟨by rfl, ?_⟩) ?_ ?_
    rotate_left
    · intro w'
      go_simp
      with_reducible rfl
    rotate_left
    · simp only [Act.put, List.setIfInBounds_toArray, List.set_cons_zero, List.set_cons_succ, i64_w, i32_w]
      rfl
    refine pure_ (i := 6) (N := some 53) (v := ?_) (a' := ?_) #[true, true, true, false, false, false, true, false, false, false, false, false, false, false, false, false, false] rfl rfl (by kernel_rfl) (fun _ _ _ h => h) (Or.inl ⟨by rfl, ?_⟩) ?_ ?_
    rotate_left
    · intro w'
      go_simp
      with_reducible rfl
    rotate_left
    · simp only [Act.put, List.setIfInBounds_toArray, List.set_cons_zero, List.set_cons_succ, i64_w, i32_w]
      rfl
    refine pure_ (i := 7) (N := some 54) (v := ?_) (a' := ?_) #[true, true, true, false, false, false, true, true, false, false, false, false, false, false, false, false, false] rfl rfl (by kernel_rfl) (fun _ _ _ h => h) (Or.inl ⟨by rfl, ?_⟩) ?_ ?_
    rotate_left
    · intro w'
      go_simp
      with_reducible rfl
    rotate_left
    · simp only [Act.put, List.setIfInBounds_toArray, List.set_cons_zero, List.set_cons_succ, i64_w, i32_w]
      rfl
    refine pure_ (i := 8) (N := some 55) (v := ?_) (a' := ?_) #[true, true, true, false, false, false, true, true, true, false, false, false, false, false, false, false, false] rfl rfl (by kernel_rfl) (fun _ _ _ h => h) (Or.inl ⟨by rfl, ?_⟩) ?_ ?_
    rotate_left
    · intro w'
      go_simp
      with_reducible rfl
    rotate_left
    · simp only [Act.put, List.setIfInBounds_toArray, List.set_cons_zero, List.set_cons_succ, i64_w, i32_w]
      rfl
    refine pure_ (i := 10) (N := some 57) (v := ?_) (a' := ?_) #[true, true, true, false, false, false, true, true, true, false, true, false, false, false, false, false, false] rfl rfl (by kernel_rfl) (fun _ _ _ h => h) (Or.inl ⟨by rfl, ?_⟩) ?_ ?_
    rotate_left
    · intro w'
      go_simp
      with_reducible rfl
    rotate_left
    · simp only [Act.put, List.setIfInBounds_toArray, List.set_cons_zero, List.set_cons_succ, i64_w, i32_w]
      rfl
    refine take_ (i := 3) (N := some 50) (v := ?_) (a' := ?_) #[true, true, true, true, false, false, true, true, true, false, true, false, false, false, false, false, false] rfl rfl (by kernel_rfl) (fun _ _ _ h => h) (Or.inl ⟨by rfl, ?_⟩) hHeld ?_ ?_
    rotate_left
    · rintro w' ⟨s0, s1, s2, s3, s4, s5⟩
      go_simp
      with_reducible rfl
    rotate_left
    · simp only [Act.put, List.setIfInBounds_toArray, List.set_cons_zero, List.set_cons_succ, i64_w, i32_w]
      rfl
    refine pure_ (i := 4) (N := some 51) (v := ?_) (a' := ?_) #[true, true, true, true, true, false, true, true, true, false, true, false, false, false, false, false, false] rfl rfl (by kernel_rfl) (fun _ _ _ h => h) (Or.inl ⟨by rfl, ?_⟩) ?_ ?_
    rotate_left
    · intro w'
      go_simp
      with_reducible rfl
    rotate_left
    · simp only [Act.put, List.setIfInBounds_toArray, List.set_cons_zero, List.set_cons_succ, i64_w, i32_w]
      rfl
    refine take_ (i := 9) (N := some 56) (v := ?_) (a' := ?_) #[true, true, true, true, true, false, true, true, true, true, true, false, false, false, false, false, false] rfl rfl (by kernel_rfl) (fun _ _ _ h => h) (Or.inl ⟨by rfl, ?_⟩) hHeld ?_ ?_
    rotate_left
    · rintro w' ⟨s0, s1, s2, s3, s4, s5⟩
      go_simp
      with_reducible rfl
    rotate_left
    · simp only [Act.put, List.setIfInBounds_toArray, List.set_cons_zero, List.set_cons_succ, i64_w, i32_w]
      rfl
    refine take_ (i := 11) (N := some 58) (v := ?_) (a' := ?_) #[true, true, true, true, true, false, true, true, true, true, true, true, false, false, false, false, false] rfl rfl (by kernel_rfl) (fun _ _ _ h => h) (Or.inl ⟨by rfl, ?_⟩) hHeld ?_ ?_
    rotate_left
    · rintro w' ⟨s0, s1, s2, s3, s4, s5⟩
      go_simp
      with_reducible rfl
    rotate_left
    · simp only [Act.put, List.setIfInBounds_toArray, List.set_cons_zero, List.set_cons_succ, i64_w, i32_w]
      rfl
    refine pure_ (i := 12) (N := some 59) (v := ?_) (a' := ?_) #[true, true, true, true, true, false, true, true, true, true, true, true, true, false, false, false, false] rfl rfl (by kernel_rfl) (fun _ _ _ h => h) (Or.inl ⟨by rfl, ?_⟩) ?_ ?_
    rotate_left
    · intro w'
      go_simp
      with_reducible rfl
    rotate_left
    · simp only [Act.put, List.setIfInBounds_toArray, List.set_cons_zero, List.set_cons_succ, i64_w, i32_w]
      rfl
    refine pure_ (i := 13) (N := some 60) (v := ?_) (a' := ?_) #[true, true, true, true, true, false, true, true, true, true, true, true, true, true, false, false, false] rfl rfl (by kernel_rfl) (fun _ _ _ h => h) (Or.inl ⟨by rfl, ?_⟩) ?_ ?_
    rotate_left
    · intro w'
      go_simp
      with_reducible rfl
    rotate_left
    · simp only [Act.put, List.setIfInBounds_toArray, List.set_cons_zero, List.set_cons_succ, i64_w, i32_w]
      rfl
    refine take_ (i := 14) (N := some 61) (v := ?_) (a' := ?_) #[true, true, true, true, true, false, true, true, true, true, true, true, true, true, true, false, false] rfl rfl (by kernel_rfl) (fun _ _ _ h => h) (Or.inl ⟨by rfl, ?_⟩) hHeld ?_ ?_
    rotate_left
    · rintro w' ⟨s0, s1, s2, s3, s4, s5⟩
      go_simp
      with_reducible rfl
    rotate_left
    · simp only [Act.put, List.setIfInBounds_toArray, List.set_cons_zero, List.set_cons_succ, i64_w, i32_w]
      rfl
    refine one_ (i := 5) (N := some 52) #[true, true, true, true, true, true, true, true, true, true, true, true, true, true, true, false, false] rfl rfl (by kernel_rfl) (by decide) (fun K hK => ?_)
    refine goes_ Try.func25 (by kernel_rfl) rfl #[.slice (some ad) to_ c0] (by rfl) rfl rfl (by simp only [List.map_toArray, List.map_cons, List.map_nil]; rfl) ?_
    with_reducible refine (sum_at _ (Kd.C_drew HR2.out)).mono ?_
    rintro e w5 ⟨rfl, hb5⟩
    refine ⟨_, rfl, ?_⟩
    have F := hfacts w5 (HoldsRow.below (w := w2.drew) (w' := w5) hrow2 hb5 hrow2.lt) (Kd.C_below (Kd.C_drew HR2.out) hb5)
    refine hK.out _ _ ⟨F.1, F.2.1, F.2.2.1, F.2.2.2.1, F.2.2.2.2.1, F.2.2.2.2.2⟩ (fun hHeld => ?_)
    clear hK K
    refine norm_ (a' := ?_) ?_ ?_
    rotate_left
    · show Act.put _ (some 52) _ = _
      simp only [Act.put, List.setIfInBounds_toArray, List.set_cons_zero, List.set_cons_succ, i64_w, i32_w]
      rfl
    refine pure_ (i := 15) (N := some 62) (v := ?_) (a' := ?_) #[true, true, true, true, true, true, true, true, true, true, true, true, true, true, true, true, false] rfl rfl (by kernel_rfl) (fun _ _ _ h => h) (Or.inl ⟨by rfl, ?_⟩) ?_ ?_
    rotate_left
    · intro w'
      go_simp
      with_reducible rfl
    rotate_left
    · simp only [Act.put, List.setIfInBounds_toArray, List.set_cons_zero, List.set_cons_succ, i64_w, i32_w]
      rfl
    refine pure_ (i := 16) (N := some 46) (v := ?_) (a' := ?_) #[true, true, true, true, true, true, true, true, true, true, true, true, true, true, true, true, true] rfl rfl (by kernel_rfl) (fun _ _ _ h => h) (Or.inl ⟨by rfl, ?_⟩) ?_ ?_
    rotate_left
    · intro w'
      go_simp
      with_reducible rfl
    rotate_left
    · simp only [Act.put, List.setIfInBounds_toArray, List.set_cons_zero, List.set_cons_succ, i64_w, i32_w]
      rfl
    refine done_ (by kernel_rfl) ?_
    
    have hrow5 := HoldsRow.below (w := w2.drew) (w' := w5) hrow2 hb5 hrow2.lt
    have HB5 := Aside0.mk (below_then (below_drew hb2) (by have := hb2.size; simpa using this) hb5)
    have q0 := hrow5.cell (j := 0) (v := .int .i64 (fr : Nat)) rfl
    have q1 := hrow5.cell (j := 1) (v := .int .i64 (to_ : Nat)) rfl
    have q2 := hrow5.cell (j := 2) (v := .int .i64 (en_ : Nat)) rfl
    have z0 := hrow5.free 0
    have z1 := hrow5.free 1
    have z2 := hrow5.free 2
    go_wp2_with fail
    have hr6 := ((hrow5.set 0 (.int .i64 (fr : Int))).set 1 (.int .i64 (to_ : Int))).set 2 (.int .i64 (en_ : Int))
    have hs6 : (((trio fr to_ en_).setIfInBounds 0 (.int .i64 (fr : Int))).setIfInBounds 1 (.int .i64 (to_ : Int))).setIfInBounds 2 (.int .i64 (en_ : Int)) = trio fr to_ en_ := rfl
    rw [hs6] at hr6
    exact bodyPost_ret (results_cell2 (p := 2) (q := 3) (ty := 50) rfl _ _ w.heap.size (trio fr to_ en_) rfl (run_loadVar_row _ w.heap.size 50 50 (trio fr to_ en_) (0, 0) _ hr6 Try.underlying50 rfl (by rw [trio_size]; kernel_rfl))) rfl ⟨rfl, ((HB5.out.setCell (show w.heap.size ≤ (⟨w.heap.size, 0, none⟩ : Addr).block from Nat.le_refl _) _).setCell (show w.heap.size ≤ (⟨w.heap.size, 1, none⟩ : Addr).block from Nat.le_refl _) _).setCell (show w.heap.size ≤ (⟨w.heap.size, 2, none⟩ : Addr).block from Nat.le_refl _) _⟩
  · have bq : decide (four s = [x0, x1, x2, x3]) = false := decide_eq_false hq
    rw [HFOUR.out, if_neg hq] at Hans
    obtain rfl := Hans.out
    clear hq
    refine start_ (n := 17) (S := fun w' => w'.cell? ⟨w.heap.size, 1, none⟩ = some (.int .i64 to_) ∧ w'.cell? ⟨w.heap.size, 2, none⟩ = some (.int .i64 en_) ∧ w'.cell? ⟨ad.block, ad.off + to_, none⟩ = some (.int .u8 x0) ∧ w'.cell? ⟨ad.block, ad.off + to_ + 1, none⟩ = some (.int .u8 x1) ∧ w'.cell? ⟨ad.block, ad.off + to_ + 2, none⟩ = some (.int .u8 x2) ∧ w'.cell? ⟨ad.block, ad.off + to_ + 3, none⟩ = some (.int .u8 x3)) (ds := []) #[false, false, false, false, false, false, false, false, false, false, false, false, false, false, false, false, false] (by kernel_rfl) rfl rfl ⟨K0.1, K0.2.1, K0.2.2.1, K0.2.2.2.1, K0.2.2.2.2.1, K0.2.2.2.2.2⟩ (fun hHeld => ?_)
    refine pure_ (i := 0) (N := some 47) (v := ?_) (a' := ?_) #[true, false, false, false, false, false, false, false, false, false, false, false, false, false, false, false, false] rfl rfl (by kernel_rfl) (fun _ _ _ h => h) (Or.inl ⟨by rfl, ?_⟩) ?_ ?_
    rotate_left
    · intro w'
      go_simp
      with_reducible rfl
    rotate_left
    · simp only [Act.put, List.setIfInBounds_toArray, List.set_cons_zero, List.set_cons_succ, i64_w, i32_w]
      rfl
    refine pure_ (i := 1) (N := some 48) (v := ?_) (a' := ?_) #[true, true, false, false, false, false, false, false, false, false, false, false, false, false, false, false, false] rfl rfl (by kernel_rfl) (fun _ _ _ h => h) (Or.inl ⟨by rfl, ?_⟩) ?_ ?_
    rotate_left
    · intro w'
      go_simp
      with_reducible rfl
    rotate_left
    · simp only [Act.put, List.setIfInBounds_toArray, List.set_cons_zero, List.set_cons_succ, i64_w, i32_w]
      rfl
    refine pure_ (i := 2) (N := some 49) (v := ?_) (a' := ?_) #[true, true, true, false, false, false, false, false, false, false, false, false, false, false, false, false, false] rfl rfl (by kernel_rfl) (fun _ _ _ h => h) (Or.inl ⟨by rfl, ?_⟩) ?_ ?_
    rotate_left
    · intro w'
      go_simp
      with_reducible rfl
    rotate_left
    · simp only [Act.put, List.setIfInBounds_toArray, List.set_cons_zero, List.set_cons_succ, i64_w, i32_w]
      rfl
    refine pure_ (i := 6) (N := some 53) (v := ?_) (a' := ?_) #[true, true, true, false, false, false, true, false, false, false, false, false, false, false, false, false, false] rfl rfl (by kernel_rfl) (fun _ _ _ h => h) (Or.inl ⟨by rfl, ?_⟩) ?_ ?_
    rotate_left
    · intro w'
      go_simp
      with_reducible rfl
    rotate_left
    · simp only [Act.put, List.setIfInBounds_toArray, List.set_cons_zero, List.set_cons_succ, i64_w, i32_w]
      rfl
    refine pure_ (i := 7) (N := some 54) (v := ?_) (a' := ?_) #[true, true, true, false, false, false, true, true, false, false, false, false, false, false, false, false, false] rfl rfl (by kernel_rfl) (fun _ _ _ h => h) (Or.inl ⟨by rfl, ?_⟩) ?_ ?_
    rotate_left
    · intro w'
      go_simp
      with_reducible rfl
    rotate_left
    · simp only [Act.put, List.setIfInBounds_toArray, List.set_cons_zero, List.set_cons_succ, i64_w, i32_w]
      rfl
    refine pure_ (i := 8) (N := some 55) (v := ?_) (a' := ?_) #[true, true, true, false, false, false, true, true, true, false, false, false, false, false, false, false, false] rfl rfl (by kernel_rfl) (fun _ _ _ h => h) (Or.inl ⟨by rfl, ?_⟩) ?_ ?_
    rotate_left
    · intro w'
      go_simp
      with_reducible rfl
    rotate_left
    · simp only [Act.put, List.setIfInBounds_toArray, List.set_cons_zero, List.set_cons_succ, i64_w, i32_w]
      rfl
    refine pure_ (i := 10) (N := some 57) (v := ?_) (a' := ?_) #[true, true, true, false, false, false, true, true, true, false, true, false, false, false, false, false, false] rfl rfl (by kernel_rfl) (fun _ _ _ h => h) (Or.inl ⟨by rfl, ?_⟩) ?_ ?_
    rotate_left
    · intro w'
      go_simp
      with_reducible rfl
    rotate_left
    · simp only [Act.put, List.setIfInBounds_toArray, List.set_cons_zero, List.set_cons_succ, i64_w, i32_w]
      rfl
    refine take_ (i := 3) (N := some 50) (v := ?_) (a' := ?_) #[true, true, true, true, false, false, true, true, true, false, true, false, false, false, false, false, false] rfl rfl (by kernel_rfl) (fun _ _ _ h => h) (Or.inl ⟨by rfl, ?_⟩) hHeld ?_ ?_
    rotate_left
    · rintro w' ⟨s0, s1, s2, s3, s4, s5⟩
      go_simp
      with_reducible rfl
    rotate_left
    · simp only [Act.put, List.setIfInBounds_toArray, List.set_cons_zero, List.set_cons_succ, i64_w, i32_w]
      rfl
    refine pure_ (i := 4) (N := some 51) (v := ?_) (a' := ?_) #[true, true, true, true, true, false, true, true, true, false, true, false, false, false, false, false, false] rfl rfl (by kernel_rfl) (fun _ _ _ h => h) (Or.inl ⟨by rfl, ?_⟩) ?_ ?_
    rotate_left
    · intro w'
      go_simp
      with_reducible rfl
    rotate_left
    · simp only [Act.put, List.setIfInBounds_toArray, List.set_cons_zero, List.set_cons_succ, i64_w, i32_w]
      rfl
    refine take_ (i := 9) (N := some 56) (v := ?_) (a' := ?_) #[true, true, true, true, true, false, true, true, true, true, true, false, false, false, false, false, false] rfl rfl (by kernel_rfl) (fun _ _ _ h => h) (Or.inl ⟨by rfl, ?_⟩) hHeld ?_ ?_
    rotate_left
    · rintro w' ⟨s0, s1, s2, s3, s4, s5⟩
      go_simp
      with_reducible rfl
    rotate_left
    · simp only [Act.put, List.setIfInBounds_toArray, List.set_cons_zero, List.set_cons_succ, i64_w, i32_w]
      rfl
    refine take_ (i := 11) (N := some 58) (v := ?_) (a' := ?_) #[true, true, true, true, true, false, true, true, true, true, true, true, false, false, false, false, false] rfl rfl (by kernel_rfl) (fun _ _ _ h => h) (Or.inl ⟨by rfl, ?_⟩) hHeld ?_ ?_
    rotate_left
    · rintro w' ⟨s0, s1, s2, s3, s4, s5⟩
      go_simp
      with_reducible rfl
    rotate_left
    · simp only [Act.put, List.setIfInBounds_toArray, List.set_cons_zero, List.set_cons_succ, i64_w, i32_w]
      rfl
    refine pure_ (i := 12) (N := some 59) (v := ?_) (a' := ?_) #[true, true, true, true, true, false, true, true, true, true, true, true, true, false, false, false, false] rfl rfl (by kernel_rfl) (fun _ _ _ h => h) (Or.inl ⟨by rfl, ?_⟩) ?_ ?_
    rotate_left
    · intro w'
      go_simp
      with_reducible rfl
    rotate_left
    · simp only [Act.put, List.setIfInBounds_toArray, List.set_cons_zero, List.set_cons_succ, i64_w, i32_w]
      rfl
    refine pure_ (i := 13) (N := some 60) (v := ?_) (a' := ?_) #[true, true, true, true, true, false, true, true, true, true, true, true, true, true, false, false, false] rfl rfl (by kernel_rfl) (fun _ _ _ h => h) (Or.inl ⟨by rfl, ?_⟩) ?_ ?_
    rotate_left
    · intro w'
      go_simp
      with_reducible rfl
    rotate_left
    · simp only [Act.put, List.setIfInBounds_toArray, List.set_cons_zero, List.set_cons_succ, i64_w, i32_w]
      rfl
    refine take_ (i := 14) (N := some 61) (v := ?_) (a' := ?_) #[true, true, true, true, true, false, true, true, true, true, true, true, true, true, true, false, false] rfl rfl (by kernel_rfl) (fun _ _ _ h => h) (Or.inl ⟨by rfl, ?_⟩) hHeld ?_ ?_
    rotate_left
    · rintro w' ⟨s0, s1, s2, s3, s4, s5⟩
      go_simp
      with_reducible rfl
    rotate_left
    · simp only [Act.put, List.setIfInBounds_toArray, List.set_cons_zero, List.set_cons_succ, i64_w, i32_w]
      rfl
    refine one_ (i := 5) (N := some 52) #[true, true, true, true, true, true, true, true, true, true, true, true, true, true, true, false, false] rfl rfl (by kernel_rfl) (by decide) (fun K hK => ?_)
    refine goes_ Try.func25 (by kernel_rfl) rfl #[.slice (some ad) to_ c0] (by rfl) rfl rfl (by simp only [List.map_toArray, List.map_cons, List.map_nil]; rfl) ?_
    with_reducible refine (sum_at _ (Kd.C_drew HR2.out)).mono ?_
    rintro e w5 ⟨rfl, hb5⟩
    refine ⟨_, rfl, ?_⟩
    have F := hfacts w5 (HoldsRow.below (w := w2.drew) (w' := w5) hrow2 hb5 hrow2.lt) (Kd.C_below (Kd.C_drew HR2.out) hb5)
    refine hK.out _ _ ⟨F.1, F.2.1, F.2.2.1, F.2.2.2.1, F.2.2.2.2.1, F.2.2.2.2.2⟩ (fun hHeld => ?_)
    clear hK K
    refine norm_ (a' := ?_) ?_ ?_
    rotate_left
    · show Act.put _ (some 52) _ = _
      simp only [Act.put, List.setIfInBounds_toArray, List.set_cons_zero, List.set_cons_succ, i64_w, i32_w]
      rfl
    refine pure_ (i := 15) (N := some 62) (v := ?_) (a' := ?_) #[true, true, true, true, true, true, true, true, true, true, true, true, true, true, true, true, false] rfl rfl (by kernel_rfl) (fun _ _ _ h => h) (Or.inl ⟨by rfl, ?_⟩) ?_ ?_
    rotate_left
    · intro w'
      go_simp
      with_reducible rfl
    rotate_left
    · simp only [Act.put, List.setIfInBounds_toArray, List.set_cons_zero, List.set_cons_succ, i64_w, i32_w]
      rfl
    refine pure_ (i := 16) (N := some 46) (v := ?_) (a' := ?_) #[true, true, true, true, true, true, true, true, true, true, true, true, true, true, true, true, true] rfl rfl (by kernel_rfl) (fun _ _ _ h => h) (Or.inl ⟨by rfl, ?_⟩) ?_ ?_
    rotate_left
    · intro w'
      go_simp
      with_reducible rfl
    rotate_left
    · simp only [Act.put, List.setIfInBounds_toArray, List.set_cons_zero, List.set_cons_succ, i64_w, i32_w]
      rfl
    refine done_ (by kernel_rfl) ?_
    
    have hrow5 := HoldsRow.below (w := w2.drew) (w' := w5) hrow2 hb5 hrow2.lt
    have HB5 := Aside0.mk (below_then (below_drew hb2) (by have := hb2.size; simpa using this) hb5)
    have q0 := hrow5.cell (j := 0) (v := .int .i64 (fr : Nat)) rfl
    have q1 := hrow5.cell (j := 1) (v := .int .i64 (to_ : Nat)) rfl
    have q2 := hrow5.cell (j := 2) (v := .int .i64 (en_ : Nat)) rfl
    have z0 := hrow5.free 0
    have z1 := hrow5.free 1
    have z2 := hrow5.free 2
    go_wp2_with fail
    have hr6 := ((hrow5.set 0 (.int .i64 0)).set 1 (.int .i64 0)).set 2 (.int .i64 0)
    have hs6 : (((trio fr to_ en_).setIfInBounds 0 (.int .i64 0)).setIfInBounds 1 (.int .i64 0)).setIfInBounds 2 (.int .i64 0) = trio 0 0 0 := rfl
    rw [hs6] at hr6
    exact bodyPost_ret (results_cell2 (p := 2) (q := 3) (ty := 50) rfl _ _ w.heap.size (trio 0 0 0) rfl (run_loadVar_row _ w.heap.size 50 50 (trio 0 0 0) (0, 0) _ hr6 Try.underlying50 rfl (by rw [trio_size]; kernel_rfl))) rfl ⟨rfl, ((HB5.out.setCell (show w.heap.size ≤ (⟨w.heap.size, 0, none⟩ : Addr).block from Nat.le_refl _) _).setCell (show w.heap.size ≤ (⟨w.heap.size, 1, none⟩ : Addr).block from Nat.le_refl _) _).setCell (show w.heap.size ≤ (⟨w.heap.size, 2, none⟩ : Addr).block from Nat.le_refl _) _⟩
end Go.Proofs.Ytgfjijfjlbjajaa.Ext
