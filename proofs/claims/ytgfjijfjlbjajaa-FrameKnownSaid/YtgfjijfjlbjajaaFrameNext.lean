import Derived.Test.YtgfjijfjlbjajaaFramePack
/- frame.first, walked. Condition: a row that append bears. -/
namespace Go.Proofs.Ytgfjijfjlbjajaa.Ext
open Go.RowKit Go.Proofs.YtgfjijfjlbjajaaW.PrintWords Go.Proofs.YtgfjijfjlbjajaaW.PrintLast Go.Proofs.YtgfjijfjlbjajaaW.PrintMore Go.Proofs.Ytgfjijfjlbjajaa.Base Go.Proofs.Ytgfjijfjlbjajaa.Arr Go.Proofs.Ytgfjijfjlbjajaa.Mid
set_option linter.unusedVariables false
set_option linter.unusedSimpArgs false

/-- three whole numbers in a row of cells -/
def trio (a b c : Int) : Array Value := #[.int .i64 a, .int .i64 b, .int .i64 c]
theorem trio_size (a b c : Int) : (trio a b c).size = 3 := rfl
theorem results_cell2 {fn : Func} {p q : Tmp} {ty : TypeId} (h : fn.results = #[.cell p ty, .tmp q]) (tmps : Array Value) (w : World) (g : Nat) (cs : Array Value)
    (hp : tmps.getD p undef = .pointer (some ⟨g, 0, none⟩)) (hv : (loadVar ty ⟨g, 0, none⟩).run Try.prog w = .ok (.agg cs) w) :
    (results fn tmps).run Try.prog w = .ok (.tuple #[.agg cs, tmps.getD q undef]) w := by
  have hp' : tmps[p]?.getD undef = .pointer (some ⟨g, 0, none⟩) := by simpa using hp
  simp [results, h, hp', asAddr, hv]
theorem take_four (l : List Int) (n : Nat) (h : n + 3 < l.length) : (l.drop n).take 4 = [rd l (n : Nat), rd l ((n + 1 : Nat) : Int), rd l ((n + 2 : Nat) : Int), rd l ((n + 3 : Nat) : Int)] := by
  have e : ∀ j, j < l.length → rd l (j : Nat) = l.getD j 0 := fun j _ => by unfold rd; rw [Int.toNat_natCast]
  rw [e _ (by omega), e _ (by omega), e _ (by omega), e _ h]
  apply List.ext_getElem?
  intro i
  rw [List.getElem?_take, List.getElem?_drop]
  rcases i with _ | _ | _ | _ | i
  · simp [List.getD_eq_getElem?_getD, show n < l.length by omega]
  · simp [List.getD_eq_getElem?_getD, show n + 1 < l.length by omega]
  · simp [List.getD_eq_getElem?_getD, show n + 2 < l.length by omega]
  · simp [List.getD_eq_getElem?_getD, h]
  · simp
    omega
set_option maxHeartbeats 4000000 in
set_option maxRecDepth 100000 in
theorem first_calls (ad : Addr) (c0 : Nat) (l0 : List Int) (w : World) (hr0 : Kd.C (Kd.int .u8) w (some ad) l0.length l0) (hc0 : l0.length ≤ c0) (n fr to_ en_ : Nat) (rest : List Int) (hn : bin_TakeNum.f l0 = some ((n : Int), rest, 0)) (hfr1 : 0 < fr) (hfr : fr + rest.length = l0.length) (hl : l0.length < 140737488355328)
    (h1 : n ≤ 8192) (ht : to_ = fr + n) (he : en_ = to_ + 4) (h2 : en_ ≤ l0.length) (s : Int) (hs : crc_Of.f (l0.take to_) = some s) (ans : Value) (Hans : Aside0 ((if four s = (l0.drop to_).take 4 then .tuple #[.agg (trio (fr : Int) (to_ : Int) (en_ : Int)), .int .i64 0] else .tuple #[.agg (trio 0 0 0), .int .i64 40]) = ans)) :
    Calls Try.prog 28 #[.slice (some ad) l0.length c0] w fun e w' => e = .returned ans ∧ Below w.heap.size w w' := by
  have HR := Aside0.mk hr0
  have HN := Aside0.mk hn
  have HS := Aside0.mk hs
  have HC0 := Aside0.mk hc0
  have H2 := Aside0.mk h2
  have HL := Aside0.mk hl
  have hlim : decide ((8192 : Int) < (n : Int)) = false := decide_eq_false (by omega)
  have hlim2 : decide (8192 < n) = false := decide_eq_false (by omega)
  have hb0 := (Below.refl w.heap.size w).alloc (Nat.le_refl _) (.cells (trio 0 0 0) 50)
  have hrow0 := HoldsRow.new w 50 (trio 0 0 0)
  have HC := Aside0.mk (Kd.C_alloc hr0 (.cells (trio 0 0 0) 50))
  have HS0 := Aside0.mk (show w.heap.size < (w.alloc (.cells (trio 0 0 0) 50)).heap.size by simp)
  clear hr0 hn hs hc0
  go_enter Try.func28, Try.ntmps28
  go_wp2_with fail
  refine (bin_TakeNum.calls (some ad) c0 l0 n rest 0 _ HC.out HC0.out HN.out).mono ?_
  rintro e w1 ⟨v1, rfl, hv1, hb1⟩
  obtain ⟨A1, c1, rfl, hc1⟩ := Kd.Q_slice (Kd.Q_of_R hv1)
  have hrow1 := hrow0.below hb1 HS0.out
  have HB1 := Aside0.mk (below_then hb0 hb0.size hb1)
  have HRR := Aside0.mk (Kd.C_below HR.out HB1.out)
  have hcell0 := hrow1.cell (j := 0) (v := .int .i64 0) rfl
  have hcell1 := hrow1.cell (j := 1) (v := .int .i64 0) rfl
  have hcell2 := hrow1.cell (j := 2) (v := .int .i64 0) rfl
  have hfr0 := hrow1.free 0
  have hfr1 := hrow1.free 1
  have hfr2 := hrow1.free 2
  have HROW := Aside0.mk hrow1
  clear hb0 hrow0 HC HS0 hb1 hv1 hc1 HN
  have e1 : wrap64 ((l0.length : Int) - (rest.length : Int)) = (fr : Int) := by unfold wrap64; omega
  have e2 : wrap64 ((fr : Int) + (n : Int)) = (to_ : Int) := by unfold wrap64; omega
  have e3 : wrap64 ((to_ : Int) + 4) = (en_ : Int) := by unfold wrap64; omega
  have d1 : decide ((l0.length : Int) < (en_ : Int)) = false := decide_eq_false (by omega)
  have d2 : decide (l0.length < en_) = false := decide_eq_false (by omega)
  have HFR := Aside0.mk hfr
  have HT0 := Aside0.mk (show 0 < to_ by omega)
  have HT := Aside0.mk (show to_ ≤ l0.length by omega)
  have HT4 := Aside0.mk (show to_ + 4 = en_ by omega)
  have HE := Aside0.mk h2
  clear hfr h2 hl ht he
  obtain ⟨i0, hi0, _, hsz0, _⟩ := info_parts infoU8
  have hcut1 := cut_to (P := Try.prog) 22 5 .i64 Try.underlying22 hi0 (some ad) l0.length c0 (to_ : Int) (by omega) (by have := HT.out; omega) HC0.out
  have hcut2 := cut_mid (P := Try.prog) 22 5 .i64 .i64 Try.underlying22 hi0 1 hsz0 (some ad) l0.length c0 (to_ : Int) (en_ : Int) (by omega) (by have := HT4.out; omega) (by have := HE.out; omega) HC0.out
  have hc1 : ¬ c0 = to_ := by have := HC0.out; have := HT4.out; have := HE.out; omega
  have hadd : (some ad : Option Addr).map (·.add (to_ * 1)) = some ⟨ad.block, ad.off + to_, none⟩ := by
    rw [Nat.mul_one, Option.map_some]
    unfold Addr.add
    have := HT0.out
    rw [if_neg (by omega)]
  rw [Int.toNat_natCast, Int.toNat_natCast, if_neg hc1, hadd, show en_ - to_ = 4 by have := HT4.out; omega] at hcut2
  rw [Int.toNat_natCast] at hcut1
  have hap : ∀ W : World, (Instr.arrayAt 45 (.slice (some ⟨ad.block, ad.off + to_, none⟩) 4 (c0 - to_))).run Try.prog W = .ok (.pointer (some ⟨ad.block, ad.off + to_, none⟩)) W := by
    intro W
    simp [Instr.arrayAt, underlying, Try.underlying45]
  clear hadd
  go_wp2_with fail
  have hrow2 := ((hrow1.set 0 (.int .i64 (fr : Int))).set 1 (.int .i64 (to_ : Int))).set 2 (.int .i64 (en_ : Int))
  have hb2 := ((HB1.out.setCell (show w.heap.size ≤ (⟨w.heap.size, 0, none⟩ : Addr).block from Nat.le_refl _) (.int .i64 (fr : Int))).setCell (show w.heap.size ≤ (⟨w.heap.size, 1, none⟩ : Addr).block from Nat.le_refl _) (.int .i64 (to_ : Int))).setCell (show w.heap.size ≤ (⟨w.heap.size, 2, none⟩ : Addr).block from Nat.le_refl _) (.int .i64 (en_ : Int))
  have hset : (((trio 0 0 0).setIfInBounds 0 (.int .i64 (fr : Int))).setIfInBounds 1 (.int .i64 (to_ : Int))).setIfInBounds 2 (.int .i64 (en_ : Int)) = trio fr to_ en_ := rfl
  rw [hset] at hrow2
  obtain ⟨w2, hw2⟩ : ∃ w2 : World, w2 = ((w1.setCell ⟨w.heap.size, 0, none⟩ (.int .i64 (fr : Int))).setCell ⟨w.heap.size, 1, none⟩ (.int .i64 (to_ : Int))).setCell ⟨w.heap.size, 2, none⟩ (.int .i64 (en_ : Int)) := ⟨_, rfl⟩
  rw [← hw2] at hrow2 hb2 ⊢
  clear hw2 hset hrow1 HB1 HROW hcell0 hcell1 hcell2 hfr0 hfr1 hfr2
  have HR2 := Aside0.mk (Kd.C_below HR.out hb2)
  have hx : ∀ (W : World) (hW : Kd.C (Kd.int .u8) W (some ad) l0.length l0) (j : Nat), to_ + j < l0.length → W.cell? ⟨ad.block, ad.off + to_ + j, none⟩ = some (.int .u8 (rd l0 ((to_ + j : Nat) : Int))) := fun W hW j hj => by
    obtain ⟨ad', e', hc'⟩ := Kd.at_int hW ((to_ + j : Nat) : Int) (by omega) (by omega)
    cases e'
    rw [Int.toNat_natCast] at hc'
    rw [← hc']
    unfold Addr.add
    rw [if_neg (by have := HT0.out; omega), Nat.add_assoc]
  have hlen : to_ + 3 < l0.length := by have := HT4.out; have := HE.out; omega
  have hfacts : ∀ W : World, HoldsRow W w.heap.size 50 (trio fr to_ en_) → Kd.C (Kd.int .u8) W (some ad) l0.length l0 → W.cell? ⟨w.heap.size, 1, none⟩ = some (.int .i64 to_) ∧ W.cell? ⟨w.heap.size, 2, none⟩ = some (.int .i64 en_) ∧ W.cell? ⟨ad.block, ad.off + to_, none⟩ = some (.int .u8 (rd l0 (to_ : Nat))) ∧ W.cell? ⟨ad.block, ad.off + to_ + 1, none⟩ = some (.int .u8 (rd l0 ((to_ + 1 : Nat) : Int))) ∧ W.cell? ⟨ad.block, ad.off + to_ + 2, none⟩ = some (.int .u8 (rd l0 ((to_ + 2 : Nat) : Int))) ∧ W.cell? ⟨ad.block, ad.off + to_ + 3, none⟩ = some (.int .u8 (rd l0 ((to_ + 3 : Nat) : Int))) :=
    fun W h1 h2 => ⟨h1.cell rfl, h1.cell rfl, hx W h2 0 (by omega), hx W h2 1 (by omega), hx W h2 2 (by omega), hx W h2 3 (by omega)⟩
  have K0 := hfacts w2 hrow2 HR2.out
  have hfour : (l0.drop to_).take 4 = [rd l0 (to_ : Nat), rd l0 ((to_ + 1 : Nat) : Int), rd l0 ((to_ + 2 : Nat) : Int), rd l0 ((to_ + 3 : Nat) : Int)] := take_four l0 to_ hlen
  have HFOUR := Aside0.mk hfour
  clear hx hfour hlen
  generalize rd l0 (to_ : Nat) = x0 at *
  generalize rd l0 ((to_ + 1 : Nat) : Int) = x1 at *
  generalize rd l0 ((to_ + 2 : Nat) : Int) = x2 at *
  generalize rd l0 ((to_ + 3 : Nat) : Int) = x3 at *
  have sum_at : ∀ W : World, Kd.C (Kd.int .u8) W (some ad) l0.length l0 → Calls Try.prog 25 #[.slice (some ad) to_ c0] W fun e w' => e = .returned (.agg (rowK .u8 (four s))) ∧ Below W.heap.size W w' := fun W hC => by
    have hlt : (l0.take to_).length = to_ := by rw [List.length_take]; have := HT.out; omega
    have := frame_sum.calls (some ad) c0 (l0.take to_) s W (C_take hC to_) (by rw [hlt]; have := HT.out; have := HC0.out; omega) HS.out
    rw [hlt] at this
    exact this
  have heq : ∀ W : World, (Op.equalIn 10000 45 (.agg (rowK .u8 (four s))) (.agg #[.int .u8 x0, .int .u8 x1, .int .u8 x2, .int .u8 x3])).run Try.prog W = .ok (decide (four s = [x0, x1, x2, x3])) W := fun W => eq_four W _ _ _ _ x0 x1 x2 x3
  by_cases hq : four s = [x0, x1, x2, x3]
  · have bq : decide (four s = [x0, x1, x2, x3]) = true := decide_eq_true hq
    rw [HFOUR.out, if_pos hq] at Hans
    obtain rfl := Hans.out
    clear hq
    refine start_ (n := 17) (S := fun w' => w'.cell? ⟨w.heap.size, 1, none⟩ = some (.int .i64 to_) ∧ w'.cell? ⟨w.heap.size, 2, none⟩ = some (.int .i64 en_) ∧ w'.cell? ⟨ad.block, ad.off + to_, none⟩ = some (.int .u8 x0) ∧ w'.cell? ⟨ad.block, ad.off + to_ + 1, none⟩ = some (.int .u8 x1) ∧ w'.cell? ⟨ad.block, ad.off + to_ + 2, none⟩ = some (.int .u8 x2) ∧ w'.cell? ⟨ad.block, ad.off + to_ + 3, none⟩ = some (.int .u8 x3)) (ds := []) #[false, false, false, false, false, false, false, false, false, false, false, false, false, false, false, false, false] (by kernel_rfl) rfl rfl ⟨K0.1, K0.2.1, K0.2.2.1, K0.2.2.2.1, K0.2.2.2.2.1, K0.2.2.2.2.2⟩ (fun hHeld => ?_)
    refine pure_ (i := 0) (N := some 47) (v := ?_) (a' := ?_) #[true, false, false, false, false, false, false, false, false, false, false, false, false, false, false, false, false] rfl rfl (by kernel_rfl) (fun _ _ _ h => h) (Or.inl ⟨by rfl, ?_⟩) ?_ ?_
    rotate_left
    · intro w'
      go_simp
      with_reducible rfl
    rotate_left
    · simp only [Act.put, List.setIfInBounds_toArray, List.set_cons_zero, List.set_cons_succ, i64_w, i32_w]
      rfl
    refine pure_ (i := 1) (N := some 48) (v := ?_) (a' := ?_) #[true, true, false, false, false, false, false, false, false, false, false, false, false, false, false, false, false] rfl rfl (by kernel_rfl) (fun _ _ _ h => h) (Or.inl ⟨by rfl, ?_⟩) ?_ ?_
    rotate_left
    · intro w'
      go_simp
      with_reducible rfl
    rotate_left
    · simp only [Act.put, List.setIfInBounds_toArray, List.set_cons_zero, List.set_cons_succ, i64_w, i32_w]
      rfl
    refine pure_ (i := 2) (N := some 49) (v := ?_) (a' := ?_) #[true, true, true, false, false, false, false, false, false, false, false, false, false, false, false, false, false] rfl rfl (by kernel_rfl) (fun _ _ _ h => h) (Or.inl ⟨by rfl, ?_⟩) ?_ ?_
    rotate_left
    · intro w'
      go_simp
      with_reducible rfl
    rotate_left
    · simp only [Act.put, List.setIfInBounds_toArray, List.set_cons_zero, List.set_cons_succ, i64_w, i32_w]
      rfl
    refine pure_ (i := 6) (N := some 53) (v := ?_) (a' := ?_) #[true, true, true, false, false, false, true, false, false, false, false, false, false, false, false, false, false] rfl rfl (by kernel_rfl) (fun _ _ _ h => h) (Or.inl ⟨by rfl, ?_⟩) ?_ ?_
    rotate_left
    · intro w'
      go_simp
      with_reducible rfl
    rotate_left
    · simp only [Act.put, List.setIfInBounds_toArray, List.set_cons_zero, List.set_cons_succ, i64_w, i32_w]
      rfl
    refine pure_ (i := 7) (N := some 54) (v := ?_) (a' := ?_) #[true, true, true, false, false, false, true, true, false, false, false, false, false, false, false, false, false] rfl rfl (by kernel_rfl) (fun _ _ _ h => h) (Or.inl ⟨by rfl, ?_⟩) ?_ ?_
    rotate_left
    · intro w'
      go_simp
      with_reducible rfl
    rotate_left
    · simp only [Act.put, List.setIfInBounds_toArray, List.set_cons_zero, List.set_cons_succ, i64_w, i32_w]
      rfl
    refine pure_ (i := 8) (N := some 55) (v := ?_) (a' := ?_) #[true, true, true, false, false, false, true, true, true, false, false, false, false, false, false, false, false] rfl rfl (by kernel_rfl) (fun _ _ _ h => h) (Or.inl ⟨by rfl, ?_⟩) ?_ ?_
    rotate_left
    · intro w'
      go_simp
      with_reducible rfl
    rotate_left
    · simp only [Act.put, List.setIfInBounds_toArray, List.set_cons_zero, List.set_cons_succ, i64_w, i32_w]
      rfl
    refine pure_ (i := 10) (N := some 57) (v := ?_) (a' := ?_) #[true, true, true, false, false, false, true, true, true, false, true, false, false, false, false, false, false] rfl rfl (by kernel_rfl) (fun _ _ _ h => h) (Or.inl ⟨by rfl, ?_⟩) ?_ ?_
    rotate_left
    · intro w'
      go_simp
      with_reducible rfl
    rotate_left
    · simp only [Act.put, List.setIfInBounds_toArray, List.set_cons_zero, List.set_cons_succ, i64_w, i32_w]
      rfl
    refine take_ (i := 3) (N := some 50) (v := ?_) (a' := ?_) #[true, true, true, true, false, false, true, true, true, false, true, false, false, false, false, false, false] rfl rfl (by kernel_rfl) (fun _ _ _ h => h) (Or.inl ⟨by rfl, ?_⟩) hHeld ?_ ?_
    rotate_left
    · rintro w' ⟨s0, s1, s2, s3, s4, s5⟩
      go_simp
      with_reducible rfl
    rotate_left
    · simp only [Act.put, List.setIfInBounds_toArray, List.set_cons_zero, List.set_cons_succ, i64_w, i32_w]
      rfl
    refine pure_ (i := 4) (N := some 51) (v := ?_) (a' := ?_) #[true, true, true, true, true, false, true, true, true, false, true, false, false, false, false, false, false] rfl rfl (by kernel_rfl) (fun _ _ _ h => h) (Or.inl ⟨by rfl, ?_⟩) ?_ ?_
    rotate_left
    · intro w'
      go_simp
      with_reducible rfl
    rotate_left
    · simp only [Act.put, List.setIfInBounds_toArray, List.set_cons_zero, List.set_cons_succ, i64_w, i32_w]
      rfl
    refine take_ (i := 9) (N := some 56) (v := ?_) (a' := ?_) #[true, true, true, true, true, false, true, true, true, true, true, false, false, false, false, false, false] rfl rfl (by kernel_rfl) (fun _ _ _ h => h) (Or.inl ⟨by rfl, ?_⟩) hHeld ?_ ?_
    rotate_left
    · rintro w' ⟨s0, s1, s2, s3, s4, s5⟩
      go_simp
      with_reducible rfl
    rotate_left
    · simp only [Act.put, List.setIfInBounds_toArray, List.set_cons_zero, List.set_cons_succ, i64_w, i32_w]
      rfl
    refine take_ (i := 11) (N := some 58) (v := ?_) (a' := ?_) #[true, true, true, true, true, false, true, true, true, true, true, true, false, false, false, false, false] rfl rfl (by kernel_rfl) (fun _ _ _ h => h) (Or.inl ⟨by rfl, ?_⟩) hHeld ?_ ?_
    rotate_left
    · rintro w' ⟨s0, s1, s2, s3, s4, s5⟩
      go_simp
      with_reducible rfl
    rotate_left
    · simp only [Act.put, List.setIfInBounds_toArray, List.set_cons_zero, List.set_cons_succ, i64_w, i32_w]
      rfl
    refine pure_ (i := 12) (N := some 59) (v := ?_) (a' := ?_) #[true, true, true, true, true, false, true, true, true, true, true, true, true, false, false, false, false] rfl rfl (by kernel_rfl) (fun _ _ _ h => h) (Or.inl ⟨by rfl, ?_⟩) ?_ ?_
    rotate_left
    · intro w'
      go_simp
      with_reducible rfl
    rotate_left
    · simp only [Act.put, List.setIfInBounds_toArray, List.set_cons_zero, List.set_cons_succ, i64_w, i32_w]
      rfl
    refine pure_ (i := 13) (N := some 60) (v := ?_) (a' := ?_) #[true, true, true, true, true, false, true, true, true, true, true, true, true, true, false, false, false] rfl rfl (by kernel_rfl) (fun _ _ _ h => h) (Or.inl ⟨by rfl, ?_⟩) ?_ ?_
    rotate_left
    · intro w'
      go_simp
      with_reducible rfl
    rotate_left
    · simp only [Act.put, List.setIfInBounds_toArray, List.set_cons_zero, List.set_cons_succ, i64_w, i32_w]
      rfl
    refine take_ (i := 14) (N := some 61) (v := ?_) (a' := ?_) #[true, true, true, true, true, false, true, true, true, true, true, true, true, true, true, false, false] rfl rfl (by kernel_rfl) (fun _ _ _ h => h) (Or.inl ⟨by rfl, ?_⟩) hHeld ?_ ?_
    rotate_left
    · rintro w' ⟨s0, s1, s2, s3, s4, s5⟩
      go_simp
      with_reducible rfl
    rotate_left
    · simp only [Act.put, List.setIfInBounds_toArray, List.set_cons_zero, List.set_cons_succ, i64_w, i32_w]
      rfl
    refine one_ (i := 5) (N := some 52) #[true, true, true, true, true, true, true, true, true, true, true, true, true, true, true, false, false] rfl rfl (by kernel_rfl) (by decide) (fun K hK => ?_)
    refine goes_ Try.func25 (by kernel_rfl) rfl #[.slice (some ad) to_ c0] (by rfl) rfl rfl (by simp only [List.map_toArray, List.map_cons, List.map_nil]; rfl) ?_
    with_reducible refine (sum_at _ (Kd.C_drew HR2.out)).mono ?_
    rintro e w5 ⟨rfl, hb5⟩
    refine ⟨_, rfl, ?_⟩
    have F := hfacts w5 (HoldsRow.below (w := w2.drew) (w' := w5) hrow2 hb5 hrow2.lt) (Kd.C_below (Kd.C_drew HR2.out) hb5)
    refine hK.out _ _ ⟨F.1, F.2.1, F.2.2.1, F.2.2.2.1, F.2.2.2.2.1, F.2.2.2.2.2⟩ (fun hHeld => ?_)
    clear hK K
    refine norm_ (a' := ?_) ?_ ?_
    rotate_left
    · show Act.put _ (some 52) _ = _
      simp only [Act.put, List.setIfInBounds_toArray, List.set_cons_zero, List.set_cons_succ, i64_w, i32_w]
      rfl
    refine pure_ (i := 15) (N := some 62) (v := ?_) (a' := ?_) #[true, true, true, true, true, true, true, true, true, true, true, true, true, true, true, true, false] rfl rfl (by kernel_rfl) (fun _ _ _ h => h) (Or.inl ⟨by rfl, ?_⟩) ?_ ?_
    rotate_left
    · intro w'
      go_simp
      with_reducible rfl
    rotate_left
    · simp only [Act.put, List.setIfInBounds_toArray, List.set_cons_zero, List.set_cons_succ, i64_w, i32_w]
      rfl
    refine pure_ (i := 16) (N := some 46) (v := ?_) (a' := ?_) #[true, true, true, true, true, true, true, true, true, true, true, true, true, true, true, true, true] rfl rfl (by kernel_rfl) (fun _ _ _ h => h) (Or.inl ⟨by rfl, ?_⟩) ?_ ?_
    rotate_left
    · intro w'
      go_simp
      with_reducible rfl
    rotate_left
    · simp only [Act.put, List.setIfInBounds_toArray, List.set_cons_zero, List.set_cons_succ, i64_w, i32_w]
      rfl
    refine done_ (by kernel_rfl) ?_
    
    have hrow5 := HoldsRow.below (w := w2.drew) (w' := w5) hrow2 hb5 hrow2.lt
    have HB5 := Aside0.mk (below_then (below_drew hb2) (by have := hb2.size; simpa using this) hb5)
    have q0 := hrow5.cell (j := 0) (v := .int .i64 (fr : Nat)) rfl
    have q1 := hrow5.cell (j := 1) (v := .int .i64 (to_ : Nat)) rfl
    have q2 := hrow5.cell (j := 2) (v := .int .i64 (en_ : Nat)) rfl
    have z0 := hrow5.free 0
    have z1 := hrow5.free 1
    have z2 := hrow5.free 2
    go_wp2_with fail
    have hr6 := ((hrow5.set 0 (.int .i64 (fr : Int))).set 1 (.int .i64 (to_ : Int))).set 2 (.int .i64 (en_ : Int))
    have hs6 : (((trio fr to_ en_).setIfInBounds 0 (.int .i64 (fr : Int))).setIfInBounds 1 (.int .i64 (to_ : Int))).setIfInBounds 2 (.int .i64 (en_ : Int)) = trio fr to_ en_ := rfl
    rw [hs6] at hr6
    exact bodyPost_ret (results_cell2 (p := 2) (q := 3) (ty := 50) rfl _ _ w.heap.size (trio fr to_ en_) rfl (run_loadVar_row _ w.heap.size 50 50 (trio fr to_ en_) (0, 0) _ hr6 Try.underlying50 rfl (by rw [trio_size]; kernel_rfl))) rfl ⟨rfl, ((HB5.out.setCell (show w.heap.size ≤ (⟨w.heap.size, 0, none⟩ : Addr).block from Nat.le_refl _) _).setCell (show w.heap.size ≤ (⟨w.heap.size, 1, none⟩ : Addr).block from Nat.le_refl _) _).setCell (show w.heap.size ≤ (⟨w.heap.size, 2, none⟩ : Addr).block from Nat.le_refl _) _⟩
  · have bq : decide (four s = [x0, x1, x2, x3]) = false := decide_eq_false hq
    rw [HFOUR.out, if_neg hq] at Hans
    obtain rfl := Hans.out
    clear hq
    refine start_ (n := 17) (S := fun w' => w'.cell? ⟨w.heap.size, 1, none⟩ = some (.int .i64 to_) ∧ w'.cell? ⟨w.heap.size, 2, none⟩ = some (.int .i64 en_) ∧ w'.cell? ⟨ad.block, ad.off + to_, none⟩ = some (.int .u8 x0) ∧ w'.cell? ⟨ad.block, ad.off + to_ + 1, none⟩ = some (.int .u8 x1) ∧ w'.cell? ⟨ad.block, ad.off + to_ + 2, none⟩ = some (.int .u8 x2) ∧ w'.cell? ⟨ad.block, ad.off + to_ + 3, none⟩ = some (.int .u8 x3)) (ds := []) #[false, false, false, false, false, false, false, false, false, false, false, false, false, false, false, false, false] (by kernel_rfl) rfl rfl ⟨K0.1, K0.2.1, K0.2.2.1, K0.2.2.2.1, K0.2.2.2.2.1, K0.2.2.2.2.2⟩ (fun hHeld => ?_)
    refine pure_ (i := 0) (N := some 47) (v := ?_) (a' := ?_) #[true, false, false, false, false, false, false, false, false, false, false, false, false, false, false, false, false] rfl rfl (by kernel_rfl) (fun _ _ _ h => h) (Or.inl ⟨by rfl, ?_⟩) ?_ ?_
    rotate_left
    · intro w'
      go_simp
      with_reducible rfl
    rotate_left
    · simp only [Act.put, List.setIfInBounds_toArray, List.set_cons_zero, List.set_cons_succ, i64_w, i32_w]
      rfl
    refine pure_ (i := 1) (N := some 48) (v := ?_) (a' := ?_) #[true, true, false, false, false, false, false, false, false, false, false, false, false, false, false, false, false] rfl rfl (by kernel_rfl) (fun _ _ _ h => h) (Or.inl ⟨by rfl, ?_⟩) ?_ ?_
    rotate_left
    · intro w'
      go_simp
      with_reducible rfl
    rotate_left
    · simp only [Act.put, List.setIfInBounds_toArray, List.set_cons_zero, List.set_cons_succ, i64_w, i32_w]
      rfl
    refine pure_ (i := 2) (N := some 49) (v := ?_) (a' := ?_) #[true, true, true, false, false, false, false, false, false, false, false, false, false, false, false, false, false] rfl rfl (by kernel_rfl) (fun _ _ _ h => h) (Or.inl ⟨by rfl, ?_⟩) ?_ ?_
    rotate_left
    · intro w'
      go_simp
      with_reducible rfl
    rotate_left
    · simp only [Act.put, List.setIfInBounds_toArray, List.set_cons_zero, List.set_cons_succ, i64_w, i32_w]
      rfl
    refine pure_ (i := 6) (N := some 53) (v := ?_) (a' := ?_) #[true, true, true, false, false, false, true, false, false, false, false, false, false, false, false, false, false] rfl rfl (by kernel_rfl) (fun _ _ _ h => h) (Or.inl ⟨by rfl, ?_⟩) ?_ ?_
    rotate_left
    · intro w'
      go_simp
      with_reducible rfl
    rotate_left
    · simp only [Act.put, List.setIfInBounds_toArray, List.set_cons_zero, List.set_cons_succ, i64_w, i32_w]
      rfl
    refine pure_ (i := 7) (N := some 54) (v := ?_) (a' := ?_) #[true, true, true, false, false, false, true, true, false, false, false, false, false, false, false, false, false] rfl rfl (by kernel_rfl) (fun _ _ _ h => h) (Or.inl ⟨by rfl, ?_⟩) ?_ ?_
    rotate_left
    · intro w'
      go_simp
      with_reducible rfl
    rotate_left
    · simp only [Act.put, List.setIfInBounds_toArray, List.set_cons_zero, List.set_cons_succ, i64_w, i32_w]
      rfl
    refine pure_ (i := 8) (N := some 55) (v := ?_) (a' := ?_) #[true, true, true, false, false, false, true, true, true, false, false, false, false, false, false, false, false] rfl rfl (by kernel_rfl) (fun _ _ _ h => h) (Or.inl ⟨by rfl, ?_⟩) ?_ ?_
    rotate_left
    · intro w'
      go_simp
      with_reducible rfl
    rotate_left
    · simp only [Act.put, List.setIfInBounds_toArray, List.set_cons_zero, List.set_cons_succ, i64_w, i32_w]
      rfl
    refine pure_ (i := 10) (N := some 57) (v := ?_) (a' := ?_) #[true, true, true, false, false, false, true, true, true, false, true, false, false, false, false, false, false] rfl rfl (by kernel_rfl) (fun _ _ _ h => h) (Or.inl ⟨by rfl, ?_⟩) ?_ ?_
    rotate_left
    · intro w'
      go_simp
      with_reducible rfl
    rotate_left
    · simp only [Act.put, List.setIfInBounds_toArray, List.set_cons_zero, List.set_cons_succ, i64_w, i32_w]
      rfl
    refine take_ (i := 3) (N := some 50) (v := ?_) (a' := ?_) #[true, true, true, true, false, false, true, true, true, false, true, false, false, false, false, false, false] rfl rfl (by kernel_rfl) (fun _ _ _ h => h) (Or.inl ⟨by rfl, ?_⟩) hHeld ?_ ?_
    rotate_left
    · rintro w' ⟨s0, s1, s2, s3, s4, s5⟩
      go_simp
      with_reducible rfl
    rotate_left
    · simp only [Act.put, List.setIfInBounds_toArray, List.set_cons_zero, List.set_cons_succ, i64_w, i32_w]
      rfl
    refine pure_ (i := 4) (N := some 51) (v := ?_) (a' := ?_) #[true, true, true, true, true, false, true, true, true, false, true, false, false, false, false, false, false] rfl rfl (by kernel_rfl) (fun _ _ _ h => h) (Or.inl ⟨by rfl, ?_⟩) ?_ ?_
    rotate_left
    · intro w'
      go_simp
      with_reducible rfl
    rotate_left
    · simp only [Act.put, List.setIfInBounds_toArray, List.set_cons_zero, List.set_cons_succ, i64_w, i32_w]
      rfl
    refine take_ (i := 9) (N := some 56) (v := ?_) (a' := ?_) #[true, true, true, true, true, false, true, true, true, true, true, false, false, false, false, false, false] rfl rfl (by kernel_rfl) (fun _ _ _ h => h) (Or.inl ⟨by rfl, ?_⟩) hHeld ?_ ?_
    rotate_left
    · rintro w' ⟨s0, s1, s2, s3, s4, s5⟩
      go_simp
      with_reducible rfl
    rotate_left
    · simp only [Act.put, List.setIfInBounds_toArray, List.set_cons_zero, List.set_cons_succ, i64_w, i32_w]
      rfl
    refine take_ (i := 11) (N := some 58) (v := ?_) (a' := ?_) #[true, true, true, true, true, false, true, true, true, true, true, true, false, false, false, false, false] rfl rfl (by kernel_rfl) (fun _ _ _ h => h) (Or.inl ⟨by rfl, ?_⟩) hHeld ?_ ?_
    rotate_left
    · rintro w' ⟨s0, s1, s2, s3, s4, s5⟩
      go_simp
      with_reducible rfl
    rotate_left
    · simp only [Act.put, List.setIfInBounds_toArray, List.set_cons_zero, List.set_cons_succ, i64_w, i32_w]
      rfl
    refine pure_ (i := 12) (N := some 59) (v := ?_) (a' := ?_) #[true, true, true, true, true, false, true, true, true, true, true, true, true, false, false, false, false] rfl rfl (by kernel_rfl) (fun _ _ _ h => h) (Or.inl ⟨by rfl, ?_⟩) ?_ ?_
    rotate_left
    · intro w'
      go_simp
      with_reducible rfl
    rotate_left
    · simp only [Act.put, List.setIfInBounds_toArray, List.set_cons_zero, List.set_cons_succ, i64_w, i32_w]
      rfl
    refine pure_ (i := 13) (N := some 60) (v := ?_) (a' := ?_) #[true, true, true, true, true, false, true, true, true, true, true, true, true, true, false, false, false] rfl rfl (by kernel_rfl) (fun _ _ _ h => h) (Or.inl ⟨by rfl, ?_⟩) ?_ ?_
    rotate_left
    · intro w'
      go_simp
      with_reducible rfl
    rotate_left
    · simp only [Act.put, List.setIfInBounds_toArray, List.set_cons_zero, List.set_cons_succ, i64_w, i32_w]
      rfl
    refine take_ (i := 14) (N := some 61) (v := ?_) (a' := ?_) #[true, true, true, true, true, false, true, true, true, true, true, true, true, true, true, false, false] rfl rfl (by kernel_rfl) (fun _ _ _ h => h) (Or.inl ⟨by rfl, ?_⟩) hHeld ?_ ?_
    rotate_left
    · rintro w' ⟨s0, s1, s2, s3, s4, s5⟩
      go_simp
      with_reducible rfl
    rotate_left
    · simp only [Act.put, List.setIfInBounds_toArray, List.set_cons_zero, List.set_cons_succ, i64_w, i32_w]
      rfl
    refine one_ (i := 5) (N := some 52) #[true, true, true, true, true, true, true, true, true, true, true, true, true, true, true, false, false] rfl rfl (by kernel_rfl) (by decide) (fun K hK => ?_)
    refine goes_ Try.func25 (by kernel_rfl) rfl #[.slice (some ad) to_ c0] (by rfl) rfl rfl (by simp only [List.map_toArray, List.map_cons, List.map_nil]; rfl) ?_
    with_reducible refine (sum_at _ (Kd.C_drew HR2.out)).mono ?_
    rintro e w5 ⟨rfl, hb5⟩
    refine ⟨_, rfl, ?_⟩
    have F := hfacts w5 (HoldsRow.below (w := w2.drew) (w' := w5) hrow2 hb5 hrow2.lt) (Kd.C_below (Kd.C_drew HR2.out) hb5)
    refine hK.out _ _ ⟨F.1, F.2.1, F.2.2.1, F.2.2.2.1, F.2.2.2.2.1, F.2.2.2.2.2⟩ (fun hHeld => ?_)
    clear hK K
    refine norm_ (a' := ?_) ?_ ?_
    rotate_left
    · show Act.put _ (some 52) _ = _
      simp only [Act.put, List.setIfInBounds_toArray, List.set_cons_zero, List.set_cons_succ, i64_w, i32_w]
      rfl
    refine pure_ (i := 15) (N := some 62) (v := ?_) (a' := ?_) #[true, true, true, true, true, true, true, true, true, true, true, true, true, true, true, true, false] rfl rfl (by kernel_rfl) (fun _ _ _ h => h) (Or.inl ⟨by rfl, ?_⟩) ?_ ?_
    rotate_left
    · intro w'
      go_simp
      with_reducible rfl
    rotate_left
    · simp only [Act.put, List.setIfInBounds_toArray, List.set_cons_zero, List.set_cons_succ, i64_w, i32_w]
      rfl
    refine pure_ (i := 16) (N := some 46) (v := ?_) (a' := ?_) #[true, true, true, true, true, true, true, true, true, true, true, true, true, true, true, true, true] rfl rfl (by kernel_rfl) (fun _ _ _ h => h) (Or.inl ⟨by rfl, ?_⟩) ?_ ?_
    rotate_left
    · intro w'
      go_simp
      with_reducible rfl
    rotate_left
    · simp only [Act.put, List.setIfInBounds_toArray, List.set_cons_zero, List.set_cons_succ, i64_w, i32_w]
      rfl
    refine done_ (by kernel_rfl) ?_
    
    have hrow5 := HoldsRow.below (w := w2.drew) (w' := w5) hrow2 hb5 hrow2.lt
    have HB5 := Aside0.mk (below_then (below_drew hb2) (by have := hb2.size; simpa using this) hb5)
    have q0 := hrow5.cell (j := 0) (v := .int .i64 (fr : Nat)) rfl
    have q1 := hrow5.cell (j := 1) (v := .int .i64 (to_ : Nat)) rfl
    have q2 := hrow5.cell (j := 2) (v := .int .i64 (en_ : Nat)) rfl
    have z0 := hrow5.free 0
    have z1 := hrow5.free 1
    have z2 := hrow5.free 2
    go_wp2_with fail
    have hr6 := ((hrow5.set 0 (.int .i64 0)).set 1 (.int .i64 0)).set 2 (.int .i64 0)
    have hs6 : (((trio fr to_ en_).setIfInBounds 0 (.int .i64 0)).setIfInBounds 1 (.int .i64 0)).setIfInBounds 2 (.int .i64 0) = trio 0 0 0 := rfl
    rw [hs6] at hr6
    exact bodyPost_ret (results_cell2 (p := 2) (q := 3) (ty := 50) rfl _ _ w.heap.size (trio 0 0 0) rfl (run_loadVar_row _ w.heap.size 50 50 (trio 0 0 0) (0, 0) _ hr6 Try.underlying50 rfl (by rw [trio_size]; kernel_rfl))) rfl ⟨rfl, ((HB5.out.setCell (show w.heap.size ≤ (⟨w.heap.size, 0, none⟩ : Addr).block from Nat.le_refl _) _).setCell (show w.heap.size ≤ (⟨w.heap.size, 1, none⟩ : Addr).block from Nat.le_refl _) _).setCell (show w.heap.size ≤ (⟨w.heap.size, 2, none⟩ : Addr).block from Nat.le_refl _) _⟩
end Go.Proofs.Ytgfjijfjlbjajaa.Ext

/- frame.first, all its ways. Condition: a row that append bears. -/
namespace Go.Proofs.Ytgfjijfjlbjajaa.Ext
open Go.RowKit Go.Proofs.YtgfjijfjlbjajaaW.PrintWords Go.Proofs.YtgfjijfjlbjajaaW.PrintLast Go.Proofs.YtgfjijfjlbjajaaW.PrintMore Go.Proofs.Ytgfjijfjlbjajaa.Base Go.Proofs.Ytgfjijfjlbjajaa.Arr Go.Proofs.Ytgfjijfjlbjajaa.Mid
set_option linter.unusedVariables false
set_option linter.unusedSimpArgs false

set_option maxHeartbeats 4000000 in
set_option maxRecDepth 100000 in
theorem first_bad (A0 : Option Addr) (c0 : Nat) (l0 : List Int) (w : World) (hr0 : Kd.C (Kd.int .u8) w A0 l0.length l0) (hc0 : l0.length ≤ c0) (n er : Int) (rest : List Int) (hn : bin_TakeNum.f l0 = some (n, rest, er)) (he : er ≠ 0) :
    Calls Try.prog 28 #[.slice A0 l0.length c0] w fun e w' => e = .returned (.tuple #[.agg (trio 0 0 0), .int .i64 er]) ∧ Below w.heap.size w w' := by
  have HN := Aside0.mk hn
  have HC0 := Aside0.mk hc0
  have b1 : (er != 0) = true := bne_iff_ne.mpr he
  have b2 : (er == 0) = false := beq_eq_false_iff_ne.mpr he
  have hb0 := (Below.refl w.heap.size w).alloc (Nat.le_refl _) (.cells (trio 0 0 0) 50)
  have hrow0 := HoldsRow.new w 50 (trio 0 0 0)
  have HC := Aside0.mk (Kd.C_alloc hr0 (.cells (trio 0 0 0) 50))
  have HS0 := Aside0.mk (show w.heap.size < (w.alloc (.cells (trio 0 0 0) 50)).heap.size by simp)
  clear hr0 hn hc0 he
  go_enter Try.func28, Try.ntmps28
  go_wp2_with fail
  refine (bin_TakeNum.calls A0 c0 l0 n rest er _ HC.out HC0.out HN.out).mono ?_
  rintro e w1 ⟨v1, rfl, hv1, hb1⟩
  have hrow1 := hrow0.below hb1 HS0.out
  have HB5 := Aside0.mk (below_then hb0 hb0.size hb1)
  have hcell0 := hrow1.cell (j := 0) (v := .int .i64 0) rfl
  have hcell1 := hrow1.cell (j := 1) (v := .int .i64 0) rfl
  have hcell2 := hrow1.cell (j := 2) (v := .int .i64 0) rfl
  have hfr0 := hrow1.free 0
  have hfr1 := hrow1.free 1
  have hfr2 := hrow1.free 2
  clear hb0 hrow0 HC HS0 hb1 hv1 HN
  go_wp2_with fail
  have hr6 := ((hrow1.set 0 (.int .i64 0)).set 1 (.int .i64 0)).set 2 (.int .i64 0)
  have hs6 : (((trio 0 0 0).setIfInBounds 0 (.int .i64 0)).setIfInBounds 1 (.int .i64 0)).setIfInBounds 2 (.int .i64 0) = trio 0 0 0 := rfl
  rw [hs6] at hr6
  exact bodyPost_ret (results_cell2 (p := 2) (q := 3) (ty := 50) rfl _ _ w.heap.size (trio 0 0 0) rfl (run_loadVar_row _ w.heap.size 50 50 (trio 0 0 0) (0, 0) _ hr6 Try.underlying50 rfl (by rw [trio_size]; kernel_rfl))) rfl ⟨rfl, ((HB5.out.setCell (show w.heap.size ≤ (⟨w.heap.size, 0, none⟩ : Addr).block from Nat.le_refl _) _).setCell (show w.heap.size ≤ (⟨w.heap.size, 1, none⟩ : Addr).block from Nat.le_refl _) _).setCell (show w.heap.size ≤ (⟨w.heap.size, 2, none⟩ : Addr).block from Nat.le_refl _) _⟩

set_option maxHeartbeats 4000000 in
set_option maxRecDepth 100000 in
theorem first_big (A0 : Option Addr) (c0 : Nat) (l0 : List Int) (w : World) (hr0 : Kd.C (Kd.int .u8) w A0 l0.length l0) (hc0 : l0.length ≤ c0) (n : Int) (rest : List Int) (hn : bin_TakeNum.f l0 = some (n, rest, 0)) (h1 : n > 8192) :
    Calls Try.prog 28 #[.slice A0 l0.length c0] w fun e w' => e = .returned (.tuple #[.agg (trio 0 0 0), .int .i64 5]) ∧ Below w.heap.size w w' := by
  have HN := Aside0.mk hn
  have HC0 := Aside0.mk hc0
  have hlim : decide ((8192 : Int) < n) = true := decide_eq_true h1
  have hb0 := (Below.refl w.heap.size w).alloc (Nat.le_refl _) (.cells (trio 0 0 0) 50)
  have hrow0 := HoldsRow.new w 50 (trio 0 0 0)
  have HC := Aside0.mk (Kd.C_alloc hr0 (.cells (trio 0 0 0) 50))
  have HS0 := Aside0.mk (show w.heap.size < (w.alloc (.cells (trio 0 0 0) 50)).heap.size by simp)
  clear hr0 hn hc0 h1
  go_enter Try.func28, Try.ntmps28
  go_wp2_with fail
  refine (bin_TakeNum.calls A0 c0 l0 n rest 0 _ HC.out HC0.out HN.out).mono ?_
  rintro e w1 ⟨v1, rfl, hv1, hb1⟩
  obtain ⟨A1, c1, rfl, hc1⟩ := Kd.Q_slice (Kd.Q_of_R hv1)
  have hrow1 := hrow0.below hb1 HS0.out
  have HB5 := Aside0.mk (below_then hb0 hb0.size hb1)
  have hcell0 := hrow1.cell (j := 0) (v := .int .i64 0) rfl
  have hcell1 := hrow1.cell (j := 1) (v := .int .i64 0) rfl
  have hcell2 := hrow1.cell (j := 2) (v := .int .i64 0) rfl
  have hfr0 := hrow1.free 0
  have hfr1 := hrow1.free 1
  have hfr2 := hrow1.free 2
  obtain ⟨q1, e1⟩ : ∃ q : Int, wrap64 ((l0.length : Int) - (rest.length : Int)) = q := ⟨_, rfl⟩
  obtain ⟨q2, e2⟩ : ∃ q : Int, wrap64 (q1 + n) = q := ⟨_, rfl⟩
  obtain ⟨q3, e3⟩ : ∃ q : Int, wrap64 (q2 + 4) = q := ⟨_, rfl⟩
  clear hb0 hrow0 HC HS0 hb1 hv1 HN hc1
  go_wp2_with fail
  have hr6 := (((((hrow1.set 0 (.int .i64 q1)).set 1 (.int .i64 q2)).set 2 (.int .i64 q3)).set 0 (.int .i64 0)).set 1 (.int .i64 0)).set 2 (.int .i64 0)
  have hs6 : ((((((trio 0 0 0).setIfInBounds 0 (.int .i64 q1)).setIfInBounds 1 (.int .i64 q2)).setIfInBounds 2 (.int .i64 q3)).setIfInBounds 0 (.int .i64 0)).setIfInBounds 1 (.int .i64 0)).setIfInBounds 2 (.int .i64 0) = trio 0 0 0 := rfl
  rw [hs6] at hr6
  have S := fun (W : World) (h : Below w.heap.size w W) (j : Nat) (v : Value) => h.setCell (show w.heap.size ≤ (⟨w.heap.size, j, none⟩ : Addr).block from Nat.le_refl _) v
  exact bodyPost_ret (results_cell2 (p := 2) (q := 3) (ty := 50) rfl _ _ w.heap.size (trio 0 0 0) rfl (run_loadVar_row _ w.heap.size 50 50 (trio 0 0 0) (0, 0) _ hr6 Try.underlying50 rfl (by rw [trio_size]; kernel_rfl))) rfl ⟨rfl, S _ (S _ (S _ (S _ (S _ (S _ HB5.out _ _) _ _) _ _) _ _) _ _) _ _⟩

set_option maxHeartbeats 4000000 in
set_option maxRecDepth 100000 in
theorem first_short (A0 : Option Addr) (c0 : Nat) (l0 : List Int) (w : World) (hr0 : Kd.C (Kd.int .u8) w A0 l0.length l0) (hc0 : l0.length ≤ c0) (n fr to_ en_ : Nat) (rest : List Int) (hn : bin_TakeNum.f l0 = some ((n : Int), rest, 0)) (hfr : fr + rest.length = l0.length) (hl : l0.length < 140737488355328)
    (h1 : n ≤ 8192) (ht : to_ = fr + n) (he : en_ = to_ + 4) (h2 : l0.length < en_) :
    Calls Try.prog 28 #[.slice A0 l0.length c0] w fun e w' => e = .returned (.tuple #[.agg (trio 0 0 0), .int .i64 3]) ∧ Below w.heap.size w w' := by
  have HN := Aside0.mk hn
  have HC0 := Aside0.mk hc0
  have hlim : decide ((8192 : Int) < (n : Int)) = false := decide_eq_false (by omega)
  have hlim2 : decide (8192 < n) = false := decide_eq_false (by omega)
  have hb0 := (Below.refl w.heap.size w).alloc (Nat.le_refl _) (.cells (trio 0 0 0) 50)
  have hrow0 := HoldsRow.new w 50 (trio 0 0 0)
  have HC := Aside0.mk (Kd.C_alloc hr0 (.cells (trio 0 0 0) 50))
  have HS0 := Aside0.mk (show w.heap.size < (w.alloc (.cells (trio 0 0 0) 50)).heap.size by simp)
  clear hr0 hn hc0
  have e1 : wrap64 ((l0.length : Int) - (rest.length : Int)) = (fr : Int) := by unfold wrap64; omega
  have e2 : wrap64 ((fr : Int) + (n : Int)) = (to_ : Int) := by unfold wrap64; omega
  have e3 : wrap64 ((to_ : Int) + 4) = (en_ : Int) := by unfold wrap64; omega
  have d1 : decide ((l0.length : Int) < (en_ : Int)) = true := decide_eq_true (by omega)
  have d2 : decide (l0.length < en_) = true := decide_eq_true (by omega)
  clear hfr hl ht he h2
  go_enter Try.func28, Try.ntmps28
  go_wp2_with fail
  refine (bin_TakeNum.calls A0 c0 l0 n rest 0 _ HC.out HC0.out HN.out).mono ?_
  rintro e w1 ⟨v1, rfl, hv1, hb1⟩
  obtain ⟨A1, c1, rfl, hc1⟩ := Kd.Q_slice (Kd.Q_of_R hv1)
  have hrow1 := hrow0.below hb1 HS0.out
  have HB5 := Aside0.mk (below_then hb0 hb0.size hb1)
  have hcell0 := hrow1.cell (j := 0) (v := .int .i64 0) rfl
  have hcell1 := hrow1.cell (j := 1) (v := .int .i64 0) rfl
  have hcell2 := hrow1.cell (j := 2) (v := .int .i64 0) rfl
  have hfr0 := hrow1.free 0
  have hfr1 := hrow1.free 1
  have hfr2 := hrow1.free 2
  clear hb0 hrow0 HC HS0 hb1 hv1 HN hc1
  go_wp2_with fail
  have hr6 := (((((hrow1.set 0 (.int .i64 (fr : Int))).set 1 (.int .i64 (to_ : Int))).set 2 (.int .i64 (en_ : Int))).set 0 (.int .i64 0)).set 1 (.int .i64 0)).set 2 (.int .i64 0)
  have hs6 : ((((((trio 0 0 0).setIfInBounds 0 (.int .i64 (fr : Int))).setIfInBounds 1 (.int .i64 (to_ : Int))).setIfInBounds 2 (.int .i64 (en_ : Int))).setIfInBounds 0 (.int .i64 0)).setIfInBounds 1 (.int .i64 0)).setIfInBounds 2 (.int .i64 0) = trio 0 0 0 := rfl
  rw [hs6] at hr6
  have S := fun (W : World) (h : Below w.heap.size w W) (j : Nat) (v : Value) => h.setCell (show w.heap.size ≤ (⟨w.heap.size, j, none⟩ : Addr).block from Nat.le_refl _) v
  exact bodyPost_ret (results_cell2 (p := 2) (q := 3) (ty := 50) rfl _ _ w.heap.size (trio 0 0 0) rfl (run_loadVar_row _ w.heap.size 50 50 (trio 0 0 0) (0, 0) _ hr6 Try.underlying50 rfl (by rw [trio_size]; kernel_rfl))) rfl ⟨rfl, S _ (S _ (S _ (S _ (S _ (S _ HB5.out _ _) _ _) _ _) _ _) _ _) _ _⟩

/-- where the first frame lies: its payload's two ends, its own end; what is told -/
def firstF (l0 : List Int) : Option (Int × Int × Int × Int) :=
  (bin_TakeNum.f l0).bind fun q =>
    if q.2.2 ≠ 0 then some (0, 0, 0, q.2.2)
    else if q.1 > 8192 then some (0, 0, 0, 5)
    else if 0 ≤ q.1 ∧ q.2.1.length < l0.length ∧ l0.length < 140737488355328 then
      if l0.length < l0.length - q.2.1.length + q.1.toNat + 4 then some (0, 0, 0, 3)
      else (crc_Of.f (l0.take (l0.length - q.2.1.length + q.1.toNat))).bind fun s =>
        if four s = (l0.drop (l0.length - q.2.1.length + q.1.toNat)).take 4 then some (((l0.length - q.2.1.length : Nat) : Int), ((l0.length - q.2.1.length + q.1.toNat : Nat) : Int), ((l0.length - q.2.1.length + q.1.toNat + 4 : Nat) : Int), 0)
        else some (0, 0, 0, 40)
    else none
theorem frame_first.calls (A0 : Option Addr) (c0 : Nat) (l0 : List Int) (a b c er : Int) (w : World) (hr0 : Kd.C (Kd.int .u8) w A0 l0.length l0) (hc0 : l0.length ≤ c0) (h : firstF l0 = some (a, b, c, er)) :
    Calls Try.prog 28 #[.slice A0 l0.length c0] w fun e w' => e = .returned (.tuple #[.agg (trio a b c), .int .i64 er]) ∧ Below w.heap.size w w' := by
  unfold firstF at h
  obtain ⟨⟨n, rest, e⟩, hn, h⟩ := Option.bind_eq_some_iff.mp h
  simp only at h
  by_cases he : e ≠ 0
  · rw [if_pos he] at h
    cases h
    exact first_bad A0 c0 l0 w hr0 hc0 n _ rest hn he
  · rw [if_neg he] at h
    have he0 : e = 0 := Decidable.not_not.mp he
    subst he0
    by_cases hbig : n > 8192
    · rw [if_pos hbig] at h
      cases h
      exact first_big A0 c0 l0 w hr0 hc0 n rest hn hbig
    · rw [if_neg hbig] at h
      by_cases hc : 0 ≤ n ∧ rest.length < l0.length ∧ l0.length < 140737488355328
      · rw [if_pos hc] at h
        obtain ⟨h0, h1, h2⟩ := hc
        obtain ⟨m, rfl⟩ := Int.eq_ofNat_of_zero_le h0
        simp only [Int.toNat_natCast] at h
        by_cases hs : l0.length < l0.length - rest.length + m + 4
        · rw [if_pos hs] at h
          cases h
          exact first_short A0 c0 l0 w hr0 hc0 m (l0.length - rest.length) _ _ rest hn (by omega) h2 (by omega) rfl rfl hs
        · rw [if_neg hs] at h
          obtain ⟨s, hcs, h⟩ := Option.bind_eq_some_iff.mp h
          obtain ⟨ad, rfl, _⟩ := Kd.at_int hr0 0 (Int.le_refl 0) (by omega)
          refine first_calls ad c0 l0 w hr0 hc0 m (l0.length - rest.length) _ _ rest hn (by omega) (by omega) h2 (by omega) rfl rfl (by omega) s hcs _ ⟨?_⟩
          split at h
          · next hq =>
            cases h
            rw [if_pos hq]
          · next hq =>
            cases h
            rw [if_neg hq]
      · rw [if_neg hc] at h
        cases h
end Go.Proofs.Ytgfjijfjlbjajaa.Ext

/- frame.Next, walked. Condition: a row that append bears. -/
namespace Go.Proofs.Ytgfjijfjlbjajaa.Ext
open Go.RowKit Go.Proofs.YtgfjijfjlbjajaaW.PrintWords Go.Proofs.YtgfjijfjlbjajaaW.PrintLast Go.Proofs.YtgfjijfjlbjajaaW.PrintMore Go.Proofs.Ytgfjijfjlbjajaa.Base Go.Proofs.Ytgfjijfjlbjajaa.Arr Go.Proofs.Ytgfjijfjlbjajaa.Mid
set_option linter.unusedVariables false
set_option linter.unusedSimpArgs false

theorem trio_one (a b c : Int) : (trio a b c).all (·.oneCell') = true := by
  rw [Array.all_eq_true_iff_forall_mem]
  intro x hx
  simp [trio] at hx
  rcases hx with rfl | rfl | rfl <;> rfl
set_option maxHeartbeats 4000000 in
set_option maxRecDepth 100000 in
theorem next_bad (A0 : Option Addr) (c0 : Nat) (l0 : List Int) (w : World) (hr0 : Kd.C (Kd.int .u8) w A0 l0.length l0) (hc0 : l0.length ≤ c0) (a b c er : Int) (hf : firstF l0 = some (a, b, c, er)) (he : er ≠ 0) :
    Calls Try.prog 17 #[.slice A0 l0.length c0] w fun e w' => e = .returned (.tuple #[.slice none 0 0, .slice none 0 0, .int .i64 er]) ∧ Below w.heap.size w w' := by
  have HF := Aside0.mk hf
  have HR := Aside0.mk hr0
  have b1 : (er != 0) = true := bne_iff_ne.mpr he
  have b2 : (er == 0) = false := beq_eq_false_iff_ne.mpr he
  clear hr0 hf he
  go_enter Try.func17, Try.ntmps17
  go_wp2_with fail
  refine (frame_first.calls A0 c0 l0 a b c er w HR.out hc0 HF.out).mono ?_
  rintro e w1 ⟨rfl, hb1⟩
  have HB1 := Aside0.mk hb1
  have hrow := HoldsRow.new w1 50 (trio 0 0 0)
  have hb4 := below_setRow (b := w1.heap.size) (below_alloc HB1.out (.cells (trio 0 0 0) 50)) (trio a b c) HB1.out.size
  have HB4 := Aside0.mk hb4
  have HROW := Aside0.mk hrow
  clear hb1 hb4 hrow
  go_wp2_with (first | (refine wpList_store_row rfl 50 _ _ rfl w1.heap.size (trio a b c) rfl rfl 50 (trio 0 0 0) HROW.out (by rw [trio_size]; kernel_rfl) rfl (trio_one _ _ _) ?_))
  go_ret3
  exact ⟨rfl, HB4.out⟩

set_option maxHeartbeats 4000000 in
set_option maxRecDepth 100000 in
theorem next_calls (ad : Addr) (c0 : Nat) (l0 : List Int) (w : World) (hr0 : Kd.C (Kd.int .u8) w (some ad) l0.length l0) (hc0 : l0.length ≤ c0) (hl : l0.length < 140737488355328) (fr to_ en_ : Nat) (h0 : 0 < fr) (h1 : fr ≤ to_) (h2 : en_ = to_ + 4) (h3 : en_ ≤ l0.length) (hf : firstF l0 = some ((fr : Int), (to_ : Int), (en_ : Int), 0)) :
    Calls Try.prog 17 #[.slice (some ad) l0.length c0] w fun e w' => ∃ v0_ v1_ : Value, e = .returned (.tuple #[v0_, v1_, .int .i64 0]) ∧ Kd.R (Kd.int .u8) 5 w' w.heap.size (fun k_ => some k_ ≠ (v1_ : Value).ownBlock) v0_ ((l0.drop fr).take (to_ - fr)) ∧ Kd.R (Kd.int .u8) 5 w' w.heap.size (fun k_ => some k_ ≠ (v0_ : Value).ownBlock) v1_ (l0.drop en_) ∧ Below w.heap.size w w' := by
  have HF := Aside0.mk hf
  have HR := Aside0.mk hr0
  have HC0 := Aside0.mk hc0
  have HL := Aside0.mk hl
  obtain ⟨i0, hi0, _, hsz0, _⟩ := info_parts infoU8
  have hcut1 := cut_mid (P := Try.prog) 22 5 .i64 .i64 Try.underlying22 hi0 1 hsz0 (some ad) l0.length c0 (fr : Int) (to_ : Int) (by omega) (by omega) (by omega) hc0
  have hcut2 := cut_from (P := Try.prog) 22 5 .i64 Try.underlying22 hi0 1 hsz0 (some ad) l0.length c0 (en_ : Int) (by omega) (by omega)
  rw [Int.toNat_natCast, Int.toNat_natCast, if_neg (show ¬ c0 = fr by omega), Nat.mul_one, Option.map_some] at hcut1
  rw [Int.toNat_natCast, Nat.mul_one, Option.map_some] at hcut2
  obtain ⟨A4, hA4⟩ : ∃ A4, A4 = some (ad.add fr) := ⟨_, rfl⟩
  obtain ⟨A5, hA5⟩ : ∃ A5, A5 = (if c0 = en_ then some ad else some (ad.add en_)) := ⟨_, rfl⟩
  rw [← hA4] at hcut1
  rw [← hA5] at hcut2
  have clone1 : ∀ W : World, Kd.C (Kd.int .u8) W (some ad) l0.length l0 → Calls Try.prog 29 #[.slice A4 (to_ - fr) (c0 - fr)] W fun e w' => ∃ v0_ : Value, e = .returned (v0_) ∧ Kd.R (Kd.int .u8) 5 w' W.heap.size (fun _ => True) v0_ ((l0.drop fr).take (to_ - fr)) ∧ Below W.heap.size W w' := fun W hC => by
    have hlt : ((l0.drop fr).take (to_ - fr)).length = to_ - fr := by rw [List.length_take, List.length_drop]; omega
    have := bytes_Clone.calls (some (ad.add fr)) (c0 - fr) ((l0.drop fr).take (to_ - fr)) _ W (C_take (C_drop hC fr) (to_ - fr)) (by rw [hlt]; omega) (by unfold bytes_Clone.f; rw [if_pos (by rw [hlt]; omega)])
    rw [hlt, ← hA4] at this
    exact this
  have clone2 : ∀ W : World, Kd.C (Kd.int .u8) W (some ad) l0.length l0 → Calls Try.prog 29 #[.slice A5 (l0.length - en_) (c0 - en_)] W fun e w' => ∃ v0_ : Value, e = .returned (v0_) ∧ Kd.R (Kd.int .u8) 5 w' W.heap.size (fun _ => True) v0_ (l0.drop en_) ∧ Below W.heap.size W w' := fun W hC => by
    have hlt : (l0.drop en_).length = l0.length - en_ := List.length_drop
    have hC5 : Kd.C (Kd.int .u8) W A5 (l0.drop en_).length (l0.drop en_) := by
      rw [hA5]
      by_cases hce : c0 = en_
      · rw [if_pos hce, List.drop_eq_nil_of_le (by omega)]
        exact C_empty _
      · rw [if_neg hce]
        exact C_drop hC en_
    have := bytes_Clone.calls A5 (c0 - en_) (l0.drop en_) _ W hC5 (by rw [hlt]; omega) (by unfold bytes_Clone.f; rw [if_pos (by rw [hlt]; omega)])
    rw [hlt] at this
    exact this
  clear hr0 hf hA4 hA5 h0 h1 h2 h3 hl
  go_enter Try.func17, Try.ntmps17
  go_wp2_with fail
  refine (frame_first.calls (some ad) c0 l0 fr to_ en_ 0 w HR.out HC0.out HF.out).mono ?_
  rintro e w1 ⟨rfl, hb1⟩
  have HB1 := Aside0.mk hb1
  have hrow := HoldsRow.new w1 50 #[.int .i64 0, .int .i64 0, .int .i64 0]
  have hb2 := below_setRow (b := w1.heap.size) (below_alloc HB1.out (.cells #[.int .i64 0, .int .i64 0, .int .i64 0] 50)) (trio fr to_ en_) HB1.out.size
  have hrow2 := hrow.row (trio fr to_ en_)
  have HROW := Aside0.mk hrow
  clear hb1 hrow
  obtain ⟨g, hg⟩ : ∃ g, g = w1.heap.size := ⟨_, rfl⟩
  obtain ⟨w2, hw2⟩ : ∃ w2 : World, w2 = (w1.alloc (.cells #[.int .i64 0, .int .i64 0, .int .i64 0] 50)).setRow w1.heap.size (trio fr to_ en_) := ⟨_, rfl⟩
  rw [← hw2, ← hg] at hrow2
  rw [← hw2] at hb2
  have HR2 := Aside0.mk (Kd.C_below HR.out hb2)
  have hfacts : ∀ W : World, HoldsRow W g 50 (trio fr to_ en_) → W.cell? ⟨g, 0, none⟩ = some (.int .i64 (fr : Nat)) ∧ W.cell? ⟨g, 1, none⟩ = some (.int .i64 (to_ : Nat)) ∧ W.cell? ⟨g, 2, none⟩ = some (.int .i64 (en_ : Nat)) := fun W h => ⟨h.cell rfl, h.cell rfl, h.cell rfl⟩
  have K0 := hfacts w2 hrow2
  go_wp2_with (first | (refine wpList_store_row rfl 50 _ _ rfl w1.heap.size (trio fr to_ en_) rfl rfl 50 #[.int .i64 0, .int .i64 0, .int .i64 0] HROW.out (by rw [trio_size]; kernel_rfl) rfl (trio_one _ _ _) ?_))
  rw [← hw2, ← hg]
  clear hg hw2 HROW
  refine start_ (n := 17) (S := fun w' => w'.cell? ⟨g, 0, none⟩ = some (.int .i64 (fr : Nat)) ∧ w'.cell? ⟨g, 1, none⟩ = some (.int .i64 (to_ : Nat)) ∧ w'.cell? ⟨g, 2, none⟩ = some (.int .i64 (en_ : Nat))) (ds := []) #[false, false, false, false, false, false, false, false, false, false, false, false, false, false, false, false, false] (by kernel_rfl) rfl rfl ⟨K0.1, K0.2.1, K0.2.2⟩ (fun hHeld => ?_)
  refine pure_ (i := 0) (N := some 14) (v := ?_) (a' := ?_) #[true, false, false, false, false, false, false, false, false, false, false, false, false, false, false, false, false] rfl rfl (by kernel_rfl) (fun _ _ _ h => h) (Or.inl ⟨by rfl, ?_⟩) ?_ ?_
  rotate_left
  · intro w'
    go_simp
    with_reducible rfl
  rotate_left
  · simp only [Act.put, List.setIfInBounds_toArray, List.set_cons_zero, List.set_cons_succ, i64_w, i32_w]
    rfl
  refine pure_ (i := 1) (N := some 15) (v := ?_) (a' := ?_) #[true, true, false, false, false, false, false, false, false, false, false, false, false, false, false, false, false] rfl rfl (by kernel_rfl) (fun _ _ _ h => h) (Or.inl ⟨by rfl, ?_⟩) ?_ ?_
  rotate_left
  · intro w'
    go_simp
    with_reducible rfl
  rotate_left
  · simp only [Act.put, List.setIfInBounds_toArray, List.set_cons_zero, List.set_cons_succ, i64_w, i32_w]
    rfl
  refine pure_ (i := 2) (N := some 16) (v := ?_) (a' := ?_) #[true, true, true, false, false, false, false, false, false, false, false, false, false, false, false, false, false] rfl rfl (by kernel_rfl) (fun _ _ _ h => h) (Or.inl ⟨by rfl, ?_⟩) ?_ ?_
  rotate_left
  · intro w'
    go_simp
    with_reducible rfl
  rotate_left
  · simp only [Act.put, List.setIfInBounds_toArray, List.set_cons_zero, List.set_cons_succ, i64_w, i32_w]
    rfl
  refine pure_ (i := 4) (N := some 18) (v := ?_) (a' := ?_) #[true, true, true, false, true, false, false, false, false, false, false, false, false, false, false, false, false] rfl rfl (by kernel_rfl) (fun _ _ _ h => h) (Or.inl ⟨by rfl, ?_⟩) ?_ ?_
  rotate_left
  · intro w'
    go_simp
    with_reducible rfl
  rotate_left
  · simp only [Act.put, List.setIfInBounds_toArray, List.set_cons_zero, List.set_cons_succ, i64_w, i32_w]
    rfl
  refine pure_ (i := 5) (N := some 19) (v := ?_) (a' := ?_) #[true, true, true, false, true, true, false, false, false, false, false, false, false, false, false, false, false] rfl rfl (by kernel_rfl) (fun _ _ _ h => h) (Or.inl ⟨by rfl, ?_⟩) ?_ ?_
  rotate_left
  · intro w'
    go_simp
    with_reducible rfl
  rotate_left
  · simp only [Act.put, List.setIfInBounds_toArray, List.set_cons_zero, List.set_cons_succ, i64_w, i32_w]
    rfl
  refine pure_ (i := 9) (N := some 23) (v := ?_) (a' := ?_) #[true, true, true, false, true, true, false, false, false, true, false, false, false, false, false, false, false] rfl rfl (by kernel_rfl) (fun _ _ _ h => h) (Or.inl ⟨by rfl, ?_⟩) ?_ ?_
  rotate_left
  · intro w'
    go_simp
    with_reducible rfl
  rotate_left
  · simp only [Act.put, List.setIfInBounds_toArray, List.set_cons_zero, List.set_cons_succ, i64_w, i32_w]
    rfl
  refine pure_ (i := 10) (N := some 24) (v := ?_) (a' := ?_) #[true, true, true, false, true, true, false, false, false, true, true, false, false, false, false, false, false] rfl rfl (by kernel_rfl) (fun _ _ _ h => h) (Or.inl ⟨by rfl, ?_⟩) ?_ ?_
  rotate_left
  · intro w'
    go_simp
    with_reducible rfl
  rotate_left
  · simp only [Act.put, List.setIfInBounds_toArray, List.set_cons_zero, List.set_cons_succ, i64_w, i32_w]
    rfl
  refine take_ (i := 3) (N := some 17) (v := ?_) (a' := ?_) #[true, true, true, true, true, true, false, false, false, true, true, false, false, false, false, false, false] rfl rfl (by kernel_rfl) (fun _ _ _ h => h) (Or.inl ⟨by rfl, ?_⟩) hHeld ?_ ?_
  rotate_left
  · rintro w' ⟨s0, s1, s2⟩
    go_simp
    with_reducible rfl
  rotate_left
  · simp only [Act.put, List.setIfInBounds_toArray, List.set_cons_zero, List.set_cons_succ, i64_w, i32_w]
    rfl
  refine take_ (i := 6) (N := some 20) (v := ?_) (a' := ?_) #[true, true, true, true, true, true, true, false, false, true, true, false, false, false, false, false, false] rfl rfl (by kernel_rfl) (fun _ _ _ h => h) (Or.inl ⟨by rfl, ?_⟩) hHeld ?_ ?_
  rotate_left
  · rintro w' ⟨s0, s1, s2⟩
    go_simp
    with_reducible rfl
  rotate_left
  · simp only [Act.put, List.setIfInBounds_toArray, List.set_cons_zero, List.set_cons_succ, i64_w, i32_w]
    rfl
  refine pure_ (i := 7) (N := some 21) (v := ?_) (a' := ?_) #[true, true, true, true, true, true, true, true, false, true, true, false, false, false, false, false, false] rfl rfl (by kernel_rfl) (fun _ _ _ h => h) (Or.inl ⟨by rfl, ?_⟩) ?_ ?_
  rotate_left
  · intro w'
    go_simp
    with_reducible rfl
  rotate_left
  · simp only [Act.put, List.setIfInBounds_toArray, List.set_cons_zero, List.set_cons_succ, i64_w, i32_w]
    rfl
  refine take_ (i := 11) (N := some 25) (v := ?_) (a' := ?_) #[true, true, true, true, true, true, true, true, false, true, true, true, false, false, false, false, false] rfl rfl (by kernel_rfl) (fun _ _ _ h => h) (Or.inl ⟨by rfl, ?_⟩) hHeld ?_ ?_
  rotate_left
  · rintro w' ⟨s0, s1, s2⟩
    go_simp
    with_reducible rfl
  rotate_left
  · simp only [Act.put, List.setIfInBounds_toArray, List.set_cons_zero, List.set_cons_succ, i64_w, i32_w]
    rfl
  refine pure_ (i := 12) (N := some 26) (v := ?_) (a' := ?_) #[true, true, true, true, true, true, true, true, false, true, true, true, true, false, false, false, false] rfl rfl (by kernel_rfl) (fun _ _ _ h => h) (Or.inl ⟨by rfl, ?_⟩) ?_ ?_
  rotate_left
  · intro w'
    go_simp
    with_reducible rfl
  rotate_left
  · simp only [Act.put, List.setIfInBounds_toArray, List.set_cons_zero, List.set_cons_succ, i64_w, i32_w]
    rfl
  refine one_ (i := 8) (N := some 22) #[true, true, true, true, true, true, true, true, true, true, true, true, true, false, false, false, false] rfl rfl (by kernel_rfl) (by decide) (fun K hK => ?_)
  refine goes_ Try.func29 (by kernel_rfl) rfl #[.slice A4 (to_ - fr) (c0 - fr)] (by rfl) rfl rfl (by simp only [List.map_toArray, List.map_cons, List.map_nil]; rfl) ?_
  with_reducible refine (clone1 _ (Kd.C_drew HR2.out)).mono ?_
  rintro e w5 ⟨v5, rfl, ho5, hb5⟩
  refine ⟨_, rfl, ?_⟩
  have F := hfacts w5 (HoldsRow.below (w := w2.drew) (w' := w5) hrow2 hb5 hrow2.lt)
  have hrow5 := HoldsRow.below (w := w2.drew) (w' := w5) hrow2 hb5 hrow2.lt
  have HR5 := Aside0.mk (Kd.C_below (Kd.C_drew HR2.out) hb5)
  have HO5 := Aside0.mk ho5
  have HB5 := Aside0.mk (below_then (below_drew hb2) (by have := hb2.size; simpa using this) hb5)
  have HX5 := Aside0.mk hb5.size
  clear ho5 hb5
  refine hK.out _ _ ⟨F.1, F.2.1, F.2.2⟩ (fun hHeld => ?_)
  clear hK K
  refine norm_ (a' := ?_) ?_ ?_
  rotate_left
  · show Act.put _ (some 22) _ = _
    simp only [Act.put, List.setIfInBounds_toArray, List.set_cons_zero, List.set_cons_succ, i64_w, i32_w]
    rfl
  refine one_ (i := 13) (N := some 27) #[true, true, true, true, true, true, true, true, true, true, true, true, true, true, false, false, false] rfl rfl (by kernel_rfl) (by decide) (fun K hK => ?_)
  refine goes_ Try.func29 (by kernel_rfl) rfl #[.slice A5 (l0.length - en_) (c0 - en_)] (by rfl) rfl rfl (by simp only [List.map_toArray, List.map_cons, List.map_nil]; rfl) ?_
  with_reducible refine (clone2 _ HR5.out).mono ?_
  rintro e w6 ⟨v6, rfl, ho6, hb6⟩
  refine ⟨_, rfl, ?_⟩
  have F6 := hfacts w6 (HoldsRow.below hrow5 hb6 hrow5.lt)
  have HO6 := Aside0.mk ho6
  have HB6 := Aside0.mk (below_then HB5.out HB5.out.size hb6)
  have HO5c := Aside0.mk (Kd.R_below (Kd.R_bound HO5.out) hb6)
  have HX6 := Aside0.mk hb6.size
  clear ho6 hb6
  refine hK.out _ _ ⟨F6.1, F6.2.1, F6.2.2⟩ (fun hHeld => ?_)
  clear hK K
  refine norm_ (a' := ?_) ?_ ?_
  rotate_left
  · show Act.put _ (some 27) _ = _
    simp only [Act.put, List.setIfInBounds_toArray, List.set_cons_zero, List.set_cons_succ, i64_w, i32_w]
    rfl
  refine pure_ (i := 14) (N := some 2) (v := ?_) (a' := ?_) #[true, true, true, true, true, true, true, true, true, true, true, true, true, true, true, false, false] rfl rfl (by kernel_rfl) (fun _ _ _ h => h) (Or.inl ⟨by rfl, ?_⟩) ?_ ?_
  rotate_left
  · intro w'
    go_simp
    with_reducible rfl
  rotate_left
  · simp only [Act.put, List.setIfInBounds_toArray, List.set_cons_zero, List.set_cons_succ, i64_w, i32_w]
    rfl
  refine pure_ (i := 15) (N := some 3) (v := ?_) (a' := ?_) #[true, true, true, true, true, true, true, true, true, true, true, true, true, true, true, true, false] rfl rfl (by kernel_rfl) (fun _ _ _ h => h) (Or.inl ⟨by rfl, ?_⟩) ?_ ?_
  rotate_left
  · intro w'
    go_simp
    with_reducible rfl
  rotate_left
  · simp only [Act.put, List.setIfInBounds_toArray, List.set_cons_zero, List.set_cons_succ, i64_w, i32_w]
    rfl
  refine pure_ (i := 16) (N := some 4) (v := ?_) (a' := ?_) #[true, true, true, true, true, true, true, true, true, true, true, true, true, true, true, true, true] rfl rfl (by kernel_rfl) (fun _ _ _ h => h) (Or.inl ⟨by rfl, ?_⟩) ?_ ?_
  rotate_left
  · intro w'
    go_simp
    with_reducible rfl
  rotate_left
  · simp only [Act.put, List.setIfInBounds_toArray, List.set_cons_zero, List.set_cons_succ, i64_w, i32_w]
    rfl
  refine done_ (by kernel_rfl) ?_
  
  go_wp2_with fail
  go_ret3
  have q2 : w.heap.size ≤ w2.drew.heap.size := by have := hb2.size; simpa using this
  refine ⟨v5, v6, rfl, Kd.R_lower (Kd.R_mono HO5c.out (fun k hk he => ?_)) q2, Kd.R_lower (Kd.R_mono (Kd.R_bound HO6.out) (fun k hk he => ?_)) HB5.out.size, HB6.out⟩
  · have := Kd.R_base HO6.out k he.symm
    have := hk.2.2.1
    omega
  · have := Kd.R_lt HO5.out k he.symm
    have := hk.2.1
    omega
/-- the first frame's payload, what stands behind it, what is told -/
def frame_Next.f (l0 : List Int) : Option (List Int × List Int × Int) :=
  (firstF l0).bind fun q =>
    if q.2.2.2 ≠ 0 then some ([], [], q.2.2.2)
    else if 0 < q.1 ∧ q.1 ≤ q.2.1 ∧ q.2.2.1 = q.2.1 + 4 ∧ q.2.2.1 ≤ (l0.length : Int) ∧ l0.length < 140737488355328 then some ((l0.drop q.1.toNat).take (q.2.1.toNat - q.1.toNat), l0.drop q.2.2.1.toNat, 0)
    else none
theorem frame_Next.calls (A0 : Option Addr) (c0 : Nat) (l0 : List Int) (r1 : List Int) (r2 : List Int) (r3 : Int) (w : World) (hr0 : Kd.C (Kd.int .u8) w A0 l0.length l0) (hc0 : l0.length ≤ c0) (h : frame_Next.f l0 = some (r1, r2, r3)) :
    Calls Try.prog 17 #[.slice A0 l0.length c0] w fun e w' => ∃ v0_ v1_ : Value, e = .returned (.tuple #[v0_, v1_, .int .i64 r3]) ∧ Kd.R (Kd.int .u8) 5 w' w.heap.size (fun k_ => some k_ ≠ (v1_ : Value).ownBlock) v0_ r1 ∧ Kd.R (Kd.int .u8) 5 w' w.heap.size (fun k_ => some k_ ≠ (v0_ : Value).ownBlock) v1_ r2 ∧ Below w.heap.size w w' := by
  unfold frame_Next.f at h
  obtain ⟨⟨a, b, c, er⟩, hf, h⟩ := Option.bind_eq_some_iff.mp h
  simp only at h
  by_cases he : er ≠ 0
  · rw [if_pos he] at h
    cases h
    refine (next_bad A0 c0 l0 w hr0 hc0 a b c _ hf he).mono ?_
    rintro e w' ⟨rfl, hb⟩
    exact ⟨_, _, rfl, Kd.R_nil _ _ _ _ _, Kd.R_nil _ _ _ _ _, hb⟩
  · rw [if_neg he] at h
    have he0 : er = 0 := Decidable.not_not.mp he
    subst he0
    by_cases hc : 0 < a ∧ a ≤ b ∧ c = b + 4 ∧ c ≤ (l0.length : Int) ∧ l0.length < 140737488355328
    · rw [if_pos hc] at h
      obtain ⟨h0, h1, h2, h3, h4⟩ := hc
      cases h
      obtain ⟨fr, rfl⟩ := Int.eq_ofNat_of_zero_le (show 0 ≤ a by omega)
      obtain ⟨to_, rfl⟩ := Int.eq_ofNat_of_zero_le (show 0 ≤ b by omega)
      obtain ⟨en_, rfl⟩ := Int.eq_ofNat_of_zero_le (show 0 ≤ c by omega)
      obtain ⟨ad, rfl, _⟩ := Kd.at_int hr0 0 (Int.le_refl 0) (by omega)
      simp only [Int.toNat_natCast]
      exact next_calls ad c0 l0 w hr0 hc0 h4 fr to_ en_ (by omega) (by omega) (by omega) (by omega) hf
    · rw [if_neg hc] at h
      cases h
end Go.Proofs.Ytgfjijfjlbjajaa.Ext
