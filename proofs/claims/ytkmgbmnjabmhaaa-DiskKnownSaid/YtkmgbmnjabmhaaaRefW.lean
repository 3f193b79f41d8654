/- Write of the document's disk, walked. Condition: a million writes wait at most. -/
import Derived.Test.YtkmgbmnjabmhaaaRefC
namespace Go.Proofs.Ytkmgbmnjabmhaaa.Ext
open Go Go.RowKit Go.Proofs.YtkmgbmnjabmhaaaW.PrintWords Go.Proofs.YtkmgbmnjabmhaaaW.PrintLast Go.Proofs.YtkmgbmnjabmhaaaW.PrintMore Go.Proofs.Ytkmgbmnjabmhaaa.Base Go.Proofs.Ytkmgbmnjabmhaaa.Arr
set_option linter.unusedVariables false
set_option linter.unusedSimpArgs false

theorem built_wait (at_ : Int) : Try.prog.built 85 [(0, .int .i64 at_)] = some (wcells (at_, z64)) := by
  have e : Try.prog.built 85 [(0, .int .i64 at_)] = Instr.fill (#[(0, 1), (1, 64)][·]?) z65 [(0, .int .i64 at_)] := by kernel_rfl
  rw [e]
  obtain ⟨c1, e1, s1, g1⟩ := fill_part (place := (#[(0, 1), (1, 64)][·]?)) (cells := z65) (i := 0) (v := .int .i64 at_) (rest := []) (off := 0) (size := 1) rfl rfl (by rw [z65_size]; omega)
  rw [e1]
  show some c1 = _
  congr 1
  apply Array.ext_getElem?
  intro k
  rw [g1 k]
  show (if 0 ≤ k ∧ k < 0 + 1 then #[Value.int .i64 at_][k - 0]? else z65[k]?) = _
  unfold wcells z65
  by_cases h0 : k = 0
  · subst h0; simp
  · rw [if_neg (by omega)]
    obtain ⟨q, rfl⟩ : ∃ q, k = q + 1 := ⟨k - 1, by omega⟩
    simp only [List.getElem?_toArray, List.getElem?_cons_succ]
    rfl
theorem wpList_built {P : Program} {ops : Array Oper} {rest : List Oper} {o : Oper} {a : Act} {w : World} {Q : Exit → Act → World → Prop} (hgd : o.guard = none) (t : TypeId) (parts : Array (Nat × Operand)) (ho : o.op = .build t parts) (vals : List (Nat × Value)) (hv : (parts.map fun (i, x) => (i, a.eval x)).toList = vals) (cells : Array Value) (h : P.built t vals = some cells)
    (k : wpList P ops Q rest (a.put o.dst (.agg cells)) w) : wpList P ops Q (o :: rest) a w :=
  wpList_plain hgd fun K hK => by
    unfold Oper.wp
    rw [exec_built t parts ho vals hv cells h]
    exact hK _ _ k
theorem zero_wait (W : World) : (zeroValue 85).run Try.prog W = .ok (.agg z65) W := by kernel_rfl
/-- the bytes that have been put in -/
def upto (b : List Int) (k : Nat) : List Int := b.take k ++ z64.drop k
theorem upto_len {b : List Int} (hb : b.length = 64) {k : Nat} (hk : k ≤ 64) : (upto b k).length = 64 := by
  unfold upto
  rw [List.length_append, List.length_take, List.length_drop, hb, z64_len]
  omega
theorem upto_succ {b : List Int} (hb : b.length = 64) {k : Nat} (hk : k < 64) : (upto b k).set k (rd b k) = upto b (k + 1) := by
  unfold upto
  have e2 : b.take (k + 1) = b.take k ++ [rd b k] := by
    rw [List.take_succ_eq_append_getElem (by omega)]
    congr 2
    unfold rd
    rw [Int.toNat_natCast, List.getD_eq_getElem?_getD, List.getElem?_eq_getElem (by omega)]
    rfl
  have e : z64.drop k = 0 :: z64.drop (k + 1) := by
    rw [List.drop_eq_getElem_cons (by rw [z64_len]; exact hk)]
    congr 1
    simp only [z64, List.getElem_replicate]
  rw [List.set_append_right _ _ (by rw [List.length_take]; omega), List.length_take, show k - min k b.length = 0 by omega, e, List.set_cons_zero, e2, List.append_assoc]
  rfl
theorem wcells_one (p : Int × List Int) : (wcells p).all (·.oneCell') = true := by
  unfold wcells
  refine all_oneCell_toArray (fun u hu => ?_)
  rcases List.mem_cons.1 hu with rfl | hu
  · rfl
  · exact nums_one _ _ u hu
theorem wcells_set (at_ : Int) (l : List Int) (k : Nat) (v : Int) : (wcells (at_, l)).setIfInBounds (1 + k) (.int .u8 v) = wcells (at_, l.set k v) := by
  unfold wcells
  rw [Nat.add_comm]
  simp [nums, List.map_set]
theorem ref_grown {W W1 : World} {base : Nat} {ok : Nat → Prop} {g gs n : Nat} {vw : Value} {dead fl : Bool} {l b c : Int} {f : List Int} {xs : List (Int × List Int)} (h1 : HoldsRow W g 80 (rcells gs n vw dead fl l b c)) (h2 : HoldsRow W gs 67 (rowK .u8 f)) (h4 : Kd.R wrK 85 W base ok vw xs) (hg : W.grownBy W1 vw.ownBlock) :
    HoldsRow W1 g 80 (rcells gs n vw dead fl l b c) ∧ HoldsRow W1 gs 67 (rowK .u8 f) :=
  ⟨hr_move h1 (hg.block g h1.lt (ne_own h1 h4 (by decide))), hr_move h2 (hg.block gs h2.lt (ne_own h2 h4 (by decide)))⟩
set_option maxHeartbeats 8000000 in
set_option maxRecDepth 100000 in
theorem RWrite_calls (w : World) (base : Nat) (ok : Nat → Prop) (g : Nat) (s : DS) (h : RefIs w base ok g s) (hbw : base ≤ w.heap.size) (hw : s.waits.length ≤ 1000000) (at_ : Int) (A : Option Addr) (c0 : Nat) (b0 : List Int) (hb : ∀ W', Kept w W' ok → Kd.C (Kd.int .u8) W' A b0.length b0) (hc : b0.length ≤ c0) :
    Calls Try.prog 44 #[.pointer (some ⟨g, 0, none⟩), .int .i64 at_, .slice A b0.length c0] w fun e w' => e = .returned (.int .i64 (writeF s at_ b0).1) ∧ RefTo w w' base ok g (writeF s at_ b0).2 := by
  have HR := Aside0.mk h
  have hmx : b0.length ≤ 9223372036854775807 := Kd.C_max (hb w (Kept.refl _ _))
  have HBC := Aside0.mk hb
  have HW := Aside0.mk hw
  have HBW := Aside0.mk hbw
  clear hb hw hbw
  obtain ⟨gs, vw, fl, l, b, c, h1, h2, h4, h5, o, hb, hG⟩ := h
  have k2 := h1.cell (j := 2) (v := .bool s.dead) rfl
  have k0 := h1.cell (j := 0) (v := .slice (some ⟨gs, 0, none⟩) s.n s.n) rfl
  clear h1 h2 h4 h5 o hb hG
  clear vw fl l b c
  cases hd : s.dead with
  | true =>
    have ht : thereE s at_ = 30 := if_pos hd
    have HE := Aside0.mk (show writeF s at_ b0 = (30, s) by unfold writeF; rw [ht, if_pos (by decide)])
    rw [hd] at k2
    clear hd ht
    go_enter Try.func44, Try.ntmps44
    go_wp2_with fail
    go_ret
    exact ⟨by rw [HE.out] <;> rfl, by rw [HE.out]; exact RefTo.same HR.out⟩
  | false =>
    rw [hd] at k2
    by_cases h9 : at_ < 0 ∨ (s.n : Int) ≤ at_
    · have ht : thereE s at_ = 9 := by
        unfold thereE
        rw [if_neg (by rw [hd]; decide)]
        by_cases e : at_ < 0
        · rw [if_pos e]
        · rw [if_neg e, if_pos (by omega)]
      have HE := Aside0.mk (show writeF s at_ b0 = (9, s) by unfold writeF; rw [ht, if_pos (by decide)])
      by_cases e : at_ < 0
      · have d1 : decide (at_ < 0) = true := decide_eq_true e
        clear hd ht h9 e
        go_enter Try.func44, Try.ntmps44
        go_wp2_with fail
        go_ret
        exact ⟨by rw [HE.out] <;> rfl, by rw [HE.out]; exact RefTo.same HR.out⟩
      · have d1 : decide (at_ < 0) = false := decide_eq_false e
        have d2 : decide ((s.n : Int) ≤ at_) = true := decide_eq_true (by omega)
        clear hd ht h9 e
        go_enter Try.func44, Try.ntmps44
        go_wp2_with fail
        go_ret
        exact ⟨by rw [HE.out] <;> rfl, by rw [HE.out]; exact RefTo.same HR.out⟩
    · obtain ⟨ai, rfl⟩ := Int.eq_ofNat_of_zero_le (show 0 ≤ at_ by omega)
      have hai : ai < s.n := by omega
      have ht : thereE s (ai : Int) = 0 := there_alive hd (by omega) (by omega)
      have d1 : decide ((ai : Int) < 0) = false := decide_eq_false (by omega)
      have d2 : decide ((s.n : Int) ≤ (ai : Int)) = false := decide_eq_false (by omega)
      have d3 : decide (s.n ≤ ai) = false := decide_eq_false (by omega)
      by_cases hl : b0.length = 64
      · have dl : ((b0.length : Int) != 64) = false := by rw [hl]; rfl
        rcases doing_cases s with h0 | h30
        · have HE := Aside0.mk (show writeF s (ai : Int) b0 = (0, { (doingF s).2 with waits := (doingF s).2.waits ++ [((ai : Int), b0)] }) by unfold writeF; rw [if_neg (fun e => e ht), if_neg (fun e => e hl), if_neg (fun e => e h0)])
          have HFB := Aside0.mk (show failsB s = false by unfold failsB; rw [h0]; rfl)
          have H0 := Aside0.mk h0
          have HL := Aside0.mk hl
          have hz := zero_wait
          clear hd ht h9 h0 hl
          go_enter Try.func44, Try.ntmps44
          go_wp2_with fail
          ((with_reducible refine (Rfails_calls w base ok g s HR.out HBW.out HW.out).mono ?_))
          rintro e w1 ⟨rfl, hto⟩
          rw [HFB.out]
          obtain ⟨t1, t2, ok1, t3, t4⟩ := hto
          obtain ⟨d, hd⟩ : ∃ d, d = (doingF s).2 := ⟨_, rfl⟩
          rw [← hd] at t4
          have HD := Aside0.mk hd
          have HWN := Aside0.mk (show d.waits.length ≤ 1000000 by rw [hd, (doing_waits s H0.out).1]; exact HW.out)
          have HAN := Aside0.mk (show ai < d.n by rw [hd, (doing_waits s H0.out).2.1]; exact hai)
          have HT1 := Aside0.mk (And.intro t1 (And.intro t2 t3))
          have HRD := Aside0.mk t4
          clear t1 t2 t3 t4 k2 k0 hd
          have HNEW := Aside0.mk (HoldsRow.new w1 85 z65)
          obtain ⟨b7, hb7⟩ : ∃ b7, b7 = w1.heap.size := ⟨_, rfl⟩
          obtain ⟨W2, hW2⟩ : ∃ W2 : World, W2 = (w1.alloc (.cells z65 85)).setRow w1.heap.size (wcells ((ai : Int), z64)) := ⟨_, rfl⟩
          have P7 := Aside0.mk (show HoldsRow W2 b7 85 (wcells ((ai : Int), upto b0 0)) by rw [hW2, hb7]; exact HNEW.out.row _)
          have PB := Aside0.mk (And.intro (show Below w1.heap.size w1 W2 by rw [hW2]; exact Go.Proofs.Ytkmgbmnjabmhaaa.Arr.below_setRow (below_alloc (Below.refl _ _) _) _ (Nat.le_refl _)) (show w1.heap.size = b7 by omega))
          have HW2 := Aside0.mk hW2
          have HB7 := Aside0.mk hb7
          clear hW2 hb7
          go_wp2_with (first | (refine wpList_built rfl 85 #[(0, .tmp 29)] rfl [(0, .int .i64 (ai : Nat))] (by simp only [List.map_toArray, List.map_cons, List.map_nil]; rfl) (wcells ((ai : Int), z64)) (built_wait _) ?_) | (refine wpList_store_row rfl 85 (.tmp 7) (.tmp 30) rfl w1.heap.size (wcells ((ai : Int), z64)) rfl rfl 85 z65 HNEW.out (by rw [wcells_size z64_len]; kernel_rfl) (by rw [z65_size, wcells_size z64_len]) (wcells_one _) ?_; rw [← HW2.out, ← HB7.out]))
          clear HNEW HW2 HB7 d1 d2 d3 dl hz
          go_loopw [8] (fun i wr => ∃ k : Nat, k ≤ 64 ∧ i = .int .i64 (k : Nat) ∧ Aside0 (HoldsRow wr b7 85 (wcells ((ai : Int), upto b0 k))) ∧ Aside0 (Below w1.heap.size w1 wr ∧ w1.heap.size = b7)) (fun i _ => 64 - (intOf i).toNat)
          case atStart => exact ⟨0, by omega, rfl, P7, PB⟩
          case round =>
            clear P7 PB
            obtain ⟨k, hk, rfl, P7, PB⟩ := hrel
            by_cases hlt : k < 64
            · have d1 : decide ((k : Int) < 64) = true := decide_eq_true (by omega)
              have d2 : decide (k < 64) = true := decide_eq_true hlt
              have hkw : Kept w wr ok := HT1.out.2.1.below PB.out.1
              obtain ⟨ad, hA, hcell⟩ := Kd.at_int (HBC.out wr hkw) (k : Int) (by omega) (by have := HL.out; omega)
              subst hA
              rw [Int.toNat_natCast] at hcell
              have K7 := P7.out.cell (j := 1 + k) (v := .int .u8 (rd (upto b0 k) k)) (by
                unfold wcells
                rw [Nat.add_comm]
                simp only [List.getElem?_toArray, List.getElem?_cons_succ]
                unfold nums rd
                rw [List.getElem?_map, Int.toNat_natCast, List.getD_eq_getElem?_getD, List.getElem?_eq_getElem (by rw [upto_len HL.out hk]; exact hlt)]
                rfl)
              have z7 := P7.out.free (1 + k)
              have x0 := eq_true (show (0 : Int) ≤ (k : Int) by omega)
              have x1 := eq_true (show (k : Int) < 64 by omega)
              have x2 := eq_true (show (k : Int) < (b0.length : Int) by have := HL.out; omega)
              have hs7 := P7.out.set (1 + k) (.int .u8 (rd b0 k))
              rw [wcells_set, upto_succ HL.out hlt] at hs7
              have T7 := Aside0.mk hs7
              have TB := Aside0.mk (And.intro (PB.out.1.setCell (show w1.heap.size ≤ (⟨b7, 1 + k, none⟩ : Addr).block by rw [PB.out.2]; exact Nat.le_refl _) (.int .u8 (rd b0 k))) PB.out.2)
              clear hs7 hkw P7 PB
              go_wp2_with fail
              go_roundw
              case rel => exact ⟨k + 1, by omega, by go_num, T7, TB⟩
              case measure => simp [intOf]; omega
            · obtain rfl : k = 64 := by omega
              have d1 : decide (((64 : Nat) : Int) < 64) = false := rfl
              have d2 : decide ((64 : Int) < 64) = false := rfl
              have hu : upto b0 64 = b0 := by unfold upto; rw [List.take_of_length_le (by rw [HL.out]; omega), List.drop_of_length_le (by rw [z64_len]; omega), List.append_nil]
              rw [hu] at P7
              obtain ⟨gs, vw, fl, l, b, c, h1, h2, h4, h5, o, hb, hG⟩ := HRD.out
              have Q1 := Aside0.mk (h1.below PB.out.1 h1.lt)
              have Q2 := Aside0.mk (h2.below PB.out.1 h2.lt)
              have Q4 := Aside0.mk (Kd.R_below h4 PB.out.1)
              have H5 := Aside0.mk h5
              have HO := Aside0.mk o
              have HB := Aside0.mk hb
              have HG := Aside0.mk hG
              have K0 : wr.cell? ⟨g, 1, none⟩ = some vw := Q1.out.cell rfl
              have K1 : wr.rangeAt b7 0 (wcells ((ai : Int), b0)).toList := fun q u hu => P7.out.cell (by rw [Nat.zero_add]; simpa using hu)
              have HB2 := Aside0.mk (show Below base w wr.drew from below_drew' (HT1.out.1.trans (PB.out.1.mono (Nat.le_trans HBW.out HT1.out.1.size))))
              have HBZ := Aside0.mk (show base ≤ wr.drew.heap.size from Nat.le_trans HBW.out HB2.out.size)
              have HRO := Aside0.mk (show Kd.R wrK 85 wr.drew base (fun k => ok1 k ∨ wr.drew.heap.size ≤ k) vw d.waits from Kd.R_mono Q4.out (fun k hk => .inl hk))
              have HLN := Aside0.mk (show (d.waits ++ [((ai : Int), b0)]).length = d.waits.length + 1 by simp)
              clear h1 h2 h4 h5 o hb hG hu
              go_wp2_with fail
              refine start_ (n := 11) (S := fun w' => w'.cell? ⟨g, 1, none⟩ = some vw ∧ w'.rangeAt b7 0 (wcells ((ai : Int), b0)).toList) (ds := [7, 10]) #[false, false, false, false, false, false, false, false, false, false, false] (by kernel_rfl) rfl rfl ⟨K0, K1⟩ (fun hHeld => ?_)
              refine pure_ (i := 0) (N := some 42) (v := ?_) (a' := ?_) #[true, false, false, false, false, false, false, false, false, false, false] rfl rfl (by kernel_rfl) (fun _ _ _ h => h) (Or.inl ⟨by rfl, ?_⟩) ?_ ?_
              rotate_left
              · intro w'
                go_simp
                with_reducible rfl
              rotate_left
              · simp only [Act.put, List.setIfInBounds_toArray, List.set_cons_zero, List.set_cons_succ, i64_w, i32_w]
                rfl
              refine pure_ (i := 1) (N := some 43) (v := ?_) (a' := ?_) #[true, true, false, false, false, false, false, false, false, false, false] rfl rfl (by kernel_rfl) (fun _ _ _ h => h) (Or.inl ⟨by rfl, ?_⟩) ?_ ?_
              rotate_left
              · intro w'
                go_simp
                with_reducible rfl
              rotate_left
              · simp only [Act.put, List.setIfInBounds_toArray, List.set_cons_zero, List.set_cons_succ, i64_w, i32_w]
                rfl
              refine pure_ (i := 2) (N := some 44) (v := ?_) (a' := ?_) #[true, true, true, false, false, false, false, false, false, false, false] rfl rfl (by kernel_rfl) (fun _ _ _ h => h) (Or.inl ⟨by rfl, ?_⟩) ?_ ?_
              rotate_left
              · intro w'
                go_simp
                with_reducible rfl
              rotate_left
              · simp only [Act.put, List.setIfInBounds_toArray, List.set_cons_zero, List.set_cons_succ, i64_w, i32_w]
                rfl
              refine pure_ (i := 3) (N := some 45) (v := ?_) (a' := ?_) #[true, true, true, true, false, false, false, false, false, false, false] rfl rfl (by kernel_rfl) (fun _ _ _ h => h) (Or.inl ⟨by rfl, ?_⟩) ?_ ?_
              rotate_left
              · intro w'
                go_simp
                with_reducible rfl
              rotate_left
              · simp only [Act.put, List.setIfInBounds_toArray, List.set_cons_zero, List.set_cons_succ, i64_w, i32_w]
                rfl
              refine take_ (i := 4) (N := some 46) (v := ?_) (a' := ?_) #[true, true, true, true, true, false, false, false, false, false, false] rfl rfl (by kernel_rfl) (fun _ _ _ h => h) (Or.inl ⟨by rfl, ?_⟩) hHeld ?_ ?_
              rotate_left
              · rintro w' ⟨s0, s1⟩
                go_simp
                with_reducible rfl
              rotate_left
              · simp only [Act.put, List.setIfInBounds_toArray, List.set_cons_zero, List.set_cons_succ, i64_w, i32_w]
                rfl
              refine take_ (i := 5) (N := some 47) (v := ?_) (a' := ?_) #[true, true, true, true, true, true, false, false, false, false, false] rfl rfl (by kernel_rfl) (fun _ _ _ h => h) (Or.inl ⟨by rfl, ?_⟩) hHeld ?_ ?_
              rotate_left
              · rintro w' ⟨s0, s1⟩
                refine exec_load_mid 85 (.tmp 7) ?_ b7 0 ?_ (wcells ((ai : Int), b0)).toList _ s1 Try.underlying85 rfl (by rw [Array.length_toList, wcells_size HL.out]; kernel_rfl)
                · rfl
                · rfl
              rotate_left
              · simp only [Act.put, List.setIfInBounds_toArray, List.set_cons_zero, List.set_cons_succ, i64_w, i32_w]
                rfl
              refine one_ (i := 6) (N := some 48) #[true, true, true, true, true, true, true, false, false, false, false] rfl rfl (by kernel_rfl) (by decide) (fun K hK => ?_)
              refine value_ (w1 := wr.drew.alloc (.cells (wcells ((ai : Int), b0)) 85)) (v := .slice (some ⟨wr.drew.heap.size, 0, none⟩) 1 1) (by rfl) rfl ?_ ?_
              · refine exec_one_slice 78 85 (.tmp 47) ?_ 65 (wcells ((ai : Int), b0)) ?_ Try.underlying78 (by kernel_rfl) (by decide) (by decide) (wcells_size HL.out)
                · rfl
                · rfl
              refine hK.out _ _ ⟨cell_alloc_old _ K0, World.rangeAt_alloc K1 _⟩ (fun hHeld => ?_)
              clear hK K
              refine norm_ (a' := ?_) ?_ ?_
              rotate_left
              · show Act.put _ (some 48) _ = _
                simp only [Act.put, List.setIfInBounds_toArray, List.set_cons_zero, List.set_cons_succ, i64_w, i32_w]
                rfl
              refine last_ (i := 7) (N := some 49) #[true, true, true, true, true, true, true, true, false, false, false] rfl rfl (by kernel_rfl) (by decide) (fun K hK => ?_)
              refine Kd.R_append_step wrK (w0 := w) (W := wr.drew) base (by rfl) (.tmp 46) (.tmp 48) 78 85 (.agg z65) 72 ?a1 Try.underlying78 (by kernel_rfl) z65_size (by decide) (by decide) vw d.waits ((ai : Int), b0) (wcells ((ai : Int), b0)).toList (fun k => ok1 k ∨ wr.drew.heap.size ≤ k) (fun _ => False) ?a2 ?a3 ⟨rfl, HL.out⟩ (fun _ hk => hk.elim) (fun _ hk => .inr hk) HRO.out HB2.out HBZ.out ?aL ?_
              case a1 => rfl
              case a2 => rfl
              case a3 => rfl
              case aL => have := HWN.out; omega
              intro v1 w5 ho hb5 hg hat
              obtain ⟨A1, cc, rfl⟩ := Kd.R_slice ho
              rw [HLN.out] at ho ⊢
              obtain ⟨r1, r2⟩ := ref_grown (W := wr.drew) Q1.out Q2.out Q4.out hg
              have S1 := Aside0.mk r1
              have S2 := Aside0.mk r2
              have S4 := Aside0.mk ho
              have SB := Aside0.mk hb5
              have SG := Aside0.mk hg
              have c2 := r1.cell (j := 1) (v := vw) rfl
              have z2 := r1.free 1
              clear r1 r2 ho hb5 hg hat
              refine hK.out _ _ ?_
              clear hK K
              refine norm_ (a' := ?_) ?_ ?_
              rotate_left
              · show Act.put _ (some 49) _ = _
                simp only [Act.put, List.setIfInBounds_toArray, List.set_cons_zero, List.set_cons_succ, i64_w, i32_w]
                rfl
              refine pure_ (i := 8) (N := some 50) (v := ?_) (a' := ?_) #[true, true, true, true, true, true, true, true, true, false, false] rfl rfl (by kernel_rfl) (fun _ _ _ h => h) (Or.inl ⟨by rfl, ?_⟩) ?_ ?_
              rotate_left
              · intro w'
                go_simp
                with_reducible rfl
              rotate_left
              · simp only [Act.put, List.setIfInBounds_toArray, List.set_cons_zero, List.set_cons_succ, i64_w, i32_w]
                rfl
              refine pure_ (i := 9) (N := some 51) (v := ?_) (a' := ?_) #[true, true, true, true, true, true, true, true, true, true, false] rfl rfl (by kernel_rfl) (fun _ _ _ h => h) (Or.inl ⟨by rfl, ?_⟩) ?_ ?_
              rotate_left
              · intro w'
                go_simp
                with_reducible rfl
              rotate_left
              · simp only [Act.put, List.setIfInBounds_toArray, List.set_cons_zero, List.set_cons_succ, i64_w, i32_w]
                rfl
              refine last_ (i := 10) (N := none) #[true, true, true, true, true, true, true, true, true, true, true] rfl rfl (by kernel_rfl) (by decide) (fun K hK => ?_)
              refine skip_ (w1 := ?_) (by rfl) rfl ?_ ?_
              rotate_left
              · go_simp
                rfl
              refine hK.out _ _ ?_
              clear hK K
              refine done_ (by kernel_rfl) ?_
              
              have hf : ∀ k, k ≠ g → (w5.setCell ⟨g, 1, none⟩ (.slice A1 (d.waits.length + 1) cc)).heap[k]? = w5.heap[k]? := fun k hk => Below.heap_setCell w5 ⟨g, 1, none⟩ _ k hk
              have hkA : Kept w wr.drew ok := HT1.out.2.1.below (below_drew PB.out.1)
              have hkB : Kept w w5 ok := Kept.of_grown SG.out hkA (fun k hk => by
                rcases (Kd.R_bound Q4.out).1 k hk with ⟨q, -, -, -⟩
                exact (HT1.out.2.2 k q).1)
              have HF := Aside0.mk (show RefTo w (w5.setCell ⟨g, 1, none⟩ (.slice A1 (d.waits.length + 1) cc)) base ok g { d with waits := d.waits ++ [((ai : Int), b0)] } from
                RefTo.trans (SB.out.setCell (show base ≤ (⟨g, 1, none⟩ : Addr).block from HB.out.1) _) (hkB.setCell (p := ⟨g, 1, none⟩) ((HT1.out.2.2 g HO.out.1).1) _) (ok1 := fun k => ok1 k ∨ wr.drew.heap.size ≤ k) (fun k hk => hk.elim (fun h => (HT1.out.2.2 k h).1) (fun h => .inr (Nat.le_trans hkA.1 h)))
                  (RefTo.same ⟨gs, .slice A1 (d.waits.length + 1) cc, fl, l, b, c, S1.out.set 1 _, hr_move S2.out (hf gs (ne_kind S2.out S1.out (by decide))), wr2_move S4.out S1.out (by decide) hf, H5.out, ⟨.inl HO.out.1, .inl HO.out.2⟩, HB.out, HG.out.1, HG.out.2.1, HG.out.2.2.1, fun p hp => (List.mem_append.1 hp).elim (fun h => HG.out.2.2.2 p h) (fun h => by rw [List.mem_singleton.1 h]; exact ⟨by show (0 : Int) ≤ (ai : Int); omega, by show (ai : Int) < (d.n : Int); have := HAN.out; omega, HL.out⟩)⟩))
              clear hf hkA hkB S1 S2 S4 SB SG c2 z2 hHeld
              go_wp2_with fail
              go_ret
              exact ⟨by rw [HE.out] <;> rfl, by rw [HE.out, ← HD.out]; exact HF.out⟩
        · have HE := Aside0.mk (show writeF s (ai : Int) b0 = doingF s by unfold writeF; rw [if_neg (fun e => e ht), if_neg (fun e => e hl), if_pos (by rw [h30]; decide)])
          have HFB := Aside0.mk (show failsB s = true by unfold failsB; rw [h30]; rfl)
          have H30 := Aside0.mk h30
          clear hd ht h9 h30 hl
          go_enter Try.func44, Try.ntmps44
          go_wp2_with fail
          ((with_reducible refine (Rfails_calls w base ok g s HR.out HBW.out HW.out).mono ?_))
          rintro e w1 ⟨rfl, hto⟩
          rw [HFB.out]
          have HTO := Aside0.mk hto
          clear hto k2 k0
          go_wp2_with fail
          go_ret
          exact ⟨by rw [HE.out, H30.out] <;> rfl, by rw [HE.out]; exact HTO.out⟩
      · have HE := Aside0.mk (show writeF s (ai : Int) b0 = (2, s) by unfold writeF; rw [if_neg (fun e => e ht), if_pos hl])
        have dl : ((b0.length : Int) != 64) = true := by simp; omega
        clear hd ht h9 hl
        go_enter Try.func44, Try.ntmps44
        go_wp2_with fail
        go_ret
        exact ⟨by rw [HE.out] <;> rfl, by rw [HE.out]; exact RefTo.same HR.out⟩
end Go.Proofs.Ytkmgbmnjabmhaaa.Ext
