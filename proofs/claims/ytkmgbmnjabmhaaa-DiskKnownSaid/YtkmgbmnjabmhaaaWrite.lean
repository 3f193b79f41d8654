/- Write of a disk, walked. Condition: a million writes wait at most. -/
import Derived.Test.YtkmgbmnjabmhaaaDoing
namespace Go.Proofs.Ytkmgbmnjabmhaaa.Ext
open Go Go.RowKit Go.Proofs.YtkmgbmnjabmhaaaW.PrintWords Go.Proofs.YtkmgbmnjabmhaaaW.PrintLast Go.Proofs.YtkmgbmnjabmhaaaW.PrintMore Go.Proofs.Ytkmgbmnjabmhaaa.Base Go.Proofs.Ytkmgbmnjabmhaaa.Arr
set_option linter.unusedVariables false
set_option linter.unusedSimpArgs false

def writeF (s : DS) (at_ : Int) (b : List Int) : Int × DS :=
  if thereE s at_ ≠ 0 then (thereE s at_, s) else if b.length ≠ 64 then (2, s) else if (doingF s).1 ≠ 0 then doingF s else (0, { (doingF s).2 with waits := (doingF s).2.waits ++ [(at_, b)] })
theorem built_write (at_ : Int) (sec : List Int) (hs : sec.length = 64) : Try.prog.built 70 [(0, .int .i64 at_), (1, .agg (rowK .u8 sec))] = some (wcells (at_, sec)) := by
  have e : Try.prog.built 70 [(0, .int .i64 at_), (1, .agg (rowK .u8 sec))] = Instr.fill (#[(0, 1), (1, 64)][·]?) z65 [(0, .int .i64 at_), (1, .agg (rowK .u8 sec))] := by kernel_rfl
  rw [e]
  obtain ⟨c1, e1, s1, g1⟩ := fill_part (place := (#[(0, 1), (1, 64)][·]?)) (cells := z65) (i := 0) (v := .int .i64 at_) (rest := [(1, .agg (rowK .u8 sec))]) (off := 0) (size := 1) rfl rfl (by rw [z65_size]; omega)
  obtain ⟨c2, e2, s2, g2⟩ := fill_part (place := (#[(0, 1), (1, 64)][·]?)) (cells := c1) (i := 1) (v := .agg (rowK .u8 sec)) (rest := []) (off := 1) (size := 64) rfl (by show (rowK .u8 sec).size = 64; rw [rowK_size, hs]) (by rw [s1, z65_size]; omega)
  rw [e1, e2]
  show some c2 = _
  congr 1
  apply Array.ext_getElem?
  intro k
  rw [g2 k, g1 k]
  show (if 1 ≤ k ∧ k < 1 + 64 then (rowK .u8 sec)[k - 1]? else if 0 ≤ k ∧ k < 0 + 1 then #[Value.int .i64 at_][k - 0]? else z65[k]?) = _
  unfold wcells
  by_cases hk : 1 ≤ k ∧ k < 1 + 64
  · rw [if_pos hk]
    obtain ⟨q, rfl⟩ : ∃ q, k = q + 1 := ⟨k - 1, by omega⟩
    simp [rowK]
  · rw [if_neg hk]
    by_cases h0 : k = 0
    · subst h0; simp
    · rw [if_neg (by omega), Array.getElem?_eq_none (by rw [z65_size]; omega), Array.getElem?_eq_none (by simp [nums, hs]; omega)]
set_option maxHeartbeats 4000000 in
set_option maxRecDepth 100000 in
theorem Write_calls (w : World) (base : Nat) (ok : Nat → Prop) (g : Nat) (s : DS) (h : DiskIs w base ok g s) (hbw : base ≤ w.heap.size) (hw : s.waits.length ≤ 1000000) (at_ : Int) (A : Option Addr) (c : Nat) (b : List Int) (hb : ∀ W', Kept w W' ok → Kd.C (Kd.int .u8) W' A b.length b) (hc : b.length ≤ c) :
    Calls Try.prog 11 #[.pointer (some ⟨g, 0, none⟩), .int .i64 at_, .slice A b.length c] w fun e w' => e = .returned (.int .i64 (writeF s at_ b).1) ∧ DiskTo w w' base ok g (writeF s at_ b).2 := by
  have HD := Aside0.mk h
  have HWL := Aside0.mk hw
  have HBW := Aside0.mk hbw
  have HB := Aside0.mk hb
  have hmx : b.length ≤ 9223372036854775807 := Kd.C_max (hb w (Kept.refl _ _))
  clear h hw hbw hb
  by_cases ht : thereE s at_ = 0
  · have HT := Aside0.mk ht
    by_cases hl : b.length = 64
    · rcases doing_cases s with h0 | h30
      · have HE := Aside0.mk (show writeF s at_ b = (0, { (doingF s).2 with waits := (doingF s).2.waits ++ [(at_, b)] }) by unfold writeF; rw [if_neg (fun e => e ht), if_neg (fun e => e hl), if_neg (fun e => e h0)])
        have H0 := Aside0.mk h0
        have HL := Aside0.mk hl
        have dl : ((b.length : Int) != 64) = false := by rw [hl]; rfl
        have hz := zero_sector
        clear ht hl h0
        go_enter Try.func11, Try.ntmps11
        go_wp2_with fail
        refine (there_calls w base ok g s HD.out at_).mono ?_
        rintro e w1 ⟨rfl, rfl⟩
        rw [HT.out]
        go_wp2_with fail
        refine (doing_calls w base ok g s HD.out HBW.out HWL.out).mono ?_
        rintro e w1 ⟨rfl, hto⟩
        rw [H0.out]
        obtain ⟨t1, t2, ok1, t3, t4⟩ := hto
        have HC := Aside0.mk (HB.out w1 t2)
        have HT4 := Aside0.mk t4
        have HT1 := Aside0.mk (And.intro t1 (And.intro t2 t3))
        clear t1 t2 t3 t4
        obtain ⟨ad, hA⟩ : ∃ ad, A = some ad := by
          obtain ⟨ad, e, -⟩ := Kd.at_int HC.out 0 (by omega) (by have := HL.out; omega)
          exact ⟨ad, e⟩
        subst hA
        have har : ∀ W : World, (Instr.arrayAt 68 (.slice (some ad) b.length c)).run Try.prog W = .ok (.pointer (some ad)) W := fun W => by
          simp [Instr.arrayAt, run_underlying Try.underlying68, HL.out]
        have HCL := Aside0.mk (show ∀ j v, (nums .u8 b)[j]? = some v → w1.cell? (ad.add j) = some v from fun j v hv => by
          unfold nums at hv
          rw [List.getElem?_map] at hv
          obtain ⟨x, hx, rfl⟩ := Option.map_eq_some_iff.1 hv
          obtain ⟨hlt, hx⟩ := List.getElem?_eq_some_iff.1 hx
          obtain ⟨ad', e, hc'⟩ := Kd.at_int HC.out (j : Int) (by omega) (by omega)
          cases e
          rw [Int.toNat_natCast] at hc'
          rw [hc']
          unfold rd
          rw [Int.toNat_natCast, List.getD_eq_getElem?_getD, List.getElem?_eq_getElem hlt, ← hx]
          rfl)
        obtain ⟨b9, hb9⟩ : ∃ b, b = w1.heap.size := ⟨_, rfl⟩
        obtain ⟨W2, hW2⟩ : ∃ W2 : World, W2 = (w1.alloc (.cells (rowK .u8 z64) 68)).setRow w1.heap.size (nums .u8 b).toArray := ⟨_, rfl⟩
        have HNEW := Aside0.mk (HoldsRow.new w1 68 (rowK .u8 z64))
        have N2 := Aside0.mk (show HoldsRow W2 b9 68 (rowK .u8 b) by rw [hW2, hb9]; exact HNEW.out.row _)
        have HBEL := Aside0.mk (show Below w1.heap.size w1 W2 by rw [hW2]; exact Go.Proofs.Ytkmgbmnjabmhaaa.Arr.below_setRow (below_alloc (Below.refl _ _) _) _ (Nat.le_refl _))
        have HSZ := Aside0.mk (show W2.heap.size = b9 + 1 by rw [hW2, hb9]; simp [World.setRow])
        have HW2 := Aside0.mk hW2
        have HB9 := Aside0.mk hb9
        clear hW2 hb9
        go_wp2_with (first | (refine wpList_load_at rfl 68 (.tmp 25) rfl ad rfl (nums .u8 b) _ HCL.out Try.underlying68 rfl (by rw [nums_length, HL.out]; kernel_rfl) ?_) | (refine wpList_store_row rfl 68 (.tmp 9) (.tmp 26) rfl w1.heap.size (nums .u8 b).toArray rfl rfl 68 (rowK .u8 z64) HNEW.out (by rw [nums_rowK, rowK_size, HL.out]; kernel_rfl) (by rw [nums_rowK, rowK_size, rowK_size, HL.out, z64_len]) (rowK_one _ _) ?_; rw [← HW2.out, ← HB9.out]))
        obtain ⟨gs, m, vw, pp, h1, h2, h3, h4, h5, ⟨o1, o2, o3⟩, ⟨b1, b2, b3⟩, hG⟩ := HT4.out
        have H1 := Aside0.mk (h1.below HBEL.out h1.lt)
        have H2 := Aside0.mk (h2.below HBEL.out h2.lt)
        have H3 := Aside0.mk (h3.move (HBEL.out.block m h3.lt))
        have H4 := Aside0.mk (Kd.R_step h4 (fun k _ hk => HBEL.out.block k hk))
        have H5 := Aside0.mk (h5.move (fun k _ hk => HBEL.out.block k hk))
        have HO := Aside0.mk (And.intro o1 (And.intro o2 o3))
        have HBS := Aside0.mk (And.intro b1 (And.intro b2 b3))
        have HG := Aside0.mk hG
        have HWN := Aside0.mk (show (doingF s).2.waits.length ≤ 1000000 by rw [(doing_waits s H0.out).1]; exact HWL.out)
        clear h1 h2 h3 h4 h5 o1 o2 o3 b1 b2 b3 hG
        have K0 : W2.cell? ⟨g, 2, none⟩ = some vw := H1.out.cell rfl
        have K1 : W2.rangeAt b9 0 (nums .u8 b) := fun q u hu => N2.out.cell (by rw [Nat.zero_add]; simpa [rowK] using hu)
        have HB2 := Aside0.mk (show Below base w W2.drew from below_drew (HT1.out.1.trans (HBEL.out.mono (Nat.le_trans HBW.out HT1.out.1.size))))
        have HBZ := Aside0.mk (show base ≤ W2.drew.heap.size from Nat.le_trans HBW.out HB2.out.size)
        have HRO := Aside0.mk (show Kd.R wrK 70 W2.drew base (fun k => ok1 k ∨ W2.drew.heap.size ≤ k) vw (doingF s).2.waits from Kd.R_mono H4.out (fun k hk => .inl hk))
        have HLN := Aside0.mk (show ((doingF s).2.waits ++ [(at_, b)]).length = (doingF s).2.waits.length + 1 by simp)
        clear har HCL HNEW HW2
        refine start_ (n := 13) (S := fun w' => w'.cell? ⟨g, 2, none⟩ = some vw ∧ w'.rangeAt b9 0 (nums .u8 b)) (ds := [9, 12]) #[false, false, false, false, false, false, false, false, false, false, false, false, false] (by kernel_rfl) rfl rfl ⟨K0, K1⟩ (fun hHeld => ?_)
        refine pure_ (i := 0) (N := some 27) (v := ?_) (a' := ?_) #[true, false, false, false, false, false, false, false, false, false, false, false, false] rfl rfl (by kernel_rfl) (fun _ _ _ h => h) (Or.inl ⟨by rfl, ?_⟩) ?_ ?_
        rotate_left
        · intro w'
          go_simp
          with_reducible rfl
        rotate_left
        · simp only [Act.put, List.setIfInBounds_toArray, List.set_cons_zero, List.set_cons_succ, i64_w, i32_w]
          rfl
        refine pure_ (i := 1) (N := some 28) (v := ?_) (a' := ?_) #[true, true, false, false, false, false, false, false, false, false, false, false, false] rfl rfl (by kernel_rfl) (fun _ _ _ h => h) (Or.inl ⟨by rfl, ?_⟩) ?_ ?_
        rotate_left
        · intro w'
          go_simp
          with_reducible rfl
        rotate_left
        · simp only [Act.put, List.setIfInBounds_toArray, List.set_cons_zero, List.set_cons_succ, i64_w, i32_w]
          rfl
        refine pure_ (i := 2) (N := some 29) (v := ?_) (a' := ?_) #[true, true, true, false, false, false, false, false, false, false, false, false, false] rfl rfl (by kernel_rfl) (fun _ _ _ h => h) (Or.inl ⟨by rfl, ?_⟩) ?_ ?_
        rotate_left
        · intro w'
          go_simp
          with_reducible rfl
        rotate_left
        · simp only [Act.put, List.setIfInBounds_toArray, List.set_cons_zero, List.set_cons_succ, i64_w, i32_w]
          rfl
        refine pure_ (i := 3) (N := some 30) (v := ?_) (a' := ?_) #[true, true, true, true, false, false, false, false, false, false, false, false, false] rfl rfl (by kernel_rfl) (fun _ _ _ h => h) (Or.inl ⟨by rfl, ?_⟩) ?_ ?_
        rotate_left
        · intro w'
          go_simp
          with_reducible rfl
        rotate_left
        · simp only [Act.put, List.setIfInBounds_toArray, List.set_cons_zero, List.set_cons_succ, i64_w, i32_w]
          rfl
        refine pure_ (i := 5) (N := some 32) (v := ?_) (a' := ?_) #[true, true, true, true, false, true, false, false, false, false, false, false, false] rfl rfl (by kernel_rfl) (fun _ _ _ h => h) (Or.inl ⟨by rfl, ?_⟩) ?_ ?_
        rotate_left
        · intro w'
          go_simp
          with_reducible rfl
        rotate_left
        · simp only [Act.put, List.setIfInBounds_toArray, List.set_cons_zero, List.set_cons_succ, i64_w, i32_w]
          rfl
        refine take_ (i := 4) (N := some 31) (v := ?_) (a' := ?_) #[true, true, true, true, true, true, false, false, false, false, false, false, false] rfl rfl (by kernel_rfl) (fun _ _ _ h => h) (Or.inl ⟨by rfl, ?_⟩) hHeld ?_ ?_
        rotate_left
        · rintro w' ⟨s0, s1⟩
          go_simp
          with_reducible rfl
        rotate_left
        · simp only [Act.put, List.setIfInBounds_toArray, List.set_cons_zero, List.set_cons_succ, i64_w, i32_w]
          rfl
        refine take_ (i := 6) (N := some 33) (v := ?_) (a' := ?_) #[true, true, true, true, true, true, true, false, false, false, false, false, false] rfl rfl (by kernel_rfl) (fun _ _ _ h => h) (Or.inl ⟨by rfl, ?_⟩) hHeld ?_ ?_
        rotate_left
        · rintro w' ⟨s0, s1⟩
          refine exec_load_mid 68 (.tmp 9) ?_ b9 0 ?_ (nums .u8 b) _ s1 Try.underlying68 rfl (by rw [nums_length, HL.out]; kernel_rfl)
          · rfl
          · rfl
        rotate_left
        · simp only [Act.put, List.setIfInBounds_toArray, List.set_cons_zero, List.set_cons_succ, i64_w, i32_w]
          rfl
        refine pure_ (i := 7) (N := some 34) (v := ?_) (a' := ?_) #[true, true, true, true, true, true, true, true, false, false, false, false, false] rfl rfl (by kernel_rfl) (fun _ _ _ h => h) (Or.inl ⟨by rfl, ?_⟩) ?_ ?_
        rotate_left
        · intro w'
          refine exec_built 70 #[(0, .tmp 32), (1, .tmp 33)] ?_ [(0, .int .i64 at_), (1, .agg (rowK .u8 b))] ?_ (wcells (at_, b)) (built_write at_ b HL.out)
          · rfl
          · simp only [List.map_toArray, List.map_cons, List.map_nil]
            rfl
        rotate_left
        · simp only [Act.put, List.setIfInBounds_toArray, List.set_cons_zero, List.set_cons_succ, i64_w, i32_w]
          rfl
        refine one_ (i := 8) (N := some 35) #[true, true, true, true, true, true, true, true, true, false, false, false, false] rfl rfl (by kernel_rfl) (by decide) (fun K hK => ?_)
        refine value_ (w1 := W2.drew.alloc (.cells (wcells (at_, b)) 70)) (v := .slice (some ⟨W2.drew.heap.size, 0, none⟩) 1 1) (by rfl) rfl ?_ ?_
        · refine exec_one_slice 62 70 (.tmp 34) ?_ 65 (wcells (at_, b)) ?_ Try.underlying62 (by kernel_rfl) (by decide) (by decide) (wcells_size HL.out)
          · rfl
          · rfl
        refine hK.out _ _ ⟨cell_alloc_old _ K0, World.rangeAt_alloc K1 _⟩ (fun hHeld => ?_)
        clear hK K
        refine norm_ (a' := ?_) ?_ ?_
        rotate_left
        · show Act.put _ (some 35) _ = _
          simp only [Act.put, List.setIfInBounds_toArray, List.set_cons_zero, List.set_cons_succ, i64_w, i32_w]
          rfl
        refine last_ (i := 9) (N := some 36) #[true, true, true, true, true, true, true, true, true, true, false, false, false] rfl rfl (by kernel_rfl) (by decide) (fun K hK => ?_)
        refine Kd.R_append_step wrK (w0 := w) (W := W2.drew) base (by rfl) (.tmp 31) (.tmp 35) 62 70 (.agg z65) 72 ?a1 Try.underlying62 (by kernel_rfl) z65_size (by decide) (by decide) vw (doingF s).2.waits (at_, b) (wcells (at_, b)).toList (fun k => ok1 k ∨ W2.drew.heap.size ≤ k) (fun _ => False) ?a2 ?a3 ⟨rfl, HL.out⟩ (fun _ hk => hk.elim) (fun _ hk => .inr hk) HRO.out HB2.out HBZ.out ?aL ?_
        case a1 => rfl
        case a2 => rfl
        case a3 => rfl
        case aL => have := HWN.out; omega
        intro v1 w5 ho hb5 hg hat
        obtain ⟨A1, cc, rfl⟩ := Kd.R_slice ho
        rw [HLN.out] at ho ⊢
        obtain ⟨r1, r2, r3, r5⟩ := rest_grown (W := W2.drew) H1.out H2.out H3.out H4.out H5.out hg
        have Q1 := Aside0.mk r1
        have Q2 := Aside0.mk r2
        have Q3 := Aside0.mk r3
        have Q5 := Aside0.mk r5
        have Q4 := Aside0.mk ho
        have QB := Aside0.mk hb5
        have Q9 := Aside0.mk (hr_move N2.out (hg.block b9 N2.out.lt (ne_own N2.out H4.out (by decide))))
        have QG := Aside0.mk hg
        have c2 := r1.cell (j := 2) (v := vw) rfl
        have z2 := r1.free 2
        clear r1 r2 r3 r5 ho hb5 hg hat
        refine hK.out _ _ ?_
        clear hK K
        refine norm_ (a' := ?_) ?_ ?_
        rotate_left
        · show Act.put _ (some 36) _ = _
          simp only [Act.put, List.setIfInBounds_toArray, List.set_cons_zero, List.set_cons_succ, i64_w, i32_w]
          rfl
        refine pure_ (i := 10) (N := some 37) (v := ?_) (a' := ?_) #[true, true, true, true, true, true, true, true, true, true, true, false, false] rfl rfl (by kernel_rfl) (fun _ _ _ h => h) (Or.inl ⟨by rfl, ?_⟩) ?_ ?_
        rotate_left
        · intro w'
          go_simp
          with_reducible rfl
        rotate_left
        · simp only [Act.put, List.setIfInBounds_toArray, List.set_cons_zero, List.set_cons_succ, i64_w, i32_w]
          rfl
        refine pure_ (i := 11) (N := some 38) (v := ?_) (a' := ?_) #[true, true, true, true, true, true, true, true, true, true, true, true, false] rfl rfl (by kernel_rfl) (fun _ _ _ h => h) (Or.inl ⟨by rfl, ?_⟩) ?_ ?_
        rotate_left
        · intro w'
          go_simp
          with_reducible rfl
        rotate_left
        · simp only [Act.put, List.setIfInBounds_toArray, List.set_cons_zero, List.set_cons_succ, i64_w, i32_w]
          rfl
        refine last_ (i := 12) (N := none) #[true, true, true, true, true, true, true, true, true, true, true, true, true] rfl rfl (by kernel_rfl) (by decide) (fun K hK => ?_)
        refine skip_ (w1 := ?_) (by rfl) rfl ?_ ?_
        rotate_left
        · go_simp
          rfl
        refine hK.out _ _ ?_
        clear hK K
        refine done_ (by kernel_rfl) ?_
        
        obtain ⟨V, hV⟩ : ∃ V, V = Value.slice A1 ((doingF s).2.waits.length + 1) cc := ⟨_, rfl⟩
        obtain ⟨W6, hW6⟩ : ∃ W6, W6 = w5.setCell ⟨g, 2, none⟩ V := ⟨_, rfl⟩
        rw [← hV] at Q4
        rw [← hV, ← hW6]
        obtain ⟨p2, p3, p4, p5⟩ := rest_set Q1.out Q2.out Q3.out Q4.out (Q5.out.mono (ok' := fun k => ok1 k ∨ W2.drew.heap.size ≤ k) (fun k hk _ => .inl hk)) 2 V
        have p1 := Q1.out.set 2 V
        rw [dcells_waits] at p1
        rw [← hW6] at p1 p2 p3 p4 p5
        have p9 : HoldsRow W6 b9 68 (rowK .u8 b) := by rw [hW6]; exact Q9.out.set_other _ _ (ne_kind Q9.out Q1.out (by decide))
        have K0 : W6.cell? ⟨g, 1, none⟩ = some (.map (some m)) := p1.cell rfl
        have K1 : W6.rangeAt b9 0 (nums .u8 b) := fun q u hu => p9.cell (by rw [Nat.zero_add]; simpa [rowK] using hu)
        obtain ⟨W7, hrun, hm7, hg7, hs7⟩ := run_update_is (P := Try.prog) (W := W6.drew) (T := 61) (K := 3) (E := 68) p3 Try.underlying61 Try.underlying3 at_ (.agg (rowK .u8 b))
        obtain ⟨r1, r2, r4, r5⟩ := rest_map (W := W6.drew) p1 p2 p3 p4 p5 hg7
        have hF : (fun k => if k = at_ then some (.agg (rowK .u8 b)) else seenF (doingF s).2.waits k) = seenF ((doingF s).2.waits ++ [(at_, b)]) := by
          funext k
          unfold seenF
          rw [lastW_snoc]
          by_cases e : k = at_
          · rw [if_pos e, if_pos e.symm]; rfl
          · rw [if_neg e, if_neg (fun q => e q.symm)]
        rw [hF] at hm7
        have hat : 0 ≤ at_ ∧ at_ < (doingF s).2.n := by
          rw [(doing_waits s H0.out).2.1]
          have := HT.out
          unfold thereE at this
          split at this
          · exact absurd this (by decide)
          · split at this
            · exact absurd this (by decide)
            · split at this
              · exact absurd this (by decide)
              · omega
        have hs6 : W6.heap.size = w5.heap.size := by rw [hW6]; simp [World.setCell]
        have hz25 : W2.drew.heap.size ≤ w5.heap.size := QG.out.size
        have hkA : Kept w W2.drew ok := HT1.out.2.1.below (below_drew HBEL.out)
        have hkB : Kept w w5 ok := Kept.of_grown QG.out hkA (fun k hk => by
          rcases (Kd.R_bound H4.out).1 k hk with ⟨q, -, -, -⟩
          exact (HT1.out.2.2 k q).1)
        have hkC : Kept w W6 ok := by rw [hW6]; exact hkB.setCell (p := ⟨g, 2, none⟩) ((HT1.out.2.2 g HO.out.1).1) V
        have hkD : Kept w W7 ok := Kept.of_grown hg7 (Kept.drew hkC) (fun k hk => by injection hk with hk; rw [← hk]; exact (HT1.out.2.2 m HO.out.2.2).1)
        have hbC : Below base w W6 := by rw [hW6]; exact QB.out.setCell (show base ≤ (⟨g, 2, none⟩ : Addr).block from HBS.out.1) V
        have hbD : Below base w W7 := (below_drew hbC).grown hg7 (Nat.le_trans HBW.out hbC.size) (fun k hk => by injection hk with hk; rw [← hk]; exact HBS.out.2.2)
        have HF := Aside0.mk (show DiskTo w W7 base ok g { (doingF s).2 with waits := (doingF s).2.waits ++ [(at_, b)] } from
          DiskTo.trans hbD hkD (ok1 := fun k => ok1 k ∨ W2.drew.heap.size ≤ k) (fun k hk => hk.elim (fun h => (HT1.out.2.2 k h).1) (fun h => .inr (Nat.le_trans hkA.1 h))) (DiskTo.same ⟨gs, m, V, pp, r1, r2, hm7, r4, r5, ⟨.inl HO.out.1, .inl HO.out.2.1, .inl HO.out.2.2⟩, HBS.out, HG.out.1, HG.out.2.1, HG.out.2.2.1, fun p hp => (List.mem_append.1 hp).elim (fun h => HG.out.2.2.2 p h) (fun h => by rw [List.mem_singleton.1 h]; exact ⟨hat.1, hat.2, HL.out⟩)⟩))
        have HRUN := Aside0.mk hrun
        clear hV hW6 p1 p2 p3 p4 p5 p9 hrun hm7 hg7 hs7 r1 r2 r4 r5 hF hat hs6 hz25 hkA hkB hkC hkD hbC hbD c2 z2 hHeld Q1 Q2 Q3 Q4 Q5 QB Q9 QG
        go_wp2_with fail
        refine start_ (n := 7) (S := fun w' => w'.cell? ⟨g, 1, none⟩ = some (.map (some m)) ∧ w'.rangeAt b9 0 (nums .u8 b)) (ds := [6]) #[false, false, false, false, false, false, false] (by kernel_rfl) rfl rfl ⟨K0, K1⟩ (fun hHeld => ?_)
        refine pure_ (i := 0) (N := some 39) (v := ?_) (a' := ?_) #[true, false, false, false, false, false, false] rfl rfl (by kernel_rfl) (fun _ _ _ h => h) (Or.inl ⟨by rfl, ?_⟩) ?_ ?_
        rotate_left
        · intro w'
          go_simp
          with_reducible rfl
        rotate_left
        · simp only [Act.put, List.setIfInBounds_toArray, List.set_cons_zero, List.set_cons_succ, i64_w, i32_w]
          rfl
        refine pure_ (i := 1) (N := some 40) (v := ?_) (a' := ?_) #[true, true, false, false, false, false, false] rfl rfl (by kernel_rfl) (fun _ _ _ h => h) (Or.inl ⟨by rfl, ?_⟩) ?_ ?_
        rotate_left
        · intro w'
          go_simp
          with_reducible rfl
        rotate_left
        · simp only [Act.put, List.setIfInBounds_toArray, List.set_cons_zero, List.set_cons_succ, i64_w, i32_w]
          rfl
        refine pure_ (i := 2) (N := some 41) (v := ?_) (a' := ?_) #[true, true, true, false, false, false, false] rfl rfl (by kernel_rfl) (fun _ _ _ h => h) (Or.inl ⟨by rfl, ?_⟩) ?_ ?_
        rotate_left
        · intro w'
          go_simp
          with_reducible rfl
        rotate_left
        · simp only [Act.put, List.setIfInBounds_toArray, List.set_cons_zero, List.set_cons_succ, i64_w, i32_w]
          rfl
        refine pure_ (i := 4) (N := some 43) (v := ?_) (a' := ?_) #[true, true, true, false, true, false, false] rfl rfl (by kernel_rfl) (fun _ _ _ h => h) (Or.inl ⟨by rfl, ?_⟩) ?_ ?_
        rotate_left
        · intro w'
          go_simp
          with_reducible rfl
        rotate_left
        · simp only [Act.put, List.setIfInBounds_toArray, List.set_cons_zero, List.set_cons_succ, i64_w, i32_w]
          rfl
        refine take_ (i := 3) (N := some 42) (v := ?_) (a' := ?_) #[true, true, true, true, true, false, false] rfl rfl (by kernel_rfl) (fun _ _ _ h => h) (Or.inl ⟨by rfl, ?_⟩) hHeld ?_ ?_
        rotate_left
        · rintro w' ⟨s0, s1⟩
          go_simp
          with_reducible rfl
        rotate_left
        · simp only [Act.put, List.setIfInBounds_toArray, List.set_cons_zero, List.set_cons_succ, i64_w, i32_w]
          rfl
        refine take_ (i := 5) (N := some 44) (v := ?_) (a' := ?_) #[true, true, true, true, true, true, false] rfl rfl (by kernel_rfl) (fun _ _ _ h => h) (Or.inl ⟨by rfl, ?_⟩) hHeld ?_ ?_
        rotate_left
        · rintro w' ⟨s0, s1⟩
          refine exec_load_mid 68 (.tmp 9) ?_ b9 0 ?_ (nums .u8 b) _ s1 Try.underlying68 rfl (by rw [nums_length, HL.out]; kernel_rfl)
          · rfl
          · rfl
        rotate_left
        · simp only [Act.put, List.setIfInBounds_toArray, List.set_cons_zero, List.set_cons_succ, i64_w, i32_w]
          rfl
        refine last_ (i := 6) (N := none) #[true, true, true, true, true, true, true] rfl rfl (by kernel_rfl) (by decide) (fun K hK => ?_)
        refine skip_ (w1 := W7) (by rfl) rfl ?_ ?_
        · refine exec_update 61 (.tmp 42) (.tmp 43) (.tmp 44) ?_ m at_ (.agg (rowK .u8 b)) ?_ ?_ ?_ HRUN.out
          · rfl
          · rfl
          · rfl
          · rfl
        refine hK.out _ _ ?_
        clear hK K
        refine done_ (by kernel_rfl) ?_
        
        go_wp2_with fail
        go_ret
        exact ⟨by rw [HE.out] <;> rfl, by rw [HE.out]; exact HF.out⟩
      · have HE := Aside0.mk (show writeF s at_ b = doingF s by unfold writeF; rw [if_neg (fun e => e ht), if_neg (fun e => e hl), if_pos (by rw [h30]; decide)])
        have H30 := Aside0.mk h30
        have dl : ((b.length : Int) != 64) = false := by rw [hl]; rfl
        clear ht hl h30
        go_enter Try.func11, Try.ntmps11
        go_wp2_with fail
        refine (there_calls w base ok g s HD.out at_).mono ?_
        rintro e w1 ⟨rfl, rfl⟩
        rw [HT.out]
        go_wp2_with fail
        refine (doing_calls w base ok g s HD.out HBW.out HWL.out).mono ?_
        rintro e w1 ⟨rfl, hto⟩
        rw [H30.out]
        have HTO := Aside0.mk hto
        clear hto
        go_wp2_with fail
        go_ret
        exact ⟨by rw [HE.out, H30.out] <;> rfl, by rw [HE.out]; exact HTO.out⟩
    · have HE := Aside0.mk (show writeF s at_ b = (2, s) by unfold writeF; rw [if_neg (fun e => e ht), if_pos hl])
      have dl : ((b.length : Int) != 64) = true := by simp; omega
      clear ht hl
      go_enter Try.func11, Try.ntmps11
      go_wp2_with fail
      refine (there_calls w base ok g s HD.out at_).mono ?_
      rintro e w1 ⟨rfl, rfl⟩
      rw [HT.out]
      go_wp2_with fail
      go_ret
      exact ⟨by rw [HE.out] <;> rfl, by rw [HE.out]; exact DiskTo.same HD.out⟩
  · have HE := Aside0.mk (show writeF s at_ b = (thereE s at_, s) by unfold writeF; rw [if_pos ht])
    have dt : (thereE s at_ != 0) = true := by simp; exact ht
    clear ht
    go_enter Try.func11, Try.ntmps11
    go_wp2_with fail
    refine (there_calls w base ok g s HD.out at_).mono ?_
    rintro e w1 ⟨rfl, rfl⟩
    obtain ⟨q, hq⟩ : ∃ q, q = thereE s at_ := ⟨_, rfl⟩
    rw [← hq] at dt ⊢
    have HQ := Aside0.mk hq
    clear hq
    go_wp2_with fail
    go_ret
    exact ⟨by rw [HE.out, HQ.out] <;> rfl, by rw [HE.out]; exact DiskTo.same HD.out⟩
end Go.Proofs.Ytkmgbmnjabmhaaa.Ext
