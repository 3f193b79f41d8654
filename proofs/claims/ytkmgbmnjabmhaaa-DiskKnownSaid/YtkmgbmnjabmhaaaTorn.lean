/- torn of a disk, walked. Condition: the writes are of its sectors. -/
import Derived.Test.YtkmgbmnjabmhaaaSettle
import Derived.Laws.CopyOwn
namespace Go.Proofs.Ytkmgbmnjabmhaaa.Ext
open Go Go.RowKit Go.Proofs.YtkmgbmnjabmhaaaW.PrintWords Go.Proofs.YtkmgbmnjabmhaaaW.PrintLast Go.Proofs.YtkmgbmnjabmhaaaW.PrintMore Go.Proofs.Ytkmgbmnjabmhaaa.Base Go.Proofs.Ytkmgbmnjabmhaaa.Arr
set_option linter.unusedVariables false
set_option linter.unusedSimpArgs false

/-- the sector as it would be, if all that was kept were laid -/
def curS (f : List Int) (l : List (Int × List Int)) (at_ : Nat) : List Int := (lastW l at_).getD (secOf f at_)
theorem curS_snoc (f : List Int) (l : List (Int × List Int)) (p : Int × List Int) (at_ : Nat) : curS f (l ++ [p]) at_ = if p.1 = at_ then p.2 else curS f l at_ := by
  unfold curS
  rw [lastW_snoc]
  split <;> rfl
theorem curS_len {f : List Int} {l : List (Int × List Int)} {at_ : Nat} (h0 : (secOf f at_).length = 64) (hl : ∀ p ∈ l, p.2.length = 64) : (curS f l at_).length = 64 := by
  unfold curS lastW
  have : ∀ (l : List (Int × List Int)) (a : Option (List Int)), (∀ p ∈ l, p.2.length = 64) → (a.getD (secOf f at_)).length = 64 → ((l.foldl (fun a p => if p.1 = (at_ : Int) then some p.2 else a) a).getD (secOf f at_)).length = 64 := by
    intro l
    induction l with
    | nil => intro a _ h; exact h
    | cons p l ih =>
      intro a hl h
      refine ih _ (fun q hq => hl q (by simp [hq])) ?_
      show ((if p.1 = (at_ : Int) then some p.2 else a).getD (secOf f at_)).length = 64
      split
      · exact hl p (by simp)
      · exact h
  exact this l none hl h0
def tornS (f : List Int) (l : List (Int × List Int)) (at_ : Nat) (sec : List Int) (n : Nat) : List Int := sec.take n ++ (curS f l at_).drop n
theorem set_all {W : World} {b : Nat} {t : TypeId} {k : IntKind} {f l : List Int} (h : HoldsRow W b t (rowK k f)) (hl : l.length = f.length) : HoldsRow (W.setCells b 0 (rowK k l).toList) b t (rowK k l) := by
  obtain ⟨cur, h1, h2, h3⟩ := setCells_row (nums k l) 0 W (rowK k f) h (by rw [nums_length, rowK_size]; omega)
  have : cur = rowK k l := by
    apply Array.toList_inj.1
    rw [h3, nums_length]
    simp [rowK, nums, hl]
  rw [← this]
  have e : (cur : Array Value).toList = nums k l := by rw [this]; rfl
  rw [e]
  exact h1
theorem range_take {W : World} {b q n : Nat} {l : List Int} (h : W.rangeAt b q (nums .u8 l)) {j : Nat} {v : Value} (hv : (nums .u8 (l.take n))[j]? = some v) : W.cell? ((⟨b, q, none⟩ : Addr).add j) = some v := by
  have : (nums .u8 l)[j]? = some v := by
    unfold nums at hv ⊢
    rw [List.getElem?_map] at hv ⊢
    obtain ⟨x, hx, rfl⟩ := Option.map_eq_some_iff.1 hv
    rw [List.getElem?_take] at hx
    split at hx
    · rw [hx]; rfl
    · cases hx
  have := h j v this
  unfold Addr.add
  split
  · rename_i h0; subst h0; exact this
  · exact this
theorem nums_one (k : IntKind) (l : List Int) : ∀ v ∈ nums k l, v.oneCell' = true := fun v hv => by
  unfold nums at hv
  obtain ⟨y, _, rfl⟩ := List.mem_map.1 hv
  rfl
theorem splice_head {l cur : List Int} {n : Nat} (hl : (l.take n).length = n) : (splice (nums .u8 cur) 0 (nums .u8 (l.take n))).toArray = rowK .u8 (l.take n ++ cur.drop n) := by
  simp only [splice, nums_length, hl, Nat.zero_add, List.take_zero, List.nil_append]
  simp [rowK, nums]
/-- an element of a row of writes -/
theorem wr_elem {W : World} {base : Nat} {okl : Nat → Prop} {A : Option Addr} {c n : Nat} {L : List (Int × List Int)} (h : Kd.R wrK 70 W base okl (.slice A L.length c) L) (hL : Fits n L) (j : Nat) (hj : j < L.length) :
    ∃ (gl : Nat) (cs : List Value) (ai : Nat) (sec : List Int), A = some ⟨gl, 0, none⟩ ∧ L[j]? = some ((ai : Int), sec) ∧ L.take (j + 1) = L.take j ++ [((ai : Int), sec)] ∧ cs = Value.int .i64 (ai : Nat) :: nums .u8 sec ∧ cs.length = 65 ∧ W.rangeAt gl (j * 65) cs ∧ ai < n ∧ sec.length = 64 := by
  obtain ⟨gl, cap, e, -, -, -⟩ := Kd.R_form h (by omega)
  injection e with e1 _ e3
  subst e1
  obtain ⟨cs, -, ⟨hcs, h64⟩, hcell, -⟩ := Kd.R_elem h ((0, []) : Int × List Int) (j : Int) (by omega) (by omega)
  rw [Int.toNat_natCast] at hcs h64 hcell
  have hg : L.getD j (0, []) = L[j] := by rw [List.getD_eq_getElem?_getD, List.getElem?_eq_getElem hj]; rfl
  have hp := hL L[j] (List.getElem_mem _)
  rw [hg] at hcs h64
  obtain ⟨ai, hai⟩ := Int.eq_ofNat_of_zero_le hp.1
  have ep : L[j] = ((ai : Int), L[j].2) := by rw [← hai]
  refine ⟨gl, cs, ai, L[j].2, rfl, by rw [List.getElem?_eq_getElem hj, ← ep], by rw [List.take_succ_eq_append_getElem hj, ← ep], by rw [hcs, hai], ?_, fun q u hu => by have := hcell q u hu; exact this, by have := hp.2.1; omega, h64⟩
  rw [hcs]
  simp [nums, h64]
set_option maxHeartbeats 4000000 in
set_option maxRecDepth 100000 in
theorem torn_calls (w : World) (base : Nat) (ok okl : Nat → Prop) (g : Nat) (s : DS) (h : DiskIs w base ok g s) (vl : Value) (L : List (Int × List Int)) (hl : Kd.R wrK 70 w base okl vl L) (hL : Fits s.n L) (at_ : Nat) (sec : List Int) (hat : at_ < s.n) (hsec : sec.length = 64) (n : Nat) (hn : n ≤ 64) (P : Array Value) (hP : P = wcells ((at_ : Int), sec)) :
    Calls Try.prog 42 #[.pointer (some ⟨g, 0, none⟩), vl, .agg P, .int .i64 n] w fun e w' => e = .returned (.agg (rowK .u8 (tornS s.stays L at_ sec n))) ∧ Below w.heap.size w w' := by
  obtain ⟨gs, m, vw, pp, h1, h2, h3, h4, h5, ⟨o1, o2, o3⟩, ⟨b1, b2, b3⟩, hG⟩ := h
  obtain ⟨A, c, rfl⟩ := Kd.R_slice hl
  have hmx : L.length ≤ 9223372036854775807 := Kd.C_max (Kd.R_reads' hl).2.2
  have HG := Aside0.mk hG
  have HL := Aside0.mk hL
  have H1 := Aside0.mk h1
  have H2 := Aside0.mk h2
  have H6 := Aside0.mk hl
  have HS := Aside0.mk hsec
  clear h1 h2 h3 h4 h5 hl hG o1 o2 o3 b1 b2 b3 hL hsec
  have HP := Aside0.mk hP
  clear hP
  have hz := zero_sector
  go_enter Try.func42, Try.ntmps42
  go_wp2_with fail
  obtain ⟨W0, hW0⟩ : ∃ W0 : World, W0 = (w.alloc (.cells P 70)).alloc (.cells (rowK .u8 (z64)) 68) := ⟨_, rfl⟩
  rw [← hW0]
  obtain ⟨b6, hb6⟩ : ∃ b, b = w.heap.size := ⟨_, rfl⟩
  obtain ⟨b8, hb8⟩ : ∃ b, b = w.heap.size + 1 := ⟨_, rfl⟩
  rw [← hb8, ← hb6]
  have A6 := Aside0.mk (show HoldsRow W0 b6 70 P by rw [hW0, hb6]; exact (HoldsRow.new w _ _).alloc _)
  have A8 := Aside0.mk (show HoldsRow W0 b8 68 (rowK .u8 (z64)) by rw [hW0, hb8]; have := HoldsRow.new (w.alloc (.cells P 70)) 68 (rowK .u8 (z64)); rw [World.size_alloc] at this; exact this)
  have AB := Aside0.mk (show Below w.heap.size w W0 by rw [hW0]; exact below_alloc (below_alloc (Below.refl _ _) _) _)
  have ASZ := Aside0.mk (show W0.heap.size = b8 + 1 by rw [hW0, hb8]; simp)
  have AE := Aside0.mk (And.intro hb6 hb8)
  clear hW0 hb6 hb8
  have B1 := Aside0.mk (H1.out.below AB.out H1.out.lt)
  have B2 := Aside0.mk (H2.out.below AB.out H2.out.lt)
  have B6 := Aside0.mk (Kd.R_step H6.out (fun k _ hk => AB.out.block k hk))
  clear H1 H2 H6
  have K0 : W0.cell? ⟨g, 0, none⟩ = some (.slice (some ⟨gs, 0, none⟩) s.n s.n) := B1.out.cell rfl
  have K1 : W0.cell? ⟨b6, 0, none⟩ = some (.int .i64 (at_ : Nat)) := A6.out.cell (by rw [HP.out]; rfl)
  have K2 : W0.rangeAt gs (at_ * 64) (nums .u8 (secOf s.stays at_)) := range_row B2.out _ _
  have HLEN := Aside0.mk (show (secOf s.stays at_).length = 64 from secOf_len HG.out.2.2.1 hat)
  have hu := Try.underlying68
  have x0 := eq_true hat
  obtain ⟨W1, hW1⟩ : ∃ W1 : World, W1 = W0.drew.alloc (.cells (rowK .u8 (z64)) 68) := ⟨_, rfl⟩
  have N1 := Aside0.mk (show HoldsRow W1 W0.heap.size 68 (rowK .u8 (z64)) by rw [hW1]; exact HoldsRow.new W0.drew _ _)
  have HTHERE := Aside0.mk (there_row N1.out 0 (rowK .u8 (secOf s.stays at_)).size (by rw [rowK_size, rowK_size, HLEN.out, z64_len]; simp))
  have HW1 := Aside0.mk hW1
  clear hW1 hu
  refine start_ (n := 10) (S := fun w' => w'.cell? ⟨g, 0, none⟩ = some (.slice (some ⟨gs, 0, none⟩) s.n s.n) ∧ w'.cell? ⟨b6, 0, none⟩ = some (.int .i64 (at_ : Nat)) ∧ w'.rangeAt gs (at_ * 64) (nums .u8 (secOf s.stays at_))) (ds := [9]) #[false, false, false, false, false, false, false, false, false, false] (by kernel_rfl) rfl rfl ⟨K0, K1, K2⟩ (fun hHeld => ?_)
  refine pure_ (i := 0) (N := some 12) (v := ?_) (a' := ?_) #[true, false, false, false, false, false, false, false, false, false] rfl rfl (by kernel_rfl) (fun _ _ _ h => h) (Or.inl ⟨by rfl, ?_⟩) ?_ ?_
  rotate_left
  · intro w'
    go_simp
    with_reducible rfl
  rotate_left
  · simp only [Act.put, List.setIfInBounds_toArray, List.set_cons_zero, List.set_cons_succ, i64_w, i32_w]
    rfl
  refine pure_ (i := 1) (N := some 13) (v := ?_) (a' := ?_) #[true, true, false, false, false, false, false, false, false, false] rfl rfl (by kernel_rfl) (fun _ _ _ h => h) (Or.inl ⟨by rfl, ?_⟩) ?_ ?_
  rotate_left
  · intro w'
    go_simp
    with_reducible rfl
  rotate_left
  · simp only [Act.put, List.setIfInBounds_toArray, List.set_cons_zero, List.set_cons_succ, i64_w, i32_w]
    rfl
  refine pure_ (i := 2) (N := some 14) (v := ?_) (a' := ?_) #[true, true, true, false, false, false, false, false, false, false] rfl rfl (by kernel_rfl) (fun _ _ _ h => h) (Or.inl ⟨by rfl, ?_⟩) ?_ ?_
  rotate_left
  · intro w'
    go_simp
    with_reducible rfl
  rotate_left
  · simp only [Act.put, List.setIfInBounds_toArray, List.set_cons_zero, List.set_cons_succ, i64_w, i32_w]
    rfl
  refine pure_ (i := 4) (N := some 16) (v := ?_) (a' := ?_) #[true, true, true, false, true, false, false, false, false, false] rfl rfl (by kernel_rfl) (fun _ _ _ h => h) (Or.inl ⟨by rfl, ?_⟩) ?_ ?_
  rotate_left
  · intro w'
    go_simp
    with_reducible rfl
  rotate_left
  · simp only [Act.put, List.setIfInBounds_toArray, List.set_cons_zero, List.set_cons_succ, i64_w, i32_w]
    rfl
  refine take_ (i := 3) (N := some 15) (v := ?_) (a' := ?_) #[true, true, true, true, true, false, false, false, false, false] rfl rfl (by kernel_rfl) (fun _ _ _ h => h) (Or.inl ⟨by rfl, ?_⟩) hHeld ?_ ?_
  rotate_left
  · rintro w' ⟨s0, s1, s2⟩
    go_simp
    with_reducible rfl
  rotate_left
  · simp only [Act.put, List.setIfInBounds_toArray, List.set_cons_zero, List.set_cons_succ, i64_w, i32_w]
    rfl
  refine take_ (i := 5) (N := some 17) (v := ?_) (a' := ?_) #[true, true, true, true, true, true, false, false, false, false] rfl rfl (by kernel_rfl) (fun _ _ _ h => h) (Or.inl ⟨by rfl, ?_⟩) hHeld ?_ ?_
  rotate_left
  · rintro w' ⟨s0, s1, s2⟩
    go_simp
    with_reducible rfl
  rotate_left
  · simp only [Act.put, List.setIfInBounds_toArray, List.set_cons_zero, List.set_cons_succ, i64_w, i32_w]
    rfl
  refine pure_ (i := 6) (N := some 18) (v := ?_) (a' := ?_) #[true, true, true, true, true, true, true, false, false, false] rfl rfl (by kernel_rfl) (fun _ _ _ h => h) (Or.inl ⟨by rfl, ?_⟩) ?_ ?_
  rotate_left
  · intro w'
    go_simp
    with_reducible rfl
  rotate_left
  · simp only [Act.put, List.setIfInBounds_toArray, List.set_cons_zero, List.set_cons_succ, i64_w, i32_w]
    rfl
  refine take_ (i := 7) (N := some 19) (v := ?_) (a' := ?_) #[true, true, true, true, true, true, true, true, false, false] rfl rfl (by kernel_rfl) (fun _ _ _ h => h) (Or.inl ⟨by rfl, ?_⟩) hHeld ?_ ?_
  rotate_left
  · rintro w' ⟨s0, s1, s2⟩
    refine exec_load_mid 68 (.tmp 18) ?_ gs (at_ * 64) ?_ (nums .u8 (secOf s.stays at_)) _ s2 Try.underlying68 rfl (by rw [nums_len, HLEN.out]; kernel_rfl)
    · rfl
    · rfl
  rotate_left
  · simp only [Act.put, List.setIfInBounds_toArray, List.set_cons_zero, List.set_cons_succ, i64_w, i32_w]
    rfl
  refine one_ (i := 8) (N := some 9) #[true, true, true, true, true, true, true, true, true, false] rfl rfl (by kernel_rfl) (by decide) (fun K hK => ?_)
  refine value_ (w1 := W1) (v := .pointer (some ⟨W0.heap.size, 0, none⟩)) (by rfl) rfl ?_ ?_
  · rw [HW1.out]
    refine exec_alloc 68 ?_ _ zero_sector
    rfl
  refine hK.out _ _ ⟨(by rw [HW1.out]; exact cell_alloc_old _ K0), (by rw [HW1.out]; exact cell_alloc_old _ K1), (by rw [HW1.out]; exact World.rangeAt_alloc K2 _)⟩ (fun hHeld => ?_)
  clear hK K
  refine norm_ (a' := ?_) ?_ ?_
  rotate_left
  · show Act.put _ (some 9) _ = _
    simp only [Act.put, List.setIfInBounds_toArray, List.set_cons_zero, List.set_cons_succ, i64_w, i32_w]
    rfl
  refine last_ (i := 9) (N := none) #[true, true, true, true, true, true, true, true, true, true] rfl rfl (by kernel_rfl) (by decide) (fun K hK => ?_)
  refine skip_ (w1 := W1.setCells W0.heap.size 0 (rowK .u8 (secOf s.stays at_)).toList) (by rfl) rfl ?_ ?_
  · refine exec_store_mid 68 (.tmp 9) (.tmp 19) ?_ W0.heap.size 0 (rowK .u8 (secOf s.stays at_)) ?_ ?_ HTHERE.out (by rw [rowK_size, HLEN.out]; kernel_rfl) (rowK_one _ _)
    · rfl
    · rfl
    · rfl
  refine hK.out _ _ ?_
  clear hK K
  refine done_ (by kernel_rfl) ?_
  
  obtain ⟨b9, hb9⟩ : ∃ b, b = W0.heap.size := ⟨_, rfl⟩
  obtain ⟨W2, hW2⟩ : ∃ W2 : World, W2 = W1.setCells b9 0 (rowK .u8 (secOf s.stays at_)).toList := ⟨_, rfl⟩
  have N2 := Aside0.mk (show HoldsRow W2 b9 68 (rowK .u8 (curS s.stays (L.take 0) at_)) by rw [hW2]; rw [← hb9] at N1; exact set_all N1.out (by rw [HLEN.out, z64_len]))
  have hbel : Below W0.heap.size W0 W2 := by rw [hW2, HW1.out]; exact sets_below (below_alloc (below_drew (Below.refl _ W0)) _) (by omega) _
  have R2 := Aside0.mk (And.intro (AB.out.trans (hbel.mono AB.out.size)) (show b8 < b9 ∧ b6 < b8 ∧ b6 = w.heap.size by have := ASZ.out; have := AE.out; omega))
  have R6 := Aside0.mk (Kd.R_step B6.out (fun k _ hk => hbel.block k hk))
  have RA := Aside0.mk (A6.out.below hbel A6.out.lt)
  have RB := Aside0.mk (A8.out.below hbel A8.out.lt)
  rw [← hb9, ← hW2]
  clear hW2 hb9 hbel HW1 HTHERE N1 K0 K1 K2 hHeld B1 B2 B6 A6 A8 AB ASZ AE x0 hz
  go_wp2_with fail
  go_loopw [22] (fun i wr => ∃ j : Nat, j ≤ L.length ∧ i = .int .i64 (j : Nat) ∧ Aside0 (HoldsRow wr b9 68 (rowK .u8 (curS s.stays (L.take j) at_))) ∧ Aside0 (HoldsRow wr b6 70 P) ∧ Aside0 (HoldsRow wr b8 68 (rowK .u8 z64)) ∧ Aside0 (Kd.R wrK 70 wr base okl (.slice A L.length c) L) ∧ Aside0 (Below w.heap.size w wr ∧ b8 < b9 ∧ b6 < b8 ∧ b6 = w.heap.size)) (fun i _ => L.length - (intOf i).toNat)
  case atStart => exact ⟨0, by omega, rfl, N2, RA, RB, R6, R2⟩
  case round =>
    clear N2 RA RB R6 R2
    obtain ⟨j, hj, rfl, R9, R6, R8, RL, RW⟩ := hrel
    by_cases hlt : j < L.length
    · have d1 : decide ((j : Int) < (L.length : Int)) = true := decide_eq_true (by omega)
      have d2 : decide (j < L.length) = true := decide_eq_true hlt
      obtain ⟨gl, cs, ai, se, rfl, -, htk, hcs, hcl, hrng, hai, h64⟩ := wr_elem RL.out HL.out j hlt
      have HTK := Aside0.mk htk
      have HRNG := Aside0.mk hrng
      have HCL := Aside0.mk hcl
      have HCS := Aside0.mk hcs
      have H64 := Aside0.mk h64
      have b0 := eq_true (show (0 : Int) ≤ (j : Int) by omega)
      have b1 := eq_true (show (j : Int) < (L.length : Int) by omega)
      clear htk hrng hcl hcs h64
      have hz := zero_write
      have HOLD := Aside0.mk (z65_size.trans (by rw [List.size_toArray, HCL.out]) : z65.size = cs.toArray.size)
      have hnew := HoldsRow.new wr 70 z65
      have HNEW := Aside0.mk hnew
      have hrow := hnew.row cs.toArray
      obtain ⟨W, hW⟩ : ∃ W : World, W = (wr.alloc (.cells z65 70)).setRow wr.heap.size cs.toArray := ⟨_, rfl⟩
      rw [← hW] at hrow
      have HWW := Aside0.mk hW
      have hbelow : Below wr.heap.size wr W := by rw [hW]; exact Go.Proofs.Ytkmgbmnjabmhaaa.Arr.below_setRow (b := wr.heap.size) (below_alloc (Below.refl _ _) _) _ (Nat.le_refl _)
      have HBEL := Aside0.mk hbelow
      obtain ⟨b11, hb11⟩ : ∃ b, b = wr.heap.size := ⟨_, rfl⟩
      have HB11 := Aside0.mk hb11
      rw [← hb11] at hrow
      have K1 : W.cell? ⟨b11, 0, none⟩ = some (.int .i64 (ai : Nat)) := hrow.cell (by rw [HCS.out]; rfl)
      have K2 : W.rangeAt b11 1 (nums .u8 se) := fun q u hu => hrow.cell (by rw [HCS.out]; rw [Nat.add_comm]; simpa using hu)
      have T6 := Aside0.mk (R6.out.below hbelow R6.out.lt)
      have T8 := Aside0.mk (R8.out.below hbelow R8.out.lt)
      have T9 := Aside0.mk (R9.out.below hbelow R9.out.lt)
      have TL := Aside0.mk (Kd.R_step RL.out (fun k _ hk => hbelow.block k hk))
      have TW := Aside0.mk (And.intro (RW.out.1.trans (hbelow.mono RW.out.1.size)) RW.out.2)
      have K0 : W.cell? ⟨b6, 0, none⟩ = some (.int .i64 (at_ : Nat)) := T6.out.cell (by rw [HP.out]; rfl)
      clear hW hnew hrow hbelow hb11 R6 R8 R9 RL RW
      have HK2 := Aside0.mk K2
      clear K2
      by_cases he : ai = at_
      · subst he
        have hs := curS_snoc s.stays (L.take j) ((ai : Int), se) ai
        rw [if_pos rfl, ← HTK.out] at hs
        have HSN := Aside0.mk hs
        have de : ((ai : Int) == (ai : Int)) = true := by simp
        have hse : se.length = (curS s.stays (L.take j) ai).length := by rw [H64.out]; exact (curS_len HLEN.out (fun p hp => (HL.out p (List.mem_of_mem_take hp)).2.2)).symm
        have HSE := Aside0.mk hse
        obtain ⟨W3, hW3⟩ : ∃ W3 : World, W3 = W.setRow b9 (nums .u8 se).toArray := ⟨_, rfl⟩
        have HW3 := Aside0.mk hW3
        clear hs hse hW3
        go_wp2_with (first | (refine wpList_load_mid rfl 70 (.tmp 24) rfl gl (j * 65) rfl cs _ HRNG.out Try.underlying70 rfl (by rw [HCL.out]; kernel_rfl) ?_) | (refine wpList_store_row rfl 70 (.tmp 11) (.tmp 25) rfl wr.heap.size cs.toArray rfl rfl 70 z65 HNEW.out (by rw [List.size_toArray, HCL.out]; kernel_rfl) HOLD.out (all_oneCell_toArray (by rw [HCS.out]; exact fun u hu => wrK.K_one (w := wr) (x := ((ai : Int), se)) ⟨rfl, H64.out⟩ u hu)) ?_; rw [← HWW.out, ← HB11.out]) | (refine wpList_load_mid rfl 68 (.tmp 31) rfl b11 1 rfl (nums .u8 se) _ HK2.out Try.underlying68 rfl (by rw [nums_len, H64.out]; kernel_rfl) ?_) | (refine wpList_store_row rfl 68 (.tmp 9) (.tmp 32) rfl b9 (nums .u8 se).toArray rfl rfl 68 _ T9.out (by rw [nums_rowK, rowK_size, H64.out]; kernel_rfl) (by rw [nums_rowK, rowK_size, rowK_size, HSE.out]) (rowK_one _ _) ?_; rw [← HW3.out]))
        have hne6 : b6 ≠ b9 := by have := TW.out; omega
        have hne8 : b8 ≠ b9 := by have := TW.out; omega
        have S9 := Aside0.mk (show HoldsRow W3 b9 68 (rowK .u8 (curS s.stays (L.take (j + 1)) ai)) by rw [HW3.out, HSN.out]; exact T9.out.row _)
        have S6 := Aside0.mk (show HoldsRow W3 b6 70 P by rw [HW3.out]; exact T6.out.row_other _ hne6)
        have S8 := Aside0.mk (show HoldsRow W3 b8 68 (rowK .u8 z64) by rw [HW3.out]; exact T8.out.row_other _ hne8)
        have SL := Aside0.mk (wr_move (W1 := W3) TL.out T9.out (by decide) (fun k hk => by rw [HW3.out]; exact setRow_other _ _ _ _ (fun e => hk e)))
        have SW := Aside0.mk (show Below w.heap.size w W3 ∧ b8 < b9 ∧ b6 < b8 ∧ b6 = w.heap.size from ⟨by rw [HW3.out]; exact Go.Proofs.Ytkmgbmnjabmhaaa.Arr.below_setRow TW.out.1 _ (by have := TW.out; omega), TW.out.2⟩)
        go_roundw
        case rel => exact ⟨j + 1, by omega, by go_num, S9, S6, S8, SL, SW⟩
        case measure => simp [intOf]; omega
      · have hs := curS_snoc s.stays (L.take j) ((ai : Int), se) at_
        rw [if_neg (show ¬ ((ai : Int) = (at_ : Int)) by omega), ← HTK.out] at hs
        have HSN := Aside0.mk hs
        have de : ((ai : Int) == (at_ : Int)) = false := by simp [show ¬ (ai : Int) = (at_ : Int) by omega]
        clear hs
        rw [← HSN.out] at T9
        go_wp2_with (first | (refine wpList_load_mid rfl 70 (.tmp 24) rfl gl (j * 65) rfl cs _ HRNG.out Try.underlying70 rfl (by rw [HCL.out]; kernel_rfl) ?_) | (refine wpList_store_row rfl 70 (.tmp 11) (.tmp 25) rfl wr.heap.size cs.toArray rfl rfl 70 z65 HNEW.out (by rw [List.size_toArray, HCL.out]; kernel_rfl) HOLD.out (all_oneCell_toArray (by rw [HCS.out]; exact fun u hu => wrK.K_one (w := wr) (x := ((ai : Int), se)) ⟨rfl, H64.out⟩ u hu)) ?_; rw [← HWW.out, ← HB11.out]))
        go_roundw
        case rel => exact ⟨j + 1, by omega, by go_num, T9, T6, T8, TL, TW⟩
        case measure => simp [intOf]; omega
    · obtain rfl : j = L.length := by omega
      have d1 : decide ((L.length : Int) < (L.length : Int)) = false := decide_eq_false (by omega)
      have d2 : decide (L.length < L.length) = false := decide_eq_false (by omega)
      have hcl : (curS s.stays L at_).length = 64 := curS_len HLEN.out (fun p hp => (HL.out p hp).2.2)
      rw [List.take_length] at R9
      have HCL := Aside0.mk hcl
      have K2 : wr.rangeAt b6 1 (nums .u8 sec) := fun q u hu => R6.out.cell (by rw [HP.out]; unfold wcells; rw [Nat.add_comm]; simpa using hu)
      have HK2 := Aside0.mk K2
      have y0 := eq_true (show (0 : Int) ≤ (n : Int) by omega)
      have y1 := eq_true (show (n : Int) ≤ 64 by omega)
      have y2 := eq_true (show n ≤ 64 by omega)
      clear hcl K2 hHeld
      go_wp2_with fail
      refine start_ (n := 6) (S := fun w' => True) (ds := [5]) #[false, false, false, false, false, false] (by kernel_rfl) rfl rfl trivial (fun hHeld => ?_)
      refine pure_ (i := 0) (N := some 34) (v := ?_) (a' := ?_) #[true, false, false, false, false, false] rfl rfl (by kernel_rfl) (fun _ _ _ h => h) (Or.inl ⟨by rfl, ?_⟩) ?_ ?_
      rotate_left
      · intro w'
        go_simp
        with_reducible rfl
      rotate_left
      · simp only [Act.put, List.setIfInBounds_toArray, List.set_cons_zero, List.set_cons_succ, i64_w, i32_w]
        rfl
      refine pure_ (i := 1) (N := some 35) (v := ?_) (a' := ?_) #[true, true, false, false, false, false] rfl rfl (by kernel_rfl) (fun _ _ _ h => h) (Or.inl ⟨by rfl, ?_⟩) ?_ ?_
      rotate_left
      · intro w'
        go_simp
        with_reducible rfl
      rotate_left
      · simp only [Act.put, List.setIfInBounds_toArray, List.set_cons_zero, List.set_cons_succ, i64_w, i32_w]
        rfl
      refine pure_ (i := 2) (N := some 36) (v := ?_) (a' := ?_) #[true, true, true, false, false, false] rfl rfl (by kernel_rfl) (fun _ _ _ h => h) (Or.inl ⟨by rfl, ?_⟩) ?_ ?_
      rotate_left
      · intro w'
        go_simp
        with_reducible rfl
      rotate_left
      · simp only [Act.put, List.setIfInBounds_toArray, List.set_cons_zero, List.set_cons_succ, i64_w, i32_w]
        rfl
      refine pure_ (i := 3) (N := some 37) (v := ?_) (a' := ?_) #[true, true, true, true, false, false] rfl rfl (by kernel_rfl) (fun _ _ _ h => h) (Or.inl ⟨by rfl, ?_⟩) ?_ ?_
      rotate_left
      · intro w'
        go_simp
        with_reducible rfl
      rotate_left
      · simp only [Act.put, List.setIfInBounds_toArray, List.set_cons_zero, List.set_cons_succ, i64_w, i32_w]
        rfl
      refine pure_ (i := 4) (N := some 38) (v := ?_) (a' := ?_) #[true, true, true, true, true, false] rfl rfl (by kernel_rfl) (fun _ _ _ h => h) (Or.inl ⟨by rfl, ?_⟩) ?_ ?_
      rotate_left
      · intro w'
        go_simp
        with_reducible rfl
      rotate_left
      · simp only [Act.put, List.setIfInBounds_toArray, List.set_cons_zero, List.set_cons_succ, i64_w, i32_w]
        rfl
      refine last_ (i := 5) (N := some 39) #[true, true, true, true, true, true] rfl rfl (by kernel_rfl) (by decide) (fun K hK => ?_)
      refine step_copy_splice rfl (.tmp 35) (.tmp 38) 26 26 rfl 5 Try.underlying26 (by kernel_rfl) (some ⟨b9, 0, none⟩) (some ⟨b6, 1, none⟩) n 64 n 64 (by rfl) (by rfl) b9 0 (nums .u8 (curS s.stays L at_)) 68 R9.out (nums .u8 (sec.take n)) ?c1 ?c2 ?c3 ?c4 b9 wr.drew (Below.refl _ _) (Nat.le_refl _) ?_
      case c1 => rw [nums_length, List.length_take, HS.out]; exact (Nat.min_eq_left hn).trans (Nat.min_self n).symm
      case c2 => exact fun _ => ⟨rfl, ⟨b6, 1, none⟩, rfl, fun j v hv => range_take HK2.out hv⟩
      case c3 => rw [nums_length, nums_length, List.length_take, HS.out, HCL.out]; omega
      case c4 => exact fun v hv => nums_one _ _ v hv
      intro w4 hg4 hb4
      refine hK.out _ _ ?_
      clear hK K
      refine norm_ (a' := ?_) ?_ ?_
      rotate_left
      · show Act.put _ (some 39) _ = _
        simp only [Act.put, List.setIfInBounds_toArray, List.set_cons_zero, List.set_cons_succ, i64_w, i32_w]
        rfl
      refine done_ (by kernel_rfl) ?_
      
      have q9 : HoldsRow w4 b9 68 (rowK .u8 (tornS s.stays L at_ sec n)) := by
        have := hg4.out
        rw [splice_head (by rw [List.length_take, HS.out]; omega)] at this
        exact this
      have hb8 : b8 < b9 := RW.out.2.1
      have q8 : HoldsRow w4 b8 68 (rowK .u8 z64) := (hb4.block b8 hb8).trans R8.out
      have hbw : Below w.heap.size w w4 := (below_drew RW.out.1).trans (hb4.mono (by have := RW.out; omega))
      have htl : (tornS s.stays L at_ sec n).length = 64 := by unfold tornS; rw [List.length_append, List.length_take, List.length_drop, HS.out, HCL.out]; omega
      have h8w : w.heap.size ≤ b8 := by have := RW.out; omega
      obtain ⟨X, hX⟩ : ∃ X, X = tornS s.stays L at_ sec n := ⟨_, rfl⟩
      rw [← hX] at q9 htl
      have HX := Aside0.mk hX
      clear hX
      clear hg4 hb4 R9 R6 R8 RL RW HK2 hHeld y0 y1 y2
      go_wp2_with (first | (refine wpList_load_row rfl 68 (.tmp 9) rfl b9 rfl 68 (rowK .u8 X) (0, 0) _ q9 Try.underlying68 rfl (by rw [rowK_size, htl]; kernel_rfl) ?_) | (refine wpList_store_row rfl 68 (.tmp 8) (.tmp 40) rfl b8 (rowK .u8 X) rfl rfl 68 (rowK .u8 z64) q8 (by rw [rowK_size, htl]; kernel_rfl) (by rw [rowK_size, rowK_size, htl, z64_len]) (rowK_one _ _) ?_))
      exact bodyPost_ret (results_cell_row (p := 8) (ty := 68) rfl _ _ b8 68 (rowK .u8 X) (0, 0) _ rfl (q8.row _) Try.underlying68 rfl (by rw [rowK_size, htl]; kernel_rfl)) rfl ⟨by rw [HX.out], Go.Proofs.Ytkmgbmnjabmhaaa.Arr.below_setRow hbw _ h8w⟩
end Go.Proofs.Ytkmgbmnjabmhaaa.Ext
