import Derived.Test.YthnjkmjcacoajaaKJournalKeeps26
import Derived.Laws.CopyOwn
import Derived.IntWalk
section
/- torn of a disk, walked. Condition: the writes are of its sectors. -/
namespace Go.Proofs.Ythnjkmjcacoajaa.Dk
open Go Go.RowKit Go.Proofs.YthnjkmjcacoajaaW.PrintWords Go.Proofs.YthnjkmjcacoajaaW.PrintLast Go.Proofs.YthnjkmjcacoajaaW.PrintMore Go.Proofs.Ythnjkmjcacoajaa.Base Go.Proofs.Ythnjkmjcacoajaa.Arr
set_option linter.unusedVariables false
set_option linter.unusedSimpArgs false

/-- the sector as it would be, if all that was kept were laid -/
def curS (f : List Int) (l : List (Int × List Int)) (at_ : Nat) : List Int := (lastW l at_).getD (secOf f at_)
theorem curS_snoc (f : List Int) (l : List (Int × List Int)) (p : Int × List Int) (at_ : Nat) : curS f (l ++ [p]) at_ = if p.1 = at_ then p.2 else curS f l at_ := by
  unfold curS
  rw [lastW_snoc]
  split <;> rfl
theorem curS_len {f : List Int} {l : List (Int × List Int)} {at_ : Nat} (h0 : (secOf f at_).length = 64) (hl : ∀ p ∈ l, p.2.length = 64) : (curS f l at_).length = 64 := by
  unfold curS lastW
  have : ∀ (l : List (Int × List Int)) (a : Option (List Int)), (∀ p ∈ l, p.2.length = 64) → (a.getD (secOf f at_)).length = 64 → ((l.foldl (fun a p => if p.1 = (at_ : Int) then some p.2 else a) a).getD (secOf f at_)).length = 64 := by
    intro l
    induction l with
    | nil => intro a _ h; exact h
    | cons p l ih =>
      intro a hl h
      refine ih _ (fun q hq => hl q (by simp [hq])) ?_
      show ((if p.1 = (at_ : Int) then some p.2 else a).getD (secOf f at_)).length = 64
      split
      · exact hl p (by simp)
      · exact h
  exact this l none hl h0
def tornS (f : List Int) (l : List (Int × List Int)) (at_ : Nat) (sec : List Int) (n : Nat) : List Int := sec.take n ++ (curS f l at_).drop n
theorem set_all {W : World} {b : Nat} {t : TypeId} {k : IntKind} {f l : List Int} (h : HoldsRow W b t (rowK k f)) (hl : l.length = f.length) : HoldsRow (W.setCells b 0 (rowK k l).toList) b t (rowK k l) := by
  obtain ⟨cur, h1, h2, h3⟩ := setCells_row (nums k l) 0 W (rowK k f) h (by rw [nums_length, rowK_size]; omega)
  have : cur = rowK k l := by
    apply Array.toList_inj.1
    rw [h3, nums_length]
    simp [rowK, nums, hl]
  rw [← this]
  have e : (cur : Array Value).toList = nums k l := by rw [this]; rfl
  rw [e]
  exact h1
theorem range_take {W : World} {b q n : Nat} {l : List Int} (h : W.rangeAt b q (nums .u8 l)) {j : Nat} {v : Value} (hv : (nums .u8 (l.take n))[j]? = some v) : W.cell? ((⟨b, q, none⟩ : Addr).add j) = some v := by
  have : (nums .u8 l)[j]? = some v := by
    unfold nums at hv ⊢
    rw [List.getElem?_map] at hv ⊢
    obtain ⟨x, hx, rfl⟩ := Option.map_eq_some_iff.1 hv
    rw [List.getElem?_take] at hx
    split at hx
    · rw [hx]; rfl
    · cases hx
  have := h j v this
  unfold Addr.add
  split
  · rename_i h0; subst h0; exact this
  · exact this
theorem nums_one (k : IntKind) (l : List Int) : ∀ v ∈ nums k l, v.oneCell' = true := fun v hv => by
  unfold nums at hv
  obtain ⟨y, _, rfl⟩ := List.mem_map.1 hv
  rfl
theorem splice_head {l cur : List Int} {n : Nat} (hl : (l.take n).length = n) : (splice (nums .u8 cur) 0 (nums .u8 (l.take n))).toArray = rowK .u8 (l.take n ++ cur.drop n) := by
  simp only [splice, nums_length, hl, Nat.zero_add, List.take_zero, List.nil_append]
  simp [rowK, nums]
/-- an element of a row of writes -/
theorem wr_elem {W : World} {base : Nat} {okl : Nat → Prop} {A : Option Addr} {c n : Nat} {L : List (Int × List Int)} (h : Kd.R wrK 84 W base okl (.slice A L.length c) L) (hL : Fits n L) (j : Nat) (hj : j < L.length) :
    ∃ (gl : Nat) (cs : List Value) (ai : Nat) (sec : List Int), A = some ⟨gl, 0, none⟩ ∧ L[j]? = some ((ai : Int), sec) ∧ L.take (j + 1) = L.take j ++ [((ai : Int), sec)] ∧ cs = Value.int .i64 (ai : Nat) :: nums .u8 sec ∧ cs.length = 65 ∧ W.rangeAt gl (j * 65) cs ∧ ai < n ∧ sec.length = 64 := by
  obtain ⟨gl, cap, e, -, -, -⟩ := Kd.R_form h (by omega)
  injection e with e1 _ e3
  subst e1
  obtain ⟨cs, -, ⟨hcs, h64⟩, hcell, -⟩ := Kd.R_elem h ((0, []) : Int × List Int) (j : Int) (by omega) (by omega)
  rw [Int.toNat_natCast] at hcs h64 hcell
  have hg : L.getD j (0, []) = L[j] := by rw [List.getD_eq_getElem?_getD, List.getElem?_eq_getElem hj]; rfl
  have hp := hL L[j] (List.getElem_mem _)
  rw [hg] at hcs h64
  obtain ⟨ai, hai⟩ := Int.eq_ofNat_of_zero_le hp.1
  have ep : L[j] = ((ai : Int), L[j].2) := by rw [← hai]
  refine ⟨gl, cs, ai, L[j].2, rfl, by rw [List.getElem?_eq_getElem hj, ← ep], by rw [List.take_succ_eq_append_getElem hj, ← ep], by rw [hcs, hai], ?_, fun q u hu => by have := hcell q u hu; exact this, by have := hp.2.1; omega, h64⟩
  rw [hcs]
  simp [nums, h64]
set_option maxHeartbeats 4000000 in
set_option maxRecDepth 100000 in
theorem torn_calls (w : World) (base : Nat) (ok okl : Nat → Prop) (g : Nat) (s : DS) (h : DiskIs w base ok g s) (vl : Value) (L : List (Int × List Int)) (hl : Kd.R wrK 84 w base okl vl L) (hL : Fits s.n L) (at_ : Nat) (sec : List Int) (hat : at_ < s.n) (hsec : sec.length = 64) (n : Nat) (hn : n ≤ 64) (P : Array Value) (hP : P = wcells ((at_ : Int), sec)) :
    Calls Try.prog 51 #[.pointer (some ⟨g, 0, none⟩), vl, .agg P, .int .i64 n] w fun e w' => e = .returned (.agg (rowK .u8 (tornS s.stays L at_ sec n))) ∧ Below w.heap.size w w' := by
  obtain ⟨gs, m, vw, pp, h1, h2, h3, h4, h5, ⟨o1, o2, o3⟩, ⟨b1, b2, b3⟩, hG⟩ := h
  obtain ⟨A, c, rfl⟩ := Kd.R_slice hl
  have hmx : L.length ≤ 9223372036854775807 := Kd.C_max (Kd.R_reads' hl).2.2
  have HG := Aside0.mk hG
  have HL := Aside0.mk hL
  have H1 := Aside0.mk h1
  have H2 := Aside0.mk h2
  have H6 := Aside0.mk hl
  have HS := Aside0.mk hsec
  clear h1 h2 h3 h4 h5 hl hG o1 o2 o3 b1 b2 b3 hL hsec
  have HP := Aside0.mk hP
  clear hP
  have hz := zero_sector
  go_enter Try.func51, Try.ntmps51
  go_wp2_with fail
  obtain ⟨W0, hW0⟩ : ∃ W0 : World, W0 = (w.alloc (.cells P 84)).alloc (.cells (rowK .u8 (z64)) 82) := ⟨_, rfl⟩
  rw [← hW0]
  obtain ⟨b6, hb6⟩ : ∃ b, b = w.heap.size := ⟨_, rfl⟩
  obtain ⟨b8, hb8⟩ : ∃ b, b = w.heap.size + 1 := ⟨_, rfl⟩
  rw [← hb8, ← hb6]
  have A6 := Aside0.mk (show HoldsRow W0 b6 84 P by rw [hW0, hb6]; exact (HoldsRow.new w _ _).alloc _)
  have A8 := Aside0.mk (show HoldsRow W0 b8 82 (rowK .u8 (z64)) by rw [hW0, hb8]; have := HoldsRow.new (w.alloc (.cells P 84)) 82 (rowK .u8 (z64)); rw [World.size_alloc] at this; exact this)
  have AB := Aside0.mk (show Below w.heap.size w W0 by rw [hW0]; exact below_alloc (below_alloc (Below.refl _ _) _) _)
  have ASZ := Aside0.mk (show W0.heap.size = b8 + 1 by rw [hW0, hb8]; simp)
  have AE := Aside0.mk (And.intro hb6 hb8)
  clear hW0 hb6 hb8
  have B1 := Aside0.mk (H1.out.below AB.out H1.out.lt)
  have B2 := Aside0.mk (H2.out.below AB.out H2.out.lt)
  have B6 := Aside0.mk (Kd.R_step H6.out (fun k _ hk => AB.out.block k hk))
  clear H1 H2 H6
  have K0 : W0.cell? ⟨g, 0, none⟩ = some (.slice (some ⟨gs, 0, none⟩) s.n s.n) := B1.out.cell rfl
  have K1 : W0.cell? ⟨b6, 0, none⟩ = some (.int .i64 (at_ : Nat)) := A6.out.cell (by rw [HP.out]; rfl)
  have K2 : W0.rangeAt gs (at_ * 64) (nums .u8 (secOf s.stays at_)) := range_row B2.out _ _
  have HLEN := Aside0.mk (show (secOf s.stays at_).length = 64 from secOf_len HG.out.2.2.1 hat)
  have hu := Try.underlying82
  have x0 := eq_true hat
  obtain ⟨W1, hW1⟩ : ∃ W1 : World, W1 = W0.drew.alloc (.cells (rowK .u8 (z64)) 82) := ⟨_, rfl⟩
  have N1 := Aside0.mk (show HoldsRow W1 W0.heap.size 82 (rowK .u8 (z64)) by rw [hW1]; exact HoldsRow.new W0.drew _ _)
  have HTHERE := Aside0.mk (there_row N1.out 0 (rowK .u8 (secOf s.stays at_)).size (by rw [rowK_size, rowK_size, HLEN.out, z64_len]; simp))
  have HW1 := Aside0.mk hW1
  clear hW1 hu
  refine start_ (n := 10) (S := fun w' => w'.cell? ⟨g, 0, none⟩ = some (.slice (some ⟨gs, 0, none⟩) s.n s.n) ∧ w'.cell? ⟨b6, 0, none⟩ = some (.int .i64 (at_ : Nat)) ∧ w'.rangeAt gs (at_ * 64) (nums .u8 (secOf s.stays at_))) (ds := [9]) #[false, false, false, false, false, false, false, false, false, false] (by kernel_rfl) rfl rfl ⟨K0, K1, K2⟩ (fun hHeld => ?_)
  refine pure_ (i := 0) (N := some 12) (v := ?_) (a' := ?_) #[true, false, false, false, false, false, false, false, false, false] rfl rfl (by kernel_rfl) (fun _ _ _ h => h) (Or.inl ⟨by rfl, ?_⟩) ?_ ?_
  rotate_left
  · intro w'
    go_simp
    with_reducible rfl
  rotate_left
  · simp only [Act.put, List.setIfInBounds_toArray, List.set_cons_zero, List.set_cons_succ, i64_w, i32_w]
    rfl
  refine pure_ (i := 1) (N := some 13) (v := ?_) (a' := ?_) #[true, true, false, false, false, false, false, false, false, false] rfl rfl (by kernel_rfl) (fun _ _ _ h => h) (Or.inl ⟨by rfl, ?_⟩) ?_ ?_
  rotate_left
  · intro w'
    go_simp
    with_reducible rfl
  rotate_left
  · simp only [Act.put, List.setIfInBounds_toArray, List.set_cons_zero, List.set_cons_succ, i64_w, i32_w]
    rfl
  refine pure_ (i := 2) (N := some 14) (v := ?_) (a' := ?_) #[true, true, true, false, false, false, false, false, false, false] rfl rfl (by kernel_rfl) (fun _ _ _ h => h) (Or.inl ⟨by rfl, ?_⟩) ?_ ?_
  rotate_left
  · intro w'
    go_simp
    with_reducible rfl
  rotate_left
  · simp only [Act.put, List.setIfInBounds_toArray, List.set_cons_zero, List.set_cons_succ, i64_w, i32_w]
    rfl
  refine pure_ (i := 4) (N := some 16) (v := ?_) (a' := ?_) #[true, true, true, false, true, false, false, false, false, false] rfl rfl (by kernel_rfl) (fun _ _ _ h => h) (Or.inl ⟨by rfl, ?_⟩) ?_ ?_
  rotate_left
  · intro w'
    go_simp
    with_reducible rfl
  rotate_left
  · simp only [Act.put, List.setIfInBounds_toArray, List.set_cons_zero, List.set_cons_succ, i64_w, i32_w]
    rfl
  refine take_ (i := 3) (N := some 15) (v := ?_) (a' := ?_) #[true, true, true, true, true, false, false, false, false, false] rfl rfl (by kernel_rfl) (fun _ _ _ h => h) (Or.inl ⟨by rfl, ?_⟩) hHeld ?_ ?_
  rotate_left
  · rintro w' ⟨s0, s1, s2⟩
    go_simp
    with_reducible rfl
  rotate_left
  · simp only [Act.put, List.setIfInBounds_toArray, List.set_cons_zero, List.set_cons_succ, i64_w, i32_w]
    rfl
  refine take_ (i := 5) (N := some 17) (v := ?_) (a' := ?_) #[true, true, true, true, true, true, false, false, false, false] rfl rfl (by kernel_rfl) (fun _ _ _ h => h) (Or.inl ⟨by rfl, ?_⟩) hHeld ?_ ?_
  rotate_left
  · rintro w' ⟨s0, s1, s2⟩
    go_simp
    with_reducible rfl
  rotate_left
  · simp only [Act.put, List.setIfInBounds_toArray, List.set_cons_zero, List.set_cons_succ, i64_w, i32_w]
    rfl
  refine pure_ (i := 6) (N := some 18) (v := ?_) (a' := ?_) #[true, true, true, true, true, true, true, false, false, false] rfl rfl (by kernel_rfl) (fun _ _ _ h => h) (Or.inl ⟨by rfl, ?_⟩) ?_ ?_
  rotate_left
  · intro w'
    go_simp
    with_reducible rfl
  rotate_left
  · simp only [Act.put, List.setIfInBounds_toArray, List.set_cons_zero, List.set_cons_succ, i64_w, i32_w]
    rfl
  refine take_ (i := 7) (N := some 19) (v := ?_) (a' := ?_) #[true, true, true, true, true, true, true, true, false, false] rfl rfl (by kernel_rfl) (fun _ _ _ h => h) (Or.inl ⟨by rfl, ?_⟩) hHeld ?_ ?_
  rotate_left
  · rintro w' ⟨s0, s1, s2⟩
    refine exec_load_mid 82 (.tmp 18) ?_ gs (at_ * 64) ?_ (nums .u8 (secOf s.stays at_)) _ s2 Try.underlying82 rfl (by rw [nums_len, HLEN.out]; kernel_rfl)
    · rfl
    · rfl
  rotate_left
  · simp only [Act.put, List.setIfInBounds_toArray, List.set_cons_zero, List.set_cons_succ, i64_w, i32_w]
    rfl
  refine one_ (i := 8) (N := some 9) #[true, true, true, true, true, true, true, true, true, false] rfl rfl (by kernel_rfl) (by decide) (fun K hK => ?_)
  refine value_ (w1 := W1) (v := .pointer (some ⟨W0.heap.size, 0, none⟩)) (by rfl) rfl ?_ ?_
  · rw [HW1.out]
    refine exec_alloc 82 ?_ _ zero_sector
    rfl
  refine hK.out _ _ ⟨(by rw [HW1.out]; exact cell_alloc_old _ K0), (by rw [HW1.out]; exact cell_alloc_old _ K1), (by rw [HW1.out]; exact World.rangeAt_alloc K2 _)⟩ (fun hHeld => ?_)
  clear hK K
  refine norm_ (a' := ?_) ?_ ?_
  rotate_left
  · show Act.put _ (some 9) _ = _
    simp only [Act.put, List.setIfInBounds_toArray, List.set_cons_zero, List.set_cons_succ, i64_w, i32_w]
    rfl
  refine last_ (i := 9) (N := none) #[true, true, true, true, true, true, true, true, true, true] rfl rfl (by kernel_rfl) (by decide) (fun K hK => ?_)
  refine skip_ (w1 := W1.setCells W0.heap.size 0 (rowK .u8 (secOf s.stays at_)).toList) (by rfl) rfl ?_ ?_
  · refine exec_store_mid 82 (.tmp 9) (.tmp 19) ?_ W0.heap.size 0 (rowK .u8 (secOf s.stays at_)) ?_ ?_ HTHERE.out (by rw [rowK_size, HLEN.out]; kernel_rfl) (rowK_one _ _)
    · rfl
    · rfl
    · rfl
  refine hK.out _ _ ?_
  clear hK K
  refine done_ (by kernel_rfl) ?_
  
  obtain ⟨b9, hb9⟩ : ∃ b, b = W0.heap.size := ⟨_, rfl⟩
  obtain ⟨W2, hW2⟩ : ∃ W2 : World, W2 = W1.setCells b9 0 (rowK .u8 (secOf s.stays at_)).toList := ⟨_, rfl⟩
  have N2 := Aside0.mk (show HoldsRow W2 b9 82 (rowK .u8 (curS s.stays (L.take 0) at_)) by rw [hW2]; rw [← hb9] at N1; exact set_all N1.out (by rw [HLEN.out, z64_len]))
  have hbel : Below W0.heap.size W0 W2 := by rw [hW2, HW1.out]; exact sets_below (below_alloc (below_drew (Below.refl _ W0)) _) (by omega) _
  have R2 := Aside0.mk (And.intro (AB.out.trans (hbel.mono AB.out.size)) (show b8 < b9 ∧ b6 < b8 ∧ b6 = w.heap.size by have := ASZ.out; have := AE.out; omega))
  have R6 := Aside0.mk (Kd.R_step B6.out (fun k _ hk => hbel.block k hk))
  have RA := Aside0.mk (A6.out.below hbel A6.out.lt)
  have RB := Aside0.mk (A8.out.below hbel A8.out.lt)
  rw [← hb9, ← hW2]
  clear hW2 hb9 hbel HW1 HTHERE N1 K0 K1 K2 hHeld B1 B2 B6 A6 A8 AB ASZ AE x0 hz
  go_wp2_with fail
  go_loopw [22] (fun i wr => ∃ j : Nat, j ≤ L.length ∧ i = .int .i64 (j : Nat) ∧ Aside0 (HoldsRow wr b9 82 (rowK .u8 (curS s.stays (L.take j) at_))) ∧ Aside0 (HoldsRow wr b6 84 P) ∧ Aside0 (HoldsRow wr b8 82 (rowK .u8 z64)) ∧ Aside0 (Kd.R wrK 84 wr base okl (.slice A L.length c) L) ∧ Aside0 (Below w.heap.size w wr ∧ b8 < b9 ∧ b6 < b8 ∧ b6 = w.heap.size)) (fun i _ => L.length - (intOf i).toNat)
  case atStart => exact ⟨0, by omega, rfl, N2, RA, RB, R6, R2⟩
  case round =>
    clear N2 RA RB R6 R2
    obtain ⟨j, hj, rfl, R9, R6, R8, RL, RW⟩ := hrel
    by_cases hlt : j < L.length
    · have d1 : decide ((j : Int) < (L.length : Int)) = true := decide_eq_true (by omega)
      have d2 : decide (j < L.length) = true := decide_eq_true hlt
      obtain ⟨gl, cs, ai, se, rfl, -, htk, hcs, hcl, hrng, hai, h64⟩ := wr_elem RL.out HL.out j hlt
      have HTK := Aside0.mk htk
      have HRNG := Aside0.mk hrng
      have HCL := Aside0.mk hcl
      have HCS := Aside0.mk hcs
      have H64 := Aside0.mk h64
      have b0 := eq_true (show (0 : Int) ≤ (j : Int) by omega)
      have b1 := eq_true (show (j : Int) < (L.length : Int) by omega)
      clear htk hrng hcl hcs h64
      have hz := zero_write
      have HOLD := Aside0.mk (z65_size.trans (by rw [List.size_toArray, HCL.out]) : z65.size = cs.toArray.size)
      have hnew := HoldsRow.new wr 84 z65
      have HNEW := Aside0.mk hnew
      have hrow := hnew.row cs.toArray
      obtain ⟨W, hW⟩ : ∃ W : World, W = (wr.alloc (.cells z65 84)).setRow wr.heap.size cs.toArray := ⟨_, rfl⟩
      rw [← hW] at hrow
      have HWW := Aside0.mk hW
      have hbelow : Below wr.heap.size wr W := by rw [hW]; exact Go.Proofs.Ythnjkmjcacoajaa.Arr.below_setRow (b := wr.heap.size) (below_alloc (Below.refl _ _) _) _ (Nat.le_refl _)
      have HBEL := Aside0.mk hbelow
      obtain ⟨b11, hb11⟩ : ∃ b, b = wr.heap.size := ⟨_, rfl⟩
      have HB11 := Aside0.mk hb11
      rw [← hb11] at hrow
      have K1 : W.cell? ⟨b11, 0, none⟩ = some (.int .i64 (ai : Nat)) := hrow.cell (by rw [HCS.out]; rfl)
      have K2 : W.rangeAt b11 1 (nums .u8 se) := fun q u hu => hrow.cell (by rw [HCS.out]; rw [Nat.add_comm]; simpa using hu)
      have T6 := Aside0.mk (R6.out.below hbelow R6.out.lt)
      have T8 := Aside0.mk (R8.out.below hbelow R8.out.lt)
      have T9 := Aside0.mk (R9.out.below hbelow R9.out.lt)
      have TL := Aside0.mk (Kd.R_step RL.out (fun k _ hk => hbelow.block k hk))
      have TW := Aside0.mk (And.intro (RW.out.1.trans (hbelow.mono RW.out.1.size)) RW.out.2)
      have K0 : W.cell? ⟨b6, 0, none⟩ = some (.int .i64 (at_ : Nat)) := T6.out.cell (by rw [HP.out]; rfl)
      clear hW hnew hrow hbelow hb11 R6 R8 R9 RL RW
      have HK2 := Aside0.mk K2
      clear K2
      by_cases he : ai = at_
      · subst he
        have hs := curS_snoc s.stays (L.take j) ((ai : Int), se) ai
        rw [if_pos rfl, ← HTK.out] at hs
        have HSN := Aside0.mk hs
        have de : ((ai : Int) == (ai : Int)) = true := by simp
        have hse : se.length = (curS s.stays (L.take j) ai).length := by rw [H64.out]; exact (curS_len HLEN.out (fun p hp => (HL.out p (List.mem_of_mem_take hp)).2.2)).symm
        have HSE := Aside0.mk hse
        obtain ⟨W3, hW3⟩ : ∃ W3 : World, W3 = W.setRow b9 (nums .u8 se).toArray := ⟨_, rfl⟩
        have HW3 := Aside0.mk hW3
        clear hs hse hW3
        go_wp2_with (first | (refine wpList_load_mid rfl 84 (.tmp 24) rfl gl (j * 65) rfl cs _ HRNG.out Try.underlying84 rfl (by rw [HCL.out]; kernel_rfl) ?_) | (refine wpList_store_row rfl 84 (.tmp 11) (.tmp 25) rfl wr.heap.size cs.toArray rfl rfl 84 z65 HNEW.out (by rw [List.size_toArray, HCL.out]; kernel_rfl) HOLD.out (all_oneCell_toArray (by rw [HCS.out]; exact fun u hu => wrK.K_one (w := wr) (x := ((ai : Int), se)) ⟨rfl, H64.out⟩ u hu)) ?_; rw [← HWW.out, ← HB11.out]) | (refine wpList_load_mid rfl 82 (.tmp 31) rfl b11 1 rfl (nums .u8 se) _ HK2.out Try.underlying82 rfl (by rw [nums_len, H64.out]; kernel_rfl) ?_) | (refine wpList_store_row rfl 82 (.tmp 9) (.tmp 32) rfl b9 (nums .u8 se).toArray rfl rfl 82 _ T9.out (by rw [nums_rowK, rowK_size, H64.out]; kernel_rfl) (by rw [nums_rowK, rowK_size, rowK_size, HSE.out]) (rowK_one _ _) ?_; rw [← HW3.out]))
        have hne6 : b6 ≠ b9 := by have := TW.out; omega
        have hne8 : b8 ≠ b9 := by have := TW.out; omega
        have S9 := Aside0.mk (show HoldsRow W3 b9 82 (rowK .u8 (curS s.stays (L.take (j + 1)) ai)) by rw [HW3.out, HSN.out]; exact T9.out.row _)
        have S6 := Aside0.mk (show HoldsRow W3 b6 84 P by rw [HW3.out]; exact T6.out.row_other _ hne6)
        have S8 := Aside0.mk (show HoldsRow W3 b8 82 (rowK .u8 z64) by rw [HW3.out]; exact T8.out.row_other _ hne8)
        have SL := Aside0.mk (wr_move (W1 := W3) TL.out T9.out (by decide) (fun k hk => by rw [HW3.out]; exact setRow_other _ _ _ _ (fun e => hk e)))
        have SW := Aside0.mk (show Below w.heap.size w W3 ∧ b8 < b9 ∧ b6 < b8 ∧ b6 = w.heap.size from ⟨by rw [HW3.out]; exact Go.Proofs.Ythnjkmjcacoajaa.Arr.below_setRow TW.out.1 _ (by have := TW.out; omega), TW.out.2⟩)
        go_roundw
        case rel => exact ⟨j + 1, by omega, by go_num, S9, S6, S8, SL, SW⟩
        case measure => simp [intOf]; omega
      · have hs := curS_snoc s.stays (L.take j) ((ai : Int), se) at_
        rw [if_neg (show ¬ ((ai : Int) = (at_ : Int)) by omega), ← HTK.out] at hs
        have HSN := Aside0.mk hs
        have de : ((ai : Int) == (at_ : Int)) = false := by simp [show ¬ (ai : Int) = (at_ : Int) by omega]
        clear hs
        rw [← HSN.out] at T9
        go_wp2_with (first | (refine wpList_load_mid rfl 84 (.tmp 24) rfl gl (j * 65) rfl cs _ HRNG.out Try.underlying84 rfl (by rw [HCL.out]; kernel_rfl) ?_) | (refine wpList_store_row rfl 84 (.tmp 11) (.tmp 25) rfl wr.heap.size cs.toArray rfl rfl 84 z65 HNEW.out (by rw [List.size_toArray, HCL.out]; kernel_rfl) HOLD.out (all_oneCell_toArray (by rw [HCS.out]; exact fun u hu => wrK.K_one (w := wr) (x := ((ai : Int), se)) ⟨rfl, H64.out⟩ u hu)) ?_; rw [← HWW.out, ← HB11.out]))
        go_roundw
        case rel => exact ⟨j + 1, by omega, by go_num, T9, T6, T8, TL, TW⟩
        case measure => simp [intOf]; omega
    · obtain rfl : j = L.length := by omega
      have d1 : decide ((L.length : Int) < (L.length : Int)) = false := decide_eq_false (by omega)
      have d2 : decide (L.length < L.length) = false := decide_eq_false (by omega)
      have hcl : (curS s.stays L at_).length = 64 := curS_len HLEN.out (fun p hp => (HL.out p hp).2.2)
      rw [List.take_length] at R9
      have HCL := Aside0.mk hcl
      have K2 : wr.rangeAt b6 1 (nums .u8 sec) := fun q u hu => R6.out.cell (by rw [HP.out]; unfold wcells; rw [Nat.add_comm]; simpa using hu)
      have HK2 := Aside0.mk K2
      have y0 := eq_true (show (0 : Int) ≤ (n : Int) by omega)
      have y1 := eq_true (show (n : Int) ≤ 64 by omega)
      have y2 := eq_true (show n ≤ 64 by omega)
      clear hcl K2 hHeld
      go_wp2_with fail
      refine start_ (n := 6) (S := fun w' => True) (ds := [5]) #[false, false, false, false, false, false] (by kernel_rfl) rfl rfl trivial (fun hHeld => ?_)
      refine pure_ (i := 0) (N := some 34) (v := ?_) (a' := ?_) #[true, false, false, false, false, false] rfl rfl (by kernel_rfl) (fun _ _ _ h => h) (Or.inl ⟨by rfl, ?_⟩) ?_ ?_
      rotate_left
      · intro w'
        go_simp
        with_reducible rfl
      rotate_left
      · simp only [Act.put, List.setIfInBounds_toArray, List.set_cons_zero, List.set_cons_succ, i64_w, i32_w]
        rfl
      refine pure_ (i := 1) (N := some 35) (v := ?_) (a' := ?_) #[true, true, false, false, false, false] rfl rfl (by kernel_rfl) (fun _ _ _ h => h) (Or.inl ⟨by rfl, ?_⟩) ?_ ?_
      rotate_left
      · intro w'
        go_simp
        with_reducible rfl
      rotate_left
      · simp only [Act.put, List.setIfInBounds_toArray, List.set_cons_zero, List.set_cons_succ, i64_w, i32_w]
        rfl
      refine pure_ (i := 2) (N := some 36) (v := ?_) (a' := ?_) #[true, true, true, false, false, false] rfl rfl (by kernel_rfl) (fun _ _ _ h => h) (Or.inl ⟨by rfl, ?_⟩) ?_ ?_
      rotate_left
      · intro w'
        go_simp
        with_reducible rfl
      rotate_left
      · simp only [Act.put, List.setIfInBounds_toArray, List.set_cons_zero, List.set_cons_succ, i64_w, i32_w]
        rfl
      refine pure_ (i := 3) (N := some 37) (v := ?_) (a' := ?_) #[true, true, true, true, false, false] rfl rfl (by kernel_rfl) (fun _ _ _ h => h) (Or.inl ⟨by rfl, ?_⟩) ?_ ?_
      rotate_left
      · intro w'
        go_simp
        with_reducible rfl
      rotate_left
      · simp only [Act.put, List.setIfInBounds_toArray, List.set_cons_zero, List.set_cons_succ, i64_w, i32_w]
        rfl
      refine pure_ (i := 4) (N := some 38) (v := ?_) (a' := ?_) #[true, true, true, true, true, false] rfl rfl (by kernel_rfl) (fun _ _ _ h => h) (Or.inl ⟨by rfl, ?_⟩) ?_ ?_
      rotate_left
      · intro w'
        go_simp
        with_reducible rfl
      rotate_left
      · simp only [Act.put, List.setIfInBounds_toArray, List.set_cons_zero, List.set_cons_succ, i64_w, i32_w]
        rfl
      refine last_ (i := 5) (N := some 39) #[true, true, true, true, true, true] rfl rfl (by kernel_rfl) (by decide) (fun K hK => ?_)
      refine step_copy_splice rfl (.tmp 35) (.tmp 38) 31 31 rfl 5 Try.underlying31 (by kernel_rfl) (some ⟨b9, 0, none⟩) (some ⟨b6, 1, none⟩) n 64 n 64 (by rfl) (by rfl) b9 0 (nums .u8 (curS s.stays L at_)) 82 R9.out (nums .u8 (sec.take n)) ?c1 ?c2 ?c3 ?c4 b9 wr.drew (Below.refl _ _) (Nat.le_refl _) ?_
      case c1 => rw [nums_length, List.length_take, HS.out]; exact (Nat.min_eq_left hn).trans (Nat.min_self n).symm
      case c2 => exact fun _ => ⟨rfl, ⟨b6, 1, none⟩, rfl, fun j v hv => range_take HK2.out hv⟩
      case c3 => rw [nums_length, nums_length, List.length_take, HS.out, HCL.out]; omega
      case c4 => exact fun v hv => nums_one _ _ v hv
      intro w4 hg4 hb4
      refine hK.out _ _ ?_
      clear hK K
      refine norm_ (a' := ?_) ?_ ?_
      rotate_left
      · show Act.put _ (some 39) _ = _
        simp only [Act.put, List.setIfInBounds_toArray, List.set_cons_zero, List.set_cons_succ, i64_w, i32_w]
        rfl
      refine done_ (by kernel_rfl) ?_
      
      have q9 : HoldsRow w4 b9 82 (rowK .u8 (tornS s.stays L at_ sec n)) := by
        have := hg4.out
        rw [splice_head (by rw [List.length_take, HS.out]; omega)] at this
        exact this
      have hb8 : b8 < b9 := RW.out.2.1
      have q8 : HoldsRow w4 b8 82 (rowK .u8 z64) := (hb4.block b8 hb8).trans R8.out
      have hbw : Below w.heap.size w w4 := (below_drew RW.out.1).trans (hb4.mono (by have := RW.out; omega))
      have htl : (tornS s.stays L at_ sec n).length = 64 := by unfold tornS; rw [List.length_append, List.length_take, List.length_drop, HS.out, HCL.out]; omega
      have h8w : w.heap.size ≤ b8 := by have := RW.out; omega
      obtain ⟨X, hX⟩ : ∃ X, X = tornS s.stays L at_ sec n := ⟨_, rfl⟩
      rw [← hX] at q9 htl
      have HX := Aside0.mk hX
      clear hX
      clear hg4 hb4 R9 R6 R8 RL RW HK2 hHeld y0 y1 y2
      go_wp2_with (first | (refine wpList_load_row rfl 82 (.tmp 9) rfl b9 rfl 82 (rowK .u8 X) (0, 0) _ q9 Try.underlying82 rfl (by rw [rowK_size, htl]; kernel_rfl) ?_) | (refine wpList_store_row rfl 82 (.tmp 8) (.tmp 40) rfl b8 (rowK .u8 X) rfl rfl 82 (rowK .u8 z64) q8 (by rw [rowK_size, htl]; kernel_rfl) (by rw [rowK_size, rowK_size, htl, z64_len]) (rowK_one _ _) ?_))
      exact bodyPost_ret (results_cell_row (p := 8) (ty := 82) rfl _ _ b8 82 (rowK .u8 X) (0, 0) _ rfl (q8.row _) Try.underlying82 rfl (by rw [rowK_size, htl]; kernel_rfl)) rfl ⟨by rw [HX.out], Go.Proofs.Ythnjkmjcacoajaa.Arr.below_setRow hbw _ h8w⟩
end Go.Proofs.Ythnjkmjcacoajaa.Dk
end

section
/- gone of a disk, walked. Condition: a million writes wait at most. -/
namespace Go.Proofs.Ythnjkmjcacoajaa.Dk
open Go Go.RowKit Go.Proofs.YthnjkmjcacoajaaW.PrintWords Go.Proofs.YthnjkmjcacoajaaW.PrintLast Go.Proofs.YthnjkmjcacoajaaW.PrintMore Go.Proofs.Ythnjkmjcacoajaa.Base Go.Proofs.Ythnjkmjcacoajaa.Arr
set_option linter.unusedVariables false
set_option linter.unusedSimpArgs false

def cutN (cut : Int) : Nat := (cut % 65).toNat
/-- is the write i not kept -/
def offB (bits : Int) (i : Nat) : Bool := Go.bits .and .u64 (bits / 2 ^ (i % 64)) 1 == 0
def keptTo (s : DS) (bits cut : Int) : Nat → List (Int × List Int)
  | 0 => []
  | i + 1 => match s.waits[i]? with
    | none => keptTo s bits cut i
    | some p => if offB bits i = true then keptTo s bits cut i else keptTo s bits cut i ++ [(p.1, if i + 1 = s.waits.length then tornS s.stays (keptTo s bits cut i) p.1.toNat p.2 (cutN cut) else p.2)]
def goneS (s : DS) (bits cut : Int) : DS := { s with stays := lay s.stays (keptTo s bits cut s.waits.length), waits := [], dead := true, plan := none }
theorem kept_off {s : DS} {bits cut : Int} {i : Nat} {p : Int × List Int} (h : s.waits[i]? = some p) (ho : offB bits i = true) : keptTo s bits cut (i + 1) = keptTo s bits cut i := by
  rw [keptTo, h]
  exact if_pos ho
theorem kept_on {s : DS} {bits cut : Int} {i : Nat} {p : Int × List Int} (h : s.waits[i]? = some p) (ho : offB bits i = false) (hl : i + 1 ≠ s.waits.length) : keptTo s bits cut (i + 1) = keptTo s bits cut i ++ [p] := by
  rw [keptTo, h]
  show (if offB bits i = true then _ else _) = _
  rw [if_neg (by rw [ho]; decide), if_neg hl]
theorem kept_last {s : DS} {bits cut : Int} {i : Nat} {p : Int × List Int} (h : s.waits[i]? = some p) (ho : offB bits i = false) (hl : i + 1 = s.waits.length) : keptTo s bits cut (i + 1) = keptTo s bits cut i ++ [(p.1, tornS s.stays (keptTo s bits cut i) p.1.toNat p.2 (cutN cut))] := by
  rw [keptTo, h]
  show (if offB bits i = true then _ else _) = _
  rw [if_neg (by rw [ho]; decide), if_pos hl]
theorem tornS_len {f : List Int} {l : List (Int × List Int)} {at_ n : Nat} {sec : List Int} (hs : sec.length = 64) (hn : n ≤ 64) (h0 : (secOf f at_).length = 64) (hl : ∀ p ∈ l, p.2.length = 64) : (tornS f l at_ sec n).length = 64 := by
  unfold tornS
  rw [List.length_append, List.length_take, List.length_drop, hs, curS_len h0 hl]
  omega
theorem cutN_walk (cut : Int) : (wrap64 (cut.tmod 65 + 65)).tmod 65 = (cutN cut : Int) := by
  have h := Int.tmod_eq_emod (a := cut) (b := 65)
  have h2 : cut.tmod 65 = cut % 65 ∨ cut.tmod 65 = cut % 65 - 65 := by
    rw [h]
    split
    · left; omega
    · right; rfl
  have h3 : -65 ≤ cut.tmod 65 ∧ cut.tmod 65 ≤ 64 := by omega
  rw [IntWalk.wrap64_in _ (by omega), Int.tmod_eq_emod_of_nonneg (by omega)]
  unfold cutN
  omega
theorem set_sec {W : World} {b : Nat} {t : TypeId} {v : Value} {f l : List Int} (h : HoldsRow W b t (v :: nums .u8 f).toArray) (hl : l.length = f.length) : HoldsRow (W.setCells b 1 (rowK .u8 l).toList) b t (v :: nums .u8 l).toArray := by
  obtain ⟨cur, h1, h2, h3⟩ := setCells_row (nums .u8 l) 1 W (v :: nums .u8 f).toArray h (by rw [nums_length]; simp [nums]; omega)
  have : cur = (v :: nums .u8 l).toArray := by
    apply Array.toList_inj.1
    rw [h3, nums_length]
    simp [nums, hl, Nat.add_comm 1]
  rw [← this]
  exact h1
theorem after_torn {w W w3 w4 : World} {b8 ai : Nat} {se T : List Int} {cs : List Value} {u6 : Value} {K : List (Int × List Int)} (hcs : cs = Value.int .i64 (ai : Nat) :: nums .u8 se) (hse : se.length = 64) (hT : T.length = 64) (TR : HoldsRow W b8 84 cs.toArray) (hb3 : Below W.heap.size W w3)
    (TV : Kd.R wrK 84 W w.heap.size (fun k => k < b8) u6 K) (TB : Below w.heap.size w W) (hb8 : w.heap.size ≤ b8) (hw4 : w4 = w3.setCells b8 1 (rowK .u8 T).toList) :
    w3.there b8 1 (rowK .u8 T).size ∧ HoldsRow w4 b8 84 (Value.int .i64 (ai : Nat) :: nums .u8 T).toArray ∧ Kd.R wrK 84 w4 w.heap.size (fun _ => True) u6 K ∧ Below w.heap.size w w4 := by
  have h3 : HoldsRow w3 b8 84 (Value.int .i64 (ai : Nat) :: nums .u8 se).toArray := by rw [← hcs]; exact TR.below hb3 TR.lt
  refine ⟨there_row h3 1 _ (by rw [rowK_size, hT]; simp [nums, hse]), ?_, ?_, ?_⟩
  · rw [hw4]; exact set_sec h3 (by omega)
  · refine Kd.R_mono (Kd.R_step TV (fun k hk hlt => ?_)) (fun _ _ => trivial)
    rw [hw4, sets_far (show k ≠ b8 by omega)]
    exact hb3.block k hlt
  · rw [hw4]; exact sets_below (TB.trans (hb3.mono TB.size)) hb8 _
theorem DiskTo.then_ {w w1 w2 : World} {base : Nat} {ok : Nat → Prop} {g : Nat} {s s' : DS} (h : DiskTo w w1 base ok g s) (k : ∀ ok1, DiskIs w1 base ok1 g s → DiskTo w1 w2 base ok1 g s') : DiskTo w w2 base ok g s' := by
  obtain ⟨h1, h2, ok1, h3, h4⟩ := h
  exact DiskTo.trans h1 h2 (fun k hk => (h3 k hk).1) (k ok1 h4)
/-- dead, and without a plan -/
theorem to_off {w1 : World} {base : Nat} {ok1 : Nat → Prop} {g : Nat} {s : DS} (dd : Bool) (h : DiskIs w1 base ok1 g s) :
    DiskTo w1 ((w1.setCell ⟨g, 3, none⟩ (.bool dd)).setCell ⟨g, 4, none⟩ (.pointer none)) base ok1 g { s with dead := dd, plan := none } := by
  obtain ⟨gs, m, vw, pp, h1, h2, h3, h4, h5, ⟨o1, o2, o3⟩, ⟨b1, b2, b3⟩, hG⟩ := h
  obtain ⟨r2, r3, r4, r5⟩ := rest_set h1 h2 h3 h4 h5 3 (.bool dd)
  have r1 := h1.set 3 (.bool dd)
  rw [dcells_dead] at r1
  obtain ⟨q2, q3, q4, q5⟩ := rest_set r1 r2 r3 r4 r5 4 (.pointer none)
  have q1 := r1.set 4 (.pointer none)
  rw [dcells_plan] at q1
  have hb1 := (to_set (W := w1) (j := 3) (u := .bool dd) o1 b1)
  have hb2 := (to_set (W := w1.setCell ⟨g, 3, none⟩ (.bool dd)) (j := 4) (u := .pointer none) o1 b1)
  exact DiskTo.trans (hb1.1.trans hb2.1) (hb1.2.then_ hb2.2 (fun k hk => .inl hk)) (fun k hk => .inl hk) (DiskTo.same ⟨gs, m, vw, none, q1, q2, q3, q4, rfl, ⟨o1, o2, o3⟩, ⟨b1, b2, b3⟩, hG⟩)
theorem is_cells {w1 : World} {base : Nat} {ok1 : Nat → Prop} {g : Nat} {s : DS} (h : DiskIs w1 base ok1 g s) : ∃ gs m vw pp, HoldsRow w1 g 62 (dcells gs m s.n vw s.dead pp) := by
  obtain ⟨gs, m, vw, pp, h1, -⟩ := h
  exact ⟨gs, m, vw, pp, h1⟩
theorem cutN_le (cut : Int) : cutN cut ≤ 64 := by unfold cutN; omega
theorem kept_fits {s : DS} (hG : Good s) (bits cut : Int) : ∀ i, Fits s.n (keptTo s bits cut i)
  | 0 => fun p hp => by simp [keptTo] at hp
  | i + 1 => by
    have ih := kept_fits hG bits cut i
    cases h : s.waits[i]? with
    | none => rw [keptTo, h]; exact ih
    | some p =>
      have hp := hG.2.2.2 p (List.mem_of_getElem? h)
      cases ho : offB bits i with
      | true => rw [kept_off h ho]; exact ih
      | false =>
        by_cases hl : i + 1 = s.waits.length
        · rw [kept_last h ho hl]
          intro q hq
          rcases List.mem_append.1 hq with hq | hq
          · exact ih q hq
          · rw [List.mem_singleton.1 hq]
            exact ⟨hp.1, hp.2.1, tornS_len hp.2.2 (cutN_le cut) (secOf_len hG.2.2.1 (by have := hp.2.1; omega)) (fun p hp => (ih p hp).2.2)⟩
        · rw [kept_on h ho hl]
          intro q hq
          rcases List.mem_append.1 hq with hq | hq
          · exact ih q hq
          · rw [List.mem_singleton.1 hq]; exact hp
theorem kept_len (s : DS) (bits cut : Int) : ∀ i, (keptTo s bits cut i).length ≤ i
  | 0 => by simp [keptTo]
  | i + 1 => by
    have ih := kept_len s bits cut i
    rw [keptTo]
    split
    · omega
    · split
      · omega
      · rw [List.length_append]; simp; omega
set_option maxHeartbeats 4000000 in
set_option maxRecDepth 100000 in
theorem gone_calls (w : World) (base : Nat) (ok : Nat → Prop) (g : Nat) (s : DS) (h : DiskIs w base ok g s) (hbw : base ≤ w.heap.size) (hw : s.waits.length ≤ 1000000) (bits cut : Int) :
    Calls Try.prog 33 #[.pointer (some ⟨g, 0, none⟩), .int .u64 bits, .int .i64 cut] w fun e w' => e = .returned (.tuple #[]) ∧ DiskTo w w' base ok g (goneS s bits cut) := by
  have HD := Aside0.mk h
  obtain ⟨gs, m, vw, pp, h1, h2, h3, h4, h5, ⟨o1, o2, o3⟩, ⟨b1, b2, b3⟩, hG⟩ := h
  obtain ⟨A, c, rfl⟩ := Kd.R_slice h4
  have HG := Aside0.mk hG
  have H1 := Aside0.mk h1
  have H4 := Aside0.mk h4
  have HBW := Aside0.mk hbw
  have HW := Aside0.mk hw
  have k2 : w.cell? ⟨g, 2, none⟩ = some (.slice A s.waits.length c) := h1.cell rfl
  clear h1 h2 h3 h4 h5 hG o1 o2 o3 b1 b2 b3 hbw
  go_enter Try.func33, Try.ntmps33
  go_wp2_with fail
  have HRO := Aside0.mk (Kd.R_nil wrK 84 w w.heap.size (fun _ => True))
  go_loopw [6, 14] (fun v i wr => ∃ j : Nat, j ≤ s.waits.length ∧ i = .int .i64 (j : Nat) ∧ Aside0 (Kd.R wrK 84 wr w.heap.size (fun _ => True) v (keptTo s bits cut j)) ∧ Aside0 (Below w.heap.size w wr)) (fun _ i _ => s.waits.length - (intOf i).toNat)
  case atStart => exact ⟨0, by omega, rfl, HRO, ⟨Below.refl _ _⟩⟩
  case round =>
    clear HRO
    obtain ⟨j, hj, rfl, RV, RB⟩ := hrel
    have RD := Aside0.mk (HD.out.below RB.out)
    have RL := Aside0.mk (Kd.R_step H4.out (fun k _ hk => RB.out.block k hk))
    have R1 := Aside0.mk (H1.out.below RB.out H1.out.lt)
    have k2 : wr.cell? ⟨g, 2, none⟩ = some (.slice A s.waits.length c) := R1.out.cell rfl
    by_cases hlt : j < s.waits.length
    · have d1 : decide ((j : Int) < (s.waits.length : Int)) = true := decide_eq_true (by omega)
      have d2 : decide (j < s.waits.length) = true := decide_eq_true hlt
      obtain ⟨gl, cs, ai, se, rfl, hge, htk, hcs, hcl, hrng, hai, h64⟩ := wr_elem RL.out (n := s.n) HG.out.2.2.2 j hlt
      have HGE := Aside0.mk hge
      have HRNG := Aside0.mk hrng
      have HCL := Aside0.mk hcl
      have HCS := Aside0.mk hcs
      have H64 := Aside0.mk h64
      have b0 := eq_true (show (0 : Int) ≤ (j : Int) by omega)
      have b1 := eq_true (show (j : Int) < (s.waits.length : Int) by omega)
      clear htk hrng hcl hcs h64 hge
      have hz := zero_write
      have HOLD := Aside0.mk (z65_size.trans (by rw [List.size_toArray, HCL.out]) : z65.size = cs.toArray.size)
      have hnew := HoldsRow.new wr 84 z65
      have HNEW := Aside0.mk hnew
      have hrow := hnew.row cs.toArray
      obtain ⟨W, hW⟩ : ∃ W : World, W = (wr.alloc (.cells z65 84)).setRow wr.heap.size cs.toArray := ⟨_, rfl⟩
      rw [← hW] at hrow
      have HWW := Aside0.mk hW
      have hbelow : Below wr.heap.size wr W := by rw [hW]; exact Go.Proofs.Ythnjkmjcacoajaa.Arr.below_setRow (b := wr.heap.size) (below_alloc (Below.refl _ _) _) _ (Nat.le_refl _)
      obtain ⟨b8, hb8⟩ : ∃ b, b = wr.heap.size := ⟨_, rfl⟩
      have HB8 := Aside0.mk hb8
      rw [← hb8] at hrow
      have TR := Aside0.mk hrow
      have TD := Aside0.mk (RD.out.below hbelow)
      have T1 := Aside0.mk (R1.out.below hbelow R1.out.lt)
      have TV := Aside0.mk (Kd.R_step RV.out (fun k _ hk => hbelow.block k hk))
      have TV8 := Aside0.mk (show Kd.R wrK 84 W w.heap.size (fun k => k < b8) u6 (keptTo s bits cut j) from Kd.R_step (Kd.R_mono (Kd.R_bound RV.out) (fun k hk => by rw [hb8]; exact hk.2.2.1)) (fun k _ hk => hbelow.block k hk))
      have TB := Aside0.mk (RB.out.trans (hbelow.mono RB.out.size))
      have TBB := Aside0.mk (And.intro (hb8 ▸ RB.out.size) (hb8 ▸ hbelow.size))
      clear hW hnew hrow hbelow hb8 RD RL R1 RV RB
      have k2' : W.cell? ⟨g, 2, none⟩ = some (.slice (some ⟨gl, 0, none⟩) s.waits.length c) := T1.out.cell rfl
      cases ho : offB bits j with
      | true =>
        have e := kept_off (cut := cut) HGE.out ho
        rw [← e] at TV
        have ho' : (Go.bits BinOp.and IntKind.u64 (bits / 2 ^ (j % 64)) 1 == 0) = true := ho
        clear e ho
        go_wp2_with (first | (refine wpList_load_mid rfl 84 (.tmp 17) rfl gl (j * 65) rfl cs _ HRNG.out Try.underlying84 rfl (by rw [HCL.out]; kernel_rfl) ?_) | (refine wpList_store_row rfl 84 (.tmp 8) (.tmp 18) rfl wr.heap.size cs.toArray rfl rfl 84 z65 HNEW.out (by rw [List.size_toArray, HCL.out]; kernel_rfl) HOLD.out (all_oneCell_toArray (by rw [HCS.out]; exact fun u hu => wrK.K_one (w := wr) (x := ((ai : Int), se)) ⟨rfl, H64.out⟩ u hu)) ?_; rw [← HWW.out, ← HB8.out]))
        go_roundw
        case rel => exact ⟨j + 1, by omega, by go_num, TV, TB⟩
        case measure => simp [intOf]; omega
      | false =>
        have ho' : (Go.bits BinOp.and IntKind.u64 (bits / 2 ^ (j % 64)) 1 == 0) = false := ho
        by_cases hl : j + 1 = s.waits.length
        · have dl : ((j : Int) == (s.waits.length : Int) - 1) = true := by simp; omega
          have hcw := cutN_walk cut
          have E6 := Aside0.mk (show cs.toArray = wcells ((ai : Int), se) by rw [HCS.out]; rfl)
          have HL := Aside0.mk hl
          have HE := Aside0.mk (kept_last (cut := cut) HGE.out ho hl)
          clear hl ho
          go_wp2_with (first | (refine wpList_load_mid rfl 84 (.tmp 17) rfl gl (j * 65) rfl cs _ HRNG.out Try.underlying84 rfl (by rw [HCL.out]; kernel_rfl) ?_) | (refine wpList_store_row rfl 84 (.tmp 8) (.tmp 18) rfl wr.heap.size cs.toArray rfl rfl 84 z65 HNEW.out (by rw [List.size_toArray, HCL.out]; kernel_rfl) HOLD.out (all_oneCell_toArray (by rw [HCS.out]; exact fun u hu => wrK.K_one (w := wr) (x := ((ai : Int), se)) ⟨rfl, H64.out⟩ u hu)) ?_; rw [← HWW.out, ← HB8.out]) | (refine wpList_load_row rfl 84 (.tmp 8) rfl b8 rfl 84 cs.toArray (0, 0) _ TR.out Try.underlying84 rfl (by rw [List.size_toArray, HCL.out]; kernel_rfl) ?_) | (go_at_call 51; ((with_reducible refine (torn_calls W base ok (fun k => k < b8) g s TD.out u6 (keptTo s bits cut j) (Kd.R_lower TV8.out (Nat.le_trans HBW.out (Nat.le_refl _))) (kept_fits HG.out bits cut j) ai se hai H64.out (cutN cut) (cutN_le cut) cs.toArray E6.out).mono ?_); rintro e w3 ⟨rfl, hb3⟩); have HB3 := Aside0.mk hb3; clear hb3; obtain ⟨T, hT⟩ : ∃ T, T = tornS s.stays (keptTo s bits cut j) ai se (cutN cut) := ⟨_, rfl⟩; rw [← hT]; obtain ⟨w4, hw4⟩ : ∃ w4, w4 = w3.setCells b8 1 (rowK .u8 T).toList := ⟨_, rfl⟩; have HTL := Aside0.mk (show T.length = 64 by rw [hT]; exact tornS_len H64.out (cutN_le cut) (secOf_len HG.out.2.2.1 hai) (fun p hp => (kept_fits HG.out bits cut j p hp).2.2)); obtain ⟨q1, q2, q3, q4⟩ := after_torn HCS.out H64.out HTL.out TR.out HB3.out TV8.out TB.out TBB.out.1 hw4; have HE2 := Aside0.mk (show keptTo s bits cut (j + 1) = keptTo s bits cut j ++ [((ai : Int), T)] by rw [hT]; exact HE.out); have Q1 := Aside0.mk q1; have Q2 := Aside0.mk q2; have Q3 := Aside0.mk q3; have Q4 := Aside0.mk q4; have HW4 := Aside0.mk hw4; clear q1 q2 q3 q4 hw4 hT) | (refine wpList_store_mid rfl 82 (.tmp 41) (.tmp 40) rfl b8 1 (rowK .u8 T) rfl rfl Q1.out (by rw [rowK_size, HTL.out]; kernel_rfl) (rowK_one _ _) ?_; rw [← HW4.out]) | (refine wpList_load_row rfl 84 (.tmp 8) rfl b8 rfl 84 (Value.int .i64 (ai : Nat) :: nums .u8 T).toArray (0, 0) _ Q2.out Try.underlying84 rfl (by rw [List.size_toArray, List.length_cons, nums_length, HTL.out]; kernel_rfl) ?_) | (refine wpList_one_slice rfl 59 84 (.tmp 43) rfl 65 (Value.int .i64 (ai : Nat) :: nums .u8 T).toArray rfl Try.underlying59 (by kernel_rfl) (by decide) (by decide) (by rw [List.size_toArray, List.length_cons, nums_length, HTL.out]) ?_) | (at_builtin; refine Kd.R_append wrK (w0 := w) (W := w4) w.heap.size rfl (.tmp 42) (.tmp 44) 59 84 (.agg z65) 72 rfl Try.underlying59 (by kernel_rfl) z65_size (by decide) (by decide) u6 (keptTo s bits cut j) ((ai : Int), T) (Value.int .i64 (ai : Nat) :: nums .u8 T) (fun _ => True) (fun _ => False) rfl rfl ⟨rfl, HTL.out⟩ (fun _ hk => hk.elim) (fun _ _ => trivial) Q3.out Q4.out Q4.out.size ?aL ?_; (case aL => have := kept_len s bits cut j; have := HW.out; omega); intro v6 w6 ho hb hg hat; rw [← HE2.out] at ho; have TV6 := Aside0.mk ho; have TB6 := Aside0.mk hb; clear ho hb hg hat))
          go_roundw
          case rel => exact ⟨j + 1, by omega, by go_num, TV6, TB6⟩
          case measure => simp [intOf]; omega
        · have dl : ((j : Int) == (s.waits.length : Int) - 1) = false := by simp; omega
          have HE := Aside0.mk (kept_on (cut := cut) HGE.out ho hl)
          clear hl ho
          go_wp2_with (first | (refine wpList_load_mid rfl 84 (.tmp 17) rfl gl (j * 65) rfl cs _ HRNG.out Try.underlying84 rfl (by rw [HCL.out]; kernel_rfl) ?_) | (refine wpList_store_row rfl 84 (.tmp 8) (.tmp 18) rfl wr.heap.size cs.toArray rfl rfl 84 z65 HNEW.out (by rw [List.size_toArray, HCL.out]; kernel_rfl) HOLD.out (all_oneCell_toArray (by rw [HCS.out]; exact fun u hu => wrK.K_one (w := wr) (x := ((ai : Int), se)) ⟨rfl, H64.out⟩ u hu)) ?_; rw [← HWW.out, ← HB8.out]) | (refine wpList_load_row rfl 84 (.tmp 8) rfl b8 rfl 84 cs.toArray (0, 0) _ TR.out Try.underlying84 rfl (by rw [List.size_toArray, HCL.out]; kernel_rfl) ?_) | (refine wpList_one_slice rfl 59 84 (.tmp 43) rfl 65 cs.toArray rfl Try.underlying59 (by kernel_rfl) (by decide) (by decide) (by rw [List.size_toArray, HCL.out]) ?_) | (at_builtin; refine Kd.R_append wrK (w0 := w) (W := W) w.heap.size rfl (.tmp 42) (.tmp 44) 59 84 (.agg z65) 72 rfl Try.underlying59 (by kernel_rfl) z65_size (by decide) (by decide) u6 (keptTo s bits cut j) ((ai : Int), se) cs (fun _ => True) (fun _ => False) rfl rfl ⟨HCS.out, H64.out⟩ (fun _ hk => hk.elim) (fun _ _ => trivial) TV.out TB.out TB.out.size ?aL ?_; (case aL => have := kept_len s bits cut j; have := HW.out; omega); intro v6 w6 ho hb hg hat; rw [← HE.out] at ho; have TV6 := Aside0.mk ho; have TB6 := Aside0.mk hb; clear ho hb hg hat TV TB))
          go_roundw
          case rel => exact ⟨j + 1, by omega, by go_num, TV6, TB6⟩
          case measure => simp [intOf]; omega
    · obtain rfl : j = s.waits.length := by omega
      have d1 : decide ((s.waits.length : Int) < (s.waits.length : Int)) = false := decide_eq_false (by omega)
      have d2 : decide (s.waits.length < s.waits.length) = false := decide_eq_false (by omega)
      have HLL := Aside0.mk (Kd.R_lower RV.out HBW.out)
      have HLF := Aside0.mk (kept_fits HG.out bits cut s.waits.length)
      have HBR := Aside0.mk (Nat.le_trans HBW.out RB.out.size)
      clear hlt hj k2
      go_wp2_with (go_at_call 40; ((with_reducible refine (settle_calls wr base ok (fun _ => True) g s RD.out HBR.out u6 (keptTo s bits cut s.waits.length) HLL.out HLF.out).mono ?_); rintro e w1 ⟨rfl, hto⟩); have HTO := Aside0.mk hto; clear hto; obtain ⟨gs1, m1, vw1, pp1, r1⟩ := is_cells HTO.out.2.2.choose_spec.2; have c3 := r1.cell (j := 3) (v := .bool s.dead) rfl; have c4 := r1.cell (j := 4) (v := .pointer pp1) rfl; have z3 := r1.free 3; have z4 := r1.free 4; clear r1)
      go_end0
      exact ⟨rfl, DiskTo.trans (RB.out.mono HBW.out) (Kept.of_below RB.out _) (fun k hk => .inl hk) (DiskTo.then_ HTO.out (fun ok1 h => to_off true h))⟩
end Go.Proofs.Ythnjkmjcacoajaa.Dk
end

section
/- doing, Crash, Flush of a disk, walked. Condition: a million writes wait at most. -/
namespace Go.Proofs.Ythnjkmjcacoajaa.Dk
open Go Go.RowKit Go.Proofs.YthnjkmjcacoajaaW.PrintWords Go.Proofs.YthnjkmjcacoajaaW.PrintLast Go.Proofs.YthnjkmjcacoajaaW.PrintMore Go.Proofs.Ythnjkmjcacoajaa.Base Go.Proofs.Ythnjkmjcacoajaa.Arr
set_option linter.unusedVariables false
set_option linter.unusedSimpArgs false

def doingF (s : DS) : Int × DS := match s.plan with
  | none => (0, s)
  | some (l, b, c) => if 0 < l then (0, { s with plan := some (l - 1, b, c) }) else (30, goneS s b c)
set_option maxHeartbeats 4000000 in
set_option maxRecDepth 100000 in
theorem doing_calls (w : World) (base : Nat) (ok : Nat → Prop) (g : Nat) (s : DS) (h : DiskIs w base ok g s) (hbw : base ≤ w.heap.size) (hw : s.waits.length ≤ 1000000) :
    Calls Try.prog 39 #[.pointer (some ⟨g, 0, none⟩)] w fun e w' => e = .returned (.int .i64 (doingF s).1) ∧ DiskTo w w' base ok g (doingF s).2 := by
  have HD := Aside0.mk h
  obtain ⟨gs, m, vw, pp, h1, h2, h3, h4, h5, ⟨o1, o2, o3⟩, ⟨b1, b2, b3⟩, hG⟩ := h
  have k4 := h1.cell (j := 4) (v := .pointer pp) rfl
  have H1 := Aside0.mk h1
  have H2 := Aside0.mk h2
  have H3 := Aside0.mk h3
  have H4 := Aside0.mk h4
  have HO := Aside0.mk (And.intro o1 (And.intro o2 o3))
  have HBS := Aside0.mk (And.intro b1 (And.intro b2 b3))
  have HG := Aside0.mk hG
  clear h1 h2 h3 h4 o1 o2 o3 b1 b2 b3 hG
  cases hp : s.plan with
  | none =>
    have e : doingF s = (0, s) := by unfold doingF; rw [hp]
    rw [hp] at h5
    obtain rfl : pp = none := h5
    have HE := Aside0.mk e
    clear e hp
    go_enter Try.func39, Try.ntmps39
    go_wp2_with fail
    go_ret
    exact ⟨by rw [HE.out] <;> rfl, by rw [HE.out]; exact DiskTo.same HD.out⟩
  | some q =>
    obtain ⟨l, b, c⟩ := q
    have H5 := Aside0.mk h5
    rw [hp] at h5
    obtain ⟨pb, rfl, hr, h6, h7, h8⟩ := h5
    have p0 := hr.cell (j := 0) (v := .int .i64 l) rfl
    have p1 := hr.cell (j := 1) (v := .int .u64 b) rfl
    have p2 := hr.cell (j := 2) (v := .int .i64 c) rfl
    by_cases hl : 0 < l
    · have e : doingF s = (0, { s with plan := some (l - 1, b, c) }) := by unfold doingF; rw [hp]; exact if_pos hl
      have HE := Aside0.mk e
      have d1 : decide (0 < l) = true := decide_eq_true hl
      have z0 := hr.free 0
      have hng : pb ≠ g := ne_kind hr H1.out (by decide)
      have hngs : pb ≠ gs := ne_kind hr H2.out (by decide)
      have hnm : pb ≠ m := ne_map hr H3.out
      have hfar : ∀ k, k ≠ pb → (w.setCell ⟨pb, 0, none⟩ (.int .i64 (l - 1))).heap[k]? = w.heap[k]? := fun k hk => Below.heap_setCell w ⟨pb, 0, none⟩ _ k hk
      have hs := to_set (W := w) (base := base) (ok := ok) (j := 0) (u := .int .i64 (l - 1)) h6 h7
      have HF := Aside0.mk (show DiskTo w (w.setCell ⟨pb, 0, none⟩ (.int .i64 (l - 1))) base ok g { s with plan := some (l - 1, b, c) } from
        DiskTo.trans hs.1 hs.2 (fun k hk => .inl hk) (DiskTo.same ⟨gs, m, vw, some ⟨pb, 0, none⟩, hr_move H1.out (hfar g hng.symm), hr_move H2.out (hfar gs hngs.symm), H3.out.move (hfar m hnm.symm), wr_move H4.out hr (by decide) hfar, ⟨pb, rfl, hr.set 0 _, h6, h7, by omega⟩, HO.out, HBS.out, HG.out⟩))
      clear e hp hng hngs hnm hfar hs hr
      go_enter Try.func39, Try.ntmps39
      go_wp2_with fail
      go_ret
      exact ⟨by rw [HE.out] <;> rfl, by rw [HE.out]; exact HF.out⟩
    · have e : doingF s = (30, goneS s b c) := by unfold doingF; rw [hp]; exact if_neg hl
      have HE := Aside0.mk e
      have d1 : decide (0 < l) = false := decide_eq_false hl
      have HWL := Aside0.mk hw
      have HBW := Aside0.mk hbw
      have HBD := Aside0.mk (show base ≤ w.drew.heap.size from hbw)
      have HDD := Aside0.mk (show DiskIs w.drew base ok g s from HD.out.below (below_drew (Below.refl _ _)))
      clear e hp hr hl hw hbw
      go_enter Try.func39, Try.ntmps39
      go_wp2_with fail
      refine start_ (n := 10) (S := fun w' => w'.cell? ⟨pb, 1, none⟩ = some (.int .u64 b) ∧ w'.cell? ⟨pb, 2, none⟩ = some (.int .i64 c)) (ds := [9]) #[false, false, false, false, false, false, false, false, false, false] (by kernel_rfl) rfl rfl ⟨p1, p2⟩ (fun hHeld => ?_)
      refine pure_ (i := 0) (N := some 22) (v := ?_) (a' := ?_) #[true, false, false, false, false, false, false, false, false, false] rfl rfl (by kernel_rfl) (fun _ _ _ h => h) (Or.inl ⟨by rfl, ?_⟩) ?_ ?_
      rotate_left
      · intro w'
        go_simp
        with_reducible rfl
      rotate_left
      · simp only [Act.put, List.setIfInBounds_toArray, List.set_cons_zero, List.set_cons_succ, i64_w, i32_w]
        rfl
      refine pure_ (i := 1) (N := some 23) (v := ?_) (a' := ?_) #[true, true, false, false, false, false, false, false, false, false] rfl rfl (by kernel_rfl) (fun _ _ _ h => h) (Or.inl ⟨by rfl, ?_⟩) ?_ ?_
      rotate_left
      · intro w'
        go_simp
        with_reducible rfl
      rotate_left
      · simp only [Act.put, List.setIfInBounds_toArray, List.set_cons_zero, List.set_cons_succ, i64_w, i32_w]
        rfl
      refine pure_ (i := 2) (N := some 24) (v := ?_) (a' := ?_) #[true, true, true, false, false, false, false, false, false, false] rfl rfl (by kernel_rfl) (fun _ _ _ h => h) (Or.inl ⟨by rfl, ?_⟩) ?_ ?_
      rotate_left
      · intro w'
        go_simp
        with_reducible rfl
      rotate_left
      · simp only [Act.put, List.setIfInBounds_toArray, List.set_cons_zero, List.set_cons_succ, i64_w, i32_w]
        rfl
      refine pure_ (i := 3) (N := some 25) (v := ?_) (a' := ?_) #[true, true, true, true, false, false, false, false, false, false] rfl rfl (by kernel_rfl) (fun _ _ _ h => h) (Or.inl ⟨by rfl, ?_⟩) ?_ ?_
      rotate_left
      · intro w'
        go_simp
        with_reducible rfl
      rotate_left
      · simp only [Act.put, List.setIfInBounds_toArray, List.set_cons_zero, List.set_cons_succ, i64_w, i32_w]
        rfl
      refine pure_ (i := 5) (N := some 27) (v := ?_) (a' := ?_) #[true, true, true, true, false, true, false, false, false, false] rfl rfl (by kernel_rfl) (fun _ _ _ h => h) (Or.inl ⟨by rfl, ?_⟩) ?_ ?_
      rotate_left
      · intro w'
        go_simp
        with_reducible rfl
      rotate_left
      · simp only [Act.put, List.setIfInBounds_toArray, List.set_cons_zero, List.set_cons_succ, i64_w, i32_w]
        rfl
      refine pure_ (i := 6) (N := some 28) (v := ?_) (a' := ?_) #[true, true, true, true, false, true, true, false, false, false] rfl rfl (by kernel_rfl) (fun _ _ _ h => h) (Or.inl ⟨by rfl, ?_⟩) ?_ ?_
      rotate_left
      · intro w'
        go_simp
        with_reducible rfl
      rotate_left
      · simp only [Act.put, List.setIfInBounds_toArray, List.set_cons_zero, List.set_cons_succ, i64_w, i32_w]
        rfl
      refine pure_ (i := 7) (N := some 29) (v := ?_) (a' := ?_) #[true, true, true, true, false, true, true, true, false, false] rfl rfl (by kernel_rfl) (fun _ _ _ h => h) (Or.inl ⟨by rfl, ?_⟩) ?_ ?_
      rotate_left
      · intro w'
        go_simp
        with_reducible rfl
      rotate_left
      · simp only [Act.put, List.setIfInBounds_toArray, List.set_cons_zero, List.set_cons_succ, i64_w, i32_w]
        rfl
      refine take_ (i := 4) (N := some 26) (v := ?_) (a' := ?_) #[true, true, true, true, true, true, true, true, false, false] rfl rfl (by kernel_rfl) (fun _ _ _ h => h) (Or.inl ⟨by rfl, ?_⟩) hHeld ?_ ?_
      rotate_left
      · rintro w' ⟨s0, s1⟩
        go_simp
        with_reducible rfl
      rotate_left
      · simp only [Act.put, List.setIfInBounds_toArray, List.set_cons_zero, List.set_cons_succ, i64_w, i32_w]
        rfl
      refine take_ (i := 8) (N := some 30) (v := ?_) (a' := ?_) #[true, true, true, true, true, true, true, true, true, false] rfl rfl (by kernel_rfl) (fun _ _ _ h => h) (Or.inl ⟨by rfl, ?_⟩) hHeld ?_ ?_
      rotate_left
      · rintro w' ⟨s0, s1⟩
        go_simp
        with_reducible rfl
      rotate_left
      · simp only [Act.put, List.setIfInBounds_toArray, List.set_cons_zero, List.set_cons_succ, i64_w, i32_w]
        rfl
      refine last_ (i := 9) (N := some 31) #[true, true, true, true, true, true, true, true, true, true] rfl rfl (by kernel_rfl) (by decide) (fun K hK => ?_)
      refine goes_ Try.func33 (by kernel_rfl) rfl #[.pointer (some ⟨g, 0, none⟩), .int .u64 b, .int .i64 c] (by rfl) rfl rfl (by simp only [List.map_toArray, List.map_cons, List.map_nil]; rfl) ?_
      with_reducible refine (gone_calls w.drew base ok g s HDD.out HBD.out HWL.out b c).mono ?_
      rintro e w3 ⟨rfl, hto⟩
      refine ⟨_, rfl, ?_⟩
      refine hK.out _ _ ?_
      clear hK K
      refine norm_ (a' := ?_) ?_ ?_
      rotate_left
      · show Act.put _ (some 31) _ = _
        simp only [Act.put, List.setIfInBounds_toArray, List.set_cons_zero, List.set_cons_succ, i64_w, i32_w]
        rfl
      refine done_ (by kernel_rfl) ?_
      
      go_wp2_with fail
      go_ret
      exact ⟨by rw [HE.out] <;> rfl, by rw [HE.out]; exact DiskTo.trans (below_drew (Below.refl _ _)) (Kept.refl _ _) (fun k hk => .inl hk) hto⟩
def crashF (s : DS) (bits cut : Int) : Int × DS := if s.dead = true then (30, s) else (0, goneS s bits cut)
set_option maxHeartbeats 4000000 in
set_option maxRecDepth 100000 in
theorem Crash_calls (w : World) (base : Nat) (ok : Nat → Prop) (g : Nat) (s : DS) (h : DiskIs w base ok g s) (hbw : base ≤ w.heap.size) (hw : s.waits.length ≤ 1000000) (bits cut : Int) :
    Calls Try.prog 17 #[.pointer (some ⟨g, 0, none⟩), .int .u64 bits, .int .i64 cut] w fun e w' => e = .returned (.int .i64 (crashF s bits cut).1) ∧ DiskTo w w' base ok g (crashF s bits cut).2 := by
  have HD := Aside0.mk h
  have HWL := Aside0.mk hw
  have HBW := Aside0.mk hbw
  clear h hw hbw
  by_cases hd : s.dead = true
  · have hm : mayE s = 30 := by unfold mayE; rw [if_pos hd]
    have HM := Aside0.mk hm
    have HE := Aside0.mk (show crashF s bits cut = (30, s) from if_pos hd)
    clear hm hd
    go_enter Try.func17, Try.ntmps17
    go_wp2_with fail
    refine (may_calls w base ok g s HD.out).mono ?_
    rintro e w1 ⟨rfl, rfl⟩
    rw [HM.out]
    go_wp2_with fail
    go_ret
    exact ⟨by rw [HE.out] <;> rfl, by rw [HE.out]; exact DiskTo.same HD.out⟩
  · have hm : mayE s = 0 := by unfold mayE; rw [if_neg hd]
    have HM := Aside0.mk hm
    have HE := Aside0.mk (show crashF s bits cut = (0, goneS s bits cut) from if_neg hd)
    clear hm hd
    go_enter Try.func17, Try.ntmps17
    go_wp2_with fail
    refine (may_calls w base ok g s HD.out).mono ?_
    rintro e w1 ⟨rfl, rfl⟩
    rw [HM.out]
    go_wp2_with fail
    refine (gone_calls w base ok g s HD.out HBW.out HWL.out bits cut).mono ?_
    rintro e w1 ⟨rfl, hto⟩
    have HTO := Aside0.mk hto
    clear hto
    go_wp2_with fail
    go_ret
    exact ⟨by rw [HE.out] <;> rfl, by rw [HE.out]; exact HTO.out⟩
def flushF (s : DS) : Int × DS := if s.dead = true then (30, s) else if (doingF s).1 = 0 then (0, { (doingF s).2 with stays := lay (doingF s).2.stays (doingF s).2.waits, waits := [] }) else doingF s
theorem doing_waits (s : DS) (h : (doingF s).1 = 0) : (doingF s).2.waits = s.waits ∧ (doingF s).2.n = s.n ∧ (doingF s).2.stays = s.stays ∧ (doingF s).2.dead = s.dead := by
  unfold doingF at h ⊢
  split
  · exact ⟨rfl, rfl, rfl, rfl⟩
  · split
    · exact ⟨rfl, rfl, rfl, rfl⟩
    · rename_i hl
      rename_i l b c hp
      rw [hp] at h
      simp only [if_neg hl] at h
      exact absurd h (by decide)
theorem doing_cases (s : DS) : (doingF s).1 = 0 ∨ (doingF s).1 = 30 := by
  unfold doingF
  split
  · exact .inl rfl
  · split
    · exact .inl rfl
    · exact .inr rfl
set_option maxHeartbeats 4000000 in
set_option maxRecDepth 100000 in
theorem Flush_calls (w : World) (base : Nat) (ok : Nat → Prop) (g : Nat) (s : DS) (h : DiskIs w base ok g s) (hbw : base ≤ w.heap.size) (hw : s.waits.length ≤ 1000000) :
    Calls Try.prog 21 #[.pointer (some ⟨g, 0, none⟩)] w fun e w' => e = .returned (.int .i64 (flushF s).1) ∧ DiskTo w w' base ok g (flushF s).2 := by
  have HD := Aside0.mk h
  have HWL := Aside0.mk hw
  have HBW := Aside0.mk hbw
  clear h hw hbw
  by_cases hd : s.dead = true
  · have hm : mayE s = 30 := by unfold mayE; rw [if_pos hd]
    have HM := Aside0.mk hm
    have HE := Aside0.mk (show flushF s = (30, s) from if_pos hd)
    clear hm hd
    go_enter Try.func21, Try.ntmps21
    go_wp2_with fail
    refine (may_calls w base ok g s HD.out).mono ?_
    rintro e w1 ⟨rfl, rfl⟩
    rw [HM.out]
    go_wp2_with fail
    go_ret
    exact ⟨by rw [HE.out] <;> rfl, by rw [HE.out]; exact DiskTo.same HD.out⟩
  · have hm : mayE s = 0 := by unfold mayE; rw [if_neg hd]
    have HM := Aside0.mk hm
    rcases doing_cases s with h0 | h30
    · have HE := Aside0.mk (show flushF s = (0, { (doingF s).2 with stays := lay (doingF s).2.stays (doingF s).2.waits, waits := [] }) by unfold flushF; rw [if_neg hd, if_pos h0])
      have H0 := Aside0.mk h0
      clear hm hd h0
      go_enter Try.func21, Try.ntmps21
      go_wp2_with fail
      refine (may_calls w base ok g s HD.out).mono ?_
      rintro e w1 ⟨rfl, rfl⟩
      rw [HM.out]
      go_wp2_with fail
      refine (doing_calls w base ok g s HD.out HBW.out HWL.out).mono ?_
      rintro e w1 ⟨rfl, hto⟩
      rw [H0.out]
      obtain ⟨t1, t2, ok1, t3, t4⟩ := hto
      have HT := Aside0.mk t4
      have HT1 := Aside0.mk (And.intro t1 (And.intro t2 t3))
      obtain ⟨gs, m, vw, pp, h1, h2, h3, h4, h5, -, -, hG⟩ := t4
      have k2 := h1.cell (j := 2) (v := vw) rfl
      have H4 := Aside0.mk h4
      have HF := Aside0.mk (show Fits (doingF s).2.n (doingF s).2.waits from hG.2.2.2)
      clear t1 t2 t3 h1 h2 h3 h4 h5 hG
      go_wp2_with fail
      refine (settle_calls w1 base ok1 ok1 g _ HT.out (Nat.le_trans HBW.out HT1.out.1.size) vw _ H4.out HF.out).mono ?_
      rintro e w2 ⟨rfl, hto⟩
      have HTO := Aside0.mk hto
      clear hto k2
      go_wp2_with fail
      go_ret
      exact ⟨by rw [HE.out] <;> rfl, by rw [HE.out]; exact DiskTo.trans HT1.out.1 HT1.out.2.1 (fun k hk => (HT1.out.2.2 k hk).1) HTO.out⟩
    · have HE := Aside0.mk (show flushF s = doingF s by unfold flushF; rw [if_neg hd, if_neg (by rw [h30]; decide)])
      have H30 := Aside0.mk h30
      clear hm hd h30
      go_enter Try.func21, Try.ntmps21
      go_wp2_with fail
      refine (may_calls w base ok g s HD.out).mono ?_
      rintro e w1 ⟨rfl, rfl⟩
      rw [HM.out]
      go_wp2_with fail
      refine (doing_calls w base ok g s HD.out HBW.out HWL.out).mono ?_
      rintro e w1 ⟨rfl, hto⟩
      rw [H30.out]
      have HTO := Aside0.mk hto
      clear hto
      go_wp2_with fail
      go_ret
      exact ⟨by rw [HE.out, H30.out] <;> rfl, by rw [HE.out]; exact HTO.out⟩
end Go.Proofs.Ythnjkmjcacoajaa.Dk
end

section
/- Write of a disk, walked. Condition: a million writes wait at most. -/
namespace Go.Proofs.Ythnjkmjcacoajaa.Dk
open Go Go.RowKit Go.Proofs.YthnjkmjcacoajaaW.PrintWords Go.Proofs.YthnjkmjcacoajaaW.PrintLast Go.Proofs.YthnjkmjcacoajaaW.PrintMore Go.Proofs.Ythnjkmjcacoajaa.Base Go.Proofs.Ythnjkmjcacoajaa.Arr
set_option linter.unusedVariables false
set_option linter.unusedSimpArgs false
set_option maxRecDepth 10000

def writeF (s : DS) (at_ : Int) (b : List Int) : Int × DS :=
  if thereE s at_ ≠ 0 then (thereE s at_, s) else if b.length ≠ 64 then (2, s) else if (doingF s).1 ≠ 0 then doingF s else (0, { (doingF s).2 with waits := (doingF s).2.waits ++ [(at_, b)] })
theorem built_write (at_ : Int) (sec : List Int) (hs : sec.length = 64) : Try.prog.built 84 [(0, .int .i64 at_), (1, .agg (rowK .u8 sec))] = some (wcells (at_, sec)) := by
  have e : Try.prog.built 84 [(0, .int .i64 at_), (1, .agg (rowK .u8 sec))] = Instr.fill (#[(0, 1), (1, 64)][·]?) z65 [(0, .int .i64 at_), (1, .agg (rowK .u8 sec))] := by kernel_rfl
  rw [e]
  obtain ⟨c1, e1, s1, g1⟩ := fill_part (place := (#[(0, 1), (1, 64)][·]?)) (cells := z65) (i := 0) (v := .int .i64 at_) (rest := [(1, .agg (rowK .u8 sec))]) (off := 0) (size := 1) rfl rfl (by rw [z65_size]; omega)
  obtain ⟨c2, e2, s2, g2⟩ := fill_part (place := (#[(0, 1), (1, 64)][·]?)) (cells := c1) (i := 1) (v := .agg (rowK .u8 sec)) (rest := []) (off := 1) (size := 64) rfl (by show (rowK .u8 sec).size = 64; rw [rowK_size, hs]) (by rw [s1, z65_size]; omega)
  rw [e1, e2]
  show some c2 = _
  congr 1
  apply Array.ext_getElem?
  intro k
  rw [g2 k, g1 k]
  show (if 1 ≤ k ∧ k < 1 + 64 then (rowK .u8 sec)[k - 1]? else if 0 ≤ k ∧ k < 0 + 1 then #[Value.int .i64 at_][k - 0]? else z65[k]?) = _
  unfold wcells
  by_cases hk : 1 ≤ k ∧ k < 1 + 64
  · rw [if_pos hk]
    obtain ⟨q, rfl⟩ : ∃ q, k = q + 1 := ⟨k - 1, by omega⟩
    simp [rowK]
  · rw [if_neg hk]
    by_cases h0 : k = 0
    · subst h0; simp
    · rw [if_neg (by omega), Array.getElem?_eq_none (by rw [z65_size]; omega), Array.getElem?_eq_none (by simp [nums, hs]; omega)]
set_option maxHeartbeats 4000000 in
set_option maxRecDepth 100000 in
theorem Write_calls (w : World) (base : Nat) (ok : Nat → Prop) (g : Nat) (s : DS) (h : DiskIs w base ok g s) (hbw : base ≤ w.heap.size) (hw : s.waits.length ≤ 1000000) (at_ : Int) (A : Option Addr) (c : Nat) (b : List Int) (hb : ∀ W', Kept w W' ok → Kd.C (Kd.int .u8) W' A b.length b) (hc : b.length ≤ c) :
    Calls Try.prog 20 #[.pointer (some ⟨g, 0, none⟩), .int .i64 at_, .slice A b.length c] w fun e w' => e = .returned (.int .i64 (writeF s at_ b).1) ∧ DiskTo w w' base ok g (writeF s at_ b).2 := by
  have HD := Aside0.mk h
  have HWL := Aside0.mk hw
  have HBW := Aside0.mk hbw
  have HB := Aside0.mk hb
  have hmx : b.length ≤ 9223372036854775807 := Kd.C_max (hb w (Kept.refl _ _))
  clear h hw hbw hb
  by_cases ht : thereE s at_ = 0
  · have HT := Aside0.mk ht
    by_cases hl : b.length = 64
    · rcases doing_cases s with h0 | h30
      · have HE := Aside0.mk (show writeF s at_ b = (0, { (doingF s).2 with waits := (doingF s).2.waits ++ [(at_, b)] }) by unfold writeF; rw [if_neg (fun e => e ht), if_neg (fun e => e hl), if_neg (fun e => e h0)])
        have H0 := Aside0.mk h0
        have HL := Aside0.mk hl
        have dl : ((b.length : Int) != 64) = false := by rw [hl]; rfl
        have hz := zero_sector
        clear ht hl h0
        go_enter Try.func20, Try.ntmps20
        go_wp2_with fail
        refine (there_calls w base ok g s HD.out at_).mono ?_
        rintro e w1 ⟨rfl, rfl⟩
        rw [HT.out]
        go_wp2_with fail
        refine (doing_calls w base ok g s HD.out HBW.out HWL.out).mono ?_
        rintro e w1 ⟨rfl, hto⟩
        rw [H0.out]
        obtain ⟨t1, t2, ok1, t3, t4⟩ := hto
        have HC := Aside0.mk (HB.out w1 t2)
        have HT4 := Aside0.mk t4
        have HT1 := Aside0.mk (And.intro t1 (And.intro t2 t3))
        clear t1 t2 t3 t4
        obtain ⟨ad, hA⟩ : ∃ ad, A = some ad := by
          obtain ⟨ad, e, -⟩ := Kd.at_int HC.out 0 (by omega) (by have := HL.out; omega)
          exact ⟨ad, e⟩
        subst hA
        have har : ∀ W : World, (Instr.arrayAt 82 (.slice (some ad) b.length c)).run Try.prog W = .ok (.pointer (some ad)) W := fun W => by
          simp [Instr.arrayAt, run_underlying Try.underlying82, HL.out]
        have HCL := Aside0.mk (show ∀ j v, (nums .u8 b)[j]? = some v → w1.cell? (ad.add j) = some v from fun j v hv => by
          unfold nums at hv
          rw [List.getElem?_map] at hv
          obtain ⟨x, hx, rfl⟩ := Option.map_eq_some_iff.1 hv
          obtain ⟨hlt, hx⟩ := List.getElem?_eq_some_iff.1 hx
          obtain ⟨ad', e, hc'⟩ := Kd.at_int HC.out (j : Int) (by omega) (by omega)
          cases e
          rw [Int.toNat_natCast] at hc'
          rw [hc']
          unfold rd
          rw [Int.toNat_natCast, List.getD_eq_getElem?_getD, List.getElem?_eq_getElem hlt, ← hx]
          rfl)
        obtain ⟨b9, hb9⟩ : ∃ b, b = w1.heap.size := ⟨_, rfl⟩
        obtain ⟨W2, hW2⟩ : ∃ W2 : World, W2 = (w1.alloc (.cells (rowK .u8 z64) 82)).setRow w1.heap.size (nums .u8 b).toArray := ⟨_, rfl⟩
        have HNEW := Aside0.mk (HoldsRow.new w1 82 (rowK .u8 z64))
        have N2 := Aside0.mk (show HoldsRow W2 b9 82 (rowK .u8 b) by rw [hW2, hb9]; exact HNEW.out.row _)
        have HBEL := Aside0.mk (show Below w1.heap.size w1 W2 by rw [hW2]; exact Go.Proofs.Ythnjkmjcacoajaa.Arr.below_setRow (below_alloc (Below.refl _ _) _) _ (Nat.le_refl _))
        have HSZ := Aside0.mk (show W2.heap.size = b9 + 1 by rw [hW2, hb9]; simp [World.setRow])
        have HW2 := Aside0.mk hW2
        have HB9 := Aside0.mk hb9
        clear hW2 hb9
        go_wp2_with (first | (refine wpList_load_at rfl 82 (.tmp 25) rfl ad rfl (nums .u8 b) _ HCL.out Try.underlying82 rfl (by rw [nums_length, HL.out]; kernel_rfl) ?_) | (refine wpList_store_row rfl 82 (.tmp 9) (.tmp 26) rfl w1.heap.size (nums .u8 b).toArray rfl rfl 82 (rowK .u8 z64) HNEW.out (by rw [nums_rowK, rowK_size, HL.out]; kernel_rfl) (by rw [nums_rowK, rowK_size, rowK_size, HL.out, z64_len]) (rowK_one _ _) ?_; rw [← HW2.out, ← HB9.out]))
        obtain ⟨gs, m, vw, pp, h1, h2, h3, h4, h5, ⟨o1, o2, o3⟩, ⟨b1, b2, b3⟩, hG⟩ := HT4.out
        have H1 := Aside0.mk (h1.below HBEL.out h1.lt)
        have H2 := Aside0.mk (h2.below HBEL.out h2.lt)
        have H3 := Aside0.mk (h3.move (HBEL.out.block m h3.lt))
        have H4 := Aside0.mk (Kd.R_step h4 (fun k _ hk => HBEL.out.block k hk))
        have H5 := Aside0.mk (h5.move (fun k _ hk => HBEL.out.block k hk))
        have HO := Aside0.mk (And.intro o1 (And.intro o2 o3))
        have HBS := Aside0.mk (And.intro b1 (And.intro b2 b3))
        have HG := Aside0.mk hG
        have HWN := Aside0.mk (show (doingF s).2.waits.length ≤ 1000000 by rw [(doing_waits s H0.out).1]; exact HWL.out)
        clear h1 h2 h3 h4 h5 o1 o2 o3 b1 b2 b3 hG
        have K0 : W2.cell? ⟨g, 2, none⟩ = some vw := H1.out.cell rfl
        have K1 : W2.rangeAt b9 0 (nums .u8 b) := fun q u hu => N2.out.cell (by rw [Nat.zero_add]; simpa [rowK] using hu)
        have HB2 := Aside0.mk (show Below base w W2.drew from below_drew (HT1.out.1.trans (HBEL.out.mono (Nat.le_trans HBW.out HT1.out.1.size))))
        have HBZ := Aside0.mk (show base ≤ W2.drew.heap.size from Nat.le_trans HBW.out HB2.out.size)
        have HRO := Aside0.mk (show Kd.R wrK 84 W2.drew base (fun k => ok1 k ∨ W2.drew.heap.size ≤ k) vw (doingF s).2.waits from Kd.R_mono H4.out (fun k hk => .inl hk))
        have HLN := Aside0.mk (show ((doingF s).2.waits ++ [(at_, b)]).length = (doingF s).2.waits.length + 1 by simp)
        clear har HCL HNEW HW2
        refine start_ (n := 13) (S := fun w' => w'.cell? ⟨g, 2, none⟩ = some vw ∧ w'.rangeAt b9 0 (nums .u8 b)) (ds := [9, 12]) #[false, false, false, false, false, false, false, false, false, false, false, false, false] (by kernel_rfl) rfl rfl ⟨K0, K1⟩ (fun hHeld => ?_)
        refine pure_ (i := 0) (N := some 27) (v := ?_) (a' := ?_) #[true, false, false, false, false, false, false, false, false, false, false, false, false] rfl rfl (by kernel_rfl) (fun _ _ _ h => h) (Or.inl ⟨by rfl, ?_⟩) ?_ ?_
        rotate_left
        · intro w'
          go_simp
          with_reducible rfl
        rotate_left
        · simp only [Act.put, List.setIfInBounds_toArray, List.set_cons_zero, List.set_cons_succ, i64_w, i32_w]
          rfl
        refine pure_ (i := 1) (N := some 28) (v := ?_) (a' := ?_) #[true, true, false, false, false, false, false, false, false, false, false, false, false] rfl rfl (by kernel_rfl) (fun _ _ _ h => h) (Or.inl ⟨by rfl, ?_⟩) ?_ ?_
        rotate_left
        · intro w'
          go_simp
          with_reducible rfl
        rotate_left
        · simp only [Act.put, List.setIfInBounds_toArray, List.set_cons_zero, List.set_cons_succ, i64_w, i32_w]
          rfl
        refine pure_ (i := 2) (N := some 29) (v := ?_) (a' := ?_) #[true, true, true, false, false, false, false, false, false, false, false, false, false] rfl rfl (by kernel_rfl) (fun _ _ _ h => h) (Or.inl ⟨by rfl, ?_⟩) ?_ ?_
        rotate_left
        · intro w'
          go_simp
          with_reducible rfl
        rotate_left
        · simp only [Act.put, List.setIfInBounds_toArray, List.set_cons_zero, List.set_cons_succ, i64_w, i32_w]
          rfl
        refine pure_ (i := 3) (N := some 30) (v := ?_) (a' := ?_) #[true, true, true, true, false, false, false, false, false, false, false, false, false] rfl rfl (by kernel_rfl) (fun _ _ _ h => h) (Or.inl ⟨by rfl, ?_⟩) ?_ ?_
        rotate_left
        · intro w'
          go_simp
          with_reducible rfl
        rotate_left
        · simp only [Act.put, List.setIfInBounds_toArray, List.set_cons_zero, List.set_cons_succ, i64_w, i32_w]
          rfl
        refine pure_ (i := 5) (N := some 32) (v := ?_) (a' := ?_) #[true, true, true, true, false, true, false, false, false, false, false, false, false] rfl rfl (by kernel_rfl) (fun _ _ _ h => h) (Or.inl ⟨by rfl, ?_⟩) ?_ ?_
        rotate_left
        · intro w'
          go_simp
          with_reducible rfl
        rotate_left
        · simp only [Act.put, List.setIfInBounds_toArray, List.set_cons_zero, List.set_cons_succ, i64_w, i32_w]
          rfl
        refine take_ (i := 4) (N := some 31) (v := ?_) (a' := ?_) #[true, true, true, true, true, true, false, false, false, false, false, false, false] rfl rfl (by kernel_rfl) (fun _ _ _ h => h) (Or.inl ⟨by rfl, ?_⟩) hHeld ?_ ?_
        rotate_left
        · rintro w' ⟨s0, s1⟩
          go_simp
          with_reducible rfl
        rotate_left
        · simp only [Act.put, List.setIfInBounds_toArray, List.set_cons_zero, List.set_cons_succ, i64_w, i32_w]
          rfl
        refine take_ (i := 6) (N := some 33) (v := ?_) (a' := ?_) #[true, true, true, true, true, true, true, false, false, false, false, false, false] rfl rfl (by kernel_rfl) (fun _ _ _ h => h) (Or.inl ⟨by rfl, ?_⟩) hHeld ?_ ?_
        rotate_left
        · rintro w' ⟨s0, s1⟩
          refine exec_load_mid 82 (.tmp 9) ?_ b9 0 ?_ (nums .u8 b) _ s1 Try.underlying82 rfl (by rw [nums_length, HL.out]; kernel_rfl)
          · rfl
          · rfl
        rotate_left
        · simp only [Act.put, List.setIfInBounds_toArray, List.set_cons_zero, List.set_cons_succ, i64_w, i32_w]
          rfl
        refine pure_ (i := 7) (N := some 34) (v := ?_) (a' := ?_) #[true, true, true, true, true, true, true, true, false, false, false, false, false] rfl rfl (by kernel_rfl) (fun _ _ _ h => h) (Or.inl ⟨by rfl, ?_⟩) ?_ ?_
        rotate_left
        · intro w'
          refine exec_built 84 #[(0, .tmp 32), (1, .tmp 33)] ?_ [(0, .int .i64 at_), (1, .agg (rowK .u8 b))] ?_ (wcells (at_, b)) (built_write at_ b HL.out)
          · rfl
          · simp only [List.map_toArray, List.map_cons, List.map_nil]
            rfl
        rotate_left
        · simp only [Act.put, List.setIfInBounds_toArray, List.set_cons_zero, List.set_cons_succ, i64_w, i32_w]
          rfl
        refine one_ (i := 8) (N := some 35) #[true, true, true, true, true, true, true, true, true, false, false, false, false] rfl rfl (by kernel_rfl) (by decide) (fun K hK => ?_)
        refine value_ (w1 := W2.drew.alloc (.cells (wcells (at_, b)) 84)) (v := .slice (some ⟨W2.drew.heap.size, 0, none⟩) 1 1) (by rfl) rfl ?_ ?_
        · refine exec_one_slice 59 84 (.tmp 34) ?_ 65 (wcells (at_, b)) ?_ Try.underlying59 (by kernel_rfl) (by decide) (by decide) (wcells_size HL.out)
          · rfl
          · rfl
        refine hK.out _ _ ⟨cell_alloc_old _ K0, World.rangeAt_alloc K1 _⟩ (fun hHeld => ?_)
        clear hK K
        refine norm_ (a' := ?_) ?_ ?_
        rotate_left
        · show Act.put _ (some 35) _ = _
          simp only [Act.put, List.setIfInBounds_toArray, List.set_cons_zero, List.set_cons_succ, i64_w, i32_w]
          rfl
        refine last_ (i := 9) (N := some 36) #[true, true, true, true, true, true, true, true, true, true, false, false, false] rfl rfl (by kernel_rfl) (by decide) (fun K hK => ?_)
        refine Kd.R_append_step wrK (w0 := w) (W := W2.drew) base (by rfl) (.tmp 31) (.tmp 35) 59 84 (.agg z65) 72 ?a1 Try.underlying59 (by kernel_rfl) z65_size (by decide) (by decide) vw (doingF s).2.waits (at_, b) (wcells (at_, b)).toList (fun k => ok1 k ∨ W2.drew.heap.size ≤ k) (fun _ => False) ?a2 ?a3 ⟨rfl, HL.out⟩ (fun _ hk => hk.elim) (fun _ hk => .inr hk) HRO.out HB2.out HBZ.out ?aL ?_
        case a1 => rfl
        case a2 => rfl
        case a3 => rfl
        case aL => have := HWN.out; omega
        intro v1 w5 ho hb5 hg hat
        obtain ⟨A1, cc, rfl⟩ := Kd.R_slice ho
        rw [HLN.out] at ho ⊢
        obtain ⟨r1, r2, r3, r5⟩ := rest_grown (W := W2.drew) H1.out H2.out H3.out H4.out H5.out hg
        have Q1 := Aside0.mk r1
        have Q2 := Aside0.mk r2
        have Q3 := Aside0.mk r3
        have Q5 := Aside0.mk r5
        have Q4 := Aside0.mk ho
        have QB := Aside0.mk hb5
        have Q9 := Aside0.mk (hr_move N2.out (hg.block b9 N2.out.lt (ne_own N2.out H4.out (by decide))))
        have QG := Aside0.mk hg
        have c2 := r1.cell (j := 2) (v := vw) rfl
        have z2 := r1.free 2
        clear r1 r2 r3 r5 ho hb5 hg hat
        refine hK.out _ _ ?_
        clear hK K
        refine norm_ (a' := ?_) ?_ ?_
        rotate_left
        · show Act.put _ (some 36) _ = _
          simp only [Act.put, List.setIfInBounds_toArray, List.set_cons_zero, List.set_cons_succ, i64_w, i32_w]
          rfl
        refine pure_ (i := 10) (N := some 37) (v := ?_) (a' := ?_) #[true, true, true, true, true, true, true, true, true, true, true, false, false] rfl rfl (by kernel_rfl) (fun _ _ _ h => h) (Or.inl ⟨by rfl, ?_⟩) ?_ ?_
        rotate_left
        · intro w'
          go_simp
          with_reducible rfl
        rotate_left
        · simp only [Act.put, List.setIfInBounds_toArray, List.set_cons_zero, List.set_cons_succ, i64_w, i32_w]
          rfl
        refine pure_ (i := 11) (N := some 38) (v := ?_) (a' := ?_) #[true, true, true, true, true, true, true, true, true, true, true, true, false] rfl rfl (by kernel_rfl) (fun _ _ _ h => h) (Or.inl ⟨by rfl, ?_⟩) ?_ ?_
        rotate_left
        · intro w'
          go_simp
          with_reducible rfl
        rotate_left
        · simp only [Act.put, List.setIfInBounds_toArray, List.set_cons_zero, List.set_cons_succ, i64_w, i32_w]
          rfl
        refine last_ (i := 12) (N := none) #[true, true, true, true, true, true, true, true, true, true, true, true, true] rfl rfl (by kernel_rfl) (by decide) (fun K hK => ?_)
        refine skip_ (w1 := ?_) (by rfl) rfl ?_ ?_
        rotate_left
        · go_simp
          rfl
        refine hK.out _ _ ?_
        clear hK K
        refine done_ (by kernel_rfl) ?_
        
        obtain ⟨V, hV⟩ : ∃ V, V = Value.slice A1 ((doingF s).2.waits.length + 1) cc := ⟨_, rfl⟩
        obtain ⟨W6, hW6⟩ : ∃ W6, W6 = w5.setCell ⟨g, 2, none⟩ V := ⟨_, rfl⟩
        rw [← hV] at Q4
        rw [← hV, ← hW6]
        obtain ⟨p2, p3, p4, p5⟩ := rest_set Q1.out Q2.out Q3.out Q4.out (Q5.out.mono (ok' := fun k => ok1 k ∨ W2.drew.heap.size ≤ k) (fun k hk _ => .inl hk)) 2 V
        have p1 := Q1.out.set 2 V
        rw [dcells_waits] at p1
        rw [← hW6] at p1 p2 p3 p4 p5
        have p9 : HoldsRow W6 b9 82 (rowK .u8 b) := by rw [hW6]; exact Q9.out.set_other _ _ (ne_kind Q9.out Q1.out (by decide))
        have K0 : W6.cell? ⟨g, 1, none⟩ = some (.map (some m)) := p1.cell rfl
        have K1 : W6.rangeAt b9 0 (nums .u8 b) := fun q u hu => p9.cell (by rw [Nat.zero_add]; simpa [rowK] using hu)
        obtain ⟨W7, hrun, hm7, hg7, hs7⟩ := run_update_is (P := Try.prog) (W := W6.drew) (T := 58) (K := 3) (E := 82) p3 Try.underlying58 Try.underlying3 at_ (.agg (rowK .u8 b))
        obtain ⟨r1, r2, r4, r5⟩ := rest_map (W := W6.drew) p1 p2 p3 p4 p5 hg7
        have hF : (fun k => if k = at_ then some (.agg (rowK .u8 b)) else seenF (doingF s).2.waits k) = seenF ((doingF s).2.waits ++ [(at_, b)]) := by
          funext k
          unfold seenF
          rw [lastW_snoc]
          by_cases e : k = at_
          · rw [if_pos e, if_pos e.symm]; rfl
          · rw [if_neg e, if_neg (fun q => e q.symm)]
        rw [hF] at hm7
        have hat : 0 ≤ at_ ∧ at_ < (doingF s).2.n := by
          rw [(doing_waits s H0.out).2.1]
          have := HT.out
          unfold thereE at this
          split at this
          · exact absurd this (by decide)
          · split at this
            · exact absurd this (by decide)
            · split at this
              · exact absurd this (by decide)
              · omega
        have hs6 : W6.heap.size = w5.heap.size := by rw [hW6]; simp [World.setCell]
        have hz25 : W2.drew.heap.size ≤ w5.heap.size := QG.out.size
        have hkA : Kept w W2.drew ok := HT1.out.2.1.below (below_drew HBEL.out)
        have hkB : Kept w w5 ok := Kept.of_grown QG.out hkA (fun k hk => by
          rcases (Kd.R_bound H4.out).1 k hk with ⟨q, -, -, -⟩
          exact (HT1.out.2.2 k q).1)
        have hkC : Kept w W6 ok := by rw [hW6]; exact hkB.setCell (p := ⟨g, 2, none⟩) ((HT1.out.2.2 g HO.out.1).1) V
        have hkD : Kept w W7 ok := Kept.of_grown hg7 (Kept.drew hkC) (fun k hk => by injection hk with hk; rw [← hk]; exact (HT1.out.2.2 m HO.out.2.2).1)
        have hbC : Below base w W6 := by rw [hW6]; exact QB.out.setCell (show base ≤ (⟨g, 2, none⟩ : Addr).block from HBS.out.1) V
        have hbD : Below base w W7 := (below_drew hbC).grown hg7 (Nat.le_trans HBW.out hbC.size) (fun k hk => by injection hk with hk; rw [← hk]; exact HBS.out.2.2)
        have HF := Aside0.mk (show DiskTo w W7 base ok g { (doingF s).2 with waits := (doingF s).2.waits ++ [(at_, b)] } from
          DiskTo.trans hbD hkD (ok1 := fun k => ok1 k ∨ W2.drew.heap.size ≤ k) (fun k hk => hk.elim (fun h => (HT1.out.2.2 k h).1) (fun h => .inr (Nat.le_trans hkA.1 h))) (DiskTo.same ⟨gs, m, V, pp, r1, r2, hm7, r4, r5, ⟨.inl HO.out.1, .inl HO.out.2.1, .inl HO.out.2.2⟩, HBS.out, HG.out.1, HG.out.2.1, HG.out.2.2.1, fun p hp => (List.mem_append.1 hp).elim (fun h => HG.out.2.2.2 p h) (fun h => by rw [List.mem_singleton.1 h]; exact ⟨hat.1, hat.2, HL.out⟩)⟩))
        have HRUN := Aside0.mk hrun
        clear hV hW6 p1 p2 p3 p4 p5 p9 hrun hm7 hg7 hs7 r1 r2 r4 r5 hF hat hs6 hz25 hkA hkB hkC hkD hbC hbD c2 z2 hHeld Q1 Q2 Q3 Q4 Q5 QB Q9 QG
        go_wp2_with fail
        refine start_ (n := 7) (S := fun w' => w'.cell? ⟨g, 1, none⟩ = some (.map (some m)) ∧ w'.rangeAt b9 0 (nums .u8 b)) (ds := [6]) #[false, false, false, false, false, false, false] (by kernel_rfl) rfl rfl ⟨K0, K1⟩ (fun hHeld => ?_)
        refine pure_ (i := 0) (N := some 39) (v := ?_) (a' := ?_) #[true, false, false, false, false, false, false] rfl rfl (by kernel_rfl) (fun _ _ _ h => h) (Or.inl ⟨by rfl, ?_⟩) ?_ ?_
        rotate_left
        · intro w'
          go_simp
          with_reducible rfl
        rotate_left
        · simp only [Act.put, List.setIfInBounds_toArray, List.set_cons_zero, List.set_cons_succ, i64_w, i32_w]
          rfl
        refine pure_ (i := 1) (N := some 40) (v := ?_) (a' := ?_) #[true, true, false, false, false, false, false] rfl rfl (by kernel_rfl) (fun _ _ _ h => h) (Or.inl ⟨by rfl, ?_⟩) ?_ ?_
        rotate_left
        · intro w'
          go_simp
          with_reducible rfl
        rotate_left
        · simp only [Act.put, List.setIfInBounds_toArray, List.set_cons_zero, List.set_cons_succ, i64_w, i32_w]
          rfl
        refine pure_ (i := 2) (N := some 41) (v := ?_) (a' := ?_) #[true, true, true, false, false, false, false] rfl rfl (by kernel_rfl) (fun _ _ _ h => h) (Or.inl ⟨by rfl, ?_⟩) ?_ ?_
        rotate_left
        · intro w'
          go_simp
          with_reducible rfl
        rotate_left
        · simp only [Act.put, List.setIfInBounds_toArray, List.set_cons_zero, List.set_cons_succ, i64_w, i32_w]
          rfl
        refine pure_ (i := 4) (N := some 43) (v := ?_) (a' := ?_) #[true, true, true, false, true, false, false] rfl rfl (by kernel_rfl) (fun _ _ _ h => h) (Or.inl ⟨by rfl, ?_⟩) ?_ ?_
        rotate_left
        · intro w'
          go_simp
          with_reducible rfl
        rotate_left
        · simp only [Act.put, List.setIfInBounds_toArray, List.set_cons_zero, List.set_cons_succ, i64_w, i32_w]
          rfl
        refine take_ (i := 3) (N := some 42) (v := ?_) (a' := ?_) #[true, true, true, true, true, false, false] rfl rfl (by kernel_rfl) (fun _ _ _ h => h) (Or.inl ⟨by rfl, ?_⟩) hHeld ?_ ?_
        rotate_left
        · rintro w' ⟨s0, s1⟩
          go_simp
          with_reducible rfl
        rotate_left
        · simp only [Act.put, List.setIfInBounds_toArray, List.set_cons_zero, List.set_cons_succ, i64_w, i32_w]
          rfl
        refine take_ (i := 5) (N := some 44) (v := ?_) (a' := ?_) #[true, true, true, true, true, true, false] rfl rfl (by kernel_rfl) (fun _ _ _ h => h) (Or.inl ⟨by rfl, ?_⟩) hHeld ?_ ?_
        rotate_left
        · rintro w' ⟨s0, s1⟩
          refine exec_load_mid 82 (.tmp 9) ?_ b9 0 ?_ (nums .u8 b) _ s1 Try.underlying82 rfl (by rw [nums_length, HL.out]; kernel_rfl)
          · rfl
          · rfl
        rotate_left
        · simp only [Act.put, List.setIfInBounds_toArray, List.set_cons_zero, List.set_cons_succ, i64_w, i32_w]
          rfl
        refine last_ (i := 6) (N := none) #[true, true, true, true, true, true, true] rfl rfl (by kernel_rfl) (by decide) (fun K hK => ?_)
        refine skip_ (w1 := W7) (by rfl) rfl ?_ ?_
        · refine exec_update 58 (.tmp 42) (.tmp 43) (.tmp 44) ?_ m at_ (.agg (rowK .u8 b)) ?_ ?_ ?_ HRUN.out
          · rfl
          · rfl
          · rfl
          · rfl
        refine hK.out _ _ ?_
        clear hK K
        refine done_ (by kernel_rfl) ?_
        
        go_wp2_with fail
        go_ret
        exact ⟨by rw [HE.out] <;> rfl, by rw [HE.out]; exact HF.out⟩
      · have HE := Aside0.mk (show writeF s at_ b = doingF s by unfold writeF; rw [if_neg (fun e => e ht), if_neg (fun e => e hl), if_pos (by rw [h30]; decide)])
        have H30 := Aside0.mk h30
        have dl : ((b.length : Int) != 64) = false := by rw [hl]; rfl
        clear ht hl h30
        go_enter Try.func20, Try.ntmps20
        go_wp2_with fail
        refine (there_calls w base ok g s HD.out at_).mono ?_
        rintro e w1 ⟨rfl, rfl⟩
        rw [HT.out]
        go_wp2_with fail
        refine (doing_calls w base ok g s HD.out HBW.out HWL.out).mono ?_
        rintro e w1 ⟨rfl, hto⟩
        rw [H30.out]
        have HTO := Aside0.mk hto
        clear hto
        go_wp2_with fail
        go_ret
        exact ⟨by rw [HE.out, H30.out] <;> rfl, by rw [HE.out]; exact HTO.out⟩
    · have HE := Aside0.mk (show writeF s at_ b = (2, s) by unfold writeF; rw [if_neg (fun e => e ht), if_pos hl])
      have dl : ((b.length : Int) != 64) = true := by simp; omega
      clear ht hl
      go_enter Try.func20, Try.ntmps20
      go_wp2_with fail
      refine (there_calls w base ok g s HD.out at_).mono ?_
      rintro e w1 ⟨rfl, rfl⟩
      rw [HT.out]
      go_wp2_with fail
      go_ret
      exact ⟨by rw [HE.out] <;> rfl, by rw [HE.out]; exact DiskTo.same HD.out⟩
  · have HE := Aside0.mk (show writeF s at_ b = (thereE s at_, s) by unfold writeF; rw [if_pos ht])
    have dt : (thereE s at_ != 0) = true := by simp; exact ht
    clear ht
    go_enter Try.func20, Try.ntmps20
    go_wp2_with fail
    refine (there_calls w base ok g s HD.out at_).mono ?_
    rintro e w1 ⟨rfl, rfl⟩
    obtain ⟨q, hq⟩ : ∃ q, q = thereE s at_ := ⟨_, rfl⟩
    rw [← hq] at dt ⊢
    have HQ := Aside0.mk hq
    clear hq
    go_wp2_with fail
    go_ret
    exact ⟨by rw [HE.out, HQ.out] <;> rfl, by rw [HE.out]; exact DiskTo.same HD.out⟩
end Go.Proofs.Ythnjkmjcacoajaa.Dk
end

section
/- Read of a disk, and New, walked. No condition. -/
namespace Go.Proofs.Ythnjkmjcacoajaa.Dk
open Go Go.RowKit Go.Proofs.YthnjkmjcacoajaaW.PrintWords Go.Proofs.YthnjkmjcacoajaaW.PrintLast Go.Proofs.YthnjkmjcacoajaaW.PrintMore Go.Proofs.Ythnjkmjcacoajaa.Base Go.Proofs.Ythnjkmjcacoajaa.Arr
set_option linter.unusedVariables false
set_option linter.unusedSimpArgs false

def readF (s : DS) (at_ : Int) : List Int := if thereE s at_ ≠ 0 then [] else curS s.stays s.waits at_.toNat
def ReadPost (s : DS) (at_ : Int) (w : World) (e : Ending) (w' : World) : Prop :=
  ∃ v, e = .returned (.tuple #[v, .int .i64 (thereE s at_)]) ∧ Kd.R (Kd.int .u8) 82 w' w.heap.size (fun _ => True) v (readF s at_) ∧ Below w.heap.size w w'
theorem there_ok {s : DS} {at_ : Int} (h : thereE s at_ = 0) : s.dead = false ∧ 0 ≤ at_ ∧ at_ < s.n := by
  unfold thereE at h
  split at h
  · exact absurd h (by decide)
  · rename_i hd
    split at h
    · exact absurd h (by decide)
    · split at h
      · exact absurd h (by decide)
      · exact ⟨by simpa using hd, by omega, by omega⟩
theorem lastW_len {l : List (Int × List Int)} {n : Nat} (h : Fits n l) {k : Int} {x : List Int} (hx : lastW l k = some x) : x.length = 64 := by
  unfold lastW at hx
  have : ∀ (l : List (Int × List Int)) (a : Option (List Int)), Fits n l → (∀ y, a = some y → y.length = 64) → ∀ y, l.foldl (fun a p => if p.1 = k then some p.2 else a) a = some y → y.length = 64 := by
    intro l
    induction l with
    | nil => intro a _ ha y hy; exact ha y hy
    | cons p l ih =>
      intro a hf ha y hy
      refine ih _ (fun q hq => hf q (by simp [hq])) (fun y hy => ?_) y hy
      have hy : (if p.1 = k then some p.2 else a) = some y := hy
      split at hy
      · have := Option.some.inj hy
        rw [← this]
        exact (hf p (by simp)).2.2
      · exact ha y hy
  exact this l none h (fun y hy => by cases hy) x hx
set_option maxHeartbeats 4000000 in
set_option maxRecDepth 100000 in
theorem Read_calls (w : World) (base : Nat) (ok : Nat → Prop) (g : Nat) (s : DS) (h : DiskIs w base ok g s) (at_ : Int) :
    Calls Try.prog 55 #[.pointer (some ⟨g, 0, none⟩), .int .i64 at_] w (ReadPost s at_ w) := by
  have HD := Aside0.mk h
  by_cases ht : thereE s at_ = 0
  · have HT := Aside0.mk ht
    obtain ⟨gs, m, vw, pp, h1, h2, h3, h4, h5, ⟨o1, o2, o3⟩, ⟨b1, b2, b3⟩, hG⟩ := h
    obtain ⟨-, hat0, hat1⟩ := there_ok ht
    obtain ⟨ai, rfl⟩ := Int.eq_ofNat_of_zero_le hat0
    have HRF := Aside0.mk (show readF s (ai : Int) = curS s.stays s.waits ai by unfold readF; rw [if_neg (fun e => e ht)]; rfl)
    have k0 := h1.cell (j := 0) (v := .slice (some ⟨gs, 0, none⟩) s.n s.n) rfl
    have k1 := h1.cell (j := 1) (v := .map (some m)) rfl
    have H1 := Aside0.mk h1
    have H2 := Aside0.mk h2
    have hlk := run_lookup_is (P := Try.prog) (W := w) (T := 58) (K := 3) (E := 82) h3 Try.underlying58 Try.underlying3 (fun W => zero_sector W) (ai : Int)
    have x0 := eq_true (show ai < s.n by omega)
    have HSL := Aside0.mk (secOf_len hG.2.2.1 (show ai < s.n by omega))
    have hz := zero_sector
    have HNEW := Aside0.mk (HoldsRow.new w 82 (rowK .u8 z64))
    cases hl : lastW s.waits (ai : Int) with
    | some x =>
      have HCS := Aside0.mk (show curS s.stays s.waits ai = x by unfold curS; rw [hl]; rfl)
      have HX := Aside0.mk (lastW_len (n := s.n) hG.2.2.2 hl)
      have e : seenF s.waits (ai : Int) = some (.agg (rowK .u8 x)) := by unfold seenF; rw [hl]; rfl
      rw [e] at hlk
      simp only [Option.getD_some, Option.isSome_some] at hlk
      obtain ⟨W2, hW2⟩ : ∃ W2 : World, W2 = (w.alloc (.cells (rowK .u8 z64) 82)).setRow w.heap.size (rowK .u8 x) := ⟨_, rfl⟩
      have N2 := Aside0.mk (show HoldsRow W2 w.heap.size 82 (rowK .u8 x) by rw [hW2]; exact HNEW.out.row _)
      have HBEL := Aside0.mk (show Below w.heap.size w W2 by rw [hW2]; exact Go.Proofs.Ythnjkmjcacoajaa.Arr.below_setRow (below_alloc (Below.refl _ _) _) _ (Nat.le_refl _))
      have HW2 := Aside0.mk hW2
      clear ht h1 h2 h3 h4 h5 o1 o2 o3 b1 b2 b3 hG hat0 hat1 hl e hW2
      go_enter Try.func55, Try.ntmps55
      go_wp2_with fail
      refine (there_calls w base ok g s HD.out (ai : Int)).mono ?_
      rintro e w1 ⟨rfl, rfl⟩
      rw [HT.out]
      go_wp2_with (refine wpList_store_row rfl 82 (.tmp 7) (.tmp 22) rfl w.heap.size (rowK .u8 x) rfl rfl 82 (rowK .u8 z64) HNEW.out (by rw [rowK_size, HX.out]; kernel_rfl) (by rw [rowK_size, rowK_size, HX.out, z64_len]) (rowK_one _ _) ?_; rw [← HW2.out])
      go_ret2
      exact ⟨_, by rw [HT.out] <;> rfl, by rw [HRF.out, HCS.out]; have := N2.out.own (base := w.heap.size) (Nat.le_refl _) (by rw [HX.out]; decide); rw [HX.out] at this; exact this, HBEL.out⟩
    | none =>
      obtain ⟨x, hx⟩ : ∃ x, x = secOf s.stays ai := ⟨_, rfl⟩
      have HCS := Aside0.mk (show curS s.stays s.waits ai = x by unfold curS; rw [hl, hx]; rfl)
      have HX := Aside0.mk (show x.length = 64 by rw [hx]; exact HSL.out)
      have e : seenF s.waits (ai : Int) = none := by unfold seenF; rw [hl]; rfl
      rw [e] at hlk
      simp only [Option.getD_none, Option.isSome_none] at hlk
      obtain ⟨W2, hW2⟩ : ∃ W2 : World, W2 = (w.alloc (.cells (rowK .u8 z64) 82)).setRow w.heap.size (rowK .u8 z64) := ⟨_, rfl⟩
      have N2 := Aside0.mk (show HoldsRow W2 w.heap.size 82 (rowK .u8 z64) by rw [hW2]; exact HNEW.out.row _)
      have hbel : Below w.heap.size w W2 := by rw [hW2]; exact Go.Proofs.Ythnjkmjcacoajaa.Arr.below_setRow (below_alloc (Below.refl _ _) _) _ (Nat.le_refl _)
      have q1 := H1.out.below hbel H1.out.lt
      have k0' := q1.cell (j := 0) (v := .slice (some ⟨gs, 0, none⟩) s.n s.n) rfl
      have HRG := Aside0.mk (show W2.rangeAt gs (ai * 64) (nums .u8 x) by rw [hx]; exact range_row (H2.out.below hbel H2.out.lt) _ _)
      obtain ⟨W3, hW3⟩ : ∃ W3 : World, W3 = W2.setRow w.heap.size (nums .u8 x).toArray := ⟨_, rfl⟩
      have N3 := Aside0.mk (show HoldsRow W3 w.heap.size 82 (rowK .u8 x) by rw [hW3]; exact N2.out.row _)
      have HBEL := Aside0.mk (show Below w.heap.size w W3 by rw [hW3]; exact Go.Proofs.Ythnjkmjcacoajaa.Arr.below_setRow hbel _ (Nat.le_refl _))
      have HW2 := Aside0.mk hW2
      have HW3 := Aside0.mk hW3
      have x1 := eq_true (show (0 : Int) ≤ (ai : Int) by omega)
      have x2 := eq_true (show (ai : Int) < (s.n : Int) by omega)
      clear ht h1 h2 h3 h4 h5 o1 o2 o3 b1 b2 b3 hG hat0 hat1 hl e hW2 hW3 q1 hbel hx
      go_enter Try.func55, Try.ntmps55
      go_wp2_with fail
      refine (there_calls w base ok g s HD.out (ai : Int)).mono ?_
      rintro e w1 ⟨rfl, rfl⟩
      rw [HT.out]
      go_wp2_with (first | (refine wpList_store_row rfl 82 (.tmp 7) (.tmp 22) rfl w.heap.size (rowK .u8 z64) rfl rfl 82 (rowK .u8 z64) HNEW.out (by rw [rowK_size, z64_len]; kernel_rfl) rfl (rowK_one _ _) ?_; rw [← HW2.out]) | (refine wpList_load_mid rfl 82 (.tmp 31) rfl gs (ai * 64) rfl (nums .u8 x) _ HRG.out Try.underlying82 rfl (by rw [nums_length, HX.out]; kernel_rfl) ?_) | (refine wpList_store_row rfl 82 (.tmp 7) (.tmp 32) rfl w.heap.size (nums .u8 x).toArray rfl rfl 82 (rowK .u8 z64) N2.out (by rw [nums_rowK, rowK_size, HX.out]; kernel_rfl) (by rw [nums_rowK, rowK_size, rowK_size, HX.out, z64_len]) (rowK_one _ _) ?_; rw [← HW3.out]))
      go_ret2
      exact ⟨_, by rw [HT.out] <;> rfl, by rw [HRF.out, HCS.out]; have := N3.out.own (base := w.heap.size) (Nat.le_refl _) (by rw [HX.out]; decide); rw [HX.out] at this; exact this, HBEL.out⟩
  · have HRF := Aside0.mk (show readF s at_ = [] by unfold readF; rw [if_pos ht])
    have dt : (thereE s at_ != 0) = true := by simp; exact ht
    clear ht
    go_enter Try.func55, Try.ntmps55
    go_wp2_with fail
    refine (there_calls w base ok g s HD.out at_).mono ?_
    rintro e w1 ⟨rfl, rfl⟩
    obtain ⟨q, hq⟩ : ∃ q, q = thereE s at_ := ⟨_, rfl⟩
    rw [← hq] at dt ⊢
    have HQ := Aside0.mk hq
    clear hq
    go_wp2_with fail
    go_ret2
    exact ⟨_, by rw [← HQ.out] <;> rfl, by rw [HRF.out]; exact Kd.R_nil _ _ _ _ _, Below.refl _ _⟩
theorem made_sec (m : Nat) : madeCells (rowK .u8 z64) (m * 64) = rowK .u8 (List.replicate (m * 64) 0) := by
  apply Array.ext
  · simp [rowK, nums, madeCells]
  · intro i h1 h2
    have hz : ∀ j, j < 64 → (rowK .u8 z64)[j]! = Value.int .u8 0 := fun j hj => by
      have hlt : j < (rowK .u8 z64).size := by rw [rowK_size, z64_len]; exact hj
      have := rowK_get .u8 z64 j (by rw [z64_len]; exact hj)
      rw [Array.getElem?_eq_getElem hlt] at this
      rw [getElem!_pos (rowK .u8 z64) j hlt, Option.some.inj this]
      unfold rd z64
      rw [List.getD_eq_getElem?_getD, List.getElem?_replicate]
      split <;> rfl
    have hs : (rowK .u8 z64).size = 64 := by rw [rowK_size, z64_len]
    simp only [madeCells, Array.getElem_map, Array.getElem_range, hs]
    rw [hz _ (Nat.mod_lt _ (by decide))]
    simp [rowK, nums]
theorem make_sec (W : World) (m : Nat) (hm : m ≤ 512) : (Instr.makeSlice 57 (.int .i64 (m : Int)) (.int .i64 (m : Int))).run Try.prog W = .ok (.slice (some ⟨W.heap.size, 0, none⟩) m m) (W.alloc (.cells (rowK .u8 (List.replicate (m * 64) 0)) 82)) := by
  have hinfo : (Try.prog.info? 82).map (fun i => (i.zero, i.size, i.bytes)) = some (some (.agg (rowK .u8 z64)), 64, 64) := by kernel_rfl
  obtain ⟨i0, hi, hzz⟩ := Option.map_eq_some_iff.1 hinfo
  simp only [Prod.mk.injEq] at hzz
  obtain ⟨hz0, hz1, hz2⟩ := hzz
  have hr := run_make (P := Try.prog) W 57 82 i0 _ Try.underlying57 hi hz0 .i64 .i64 (m : Int) (m : Int) (by omega) (by omega) (by rw [hz2]; omega) (by omega)
  simp only [Int.toNat_natCast] at hr
  rw [hz1] at hr
  rw [hr]
  show Result.ok _ (W.alloc (.cells (madeCells (rowK .u8 z64) (m * 64)) _)) = _
  rw [made_sec]
/-- a new disk -/
def newS (n : Nat) : DS := ⟨n, List.replicate (n * 64) 0, [], false, none⟩
def NewPost (n : Int) (w : World) (e : Ending) (w' : World) : Prop :=
  if n < 1 ∨ 512 < n then e = .returned (.tuple #[.pointer none, .int .i64 9]) ∧ w = w' else ∃ g, e = .returned (.tuple #[.pointer (some ⟨g, 0, none⟩), .int .i64 0]) ∧ Below w.heap.size w w' ∧ DiskIs w' w.heap.size (fun k => k < w'.heap.size) g (newS n.toNat)
theorem new_world (w : World) (m : Nat) (h : ¬ ((m : Int) < 1 ∨ 512 < (m : Int))) : NewPost (m : Int) w (.returned (.tuple #[.pointer (some ⟨w.heap.size + 1 + 1, 0, none⟩), .int .i64 0])) (((w.alloc (.cells (rowK .u8 (List.replicate (m * 64) 0)) 82)).alloc (.map #[] 0)).alloc (.cells #[.slice (some ⟨w.heap.size, 0, none⟩) m m, .map (some (w.heap.size + 1)), .slice none 0 0, .bool false, .pointer none] 62)) := by
  unfold NewPost
  rw [if_neg h]
  have hb : Below w.heap.size w (((w.alloc (.cells (rowK .u8 (List.replicate (m * 64) 0)) 82)).alloc (.map #[] 0)).alloc (.cells #[.slice (some ⟨w.heap.size, 0, none⟩) m m, .map (some (w.heap.size + 1)), .slice none 0 0, .bool false, .pointer none] 62)) := below_alloc (below_alloc (below_alloc (Below.refl _ _) _) _) _
  refine ⟨w.heap.size + 1 + 1, rfl, hb, w.heap.size, w.heap.size + 1, .slice none 0 0, none, ?_, ?_, ?_, Kd.R_nil _ _ _ _ _, rfl, ⟨by simp, by simp; omega, by simp⟩, ⟨by omega, by omega, by omega⟩, by show 1 ≤ (m : Int).toNat; omega, by show (m : Int).toNat ≤ 512; omega, ?_, fun p hp => by simp [newS] at hp⟩
  · have := HoldsRow.new ((w.alloc (.cells (rowK .u8 (List.replicate (m * 64) 0)) 82)).alloc (.map #[] 0)) 62 #[.slice (some ⟨w.heap.size, 0, none⟩) m m, .map (some (w.heap.size + 1)), .slice none 0 0, .bool false, .pointer none]
    rw [World.size_alloc, World.size_alloc] at this
    exact this
  · exact ((HoldsRow.new w _ _).alloc _).alloc _
  · have := MapIs.new (w.alloc (.cells (rowK .u8 (List.replicate (m * 64) 0)) 82))
    rw [World.size_alloc] at this
    exact this.move (Go.heap_alloc_old _ _ (by simp))
  · show (List.replicate ((m : Int).toNat * 64) (0 : Int)).length = (m : Int).toNat * 64
    rw [List.length_replicate]
set_option maxHeartbeats 4000000 in
set_option maxRecDepth 100000 in
theorem New_calls (w : World) (n : Int) : Calls Try.prog 6 #[.int .i64 n] w (NewPost n w) := by
  by_cases h : n < 1 ∨ 512 < n
  · have HP := Aside0.mk (show NewPost n w = fun e w' => e = .returned (.tuple #[.pointer none, .int .i64 9]) ∧ w = w' by funext e w'; exact if_pos h)
    rw [HP.out]
    by_cases h1 : n < 1
    · have d1 : decide (n < 1) = true := decide_eq_true h1
      clear h h1 HP
      go_enter Try.func6, Try.ntmps6
      go_wp2_with fail
      go_ret2
      exact ⟨rfl, rfl⟩
    · have d1 : decide (n < 1) = false := decide_eq_false h1
      have d2 : decide (512 < n) = true := decide_eq_true (by omega)
      clear h h1 HP
      go_enter Try.func6, Try.ntmps6
      go_wp2_with fail
      go_ret2
      exact ⟨rfl, rfl⟩
  · have HP := Aside0.mk h
    have d1 : decide (n < 1) = false := decide_eq_false (by omega)
    have d2 : decide (512 < n) = false := decide_eq_false (by omega)
    obtain ⟨m, rfl⟩ := Int.eq_ofNat_of_zero_le (show 0 ≤ n by omega)
    have hmk := fun W => make_sec W m (by omega)
    have hmm := @run_makeMap Try.prog
    clear h
    go_enter Try.func6, Try.ntmps6
    go_wp2_with fail
    go_ret2
    exact new_world w m HP.out
end Go.Proofs.Ythnjkmjcacoajaa.Dk
end
