/- FrameBack answers true, walked with the plain law at hand: for every row of rows of bytes and cut. Condition: bytes. -/
import Derived.Test.YtgfjijfjlbjajaaFramePacksW
import Derived.Test.YtgfjijfjlbjajaaFrameBackR
namespace Go.Proofs.Ytgfjijfjlbjajaa.Ext
open Go.RowKit Go.Proofs.YtgfjijfjlbjajaaW.PrintWords Go.Proofs.YtgfjijfjlbjajaaW.PrintLast Go.Proofs.YtgfjijfjlbjajaaW.PrintMore Go.Proofs.Ytgfjijfjlbjajaa.Base Go.Proofs.Ytgfjijfjlbjajaa.Arr Go.Proofs.Ytgfjijfjlbjajaa.Mid Go.Proofs.Ytgfjijfjlbjajaa.BinMath Go.Proofs.Ytgfjijfjlbjajaa.BinLink Go.Proofs.Ytgfjijfjlbjajaa.FrameLink
set_option linter.unusedVariables false
set_option linter.unusedSimpArgs false
attribute [local go_sem] max2_int min2_int max_two min_two max_three min_three max_four min_four

def encorelaw04_FrameBack.f (l0 : List (List Int)) (a1 : Int) : Option Bool := if ∀ l ∈ l0, ∀ x ∈ l, 0 ≤ x ∧ x < 256 then some true else none
/-- a slice that came in: it reads so at w0 -/
def came (w0 : World) : Kd (List Int) where
  sz := 1
  E := []
  K := fun _ xs cs => ∃ A c, cs = [.slice A xs.length c] ∧ xs.length ≤ c ∧ (Kd.int .u8).C w0 A xs.length xs
  M := fun _ _ _ xs cs => ∃ A c, cs = [.slice A xs.length c] ∧ xs.length ≤ c ∧ (Kd.int .u8).C w0 A xs.length xs
  K_len := by
    rintro w x cs ⟨A, c, rfl, _⟩
    rfl
  K_one := by
    rintro w x cs ⟨A, c, rfl, _⟩ u hu
    rw [List.mem_singleton.1 hu]
    rfl
  K_below := fun _ h => h
  K_of_M := fun h => h
  M_mono := fun _ h => h
  M_bound := fun h => h
  M_move := fun _ h => h
  M_lower := fun _ h => h
theorem came_ne (w0 : World) {t : Nat} (h : 22 ≠ t) : ∀ q, q ∈ 22 :: (came w0).E → q ≠ t := fun q hq => by
  have : q = 22 := by simpa [came] using hq
  rw [this]
  exact h
theorem bring_nat (a : Int) (n : Nat) (hn : 0 < n) (hb : n ≤ 281474976710656) : ∃ m : Nat, m < n ∧ encoreref00_Bring.f a (n : Int) = some (m : Int) := by
  unfold encoreref00_Bring.f
  rw [if_neg (by omega), if_neg (by omega)]
  have h1 := Int.tmod_lt_of_pos a (show (0 : Int) < (n : Int) by omega)
  have h2 := Int.lt_tmod_of_pos a (show (0 : Int) < (n : Int) by omega)
  generalize Int.tmod a (n : Int) = q at *
  by_cases h : q < 0
  · rw [if_pos h]
    refine ⟨(q + n).toNat, by omega, ?_⟩
    congr 1
    unfold wrap64
    omega
  · rw [if_neg h]
    exact ⟨q.toNat, by omega, by congr 1; omega⟩
theorem infoInt : (Try.prog.info? 3).map (fun i => (i.zero, i.size, i.bytes)) = some (some (.int .i64 0), 1, 8) := by kernel_rfl
/-- the payloads ahead of the j-th -/
def pays (l0 : List (List Int)) (j : Nat) : List (List Int) := (l0.take j).map fun x => x.take 500
theorem pays_succ (l0 : List (List Int)) (j : Nat) (hj : j < l0.length) : pays l0 (j + 1) = pays l0 j ++ [(rd_L1 l0 (j : Int)).take 500] := by
  unfold pays rd_L1
  rw [List.take_succ_eq_append_getElem hj, List.map_append, Int.toNat_natCast, List.getD_eq_getElem?_getD, List.getElem?_eq_getElem hj]
  rfl
theorem pays_len (l0 : List (List Int)) (j : Nat) (hj : j ≤ l0.length) : (pays l0 j).length = j := by
  unfold pays
  rw [List.length_map, List.length_take]
  omega
theorem joined_le (l0 : List (List Int)) (j : Nat) : (joined (pays l0 j)).length ≤ 513 * (pays l0 j).length := by
  have : ∀ P : List (List Int), (∀ p ∈ P, p.length ≤ 500) → (joined P).length ≤ 513 * P.length := by
    intro P
    induction P with
    | nil => intro _; simp [joined]
    | cons p P ih =>
      intro h
      have h1 := ih (fun q hq => h q (by simp [hq]))
      have h2 := h p (by simp)
      have h3 := pk_len p
      have h4 := W_le p.length
      rw [joined_cons, List.length_append, List.length_cons]
      omega
  refine this _ (fun p hp => ?_)
  unfold pays at hp
  obtain ⟨x, _, rfl⟩ := List.mem_map.1 hp
  rw [List.length_take]
  omega
theorem take_min (x : List Int) : (if 500 < x.length then 500 else x.length) = (x.take 500).length ∧ (if (500 : Int) < (x.length : Int) then (500 : Int) else (x.length : Int)) = ((x.take 500).length : Int) := by
  rw [List.length_take]
  by_cases h : 500 < x.length
  · rw [if_pos h, if_pos (by omega)]
    exact ⟨by omega, by omega⟩
  · rw [if_neg h, if_neg (by omega)]
    exact ⟨by omega, by omega⟩
set_option maxHeartbeats 8000000 in
set_option maxRecDepth 100000 in
theorem back_calls (A0 : Option Addr) (c0 : Nat) (l0 : List (List Int)) (a1 : Int) (w : World) (hr0 : Kd.C (Kd.slice 5 (Kd.int .u8)) w A0 l0.length l0) (hc0 : l0.length ≤ c0) (hb : ∀ l ∈ l0, Bytes l) :
    Calls Try.prog 8 #[.slice A0 l0.length c0, .int .i64 a1] w fun e w' => e = .returned (.bool true) ∧ Below w.heap.size w w' := by
  have HR := Aside0.mk hr0
  have HB0 := Aside0.mk hb
  clear hr0 hb hc0
  go_enter Try.func8, Try.ntmps8
  go_wp2_with fail
  refine (encorelaw04_works.calls true _ rfl).mono ?_
  rintro e w1 ⟨rfl, hb1⟩
  have HB1 := Aside0.mk (below_alloc hb1 (.cells #[.int .i64 0] 3))
  have he := own_lit w1 w.heap.size 3 .i64 [0] hb1.size (by decide)
  have HE1 := Aside0.mk (show Kd.R (Kd.int .i64) 3 (w1.alloc (.cells #[.int .i64 0] 3)) w.heap.size (fun _ => True) (.slice (some ⟨w1.heap.size, 0, none⟩) 1 1) (endsL (pays l0 0)) from Kd.R_of_own he (fun _ _ => trivial))
  clear hb1 he
  go_wp2_with fail
  go_loopw [5, 6, 7, 8] (fun v5 v6 v7 i wr => ∃ j : Nat, j ≤ l0.length ∧ j ≤ 20 ∧ i = .int .i64 (j : Nat) ∧ Aside0 (Kd.R (Kd.int .u8) 5 wr w.heap.size (fun _ => True) v5 (joined (pays l0 j))) ∧ Aside0 (Kd.R (came w) 22 wr w.heap.size (fun _ => True) v6 (pays l0 j)) ∧ Aside0 (Kd.R (Kd.int .i64) 3 wr w.heap.size (fun _ => True) v7 (endsL (pays l0 j))) ∧ Aside0 (Below w.heap.size w wr)) (fun _ _ _ i _ => 21 - (intOf i).toNat)
  case atStart => exact ⟨0, by omega, by omega, rfl, ⟨Kd.R_nil _ _ _ _ _⟩, ⟨Kd.R_nil _ _ _ _ _⟩, HE1, HB1⟩
  case round =>
    obtain ⟨j, hj1, hj2, rfl, H5, H6, H7, HB⟩ := hrel
    clear HE1 HB1
    by_cases hc : j < l0.length ∧ j < 20
    · obtain ⟨hlt, hlt20⟩ := hc
      have d1 : decide ((j : Int) < (l0.length : Int)) = true := decide_eq_true (by omega)
      have d2 : decide (j < l0.length) = true := decide_eq_true hlt
      have d3 : decide ((j : Int) < 20) = true := decide_eq_true (by omega)
      have d4 : decide (j < 20) = true := decide_eq_true hlt20
      obtain ⟨ad, A, c, rfl, hx0, hxc, hxC⟩ := at_L1 HR.out (j : Int) (by omega) (by omega)
      rw [Int.toNat_natCast] at hx0
      have hmem : rd_L1 l0 (j : Int) ∈ l0 := by
        unfold rd_L1
        rw [Int.toNat_natCast, List.getD_eq_getElem?_getD, List.getElem?_eq_getElem hlt]
        exact List.getElem_mem _
      have hxb := HB0.out _ hmem
      have hps := pays_succ l0 j hlt
      generalize rd_L1 l0 (j : Int) = x at *
      have hx := pw_cell_below HB.out hx0
      obtain ⟨hm1, hm2⟩ := take_min x
      obtain ⟨i0, hi0, _, hsz0, _⟩ := info_parts infoU8
      have hpl : (x.take 500).length ≤ 500 ∧ (x.take 500).length ≤ x.length := by rw [List.length_take]; omega
      have hcut := cut_to (P := Try.prog) 22 5 .i64 Try.underlying22 hi0 A x.length c ((x.take 500).length : Int) (by omega) (by omega) hxc
      rw [Int.toNat_natCast] at hcut
      have HPC := Aside0.mk (show (x.take 500).length ≤ c ∧ Kd.C (Kd.int .u8) w A (x.take 500).length (x.take 500) from ⟨by omega, by
        have := C_take_any hxC (x.take 500).length hpl.2
        rwa [show x.take (x.take 500).length = x.take 500 by rw [List.length_take]; by_cases hh : 500 ≤ x.length; rw [Nat.min_eq_left hh]; rw [Nat.min_eq_right (by omega), List.take_of_length_le (by omega), List.take_of_length_le (by omega)]] at this⟩)
      have HXB := Aside0.mk (Bytes.take hxb 500)
      have HPS := Aside0.mk hps
      have HPL := Aside0.mk hpl
      clear hps hpl hxb hmem hx0 hxC hxc
      generalize x.take 500 = p at *
      go_wp2_with fail
      refine start_ (n := 12) (S := fun w' => w'.cell? (ad.add j) = some (.slice A x.length c)) (ds := []) #[false, false, false, false, false, false, false, false, false, false, false, false] (by kernel_rfl) rfl rfl (hx) (fun hHeld => ?_)
      refine pure_ (i := 0) (N := some 31) (v := ?_) (a' := ?_) #[true, false, false, false, false, false, false, false, false, false, false, false] rfl rfl (by kernel_rfl) (fun _ _ _ h => h) (Or.inl ⟨by rfl, ?_⟩) ?_ ?_
      rotate_left
      · intro w'
        go_simp
        with_reducible rfl
      rotate_left
      · simp only [Act.put, List.setIfInBounds_toArray, List.set_cons_zero, List.set_cons_succ, i64_w, i32_w]
        rfl
      refine pure_ (i := 1) (N := some 32) (v := ?_) (a' := ?_) #[true, true, false, false, false, false, false, false, false, false, false, false] rfl rfl (by kernel_rfl) (fun _ _ _ h => h) (Or.inl ⟨by rfl, ?_⟩) ?_ ?_
      rotate_left
      · intro w'
        go_simp
        with_reducible rfl
      rotate_left
      · simp only [Act.put, List.setIfInBounds_toArray, List.set_cons_zero, List.set_cons_succ, i64_w, i32_w]
        rfl
      refine pure_ (i := 2) (N := some 33) (v := ?_) (a' := ?_) #[true, true, true, false, false, false, false, false, false, false, false, false] rfl rfl (by kernel_rfl) (fun _ _ _ h => h) (Or.inl ⟨by rfl, ?_⟩) ?_ ?_
      rotate_left
      · intro w'
        go_simp
        with_reducible rfl
      rotate_left
      · simp only [Act.put, List.setIfInBounds_toArray, List.set_cons_zero, List.set_cons_succ, i64_w, i32_w]
        rfl
      refine pure_ (i := 4) (N := some 35) (v := ?_) (a' := ?_) #[true, true, true, false, true, false, false, false, false, false, false, false] rfl rfl (by kernel_rfl) (fun _ _ _ h => h) (Or.inl ⟨by rfl, ?_⟩) ?_ ?_
      rotate_left
      · intro w'
        go_simp
        with_reducible rfl
      rotate_left
      · simp only [Act.put, List.setIfInBounds_toArray, List.set_cons_zero, List.set_cons_succ, i64_w, i32_w]
        rfl
      refine pure_ (i := 5) (N := some 36) (v := ?_) (a' := ?_) #[true, true, true, false, true, true, false, false, false, false, false, false] rfl rfl (by kernel_rfl) (fun _ _ _ h => h) (Or.inl ⟨by rfl, ?_⟩) ?_ ?_
      rotate_left
      · intro w'
        go_simp
        with_reducible rfl
      rotate_left
      · simp only [Act.put, List.setIfInBounds_toArray, List.set_cons_zero, List.set_cons_succ, i64_w, i32_w]
        rfl
      refine pure_ (i := 6) (N := some 37) (v := ?_) (a' := ?_) #[true, true, true, false, true, true, true, false, false, false, false, false] rfl rfl (by kernel_rfl) (fun _ _ _ h => h) (Or.inl ⟨by rfl, ?_⟩) ?_ ?_
      rotate_left
      · intro w'
        go_simp
        with_reducible rfl
      rotate_left
      · simp only [Act.put, List.setIfInBounds_toArray, List.set_cons_zero, List.set_cons_succ, i64_w, i32_w]
        rfl
      refine take_ (i := 3) (N := some 34) (v := ?_) (a' := ?_) #[true, true, true, true, true, true, true, false, false, false, false, false] rfl rfl (by kernel_rfl) (fun _ _ _ h => h) (Or.inl ⟨by rfl, ?_⟩) hHeld ?_ ?_
      rotate_left
      · intro w' s0
        go_simp
        with_reducible rfl
      rotate_left
      · simp only [Act.put, List.setIfInBounds_toArray, List.set_cons_zero, List.set_cons_succ, i64_w, i32_w]
        rfl
      refine take_ (i := 7) (N := some 38) (v := ?_) (a' := ?_) #[true, true, true, true, true, true, true, true, false, false, false, false] rfl rfl (by kernel_rfl) (fun _ _ _ h => h) (Or.inl ⟨by rfl, ?_⟩) hHeld ?_ ?_
      rotate_left
      · intro w' s0
        go_simp
        with_reducible rfl
      rotate_left
      · simp only [Act.put, List.setIfInBounds_toArray, List.set_cons_zero, List.set_cons_succ, i64_w, i32_w]
        rfl
      refine pure_ (i := 8) (N := some 39) (v := ?_) (a' := ?_) #[true, true, true, true, true, true, true, true, true, false, false, false] rfl rfl (by kernel_rfl) (fun _ _ _ h => h) (Or.inl ⟨by rfl, ?_⟩) ?_ ?_
      rotate_left
      · intro w'
        go_simp
        with_reducible rfl
      rotate_left
      · simp only [Act.put, List.setIfInBounds_toArray, List.set_cons_zero, List.set_cons_succ, i64_w, i32_w]
        rfl
      refine pure_ (i := 9) (N := some 40) (v := ?_) (a' := ?_) #[true, true, true, true, true, true, true, true, true, true, false, false] rfl rfl (by kernel_rfl) (fun _ _ _ h => h) (Or.inl ⟨by rfl, ?_⟩) ?_ ?_
      rotate_left
      · intro w'
        go_simp
        with_reducible rfl
      rotate_left
      · simp only [Act.put, List.setIfInBounds_toArray, List.set_cons_zero, List.set_cons_succ, i64_w, i32_w]
        rfl
      refine pure_ (i := 10) (N := some 41) (v := ?_) (a' := ?_) #[true, true, true, true, true, true, true, true, true, true, true, false] rfl rfl (by kernel_rfl) (fun _ _ _ h => h) (Or.inl ⟨by rfl, ?_⟩) ?_ ?_
      rotate_left
      · intro w'
        go_simp
        with_reducible rfl
      rotate_left
      · simp only [Act.put, List.setIfInBounds_toArray, List.set_cons_zero, List.set_cons_succ, i64_w, i32_w]
        rfl
      refine pure_ (i := 11) (N := some 9) (v := ?_) (a' := ?_) #[true, true, true, true, true, true, true, true, true, true, true, true] rfl rfl (by kernel_rfl) (fun _ _ _ h => h) (Or.inl ⟨by rfl, ?_⟩) ?_ ?_
      rotate_left
      · intro w'
        go_simp
        with_reducible rfl
      rotate_left
      · simp only [Act.put, List.setIfInBounds_toArray, List.set_cons_zero, List.set_cons_succ, i64_w, i32_w]
        rfl
      refine done_ (by kernel_rfl) ?_
      go_wp2_with fail
      have HB2 := Aside0.mk (below_drew HB.out)
      have H52 := Aside0.mk (Kd.R_drew H5.out)
      have H62 := Aside0.mk (Kd.R_drew H6.out)
      have H72 := Aside0.mk (Kd.R_drew H7.out)
      clear H5 H6 H7 HB hHeld hx hcut hm1 hm2
      generalize wr.drew = w2 at *
      refine (frame_Pack.calls A c p (pk p) 0 w2 (Kd.C_below HPC.out.2 HB2.out) HPC.out.1 (pack_eq HXB.out (by have := HPL.out.1; omega))).mono ?_
      rintro e w3 ⟨v3, rfl, h3, b3⟩
      obtain ⟨A3, c3, rfl⟩ := Kd.R_slice h3
      have HB3 := Aside0.mk (below_then HB2.out HB2.out.size b3)
      have H53 := Aside0.mk (Kd.R_below H52.out b3)
      have H63 := Aside0.mk (Kd.R_below H62.out b3)
      have H73 := Aside0.mk (Kd.R_below H72.out b3)
      have HQ3 := Aside0.mk (Kd.R_reads' h3)
      have hsz : frame_Size.f (p.length : Int) = some ((pk p).length : Int) := by
        rw [size_eq]
        unfold sizeR
        have := HPL.out.1
        rw [if_neg (by omega), if_neg (by omega), Int.toNat_natCast, pk_len]
        congr 1
      have HSZ := Aside0.mk hsz
      have HPK := Aside0.mk (show (pk p).length ≤ 513 by have := pk_len p; have := W_le p.length; have := HPL.out.1; omega)
      have HJS := Aside0.mk (joined_snoc (pays l0 j) p)
      have HJL := Aside0.mk (show (joined (pays l0 j)).length ≤ 10260 by have h1 := joined_le l0 j; rw [pays_len l0 j hj1] at h1; omega)
      have HEL := Aside0.mk (show (endsL (pays l0 j)).length ≤ 21 by rw [endsL_len, pays_len l0 j hj1]; omega)
      have HPN := Aside0.mk (show (pays l0 j).length ≤ 20 by rw [pays_len l0 j hj1]; omega)
      have HES := Aside0.mk (endsL_snoc (pays l0 j) p)
      clear h3 b3 H52 H62 H72 HB2 hsz
      generalize pays l0 j = P at *
      generalize endsL P = E at *
      generalize joined P = J at *
      generalize pk p = k at *
      have t1 : (((k.length : Nat) : Int) != ((k.length : Nat) : Int)) = false := by simp
      have t2 : (k.length != k.length) = false := by simp
      go_wp2_with fail
      refine (frame_Size.calls (p.length : Int) (k.length : Int) w3 HSZ.out).mono ?_
      rintro e w4 ⟨rfl, hb4⟩
      have HB4 := Aside0.mk (below_then HB3.out HB3.out.size hb4)
      have H54 := Aside0.mk (Kd.R_below H53.out hb4)
      have H64 := Aside0.mk (Kd.R_below H63.out hb4)
      have H74 := Aside0.mk (Kd.R_below H73.out hb4)
      have HQ4 := Aside0.mk (Kd.C_below HQ3.out.2.2 hb4)
      clear hb4 HB3 H53 H63 H73
      obtain ⟨JK, hJK⟩ : ∃ q, q = J ++ k := ⟨_, rfl⟩
      have HJK := Aside0.mk hJK
      clear hJK
      go_wp2_with (first | ((with_reducible refine gate_builtin (b := .append) (xs := #[.tmp 57, .tmp 58]) rfl ?_); at_builtin; refine Kd.R_append_rows (Kd.int .u8) (w0 := w) w.heap.size rfl (.tmp 57) (.tmp 58) 22 5 (.int .u8 0) 1 rfl Try.underlying22 infoU8 rfl (by decide) (by omega) u5 J k A3 k.length c3 (fun _ => True) (fun _ => False) rfl rfl H54.out HQ4.out (fun _ _ h => h) (fun _ h => h.elim) (fun _ _ => trivial) HB4.out HB4.out.size ?aL ?_; (case aL => have := HJL.out; have := HPK.out; omega); intro v5 w5 ho hb hg hat; rw [← HJK.out] at ho; have H55 := Aside0.mk ho; have HB5 := Aside0.mk hb; have H65 := Aside0.mk (Kd.R_over' H64.out (Kd.R_typed H54.out) (came_ne w (by decide)) hg); have H75 := Aside0.mk (Kd.R_over' H74.out (Kd.R_typed H54.out) (by decide) hg); clear ho hb hg hat H54 H64 H74 HB4; obtain ⟨A55, c55, e55⟩ := Kd.R_slice H55.out; subst e55) | ((with_reducible refine gate_builtin (b := .append) (xs := #[.tmp 60, .tmp 62]) rfl ?_); at_builtin; refine Kd.R_append (came w) (w0 := w) w.heap.size rfl (.tmp 60) (.tmp 62) 38 22 (.slice none 0 0) 24 rfl Try.underlying38 infoRow rfl Nat.zero_lt_one (by omega) u6 P p [.slice A p.length c] (fun _ => True) (fun _ => False) rfl rfl ⟨A, c, rfl, HPC.out.1, HPC.out.2⟩ (fun _ h => h.elim) (fun _ _ => trivial) H65.out HB5.out HB5.out.size ?aM ?_; (case aM => have := HPN.out; omega); intro v6 w6 ho hb hg hat; have H66 := Aside0.mk ho; have HB6 := Aside0.mk hb; have H56 := Aside0.mk (Kd.R_over' H55.out (Kd.R_typed H65.out) (by decide) hg); have H76 := Aside0.mk (Kd.R_over' H75.out (Kd.R_typed H65.out) (by decide) hg); clear ho hb hg hat H55 H65 H75 HB5) | ((with_reducible refine gate_builtin (b := .append) (xs := #[.tmp 64, .tmp 67]) rfl ?_); at_builtin; refine Kd.R_append (Kd.int .i64) (w0 := w) w.heap.size rfl (.tmp 64) (.tmp 67) 42 3 (.int .i64 0) 8 rfl Try.underlying42 infoInt rfl (by decide) (by omega) u7 E (JK.length : Int) [.int .i64 (JK.length : Int)] (fun _ => True) (fun _ => False) rfl rfl rfl (fun _ h => h.elim) (fun _ _ => trivial) H76.out HB6.out HB6.out.size ?aN ?_; (case aN => have := HEL.out; omega); intro v7 w7 ho hb hg hat; have H77 := Aside0.mk ho; have HB7 := Aside0.mk hb; have H57 := Aside0.mk (Kd.R_over' H56.out (Kd.R_typed H76.out) (by decide) hg); have H67 := Aside0.mk (Kd.R_over' H66.out (Kd.R_typed H76.out) (came_ne w (by decide)) hg); clear ho hb hg hat H56 H66 H76 HB6))
      exact ⟨⟨j + 1, by omega, by omega, by rw [show ((j + 1 : Nat) : Int) = (j : Int) + 1 by omega], ⟨by rw [HPS.out, HJS.out, ← HJK.out]; exact H57.out⟩, ⟨by rw [HPS.out]; exact H67.out⟩, ⟨by rw [HPS.out, HES.out, HJS.out, ← HJK.out]; exact H77.out⟩, HB7⟩, by simp [intOf]; omega⟩
    · have hd1 : (decide ((j : Int) < (l0.length : Int)) = false ∧ decide (j < l0.length) = false) ∨ ((decide ((j : Int) < (l0.length : Int)) = true ∧ decide (j < l0.length) = true) ∧ decide ((j : Int) < 20) = false ∧ decide (j < 20) = false) := by
        by_cases h : j < l0.length
        · exact .inr ⟨⟨decide_eq_true (by omega), decide_eq_true h⟩, decide_eq_false (by omega), decide_eq_false (by omega)⟩
        · exact .inl ⟨decide_eq_false (by omega), decide_eq_false h⟩
      have hPB : ∀ p ∈ pays l0 j, Bytes p ∧ p.length ≤ 8192 := fun p hp => by
        unfold pays at hp
        obtain ⟨x, hx, rfl⟩ := List.mem_map.1 hp
        exact ⟨(HB0.out x (List.mem_of_mem_take hx)).take 500, by rw [List.length_take]; omega⟩
      have hJL : (joined (pays l0 j)).length ≤ 10260 := by have h1 := joined_le l0 j; rw [pays_len l0 j hj1] at h1; omega
      have hPN : (pays l0 j).length ≤ 20 := by rw [pays_len l0 j hj1]; omega
      have hPS : ∀ p ∈ pays l0 j, p.length ≤ 500 := fun p hp => by
        unfold pays at hp
        obtain ⟨x, hx, rfl⟩ := List.mem_map.1 hp
        rw [List.length_take]
        omega
      clear hc
      generalize pays l0 j = P at *
      have HPB := Aside0.mk hPB
      have HPS := Aside0.mk hPS
      have HPN := Aside0.mk hPN
      have HEL := Aside0.mk (endsL_len P)
      have HJB := Aside0.mk (joined_bytes hPB)
      obtain ⟨n1, hn1⟩ : ∃ n : Nat, n = (joined P).length + 1 := ⟨_, rfl⟩
      obtain ⟨at_, hat, hbr⟩ := bring_nat a1 n1 (by omega) (by omega)
      have HBR := Aside0.mk hbr
      have hat2 : at_ ≤ (joined P).length := by omega
      have e1 : wrap64 (((joined P).length : Int) + 1) = (n1 : Int) := by unfold wrap64; omega
      have HN1 := Aside0.mk hn1
      obtain ⟨A5, c5, rfl⟩ := Kd.R_slice H5.out
      obtain ⟨A6, c6, rfl⟩ := Kd.R_slice H6.out
      obtain ⟨g7, c7, e7, -, -, -⟩ := Kd.R_form H7.out (by rw [endsL_len]; omega)
      subst e7
      have hE : ∀ q : Nat, q ≤ P.length → rdOf 0 (endsL P) (q : Int) = ((joined (P.take q)).length : Int) := fun q hq => endsL_at P q hq
      have HE := Aside0.mk hE
      have hall := all_back P ((joined P).take at_).length.succ at_ [] hPB hat2 (by rw [List.length_take]; omega)
      have HALL := Aside0.mk hall
      have HW := Aside0.mk (And.intro (whole_le P at_) (whole_iff P at_))
      clear hPB hPS hn1 hbr hat hE hall
      have HJL := Aside0.mk hJL
      have HAT := Aside0.mk hat2
      generalize endsL P = E at *
      generalize joined P = J at *
      obtain ⟨N, hN⟩ : ∃ n, n = whole P at_ := ⟨_, rfl⟩
      rw [← hN] at HALL
      have HN := Aside0.mk hN
      clear hN
      have hNle : N ≤ P.length := by rw [HN.out]; exact HW.out.1
      obtain ⟨Q, hQ⟩ : ∃ q, q = P.take N := ⟨_, rfl⟩
      have hQl : Q.length = N := by rw [hQ, List.length_take]; omega
      have hQi : ∀ i : Nat, i < Q.length → rd_L1 Q (i : Int) = P.getD i [] ∧ (rd_L1 Q (i : Int)).length ≤ 500 := fun i hi => by
        have e1 : rd_L1 Q (i : Int) = P.getD i [] := by
          unfold rd_L1
          rw [Int.toNat_natCast, hQ, List.getD_eq_getElem?_getD, List.getD_eq_getElem?_getD, List.getElem?_take_of_lt (by omega)]
        refine ⟨e1, ?_⟩
        rw [e1, List.getD_eq_getElem?_getD, List.getElem?_eq_getElem (by omega)]
        exact HPS.out _ (List.getElem_mem _)
      have hEQ := HE.out N hNle
      rw [← hQ] at HALL hEQ
      have hQat : (joined Q).length ≤ at_ := by rw [hQ]; exact (HW.out.2 N hNle).mpr (Nat.le_of_eq HN.out)
      subst hQl
      generalize (joined Q).length = eQ at *
      have HQI := Aside0.mk hQi
      have hltJ : (J.take at_).length = at_ := by rw [List.length_take]; omega
      have hcall : ∀ W : World, Kd.C (Kd.int .u8) W A5 J.length J → Calls Try.prog 21 #[.slice A5 at_ c5] W fun e w' => ∃ v0_ : Value, e = .returned (.tuple #[v0_, .int .i64 ((at_ - eQ : Nat) : Int), .int .i64 0]) ∧ Kd.S (Kd.slice 5 (Kd.int .u8)) 22 w' W.heap.size (fun _ => True) v0_ Q ∧ Below W.heap.size W w' := fun W hC => by
        have hcc := (Kd.R_reads' H5.out).2.1
        have hf := all_eq (HJB.out.take at_) (by rw [hltJ]; omega)
        rw [show allR ((J.take at_).length + 1) (J.take at_) [] = _ from HALL.out, List.nil_append] at hf
        have := frame_All.calls A5 c5 (J.take at_) Q _ 0 W (by rw [hltJ]; exact C_take_any hC at_ hat2) (by rw [hltJ]; omega) hf
        rw [hltJ] at this
        exact this
      have HCALL := Aside0.mk hcall
      obtain ⟨i0, hi0, _, hsz0, _⟩ := info_parts infoU8
      have hcut := cut_to (P := Try.prog) 22 5 .i64 Try.underlying22 hi0 A5 J.length c5 (at_ : Int) (by omega) (by omega) (Kd.R_reads' H5.out).2.1
      rw [Int.toNat_natCast] at hcut
      have HCUT := Aside0.mk hcut
      have hbr2 : encoreref00_Bring.f a1 ((J.length : Int) + 1) = some (at_ : Int) := by rw [show (J.length : Int) + 1 = ((n1 : Nat) : Int) by rw [HN1.out]; omega]; exact HBR.out
      have HBR2 := Aside0.mk hbr2
      have HEQ := Aside0.mk hEQ
      have HQAT := Aside0.mk hQat
      have HNLE := Aside0.mk hNle
      clear hQ hQi hEQ hQat hltJ hcall hcut hbr2 HBR e1 HALL hNle
      rcases hd1 with ⟨d1, d2⟩ | ⟨⟨d1, d2⟩, d3, d4⟩
      all_goals
        go_wp2_with fail
        refine (encoreref00_Bring.calls a1 ((J.length : Int) + 1) at_ wr HBR2.out).mono ?_
        rintro e w2 ⟨rfl, ⟨d2_, rfl⟩⟩
        have HB2 := Aside0.mk (pw_below_drewN HB.out d2_)
        have H52 := Aside0.mk (Kd.R_drewN H5.out d2_)
        have H62 := Aside0.mk (Kd.R_drewN H6.out d2_)
        have H72 := Aside0.mk (Kd.R_drewN H7.out d2_)
        clear H5 H6 H7 HB
        generalize wr.drewN d2_ = w2 at *
        go_wp2_with fail
        go_loop [13] (fun v => ∃ n : Nat, n ≤ Q.length ∧ v = .int .i64 (n : Nat)) (fun v => Q.length - (intOf v).toNat)
        case atStart => exact ⟨0, by omega, rfl⟩
        case round =>
          obtain ⟨n, hn, rfl⟩ := hrel
          have hn20 : n ≤ 20 := by have := HNLE.out; have := HPN.out; omega
          by_cases hlt : n < Q.length
          · have f1 : decide ((n : Int) + 1 < (E.length : Int)) = true := decide_eq_true (by have := HEL.out; have := HNLE.out; omega)
            have f2 : decide (n + 1 < E.length) = true := decide_eq_true (by have := HEL.out; have := HNLE.out; omega)
            have hcell := (Kd.R_celln (0 : Int) H72.out ((n + 1 : Nat) : Int) (by omega) (by have := HEL.out; have := HNLE.out; omega)).1
            rw [Int.toNat_natCast, HE.out (n + 1) (by have := HNLE.out; omega)] at hcell
            have hle : (joined (P.take (n + 1))).length ≤ at_ := (HW.out.2 (n + 1) (by have := HNLE.out; omega)).mpr (by rw [← HN.out]; omega)
            generalize (joined (P.take (n + 1))).length = en at *
            have f3 : decide ((en : Int) ≤ (at_ : Int)) = true := decide_eq_true (by omega)
            have f4 : decide (en ≤ at_) = true := decide_eq_true hle
            have b0 := eq_true (show (0 : Int) ≤ (n : Int) + 1 by omega)
            have b1 := eq_true (of_decide_eq_true f1)
            go_wp2_with fail
            exact ⟨⟨n + 1, by omega, by rw [show ((n + 1 : Nat) : Int) = (n : Int) + 1 by omega]⟩, by simp [intOf]; omega⟩
          · obtain rfl : n = Q.length := by omega
            have hd5 : (decide (((Q.length : Nat) : Int) + 1 < (E.length : Int)) = false ∧ decide (Q.length + 1 < E.length) = false) ∨ ∃ en : Nat, (decide (((Q.length : Nat) : Int) + 1 < (E.length : Int)) = true ∧ decide (Q.length + 1 < E.length) = true) ∧ w2.cell? ⟨g7, Q.length + 1, none⟩ = some (.int .i64 (en : Int)) ∧ decide ((en : Int) ≤ (at_ : Int)) = false ∧ decide (en ≤ at_) = false := by
              by_cases h : Q.length < P.length
              · have hcell := (Kd.R_celln (0 : Int) H72.out ((Q.length + 1 : Nat) : Int) (by omega) (by have := HEL.out; omega)).1
                rw [Int.toNat_natCast, HE.out (Q.length + 1) (by omega)] at hcell
                have hle : ¬ (joined (P.take (Q.length + 1))).length ≤ at_ := fun hc => by
                  have := (HW.out.2 (Q.length + 1) (by omega)).mp hc
                  have := HN.out
                  omega
                exact .inr ⟨_, ⟨decide_eq_true (by have := HEL.out; omega), decide_eq_true (by have := HEL.out; omega)⟩, hcell, decide_eq_false (by omega), decide_eq_false hle⟩
              · exact .inl ⟨decide_eq_false (by have := HEL.out; have := HNLE.out; omega), decide_eq_false (by have := HEL.out; have := HNLE.out; omega)⟩
            have hcut := HCUT.out
            have hce := (Kd.R_celln (0 : Int) H72.out ((Q.length : Nat) : Int) (by omega) (by have := HEL.out; have := HNLE.out; omega)).1
            rw [Int.toNat_natCast] at hce
            have hce2 := hce.trans (congrArg (fun z => some (Value.int .i64 z)) HEQ.out)
            have HCE := Aside0.mk hce2
            clear hce hce2
            have hq1 : ((Q.length : Nat) : Int) < (E.length : Int) := by have := HEL.out; have := HNLE.out; omega
            have HQ1 := Aside0.mk hq1
            clear hq1
            rcases hd5 with ⟨f1, f2⟩ | ⟨en, ⟨f1, f2⟩, hcell, f3, f4⟩
            all_goals
              have b0 := eq_true (show (0 : Int) ≤ ((Q.length : Nat) : Int) + 1 by omega)
              try have b1 := eq_true (of_decide_eq_true f1)
              go_wp2_with fail
              refine (HCALL.out w2 (Kd.R_reads' H52.out).2.2).mono ?_
              rintro e w3 ⟨v8, rfl, h8, b3⟩
              obtain ⟨A8, c8, rfl⟩ := Kd.S_slice h8
              have HB3 := Aside0.mk (below_then HB2.out HB2.out.size b3)
              have H63 := Aside0.mk (Kd.R_below H62.out b3)
              have H8 := Aside0.mk (Kd.S_reads' h8)
              have hce := pw_cell_below b3 HCE.out
              have hq1 := HQ1.out
              have hq2 := eq_true hq1
              clear h8 b3
              have hL : ((at_ - eQ : Nat) : Int) = (at_ : Int) - (eQ : Int) := by have := HQAT.out; omega
              have g1 : (((at_ - eQ : Nat) : Int) != (at_ : Int) - (eQ : Int)) = false := by rw [hL]; simp
              have hat10 : at_ ≤ 10260 := by omega
              have heq10 : eQ ≤ at_ := HQAT.out
              generalize at_ - eQ = lf at *
              clear hL
              have g2 : (((Q.length : Nat) : Int) != ((Q.length : Nat) : Int)) = false := by simp
              have g3 : (Q.length != Q.length) = false := by simp
              go_wp2_with fail
              clear hq1 hq2 hce g1 g2 g3 hat10 heq10 f1 f2 b0
              try clear b1
              try clear f3
              try clear f4
              try clear hcell
              clear hcut
              go_loopw [17] (fun v wr => ∃ i : Nat, i ≤ Q.length ∧ v = .int .i64 (i : Nat) ∧ Drawn0 w3 wr) (fun v _ => Q.length - (intOf v).toNat)
              case atStart => exact ⟨0, by omega, rfl, Drawn0.refl _⟩
              case round =>
                obtain ⟨i, hi, rfl, ⟨⟨m1, rfl⟩⟩⟩ := hrel
                by_cases hlt3 : i < Q.length
                · have g4 : decide ((i : Int) < ((Q.length : Nat) : Int)) = true := decide_eq_true (by omega)
                  have g5 : decide (i < Q.length) = true := decide_eq_true hlt3
                  have g6 := eq_true (show (0 : Int) ≤ (i : Int) by omega)
                  have g7' := eq_true (show (i : Int) < ((Q.length : Nat) : Int) by omega)
                  have hi20 : i ≤ 20 := by have := HNLE.out; omega
                  obtain ⟨ad8, A9, c9, rfl, hc9, hl9, hC9⟩ := at_L1 H8.out.2.2 (i : Int) (by omega) (by omega)
                  rw [Int.toNat_natCast] at hc9
                  obtain ⟨g6_, c6', e6, -, -, -⟩ := Kd.R_form H63.out (by have := HNLE.out; omega)
                  injection e6 with e61 _ e63
                  subst e61; subst e63
                  obtain ⟨cs, _, ⟨A10, c10, rfl, hl10, hC10⟩, hc10o, _⟩ := Kd.R_elem H63.out ([] : List Int) (i : Int) (by omega) (by have := HNLE.out; omega)
                  have hc10 := hc10o 0 _ rfl
                  clear hc10o
                  rw [Int.toNat_natCast] at hc10 hl10 hC10
                  rw [show i * (came w).sz + 0 = i by show i * 1 + 0 = i; omega] at hc10
                  obtain ⟨hqi, hql⟩ := HQI.out i hlt3
                  rw [← hqi] at hc10
                  rw [← hqi] at hl10 hC10
                  have HC9 := Aside0.mk (And.intro hl9 hC9)
                  have HC10 := Aside0.mk (And.intro hl10 (Kd.C_below hC10 HB3.out))
                  have HQL := Aside0.mk hql
                  have g8 := eq_true (show (i : Int) < ((P.length : Nat) : Int) by have := HNLE.out; omega)
                  clear hqi hql hl9 hC9 hl10 hC10
                  generalize rd_L1 Q (i : Int) = x at *
                  go_wp2_with fail
                  repeat (go_quiet (first | (go_at_call 13; (with_reducible refine (encoreref00_EqBytes.calls (x.length + 1) A9 c9 x A10 c10 x true _ ?side1 HC9.out.1 ?side3 HC10.out.1 (eq_same x (by have := HQL.out; omega) _ (by omega))).mono ?_); (case side1 => repeat (first | exact HC9.out.2 | (with_reducible refine Kd.C_alloc ?_ _) | (with_reducible refine Kd.C_drewN ?_ _) | (with_reducible refine Kd.C_drew ?_))); (case side3 => repeat (first | exact HC10.out.2 | (with_reducible refine Kd.C_alloc ?_ _) | (with_reducible refine Kd.C_drewN ?_ _) | (with_reducible refine Kd.C_drew ?_))); rintro e w' ⟨rfl, ⟨nd, rfl⟩⟩; (try first | exact ⟨rfl, _, World.drewN_drewN _ _ _⟩ | exact ⟨rfl, _, Eq.trans (World.drewN_drewN _ _ _) (congrArg (World.drewN _) (Nat.add_assoc _ _ _))⟩))); try go_wp2_with fail)
                  exact ⟨⟨i + 1, by omega, by rw [show ((i + 1 : Nat) : Int) = (i : Int) + 1 by omega], (by repeat (first | exact Drawn0.refl _ | apply Drawn0.step))⟩, by simp [intOf]; omega⟩
                · obtain rfl : i = Q.length := by omega
                  have g4 : decide (((Q.length : Nat) : Int) < ((Q.length : Nat) : Int)) = false := by simp
                  have g5 : decide (Q.length < Q.length) = false := by simp
                  go_wp2_with fail
                  go_ret
                  exact ⟨rfl, pw_below_drewN HB3.out m1⟩
theorem encorelaw04_FrameBack.calls (A0 : Option Addr) (c0 : Nat) (l0 : List (List Int)) (a1 : Int) (r : Bool) (w : World) (hr0 : Kd.C (Kd.slice 5 (Kd.int .u8)) w A0 l0.length l0) (hc0 : l0.length ≤ c0) (h : encorelaw04_FrameBack.f l0 a1 = some r) :
    Calls Try.prog 8 #[.slice A0 l0.length c0, .int .i64 a1] w fun e w' => e = .returned (.bool r) ∧ Below w.heap.size w w' := by
  unfold encorelaw04_FrameBack.f at h
  split at h
  case isTrue hc =>
    obtain rfl := Option.some.inj h
    exact back_calls A0 c0 l0 a1 w hr0 hc0 hc
  case isFalse => cases h
end Go.Proofs.Ytgfjijfjlbjajaa.Ext
