/- encorelaw05.StripMixes, walked with the plain law at hand. Condition: its parameter's row as MixRow says. -/
import Derived.Deep.Slices
import Derived.Test.YtfkndnocjelhgaaMixLaw
import Derived.Test.YtfkndnocjelhgaaWorks5
namespace Go.Proofs.Ytfkndnocjelhgaa.Ext
open Go Go.RowKit Go.Proofs.YtfkndnocjelhgaaW.PrintWords Go.Proofs.YtfkndnocjelhgaaW.PrintLast Go.Proofs.YtfkndnocjelhgaaW.PrintMore Go.Proofs.Ytfkndnocjelhgaa.Base Go.Proofs.Ytfkndnocjelhgaa.Arr
set_option linter.unusedVariables false
set_option linter.unusedSimpArgs false

theorem bring_nat (i n : Int) (hn : 0 < n) (hn2 : n ≤ 9223372036854775807) : ∃ K : Nat, encoreref00_Bring.f i n = some (K : Int) ∧ (K : Int) < n := by
  unfold encoreref00_Bring.f
  rw [if_neg (by omega), if_neg (by omega)]
  have h1 : Int.tmod i n < n := Int.tmod_lt_of_pos i hn
  have h2 : -n < Int.tmod i n := by
    have := Int.tmod_lt_of_pos (-i) hn
    rw [Int.neg_tmod] at this
    omega
  split
  · refine ⟨(Int.tmod i n + n).toNat, ?_, by omega⟩
    have : wrap64 (Int.tmod i n + n) = Int.tmod i n + n := by unfold wrap64; omega
    rw [this, Int.toNat_of_nonneg (by omega)]
  · exact ⟨(Int.tmod i n).toNat, by rw [Int.toNat_of_nonneg (by omega)], by omega⟩
/-- what a law's []Mix is: Gen, Epoch, Data, Cut -/
abbrev MixT := Int × Int × Int × Int
def MixRow (W : World) (A : Option Addr) (l : List MixT) : Prop := ∀ j d, l[j]? = some d → ∃ ad, A = some ad ∧
  (W.cell? (ad.add (j * 4)) = some (.int .i64 d.1) ∧ W.cell? (ad.add (j * 4 + 1)) = some (.int .i64 d.2.1) ∧ W.cell? (ad.add (j * 4 + 2)) = some (.int .u8 d.2.2.1) ∧ W.cell? (ad.add (j * 4 + 3)) = some (.int .i64 d.2.2.2)) ∧ 0 ≤ d.2.2.1 ∧ d.2.2.1 < 256
theorem madd_cell (ad : Addr) (m i : Nat) : ad.add (m + (i + 1)) = ⟨(ad.add m).block, (ad.add m).off + (i + 1), none⟩ := by
  rw [← Go.Deep.add_add]
  unfold Addr.add
  rw [if_neg (by omega)]
theorem mix_cells {W : World} {ad : Addr} {m : Nat} {v0 v1 v2 v3 : Value} (h : W.cell? (ad.add m) = some v0 ∧ W.cell? (ad.add (m + 1)) = some v1 ∧ W.cell? (ad.add (m + 2)) = some v2 ∧ W.cell? (ad.add (m + 3)) = some v3) :
    W.cell? (ad.add m) = some v0 ∧ W.cell? ⟨(ad.add m).block, (ad.add m).off + 1, none⟩ = some v1 ∧ W.cell? ⟨(ad.add m).block, (ad.add m).off + 2, none⟩ = some v2 ∧ W.cell? ⟨(ad.add m).block, (ad.add m).off + 3, none⟩ = some v3 := by
  rw [← madd_cell ad m 0, ← madd_cell ad m 1, ← madd_cell ad m 2]
  exact h
/-- a row of bytes of one's own, as the block that it is -/
theorem own_block {W : World} {base : Nat} {ok : Nat → Prop} {v : Value} {X : List Int} (h : Kd.R (Kd.int .u8) 5 W base ok v X) (hX : 0 < X.length) :
    ∃ g c cur, v = .slice (some ⟨g, 0, none⟩) X.length c ∧ base ≤ g ∧ g < W.heap.size ∧ W.heap[g]? = some (.cells (nums .u8 X ++ cur).toArray 5 (0, 0)) ∧ X.length ≤ c ∧ c ≤ maxLen ∧ X.length + cur.length = c ∧ ok g := by
  have ho := Kd.own_of_R h
  have hlt := own_lt ho
  obtain ⟨h1, ⟨-, h2⟩ | ⟨g, c, cur, rfl, hb, hh, hc, hm, hs, ht⟩⟩ := ho
  · omega
  · have hs' : cur.size = c := by omega
    have ht' : cur.toList.take X.length = nums .u8 X := by rw [Nat.mul_one] at ht; exact ht
    refine ⟨g, c, cur.toList.drop X.length, rfl, hb, hlt g rfl, ?_, hc, hm, ?_, h.1 g rfl⟩
    · rw [← ht', List.take_append_drop, Array.toArray_toList]; exact hh
    · have e : cur.toList.length = cur.size := Array.length_toList
      rw [List.length_drop]; omega
theorem block_own {W : World} {base g c : Nat} {ok : Nat → Prop} {X : List Int} {cur : List Value} (hb : base ≤ g) (hh : W.heap[g]? = some (.cells (nums .u8 X ++ cur).toArray 5 (0, 0))) (hc : X.length ≤ c) (hm : c ≤ maxLen) (hl : X.length + cur.length = c) (hok : ok g) :
    Kd.R (Kd.int .u8) 5 W base ok (.slice (some ⟨g, 0, none⟩) X.length c) X := by
  refine Kd.R_of_own ⟨?_, .inr ⟨g, c, _, rfl, hb, hh, hc, hm, ?_, ?_⟩⟩ (fun k hk => ?_)
  · simp [encs]
  · simp [nums]; omega
  · show List.take (X.length * 1) (nums .u8 X ++ cur) = _
    rw [Nat.mul_one, List.take_append_of_le_length (by rw [nums_length]; exact Nat.le_refl _), List.take_of_length_le (by rw [nums_length]; exact Nat.le_refl _)]
    rfl
  · have : g = k := by simpa [Value.ownBlock] using hk
    rw [← this]; exact hok
theorem splice_new (X C : List Int) (cur : List Value) (n : Nat) (hC : C.length = 64) (hX : X.length = 64) (hn : n ≤ 64) : splice (nums .u8 X ++ cur) 0 (nums .u8 (C.take n)) = nums .u8 (C.take n ++ X.drop n) ++ cur := by
  have hl : (nums .u8 (C.take n)).length = n := by rw [nums_length, List.length_take]; omega
  unfold splice
  rw [hl, Nat.zero_add, List.take_zero, List.nil_append, List.drop_append_of_le_length (by rw [nums_length]; omega), nums_append, List.append_assoc]
  congr 2
  simp [nums]
theorem mod_split (a y : Nat) (h : y < 4294967296) : (a * 4294967296 + y) % 4294967296 = y := by rw [Nat.mul_comm, Nat.mul_add_mod, Nat.mod_eq_of_lt h]
theorem front_mixS {X : List Int} {G : Nat} (h : MixS X G) : ∃ F1 F2 : Nat, strip_Front.f X = some ((F1 : Int), (F2 : Int), 0) ∧ F2 < 4294967296 ∧ B X 4 * 16777216 + B X 5 * 65536 + B X 6 * 256 + B X 7 = F2 := by
  refine ⟨stampV X / 4294967296, stampV X % 4294967296, ?_, Nat.mod_lt _ (by decide), ?_⟩
  · unfold strip_Front.f
    rw [if_pos h.len, if_pos (bytes_to h.by_)]
    rfl
  · have b : ∀ i, B X i < 256 := B_lt h.by_
    have b4 := b 4; have b5 := b 5; have b6 := b 6; have b7 := b 7
    have e := stamp_B X
    have hlt : B X 4 * 16777216 + B X 5 * 65536 + B X 6 * 256 + B X 7 < 4294967296 := Nat.lt_of_not_le fun hh => by clear e; omega
    rw [e]
    exact (mod_split _ _ hlt).symm
theorem src_cells {w : World} {ad : Addr} {C : List Int} (h : Kd.C (Kd.int .u8) w (some ad) C.length C) (n : Nat) : ∀ j v, (nums .u8 (C.take n))[j]? = some v → w.cell? (ad.add j) = some v := fun j v hv => by
  unfold nums at hv
  rw [List.getElem?_map] at hv
  obtain ⟨x, hx, rfl⟩ := Option.map_eq_some_iff.1 hv
  rw [List.getElem?_take] at hx
  split at hx
  · have hj := (List.getElem?_eq_some_iff.1 hx).1
    obtain ⟨ad', e, hc⟩ := Kd.at_int h (j : Int) (by omega) (by omega)
    injection e with e
    subst e
    rw [Int.toNat_natCast] at hc
    rw [hc]
    unfold rd
    rw [Int.toNat_natCast, List.getD_eq_getElem?_getD, hx]
    rfl
  · cases hx
theorem gen_bound {G j q : Nat} (h : G ≤ 1 + j * 1048576) (hj : j < q) (hq : q ≤ 40) : G ≤ 40894465 := by omega
theorem wrap_nat {a b : Nat} (h : a + b ≤ 9223372036854775807) : wrap64 ((a : Int) + (b : Int)) = ((a + b : Nat) : Int) := by unfold wrap64; omega
theorem wrap_one {a : Nat} (h : a + 1 ≤ 9223372036854775807) : wrap64 ((a : Int) + 1) = ((a + 1 : Nat) : Int) := by unfold wrap64; omega
set_option maxHeartbeats 4000000 in
set_option maxRecDepth 100000 in
theorem mixes_calls (A0 : Option Addr) (c0 : Nat) (l : List MixT) (w : World) (hr : MixRow w A0 l) (hc : l.length ≤ c0) (hm : l.length ≤ 9223372036854775807) :
    Calls Try.prog 5 #[.slice A0 l.length c0] w fun en w' => en = .returned (.bool true) ∧ Below w.heap.size w w' := by
  have HR := Aside0.mk hr
  have HM := Aside0.mk hm
  have HQ := Aside0.mk hc
  obtain ⟨q, hq⟩ : ∃ q, (q = l.length ∧ q ≤ 40) ∨ (q = 40 ∧ 40 < l.length) := by
    by_cases h : l.length ≤ 40
    · exact ⟨_, .inl ⟨rfl, h⟩⟩
    · exact ⟨40, .inr ⟨rfl, by omega⟩⟩
  have HQ2 := Aside0.mk (show q ≤ 40 ∧ q ≤ l.length by omega)
  have HQQ := Aside0.mk hq
  clear hr hm hc hq
  have hmk := make64
  go_enter Try.func5, Try.ntmps5
  go_wp2_with fail
  clear hmk
  obtain ⟨W1, hW1⟩ : ∃ W1, W1 = w.alloc (.cells (rowK .u8 z64) 5) := ⟨_, rfl⟩
  have B1 := Aside0.mk (show Below w.heap.size w W1 by rw [hW1]; exact below_alloc (Below.refl _ _) _)
  have H1 := Aside0.mk (show HoldsRow W1 w.heap.size 5 (rowK .u8 z64) by rw [hW1]; exact HoldsRow.new _ _ _)
  rw [← hW1]
  clear hW1
  go_loopw [3, 4, 5] (fun s g i wr => ∃ (j G c3 : Nat) (A3 : Option Addr) (X : List Int), j ≤ q ∧ G ≤ 1 + j * 1048576 ∧ 1 ≤ G ∧ s = .slice A3 64 c3 ∧ g = .int .i64 (G : Nat) ∧ i = .int .i64 (j : Nat) ∧ Aside0 (MixS X G) ∧ Aside0 (Kd.R (Kd.int .u8) 5 wr w.heap.size (fun _ => True) (.slice A3 64 c3) X) ∧ Aside0 (Below w.heap.size w wr)) (fun _ _ i _ => q - (intOf i).toNat)
  case atStart =>
    refine ⟨0, 1, 64, _, z64, by omega, by omega, by omega, rfl, rfl, rfl, ⟨mixS_zero⟩, ⟨?_⟩, B1⟩
    have hz : z64.length = 64 := z64_len
    have := block_own (W := W1) (base := w.heap.size) (g := w.heap.size) (c := 64) (ok := fun _ => True) (X := z64) (cur := []) (Nat.le_refl _) (by rw [List.append_nil]; exact H1.out) (by rw [hz]; exact Nat.le_refl _) (by decide) (by rw [hz]; rfl) trivial
    rw [hz] at this
    exact this
  case round =>
    clear B1 H1 W1
    obtain ⟨j, G, c3, A3, X, hj, hG, hG1, rfl, rfl, rfl, MX, R, BW⟩ := hrel
    by_cases hlt : j < q
    · have hjl : j < l.length := by have := HQ2.out; omega
      obtain ⟨⟨dg, de, dd, dc⟩, hd⟩ : ∃ d, l[j]? = some d := ⟨_, List.getElem?_eq_getElem hjl⟩
      obtain ⟨ad, rfl, hk, hd0, hd1⟩ := HR.out j _ hd
      have HGC := Aside0.mk (mix_cells hk)
      have HDB := Aside0.mk (show 0 ≤ dd ∧ dd < 256 from ⟨hd0, hd1⟩)
      have d1 : decide ((j : Int) < (l.length : Int)) = true := decide_eq_true (by omega)
      have d2 : decide ((j : Int) < 40) = true := decide_eq_true (by have := HQ2.out; omega)
      have b0 := eq_true (show (0 : Int) ≤ (j : Int) by omega)
      have b1 := eq_true (show (j : Int) < (l.length : Int) by omega)
      have HG2 := Aside0.mk (gen_bound hG hlt HQ2.out.1)
      have HGJ := Aside0.mk hG
      clear hk hd hd0 hd1 hG
      obtain ⟨F1, F2, hff, hF2, hep⟩ := front_mixS MX.out
      have HEP := Aside0.mk hep
      have HF2 := Aside0.mk hF2
      have hXl := MX.out.len
      have HRD := Kd.R_reads' R.out
      have HC0 := Aside0.mk (show Calls Try.prog 21 #[.slice A3 64 c3] wr fun e w' => e = .returned (.tuple #[.agg #[.int .i64 (F1 : Int), .int .i64 (F2 : Int)], .int .i64 0]) ∧ Below wr.heap.size wr w' by
        have := strip_Front.calls A3 c3 X F1 F2 0 wr HRD.2.2 (by rw [hXl]; exact HRD.2.1) hff
        rw [hXl] at this
        exact this)
      clear hff hF2 hep hXl HRD
      go_wp2_with fail
      refine HC0.out.mono ?_
      rintro e w2 ⟨rfl, hb2⟩
      have R2 := Aside0.mk (Kd.R_below R.out hb2)
      have BW2 := Aside0.mk (BW.out.trans (hb2.mono BW.out.size))
      have HNEW := Aside0.mk (show HoldsRow (w2.alloc (.cells #[.int .i64 0, .int .i64 0] 23)) w2.heap.size 23 s00 from HoldsRow.new _ _ _)
      obtain ⟨g6, hg6⟩ : ∃ g6, g6 = w2.heap.size := ⟨_, rfl⟩
      obtain ⟨W3, hW3⟩ : ∃ W3, W3 = (w2.alloc (.cells #[.int .i64 0, .int .i64 0] 23)).setRow w2.heap.size #[.int .i64 (F1 : Int), .int .i64 (F2 : Int)] := ⟨_, rfl⟩
      have hb3 : Below w2.heap.size w2 W3 := by rw [hW3]; exact Go.Proofs.Ytfkndnocjelhgaa.Arr.below_setRow (below_alloc (Below.refl w2.heap.size w2) _) _ (Nat.le_refl _)
      have P3 := Aside0.mk (show HoldsRow W3 g6 23 #[.int .i64 (F1 : Int), .int .i64 (F2 : Int)] by rw [hW3, hg6]; exact HNEW.out.row _)
      have R3 := Aside0.mk (Kd.R_below R2.out hb3)
      have BW3 := Aside0.mk (BW2.out.trans (hb3.mono BW2.out.size))
      have HWW := Aside0.mk hW3
      have HG6 := Aside0.mk hg6
      clear hb2 hb3 hW3 hg6 R R2 BW BW2 HC0
      have k0 := pw_cell_below BW3.out HGC.out.1
      have p1 : W3.cell? ⟨g6, 1, none⟩ = some (.int .i64 (F2 : Int)) := P3.out.cell rfl
      obtain ⟨K1, hk1, hk1l⟩ := bring_nat dg 1048576 (by decide) (by decide)
      have HK1 := Aside0.mk hk1
      have HK1L := Aside0.mk hk1l
      clear hk1 hk1l
      go_wp2_with (refine wpList_store_row rfl 23 _ _ rfl w2.heap.size #[.int .i64 (F1 : Int), .int .i64 (F2 : Int)] rfl rfl 23 s00 HNEW.out (by kernel_rfl) rfl (by simp [Value.oneCell']) ?_; rw [← HWW.out])
      rw [← HG6.out]
      refine (encoreref00_Bring.calls dg 1048576 K1 W3 HK1.out).mono ?_
      rintro e w4 ⟨rfl, hd⟩
      have hb4 := hd.below
      have R4 := Aside0.mk (Kd.R_below R3.out hb4)
      have BW4 := Aside0.mk (BW3.out.trans (hb4.mono BW3.out.size))
      have P4 := Aside0.mk (P3.out.below hb4 P3.out.lt)
      obtain ⟨K2, hk2, hk2l⟩ := bring_nat de 1048576 (by decide) (by decide)
      have HK2 := Aside0.mk hk2
      have HK2L := Aside0.mk hk2l
      obtain ⟨G', hG'⟩ : ∃ G' : Nat, G' = G + K1 := ⟨_, rfl⟩
      obtain ⟨E, hE⟩ : ∃ E : Nat, E = F2 + 1 + K2 := ⟨_, rfl⟩
      have HW1 := Aside0.mk (show wrap64 ((G : Int) + (K1 : Int)) = (G' : Int) by rw [hG']; exact wrap_nat (by have := HG2.out; have := HK1L.out; omega))
      have HW3 := Aside0.mk (show wrap64 ((F2 : Int) + 1 + (K2 : Int)) = (E : Int) by rw [hE]; exact wrap_nat (a := F2 + 1) (by have := HF2.out; have := HK2L.out; omega))
      have HW4 := Aside0.mk (show wrap64 (wrap64 ((F2 : Int) + 1) + (K2 : Int)) = (E : Int) by rw [hE, wrap_one (by have := HF2.out; omega)]; exact wrap_nat (a := F2 + 1) (by have := HF2.out; have := HK2L.out; omega))
      have HGP := Aside0.mk (show G ≤ G' ∧ G' ≤ 1 + (j + 1) * 1048576 ∧ 1 ≤ G' ∧ G' ≤ 41943041 by have := HGJ.out; have := HK1L.out; have := HG2.out; omega)
      have HEF := Aside0.mk (show F2 < E by omega)
      clear hG' hE
      clear HWW hd hb4 k0 p1 hk2 hk2l R3 BW3 P3 HNEW HG6
      have p1 : w4.cell? ⟨g6, 1, none⟩ = some (.int .i64 (F2 : Int)) := P4.out.cell rfl
      have k1 := pw_cell_below BW4.out HGC.out.2.1
      go_wp2_with fail
      refine start_ (n := 11) (S := fun w' => w'.cell? ⟨g6, 1, none⟩ = some (.int .i64 (F2 : Int)) ∧ w'.cell? ⟨(ad.add (j * 4)).block, (ad.add (j * 4)).off + 1, none⟩ = some (.int .i64 de)) (ds := []) #[false, false, false, false, false, false, false, false, false, false, false] (by kernel_rfl) rfl rfl ⟨p1, k1⟩ (fun hHeld => ?_)
      refine pure_ (i := 0) (N := some 40) (v := ?_) (a' := ?_) #[true, false, false, false, false, false, false, false, false, false, false] rfl rfl (by kernel_rfl) (fun _ _ _ h => h) (Or.inl ⟨by rfl, ?_⟩) ?_ ?_
      rotate_left
      · intro w'
        go_simp
        with_reducible rfl
      rotate_left
      · simp only [Act.put, List.setIfInBounds_toArray, List.set_cons_zero, List.set_cons_succ, i64_w, i32_w]
        rfl
      refine pure_ (i := 3) (N := some 43) (v := ?_) (a' := ?_) #[true, false, false, true, false, false, false, false, false, false, false] rfl rfl (by kernel_rfl) (fun _ _ _ h => h) (Or.inl ⟨by rfl, ?_⟩) ?_ ?_
      rotate_left
      · intro w'
        go_simp
        with_reducible rfl
      rotate_left
      · simp only [Act.put, List.setIfInBounds_toArray, List.set_cons_zero, List.set_cons_succ, i64_w, i32_w]
        rfl
      refine pure_ (i := 4) (N := some 44) (v := ?_) (a' := ?_) #[true, false, false, true, true, false, false, false, false, false, false] rfl rfl (by kernel_rfl) (fun _ _ _ h => h) (Or.inl ⟨by rfl, ?_⟩) ?_ ?_
      rotate_left
      · intro w'
        go_simp
        with_reducible rfl
      rotate_left
      · simp only [Act.put, List.setIfInBounds_toArray, List.set_cons_zero, List.set_cons_succ, i64_w, i32_w]
        rfl
      refine pure_ (i := 5) (N := some 45) (v := ?_) (a' := ?_) #[true, false, false, true, true, true, false, false, false, false, false] rfl rfl (by kernel_rfl) (fun _ _ _ h => h) (Or.inl ⟨by rfl, ?_⟩) ?_ ?_
      rotate_left
      · intro w'
        go_simp
        with_reducible rfl
      rotate_left
      · simp only [Act.put, List.setIfInBounds_toArray, List.set_cons_zero, List.set_cons_succ, i64_w, i32_w]
        rfl
      refine pure_ (i := 6) (N := some 46) (v := ?_) (a' := ?_) #[true, false, false, true, true, true, true, false, false, false, false] rfl rfl (by kernel_rfl) (fun _ _ _ h => h) (Or.inl ⟨by rfl, ?_⟩) ?_ ?_
      rotate_left
      · intro w'
        go_simp
        with_reducible rfl
      rotate_left
      · simp only [Act.put, List.setIfInBounds_toArray, List.set_cons_zero, List.set_cons_succ, i64_w, i32_w]
        rfl
      refine take_ (i := 1) (N := some 41) (v := ?_) (a' := ?_) #[true, true, false, true, true, true, true, false, false, false, false] rfl rfl (by kernel_rfl) (fun _ _ _ h => h) (Or.inl ⟨by rfl, ?_⟩) hHeld ?_ ?_
      rotate_left
      · rintro w' ⟨s0, s1⟩
        go_simp
        with_reducible rfl
      rotate_left
      · simp only [Act.put, List.setIfInBounds_toArray, List.set_cons_zero, List.set_cons_succ, i64_w, i32_w]
        rfl
      refine pure_ (i := 2) (N := some 42) (v := ?_) (a' := ?_) #[true, true, true, true, true, true, true, false, false, false, false] rfl rfl (by kernel_rfl) (fun _ _ _ h => h) (Or.inl ⟨by rfl, ?_⟩) ?_ ?_
      rotate_left
      · intro w'
        go_simp
        with_reducible rfl
      rotate_left
      · simp only [Act.put, List.setIfInBounds_toArray, List.set_cons_zero, List.set_cons_succ, i64_w, i32_w]
        rfl
      refine take_ (i := 7) (N := some 47) (v := ?_) (a' := ?_) #[true, true, true, true, true, true, true, true, false, false, false] rfl rfl (by kernel_rfl) (fun _ _ _ h => h) (Or.inl ⟨by rfl, ?_⟩) hHeld ?_ ?_
      rotate_left
      · rintro w' ⟨s0, s1⟩
        go_simp
        with_reducible rfl
      rotate_left
      · simp only [Act.put, List.setIfInBounds_toArray, List.set_cons_zero, List.set_cons_succ, i64_w, i32_w]
        rfl
      refine one_ (i := 8) (N := some 48) #[true, true, true, true, true, true, true, true, true, false, false] rfl rfl (by kernel_rfl) (by decide) (fun K hK => ?_)
      refine goes_ Try.func25 (by kernel_rfl) rfl #[.int .i64 de, .int .i64 1048576] (by rfl) rfl rfl (by simp only [List.map_toArray, List.map_cons, List.map_nil]; rfl) ?_
      with_reducible refine (encoreref00_Bring.calls de 1048576 K2 _ HK2.out).mono ?_
      rintro e w5 ⟨rfl, hd⟩
      refine ⟨_, rfl, ?_⟩
      have hb5 := (below_drew (Below.refl w4.heap.size w4)).trans hd.below
      have R5 := Aside0.mk (Kd.R_below R4.out hb5)
      have BW5 := Aside0.mk (BW4.out.trans (hb5.mono BW4.out.size))
      have P5 := Aside0.mk (P4.out.below hb5 P4.out.lt)
      have p15 : w5.cell? ⟨g6, 1, none⟩ = some (.int .i64 (F2 : Int)) := P5.out.cell rfl
      have k15 := pw_cell_below BW5.out HGC.out.2.1
      clear hd hb5
      refine hK.out _ _ ⟨p15, k15⟩ (fun hHeld => ?_)
      clear hK K
      refine norm_ (a' := ?_) ?_ ?_
      rotate_left
      · show Act.put _ (some 48) _ = _
        simp only [Act.put, List.setIfInBounds_toArray, List.set_cons_zero, List.set_cons_succ, i64_w, i32_w]
        rfl
      refine pure_ (i := 9) (N := some 49) (v := ?_) (a' := ?_) #[true, true, true, true, true, true, true, true, true, true, false] rfl rfl (by kernel_rfl) (fun _ _ _ h => h) (Or.inl ⟨by rfl, ?_⟩) ?_ ?_
      rotate_left
      · intro w'
        go_simp
        with_reducible rfl
      rotate_left
      · simp only [Act.put, List.setIfInBounds_toArray, List.set_cons_zero, List.set_cons_succ, i64_w, i32_w]
        rfl
      refine pure_ (i := 10) (N := some 8) (v := ?_) (a' := ?_) #[true, true, true, true, true, true, true, true, true, true, true] rfl rfl (by kernel_rfl) (fun _ _ _ h => h) (Or.inl ⟨by rfl, ?_⟩) ?_ ?_
      rotate_left
      · intro w'
        go_simp
        with_reducible rfl
      rotate_left
      · simp only [Act.put, List.setIfInBounds_toArray, List.set_cons_zero, List.set_cons_succ, i64_w, i32_w]
        rfl
      refine done_ (by kernel_rfl) ?_
      
      first | rw [HW1.out, HW3.out] | rw [HW1.out, HW4.out]
      have q0 : decide ((F2 : Int) < 0) = false := decide_eq_false (by omega)
      have q1 : decide (4294967296 ≤ (F2 : Int)) = false := decide_eq_false (by have := HF2.out; omega)
      clear hHeld p1 k1 R4 BW4 P4 k15 HW1 HW3 HW4 HGJ HG2
      by_cases hE : 4294967296 ≤ E
      · have q2 : decide (4294967296 ≤ (E : Int)) = true := decide_eq_true (by omega)
        clear hE
        go_wp2_with fail
        refine (works_calls w5).mono ?_
        rintro e w6 ⟨rfl, hb6⟩
        have BW6 := Aside0.mk (BW5.out.trans (hb6.mono BW5.out.size))
        clear hb6
        go_wp2_with fail
        go_ret
        exact ⟨rfl, BW6.out⟩
      · have HEL := Aside0.mk (show E < 4294967296 by omega)
        have q2 : decide (4294967296 ≤ (E : Int)) = false := decide_eq_false (by omega)
        have k2 := pw_cell_below BW5.out HGC.out.2.2.1
        obtain ⟨W6, hW6⟩ : ∃ W6, W6 = w5.alloc (.cells #[.int .u8 dd] 5) := ⟨_, rfl⟩
        have hb6 : Below w5.heap.size w5 W6 := by rw [hW6]; exact below_alloc (Below.refl _ _) _
        obtain ⟨C, hC⟩ : ∃ C, C = cellOf G' E true [dd] := ⟨_, rfl⟩
        have hbd : Bytes [dd] := fun x hx => by rw [List.mem_singleton.1 hx]; exact HDB.out
        have HCB := Aside0.mk (show CellB C G' E by rw [hC]; exact cellB G' E dd (by have := HGP.out; omega) HEL.out hbd)
        have HC1 := Aside0.mk (show Calls Try.prog 12 #[.agg #[.int .i64 (G' : Int), .int .i64 (E : Int)], .slice (some ⟨w5.heap.size, 0, none⟩) 1 1] W6 fun e w' => ∃ v0_ : Value, e = .returned (.tuple #[v0_, .int .i64 0]) ∧ Kd.S (Kd.slice 5 (Kd.int .u8)) 24 w' W6.heap.size (fun _ => True) v0_ [C] ∧ Below W6.heap.size W6 w' from
          strip_Cells.calls G' E (some ⟨w5.heap.size, 0, none⟩) 1 [dd] [C] 0 W6 (by rw [hW6]; exact hold_C (b := [dd]) (HoldsRow.new w5 _ _) 0 1 (show (0 + 1 : Nat) ≤ 1 by decide) (show (1 : Nat) ≤ 9223372036854775807 by decide)) (show (1 : Nat) ≤ 1 by decide) (by
            unfold strip_Cells.f
            rw [if_neg (fun h => h (show goodS (G' : Int) (E : Int) from ⟨by have := HGP.out; omega, by have := HGP.out; omega, by omega, by have := HEL.out; omega⟩)), show [dd].length = 1 from rfl, if_neg (show ¬ (1 : Nat) = 0 by decide), if_pos (show (1 : Nat) ≤ 1000000000000 by decide), Int.toNat_natCast, Int.toNat_natCast, run_one G' E [dd] (show (0 : Nat) < 1 by decide) (show (1 : Nat) ≤ 47 by decide), ← hC]))
        have R6 := Aside0.mk (Kd.R_below R5.out hb6)
        have BW6 := Aside0.mk (BW5.out.trans (hb6.mono BW5.out.size))
        have P6 := Aside0.mk (P5.out.below hb6 P5.out.lt)
        have HW6 := Aside0.mk hW6
        clear hE hb6 hW6 hC hbd R5 BW5
        go_wp2_with fail
        rw [← HW6.out]
        refine HC1.out.mono ?_
        rintro e w7 ⟨v0, rfl, hs, hb7⟩
        obtain ⟨gc, capc, AC, cC, rfl, hcell, -, -, hrow⟩ := one_cell hs
        have hCl := HCB.out.len
        rw [hCl] at hcell hrow
        obtain ⟨ga, ca, ea, -, -, -⟩ := Kd.R_form hrow (by rw [hCl]; decide)
        injection ea with ea ea1 ea2
        clear ea1 ea2
        subst ea
        have RC7 := Aside0.mk (show Kd.R (Kd.int .u8) 5 w7 W6.heap.size (fun k => k < w7.heap.size) (.slice (some ⟨ga, 0, none⟩) 64 cC) C from Kd.R_mono (Kd.R_bound hrow) (fun k hk => hk.2.2.1))
        have R7 := Aside0.mk (Kd.R_below R6.out hb7)
        have BW7 := Aside0.mk (BW6.out.trans (hb7.mono BW6.out.size))
        have HC7 := Aside0.mk hcell
        clear hs hb7 hrow hCl R6 BW6 P6 P5 HW6 HC1 k2 q0 q1 q2 p15
        go_wp2_with fail
        have HRD := Kd.R_reads' R7.out
        have hXl := MX.out.len
        have hcp := encoreref00_CopyBytes.calls A3 c3 X X w7 HRD.2.2 (by rw [hXl]; exact HRD.2.1) (copy_eq X (by rw [hXl]; decide))
        rw [hXl] at hcp
        refine hcp.mono ?_
        rintro e w8 ⟨v8, rfl, ho8, hb8⟩
        obtain ⟨g8, c8, cur, e8, hg8, hg8l, hh8, hc8, hm8, hcl8, -⟩ := own_block ho8 (by rw [hXl]; decide)
        rw [hXl] at hc8 hcl8 e8
        subst e8
        have HB8 := Aside0.mk hb8
        have HH8 := Aside0.mk (And.intro hg8 (And.intro hg8l hh8))
        have HC8 := Aside0.mk (And.intro hc8 (And.intro hm8 hcl8))
        have hcell8 := pw_cell_below hb8 hcell
        have k3 := pw_cell_below (BW7.out.trans (hb8.mono BW7.out.size)) HGC.out.2.2.2
        obtain ⟨K3, hk3, hk3l⟩ := bring_nat dc 65 (by decide) (by decide)
        have HK3 := Aside0.mk (And.intro hk3 (show K3 ≤ 64 by omega))
        have RC8 := Aside0.mk (Kd.R_below RC7.out hb8)
        have hcC := (Kd.R_reads' RC7.out).2.1
        have y0 := eq_true (show (0 : Int) ≤ (K3 : Int) by omega)
        have y1 := eq_true (show (K3 : Int) ≤ (cC : Int) by have := HK3.out.2; omega)
        have y2 := eq_true (show K3 ≤ cC by have := HK3.out.2; omega)
        clear HRD hXl hcp ho8 hb8 hg8 hg8l hh8 hc8 hm8 hcl8 hk3 hk3l hcC hcell
        go_wp2_with fail
        refine start_ (n := 12) (S := fun w' => w'.cell? ⟨gc, 0, none⟩ = some (.slice (some ⟨ga, 0, none⟩) 64 cC) ∧ w'.cell? ⟨(ad.add (j * 4)).block, (ad.add (j * 4)).off + 3, none⟩ = some (.int .i64 dc)) (ds := []) #[false, false, false, false, false, false, false, false, false, false, false, false] (by kernel_rfl) rfl rfl ⟨hcell8, k3⟩ (fun hHeld => ?_)
        refine pure_ (i := 0) (N := some 94) (v := ?_) (a' := ?_) #[true, false, false, false, false, false, false, false, false, false, false, false] rfl rfl (by kernel_rfl) (fun _ _ _ h => h) (Or.inl ⟨by rfl, ?_⟩) ?_ ?_
        rotate_left
        · intro w'
          go_simp
          with_reducible rfl
        rotate_left
        · simp only [Act.put, List.setIfInBounds_toArray, List.set_cons_zero, List.set_cons_succ, i64_w, i32_w]
          rfl
        refine pure_ (i := 1) (N := some 95) (v := ?_) (a' := ?_) #[true, true, false, false, false, false, false, false, false, false, false, false] rfl rfl (by kernel_rfl) (fun _ _ _ h => h) (Or.inl ⟨by rfl, ?_⟩) ?_ ?_
        rotate_left
        · intro w'
          go_simp
          with_reducible rfl
        rotate_left
        · simp only [Act.put, List.setIfInBounds_toArray, List.set_cons_zero, List.set_cons_succ, i64_w, i32_w]
          rfl
        refine pure_ (i := 2) (N := some 96) (v := ?_) (a' := ?_) #[true, true, true, false, false, false, false, false, false, false, false, false] rfl rfl (by kernel_rfl) (fun _ _ _ h => h) (Or.inl ⟨by rfl, ?_⟩) ?_ ?_
        rotate_left
        · intro w'
          go_simp
          with_reducible rfl
        rotate_left
        · simp only [Act.put, List.setIfInBounds_toArray, List.set_cons_zero, List.set_cons_succ, i64_w, i32_w]
          rfl
        refine pure_ (i := 4) (N := some 98) (v := ?_) (a' := ?_) #[true, true, true, false, true, false, false, false, false, false, false, false] rfl rfl (by kernel_rfl) (fun _ _ _ h => h) (Or.inl ⟨by rfl, ?_⟩) ?_ ?_
        rotate_left
        · intro w'
          go_simp
          with_reducible rfl
        rotate_left
        · simp only [Act.put, List.setIfInBounds_toArray, List.set_cons_zero, List.set_cons_succ, i64_w, i32_w]
          rfl
        refine pure_ (i := 5) (N := some 99) (v := ?_) (a' := ?_) #[true, true, true, false, true, true, false, false, false, false, false, false] rfl rfl (by kernel_rfl) (fun _ _ _ h => h) (Or.inl ⟨by rfl, ?_⟩) ?_ ?_
        rotate_left
        · intro w'
          go_simp
          with_reducible rfl
        rotate_left
        · simp only [Act.put, List.setIfInBounds_toArray, List.set_cons_zero, List.set_cons_succ, i64_w, i32_w]
          rfl
        refine pure_ (i := 6) (N := some 100) (v := ?_) (a' := ?_) #[true, true, true, false, true, true, true, false, false, false, false, false] rfl rfl (by kernel_rfl) (fun _ _ _ h => h) (Or.inl ⟨by rfl, ?_⟩) ?_ ?_
        rotate_left
        · intro w'
          go_simp
          with_reducible rfl
        rotate_left
        · simp only [Act.put, List.setIfInBounds_toArray, List.set_cons_zero, List.set_cons_succ, i64_w, i32_w]
          rfl
        refine pure_ (i := 7) (N := some 101) (v := ?_) (a' := ?_) #[true, true, true, false, true, true, true, true, false, false, false, false] rfl rfl (by kernel_rfl) (fun _ _ _ h => h) (Or.inl ⟨by rfl, ?_⟩) ?_ ?_
        rotate_left
        · intro w'
          go_simp
          with_reducible rfl
        rotate_left
        · simp only [Act.put, List.setIfInBounds_toArray, List.set_cons_zero, List.set_cons_succ, i64_w, i32_w]
          rfl
        refine take_ (i := 3) (N := some 97) (v := ?_) (a' := ?_) #[true, true, true, true, true, true, true, true, false, false, false, false] rfl rfl (by kernel_rfl) (fun _ _ _ h => h) (Or.inl ⟨by rfl, ?_⟩) hHeld ?_ ?_
        rotate_left
        · rintro w' ⟨s0, s1⟩
          go_simp
          with_reducible rfl
        rotate_left
        · simp only [Act.put, List.setIfInBounds_toArray, List.set_cons_zero, List.set_cons_succ, i64_w, i32_w]
          rfl
        refine take_ (i := 8) (N := some 102) (v := ?_) (a' := ?_) #[true, true, true, true, true, true, true, true, true, false, false, false] rfl rfl (by kernel_rfl) (fun _ _ _ h => h) (Or.inl ⟨by rfl, ?_⟩) hHeld ?_ ?_
        rotate_left
        · rintro w' ⟨s0, s1⟩
          go_simp
          with_reducible rfl
        rotate_left
        · simp only [Act.put, List.setIfInBounds_toArray, List.set_cons_zero, List.set_cons_succ, i64_w, i32_w]
          rfl
        refine one_ (i := 9) (N := some 103) #[true, true, true, true, true, true, true, true, true, true, false, false] rfl rfl (by kernel_rfl) (by decide) (fun K hK => ?_)
        refine goes_ Try.func25 (by kernel_rfl) rfl #[.int .i64 dc, .int .i64 65] (by rfl) rfl rfl (by simp only [List.map_toArray, List.map_cons, List.map_nil]; rfl) ?_
        with_reducible refine (encoreref00_Bring.calls dc 65 K3 _ HK3.out.1).mono ?_
        rintro e w9 ⟨rfl, hd⟩
        refine ⟨_, rfl, ?_⟩
        have hb9 := (below_drew (Below.refl w8.heap.size w8)).trans hd.below
        have B79 := Aside0.mk (HB8.out.trans (hb9.mono HB8.out.size))
        have hcell9 := pw_cell_below B79.out HC7.out
        have k39 := pw_cell_below (BW7.out.trans (B79.out.mono BW7.out.size)) HGC.out.2.2.2
        have H9 := Aside0.mk (hb9.block g8 HH8.out.2.1 |>.trans HH8.out.2.2)
        have RC9 := Aside0.mk (Kd.R_reads' (Kd.R_below RC8.out hb9)).2.2
        clear hd hb9
        refine hK.out _ _ ⟨hcell9, k39⟩ (fun hHeld => ?_)
        clear hK K
        refine norm_ (a' := ?_) ?_ ?_
        rotate_left
        · show Act.put _ (some 103) _ = _
          simp only [Act.put, List.setIfInBounds_toArray, List.set_cons_zero, List.set_cons_succ, i64_w, i32_w]
          rfl
        refine pure_ (i := 10) (N := some 104) (v := ?_) (a' := ?_) #[true, true, true, true, true, true, true, true, true, true, true, false] rfl rfl (by kernel_rfl) (fun _ _ _ h => h) (Or.inl ⟨by rfl, ?_⟩) ?_ ?_
        rotate_left
        · intro w'
          go_simp
          with_reducible rfl
        rotate_left
        · simp only [Act.put, List.setIfInBounds_toArray, List.set_cons_zero, List.set_cons_succ, i64_w, i32_w]
          rfl
        refine one_ (i := 11) (N := some 105) #[true, true, true, true, true, true, true, true, true, true, true, true] rfl rfl (by kernel_rfl) (by decide) (fun K hK => ?_)
        refine step_copy_splice rfl (.tmp 94) (.tmp 104) 24 24 rfl 5 Try.underlying24 (by kernel_rfl) (some ⟨g8, 0, none⟩) (some ⟨ga, 0, none⟩) 64 c8 K3 cC (by rfl) (by rfl) g8 0 (nums .u8 X ++ cur) 5 H9.out (nums .u8 (C.take K3)) ?c1 ?c2 ?c3 ?c4 w7.heap.size w9 (Below.refl _ _) HH8.out.1 ?_
        case c1 => rw [nums_length, List.length_take, HCB.out.len]
        case c2 => exact fun _ => ⟨rfl, ⟨ga, 0, none⟩, rfl, src_cells RC9.out K3⟩
        case c3 => rw [nums_length, List.length_append, nums_length, List.length_take, HCB.out.len, MX.out.len]; have := HK3.out.2; omega
        case c4 => exact fun v hv => nums_one _ _ v hv
        intro w10 hg10 hb10
        refine hK.out _ _ ⟨(pw_cell_below (B79.out.trans hb10) HC7.out), (pw_cell_below (BW7.out.trans ((B79.out.trans hb10).mono BW7.out.size)) HGC.out.2.2.2)⟩ (fun hHeld => ?_)
        clear hK K
        refine norm_ (a' := ?_) ?_ ?_
        rotate_left
        · show Act.put _ (some 105) _ = _
          simp only [Act.put, List.setIfInBounds_toArray, List.set_cons_zero, List.set_cons_succ, i64_w, i32_w]
          rfl
        refine done_ (by kernel_rfl) ?_
        
        have B70 := Aside0.mk (B79.out.trans hb10)
        have BW10 := Aside0.mk (BW7.out.trans (B70.out.mono BW7.out.size))
        obtain ⟨Y, hY⟩ : ∃ Y, Y = C.take K3 ++ X.drop K3 := ⟨_, rfl⟩
        have hst := mix_step MX.out HCB.out HGP.out.1 (by rw [HEP.out]; exact HEF.out) K3 HK3.out.2
        rw [← hY] at hst
        have MY := Aside0.mk hst.1
        have HST := Aside0.mk hst.2
        have hh10 := hg10.out
        rw [splice_new X C cur K3 HCB.out.len MX.out.len HK3.out.2, ← hY] at hh10
        have hYl := hst.1.len
        have RY10 := Aside0.mk (show Kd.R (Kd.int .u8) 5 w10 w.heap.size (fun _ => True) (.slice (some ⟨g8, 0, none⟩) 64 c8) Y by
          have := block_own (base := w.heap.size) (ok := fun _ => True) (X := Y) (Nat.le_trans BW7.out.size HH8.out.1) hh10 (by rw [hYl]; exact HC8.out.1) HC8.out.2.1 (by rw [hYl]; exact HC8.out.2.2) trivial
          rw [hYl] at this
          exact this)
        have RX10 := Aside0.mk (Kd.R_below R7.out B70.out)
        have RC10 := Aside0.mk (Kd.R_below RC7.out B70.out)
        have HC10 := Aside0.mk (pw_cell_below B70.out HC7.out)
        have HYL := Aside0.mk hYl
        clear hY hst hh10 hYl hg10 hb10 hHeld hcell8 hcell9 k39 k3 H9 RC9 B79 HH8 HC8 HB8 RC7 R7 RC8 HC7 BW7 B70 HK3 y0 y1 y2 HGC HEP HEF HF2 HEL HDB
        go_wp2_with fail
        have HRD := Kd.R_reads' RY10.out
        have hrd := Read_T w10 (some ⟨g8, 0, none⟩) c8 Y HRD.2.2 (by rw [HYL.out]; exact HRD.2.1) MY.out.by_
        rw [HYL.out] at hrd
        obtain ⟨s1, s2, bg, dat, er, hT⟩ : ∃ s1 s2 bg dat er, readT Y = (s1, s2, bg, dat, er) := ⟨_, _, _, _, _, rfl⟩
        have HMR := Aside0.mk (show er = 0 → Y = C ∨ Y = X from fun h => HST.out (mix_read (by rw [hT]; exact h) HYL.out))
        have hdl := readT_err Y
        rw [hT] at hrd hdl
        refine hrd.mono ?_
        rintro e w11 ⟨v3, rfl, hD, hb11⟩
        have HD11 := Aside0.mk (show DataAt w11 w10.heap.size v3 dat from hD)
        obtain ⟨A13, e13, -⟩ := HD11.out.form
        subst e13
        have RY11 := Aside0.mk (Kd.R_below RY10.out hb11)
        have RX11 := Aside0.mk (Kd.R_below RX10.out hb11)
        have RC11 := Aside0.mk (Kd.R_below RC10.out hb11)
        have HC11 := Aside0.mk (pw_cell_below hb11 HC10.out)
        have BW11 := Aside0.mk (BW10.out.trans (hb11.mono BW10.out.size))
        have HNEW := Aside0.mk (show HoldsRow (w11.alloc (.cells #[.int .i64 0, .int .i64 0] 23)) w11.heap.size 23 s00 from HoldsRow.new _ _ _)
        obtain ⟨W12, hW12⟩ : ∃ W12, W12 = (w11.alloc (.cells #[.int .i64 0, .int .i64 0] 23)).setRow w11.heap.size #[.int .i64 s1, .int .i64 s2] := ⟨_, rfl⟩
        have hb12 : Below w11.heap.size w11 W12 := by rw [hW12]; exact Go.Proofs.Ytfkndnocjelhgaa.Arr.below_setRow (below_alloc (Below.refl w11.heap.size w11) _) _ (Nat.le_refl _)
        have RY12 := Aside0.mk (Kd.R_below RY11.out hb12)
        have RX12 := Aside0.mk (Kd.R_below RX11.out hb12)
        have RC12 := Aside0.mk (Kd.R_below RC11.out hb12)
        have k12 := pw_cell_below hb12 HC11.out
        have BW12 := Aside0.mk (BW11.out.trans (hb12.mono BW11.out.size))
        have HW12 := Aside0.mk hW12
        clear hT hdl hrd HRD hD HD11 hb11 hb12 hW12 RY10 RX10 RC10 HC10 BW10 RY11 RX11 RC11 HC11 BW11
        obtain ⟨g12, hg12⟩ : ∃ g12, g12 = w11.heap.size := ⟨_, rfl⟩
        have HG12 := Aside0.mk hg12
        clear hg12
        have hj1 : wrap64 ((j : Int) + 1) = ((j + 1 : Nat) : Int) := wrap_one (by have := HQ2.out; omega)
        by_cases h0 : er = 0
        · subst h0
          go_wp2_with (refine wpList_store_row rfl 23 _ _ rfl w11.heap.size #[.int .i64 s1, .int .i64 s2] rfl rfl 23 s00 HNEW.out (by kernel_rfl) rfl (by simp [Value.oneCell']) ?_; rw [← HW12.out])
          have HRY := (Kd.R_reads' RY12.out).2
          have HRC := (Kd.R_reads' RC12.out).2
          rw [HYL.out] at HRY
          rw [HCB.out.len] at HRC
          by_cases hYC : Y = C
          · refine (eqb 65 HRY.2 HRY.1 HRC.2 HRC.1 (show encoreref00_EqBytes.f 65 Y C = some true by rw [eq_dec Y C (by rw [HYL.out]; decide) 65 (by rw [HYL.out]; decide), decide_eq_true hYC])).mono ?_
            rintro e w13 ⟨rfl, hd13⟩
            have hb13 := hd13.below
            have RY13 := Aside0.mk (Kd.R_below RY12.out hb13)
            have BW13 := Aside0.mk (BW12.out.trans (hb13.mono BW12.out.size))
            clear hd13 hb13 HRY HRC RY12 RX12 RC12 k12 BW12 hYC
            go_wp2_with fail
            refine ⟨⟨j + 1, G', c8, some ⟨g8, 0, none⟩, Y, by omega, HGP.out.2.1, HGP.out.2.2.1, rfl, rfl, by rw [hj1], MY, RY13, BW13⟩, ?_⟩
            rw [hj1]
            show q - ((j + 1 : Nat) : Int).toNat < q - (j : Int).toNat
            omega
          · have HYX := Aside0.mk ((HMR.out trivial).resolve_left hYC)
            refine (eqb 65 HRY.2 HRY.1 HRC.2 HRC.1 (show encoreref00_EqBytes.f 65 Y C = some false by rw [eq_dec Y C (by rw [HYL.out]; decide) 65 (by rw [HYL.out]; decide), decide_eq_false hYC])).mono ?_
            rintro e w13 ⟨rfl, hd13⟩
            have hb13 := hd13.below
            have RY13 := Aside0.mk (Kd.R_below RY12.out hb13)
            have RX13 := Aside0.mk (Kd.R_below RX12.out hb13)
            have BW13 := Aside0.mk (BW12.out.trans (hb13.mono BW12.out.size))
            clear hd13 hb13 HRY HRC RY12 RX12 RC12 k12 BW12 hYC
            go_wp2_with fail
            have HRY := (Kd.R_reads' RY13.out).2
            have HRX := (Kd.R_reads' RX13.out).2
            rw [HYL.out] at HRY
            rw [MX.out.len] at HRX
            refine (eqb 65 HRY.2 HRY.1 HRX.2 HRX.1 (show encoreref00_EqBytes.f 65 Y X = some true by rw [eq_dec Y X (by rw [HYL.out]; decide) 65 (by rw [HYL.out]; decide), decide_eq_true HYX.out])).mono ?_
            rintro e w14 ⟨rfl, hd14⟩
            have hb14 := hd14.below
            have RY14 := Aside0.mk (Kd.R_below RY13.out hb14)
            have BW14 := Aside0.mk (BW13.out.trans (hb14.mono BW13.out.size))
            clear hd14 hb14 HRY HRX RY13 RX13 BW13
            go_wp2_with fail
            refine ⟨⟨j + 1, G', c8, some ⟨g8, 0, none⟩, Y, by omega, HGP.out.2.1, HGP.out.2.2.1, rfl, rfl, by rw [hj1], MY, RY14, BW14⟩, ?_⟩
            rw [hj1]
            show q - ((j + 1 : Nat) : Int).toNat < q - (j : Int).toNat
            omega
        · have dn : decide (er = 0) = false := decide_eq_false h0
          have dn2 : (er == 0) = false := by simpa using h0
          clear h0
          go_wp2_with (refine wpList_store_row rfl 23 _ _ rfl w11.heap.size #[.int .i64 s1, .int .i64 s2] rfl rfl 23 s00 HNEW.out (by kernel_rfl) rfl (by simp [Value.oneCell']) ?_; rw [← HW12.out])
          refine ⟨⟨j + 1, G', c8, some ⟨g8, 0, none⟩, Y, by omega, HGP.out.2.1, HGP.out.2.2.1, rfl, rfl, by rw [hj1], MY, RY12, BW12⟩, ?_⟩
          rw [hj1]
          show q - ((j + 1 : Nat) : Int).toNat < q - (j : Int).toNat
          omega
    · have hx : (¬ j < l.length) ∨ (j < l.length ∧ ¬ j < 40) := by
        rcases HQQ.out with ⟨h1, -⟩ | ⟨h1, h2⟩
        · exact .inl (by omega)
        · exact .inr ⟨by omega, by omega⟩
      clear hlt hG hG1
      rcases hx with n1 | ⟨n1, n2⟩
      · have d1 : decide ((j : Int) < (l.length : Int)) = false := decide_eq_false (by omega)
        go_wp2_with fail
        refine (works_calls wr).mono ?_
        rintro e w6 ⟨rfl, hb6⟩
        have BW6 := Aside0.mk (BW.out.trans (hb6.mono BW.out.size))
        clear hb6
        go_wp2_with fail
        go_ret
        exact ⟨rfl, BW6.out⟩
      · have d1 : decide ((j : Int) < (l.length : Int)) = true := decide_eq_true (by omega)
        have d2 : decide ((j : Int) < 40) = false := decide_eq_false (by omega)
        go_wp2_with fail
        refine (works_calls wr).mono ?_
        rintro e w6 ⟨rfl, hb6⟩
        have BW6 := Aside0.mk (BW.out.trans (hb6.mono BW.out.size))
        clear hb6
        go_wp2_with fail
        go_ret
        exact ⟨rfl, BW6.out⟩
end Go.Proofs.Ytfkndnocjelhgaa.Ext
