/- DiskFlushed answers true, walked with the plain law at hand: for all rows of numbers and bits. No condition beyond the kinds' own. -/
import Derived.IntWalk
import Derived.Test.YtkmgbmnjabmhaaaDWant
namespace Go.Proofs.Ytkmgbmnjabmhaaa.Ext
open Go Go.RowKit Go.Proofs.YtkmgbmnjabmhaaaW.PrintWords Go.Proofs.YtkmgbmnjabmhaaaW.PrintLast Go.Proofs.YtkmgbmnjabmhaaaW.PrintMore Go.Proofs.Ytkmgbmnjabmhaaa.Base Go.Proofs.Ytkmgbmnjabmhaaa.Arr
set_option linter.unusedVariables false
set_option linter.unusedSimpArgs false

def zs8 : List Int := (newS 8).stays
theorem zs8_len : zs8.length = 8 * 64 := by show (List.replicate (8 * 64) (0 : Int)).length = _; rw [List.length_replicate]
def flA (l : List Int) (j : Nat) : DS := { newS 8 with waits := (l.take j).map wrI }
def flB (l : List Int) (j : Nat) (m : List Int) (k : Nat) : DS := { newS 8 with stays := lay zs8 ((l.take j).map wrI), waits := (m.take k).map wrI }
theorem take_fits (l : List Int) (j : Nat) : Fits 8 ((l.take j).map wrI) := wrI_fits _
theorem flA_good (l : List Int) (j : Nat) : Good (flA l j) := ⟨by show (1 : Nat) ≤ 8; omega, by show (8 : Nat) ≤ 512; omega, zs8_len, take_fits l j⟩
theorem flB_good (l : List Int) (j : Nat) (m : List Int) (k : Nat) : Good (flB l j m k) := ⟨by show (1 : Nat) ≤ 8; omega, by show (8 : Nat) ≤ 512; omega, lay_len zs8_len _ (take_fits l j), take_fits m k⟩
theorem flA_wr (l : List Int) (j : Nat) (hj : j < l.length) (a : Nat) (ha : rd l j % 8 = (a : Int)) : writeF (flA l j) (a : Int) (secI ((rd l j).tdiv 8)) = (0, flA l (j + 1)) := by
  rw [write_alive rfl rfl (by omega) (by show (a : Int) < ((8 : Nat) : Int); omega) (secI_len _)]
  unfold flA
  rw [take_rd hj, List.map_append, ← ha]
  rfl
theorem flB_wr (l : List Int) (i : Nat) (m : List Int) (j : Nat) (hj : j < m.length) (a : Nat) (ha : rd m j % 8 = (a : Int)) : writeF (flB l i m j) (a : Int) (secI ((rd m j).tdiv 8)) = (0, flB l i m (j + 1)) := by
  rw [write_alive rfl rfl (by omega) (by show (a : Int) < ((8 : Nat) : Int); omega) (secI_len _)]
  unfold flB
  rw [take_rd hj, List.map_append, ← ha]
  rfl
theorem map_take_len (l : List Int) (j : Nat) (hj : j ≤ 40) : ((l.take j).map wrI).length ≤ 1000000 := by rw [List.length_map, List.length_take]; omega
theorem flA_fl (l : List Int) (j : Nat) (m : List Int) : flushF (flA l j) = (0, flB l j m 0) := by
  rw [flush_alive rfl rfl]
  unfold flB
  simp [flA]
  rfl
/-- written since -/
def sinceI (m : List Int) (k : Nat) (i : Nat) : Bool := (m.take k).any (fun x => x % 8 == (i : Int))
theorem since_succ (m : List Int) (k i : Nat) (hk : k < m.length) : sinceI m (k + 1) i = (sinceI m k i || (rd m k % 8 == (i : Int))) := by
  unfold sinceI
  rw [take_rd hk, List.any_append]
  simp
def bools8 (m : List Int) (k : Nat) : Array Value := ((List.range 8).map (fun i => Value.bool (sinceI m k i))).toArray
theorem bools8_set (m : List Int) (k a : Nat) (hk : k < m.length) (ha : rd m k % 8 = (a : Int)) : (bools8 m k).setIfInBounds a (.bool true) = bools8 m (k + 1) := by
  unfold bools8
  apply Array.toList_inj.1
  simp only [Array.toList_setIfInBounds]
  apply List.ext_getElem?
  intro i
  by_cases hi : i < 8
  · by_cases e : i = a
    · subst e
      rw [List.getElem?_set_self (by simp; omega), List.getElem?_map, List.getElem?_range hi]
      show _ = some (Value.bool (sinceI m (k + 1) i))
      rw [since_succ m k i hk, ha]
      simp
    · rw [List.getElem?_set_ne (fun q => e q.symm), List.getElem?_map, List.getElem?_map, List.getElem?_range hi]
      show some (Value.bool (sinceI m k i)) = some (Value.bool (sinceI m (k + 1) i))
      rw [since_succ m k i hk, ha]
      have : ((a : Int) == (i : Int)) = false := by simp; omega
      rw [this, Bool.or_false]
  · rw [List.getElem?_eq_none (by simp; omega), List.getElem?_eq_none (by simp; omega)]
theorem bools8_cell (m : List Int) (k : Nat) {i : Nat} (hi : i < 8) : (bools8 m k)[i]? = some (.bool (sinceI m k i)) := by
  unfold bools8
  simp [List.getElem?_range, hi]
theorem zero_bools (W : World) : (zeroValue 28).run Try.prog W = .ok (.agg (bools8 [] 0)) W := by kernel_rfl
theorem bools8_nil (m : List Int) : bools8 m 0 = bools8 [] 0 := by unfold bools8 sinceI; simp
/-- what was flushed is there -/
theorem flushed_read (l : List Int) (j : Nat) (m : List Int) (k : Nat) (bits cut : Int) {i : Nat} (hi : i < 8) (hs : sinceI m k i = false) :
    thereE (bootS (goneS (flB l j m k) bits cut)) i = 0 ∧ readF (bootS (goneS (flB l j m k) bits cut)) i = curS zs8 ((l.take j).map wrI) i := by
  obtain ⟨h1, h2⟩ := read_gone (flB_good l j m k) bits cut (j := i) (by show i < 8; exact hi)
  refine ⟨h1, h2.trans ?_⟩
  rw [curS_far (fun p hp => ?_)]
  · exact lay_cur zs8_len hi _ _ rfl (take_fits l j)
  · obtain ⟨q, hq, e⟩ := kept_at bits cut _ p hp
    have hq : q ∈ (m.take k).map wrI := hq
    obtain ⟨x, hx, rfl⟩ := List.mem_map.1 hq
    rw [← e]
    intro h
    have h : x % 8 = (i : Int) := h
    unfold sinceI at hs
    have := List.any_eq_false.1 hs x hx
    simp [h] at this
theorem cell_moves {H : Nat} {w w' : World} {ok ok' : Nat → Prop} {b : Nat} {t : TypeId} {cs : Array Value} (h : HoldsRow w b t cs) (hok : ¬ ok b) (hm : Moves H w w' ok ok') : HoldsRow w' b t cs ∧ ¬ ok' b :=
  ⟨hr_move h (hm.2.1.2 b h.lt hok), fun q => by
    rcases (hm.2.2 b q).1 with q1 | q1
    · exact hok q1
    · have := h.lt; omega⟩
theorem u64_hi (bits : Int) (h0 : 0 ≤ bits) (h1 : bits < 18446744073709551616) : ∃ c : Int, c = bits / 4294967296 := ⟨_, rfl⟩
theorem rd_mem {l : List Int} {j : Nat} (hj : j < l.length) : rd l j ∈ l := by
  unfold rd
  rw [Int.toNat_natCast, List.getD_eq_getElem?_getD, List.getElem?_eq_getElem hj]
  exact List.getElem_mem _
theorem quo8 {x : Int} (h : (Lit.int .i64 x).wf = true) : IntKind.i64.wrap (x.tdiv 8) = x.tdiv 8 := by
  simp [Lit.wf, IntKind.min, IntKind.max, IntKind.signed, IntKind.bits] at h
  have e := Int.tdiv_eq_ediv (a := x) (b := 8)
  rw [show Int.sign 8 = 1 from rfl] at e
  exact IntWalk.i64_in _ (by split at e <;> omega)
theorem min40 (n : Nat) : ∃ N : Nat, N ≤ n ∧ N ≤ 40 ∧ (N = n ∨ (N = 40 ∧ 40 < n)) := by
  by_cases h : n ≤ 40
  · exact ⟨n, by omega, h, .inl rfl⟩
  · exact ⟨40, by omega, by omega, .inr ⟨rfl, by omega⟩⟩
set_option maxHeartbeats 16000000 in
set_option maxRecDepth 100000 in
theorem flushed_calls (A0 : Option Addr) (c0 : Nat) (l0 : List Int) (A1 : Option Addr) (c1 : Nat) (l1 : List Int) (bits : Int) (w : World) (hr0 : Kd.C (Kd.int .i64) w A0 l0.length l0) (hc0 : l0.length ≤ c0) (hr1 : Kd.C (Kd.int .i64) w A1 l1.length l1) (hc1 : l1.length ≤ c1) (hb0 : ∀ x ∈ l0, (Lit.int .i64 x).wf = true) (hb1 : ∀ x ∈ l1, (Lit.int .i64 x).wf = true) :
    Calls Try.prog 3 #[.slice A0 l0.length c0, .slice A1 l1.length c1, .int .u64 bits] w fun e w' => e = .returned (.bool true) ∧ Below w.heap.size w w' := by
  have hmx0 : l0.length ≤ 9223372036854775807 := Kd.C_max hr0
  have hmx1 : l1.length ≤ 9223372036854775807 := Kd.C_max hr1
  have HR0 := Aside0.mk hr0
  have HR1 := Aside0.mk hr1
  clear hr0 hr1 hc0 hc1
  have hz8 := zero_rows
  have hz9 := zero_bools
  have hmk := make64
  go_enter Try.func3, Try.ntmps3
  go_wp2_with fail
  ((with_reducible refine (made_calls w).mono ?_))
  rintro e w1 ⟨g, rfl, hb, hd⟩
  have B1 := Aside0.mk hb
  have D1 := Aside0.mk hd
  obtain ⟨ok1, hok1⟩ : ∃ ok1 : Nat → Prop, ok1 = (fun k => w.heap.size ≤ k ∧ k < w1.heap.size) := ⟨_, rfl⟩
  rw [← hok1] at D1
  clear hb hd hok1
  go_wp2_with fail
  have W80 := Aside0.mk (Wants.new (H := w.heap.size) (ok := ok1) w1 B1.out.size D1.out.2.1)
  obtain ⟨W0, hW0⟩ : ∃ W0 : World, W0 = (w1.alloc (.cells nil8.toArray 27)).alloc (.cells (bools8 [] 0) 28) := ⟨_, rfl⟩
  obtain ⟨b8, hb8⟩ : ∃ b, b = w1.heap.size := ⟨_, rfl⟩
  obtain ⟨b9, hb9⟩ : ∃ b, b = w1.heap.size + 1 := ⟨_, rfl⟩
  have hbel : Below w1.heap.size w1 W0 := by rw [hW0]; exact below_alloc (below_alloc (Below.refl _ _) _) _
  have WW := Aside0.mk (show Wants w.heap.size W0 ok1 b8 nil8 (List.replicate 8 []) by rw [hW0, hb8]; exact W80.out.below (below_alloc (Below.refl _ _) _))
  have WS := Aside0.mk (show HoldsRow W0 b9 28 (bools8 [] 0) ∧ ¬ ok1 b9 ∧ w.heap.size ≤ b9 from ⟨by rw [hW0, hb9]; have := HoldsRow.new (w1.alloc (.cells nil8.toArray 27)) 28 (bools8 [] 0); rw [World.size_alloc] at this; exact this, fun q => by have := D1.out.2.1 _ q; omega, by have := B1.out.size; omega⟩)
  have D0 := Aside0.mk (D1.out.below hbel)
  have B0 := Aside0.mk (B1.out.trans (hbel.mono B1.out.size))
  rw [← hW0, ← hb9, ← hb8]
  clear hW0 hb8 hb9 hbel W80 D1 B1 hz8 hz9
  go_loopw [10] (fun i wr => ∃ (j : Nat) (vs : List Value), j ≤ 8 ∧ i = .int .i64 (j : Nat) ∧ Aside0 (DL w.heap.size wr ok1 g (newS 8)) ∧ Aside0 (Wants w.heap.size wr ok1 b8 vs (List.replicate j z64 ++ List.replicate (8 - j) [])) ∧ Aside0 (HoldsRow wr b9 28 (bools8 [] 0) ∧ ¬ ok1 b9 ∧ w.heap.size ≤ b9) ∧ Aside0 (Below w.heap.size w wr)) (fun i _ => 8 - (intOf i).toNat)
  case atStart => exact ⟨0, nil8, by omega, rfl, D0, WW, WS, B0⟩
  case round =>
    clear D0 WW WS B0
    obtain ⟨j, vs, hj, rfl, RD, RW, RS, RB⟩ := hrel
    by_cases hlt : j < 8
    · have d1 : decide ((j : Int) < 8) = true := decide_eq_true (by omega)
      have d2 : decide (j < 8) = true := decide_eq_true (by omega)
      have x0 := eq_true (show (0 : Int) ≤ (j : Int) by omega)
      have x1 := eq_true (show (j : Int) < 8 by omega)
      obtain ⟨W2, hW2⟩ : ∃ W2 : World, W2 = wr.alloc (.cells (rowK .u8 z64) 5) := ⟨_, rfl⟩
      have hbel : Below wr.heap.size wr W2 := by rw [hW2]; exact below_alloc (Below.refl _ _) _
      have SW := RW.out.below hbel
      obtain ⟨A, c, K1, -⟩ := SW.cell hlt
      have z1 := SW.1.free j
      have hr : Kd.R (Kd.int .u8) 5 W2 wr.heap.size (fun _ => True) (.slice (some ⟨wr.heap.size, 0, none⟩) 64 64) z64 := by
        rw [hW2]
        have := (HoldsRow.new wr 5 (rowK .u8 z64)).own (base := wr.heap.size) (Nat.le_refl _) (by rw [z64_len]; decide)
        rw [z64_len] at this
        exact this
      have SS := SW.set hlt (A := some ⟨wr.heap.size, 0, none⟩) (n := 64) (c := 64) (x := z64) z64_len (RD.out.fresh hr)
      have hxs : (List.replicate j z64 ++ List.replicate (8 - j) ([] : List Int)).set j z64 = List.replicate (j + 1) z64 ++ List.replicate (8 - (j + 1)) [] := by
        rw [List.set_append_right _ _ (by simp), List.length_replicate, Nat.sub_self, show 8 - j = (8 - (j + 1)) + 1 by omega, List.replicate_succ, List.set_cons_zero, List.replicate_succ' (n := j)]
        simp
      rw [hxs] at SS
      have T1 := Aside0.mk SS
      have hb8g : b8 ≠ b9 := ne_kind SW.1 (RS.out.1.below hbel RS.out.1.lt) (by decide)
      have T2 := Aside0.mk (show HoldsRow (W2.setCell ⟨b8, j, none⟩ (.slice (some ⟨wr.heap.size, 0, none⟩) 64 64)) b9 28 (bools8 [] 0) ∧ ¬ ok1 b9 ∧ w.heap.size ≤ b9 from ⟨(RS.out.1.below hbel RS.out.1.lt).set_other _ _ (Ne.symm hb8g), RS.out.2⟩)
      have T3 := Aside0.mk (show DL w.heap.size (W2.setCell ⟨b8, j, none⟩ (.slice (some ⟨wr.heap.size, 0, none⟩) 64 64)) ok1 g (newS 8) from by
        have hd := RD.out.below hbel
        exact ⟨hd.1.move (fun k hk _ => Below.heap_setCell W2 ⟨b8, j, none⟩ _ k (fun e => SW.2.2.2.1 (by rw [e] at hk; exact hk))), fun k hk => by have := hd.2.1 k hk; simpa [World.setCell] using this, by have := hd.2.2; simpa [World.setCell] using this⟩)
      have T4 := Aside0.mk (show Below w.heap.size w (W2.setCell ⟨b8, j, none⟩ (.slice (some ⟨wr.heap.size, 0, none⟩) 64 64)) from (RB.out.trans (hbel.mono RB.out.size)).setCell (show w.heap.size ≤ (⟨b8, j, none⟩ : Addr).block from SW.2.2.2.2.1) _)
      have HW2 := Aside0.mk hW2
      rw [hW2] at K1 z1
      clear hW2 hbel SW SS hr hxs hb8g RD RW RS RB
      go_wp2_with fail
      rw [← HW2.out]
      go_roundw
      case rel => exact ⟨j + 1, _, by omega, by go_num, T3, T1, T2, T4⟩
      case measure => simp [intOf]; omega
    · obtain rfl : j = 8 := by omega
      have e8 : (List.replicate 8 z64 ++ List.replicate (8 - 8) ([] : List Int)) = eight zs8 [] := by decide +kernel
      rw [e8] at RW
      have d1 : decide ((8 : Int) < 8) = false := rfl
      obtain ⟨N0, hN1, hN2, hN3⟩ := min40 l0.length
      clear e8 hj hlt hmk
      go_wp2_with fail
      have RD0 := Aside0.mk (show DL w.heap.size wr ok1 g (flA l0 0) from RD.out)
      go_loopw [11] (fun i wr => ∃ (j : Nat) (vs : List Value) (ok : Nat → Prop), j ≤ N0 ∧ i = .int .i64 (j : Nat) ∧ Aside0 (DL w.heap.size wr ok g (flA l0 j)) ∧ Aside0 (Wants w.heap.size wr ok b8 vs (eight zs8 ((l0.take j).map wrI))) ∧ Aside0 (HoldsRow wr b9 28 (bools8 [] 0) ∧ ¬ ok b9 ∧ w.heap.size ≤ b9) ∧ Aside0 (Below w.heap.size w wr)) (fun i _ => N0 - (intOf i).toNat)
      case atStart => exact ⟨0, vs, ok1, by omega, rfl, RD0, RW, RS, RB⟩
      case round =>
        clear RD0 RD RW RS RB d1
        obtain ⟨j, vs, ok, hj, rfl, RD, RW, RS, RB⟩ := hrel
        by_cases hlt : j < N0
        · have d1 : decide ((j : Int) < (l0.length : Int)) = true := decide_eq_true (by omega)
          have d2 : decide (j < l0.length) = true := decide_eq_true (by omega)
          have d3 : decide ((j : Int) < 40) = true := decide_eq_true (by omega)
          have d4 : decide (j < 40) = true := decide_eq_true (by omega)
          have b0 := eq_true (show (0 : Int) ≤ (j : Int) by omega)
          have b1 := eq_true (show (j : Int) < (l0.length : Int) by omega)
          obtain ⟨ad, hA, hcell⟩ := Kd.at_int (Kd.C_below HR0.out RB.out) (j : Int) (by omega) (by omega)
          subst hA
          rw [Int.toNat_natCast] at hcell
          obtain ⟨a, ha⟩ : ∃ a : Nat, rd l0 j % 8 = (a : Int) := ⟨(rd l0 j % 8).toNat, by omega⟩
          have ha8 : a < 8 := by omega
          have HA := Aside0.mk ha
          have HBG := Aside0.mk (show encoreref00_Bring.f (rd l0 j) 8 = some (a : Int) by rw [← ha]; exact bring_eq (rd l0 j) 8 (by decide) (by decide))
          obtain ⟨q, hq⟩ : ∃ q, q = (rd l0 j).tdiv 8 := ⟨_, rfl⟩
          have HQ := Aside0.mk hq
          have hqw : IntKind.i64.wrap ((rd l0 j).tdiv 8) = (rd l0 j).tdiv 8 := quo8 (hb0 (rd l0 j) (rd_mem (by omega)))
          have HBD := Aside0.mk (show Below wr.heap.size wr wr.drew from below_drew (Below.refl _ _))
          clear ha hq
          go_wp2_with fail
          refine start_ (n := 13) (S := fun w' => w'.cell? (ad.add j) = some (.int .i64 (rd l0 j))) (ds := [12]) #[false, false, false, false, false, false, false, false, false, false, false, false, false] (by kernel_rfl) rfl rfl (hcell) (fun hHeld => ?_)
          refine pure_ (i := 0) (N := some 34) (v := ?_) (a' := ?_) #[true, false, false, false, false, false, false, false, false, false, false, false, false] rfl rfl (by kernel_rfl) (fun _ _ _ h => h) (Or.inl ⟨by rfl, ?_⟩) ?_ ?_
          rotate_left
          · intro w'
            go_simp
            with_reducible rfl
          rotate_left
          · simp only [Act.put, List.setIfInBounds_toArray, List.set_cons_zero, List.set_cons_succ, i64_w, i32_w]
            rfl
          refine pure_ (i := 1) (N := some 35) (v := ?_) (a' := ?_) #[true, true, false, false, false, false, false, false, false, false, false, false, false] rfl rfl (by kernel_rfl) (fun _ _ _ h => h) (Or.inl ⟨by rfl, ?_⟩) ?_ ?_
          rotate_left
          · intro w'
            go_simp
            with_reducible rfl
          rotate_left
          · simp only [Act.put, List.setIfInBounds_toArray, List.set_cons_zero, List.set_cons_succ, i64_w, i32_w]
            rfl
          refine pure_ (i := 2) (N := some 36) (v := ?_) (a' := ?_) #[true, true, true, false, false, false, false, false, false, false, false, false, false] rfl rfl (by kernel_rfl) (fun _ _ _ h => h) (Or.inl ⟨by rfl, ?_⟩) ?_ ?_
          rotate_left
          · intro w'
            go_simp
            with_reducible rfl
          rotate_left
          · simp only [Act.put, List.setIfInBounds_toArray, List.set_cons_zero, List.set_cons_succ, i64_w, i32_w]
            rfl
          refine pure_ (i := 5) (N := some 39) (v := ?_) (a' := ?_) #[true, true, true, false, false, true, false, false, false, false, false, false, false] rfl rfl (by kernel_rfl) (fun _ _ _ h => h) (Or.inl ⟨by rfl, ?_⟩) ?_ ?_
          rotate_left
          · intro w'
            go_simp
            with_reducible rfl
          rotate_left
          · simp only [Act.put, List.setIfInBounds_toArray, List.set_cons_zero, List.set_cons_succ, i64_w, i32_w]
            rfl
          refine pure_ (i := 6) (N := some 40) (v := ?_) (a' := ?_) #[true, true, true, false, false, true, true, false, false, false, false, false, false] rfl rfl (by kernel_rfl) (fun _ _ _ h => h) (Or.inl ⟨by rfl, ?_⟩) ?_ ?_
          rotate_left
          · intro w'
            go_simp
            with_reducible rfl
          rotate_left
          · simp only [Act.put, List.setIfInBounds_toArray, List.set_cons_zero, List.set_cons_succ, i64_w, i32_w]
            rfl
          refine pure_ (i := 7) (N := some 41) (v := ?_) (a' := ?_) #[true, true, true, false, false, true, true, true, false, false, false, false, false] rfl rfl (by kernel_rfl) (fun _ _ _ h => h) (Or.inl ⟨by rfl, ?_⟩) ?_ ?_
          rotate_left
          · intro w'
            go_simp
            with_reducible rfl
          rotate_left
          · simp only [Act.put, List.setIfInBounds_toArray, List.set_cons_zero, List.set_cons_succ, i64_w, i32_w]
            rfl
          refine take_ (i := 3) (N := some 37) (v := ?_) (a' := ?_) #[true, true, true, true, false, true, true, true, false, false, false, false, false] rfl rfl (by kernel_rfl) (fun _ _ _ h => h) (Or.inl ⟨by rfl, ?_⟩) hHeld ?_ ?_
          rotate_left
          · intro w' s0
            go_simp
            with_reducible rfl
          rotate_left
          · simp only [Act.put, List.setIfInBounds_toArray, List.set_cons_zero, List.set_cons_succ, i64_w, i32_w]
            rfl
          refine take_ (i := 8) (N := some 42) (v := ?_) (a' := ?_) #[true, true, true, true, false, true, true, true, true, false, false, false, false] rfl rfl (by kernel_rfl) (fun _ _ _ h => h) (Or.inl ⟨by rfl, ?_⟩) hHeld ?_ ?_
          rotate_left
          · intro w' s0
            go_simp
            with_reducible rfl
          rotate_left
          · simp only [Act.put, List.setIfInBounds_toArray, List.set_cons_zero, List.set_cons_succ, i64_w, i32_w]
            rfl
          refine pure_ (i := 9) (N := some 43) (v := ?_) (a' := ?_) #[true, true, true, true, false, true, true, true, true, true, false, false, false] rfl rfl (by kernel_rfl) (fun _ _ _ h => h) (Or.inl ⟨by rfl, ?_⟩) ?_ ?_
          rotate_left
          · intro w'
            go_simp
            with_reducible rfl
          rotate_left
          · simp only [Act.put, List.setIfInBounds_toArray, List.set_cons_zero, List.set_cons_succ, i64_w, i32_w]
            rfl
          refine join_ (σ := Nat) 1 #[true, true, true, true, true, true, true, true, true, true, true, true, false] (fun s => [(38, .int .i64 (a : Int)), (44, .agg #[.int .i64 (a : Int), .int .i64 ((rd l0 j).tdiv 8)]), (12, .pointer (some ⟨s, 0, none⟩))]) (fun s w' => HoldsRow w' s 31 #[.int .i64 0, .int .i64 0] ∧ s = wr.heap.size ∧ Below wr.heap.size wr w') ?_ ?_
          rotate_left
          · intro hCont
            refine two_ (i := 4) (j := 11) (Ni := some 38) (Nj := some 12) #[true, true, true, true, true, true, true, true, true, true, false, false, false] #[true, true, true, true, false, true, true, true, true, true, false, true, false] rfl rfl rfl rfl (by kernel_rfl) (by decide) (by decide) (fun K hK => ?_) (fun K hK => ?_)
            · skip
              refine goes_ Try.func10 (by kernel_rfl) rfl #[.int .i64 (rd l0 j), .int .i64 8] (by rfl) rfl rfl (by simp only [List.map_toArray, List.map_cons, List.map_nil]; rfl) ?_
              with_reducible refine (encoreref00_Bring.calls (rd l0 j) 8 (a : Int) wr.drew HBG.out).mono ?_
              rintro e w3 ⟨rfl, hd⟩
              refine ⟨_, rfl, ?_⟩
              have hb3 : Below wr.heap.size wr w3 := HBD.out.trans (show Below wr.heap.size wr.drew w3 from hd.below)
              have hc3 := pw_cell_below hb3 hcell
              have hs3 : w3.heap.size = wr.heap.size := by obtain ⟨n, hn⟩ := hd.out; rw [hn]; rfl
              refine hK.out _ _ (hc3) (fun hHeld => ?_)
              clear hK K
              refine norm_ (a' := ?_) ?_ ?_
              rotate_left
              · show Act.put _ (some 38) _ = _
                simp only [Act.put, List.setIfInBounds_toArray, List.set_cons_zero, List.set_cons_succ, i64_w, i32_w]
                rfl
              refine pure_ (i := 10) (N := some 44) (v := ?_) (a' := ?_) #[true, true, true, true, true, true, true, true, true, true, true, false, false] rfl rfl (by kernel_rfl) (fun _ _ _ h => h) (Or.inl ⟨by rfl, ?_⟩) ?_ ?_
              rotate_left
              · intro w'
                go_simp
                with_reducible rfl
              rotate_left
              · simp only [Act.put, List.setIfInBounds_toArray, List.set_cons_zero, List.set_cons_succ, i64_w, i32_w]
                rfl
              refine one_ (i := 11) (N := some 12) #[true, true, true, true, true, true, true, true, true, true, true, true, false] rfl rfl (by kernel_rfl) (by decide) (fun K hK => ?_)
              refine value_ (w1 := w3.alloc (.cells #[.int .i64 0, .int .i64 0] 31)) (v := .pointer (some ⟨w3.heap.size, 0, none⟩)) (by rfl) rfl ?_ ?_
              · refine exec_alloc 31 ?_ _ zero_wr
                rfl
              have hF := And.intro (HoldsRow.new w3 31 #[.int .i64 0, .int .i64 0]) (And.intro hs3 (below_alloc hb3 (.cells #[.int .i64 0, .int .i64 0] 31)))
              refine hK.out _ _ (cell_alloc_old _ hc3) (fun hHeld => ?_)
              clear hK K
              refine norm_ (a' := ?_) ?_ ?_
              rotate_left
              · show Act.put _ (some 12) _ = _
                simp only [Act.put, List.setIfInBounds_toArray, List.set_cons_zero, List.set_cons_succ, i64_w, i32_w]
                rfl
              exact norm_ (by simp only [putAll, Act.put, List.setIfInBounds_toArray, List.set_cons_zero, List.set_cons_succ]) (hCont w3.heap.size _ hF)
            · skip
              refine value_ (w1 := wr.drew.alloc (.cells #[.int .i64 0, .int .i64 0] 31)) (v := .pointer (some ⟨wr.drew.heap.size, 0, none⟩)) (by rfl) rfl ?_ ?_
              · refine exec_alloc 31 ?_ _ zero_wr
                rfl
              have hr3 := HoldsRow.new wr.drew 31 #[.int .i64 0, .int .i64 0]
              have hb3 := below_alloc HBD.out (.cells #[.int .i64 0, .int .i64 0] 31)
              refine hK.out _ _ (cell_alloc_old _ hcell) (fun hHeld => ?_)
              clear hK K
              refine norm_ (a' := ?_) ?_ ?_
              rotate_left
              · show Act.put _ (some 12) _ = _
                simp only [Act.put, List.setIfInBounds_toArray, List.set_cons_zero, List.set_cons_succ, i64_w, i32_w]
                rfl
              refine one_ (i := 4) (N := some 38) #[true, true, true, true, true, true, true, true, true, true, false, true, false] rfl rfl (by kernel_rfl) (by decide) (fun K hK => ?_)
              refine goes_ Try.func10 (by kernel_rfl) rfl #[.int .i64 (rd l0 j), .int .i64 8] (by rfl) rfl rfl (by simp only [List.map_toArray, List.map_cons, List.map_nil]; rfl) ?_
              with_reducible refine (encoreref00_Bring.calls (rd l0 j) 8 (a : Int) (wr.drew.alloc (.cells #[.int .i64 0, .int .i64 0] 31)) HBG.out).mono ?_
              rintro e w4 ⟨rfl, hd⟩
              refine ⟨_, rfl, ?_⟩
              have hb4 := hd.below
              have hF : HoldsRow w4 wr.drew.heap.size 31 #[.int .i64 0, .int .i64 0] ∧ wr.drew.heap.size = wr.heap.size ∧ Below wr.heap.size wr w4 := ⟨hr3.below hb4 hr3.lt, rfl, hb3.trans (hb4.mono (by simp))⟩
              have hc4 := pw_cell_below hF.2.2 hcell
              refine hK.out _ _ (hc4) (fun hHeld => ?_)
              clear hK K
              refine norm_ (a' := ?_) ?_ ?_
              rotate_left
              · show Act.put _ (some 38) _ = _
                simp only [Act.put, List.setIfInBounds_toArray, List.set_cons_zero, List.set_cons_succ, i64_w, i32_w]
                rfl
              refine pure_ (i := 10) (N := some 44) (v := ?_) (a' := ?_) #[true, true, true, true, true, true, true, true, true, true, true, true, false] rfl rfl (by kernel_rfl) (fun _ _ _ h => h) (Or.inl ⟨by rfl, ?_⟩) ?_ ?_
              rotate_left
              · intro w'
                go_simp
                with_reducible rfl
              rotate_left
              · simp only [Act.put, List.setIfInBounds_toArray, List.set_cons_zero, List.set_cons_succ, i64_w, i32_w]
                rfl
              exact norm_ (by simp only [putAll, Act.put, List.setIfInBounds_toArray, List.set_cons_zero, List.set_cons_succ]) (hCont wr.drew.heap.size _ hF)
          rintro b12 w5 ⟨hrow, hs5, hb5⟩
          have hHeld : w5.cell? (ad.add j) = some (.int .i64 (rd l0 j)) := pw_cell_below hb5 hcell
          refine norm_ (a' := ?_) ?_ ?_
          rotate_left
          · simp only [putAll, Act.put, List.setIfInBounds_toArray, List.set_cons_zero, List.set_cons_succ]
            rfl
          refine last_ (i := 12) (N := none) #[true, true, true, true, true, true, true, true, true, true, true, true, true] rfl rfl (by kernel_rfl) (by decide) (fun K hK => ?_)
          refine skip_ (w1 := w5.setCells b12 0 [.int .i64 (a : Int), .int .i64 ((rd l0 j).tdiv 8)]) (by rfl) rfl ?_ ?_
          · refine exec_store_mid 31 (.tmp 12) (.tmp 44) ?_ b12 0 #[.int .i64 (a : Int), .int .i64 ((rd l0 j).tdiv 8)] ?_ ?_ (there_row hrow 0 _ (by show 0 + 2 ≤ 2; omega)) (by kernel_rfl) (by simp [Value.oneCell'])
            · rfl
            · rfl
            · rfl
          refine hK.out _ _ ?_
          clear hK K
          refine done_ (by kernel_rfl) ?_
          
          have hrow2 : HoldsRow (w5.setCells b12 0 [.int .i64 (a : Int), .int .i64 ((rd l0 j).tdiv 8)]) b12 31 #[.int .i64 (a : Int), .int .i64 ((rd l0 j).tdiv 8)] := set_row_all hrow rfl
          have hb6 : Below wr.heap.size wr (w5.setCells b12 0 [.int .i64 (a : Int), .int .i64 ((rd l0 j).tdiv 8)]) := sets_below hb5 (by omega) _
          obtain ⟨w6, hw6⟩ : ∃ w6, w6 = w5.setCells b12 0 [.int .i64 (a : Int), .int .i64 ((rd l0 j).tdiv 8)] := ⟨_, rfl⟩
          rw [← hw6] at hrow2 hb6 ⊢
          rw [← HQ.out] at hrow2 ⊢
          have P12 := Aside0.mk (show HoldsRow w6 b12 31 #[.int .i64 (a : Int), .int .i64 q] ∧ ¬ ok b12 ∧ w.heap.size ≤ b12 from ⟨hrow2, fun hk => by have := RD.out.2.1 _ hk; omega, by have := RB.out.size; omega⟩)
          have D6 := Aside0.mk (RD.out.below hb6)
          have W6 := Aside0.mk (RW.out.below hb6)
          have S6 := Aside0.mk (And.intro (RS.out.1.below hb6 RS.out.1.lt) RS.out.2)
          have B6 := Aside0.mk (RB.out.trans (hb6.mono RB.out.size))
          clear hcell HBD hrow hs5 hb5 hrow2 hb6 hw6 hHeld RD RW RS RB hqw
          clear w5
          have K1 : w6.cell? ⟨b12, 0, none⟩ = some (.int .i64 (a : Int)) := P12.out.1.cell rfl
          have K2 : w6.cell? ⟨b12, 1, none⟩ = some (.int .i64 q) := P12.out.1.cell rfl
          have HWR := Aside0.mk (show writeF (flA l0 j) (a : Int) (secI q) = (0, flA l0 (j + 1)) by rw [HQ.out]; exact flA_wr l0 j (by omega) a HA.out)
          have HWL := Aside0.mk (show (flA l0 j).waits.length ≤ 1000000 from map_take_len _ _ (by omega))
          go_wp2_with fail
          refine start_ (n := 8) (S := fun w' => w'.cell? ⟨b12, 0, none⟩ = some (.int .i64 (a : Int)) ∧ w'.cell? ⟨b12, 1, none⟩ = some (.int .i64 q)) (ds := [6]) #[false, false, false, false, false, false, false, false] (by kernel_rfl) rfl rfl ⟨K1, K2⟩ (fun hHeld => ?_)
          refine pure_ (i := 0) (N := some 45) (v := ?_) (a' := ?_) #[true, false, false, false, false, false, false, false] rfl rfl (by kernel_rfl) (fun _ _ _ h => h) (Or.inl ⟨by rfl, ?_⟩) ?_ ?_
          rotate_left
          · intro w'
            go_simp
            with_reducible rfl
          rotate_left
          · simp only [Act.put, List.setIfInBounds_toArray, List.set_cons_zero, List.set_cons_succ, i64_w, i32_w]
            rfl
          refine pure_ (i := 1) (N := some 46) (v := ?_) (a' := ?_) #[true, true, false, false, false, false, false, false] rfl rfl (by kernel_rfl) (fun _ _ _ h => h) (Or.inl ⟨by rfl, ?_⟩) ?_ ?_
          rotate_left
          · intro w'
            go_simp
            with_reducible rfl
          rotate_left
          · simp only [Act.put, List.setIfInBounds_toArray, List.set_cons_zero, List.set_cons_succ, i64_w, i32_w]
            rfl
          refine pure_ (i := 3) (N := some 48) (v := ?_) (a' := ?_) #[true, true, false, true, false, false, false, false] rfl rfl (by kernel_rfl) (fun _ _ _ h => h) (Or.inl ⟨by rfl, ?_⟩) ?_ ?_
          rotate_left
          · intro w'
            go_simp
            with_reducible rfl
          rotate_left
          · simp only [Act.put, List.setIfInBounds_toArray, List.set_cons_zero, List.set_cons_succ, i64_w, i32_w]
            rfl
          refine take_ (i := 2) (N := some 47) (v := ?_) (a' := ?_) #[true, true, true, true, false, false, false, false] rfl rfl (by kernel_rfl) (fun _ _ _ h => h) (Or.inl ⟨by rfl, ?_⟩) hHeld ?_ ?_
          rotate_left
          · rintro w' ⟨s0, s1⟩
            go_simp
            with_reducible rfl
          rotate_left
          · simp only [Act.put, List.setIfInBounds_toArray, List.set_cons_zero, List.set_cons_succ, i64_w, i32_w]
            rfl
          refine take_ (i := 4) (N := some 49) (v := ?_) (a' := ?_) #[true, true, true, true, true, false, false, false] rfl rfl (by kernel_rfl) (fun _ _ _ h => h) (Or.inl ⟨by rfl, ?_⟩) hHeld ?_ ?_
          rotate_left
          · rintro w' ⟨s0, s1⟩
            go_simp
            with_reducible rfl
          rotate_left
          · simp only [Act.put, List.setIfInBounds_toArray, List.set_cons_zero, List.set_cons_succ, i64_w, i32_w]
            rfl
          refine one_ (i := 5) (N := some 50) #[true, true, true, true, true, true, false, false] rfl rfl (by kernel_rfl) (by decide) (fun K hK => ?_)
          refine goes_ Try.func12 (by kernel_rfl) rfl #[.int .i64 q] (by rfl) rfl rfl (by simp only [List.map_toArray, List.map_cons, List.map_nil]; rfl) ?_
          with_reducible refine (sector_calls q w6.drew).mono ?_
          rintro e w7 ⟨A7, c7, rfl, hr, hb⟩
          refine ⟨_, rfl, ?_⟩
          have hb7 : Below w6.heap.size w6 w7 := ⟨hb.os, hb.tape, hb.output, hb.size, hb.block⟩
          have D7 := Aside0.mk (D6.out.below hb7)
          have W7 := Aside0.mk (W6.out.below hb7)
          have S7 := Aside0.mk (And.intro (S6.out.1.below hb7 S6.out.1.lt) S6.out.2)
          have P7 := Aside0.mk (And.intro (P12.out.1.below hb7 P12.out.1.lt) P12.out.2)
          have B7 := Aside0.mk (B6.out.trans (hb7.mono B6.out.size))
          have R7 := Aside0.mk (D6.out.fresh (show Kd.R (Kd.int .u8) 5 w7 w6.heap.size (fun _ => True) (.slice A7 64 c7) (secI q) from hr))
          have K3 := P7.out.1.cell (j := 0) (v := .int .i64 (a : Int)) rfl
          have K4 := P7.out.1.cell (j := 1) (v := .int .i64 q) rfl
          clear hr hb hb7 D6 W6 S6 P12 B6
          refine hK.out _ _ ⟨K3, K4⟩ (fun hHeld => ?_)
          clear hK K
          refine norm_ (a' := ?_) ?_ ?_
          rotate_left
          · show Act.put _ (some 50) _ = _
            simp only [Act.put, List.setIfInBounds_toArray, List.set_cons_zero, List.set_cons_succ, i64_w, i32_w]
            rfl
          refine last_ (i := 6) (N := some 51) #[true, true, true, true, true, true, true, false] rfl rfl (by kernel_rfl) (by decide) (fun K hK => ?_)
          refine goes_ Try.func11 (by kernel_rfl) rfl #[.pointer (some ⟨g, 0, none⟩), .int .i64 (a : Int), .slice A7 64 c7] (by rfl) rfl rfl (by simp only [List.map_toArray, List.map_cons, List.map_nil]; rfl) ?_
          with_reducible refine (LWrite w.heap.size w7 ok g (flA l0 j) (flA l0 (j + 1)) 0 q (a : Int) A7 c7 D7.out HWL.out R7.out HWR.out).mono ?_
          rintro e w8 ⟨rfl, ok8, hd, hm⟩
          refine ⟨_, rfl, ?_⟩
          have D8 := Aside0.mk hd
          have W8 := Aside0.mk (W7.out.moves hm)
          have S8 := Aside0.mk (And.intro (cell_moves S7.out.1 S7.out.2.1 hm).1 (And.intro (cell_moves S7.out.1 S7.out.2.1 hm).2 S7.out.2.2))
          have P8 := Aside0.mk (And.intro (cell_moves P7.out.1 P7.out.2.1 hm).1 (And.intro (cell_moves P7.out.1 P7.out.2.1 hm).2 P7.out.2.2))
          have B8 := Aside0.mk (B7.out.trans hm.1)
          clear hd hm D7 W7 S7 P7 B7 R7 K3 K4
          refine hK.out _ _ ?_
          clear hK K
          refine norm_ (a' := ?_) ?_ ?_
          rotate_left
          · show Act.put _ (some 51) _ = _
            simp only [Act.put, List.setIfInBounds_toArray, List.set_cons_zero, List.set_cons_succ, i64_w, i32_w]
            rfl
          refine pure_ (i := 7) (N := some 52) (v := ?_) (a' := ?_) #[true, true, true, true, true, true, true, true] rfl rfl (by kernel_rfl) (fun _ _ _ h => h) (Or.inl ⟨by rfl, ?_⟩) ?_ ?_
          rotate_left
          · intro w'
            go_simp
            with_reducible rfl
          rotate_left
          · simp only [Act.put, List.setIfInBounds_toArray, List.set_cons_zero, List.set_cons_succ, i64_w, i32_w]
            rfl
          refine done_ (by kernel_rfl) ?_
          
          clear K1 K2 hHeld
          go_wp2_with fail
          have K1 : w8.cell? ⟨b12, 0, none⟩ = some (.int .i64 (a : Int)) := P8.out.1.cell rfl
          have K2 : w8.cell? ⟨b12, 1, none⟩ = some (.int .i64 q) := P8.out.1.cell rfl
          have y0 := eq_true (show (0 : Int) ≤ (a : Int) by omega)
          have y1 := eq_true (show (a : Int) < 8 by omega)
          refine start_ (n := 7) (S := fun w' => w'.cell? ⟨b12, 0, none⟩ = some (.int .i64 (a : Int)) ∧ w'.cell? ⟨b12, 1, none⟩ = some (.int .i64 q)) (ds := [6]) #[false, false, false, false, false, false, false] (by kernel_rfl) rfl rfl ⟨K1, K2⟩ (fun hHeld => ?_)
          refine pure_ (i := 0) (N := some 53) (v := ?_) (a' := ?_) #[true, false, false, false, false, false, false] rfl rfl (by kernel_rfl) (fun _ _ _ h => h) (Or.inl ⟨by rfl, ?_⟩) ?_ ?_
          rotate_left
          · intro w'
            go_simp
            with_reducible rfl
          rotate_left
          · simp only [Act.put, List.setIfInBounds_toArray, List.set_cons_zero, List.set_cons_succ, i64_w, i32_w]
            rfl
          refine pure_ (i := 2) (N := some 55) (v := ?_) (a' := ?_) #[true, false, true, false, false, false, false] rfl rfl (by kernel_rfl) (fun _ _ _ h => h) (Or.inl ⟨by rfl, ?_⟩) ?_ ?_
          rotate_left
          · intro w'
            go_simp
            with_reducible rfl
          rotate_left
          · simp only [Act.put, List.setIfInBounds_toArray, List.set_cons_zero, List.set_cons_succ, i64_w, i32_w]
            rfl
          refine take_ (i := 1) (N := some 54) (v := ?_) (a' := ?_) #[true, true, true, false, false, false, false] rfl rfl (by kernel_rfl) (fun _ _ _ h => h) (Or.inl ⟨by rfl, ?_⟩) hHeld ?_ ?_
          rotate_left
          · rintro w' ⟨s0, s1⟩
            go_simp
            with_reducible rfl
          rotate_left
          · simp only [Act.put, List.setIfInBounds_toArray, List.set_cons_zero, List.set_cons_succ, i64_w, i32_w]
            rfl
          refine take_ (i := 3) (N := some 56) (v := ?_) (a' := ?_) #[true, true, true, true, false, false, false] rfl rfl (by kernel_rfl) (fun _ _ _ h => h) (Or.inl ⟨by rfl, ?_⟩) hHeld ?_ ?_
          rotate_left
          · rintro w' ⟨s0, s1⟩
            go_simp
            with_reducible rfl
          rotate_left
          · simp only [Act.put, List.setIfInBounds_toArray, List.set_cons_zero, List.set_cons_succ, i64_w, i32_w]
            rfl
          refine one_ (i := 4) (N := some 57) #[true, true, true, true, true, false, false] rfl rfl (by kernel_rfl) (by decide) (fun K hK => ?_)
          refine goes_ Try.func12 (by kernel_rfl) rfl #[.int .i64 q] (by rfl) rfl rfl (by simp only [List.map_toArray, List.map_cons, List.map_nil]; rfl) ?_
          with_reducible refine (sector_calls q w8.drew).mono ?_
          rintro e w9 ⟨A9, c9, rfl, hr, hb⟩
          refine ⟨_, rfl, ?_⟩
          have hb9 : Below w8.heap.size w8 w9 := ⟨hb.os, hb.tape, hb.output, hb.size, hb.block⟩
          have D9 := Aside0.mk (D8.out.below hb9)
          have W9 := Aside0.mk (W8.out.below hb9)
          have S9 := Aside0.mk (And.intro (S8.out.1.below hb9 S8.out.1.lt) S8.out.2)
          have P9 := Aside0.mk (And.intro (P8.out.1.below hb9 P8.out.1.lt) P8.out.2)
          have B9 := Aside0.mk (B8.out.trans (hb9.mono B8.out.size))
          have R9 := Aside0.mk (D8.out.fresh (show Kd.R (Kd.int .u8) 5 w9 w8.heap.size (fun _ => True) (.slice A9 64 c9) (secI q) from hr))
          have K3 := P9.out.1.cell (j := 0) (v := .int .i64 (a : Int)) rfl
          have K4 := P9.out.1.cell (j := 1) (v := .int .i64 q) rfl
          obtain ⟨A10, c10, K5, -⟩ := W9.out.cell ha8
          have z5 := W9.out.1.free a
          clear hr hb hb9 D8 W8 S8 P8 B8
          refine hK.out _ _ ⟨K3, K4⟩ (fun hHeld => ?_)
          clear hK K
          refine norm_ (a' := ?_) ?_ ?_
          rotate_left
          · show Act.put _ (some 57) _ = _
            simp only [Act.put, List.setIfInBounds_toArray, List.set_cons_zero, List.set_cons_succ, i64_w, i32_w]
            rfl
          refine pure_ (i := 5) (N := some 58) (v := ?_) (a' := ?_) #[true, true, true, true, true, true, false] rfl rfl (by kernel_rfl) (fun _ _ _ h => h) (Or.inl ⟨by rfl, ?_⟩) ?_ ?_
          rotate_left
          · intro w'
            go_simp
            with_reducible rfl
          rotate_left
          · simp only [Act.put, List.setIfInBounds_toArray, List.set_cons_zero, List.set_cons_succ, i64_w, i32_w]
            rfl
          refine last_ (i := 6) (N := none) #[true, true, true, true, true, true, true] rfl rfl (by kernel_rfl) (by decide) (fun K hK => ?_)
          refine skip_ (w1 := ?_) (by rfl) rfl ?_ ?_
          rotate_left
          · go_simp
            rfl
          refine hK.out _ _ ?_
          clear hK K
          refine done_ (by kernel_rfl) ?_
          
          have WA := W9.out.set ha8 (secI_len q) R9.out
          have ex : (eight zs8 ((l0.take j).map wrI)).set a (secI q) = eight zs8 ((l0.take (j + 1)).map wrI) := by
            rw [take_rd (show j < l0.length by omega), List.map_append, ← eight_snoc _ _ _ ha8, HQ.out, ← HA.out]
            rfl
          rw [ex] at WA
          have T1 := Aside0.mk WA
          have T2 := Aside0.mk (W9.out.dl D9.out a (.slice A9 64 c9))
          have T3 := Aside0.mk (And.intro (W9.out.row S9.out.1 (by decide) a (.slice A9 64 c9)) S9.out.2)
          have T4 := Aside0.mk (W9.out.bel B9.out a (.slice A9 64 c9))
          clear WA ex K3 K4 K5 z5 D9 W9 S9 P9 B9 R9 K1 K2 hHeld y0 y1
          go_wp2_with fail
          go_roundw
          case rel => exact ⟨j + 1, _, ok8, by omega, by go_num, T2, T1, T3, T4⟩
          case measure => simp [intOf]; omega
        · obtain rfl : j = N0 := by omega
          have HFL := Aside0.mk (flA_fl l0 j l1)
          have HWL := Aside0.mk (show (flA l0 j).waits.length ≤ 1000000 from map_take_len _ _ (by omega))
          by_cases hll : j < l0.length
          · have d1 : decide ((j : Int) < (l0.length : Int)) = true := decide_eq_true (by omega)
            have d2 : decide (j < l0.length) = true := decide_eq_true (by omega)
            have d3 : decide ((j : Int) < 40) = false := decide_eq_false (by omega)
            have d4 : decide (j < 40) = false := decide_eq_false (by omega)
            clear hll
            go_wp2_with fail
            ((with_reducible refine (LFlush w.heap.size wr ok g (flA l0 j) (flB l0 j l1 0) 0 RD.out HWL.out HFL.out).mono ?_))
            rintro e w2 ⟨rfl, ok2, hd, hm⟩
            have D2 := Aside0.mk hd
            have W2 := Aside0.mk (RW.out.moves hm)
            have S2 := Aside0.mk (And.intro (cell_moves RS.out.1 RS.out.2.1 hm).1 (And.intro (cell_moves RS.out.1 RS.out.2.1 hm).2 RS.out.2.2))
            have B2 := Aside0.mk (RB.out.trans hm.1)
            clear hd hm RD RW RS RB
            go_wp2_with fail
            ((with_reducible refine (LWaits w.heap.size w2 ok2 g (flB l0 j l1 0) D2.out).mono ?_))
            rintro e w3 ⟨rfl, rfl⟩
            rw [show (((flB l0 j l1 0).waits.length : Nat) : Int) = 0 from rfl]
            rw [← bools8_nil l1] at S2
            obtain ⟨N1, hM1, hM2, hM3⟩ := min40 l1.length
            have HJ0 := Aside0.mk hj
            obtain ⟨n0, hn0⟩ : ∃ n0, n0 = j := ⟨_, rfl⟩
            subst hn0
            clear hlt hN3
            go_wp2_with fail
            go_loopw [13] (fun i wr => ∃ (j : Nat) (vs : List Value) (ok : Nat → Prop), j ≤ N1 ∧ i = .int .i64 (j : Nat) ∧ Aside0 (DL w.heap.size wr ok g (flB l0 n0 l1 j)) ∧ Aside0 (Wants w.heap.size wr ok b8 vs (eight zs8 ((l0.take n0).map wrI))) ∧ Aside0 (HoldsRow wr b9 28 (bools8 l1 j) ∧ ¬ ok b9 ∧ w.heap.size ≤ b9) ∧ Aside0 (Below w.heap.size w wr)) (fun i _ => N1 - (intOf i).toNat)
            case atStart => exact ⟨0, vs, ok2, by omega, rfl, D2, W2, S2, B2⟩
            case round =>
              clear D2 W2 S2 B2 d1 d2
              obtain ⟨j, vs, ok, hj, rfl, RD, RW, RS, RB⟩ := hrel
              by_cases hlt : j < N1
              · have d1 : decide ((j : Int) < (l1.length : Int)) = true := decide_eq_true (by omega)
                have d2 : decide (j < l1.length) = true := decide_eq_true (by omega)
                have d3 : decide ((j : Int) < 40) = true := decide_eq_true (by omega)
                have d4 : decide (j < 40) = true := decide_eq_true (by omega)
                have b0 := eq_true (show (0 : Int) ≤ (j : Int) by omega)
                have b1 := eq_true (show (j : Int) < (l1.length : Int) by omega)
                obtain ⟨ad, hA, hcell⟩ := Kd.at_int (Kd.C_below HR1.out RB.out) (j : Int) (by omega) (by omega)
                subst hA
                rw [Int.toNat_natCast] at hcell
                obtain ⟨a, ha⟩ : ∃ a : Nat, rd l1 j % 8 = (a : Int) := ⟨(rd l1 j % 8).toNat, by omega⟩
                have ha8 : a < 8 := by omega
                have HA := Aside0.mk ha
                have HBG := Aside0.mk (show encoreref00_Bring.f (rd l1 j) 8 = some (a : Int) by rw [← ha]; exact bring_eq (rd l1 j) 8 (by decide) (by decide))
                obtain ⟨q, hq⟩ : ∃ q, q = (rd l1 j).tdiv 8 := ⟨_, rfl⟩
                have HQ := Aside0.mk hq
                have hqw : IntKind.i64.wrap ((rd l1 j).tdiv 8) = (rd l1 j).tdiv 8 := quo8 (hb1 (rd l1 j) (rd_mem (by omega)))
                have HBD := Aside0.mk (show Below wr.heap.size wr wr.drew from below_drew (Below.refl _ _))
                clear ha hq
                go_wp2_with fail
                refine start_ (n := 13) (S := fun w' => w'.cell? (ad.add j) = some (.int .i64 (rd l1 j))) (ds := [12]) #[false, false, false, false, false, false, false, false, false, false, false, false, false] (by kernel_rfl) rfl rfl (hcell) (fun hHeld => ?_)
                refine pure_ (i := 0) (N := some 77) (v := ?_) (a' := ?_) #[true, false, false, false, false, false, false, false, false, false, false, false, false] rfl rfl (by kernel_rfl) (fun _ _ _ h => h) (Or.inl ⟨by rfl, ?_⟩) ?_ ?_
                rotate_left
                · intro w'
                  go_simp
                  with_reducible rfl
                rotate_left
                · simp only [Act.put, List.setIfInBounds_toArray, List.set_cons_zero, List.set_cons_succ, i64_w, i32_w]
                  rfl
                refine pure_ (i := 1) (N := some 78) (v := ?_) (a' := ?_) #[true, true, false, false, false, false, false, false, false, false, false, false, false] rfl rfl (by kernel_rfl) (fun _ _ _ h => h) (Or.inl ⟨by rfl, ?_⟩) ?_ ?_
                rotate_left
                · intro w'
                  go_simp
                  with_reducible rfl
                rotate_left
                · simp only [Act.put, List.setIfInBounds_toArray, List.set_cons_zero, List.set_cons_succ, i64_w, i32_w]
                  rfl
                refine pure_ (i := 2) (N := some 79) (v := ?_) (a' := ?_) #[true, true, true, false, false, false, false, false, false, false, false, false, false] rfl rfl (by kernel_rfl) (fun _ _ _ h => h) (Or.inl ⟨by rfl, ?_⟩) ?_ ?_
                rotate_left
                · intro w'
                  go_simp
                  with_reducible rfl
                rotate_left
                · simp only [Act.put, List.setIfInBounds_toArray, List.set_cons_zero, List.set_cons_succ, i64_w, i32_w]
                  rfl
                refine pure_ (i := 5) (N := some 82) (v := ?_) (a' := ?_) #[true, true, true, false, false, true, false, false, false, false, false, false, false] rfl rfl (by kernel_rfl) (fun _ _ _ h => h) (Or.inl ⟨by rfl, ?_⟩) ?_ ?_
                rotate_left
                · intro w'
                  go_simp
                  with_reducible rfl
                rotate_left
                · simp only [Act.put, List.setIfInBounds_toArray, List.set_cons_zero, List.set_cons_succ, i64_w, i32_w]
                  rfl
                refine pure_ (i := 6) (N := some 83) (v := ?_) (a' := ?_) #[true, true, true, false, false, true, true, false, false, false, false, false, false] rfl rfl (by kernel_rfl) (fun _ _ _ h => h) (Or.inl ⟨by rfl, ?_⟩) ?_ ?_
                rotate_left
                · intro w'
                  go_simp
                  with_reducible rfl
                rotate_left
                · simp only [Act.put, List.setIfInBounds_toArray, List.set_cons_zero, List.set_cons_succ, i64_w, i32_w]
                  rfl
                refine pure_ (i := 7) (N := some 84) (v := ?_) (a' := ?_) #[true, true, true, false, false, true, true, true, false, false, false, false, false] rfl rfl (by kernel_rfl) (fun _ _ _ h => h) (Or.inl ⟨by rfl, ?_⟩) ?_ ?_
                rotate_left
                · intro w'
                  go_simp
                  with_reducible rfl
                rotate_left
                · simp only [Act.put, List.setIfInBounds_toArray, List.set_cons_zero, List.set_cons_succ, i64_w, i32_w]
                  rfl
                refine take_ (i := 3) (N := some 80) (v := ?_) (a' := ?_) #[true, true, true, true, false, true, true, true, false, false, false, false, false] rfl rfl (by kernel_rfl) (fun _ _ _ h => h) (Or.inl ⟨by rfl, ?_⟩) hHeld ?_ ?_
                rotate_left
                · intro w' s0
                  go_simp
                  with_reducible rfl
                rotate_left
                · simp only [Act.put, List.setIfInBounds_toArray, List.set_cons_zero, List.set_cons_succ, i64_w, i32_w]
                  rfl
                refine take_ (i := 8) (N := some 85) (v := ?_) (a' := ?_) #[true, true, true, true, false, true, true, true, true, false, false, false, false] rfl rfl (by kernel_rfl) (fun _ _ _ h => h) (Or.inl ⟨by rfl, ?_⟩) hHeld ?_ ?_
                rotate_left
                · intro w' s0
                  go_simp
                  with_reducible rfl
                rotate_left
                · simp only [Act.put, List.setIfInBounds_toArray, List.set_cons_zero, List.set_cons_succ, i64_w, i32_w]
                  rfl
                refine pure_ (i := 9) (N := some 86) (v := ?_) (a' := ?_) #[true, true, true, true, false, true, true, true, true, true, false, false, false] rfl rfl (by kernel_rfl) (fun _ _ _ h => h) (Or.inl ⟨by rfl, ?_⟩) ?_ ?_
                rotate_left
                · intro w'
                  go_simp
                  with_reducible rfl
                rotate_left
                · simp only [Act.put, List.setIfInBounds_toArray, List.set_cons_zero, List.set_cons_succ, i64_w, i32_w]
                  rfl
                refine join_ (σ := Nat) 1 #[true, true, true, true, true, true, true, true, true, true, true, true, false] (fun s => [(81, .int .i64 (a : Int)), (87, .agg #[.int .i64 (a : Int), .int .i64 ((rd l1 j).tdiv 8)]), (14, .pointer (some ⟨s, 0, none⟩))]) (fun s w' => HoldsRow w' s 31 #[.int .i64 0, .int .i64 0] ∧ s = wr.heap.size ∧ Below wr.heap.size wr w') ?_ ?_
                rotate_left
                · intro hCont
                  refine two_ (i := 4) (j := 11) (Ni := some 81) (Nj := some 14) #[true, true, true, true, true, true, true, true, true, true, false, false, false] #[true, true, true, true, false, true, true, true, true, true, false, true, false] rfl rfl rfl rfl (by kernel_rfl) (by decide) (by decide) (fun K hK => ?_) (fun K hK => ?_)
                  · skip
                    refine goes_ Try.func10 (by kernel_rfl) rfl #[.int .i64 (rd l1 j), .int .i64 8] (by rfl) rfl rfl (by simp only [List.map_toArray, List.map_cons, List.map_nil]; rfl) ?_
                    with_reducible refine (encoreref00_Bring.calls (rd l1 j) 8 (a : Int) wr.drew HBG.out).mono ?_
                    rintro e w3 ⟨rfl, hd⟩
                    refine ⟨_, rfl, ?_⟩
                    have hb3 : Below wr.heap.size wr w3 := HBD.out.trans (show Below wr.heap.size wr.drew w3 from hd.below)
                    have hc3 := pw_cell_below hb3 hcell
                    have hs3 : w3.heap.size = wr.heap.size := by obtain ⟨n, hn⟩ := hd.out; rw [hn]; rfl
                    refine hK.out _ _ (hc3) (fun hHeld => ?_)
                    clear hK K
                    refine norm_ (a' := ?_) ?_ ?_
                    rotate_left
                    · show Act.put _ (some 81) _ = _
                      simp only [Act.put, List.setIfInBounds_toArray, List.set_cons_zero, List.set_cons_succ, i64_w, i32_w]
                      rfl
                    refine pure_ (i := 10) (N := some 87) (v := ?_) (a' := ?_) #[true, true, true, true, true, true, true, true, true, true, true, false, false] rfl rfl (by kernel_rfl) (fun _ _ _ h => h) (Or.inl ⟨by rfl, ?_⟩) ?_ ?_
                    rotate_left
                    · intro w'
                      go_simp
                      with_reducible rfl
                    rotate_left
                    · simp only [Act.put, List.setIfInBounds_toArray, List.set_cons_zero, List.set_cons_succ, i64_w, i32_w]
                      rfl
                    refine one_ (i := 11) (N := some 14) #[true, true, true, true, true, true, true, true, true, true, true, true, false] rfl rfl (by kernel_rfl) (by decide) (fun K hK => ?_)
                    refine value_ (w1 := w3.alloc (.cells #[.int .i64 0, .int .i64 0] 31)) (v := .pointer (some ⟨w3.heap.size, 0, none⟩)) (by rfl) rfl ?_ ?_
                    · refine exec_alloc 31 ?_ _ zero_wr
                      rfl
                    have hF := And.intro (HoldsRow.new w3 31 #[.int .i64 0, .int .i64 0]) (And.intro hs3 (below_alloc hb3 (.cells #[.int .i64 0, .int .i64 0] 31)))
                    refine hK.out _ _ (cell_alloc_old _ hc3) (fun hHeld => ?_)
                    clear hK K
                    refine norm_ (a' := ?_) ?_ ?_
                    rotate_left
                    · show Act.put _ (some 14) _ = _
                      simp only [Act.put, List.setIfInBounds_toArray, List.set_cons_zero, List.set_cons_succ, i64_w, i32_w]
                      rfl
                    exact norm_ (by simp only [putAll, Act.put, List.setIfInBounds_toArray, List.set_cons_zero, List.set_cons_succ]) (hCont w3.heap.size _ hF)
                  · skip
                    refine value_ (w1 := wr.drew.alloc (.cells #[.int .i64 0, .int .i64 0] 31)) (v := .pointer (some ⟨wr.drew.heap.size, 0, none⟩)) (by rfl) rfl ?_ ?_
                    · refine exec_alloc 31 ?_ _ zero_wr
                      rfl
                    have hr3 := HoldsRow.new wr.drew 31 #[.int .i64 0, .int .i64 0]
                    have hb3 := below_alloc HBD.out (.cells #[.int .i64 0, .int .i64 0] 31)
                    refine hK.out _ _ (cell_alloc_old _ hcell) (fun hHeld => ?_)
                    clear hK K
                    refine norm_ (a' := ?_) ?_ ?_
                    rotate_left
                    · show Act.put _ (some 14) _ = _
                      simp only [Act.put, List.setIfInBounds_toArray, List.set_cons_zero, List.set_cons_succ, i64_w, i32_w]
                      rfl
                    refine one_ (i := 4) (N := some 81) #[true, true, true, true, true, true, true, true, true, true, false, true, false] rfl rfl (by kernel_rfl) (by decide) (fun K hK => ?_)
                    refine goes_ Try.func10 (by kernel_rfl) rfl #[.int .i64 (rd l1 j), .int .i64 8] (by rfl) rfl rfl (by simp only [List.map_toArray, List.map_cons, List.map_nil]; rfl) ?_
                    with_reducible refine (encoreref00_Bring.calls (rd l1 j) 8 (a : Int) (wr.drew.alloc (.cells #[.int .i64 0, .int .i64 0] 31)) HBG.out).mono ?_
                    rintro e w4 ⟨rfl, hd⟩
                    refine ⟨_, rfl, ?_⟩
                    have hb4 := hd.below
                    have hF : HoldsRow w4 wr.drew.heap.size 31 #[.int .i64 0, .int .i64 0] ∧ wr.drew.heap.size = wr.heap.size ∧ Below wr.heap.size wr w4 := ⟨hr3.below hb4 hr3.lt, rfl, hb3.trans (hb4.mono (by simp))⟩
                    have hc4 := pw_cell_below hF.2.2 hcell
                    refine hK.out _ _ (hc4) (fun hHeld => ?_)
                    clear hK K
                    refine norm_ (a' := ?_) ?_ ?_
                    rotate_left
                    · show Act.put _ (some 81) _ = _
                      simp only [Act.put, List.setIfInBounds_toArray, List.set_cons_zero, List.set_cons_succ, i64_w, i32_w]
                      rfl
                    refine pure_ (i := 10) (N := some 87) (v := ?_) (a' := ?_) #[true, true, true, true, true, true, true, true, true, true, true, true, false] rfl rfl (by kernel_rfl) (fun _ _ _ h => h) (Or.inl ⟨by rfl, ?_⟩) ?_ ?_
                    rotate_left
                    · intro w'
                      go_simp
                      with_reducible rfl
                    rotate_left
                    · simp only [Act.put, List.setIfInBounds_toArray, List.set_cons_zero, List.set_cons_succ, i64_w, i32_w]
                      rfl
                    exact norm_ (by simp only [putAll, Act.put, List.setIfInBounds_toArray, List.set_cons_zero, List.set_cons_succ]) (hCont wr.drew.heap.size _ hF)
                rintro b12 w5 ⟨hrow, hs5, hb5⟩
                have hHeld : w5.cell? (ad.add j) = some (.int .i64 (rd l1 j)) := pw_cell_below hb5 hcell
                refine norm_ (a' := ?_) ?_ ?_
                rotate_left
                · simp only [putAll, Act.put, List.setIfInBounds_toArray, List.set_cons_zero, List.set_cons_succ]
                  rfl
                refine last_ (i := 12) (N := none) #[true, true, true, true, true, true, true, true, true, true, true, true, true] rfl rfl (by kernel_rfl) (by decide) (fun K hK => ?_)
                refine skip_ (w1 := w5.setCells b12 0 [.int .i64 (a : Int), .int .i64 ((rd l1 j).tdiv 8)]) (by rfl) rfl ?_ ?_
                · refine exec_store_mid 31 (.tmp 14) (.tmp 87) ?_ b12 0 #[.int .i64 (a : Int), .int .i64 ((rd l1 j).tdiv 8)] ?_ ?_ (there_row hrow 0 _ (by show 0 + 2 ≤ 2; omega)) (by kernel_rfl) (by simp [Value.oneCell'])
                  · rfl
                  · rfl
                  · rfl
                refine hK.out _ _ ?_
                clear hK K
                refine done_ (by kernel_rfl) ?_
                
                have hrow2 : HoldsRow (w5.setCells b12 0 [.int .i64 (a : Int), .int .i64 ((rd l1 j).tdiv 8)]) b12 31 #[.int .i64 (a : Int), .int .i64 ((rd l1 j).tdiv 8)] := set_row_all hrow rfl
                have hb6 : Below wr.heap.size wr (w5.setCells b12 0 [.int .i64 (a : Int), .int .i64 ((rd l1 j).tdiv 8)]) := sets_below hb5 (by omega) _
                obtain ⟨w6, hw6⟩ : ∃ w6, w6 = w5.setCells b12 0 [.int .i64 (a : Int), .int .i64 ((rd l1 j).tdiv 8)] := ⟨_, rfl⟩
                rw [← hw6] at hrow2 hb6 ⊢
                rw [← HQ.out] at hrow2 ⊢
                have P12 := Aside0.mk (show HoldsRow w6 b12 31 #[.int .i64 (a : Int), .int .i64 q] ∧ ¬ ok b12 ∧ w.heap.size ≤ b12 from ⟨hrow2, fun hk => by have := RD.out.2.1 _ hk; omega, by have := RB.out.size; omega⟩)
                have D6 := Aside0.mk (RD.out.below hb6)
                have W6 := Aside0.mk (RW.out.below hb6)
                have S6 := Aside0.mk (And.intro (RS.out.1.below hb6 RS.out.1.lt) RS.out.2)
                have B6 := Aside0.mk (RB.out.trans (hb6.mono RB.out.size))
                clear hcell HBD hrow hs5 hb5 hrow2 hb6 hw6 hHeld RD RW RS RB hqw
                clear w5
                have y0 := eq_true (show (0 : Int) ≤ (a : Int) by omega)
                have y1 := eq_true (show (a : Int) < 8 by omega)
                have K1 : w6.cell? ⟨b12, 0, none⟩ = some (.int .i64 (a : Int)) := P12.out.1.cell rfl
                have K2 : w6.cell? ⟨b9, a, none⟩ = some (.bool (sinceI l1 j a)) := S6.out.1.cell (bools8_cell l1 j ha8)
                have z2 := S6.out.1.free a
                obtain ⟨w7, hw7⟩ : ∃ w7, w7 = w6.setCell ⟨b9, a, none⟩ (.bool true) := ⟨_, rfl⟩
                have hfar : ∀ k, k ≠ b9 → w7.heap[k]? = w6.heap[k]? := fun k hk => by rw [hw7]; exact Below.heap_setCell w6 ⟨b9, a, none⟩ _ k hk
                have hsz7 : w7.heap.size = w6.heap.size := by rw [hw7]; simp [World.setCell]
                have D7 := Aside0.mk (show DL w.heap.size w7 ok g (flB l0 n0 l1 j) from ⟨D6.out.1.move (fun k hk _ => hfar k (fun e => S6.out.2.1 (by rw [e] at hk; exact hk))), fun k hk => by rw [hsz7]; exact D6.out.2.1 k hk, by rw [hsz7]; exact D6.out.2.2⟩)
                have W7 := Aside0.mk (W6.out.far S6.out.1 (by decide) (by decide) hfar)
                have P7 := Aside0.mk (And.intro (hr_move P12.out.1 (hfar b12 (ne_kind P12.out.1 S6.out.1 (by decide)))) P12.out.2)
                have S7 := Aside0.mk (show HoldsRow w7 b9 28 (bools8 l1 (j + 1)) ∧ ¬ ok b9 ∧ w.heap.size ≤ b9 from ⟨by rw [hw7, ← bools8_set l1 j a (by omega) HA.out]; exact S6.out.1.set a _, S6.out.2⟩)
                have B7 := Aside0.mk (show Below w.heap.size w w7 by rw [hw7]; exact B6.out.setCell (show w.heap.size ≤ (⟨b9, a, none⟩ : Addr).block from S6.out.2.2) _)
                have HW7 := Aside0.mk hw7
                clear hw7 hfar hsz7
                go_wp2_with fail
                rw [← HW7.out]
                clear K1 K2 z2 y0 y1 D6 W6 P12 S6 B6 HW7
                clear w6
                obtain ⟨w6, hw6⟩ : ∃ w6, w6 = w7 := ⟨_, rfl⟩
                subst hw6
                have D6 := D7
                have W6 := W7
                have S6 := S7
                have P12 := P7
                have B6 := B7
                clear D7 W7 S7 P7 B7
                have K1 : w6.cell? ⟨b12, 0, none⟩ = some (.int .i64 (a : Int)) := P12.out.1.cell rfl
                have K2 : w6.cell? ⟨b12, 1, none⟩ = some (.int .i64 q) := P12.out.1.cell rfl
                have HWR := Aside0.mk (show writeF (flB l0 n0 l1 j) (a : Int) (secI q) = (0, flB l0 n0 l1 (j + 1)) by rw [HQ.out]; exact flB_wr l0 n0 l1 j (by omega) a HA.out)
                have HWL := Aside0.mk (show (flB l0 n0 l1 j).waits.length ≤ 1000000 from map_take_len _ _ (by omega))
                go_wp2_with fail
                refine start_ (n := 8) (S := fun w' => w'.cell? ⟨b12, 0, none⟩ = some (.int .i64 (a : Int)) ∧ w'.cell? ⟨b12, 1, none⟩ = some (.int .i64 q)) (ds := [6]) #[false, false, false, false, false, false, false, false] (by kernel_rfl) rfl rfl ⟨K1, K2⟩ (fun hHeld => ?_)
                refine pure_ (i := 0) (N := some 91) (v := ?_) (a' := ?_) #[true, false, false, false, false, false, false, false] rfl rfl (by kernel_rfl) (fun _ _ _ h => h) (Or.inl ⟨by rfl, ?_⟩) ?_ ?_
                rotate_left
                · intro w'
                  go_simp
                  with_reducible rfl
                rotate_left
                · simp only [Act.put, List.setIfInBounds_toArray, List.set_cons_zero, List.set_cons_succ, i64_w, i32_w]
                  rfl
                refine pure_ (i := 1) (N := some 92) (v := ?_) (a' := ?_) #[true, true, false, false, false, false, false, false] rfl rfl (by kernel_rfl) (fun _ _ _ h => h) (Or.inl ⟨by rfl, ?_⟩) ?_ ?_
                rotate_left
                · intro w'
                  go_simp
                  with_reducible rfl
                rotate_left
                · simp only [Act.put, List.setIfInBounds_toArray, List.set_cons_zero, List.set_cons_succ, i64_w, i32_w]
                  rfl
                refine pure_ (i := 3) (N := some 94) (v := ?_) (a' := ?_) #[true, true, false, true, false, false, false, false] rfl rfl (by kernel_rfl) (fun _ _ _ h => h) (Or.inl ⟨by rfl, ?_⟩) ?_ ?_
                rotate_left
                · intro w'
                  go_simp
                  with_reducible rfl
                rotate_left
                · simp only [Act.put, List.setIfInBounds_toArray, List.set_cons_zero, List.set_cons_succ, i64_w, i32_w]
                  rfl
                refine take_ (i := 2) (N := some 93) (v := ?_) (a' := ?_) #[true, true, true, true, false, false, false, false] rfl rfl (by kernel_rfl) (fun _ _ _ h => h) (Or.inl ⟨by rfl, ?_⟩) hHeld ?_ ?_
                rotate_left
                · rintro w' ⟨s0, s1⟩
                  go_simp
                  with_reducible rfl
                rotate_left
                · simp only [Act.put, List.setIfInBounds_toArray, List.set_cons_zero, List.set_cons_succ, i64_w, i32_w]
                  rfl
                refine take_ (i := 4) (N := some 95) (v := ?_) (a' := ?_) #[true, true, true, true, true, false, false, false] rfl rfl (by kernel_rfl) (fun _ _ _ h => h) (Or.inl ⟨by rfl, ?_⟩) hHeld ?_ ?_
                rotate_left
                · rintro w' ⟨s0, s1⟩
                  go_simp
                  with_reducible rfl
                rotate_left
                · simp only [Act.put, List.setIfInBounds_toArray, List.set_cons_zero, List.set_cons_succ, i64_w, i32_w]
                  rfl
                refine one_ (i := 5) (N := some 96) #[true, true, true, true, true, true, false, false] rfl rfl (by kernel_rfl) (by decide) (fun K hK => ?_)
                refine goes_ Try.func12 (by kernel_rfl) rfl #[.int .i64 q] (by rfl) rfl rfl (by simp only [List.map_toArray, List.map_cons, List.map_nil]; rfl) ?_
                with_reducible refine (sector_calls q w6.drew).mono ?_
                rintro e w7 ⟨A7, c7, rfl, hr, hb⟩
                refine ⟨_, rfl, ?_⟩
                have hb7 : Below w6.heap.size w6 w7 := ⟨hb.os, hb.tape, hb.output, hb.size, hb.block⟩
                have D7 := Aside0.mk (D6.out.below hb7)
                have W7 := Aside0.mk (W6.out.below hb7)
                have S7 := Aside0.mk (And.intro (S6.out.1.below hb7 S6.out.1.lt) S6.out.2)
                have P7 := Aside0.mk (And.intro (P12.out.1.below hb7 P12.out.1.lt) P12.out.2)
                have B7 := Aside0.mk (B6.out.trans (hb7.mono B6.out.size))
                have R7 := Aside0.mk (D6.out.fresh (show Kd.R (Kd.int .u8) 5 w7 w6.heap.size (fun _ => True) (.slice A7 64 c7) (secI q) from hr))
                have K3 := P7.out.1.cell (j := 0) (v := .int .i64 (a : Int)) rfl
                have K4 := P7.out.1.cell (j := 1) (v := .int .i64 q) rfl
                clear hr hb hb7 D6 W6 S6 P12 B6
                refine hK.out _ _ ⟨K3, K4⟩ (fun hHeld => ?_)
                clear hK K
                refine norm_ (a' := ?_) ?_ ?_
                rotate_left
                · show Act.put _ (some 96) _ = _
                  simp only [Act.put, List.setIfInBounds_toArray, List.set_cons_zero, List.set_cons_succ, i64_w, i32_w]
                  rfl
                refine last_ (i := 6) (N := some 97) #[true, true, true, true, true, true, true, false] rfl rfl (by kernel_rfl) (by decide) (fun K hK => ?_)
                refine goes_ Try.func11 (by kernel_rfl) rfl #[.pointer (some ⟨g, 0, none⟩), .int .i64 (a : Int), .slice A7 64 c7] (by rfl) rfl rfl (by simp only [List.map_toArray, List.map_cons, List.map_nil]; rfl) ?_
                with_reducible refine (LWrite w.heap.size w7 ok g (flB l0 n0 l1 j) (flB l0 n0 l1 (j + 1)) 0 q (a : Int) A7 c7 D7.out HWL.out R7.out HWR.out).mono ?_
                rintro e w8 ⟨rfl, ok8, hd, hm⟩
                refine ⟨_, rfl, ?_⟩
                have D8 := Aside0.mk hd
                have W8 := Aside0.mk (W7.out.moves hm)
                have S8 := Aside0.mk (And.intro (cell_moves S7.out.1 S7.out.2.1 hm).1 (And.intro (cell_moves S7.out.1 S7.out.2.1 hm).2 S7.out.2.2))
                have P8 := Aside0.mk (And.intro (cell_moves P7.out.1 P7.out.2.1 hm).1 (And.intro (cell_moves P7.out.1 P7.out.2.1 hm).2 P7.out.2.2))
                have B8 := Aside0.mk (B7.out.trans hm.1)
                clear hd hm D7 W7 S7 P7 B7 R7 K3 K4
                refine hK.out _ _ ?_
                clear hK K
                refine norm_ (a' := ?_) ?_ ?_
                rotate_left
                · show Act.put _ (some 97) _ = _
                  simp only [Act.put, List.setIfInBounds_toArray, List.set_cons_zero, List.set_cons_succ, i64_w, i32_w]
                  rfl
                refine pure_ (i := 7) (N := some 98) (v := ?_) (a' := ?_) #[true, true, true, true, true, true, true, true] rfl rfl (by kernel_rfl) (fun _ _ _ h => h) (Or.inl ⟨by rfl, ?_⟩) ?_ ?_
                rotate_left
                · intro w'
                  go_simp
                  with_reducible rfl
                rotate_left
                · simp only [Act.put, List.setIfInBounds_toArray, List.set_cons_zero, List.set_cons_succ, i64_w, i32_w]
                  rfl
                refine done_ (by kernel_rfl) ?_
                
                clear K1 K2 hHeld
                go_wp2_with fail
                go_roundw
                case rel => exact ⟨j + 1, vs, ok8, by omega, by go_num, D8, W8, S8, B8⟩
                case measure => simp [intOf]; omega
              · obtain rfl : j = N1 := by omega
                have HWL := Aside0.mk (show (flB l0 n0 l1 j).waits.length ≤ 1000000 from map_take_len _ _ (by omega))
                by_cases hll : j < l1.length
                · have d1 : decide ((j : Int) < (l1.length : Int)) = true := decide_eq_true (by omega)
                  have d2 : decide (j < l1.length) = true := decide_eq_true (by omega)
                  have d3 : decide ((j : Int) < 40) = false := decide_eq_false (by omega)
                  have d4 : decide (j < 40) = false := decide_eq_false (by omega)
                  clear hll hlt
                  go_wp2_with fail
                  obtain ⟨cut, hcut⟩ : ∃ cut : Int, cut = wrap64 (bits / 4294967296) := ⟨_, rfl⟩
                  rw [← hcut]
                  clear hcut
                  obtain ⟨n1, hn1⟩ : ∃ n1, n1 = j := ⟨_, rfl⟩
                  subst hn1
                  have HCR := Aside0.mk (show crashF (flB l0 n0 l1 n1) bits cut = (0, goneS (flB l0 n0 l1 n1) bits cut) from crash_alive rfl bits cut)
                  ((with_reducible refine (LCrash w.heap.size wr ok g (flB l0 n0 l1 n1) (goneS (flB l0 n0 l1 n1) bits cut) 0 bits cut RD.out HWL.out HCR.out).mono ?_))
                  rintro e w4 ⟨rfl, ok4, hd, hm⟩
                  have D4 := Aside0.mk hd
                  have W4 := Aside0.mk (RW.out.moves hm)
                  have S4 := Aside0.mk (And.intro (cell_moves RS.out.1 RS.out.2.1 hm).1 (And.intro (cell_moves RS.out.1 RS.out.2.1 hm).2 RS.out.2.2))
                  have B4 := Aside0.mk (RB.out.trans hm.1)
                  clear hd hm RD RW RS RB
                  go_wp2_with fail
                  ((with_reducible refine (LBoot w.heap.size w4 ok4 g (goneS (flB l0 n0 l1 n1) bits cut) D4.out).mono ?_))
                  rintro e w5 ⟨rfl, ok5, hd, hm⟩
                  obtain ⟨sE, hsE⟩ : ∃ sE, sE = bootS (goneS (flB l0 n0 l1 n1) bits cut) := ⟨_, rfl⟩
                  rw [← hsE] at hd
                  have HSE := Aside0.mk hsE
                  have D5 := Aside0.mk hd
                  have W5 := Aside0.mk (W4.out.moves hm)
                  have S5 := Aside0.mk (And.intro (cell_moves S4.out.1 S4.out.2.1 hm).1 (And.intro (cell_moves S4.out.1 S4.out.2.1 hm).2 S4.out.2.2))
                  have B5 := Aside0.mk (B4.out.trans hm.1)
                  clear hd hm D4 W4 S4 B4 hsE
                  go_wp2_with fail
                  go_loopw [15] (fun i wr => ∃ (j : Nat), j ≤ 8 ∧ i = .int .i64 (j : Nat) ∧ Aside0 (DL w.heap.size wr ok5 g sE) ∧ Aside0 (Wants w.heap.size wr ok5 b8 vs (eight zs8 ((l0.take n0).map wrI))) ∧ Aside0 (HoldsRow wr b9 28 (bools8 l1 n1) ∧ ¬ ok5 b9 ∧ w.heap.size ≤ b9) ∧ Aside0 (Below w.heap.size w wr)) (fun i _ => 8 - (intOf i).toNat)
                  case atStart => exact ⟨0, by omega, rfl, D5, W5, S5, B5⟩
                  case round =>
                    clear D5 W5 S5 B5 d1 d2
                    obtain ⟨i, hi, rfl, RD, RW, RS, RB⟩ := hrel
                    by_cases hlt : i < 8
                    · have d1 : decide ((i : Int) < 8) = true := decide_eq_true (by omega)
                      have d2 : decide (i < 8) = true := decide_eq_true (by omega)
                      have b0 := eq_true (show (0 : Int) ≤ (i : Int) by omega)
                      have b1 := eq_true (show (i : Int) < 8 by omega)
                      have K1 : wr.cell? ⟨b9, i, none⟩ = some (.bool (sinceI l1 n1 i)) := RS.out.1.cell (bools8_cell l1 n1 hlt)
                      cases hs : sinceI l1 n1 i with
                      | true =>
                        rw [hs] at K1
                        clear hs
                        go_wp2_with fail
                        go_roundw
                        case rel => exact ⟨i + 1, by omega, by go_num, RD, RW, RS, RB⟩
                        case measure => simp [intOf]; omega
                      | false =>
                        rw [hs] at K1
                        have HRD := Aside0.mk (flushed_read l0 n0 l1 n1 bits cut hlt hs)
                        rw [← HSE.out] at HRD
                        obtain ⟨A9, c9, K2, hr9⟩ := RW.out.cell hlt
                        rw [eight_getD _ _ hlt] at K2 hr9
                        have hcl : (curS zs8 ((l0.take n0).map wrI) i).length = 64 := curS_len (secOf_len zs8_len hlt) (fun p hp => (take_fits l0 n0 p hp).2.2)
                        rw [hcl] at K2 hr9
                        have HCL := Aside0.mk hcl
                        have R9 := Aside0.mk hr9
                        clear hs hcl hr9
                        go_wp2_with fail
                        ((with_reducible refine (LHas w.heap.size wr ok5 g sE (i : Int) A9 64 c9 (curS zs8 ((l0.take n0).map wrI) i) RD.out R9.out HCL.out (by decide) HRD.out.1 HRD.out.2).mono ?_))
                        rintro e w6 ⟨rfl, hb⟩
                        have T1 := Aside0.mk (RD.out.below hb)
                        have T2 := Aside0.mk (RW.out.below hb)
                        have T3 := Aside0.mk (And.intro (RS.out.1.below hb RS.out.1.lt) RS.out.2)
                        have T4 := Aside0.mk (RB.out.trans (hb.mono RB.out.size))
                        clear hb RD RW RS RB R9 K1 K2
                        go_wp2_with fail
                        go_roundw
                        case rel => exact ⟨i + 1, by omega, by go_num, T1, T2, T3, T4⟩
                        case measure => simp [intOf]; omega
                    · obtain rfl : i = 8 := by omega
                      have d1 : decide (((8 : Nat) : Int) < 8) = false := rfl
                      have d2 : decide ((8 : Int) < 8) = false := rfl
                      go_wp2_with fail
                      ((with_reducible refine (works_calls wr).mono ?_))
                      rintro e w6 ⟨rfl, hb⟩
                      have T4 := Aside0.mk (RB.out.trans (hb.mono RB.out.size))
                      clear hb
                      go_wp2_with fail
                      go_ret
                      exact ⟨rfl, T4.out⟩
                · have d1 : decide ((j : Int) < (l1.length : Int)) = false := decide_eq_false (by omega)
                  have d2 : decide (j < l1.length) = false := decide_eq_false (by omega)
                  clear hll hlt
                  go_wp2_with fail
                  obtain ⟨cut, hcut⟩ : ∃ cut : Int, cut = wrap64 (bits / 4294967296) := ⟨_, rfl⟩
                  rw [← hcut]
                  clear hcut
                  obtain ⟨n1, hn1⟩ : ∃ n1, n1 = j := ⟨_, rfl⟩
                  subst hn1
                  have HCR := Aside0.mk (show crashF (flB l0 n0 l1 n1) bits cut = (0, goneS (flB l0 n0 l1 n1) bits cut) from crash_alive rfl bits cut)
                  ((with_reducible refine (LCrash w.heap.size wr ok g (flB l0 n0 l1 n1) (goneS (flB l0 n0 l1 n1) bits cut) 0 bits cut RD.out HWL.out HCR.out).mono ?_))
                  rintro e w4 ⟨rfl, ok4, hd, hm⟩
                  have D4 := Aside0.mk hd
                  have W4 := Aside0.mk (RW.out.moves hm)
                  have S4 := Aside0.mk (And.intro (cell_moves RS.out.1 RS.out.2.1 hm).1 (And.intro (cell_moves RS.out.1 RS.out.2.1 hm).2 RS.out.2.2))
                  have B4 := Aside0.mk (RB.out.trans hm.1)
                  clear hd hm RD RW RS RB
                  go_wp2_with fail
                  ((with_reducible refine (LBoot w.heap.size w4 ok4 g (goneS (flB l0 n0 l1 n1) bits cut) D4.out).mono ?_))
                  rintro e w5 ⟨rfl, ok5, hd, hm⟩
                  obtain ⟨sE, hsE⟩ : ∃ sE, sE = bootS (goneS (flB l0 n0 l1 n1) bits cut) := ⟨_, rfl⟩
                  rw [← hsE] at hd
                  have HSE := Aside0.mk hsE
                  have D5 := Aside0.mk hd
                  have W5 := Aside0.mk (W4.out.moves hm)
                  have S5 := Aside0.mk (And.intro (cell_moves S4.out.1 S4.out.2.1 hm).1 (And.intro (cell_moves S4.out.1 S4.out.2.1 hm).2 S4.out.2.2))
                  have B5 := Aside0.mk (B4.out.trans hm.1)
                  clear hd hm D4 W4 S4 B4 hsE
                  go_wp2_with fail
                  go_loopw [15] (fun i wr => ∃ (j : Nat), j ≤ 8 ∧ i = .int .i64 (j : Nat) ∧ Aside0 (DL w.heap.size wr ok5 g sE) ∧ Aside0 (Wants w.heap.size wr ok5 b8 vs (eight zs8 ((l0.take n0).map wrI))) ∧ Aside0 (HoldsRow wr b9 28 (bools8 l1 n1) ∧ ¬ ok5 b9 ∧ w.heap.size ≤ b9) ∧ Aside0 (Below w.heap.size w wr)) (fun i _ => 8 - (intOf i).toNat)
                  case atStart => exact ⟨0, by omega, rfl, D5, W5, S5, B5⟩
                  case round =>
                    clear D5 W5 S5 B5 d1 d2
                    obtain ⟨i, hi, rfl, RD, RW, RS, RB⟩ := hrel
                    by_cases hlt : i < 8
                    · have d1 : decide ((i : Int) < 8) = true := decide_eq_true (by omega)
                      have d2 : decide (i < 8) = true := decide_eq_true (by omega)
                      have b0 := eq_true (show (0 : Int) ≤ (i : Int) by omega)
                      have b1 := eq_true (show (i : Int) < 8 by omega)
                      have K1 : wr.cell? ⟨b9, i, none⟩ = some (.bool (sinceI l1 n1 i)) := RS.out.1.cell (bools8_cell l1 n1 hlt)
                      cases hs : sinceI l1 n1 i with
                      | true =>
                        rw [hs] at K1
                        clear hs
                        go_wp2_with fail
                        go_roundw
                        case rel => exact ⟨i + 1, by omega, by go_num, RD, RW, RS, RB⟩
                        case measure => simp [intOf]; omega
                      | false =>
                        rw [hs] at K1
                        have HRD := Aside0.mk (flushed_read l0 n0 l1 n1 bits cut hlt hs)
                        rw [← HSE.out] at HRD
                        obtain ⟨A9, c9, K2, hr9⟩ := RW.out.cell hlt
                        rw [eight_getD _ _ hlt] at K2 hr9
                        have hcl : (curS zs8 ((l0.take n0).map wrI) i).length = 64 := curS_len (secOf_len zs8_len hlt) (fun p hp => (take_fits l0 n0 p hp).2.2)
                        rw [hcl] at K2 hr9
                        have HCL := Aside0.mk hcl
                        have R9 := Aside0.mk hr9
                        clear hs hcl hr9
                        go_wp2_with fail
                        ((with_reducible refine (LHas w.heap.size wr ok5 g sE (i : Int) A9 64 c9 (curS zs8 ((l0.take n0).map wrI) i) RD.out R9.out HCL.out (by decide) HRD.out.1 HRD.out.2).mono ?_))
                        rintro e w6 ⟨rfl, hb⟩
                        have T1 := Aside0.mk (RD.out.below hb)
                        have T2 := Aside0.mk (RW.out.below hb)
                        have T3 := Aside0.mk (And.intro (RS.out.1.below hb RS.out.1.lt) RS.out.2)
                        have T4 := Aside0.mk (RB.out.trans (hb.mono RB.out.size))
                        clear hb RD RW RS RB R9 K1 K2
                        go_wp2_with fail
                        go_roundw
                        case rel => exact ⟨i + 1, by omega, by go_num, T1, T2, T3, T4⟩
                        case measure => simp [intOf]; omega
                    · obtain rfl : i = 8 := by omega
                      have d1 : decide (((8 : Nat) : Int) < 8) = false := rfl
                      have d2 : decide ((8 : Int) < 8) = false := rfl
                      go_wp2_with fail
                      ((with_reducible refine (works_calls wr).mono ?_))
                      rintro e w6 ⟨rfl, hb⟩
                      have T4 := Aside0.mk (RB.out.trans (hb.mono RB.out.size))
                      clear hb
                      go_wp2_with fail
                      go_ret
                      exact ⟨rfl, T4.out⟩
          · have d1 : decide ((j : Int) < (l0.length : Int)) = false := decide_eq_false (by omega)
            have d2 : decide (j < l0.length) = false := decide_eq_false (by omega)
            clear hll
            go_wp2_with fail
            ((with_reducible refine (LFlush w.heap.size wr ok g (flA l0 j) (flB l0 j l1 0) 0 RD.out HWL.out HFL.out).mono ?_))
            rintro e w2 ⟨rfl, ok2, hd, hm⟩
            have D2 := Aside0.mk hd
            have W2 := Aside0.mk (RW.out.moves hm)
            have S2 := Aside0.mk (And.intro (cell_moves RS.out.1 RS.out.2.1 hm).1 (And.intro (cell_moves RS.out.1 RS.out.2.1 hm).2 RS.out.2.2))
            have B2 := Aside0.mk (RB.out.trans hm.1)
            clear hd hm RD RW RS RB
            go_wp2_with fail
            ((with_reducible refine (LWaits w.heap.size w2 ok2 g (flB l0 j l1 0) D2.out).mono ?_))
            rintro e w3 ⟨rfl, rfl⟩
            rw [show (((flB l0 j l1 0).waits.length : Nat) : Int) = 0 from rfl]
            rw [← bools8_nil l1] at S2
            obtain ⟨N1, hM1, hM2, hM3⟩ := min40 l1.length
            have HJ0 := Aside0.mk hj
            obtain ⟨n0, hn0⟩ : ∃ n0, n0 = j := ⟨_, rfl⟩
            subst hn0
            clear hlt hN3
            go_wp2_with fail
            go_loopw [13] (fun i wr => ∃ (j : Nat) (vs : List Value) (ok : Nat → Prop), j ≤ N1 ∧ i = .int .i64 (j : Nat) ∧ Aside0 (DL w.heap.size wr ok g (flB l0 n0 l1 j)) ∧ Aside0 (Wants w.heap.size wr ok b8 vs (eight zs8 ((l0.take n0).map wrI))) ∧ Aside0 (HoldsRow wr b9 28 (bools8 l1 j) ∧ ¬ ok b9 ∧ w.heap.size ≤ b9) ∧ Aside0 (Below w.heap.size w wr)) (fun i _ => N1 - (intOf i).toNat)
            case atStart => exact ⟨0, vs, ok2, by omega, rfl, D2, W2, S2, B2⟩
            case round =>
              clear D2 W2 S2 B2 d1 d2
              obtain ⟨j, vs, ok, hj, rfl, RD, RW, RS, RB⟩ := hrel
              by_cases hlt : j < N1
              · have d1 : decide ((j : Int) < (l1.length : Int)) = true := decide_eq_true (by omega)
                have d2 : decide (j < l1.length) = true := decide_eq_true (by omega)
                have d3 : decide ((j : Int) < 40) = true := decide_eq_true (by omega)
                have d4 : decide (j < 40) = true := decide_eq_true (by omega)
                have b0 := eq_true (show (0 : Int) ≤ (j : Int) by omega)
                have b1 := eq_true (show (j : Int) < (l1.length : Int) by omega)
                obtain ⟨ad, hA, hcell⟩ := Kd.at_int (Kd.C_below HR1.out RB.out) (j : Int) (by omega) (by omega)
                subst hA
                rw [Int.toNat_natCast] at hcell
                obtain ⟨a, ha⟩ : ∃ a : Nat, rd l1 j % 8 = (a : Int) := ⟨(rd l1 j % 8).toNat, by omega⟩
                have ha8 : a < 8 := by omega
                have HA := Aside0.mk ha
                have HBG := Aside0.mk (show encoreref00_Bring.f (rd l1 j) 8 = some (a : Int) by rw [← ha]; exact bring_eq (rd l1 j) 8 (by decide) (by decide))
                obtain ⟨q, hq⟩ : ∃ q, q = (rd l1 j).tdiv 8 := ⟨_, rfl⟩
                have HQ := Aside0.mk hq
                have hqw : IntKind.i64.wrap ((rd l1 j).tdiv 8) = (rd l1 j).tdiv 8 := quo8 (hb1 (rd l1 j) (rd_mem (by omega)))
                have HBD := Aside0.mk (show Below wr.heap.size wr wr.drew from below_drew (Below.refl _ _))
                clear ha hq
                go_wp2_with fail
                refine start_ (n := 13) (S := fun w' => w'.cell? (ad.add j) = some (.int .i64 (rd l1 j))) (ds := [12]) #[false, false, false, false, false, false, false, false, false, false, false, false, false] (by kernel_rfl) rfl rfl (hcell) (fun hHeld => ?_)
                refine pure_ (i := 0) (N := some 77) (v := ?_) (a' := ?_) #[true, false, false, false, false, false, false, false, false, false, false, false, false] rfl rfl (by kernel_rfl) (fun _ _ _ h => h) (Or.inl ⟨by rfl, ?_⟩) ?_ ?_
                rotate_left
                · intro w'
                  go_simp
                  with_reducible rfl
                rotate_left
                · simp only [Act.put, List.setIfInBounds_toArray, List.set_cons_zero, List.set_cons_succ, i64_w, i32_w]
                  rfl
                refine pure_ (i := 1) (N := some 78) (v := ?_) (a' := ?_) #[true, true, false, false, false, false, false, false, false, false, false, false, false] rfl rfl (by kernel_rfl) (fun _ _ _ h => h) (Or.inl ⟨by rfl, ?_⟩) ?_ ?_
                rotate_left
                · intro w'
                  go_simp
                  with_reducible rfl
                rotate_left
                · simp only [Act.put, List.setIfInBounds_toArray, List.set_cons_zero, List.set_cons_succ, i64_w, i32_w]
                  rfl
                refine pure_ (i := 2) (N := some 79) (v := ?_) (a' := ?_) #[true, true, true, false, false, false, false, false, false, false, false, false, false] rfl rfl (by kernel_rfl) (fun _ _ _ h => h) (Or.inl ⟨by rfl, ?_⟩) ?_ ?_
                rotate_left
                · intro w'
                  go_simp
                  with_reducible rfl
                rotate_left
                · simp only [Act.put, List.setIfInBounds_toArray, List.set_cons_zero, List.set_cons_succ, i64_w, i32_w]
                  rfl
                refine pure_ (i := 5) (N := some 82) (v := ?_) (a' := ?_) #[true, true, true, false, false, true, false, false, false, false, false, false, false] rfl rfl (by kernel_rfl) (fun _ _ _ h => h) (Or.inl ⟨by rfl, ?_⟩) ?_ ?_
                rotate_left
                · intro w'
                  go_simp
                  with_reducible rfl
                rotate_left
                · simp only [Act.put, List.setIfInBounds_toArray, List.set_cons_zero, List.set_cons_succ, i64_w, i32_w]
                  rfl
                refine pure_ (i := 6) (N := some 83) (v := ?_) (a' := ?_) #[true, true, true, false, false, true, true, false, false, false, false, false, false] rfl rfl (by kernel_rfl) (fun _ _ _ h => h) (Or.inl ⟨by rfl, ?_⟩) ?_ ?_
                rotate_left
                · intro w'
                  go_simp
                  with_reducible rfl
                rotate_left
                · simp only [Act.put, List.setIfInBounds_toArray, List.set_cons_zero, List.set_cons_succ, i64_w, i32_w]
                  rfl
                refine pure_ (i := 7) (N := some 84) (v := ?_) (a' := ?_) #[true, true, true, false, false, true, true, true, false, false, false, false, false] rfl rfl (by kernel_rfl) (fun _ _ _ h => h) (Or.inl ⟨by rfl, ?_⟩) ?_ ?_
                rotate_left
                · intro w'
                  go_simp
                  with_reducible rfl
                rotate_left
                · simp only [Act.put, List.setIfInBounds_toArray, List.set_cons_zero, List.set_cons_succ, i64_w, i32_w]
                  rfl
                refine take_ (i := 3) (N := some 80) (v := ?_) (a' := ?_) #[true, true, true, true, false, true, true, true, false, false, false, false, false] rfl rfl (by kernel_rfl) (fun _ _ _ h => h) (Or.inl ⟨by rfl, ?_⟩) hHeld ?_ ?_
                rotate_left
                · intro w' s0
                  go_simp
                  with_reducible rfl
                rotate_left
                · simp only [Act.put, List.setIfInBounds_toArray, List.set_cons_zero, List.set_cons_succ, i64_w, i32_w]
                  rfl
                refine take_ (i := 8) (N := some 85) (v := ?_) (a' := ?_) #[true, true, true, true, false, true, true, true, true, false, false, false, false] rfl rfl (by kernel_rfl) (fun _ _ _ h => h) (Or.inl ⟨by rfl, ?_⟩) hHeld ?_ ?_
                rotate_left
                · intro w' s0
                  go_simp
                  with_reducible rfl
                rotate_left
                · simp only [Act.put, List.setIfInBounds_toArray, List.set_cons_zero, List.set_cons_succ, i64_w, i32_w]
                  rfl
                refine pure_ (i := 9) (N := some 86) (v := ?_) (a' := ?_) #[true, true, true, true, false, true, true, true, true, true, false, false, false] rfl rfl (by kernel_rfl) (fun _ _ _ h => h) (Or.inl ⟨by rfl, ?_⟩) ?_ ?_
                rotate_left
                · intro w'
                  go_simp
                  with_reducible rfl
                rotate_left
                · simp only [Act.put, List.setIfInBounds_toArray, List.set_cons_zero, List.set_cons_succ, i64_w, i32_w]
                  rfl
                refine join_ (σ := Nat) 1 #[true, true, true, true, true, true, true, true, true, true, true, true, false] (fun s => [(81, .int .i64 (a : Int)), (87, .agg #[.int .i64 (a : Int), .int .i64 ((rd l1 j).tdiv 8)]), (14, .pointer (some ⟨s, 0, none⟩))]) (fun s w' => HoldsRow w' s 31 #[.int .i64 0, .int .i64 0] ∧ s = wr.heap.size ∧ Below wr.heap.size wr w') ?_ ?_
                rotate_left
                · intro hCont
                  refine two_ (i := 4) (j := 11) (Ni := some 81) (Nj := some 14) #[true, true, true, true, true, true, true, true, true, true, false, false, false] #[true, true, true, true, false, true, true, true, true, true, false, true, false] rfl rfl rfl rfl (by kernel_rfl) (by decide) (by decide) (fun K hK => ?_) (fun K hK => ?_)
                  · skip
                    refine goes_ Try.func10 (by kernel_rfl) rfl #[.int .i64 (rd l1 j), .int .i64 8] (by rfl) rfl rfl (by simp only [List.map_toArray, List.map_cons, List.map_nil]; rfl) ?_
                    with_reducible refine (encoreref00_Bring.calls (rd l1 j) 8 (a : Int) wr.drew HBG.out).mono ?_
                    rintro e w3 ⟨rfl, hd⟩
                    refine ⟨_, rfl, ?_⟩
                    have hb3 : Below wr.heap.size wr w3 := HBD.out.trans (show Below wr.heap.size wr.drew w3 from hd.below)
                    have hc3 := pw_cell_below hb3 hcell
                    have hs3 : w3.heap.size = wr.heap.size := by obtain ⟨n, hn⟩ := hd.out; rw [hn]; rfl
                    refine hK.out _ _ (hc3) (fun hHeld => ?_)
                    clear hK K
                    refine norm_ (a' := ?_) ?_ ?_
                    rotate_left
                    · show Act.put _ (some 81) _ = _
                      simp only [Act.put, List.setIfInBounds_toArray, List.set_cons_zero, List.set_cons_succ, i64_w, i32_w]
                      rfl
                    refine pure_ (i := 10) (N := some 87) (v := ?_) (a' := ?_) #[true, true, true, true, true, true, true, true, true, true, true, false, false] rfl rfl (by kernel_rfl) (fun _ _ _ h => h) (Or.inl ⟨by rfl, ?_⟩) ?_ ?_
                    rotate_left
                    · intro w'
                      go_simp
                      with_reducible rfl
                    rotate_left
                    · simp only [Act.put, List.setIfInBounds_toArray, List.set_cons_zero, List.set_cons_succ, i64_w, i32_w]
                      rfl
                    refine one_ (i := 11) (N := some 14) #[true, true, true, true, true, true, true, true, true, true, true, true, false] rfl rfl (by kernel_rfl) (by decide) (fun K hK => ?_)
                    refine value_ (w1 := w3.alloc (.cells #[.int .i64 0, .int .i64 0] 31)) (v := .pointer (some ⟨w3.heap.size, 0, none⟩)) (by rfl) rfl ?_ ?_
                    · refine exec_alloc 31 ?_ _ zero_wr
                      rfl
                    have hF := And.intro (HoldsRow.new w3 31 #[.int .i64 0, .int .i64 0]) (And.intro hs3 (below_alloc hb3 (.cells #[.int .i64 0, .int .i64 0] 31)))
                    refine hK.out _ _ (cell_alloc_old _ hc3) (fun hHeld => ?_)
                    clear hK K
                    refine norm_ (a' := ?_) ?_ ?_
                    rotate_left
                    · show Act.put _ (some 14) _ = _
                      simp only [Act.put, List.setIfInBounds_toArray, List.set_cons_zero, List.set_cons_succ, i64_w, i32_w]
                      rfl
                    exact norm_ (by simp only [putAll, Act.put, List.setIfInBounds_toArray, List.set_cons_zero, List.set_cons_succ]) (hCont w3.heap.size _ hF)
                  · skip
                    refine value_ (w1 := wr.drew.alloc (.cells #[.int .i64 0, .int .i64 0] 31)) (v := .pointer (some ⟨wr.drew.heap.size, 0, none⟩)) (by rfl) rfl ?_ ?_
                    · refine exec_alloc 31 ?_ _ zero_wr
                      rfl
                    have hr3 := HoldsRow.new wr.drew 31 #[.int .i64 0, .int .i64 0]
                    have hb3 := below_alloc HBD.out (.cells #[.int .i64 0, .int .i64 0] 31)
                    refine hK.out _ _ (cell_alloc_old _ hcell) (fun hHeld => ?_)
                    clear hK K
                    refine norm_ (a' := ?_) ?_ ?_
                    rotate_left
                    · show Act.put _ (some 14) _ = _
                      simp only [Act.put, List.setIfInBounds_toArray, List.set_cons_zero, List.set_cons_succ, i64_w, i32_w]
                      rfl
                    refine one_ (i := 4) (N := some 81) #[true, true, true, true, true, true, true, true, true, true, false, true, false] rfl rfl (by kernel_rfl) (by decide) (fun K hK => ?_)
                    refine goes_ Try.func10 (by kernel_rfl) rfl #[.int .i64 (rd l1 j), .int .i64 8] (by rfl) rfl rfl (by simp only [List.map_toArray, List.map_cons, List.map_nil]; rfl) ?_
                    with_reducible refine (encoreref00_Bring.calls (rd l1 j) 8 (a : Int) (wr.drew.alloc (.cells #[.int .i64 0, .int .i64 0] 31)) HBG.out).mono ?_
                    rintro e w4 ⟨rfl, hd⟩
                    refine ⟨_, rfl, ?_⟩
                    have hb4 := hd.below
                    have hF : HoldsRow w4 wr.drew.heap.size 31 #[.int .i64 0, .int .i64 0] ∧ wr.drew.heap.size = wr.heap.size ∧ Below wr.heap.size wr w4 := ⟨hr3.below hb4 hr3.lt, rfl, hb3.trans (hb4.mono (by simp))⟩
                    have hc4 := pw_cell_below hF.2.2 hcell
                    refine hK.out _ _ (hc4) (fun hHeld => ?_)
                    clear hK K
                    refine norm_ (a' := ?_) ?_ ?_
                    rotate_left
                    · show Act.put _ (some 81) _ = _
                      simp only [Act.put, List.setIfInBounds_toArray, List.set_cons_zero, List.set_cons_succ, i64_w, i32_w]
                      rfl
                    refine pure_ (i := 10) (N := some 87) (v := ?_) (a' := ?_) #[true, true, true, true, true, true, true, true, true, true, true, true, false] rfl rfl (by kernel_rfl) (fun _ _ _ h => h) (Or.inl ⟨by rfl, ?_⟩) ?_ ?_
                    rotate_left
                    · intro w'
                      go_simp
                      with_reducible rfl
                    rotate_left
                    · simp only [Act.put, List.setIfInBounds_toArray, List.set_cons_zero, List.set_cons_succ, i64_w, i32_w]
                      rfl
                    exact norm_ (by simp only [putAll, Act.put, List.setIfInBounds_toArray, List.set_cons_zero, List.set_cons_succ]) (hCont wr.drew.heap.size _ hF)
                rintro b12 w5 ⟨hrow, hs5, hb5⟩
                have hHeld : w5.cell? (ad.add j) = some (.int .i64 (rd l1 j)) := pw_cell_below hb5 hcell
                refine norm_ (a' := ?_) ?_ ?_
                rotate_left
                · simp only [putAll, Act.put, List.setIfInBounds_toArray, List.set_cons_zero, List.set_cons_succ]
                  rfl
                refine last_ (i := 12) (N := none) #[true, true, true, true, true, true, true, true, true, true, true, true, true] rfl rfl (by kernel_rfl) (by decide) (fun K hK => ?_)
                refine skip_ (w1 := w5.setCells b12 0 [.int .i64 (a : Int), .int .i64 ((rd l1 j).tdiv 8)]) (by rfl) rfl ?_ ?_
                · refine exec_store_mid 31 (.tmp 14) (.tmp 87) ?_ b12 0 #[.int .i64 (a : Int), .int .i64 ((rd l1 j).tdiv 8)] ?_ ?_ (there_row hrow 0 _ (by show 0 + 2 ≤ 2; omega)) (by kernel_rfl) (by simp [Value.oneCell'])
                  · rfl
                  · rfl
                  · rfl
                refine hK.out _ _ ?_
                clear hK K
                refine done_ (by kernel_rfl) ?_
                
                have hrow2 : HoldsRow (w5.setCells b12 0 [.int .i64 (a : Int), .int .i64 ((rd l1 j).tdiv 8)]) b12 31 #[.int .i64 (a : Int), .int .i64 ((rd l1 j).tdiv 8)] := set_row_all hrow rfl
                have hb6 : Below wr.heap.size wr (w5.setCells b12 0 [.int .i64 (a : Int), .int .i64 ((rd l1 j).tdiv 8)]) := sets_below hb5 (by omega) _
                obtain ⟨w6, hw6⟩ : ∃ w6, w6 = w5.setCells b12 0 [.int .i64 (a : Int), .int .i64 ((rd l1 j).tdiv 8)] := ⟨_, rfl⟩
                rw [← hw6] at hrow2 hb6 ⊢
                rw [← HQ.out] at hrow2 ⊢
                have P12 := Aside0.mk (show HoldsRow w6 b12 31 #[.int .i64 (a : Int), .int .i64 q] ∧ ¬ ok b12 ∧ w.heap.size ≤ b12 from ⟨hrow2, fun hk => by have := RD.out.2.1 _ hk; omega, by have := RB.out.size; omega⟩)
                have D6 := Aside0.mk (RD.out.below hb6)
                have W6 := Aside0.mk (RW.out.below hb6)
                have S6 := Aside0.mk (And.intro (RS.out.1.below hb6 RS.out.1.lt) RS.out.2)
                have B6 := Aside0.mk (RB.out.trans (hb6.mono RB.out.size))
                clear hcell HBD hrow hs5 hb5 hrow2 hb6 hw6 hHeld RD RW RS RB hqw
                clear w5
                have y0 := eq_true (show (0 : Int) ≤ (a : Int) by omega)
                have y1 := eq_true (show (a : Int) < 8 by omega)
                have K1 : w6.cell? ⟨b12, 0, none⟩ = some (.int .i64 (a : Int)) := P12.out.1.cell rfl
                have K2 : w6.cell? ⟨b9, a, none⟩ = some (.bool (sinceI l1 j a)) := S6.out.1.cell (bools8_cell l1 j ha8)
                have z2 := S6.out.1.free a
                obtain ⟨w7, hw7⟩ : ∃ w7, w7 = w6.setCell ⟨b9, a, none⟩ (.bool true) := ⟨_, rfl⟩
                have hfar : ∀ k, k ≠ b9 → w7.heap[k]? = w6.heap[k]? := fun k hk => by rw [hw7]; exact Below.heap_setCell w6 ⟨b9, a, none⟩ _ k hk
                have hsz7 : w7.heap.size = w6.heap.size := by rw [hw7]; simp [World.setCell]
                have D7 := Aside0.mk (show DL w.heap.size w7 ok g (flB l0 n0 l1 j) from ⟨D6.out.1.move (fun k hk _ => hfar k (fun e => S6.out.2.1 (by rw [e] at hk; exact hk))), fun k hk => by rw [hsz7]; exact D6.out.2.1 k hk, by rw [hsz7]; exact D6.out.2.2⟩)
                have W7 := Aside0.mk (W6.out.far S6.out.1 (by decide) (by decide) hfar)
                have P7 := Aside0.mk (And.intro (hr_move P12.out.1 (hfar b12 (ne_kind P12.out.1 S6.out.1 (by decide)))) P12.out.2)
                have S7 := Aside0.mk (show HoldsRow w7 b9 28 (bools8 l1 (j + 1)) ∧ ¬ ok b9 ∧ w.heap.size ≤ b9 from ⟨by rw [hw7, ← bools8_set l1 j a (by omega) HA.out]; exact S6.out.1.set a _, S6.out.2⟩)
                have B7 := Aside0.mk (show Below w.heap.size w w7 by rw [hw7]; exact B6.out.setCell (show w.heap.size ≤ (⟨b9, a, none⟩ : Addr).block from S6.out.2.2) _)
                have HW7 := Aside0.mk hw7
                clear hw7 hfar hsz7
                go_wp2_with fail
                rw [← HW7.out]
                clear K1 K2 z2 y0 y1 D6 W6 P12 S6 B6 HW7
                clear w6
                obtain ⟨w6, hw6⟩ : ∃ w6, w6 = w7 := ⟨_, rfl⟩
                subst hw6
                have D6 := D7
                have W6 := W7
                have S6 := S7
                have P12 := P7
                have B6 := B7
                clear D7 W7 S7 P7 B7
                have K1 : w6.cell? ⟨b12, 0, none⟩ = some (.int .i64 (a : Int)) := P12.out.1.cell rfl
                have K2 : w6.cell? ⟨b12, 1, none⟩ = some (.int .i64 q) := P12.out.1.cell rfl
                have HWR := Aside0.mk (show writeF (flB l0 n0 l1 j) (a : Int) (secI q) = (0, flB l0 n0 l1 (j + 1)) by rw [HQ.out]; exact flB_wr l0 n0 l1 j (by omega) a HA.out)
                have HWL := Aside0.mk (show (flB l0 n0 l1 j).waits.length ≤ 1000000 from map_take_len _ _ (by omega))
                go_wp2_with fail
                refine start_ (n := 8) (S := fun w' => w'.cell? ⟨b12, 0, none⟩ = some (.int .i64 (a : Int)) ∧ w'.cell? ⟨b12, 1, none⟩ = some (.int .i64 q)) (ds := [6]) #[false, false, false, false, false, false, false, false] (by kernel_rfl) rfl rfl ⟨K1, K2⟩ (fun hHeld => ?_)
                refine pure_ (i := 0) (N := some 91) (v := ?_) (a' := ?_) #[true, false, false, false, false, false, false, false] rfl rfl (by kernel_rfl) (fun _ _ _ h => h) (Or.inl ⟨by rfl, ?_⟩) ?_ ?_
                rotate_left
                · intro w'
                  go_simp
                  with_reducible rfl
                rotate_left
                · simp only [Act.put, List.setIfInBounds_toArray, List.set_cons_zero, List.set_cons_succ, i64_w, i32_w]
                  rfl
                refine pure_ (i := 1) (N := some 92) (v := ?_) (a' := ?_) #[true, true, false, false, false, false, false, false] rfl rfl (by kernel_rfl) (fun _ _ _ h => h) (Or.inl ⟨by rfl, ?_⟩) ?_ ?_
                rotate_left
                · intro w'
                  go_simp
                  with_reducible rfl
                rotate_left
                · simp only [Act.put, List.setIfInBounds_toArray, List.set_cons_zero, List.set_cons_succ, i64_w, i32_w]
                  rfl
                refine pure_ (i := 3) (N := some 94) (v := ?_) (a' := ?_) #[true, true, false, true, false, false, false, false] rfl rfl (by kernel_rfl) (fun _ _ _ h => h) (Or.inl ⟨by rfl, ?_⟩) ?_ ?_
                rotate_left
                · intro w'
                  go_simp
                  with_reducible rfl
                rotate_left
                · simp only [Act.put, List.setIfInBounds_toArray, List.set_cons_zero, List.set_cons_succ, i64_w, i32_w]
                  rfl
                refine take_ (i := 2) (N := some 93) (v := ?_) (a' := ?_) #[true, true, true, true, false, false, false, false] rfl rfl (by kernel_rfl) (fun _ _ _ h => h) (Or.inl ⟨by rfl, ?_⟩) hHeld ?_ ?_
                rotate_left
                · rintro w' ⟨s0, s1⟩
                  go_simp
                  with_reducible rfl
                rotate_left
                · simp only [Act.put, List.setIfInBounds_toArray, List.set_cons_zero, List.set_cons_succ, i64_w, i32_w]
                  rfl
                refine take_ (i := 4) (N := some 95) (v := ?_) (a' := ?_) #[true, true, true, true, true, false, false, false] rfl rfl (by kernel_rfl) (fun _ _ _ h => h) (Or.inl ⟨by rfl, ?_⟩) hHeld ?_ ?_
                rotate_left
                · rintro w' ⟨s0, s1⟩
                  go_simp
                  with_reducible rfl
                rotate_left
                · simp only [Act.put, List.setIfInBounds_toArray, List.set_cons_zero, List.set_cons_succ, i64_w, i32_w]
                  rfl
                refine one_ (i := 5) (N := some 96) #[true, true, true, true, true, true, false, false] rfl rfl (by kernel_rfl) (by decide) (fun K hK => ?_)
                refine goes_ Try.func12 (by kernel_rfl) rfl #[.int .i64 q] (by rfl) rfl rfl (by simp only [List.map_toArray, List.map_cons, List.map_nil]; rfl) ?_
                with_reducible refine (sector_calls q w6.drew).mono ?_
                rintro e w7 ⟨A7, c7, rfl, hr, hb⟩
                refine ⟨_, rfl, ?_⟩
                have hb7 : Below w6.heap.size w6 w7 := ⟨hb.os, hb.tape, hb.output, hb.size, hb.block⟩
                have D7 := Aside0.mk (D6.out.below hb7)
                have W7 := Aside0.mk (W6.out.below hb7)
                have S7 := Aside0.mk (And.intro (S6.out.1.below hb7 S6.out.1.lt) S6.out.2)
                have P7 := Aside0.mk (And.intro (P12.out.1.below hb7 P12.out.1.lt) P12.out.2)
                have B7 := Aside0.mk (B6.out.trans (hb7.mono B6.out.size))
                have R7 := Aside0.mk (D6.out.fresh (show Kd.R (Kd.int .u8) 5 w7 w6.heap.size (fun _ => True) (.slice A7 64 c7) (secI q) from hr))
                have K3 := P7.out.1.cell (j := 0) (v := .int .i64 (a : Int)) rfl
                have K4 := P7.out.1.cell (j := 1) (v := .int .i64 q) rfl
                clear hr hb hb7 D6 W6 S6 P12 B6
                refine hK.out _ _ ⟨K3, K4⟩ (fun hHeld => ?_)
                clear hK K
                refine norm_ (a' := ?_) ?_ ?_
                rotate_left
                · show Act.put _ (some 96) _ = _
                  simp only [Act.put, List.setIfInBounds_toArray, List.set_cons_zero, List.set_cons_succ, i64_w, i32_w]
                  rfl
                refine last_ (i := 6) (N := some 97) #[true, true, true, true, true, true, true, false] rfl rfl (by kernel_rfl) (by decide) (fun K hK => ?_)
                refine goes_ Try.func11 (by kernel_rfl) rfl #[.pointer (some ⟨g, 0, none⟩), .int .i64 (a : Int), .slice A7 64 c7] (by rfl) rfl rfl (by simp only [List.map_toArray, List.map_cons, List.map_nil]; rfl) ?_
                with_reducible refine (LWrite w.heap.size w7 ok g (flB l0 n0 l1 j) (flB l0 n0 l1 (j + 1)) 0 q (a : Int) A7 c7 D7.out HWL.out R7.out HWR.out).mono ?_
                rintro e w8 ⟨rfl, ok8, hd, hm⟩
                refine ⟨_, rfl, ?_⟩
                have D8 := Aside0.mk hd
                have W8 := Aside0.mk (W7.out.moves hm)
                have S8 := Aside0.mk (And.intro (cell_moves S7.out.1 S7.out.2.1 hm).1 (And.intro (cell_moves S7.out.1 S7.out.2.1 hm).2 S7.out.2.2))
                have P8 := Aside0.mk (And.intro (cell_moves P7.out.1 P7.out.2.1 hm).1 (And.intro (cell_moves P7.out.1 P7.out.2.1 hm).2 P7.out.2.2))
                have B8 := Aside0.mk (B7.out.trans hm.1)
                clear hd hm D7 W7 S7 P7 B7 R7 K3 K4
                refine hK.out _ _ ?_
                clear hK K
                refine norm_ (a' := ?_) ?_ ?_
                rotate_left
                · show Act.put _ (some 97) _ = _
                  simp only [Act.put, List.setIfInBounds_toArray, List.set_cons_zero, List.set_cons_succ, i64_w, i32_w]
                  rfl
                refine pure_ (i := 7) (N := some 98) (v := ?_) (a' := ?_) #[true, true, true, true, true, true, true, true] rfl rfl (by kernel_rfl) (fun _ _ _ h => h) (Or.inl ⟨by rfl, ?_⟩) ?_ ?_
                rotate_left
                · intro w'
                  go_simp
                  with_reducible rfl
                rotate_left
                · simp only [Act.put, List.setIfInBounds_toArray, List.set_cons_zero, List.set_cons_succ, i64_w, i32_w]
                  rfl
                refine done_ (by kernel_rfl) ?_
                
                clear K1 K2 hHeld
                go_wp2_with fail
                go_roundw
                case rel => exact ⟨j + 1, vs, ok8, by omega, by go_num, D8, W8, S8, B8⟩
                case measure => simp [intOf]; omega
              · obtain rfl : j = N1 := by omega
                have HWL := Aside0.mk (show (flB l0 n0 l1 j).waits.length ≤ 1000000 from map_take_len _ _ (by omega))
                by_cases hll : j < l1.length
                · have d1 : decide ((j : Int) < (l1.length : Int)) = true := decide_eq_true (by omega)
                  have d2 : decide (j < l1.length) = true := decide_eq_true (by omega)
                  have d3 : decide ((j : Int) < 40) = false := decide_eq_false (by omega)
                  have d4 : decide (j < 40) = false := decide_eq_false (by omega)
                  clear hll hlt
                  go_wp2_with fail
                  obtain ⟨cut, hcut⟩ : ∃ cut : Int, cut = wrap64 (bits / 4294967296) := ⟨_, rfl⟩
                  rw [← hcut]
                  clear hcut
                  obtain ⟨n1, hn1⟩ : ∃ n1, n1 = j := ⟨_, rfl⟩
                  subst hn1
                  have HCR := Aside0.mk (show crashF (flB l0 n0 l1 n1) bits cut = (0, goneS (flB l0 n0 l1 n1) bits cut) from crash_alive rfl bits cut)
                  ((with_reducible refine (LCrash w.heap.size wr ok g (flB l0 n0 l1 n1) (goneS (flB l0 n0 l1 n1) bits cut) 0 bits cut RD.out HWL.out HCR.out).mono ?_))
                  rintro e w4 ⟨rfl, ok4, hd, hm⟩
                  have D4 := Aside0.mk hd
                  have W4 := Aside0.mk (RW.out.moves hm)
                  have S4 := Aside0.mk (And.intro (cell_moves RS.out.1 RS.out.2.1 hm).1 (And.intro (cell_moves RS.out.1 RS.out.2.1 hm).2 RS.out.2.2))
                  have B4 := Aside0.mk (RB.out.trans hm.1)
                  clear hd hm RD RW RS RB
                  go_wp2_with fail
                  ((with_reducible refine (LBoot w.heap.size w4 ok4 g (goneS (flB l0 n0 l1 n1) bits cut) D4.out).mono ?_))
                  rintro e w5 ⟨rfl, ok5, hd, hm⟩
                  obtain ⟨sE, hsE⟩ : ∃ sE, sE = bootS (goneS (flB l0 n0 l1 n1) bits cut) := ⟨_, rfl⟩
                  rw [← hsE] at hd
                  have HSE := Aside0.mk hsE
                  have D5 := Aside0.mk hd
                  have W5 := Aside0.mk (W4.out.moves hm)
                  have S5 := Aside0.mk (And.intro (cell_moves S4.out.1 S4.out.2.1 hm).1 (And.intro (cell_moves S4.out.1 S4.out.2.1 hm).2 S4.out.2.2))
                  have B5 := Aside0.mk (B4.out.trans hm.1)
                  clear hd hm D4 W4 S4 B4 hsE
                  go_wp2_with fail
                  go_loopw [15] (fun i wr => ∃ (j : Nat), j ≤ 8 ∧ i = .int .i64 (j : Nat) ∧ Aside0 (DL w.heap.size wr ok5 g sE) ∧ Aside0 (Wants w.heap.size wr ok5 b8 vs (eight zs8 ((l0.take n0).map wrI))) ∧ Aside0 (HoldsRow wr b9 28 (bools8 l1 n1) ∧ ¬ ok5 b9 ∧ w.heap.size ≤ b9) ∧ Aside0 (Below w.heap.size w wr)) (fun i _ => 8 - (intOf i).toNat)
                  case atStart => exact ⟨0, by omega, rfl, D5, W5, S5, B5⟩
                  case round =>
                    clear D5 W5 S5 B5 d1 d2
                    obtain ⟨i, hi, rfl, RD, RW, RS, RB⟩ := hrel
                    by_cases hlt : i < 8
                    · have d1 : decide ((i : Int) < 8) = true := decide_eq_true (by omega)
                      have d2 : decide (i < 8) = true := decide_eq_true (by omega)
                      have b0 := eq_true (show (0 : Int) ≤ (i : Int) by omega)
                      have b1 := eq_true (show (i : Int) < 8 by omega)
                      have K1 : wr.cell? ⟨b9, i, none⟩ = some (.bool (sinceI l1 n1 i)) := RS.out.1.cell (bools8_cell l1 n1 hlt)
                      cases hs : sinceI l1 n1 i with
                      | true =>
                        rw [hs] at K1
                        clear hs
                        go_wp2_with fail
                        go_roundw
                        case rel => exact ⟨i + 1, by omega, by go_num, RD, RW, RS, RB⟩
                        case measure => simp [intOf]; omega
                      | false =>
                        rw [hs] at K1
                        have HRD := Aside0.mk (flushed_read l0 n0 l1 n1 bits cut hlt hs)
                        rw [← HSE.out] at HRD
                        obtain ⟨A9, c9, K2, hr9⟩ := RW.out.cell hlt
                        rw [eight_getD _ _ hlt] at K2 hr9
                        have hcl : (curS zs8 ((l0.take n0).map wrI) i).length = 64 := curS_len (secOf_len zs8_len hlt) (fun p hp => (take_fits l0 n0 p hp).2.2)
                        rw [hcl] at K2 hr9
                        have HCL := Aside0.mk hcl
                        have R9 := Aside0.mk hr9
                        clear hs hcl hr9
                        go_wp2_with fail
                        ((with_reducible refine (LHas w.heap.size wr ok5 g sE (i : Int) A9 64 c9 (curS zs8 ((l0.take n0).map wrI) i) RD.out R9.out HCL.out (by decide) HRD.out.1 HRD.out.2).mono ?_))
                        rintro e w6 ⟨rfl, hb⟩
                        have T1 := Aside0.mk (RD.out.below hb)
                        have T2 := Aside0.mk (RW.out.below hb)
                        have T3 := Aside0.mk (And.intro (RS.out.1.below hb RS.out.1.lt) RS.out.2)
                        have T4 := Aside0.mk (RB.out.trans (hb.mono RB.out.size))
                        clear hb RD RW RS RB R9 K1 K2
                        go_wp2_with fail
                        go_roundw
                        case rel => exact ⟨i + 1, by omega, by go_num, T1, T2, T3, T4⟩
                        case measure => simp [intOf]; omega
                    · obtain rfl : i = 8 := by omega
                      have d1 : decide (((8 : Nat) : Int) < 8) = false := rfl
                      have d2 : decide ((8 : Int) < 8) = false := rfl
                      go_wp2_with fail
                      ((with_reducible refine (works_calls wr).mono ?_))
                      rintro e w6 ⟨rfl, hb⟩
                      have T4 := Aside0.mk (RB.out.trans (hb.mono RB.out.size))
                      clear hb
                      go_wp2_with fail
                      go_ret
                      exact ⟨rfl, T4.out⟩
                · have d1 : decide ((j : Int) < (l1.length : Int)) = false := decide_eq_false (by omega)
                  have d2 : decide (j < l1.length) = false := decide_eq_false (by omega)
                  clear hll hlt
                  go_wp2_with fail
                  obtain ⟨cut, hcut⟩ : ∃ cut : Int, cut = wrap64 (bits / 4294967296) := ⟨_, rfl⟩
                  rw [← hcut]
                  clear hcut
                  obtain ⟨n1, hn1⟩ : ∃ n1, n1 = j := ⟨_, rfl⟩
                  subst hn1
                  have HCR := Aside0.mk (show crashF (flB l0 n0 l1 n1) bits cut = (0, goneS (flB l0 n0 l1 n1) bits cut) from crash_alive rfl bits cut)
                  ((with_reducible refine (LCrash w.heap.size wr ok g (flB l0 n0 l1 n1) (goneS (flB l0 n0 l1 n1) bits cut) 0 bits cut RD.out HWL.out HCR.out).mono ?_))
                  rintro e w4 ⟨rfl, ok4, hd, hm⟩
                  have D4 := Aside0.mk hd
                  have W4 := Aside0.mk (RW.out.moves hm)
                  have S4 := Aside0.mk (And.intro (cell_moves RS.out.1 RS.out.2.1 hm).1 (And.intro (cell_moves RS.out.1 RS.out.2.1 hm).2 RS.out.2.2))
                  have B4 := Aside0.mk (RB.out.trans hm.1)
                  clear hd hm RD RW RS RB
                  go_wp2_with fail
                  ((with_reducible refine (LBoot w.heap.size w4 ok4 g (goneS (flB l0 n0 l1 n1) bits cut) D4.out).mono ?_))
                  rintro e w5 ⟨rfl, ok5, hd, hm⟩
                  obtain ⟨sE, hsE⟩ : ∃ sE, sE = bootS (goneS (flB l0 n0 l1 n1) bits cut) := ⟨_, rfl⟩
                  rw [← hsE] at hd
                  have HSE := Aside0.mk hsE
                  have D5 := Aside0.mk hd
                  have W5 := Aside0.mk (W4.out.moves hm)
                  have S5 := Aside0.mk (And.intro (cell_moves S4.out.1 S4.out.2.1 hm).1 (And.intro (cell_moves S4.out.1 S4.out.2.1 hm).2 S4.out.2.2))
                  have B5 := Aside0.mk (B4.out.trans hm.1)
                  clear hd hm D4 W4 S4 B4 hsE
                  go_wp2_with fail
                  go_loopw [15] (fun i wr => ∃ (j : Nat), j ≤ 8 ∧ i = .int .i64 (j : Nat) ∧ Aside0 (DL w.heap.size wr ok5 g sE) ∧ Aside0 (Wants w.heap.size wr ok5 b8 vs (eight zs8 ((l0.take n0).map wrI))) ∧ Aside0 (HoldsRow wr b9 28 (bools8 l1 n1) ∧ ¬ ok5 b9 ∧ w.heap.size ≤ b9) ∧ Aside0 (Below w.heap.size w wr)) (fun i _ => 8 - (intOf i).toNat)
                  case atStart => exact ⟨0, by omega, rfl, D5, W5, S5, B5⟩
                  case round =>
                    clear D5 W5 S5 B5 d1 d2
                    obtain ⟨i, hi, rfl, RD, RW, RS, RB⟩ := hrel
                    by_cases hlt : i < 8
                    · have d1 : decide ((i : Int) < 8) = true := decide_eq_true (by omega)
                      have d2 : decide (i < 8) = true := decide_eq_true (by omega)
                      have b0 := eq_true (show (0 : Int) ≤ (i : Int) by omega)
                      have b1 := eq_true (show (i : Int) < 8 by omega)
                      have K1 : wr.cell? ⟨b9, i, none⟩ = some (.bool (sinceI l1 n1 i)) := RS.out.1.cell (bools8_cell l1 n1 hlt)
                      cases hs : sinceI l1 n1 i with
                      | true =>
                        rw [hs] at K1
                        clear hs
                        go_wp2_with fail
                        go_roundw
                        case rel => exact ⟨i + 1, by omega, by go_num, RD, RW, RS, RB⟩
                        case measure => simp [intOf]; omega
                      | false =>
                        rw [hs] at K1
                        have HRD := Aside0.mk (flushed_read l0 n0 l1 n1 bits cut hlt hs)
                        rw [← HSE.out] at HRD
                        obtain ⟨A9, c9, K2, hr9⟩ := RW.out.cell hlt
                        rw [eight_getD _ _ hlt] at K2 hr9
                        have hcl : (curS zs8 ((l0.take n0).map wrI) i).length = 64 := curS_len (secOf_len zs8_len hlt) (fun p hp => (take_fits l0 n0 p hp).2.2)
                        rw [hcl] at K2 hr9
                        have HCL := Aside0.mk hcl
                        have R9 := Aside0.mk hr9
                        clear hs hcl hr9
                        go_wp2_with fail
                        ((with_reducible refine (LHas w.heap.size wr ok5 g sE (i : Int) A9 64 c9 (curS zs8 ((l0.take n0).map wrI) i) RD.out R9.out HCL.out (by decide) HRD.out.1 HRD.out.2).mono ?_))
                        rintro e w6 ⟨rfl, hb⟩
                        have T1 := Aside0.mk (RD.out.below hb)
                        have T2 := Aside0.mk (RW.out.below hb)
                        have T3 := Aside0.mk (And.intro (RS.out.1.below hb RS.out.1.lt) RS.out.2)
                        have T4 := Aside0.mk (RB.out.trans (hb.mono RB.out.size))
                        clear hb RD RW RS RB R9 K1 K2
                        go_wp2_with fail
                        go_roundw
                        case rel => exact ⟨i + 1, by omega, by go_num, T1, T2, T3, T4⟩
                        case measure => simp [intOf]; omega
                    · obtain rfl : i = 8 := by omega
                      have d1 : decide (((8 : Nat) : Int) < 8) = false := rfl
                      have d2 : decide ((8 : Int) < 8) = false := rfl
                      go_wp2_with fail
                      ((with_reducible refine (works_calls wr).mono ?_))
                      rintro e w6 ⟨rfl, hb⟩
                      have T4 := Aside0.mk (RB.out.trans (hb.mono RB.out.size))
                      clear hb
                      go_wp2_with fail
                      go_ret
                      exact ⟨rfl, T4.out⟩
def encorelaw03_DiskFlushed.f (l0 l1 : List Int) (a2 : Int) : Option Bool := if (∀ x ∈ l0, (Lit.int .i64 x).wf = true) ∧ (∀ x ∈ l1, (Lit.int .i64 x).wf = true) then some true else none
theorem encorelaw03_DiskFlushed.calls (A0 : Option Addr) (c0 : Nat) (l0 : List Int) (A1 : Option Addr) (c1 : Nat) (l1 : List Int) (a2 : Int) (r : Bool) (w : World) (hr0 : Kd.C (Kd.int .i64) w A0 l0.length l0) (hc0 : l0.length ≤ c0) (hr1 : Kd.C (Kd.int .i64) w A1 l1.length l1) (hc1 : l1.length ≤ c1) (h : encorelaw03_DiskFlushed.f l0 l1 a2 = some r) :
    Calls Try.prog 3 #[.slice A0 l0.length c0, .slice A1 l1.length c1, .int .u64 a2] w fun e w' => e = .returned (.bool r) ∧ Below w.heap.size w w' := by
  unfold encorelaw03_DiskFlushed.f at h
  split at h
  case isTrue hc =>
    obtain rfl := Option.some.inj h
    exact flushed_calls A0 c0 l0 A1 c1 l1 a2 w hr0 hc0 hr1 hc1 hc.1 hc.2
  case isFalse => cases h
end Go.Proofs.Ytkmgbmnjabmhaaa.Ext
