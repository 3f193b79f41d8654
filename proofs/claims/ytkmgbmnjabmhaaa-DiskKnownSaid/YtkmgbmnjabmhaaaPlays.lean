/- The law DiskPlays, walked: what a disk answers is the document's. Condition: its parameter's rows as DoRow says. -/
import Derived.Deep.Slices
import Derived.Test.YtkmgbmnjabmhaaaStep
import Derived.Test.YtkmgbmnjabmhaaaDWorks
namespace Go.Proofs.Ytkmgbmnjabmhaaa.Ext
open Go Go.RowKit Go.Proofs.YtkmgbmnjabmhaaaW.PrintWords Go.Proofs.YtkmgbmnjabmhaaaW.PrintLast Go.Proofs.YtkmgbmnjabmhaaaW.PrintMore Go.Proofs.Ytkmgbmnjabmhaaa.Base Go.Proofs.Ytkmgbmnjabmhaaa.Arr
set_option linter.unusedVariables false
set_option linter.unusedSimpArgs false

set_option maxHeartbeats 2000000 in
set_option maxRecDepth 100000 in
theorem Size_calls (w : World) (base : Nat) (ok : Nat → Prop) (g : Nat) (s : DS) (h : DiskIs w base ok g s) :
    Calls Try.prog 28 #[.pointer (some ⟨g, 0, none⟩)] w fun e w' => e = .returned (.int .i64 (s.n : Int)) ∧ w = w' := by
  have HD := Aside0.mk h
  obtain ⟨gs, m, vw, pp, h1, h2, h3, h4, -, -, -, -⟩ := h
  obtain ⟨k0, -, -, -, -⟩ := dcell h1
  have hc : (mayE s == 1) = false := by unfold mayE; split <;> rfl
  have hc2 : decide (mayE s = 1) = false := by unfold mayE; split <;> rfl
  have HC := Aside0.mk hc
  clear h1 h2 h3 h4
  go_enter Try.func28, Try.ntmps28
  go_wp2_with fail
  refine (may_calls w base ok g s HD.out).mono ?_
  rintro e w1 ⟨rfl, rfl⟩
  generalize mayE s = q at *
  clear HC
  go_wp2_with fail
  go_ret
  exact ⟨rfl, rfl⟩
/-- what a law's []Do is: kind, a, b, bits, raw -/
abbrev DoT := Int × Int × Int × Int × List Int
def DoRow (W : World) (A : Option Addr) (l : List DoT) : Prop := ∀ j d, l[j]? = some d → ∃ ad A' c', A = some ad ∧
  (W.cell? (ad.add (j * 5)) = some (.int .i64 d.1) ∧ W.cell? (ad.add (j * 5 + 1)) = some (.int .i64 d.2.1) ∧ W.cell? (ad.add (j * 5 + 2)) = some (.int .i64 d.2.2.1) ∧ W.cell? (ad.add (j * 5 + 3)) = some (.int .u64 d.2.2.2.1) ∧ W.cell? (ad.add (j * 5 + 4)) = some (.slice A' d.2.2.2.2.length c')) ∧
  d.2.2.2.2.length ≤ c' ∧ Kd.C (Kd.int .u8) W A' d.2.2.2.2.length d.2.2.2.2 ∧ d.2.2.2.2.length < 140737488355328 ∧ d.2.1 ≤ 9223372036854775807
theorem bcells_out {U : Nat → Prop} {H : Nat} {w w' : World} {U' : Nat → Prop} {b : Nat} {cs : Array Value} {t : TypeId} (hr : HoldsRow w b t cs) (hn : ¬ U b) (hm : Moves H w w' U U') : HoldsRow w' b t cs ∧ ¬ U' b :=
  ⟨hr_move hr (hm.2.1.2 b hr.lt hn), moved_not hm hn hr.lt⟩
theorem moved_low {H B : Nat} {w w' : World} {U U' : Nat → Prop} (m : Moves H w w' U U') (hU : ∀ k, U k → B ≤ k) (hB : B ≤ w.heap.size) : ∀ k, U' k → B ≤ k := fun k hk => (m.2.2 k hk).1.elim (hU k) (Nat.le_trans hB)
theorem new_pair {w w1 w2 : World} {g h : Nat} {n : Nat} (hb1 : Below w.heap.size w w1) (hb2 : Below w1.heap.size w1 w2) (hd : DiskIs w1 w.heap.size (fun k => k < w1.heap.size) g (newS n)) (hr : RefIs w2 w1.heap.size (fun k => w1.heap.size ≤ k ∧ k < w2.heap.size) h (newS n)) :
    Pair w.heap.size w2 (fun k => w.heap.size ≤ k ∧ k < w1.heap.size) (fun k => w1.heap.size ≤ k ∧ k < w2.heap.size) g h (newS n) := by
  refine ⟨DL.below ⟨?_, fun k hk => hk.2, hb1.size⟩ hb2, ⟨?_, fun k hk => hk.2, Nat.le_trans hb1.size hb2.size⟩, fun k hk q => by omega⟩
  · obtain ⟨gs, m, vw, pp, h1, h2, h3, h4, h5, ⟨o1, o2, o3⟩, ⟨b1, b2, b3⟩, hG⟩ := hd
    refine ⟨gs, m, vw, pp, h1, h2, h3, Kd.R_mono (Kd.R_bound h4) (fun k hk => ⟨hk.2.1, hk.2.2.1⟩), ?_, ⟨⟨b1, o1⟩, ⟨b2, o2⟩, ⟨b3, o3⟩⟩, ⟨b1, b2, b3⟩, hG⟩
    exact h5
  · obtain ⟨gs, vw, fl, l, b, c, h1, h2, h4, h5, ⟨o1, o2⟩, ⟨b1, b2⟩, hG⟩ := hr
    exact ⟨gs, vw, fl, l, b, c, h1, h2, Kd.R_lower h4 hb1.size, h5, ⟨o1, o2⟩, ⟨Nat.le_trans hb1.size b1, Nat.le_trans hb1.size b2⟩, hG⟩
theorem add_cell (ad : Addr) (m i : Nat) : ad.add (m + (i + 1)) = ⟨(ad.add m).block, (ad.add m).off + (i + 1), none⟩ := by
  rw [← Go.Deep.add_add]
  unfold Addr.add
  rw [if_neg (by omega)]
theorem do_cells {W : World} {ad : Addr} {m : Nat} {v0 v1 v2 v3 v4 : Value} (h : W.cell? (ad.add m) = some v0 ∧ W.cell? (ad.add (m + 1)) = some v1 ∧ W.cell? (ad.add (m + 2)) = some v2 ∧ W.cell? (ad.add (m + 3)) = some v3 ∧ W.cell? (ad.add (m + 4)) = some v4) :
    W.cell? (ad.add m) = some v0 ∧ W.cell? ⟨(ad.add m).block, (ad.add m).off + 1, none⟩ = some v1 ∧ W.cell? ⟨(ad.add m).block, (ad.add m).off + 2, none⟩ = some v2 ∧ W.cell? ⟨(ad.add m).block, (ad.add m).off + 3, none⟩ = some v3 ∧ W.cell? ⟨(ad.add m).block, (ad.add m).off + 4, none⟩ = some v4 := by
  rw [← add_cell ad m 0, ← add_cell ad m 1, ← add_cell ad m 2, ← add_cell ad m 3]
  exact h
set_option maxHeartbeats 8000000 in
set_option maxRecDepth 100000 in
theorem plays_calls (n : Int) (A0 : Option Addr) (c0 : Nat) (l : List DoT) (w : World) (hr : DoRow w A0 l) (hc : l.length ≤ c0) (hm : l.length ≤ 9223372036854775807) :
    Calls Try.prog 7 #[.int .i64 n, .slice A0 l.length c0] w fun e w' => e = .returned (.bool true) ∧ Below w.heap.size w w' := by
  have HR := Aside0.mk hr
  have HC := Aside0.mk hc
  obtain ⟨N, hN⟩ : ∃ N, (N = l.length ∧ N ≤ 80) ∨ (N = 80 ∧ 80 < l.length) := by
    by_cases h : l.length ≤ 80
    · exact ⟨_, .inl ⟨rfl, h⟩⟩
    · exact ⟨80, .inr ⟨rfl, by omega⟩⟩
  have HN80 := Aside0.mk (show N ≤ 80 ∧ N ≤ l.length by omega)
  have HM := Aside0.mk hm
  clear hr hc hm
  go_enter Try.func7, Try.ntmps7
  go_wp2_with fail
  refine (New_calls w n).mono ?_
  rintro e w1 hq
  unfold NewPost at hq
  by_cases hn : n < 1 ∨ 512 < n
  · rw [if_pos hn] at hq
    obtain ⟨rfl, rfl⟩ := hq
    have HN := Aside0.mk hn
    clear hn
    go_wp2_with fail
    refine (RNew_calls w n).mono ?_
    rintro e w1 hq
    unfold RNewPost at hq
    rw [if_pos HN.out] at hq
    obtain ⟨rfl, rfl⟩ := hq
    go_wp2_with fail
    refine (works_calls w).mono ?_
    rintro e w1 ⟨rfl, hb⟩
    have HB := Aside0.mk hb
    clear hb
    go_wp2_with fail
    go_ret
    exact ⟨rfl, HB.out⟩
  · rw [if_neg hn] at hq
    obtain ⟨g, rfl, hb, hd⟩ := hq
    have HN := Aside0.mk hn
    have HB1 := Aside0.mk hb
    have HD1 := Aside0.mk hd
    clear hn hb hd
    go_wp2_with fail
    refine (RNew_calls w1 n).mono ?_
    rintro e w2 hq
    unfold RNewPost at hq
    rw [if_neg HN.out] at hq
    obtain ⟨h, rfl, hb, hd⟩ := hq
    have T2 := Aside0.mk (new_pair HB1.out hb HD1.out hd)
    have HB2 := Aside0.mk (HB1.out.trans (hb.mono HB1.out.size))
    have HS1 := Aside0.mk HB1.out.size
    clear hb hd HB1 HD1
    obtain ⟨okA, hA⟩ : ∃ okA : Nat → Prop, okA = (fun k => w.heap.size ≤ k ∧ k < w1.heap.size) := ⟨_, rfl⟩
    obtain ⟨okB, hB⟩ : ∃ okB : Nat → Prop, okB = (fun k => w1.heap.size ≤ k ∧ k < w2.heap.size) := ⟨_, rfl⟩
    have HUL := Aside0.mk (show ∀ k, okU okA okB k → w.heap.size ≤ k from fun k hk => by
      rw [hA, hB] at hk
      rcases hk with hk | hk
      · exact hk.1
      · exact Nat.le_trans HS1.out hk.1)
    rw [← hA, ← hB] at T2
    clear hA hB
    go_wp2_with fail
    obtain ⟨M, hM⟩ : ∃ M : Nat, (if (12 : Int) < n then (12 : Int) else n) = (M : Int) := by
      have := HN.out
      split
      · exact ⟨12, rfl⟩
      · exact ⟨n.toNat, by omega⟩
    have HH := Aside0.mk T2.out.hsize
    obtain ⟨b9, hb9⟩ : ∃ b9, b9 = w2.heap.size := ⟨_, rfl⟩
    have HB9 := Aside0.mk hb9
    rw [← hb9]
    clear hb9
    go_loopw [10] (fun i wr => ∃ (j : Nat) (s : DS) (okA okB : Nat → Prop), j ≤ N ∧ i = .int .i64 (j : Nat) ∧ Aside0 (s.waits.length ≤ j) ∧ Aside0 (Pair w.heap.size wr okA okB g h s) ∧ Aside0 (HoldsRow wr b9 55 (bcells g h) ∧ ¬ okU okA okB b9 ∧ ∀ k, okU okA okB k → w.heap.size ≤ k) ∧ Aside0 (Below w.heap.size w wr)) (fun i _ => N - (intOf i).toNat)
    case atStart =>
      have hba := below_alloc (Below.refl w2.heap.size w2) (.cells #[.pointer (some ⟨g, 0, none⟩), .pointer (some ⟨h, 0, none⟩)] 55)
      exact ⟨0, newS n.toNat, okA, okB, by omega, rfl, ⟨Nat.le_refl _⟩, ⟨T2.out.below hba⟩, ⟨by rw [HB9.out]; exact HoldsRow.new w2 _ _, fun q => by have := T2.out.lt _ q; have := HB9.out; omega, HUL.out⟩, ⟨HB2.out.trans (hba.mono HB2.out.size)⟩⟩
    case round =>
      clear T2 HB2 HB9 HH HUL HS1 okA okB
      obtain ⟨j, s, okA, okB, hj, rfl, HW, T, P, B⟩ := hrel
      by_cases hlt : j < N
      · have hjl : j < l.length := by have := HN80.out; omega
        obtain ⟨⟨dk, da, db, dbits, raw⟩, hd⟩ : ∃ d, l[j]? = some d := ⟨_, List.getElem?_eq_getElem hjl⟩
        obtain ⟨ad, A', c', rfl, hk, e1, e2, e3, e4⟩ := HR.out j _ hd
        have HG := Aside0.mk (do_cells hk)
        have hkd : ∀ W', Kept wr.drew W' (okU okA okB) → Kd.C (Kd.int .u8) W' A' raw.length raw := Kd.C_kept_came (Kd.heap_int _) e2 (B.out.trans (below_drew ((Below.refl _ wr).mono B.out.size))) P.out.2.2
        have HX := step_calls w.heap.size wr.drew okA okB g h s (T.out.below (below_drew (Below.refl _ wr))) (by have := HW.out; have := HN80.out; omega) dk da db dbits A' c' raw hkd e1 e3 e4
        unfold bcells docells at HX
        obtain ⟨s', hs'⟩ : ∃ s', s' = stepF s (dk % 7) da db dbits raw := ⟨_, rfl⟩
        have HWJ := Aside0.mk (show s'.waits.length ≤ j + 1 by have := waits_step s (dk % 7) da db dbits raw; rw [← hs'] at this; have := HW.out; omega)
        have HW2 := Aside0.mk (show s'.waits.length ≤ 1000000 by have := HWJ.out; have := HN80.out; omega)
        have d1 : decide ((j : Int) < (l.length : Int)) = true := decide_eq_true (by omega)
        have d2 : decide ((j : Int) < 80) = true := decide_eq_true (by have := HN80.out; omega)
        have b0 := eq_true (show (0 : Int) ≤ (j : Int) by omega)
        have b1 := eq_true (show (j : Int) < (l.length : Int) by omega)
        clear hkd e1 e2 e3 e4 hk hd
        have f0 := P.out.1.cell (j := 0) (v := .pointer (some ⟨g, 0, none⟩)) rfl
        have f1 := P.out.1.cell (j := 1) (v := .pointer (some ⟨h, 0, none⟩)) rfl
        have g0 := pw_cell_below B.out HG.out.1
        have g1 := pw_cell_below B.out HG.out.2.1
        have g2 := pw_cell_below B.out HG.out.2.2.1
        have g3 := pw_cell_below B.out HG.out.2.2.2.1
        have g4 := pw_cell_below B.out HG.out.2.2.2.2
        go_wp2_with fail
        refine start_ (n := 38) (S := fun w' => w'.cell? ⟨b9, 0, none⟩ = some (.pointer (some ⟨g, 0, none⟩)) ∧ w'.cell? ⟨b9, 1, none⟩ = some (.pointer (some ⟨h, 0, none⟩)) ∧ w'.cell? (ad.add (j * 5)) = some (.int .i64 dk) ∧ w'.cell? ⟨(ad.add (j * 5)).block, (ad.add (j * 5)).off + 1, none⟩ = some (.int .i64 da) ∧ w'.cell? ⟨(ad.add (j * 5)).block, (ad.add (j * 5)).off + 2, none⟩ = some (.int .i64 db) ∧ w'.cell? ⟨(ad.add (j * 5)).block, (ad.add (j * 5)).off + 3, none⟩ = some (.int .u64 dbits) ∧ w'.cell? ⟨(ad.add (j * 5)).block, (ad.add (j * 5)).off + 4, none⟩ = some (.slice A' raw.length c')) (ds := []) #[false, false, false, false, false, false, false, false, false, false, false, false, false, false, false, false, false, false, false, false, false, false, false, false, false, false, false, false, false, false, false, false, false, false, false, false, false, false] (by kernel_rfl) rfl rfl ⟨f0, f1, g0, g1, g2, g3, g4⟩ (fun hHeld => ?_)
        refine pure_ (i := 1) (N := some 49) (v := ?_) (a' := ?_) #[false, true, false, false, false, false, false, false, false, false, false, false, false, false, false, false, false, false, false, false, false, false, false, false, false, false, false, false, false, false, false, false, false, false, false, false, false, false] rfl rfl (by kernel_rfl) (fun _ _ _ h => h) (Or.inl ⟨by rfl, ?_⟩) ?_ ?_
        rotate_left
        · intro w'
          go_simp
          with_reducible rfl
        rotate_left
        · simp only [Act.put, List.setIfInBounds_toArray, List.set_cons_zero, List.set_cons_succ, i64_w, i32_w]
          rfl
        refine pure_ (i := 2) (N := some 50) (v := ?_) (a' := ?_) #[false, true, true, false, false, false, false, false, false, false, false, false, false, false, false, false, false, false, false, false, false, false, false, false, false, false, false, false, false, false, false, false, false, false, false, false, false, false] rfl rfl (by kernel_rfl) (fun _ _ _ h => h) (Or.inl ⟨by rfl, ?_⟩) ?_ ?_
        rotate_left
        · intro w'
          go_simp
          with_reducible rfl
        rotate_left
        · simp only [Act.put, List.setIfInBounds_toArray, List.set_cons_zero, List.set_cons_succ, i64_w, i32_w]
          rfl
        refine pure_ (i := 3) (N := some 51) (v := ?_) (a' := ?_) #[false, true, true, true, false, false, false, false, false, false, false, false, false, false, false, false, false, false, false, false, false, false, false, false, false, false, false, false, false, false, false, false, false, false, false, false, false, false] rfl rfl (by kernel_rfl) (fun _ _ _ h => h) (Or.inl ⟨by rfl, ?_⟩) ?_ ?_
        rotate_left
        · intro w'
          go_simp
          with_reducible rfl
        rotate_left
        · simp only [Act.put, List.setIfInBounds_toArray, List.set_cons_zero, List.set_cons_succ, i64_w, i32_w]
          rfl
        refine take_ (i := 0) (N := some 48) (v := ?_) (a' := ?_) #[true, true, true, true, false, false, false, false, false, false, false, false, false, false, false, false, false, false, false, false, false, false, false, false, false, false, false, false, false, false, false, false, false, false, false, false, false, false] rfl rfl (by kernel_rfl) (fun _ _ _ h => h) (Or.inl ⟨by rfl, ?_⟩) hHeld ?_ ?_
        rotate_left
        · rintro w' ⟨s0, s1, s2, s3, s4, s5, s6⟩
          go_simp
          with_reducible rfl
        rotate_left
        · simp only [Act.put, List.setIfInBounds_toArray, List.set_cons_zero, List.set_cons_succ, i64_w, i32_w]
          rfl
        refine take_ (i := 4) (N := some 52) (v := ?_) (a' := ?_) #[true, true, true, true, true, false, false, false, false, false, false, false, false, false, false, false, false, false, false, false, false, false, false, false, false, false, false, false, false, false, false, false, false, false, false, false, false, false] rfl rfl (by kernel_rfl) (fun _ _ _ h => h) (Or.inl ⟨by rfl, ?_⟩) hHeld ?_ ?_
        rotate_left
        · rintro w' ⟨s0, s1, s2, s3, s4, s5, s6⟩
          go_simp
          with_reducible rfl
        rotate_left
        · simp only [Act.put, List.setIfInBounds_toArray, List.set_cons_zero, List.set_cons_succ, i64_w, i32_w]
          rfl
        refine one_ (i := 5) (N := some 53) #[true, true, true, true, true, true, false, false, false, false, false, false, false, false, false, false, false, false, false, false, false, false, false, false, false, false, false, false, false, false, false, false, false, false, false, false, false, false] rfl rfl (by kernel_rfl) (by decide) (fun K hK => ?_)
        refine goes_ Try.func24 (by kernel_rfl) rfl #[.agg #[.pointer (some ⟨g, 0, none⟩), .pointer (some ⟨h, 0, none⟩)], .agg #[.int .i64 dk, .int .i64 da, .int .i64 db, .int .u64 dbits, .slice A' raw.length c']] (by rfl) rfl rfl (by simp only [List.map_toArray, List.map_cons, List.map_nil]; rfl) ?_
        with_reducible refine (HX).mono ?_
        rintro e w4 ⟨rfl, okA', okB', ht, hm⟩
        refine ⟨_, rfl, ?_⟩
        rw [← hs'] at ht
        have T4 := Aside0.mk ht
        have B4 := Aside0.mk ((below_drew B.out).trans hm.1)
        have U4 := Aside0.mk (moved_low hm P.out.2.2 B.out.size)
        have P4 := Aside0.mk (bcells_out (w := wr.drew) P.out.1 P.out.2.1 hm)
        have f0x := P4.out.1.cell (j := 0) (v := .pointer (some ⟨g, 0, none⟩)) rfl
        have f1x := P4.out.1.cell (j := 1) (v := .pointer (some ⟨h, 0, none⟩)) rfl
        have g0x := pw_cell_below B4.out (HG.out.1)
        have g1x := pw_cell_below B4.out (HG.out.2.1)
        have g2x := pw_cell_below B4.out (HG.out.2.2.1)
        have g3x := pw_cell_below B4.out (HG.out.2.2.2.1)
        have g4x := pw_cell_below B4.out (HG.out.2.2.2.2)
        have HX2 := bread_calls w.heap.size w4 okA' okB' g h s' T4.out HW2.out da
        unfold bcells at HX2
        clear ht hm
        refine hK.out _ _ ⟨f0x, f1x, g0x, g1x, g2x, g3x, g4x⟩ (fun hHeld => ?_)
        clear hK K
        refine norm_ (a' := ?_) ?_ ?_
        rotate_left
        · show Act.put _ (some 53) _ = _
          simp only [Act.put, List.setIfInBounds_toArray, List.set_cons_zero, List.set_cons_succ, i64_w, i32_w]
          rfl
        refine pure_ (i := 6) (N := some 54) (v := ?_) (a' := ?_) #[true, true, true, true, true, true, true, false, false, false, false, false, false, false, false, false, false, false, false, false, false, false, false, false, false, false, false, false, false, false, false, false, false, false, false, false, false, false] rfl rfl (by kernel_rfl) (fun _ _ _ h => h) (Or.inl ⟨by rfl, ?_⟩) ?_ ?_
        rotate_left
        · intro w'
          go_simp
          with_reducible rfl
        rotate_left
        · simp only [Act.put, List.setIfInBounds_toArray, List.set_cons_zero, List.set_cons_succ, i64_w, i32_w]
          rfl
        refine pure_ (i := 7) (N := some 55) (v := ?_) (a' := ?_) #[true, true, true, true, true, true, true, true, false, false, false, false, false, false, false, false, false, false, false, false, false, false, false, false, false, false, false, false, false, false, false, false, false, false, false, false, false, false] rfl rfl (by kernel_rfl) (fun _ _ _ h => h) (Or.inl ⟨by rfl, ?_⟩) ?_ ?_
        rotate_left
        · intro w'
          go_simp
          with_reducible rfl
        rotate_left
        · simp only [Act.put, List.setIfInBounds_toArray, List.set_cons_zero, List.set_cons_succ, i64_w, i32_w]
          rfl
        refine pure_ (i := 9) (N := some 57) (v := ?_) (a' := ?_) #[true, true, true, true, true, true, true, true, false, true, false, false, false, false, false, false, false, false, false, false, false, false, false, false, false, false, false, false, false, false, false, false, false, false, false, false, false, false] rfl rfl (by kernel_rfl) (fun _ _ _ h => h) (Or.inl ⟨by rfl, ?_⟩) ?_ ?_
        rotate_left
        · intro w'
          go_simp
          with_reducible rfl
        rotate_left
        · simp only [Act.put, List.setIfInBounds_toArray, List.set_cons_zero, List.set_cons_succ, i64_w, i32_w]
          rfl
        refine pure_ (i := 10) (N := some 58) (v := ?_) (a' := ?_) #[true, true, true, true, true, true, true, true, false, true, true, false, false, false, false, false, false, false, false, false, false, false, false, false, false, false, false, false, false, false, false, false, false, false, false, false, false, false] rfl rfl (by kernel_rfl) (fun _ _ _ h => h) (Or.inl ⟨by rfl, ?_⟩) ?_ ?_
        rotate_left
        · intro w'
          go_simp
          with_reducible rfl
        rotate_left
        · simp only [Act.put, List.setIfInBounds_toArray, List.set_cons_zero, List.set_cons_succ, i64_w, i32_w]
          rfl
        refine pure_ (i := 11) (N := some 59) (v := ?_) (a' := ?_) #[true, true, true, true, true, true, true, true, false, true, true, true, false, false, false, false, false, false, false, false, false, false, false, false, false, false, false, false, false, false, false, false, false, false, false, false, false, false] rfl rfl (by kernel_rfl) (fun _ _ _ h => h) (Or.inl ⟨by rfl, ?_⟩) ?_ ?_
        rotate_left
        · intro w'
          go_simp
          with_reducible rfl
        rotate_left
        · simp only [Act.put, List.setIfInBounds_toArray, List.set_cons_zero, List.set_cons_succ, i64_w, i32_w]
          rfl
        refine pure_ (i := 12) (N := some 60) (v := ?_) (a' := ?_) #[true, true, true, true, true, true, true, true, false, true, true, true, true, false, false, false, false, false, false, false, false, false, false, false, false, false, false, false, false, false, false, false, false, false, false, false, false, false] rfl rfl (by kernel_rfl) (fun _ _ _ h => h) (Or.inl ⟨by rfl, ?_⟩) ?_ ?_
        rotate_left
        · intro w'
          go_simp
          with_reducible rfl
        rotate_left
        · simp only [Act.put, List.setIfInBounds_toArray, List.set_cons_zero, List.set_cons_succ, i64_w, i32_w]
          rfl
        refine take_ (i := 8) (N := some 56) (v := ?_) (a' := ?_) #[true, true, true, true, true, true, true, true, true, true, true, true, true, false, false, false, false, false, false, false, false, false, false, false, false, false, false, false, false, false, false, false, false, false, false, false, false, false] rfl rfl (by kernel_rfl) (fun _ _ _ h => h) (Or.inl ⟨by rfl, ?_⟩) hHeld ?_ ?_
        rotate_left
        · rintro w' ⟨s0, s1, s2, s3, s4, s5, s6⟩
          go_simp
          with_reducible rfl
        rotate_left
        · simp only [Act.put, List.setIfInBounds_toArray, List.set_cons_zero, List.set_cons_succ, i64_w, i32_w]
          rfl
        refine take_ (i := 13) (N := some 61) (v := ?_) (a' := ?_) #[true, true, true, true, true, true, true, true, true, true, true, true, true, true, false, false, false, false, false, false, false, false, false, false, false, false, false, false, false, false, false, false, false, false, false, false, false, false] rfl rfl (by kernel_rfl) (fun _ _ _ h => h) (Or.inl ⟨by rfl, ?_⟩) hHeld ?_ ?_
        rotate_left
        · rintro w' ⟨s0, s1, s2, s3, s4, s5, s6⟩
          go_simp
          with_reducible rfl
        rotate_left
        · simp only [Act.put, List.setIfInBounds_toArray, List.set_cons_zero, List.set_cons_succ, i64_w, i32_w]
          rfl
        refine one_ (i := 14) (N := some 62) #[true, true, true, true, true, true, true, true, true, true, true, true, true, true, true, false, false, false, false, false, false, false, false, false, false, false, false, false, false, false, false, false, false, false, false, false, false, false] rfl rfl (by kernel_rfl) (by decide) (fun K hK => ?_)
        refine goes_ Try.func25 (by kernel_rfl) rfl #[.agg #[.pointer (some ⟨g, 0, none⟩), .pointer (some ⟨h, 0, none⟩)], .int .i64 da] (by rfl) rfl rfl (by simp only [List.map_toArray, List.map_cons, List.map_nil]; rfl) ?_
        with_reducible refine (HX2).mono ?_
        rintro e w5 ⟨rfl, okA5, okB5, ht, hm⟩
        refine ⟨_, rfl, ?_⟩
        have T5 := Aside0.mk ht
        have B5 := Aside0.mk (B4.out.trans hm.1)
        have U5 := Aside0.mk (moved_low hm U4.out B4.out.size)
        have P5 := Aside0.mk (bcells_out P4.out.1 P4.out.2 hm)
        have f0y := P5.out.1.cell (j := 0) (v := .pointer (some ⟨g, 0, none⟩)) rfl
        have f1y := P5.out.1.cell (j := 1) (v := .pointer (some ⟨h, 0, none⟩)) rfl
        have g0y := pw_cell_below B5.out (HG.out.1)
        have g1y := pw_cell_below B5.out (HG.out.2.1)
        have g2y := pw_cell_below B5.out (HG.out.2.2.1)
        have g3y := pw_cell_below B5.out (HG.out.2.2.2.1)
        have g4y := pw_cell_below B5.out (HG.out.2.2.2.2)
        clear ht hm HX2
        have RB5 := Aside0.mk (Pair.b T5.out).1
        have RA5 := Aside0.mk (Pair.a T5.out).1
        refine hK.out _ _ ⟨f0y, f1y, g0y, g1y, g2y, g3y, g4y⟩ (fun hHeld => ?_)
        clear hK K
        refine norm_ (a' := ?_) ?_ ?_
        rotate_left
        · show Act.put _ (some 62) _ = _
          simp only [Act.put, List.setIfInBounds_toArray, List.set_cons_zero, List.set_cons_succ, i64_w, i32_w]
          rfl
        refine pure_ (i := 15) (N := some 63) (v := ?_) (a' := ?_) #[true, true, true, true, true, true, true, true, true, true, true, true, true, true, true, true, false, false, false, false, false, false, false, false, false, false, false, false, false, false, false, false, false, false, false, false, false, false] rfl rfl (by kernel_rfl) (fun _ _ _ h => h) (Or.inl ⟨by rfl, ?_⟩) ?_ ?_
        rotate_left
        · intro w'
          go_simp
          with_reducible rfl
        rotate_left
        · simp only [Act.put, List.setIfInBounds_toArray, List.set_cons_zero, List.set_cons_succ, i64_w, i32_w]
          rfl
        refine pure_ (i := 16) (N := some 64) (v := ?_) (a' := ?_) #[true, true, true, true, true, true, true, true, true, true, true, true, true, true, true, true, true, false, false, false, false, false, false, false, false, false, false, false, false, false, false, false, false, false, false, false, false, false] rfl rfl (by kernel_rfl) (fun _ _ _ h => h) (Or.inl ⟨by rfl, ?_⟩) ?_ ?_
        rotate_left
        · intro w'
          go_simp
          with_reducible rfl
        rotate_left
        · simp only [Act.put, List.setIfInBounds_toArray, List.set_cons_zero, List.set_cons_succ, i64_w, i32_w]
          rfl
        refine pure_ (i := 17) (N := some 65) (v := ?_) (a' := ?_) #[true, true, true, true, true, true, true, true, true, true, true, true, true, true, true, true, true, true, false, false, false, false, false, false, false, false, false, false, false, false, false, false, false, false, false, false, false, false] rfl rfl (by kernel_rfl) (fun _ _ _ h => h) (Or.inl ⟨by rfl, ?_⟩) ?_ ?_
        rotate_left
        · intro w'
          go_simp
          with_reducible rfl
        rotate_left
        · simp only [Act.put, List.setIfInBounds_toArray, List.set_cons_zero, List.set_cons_succ, i64_w, i32_w]
          rfl
        refine pure_ (i := 18) (N := some 66) (v := ?_) (a' := ?_) #[true, true, true, true, true, true, true, true, true, true, true, true, true, true, true, true, true, true, true, false, false, false, false, false, false, false, false, false, false, false, false, false, false, false, false, false, false, false] rfl rfl (by kernel_rfl) (fun _ _ _ h => h) (Or.inl ⟨by rfl, ?_⟩) ?_ ?_
        rotate_left
        · intro w'
          go_simp
          with_reducible rfl
        rotate_left
        · simp only [Act.put, List.setIfInBounds_toArray, List.set_cons_zero, List.set_cons_succ, i64_w, i32_w]
          rfl
        refine pure_ (i := 20) (N := some 68) (v := ?_) (a' := ?_) #[true, true, true, true, true, true, true, true, true, true, true, true, true, true, true, true, true, true, true, false, true, false, false, false, false, false, false, false, false, false, false, false, false, false, false, false, false, false] rfl rfl (by kernel_rfl) (fun _ _ _ h => h) (Or.inl ⟨by rfl, ?_⟩) ?_ ?_
        rotate_left
        · intro w'
          go_simp
          with_reducible rfl
        rotate_left
        · simp only [Act.put, List.setIfInBounds_toArray, List.set_cons_zero, List.set_cons_succ, i64_w, i32_w]
          rfl
        refine one_ (i := 19) (N := some 67) #[true, true, true, true, true, true, true, true, true, true, true, true, true, true, true, true, true, true, true, true, true, false, false, false, false, false, false, false, false, false, false, false, false, false, false, false, false, false] rfl rfl (by kernel_rfl) (by decide) (fun K hK => ?_)
        refine goes_ Try.func20 (by kernel_rfl) rfl #[.pointer (some ⟨g, 0, none⟩)] (by rfl) rfl rfl (by simp only [List.map_toArray, List.map_cons, List.map_nil]; rfl) ?_
        with_reducible refine (LDead w.heap.size w5 okA5 g s' (Pair.a T5.out)).mono ?_
        rintro e w6 ⟨rfl, rfl⟩
        refine ⟨_, rfl, ?_⟩
        refine hK.out _ _ ⟨f0y, f1y, g0y, g1y, g2y, g3y, g4y⟩ (fun hHeld => ?_)
        clear hK K
        refine norm_ (a' := ?_) ?_ ?_
        rotate_left
        · show Act.put _ (some 67) _ = _
          simp only [Act.put, List.setIfInBounds_toArray, List.set_cons_zero, List.set_cons_succ, i64_w, i32_w]
          rfl
        refine one_ (i := 21) (N := some 69) #[true, true, true, true, true, true, true, true, true, true, true, true, true, true, true, true, true, true, true, true, true, true, false, false, false, false, false, false, false, false, false, false, false, false, false, false, false, false] rfl rfl (by kernel_rfl) (by decide) (fun K hK => ?_)
        refine goes_ Try.func26 (by kernel_rfl) rfl #[.pointer (some ⟨h, 0, none⟩)] (by rfl) rfl rfl (by simp only [List.map_toArray, List.map_cons, List.map_nil]; rfl) ?_
        with_reducible refine (RDead_calls w5 w.heap.size okB5 h s' RB5.out).mono ?_
        rintro e w6 ⟨rfl, rfl⟩
        refine ⟨_, rfl, ?_⟩
        refine hK.out _ _ ⟨f0y, f1y, g0y, g1y, g2y, g3y, g4y⟩ (fun hHeld => ?_)
        clear hK K
        refine norm_ (a' := ?_) ?_ ?_
        rotate_left
        · show Act.put _ (some 69) _ = _
          simp only [Act.put, List.setIfInBounds_toArray, List.set_cons_zero, List.set_cons_succ, i64_w, i32_w]
          rfl
        refine pure_ (i := 22) (N := some 70) (v := ?_) (a' := ?_) #[true, true, true, true, true, true, true, true, true, true, true, true, true, true, true, true, true, true, true, true, true, true, true, false, false, false, false, false, false, false, false, false, false, false, false, false, false, false] rfl rfl (by kernel_rfl) (fun _ _ _ h => h) (Or.inl ⟨by rfl, ?_⟩) ?_ ?_
        rotate_left
        · intro w'
          go_simp
          with_reducible rfl
        rotate_left
        · simp only [Act.put, List.setIfInBounds_toArray, List.set_cons_zero, List.set_cons_succ, i64_w, i32_w]
          rfl
        refine pure_ (i := 23) (N := some 71) (v := ?_) (a' := ?_) #[true, true, true, true, true, true, true, true, true, true, true, true, true, true, true, true, true, true, true, true, true, true, true, true, false, false, false, false, false, false, false, false, false, false, false, false, false, false] rfl rfl (by kernel_rfl) (fun _ _ _ h => h) (Or.inl ⟨by rfl, ?_⟩) ?_ ?_
        rotate_left
        · intro w'
          go_simp
          with_reducible rfl
        rotate_left
        · simp only [Act.put, List.setIfInBounds_toArray, List.set_cons_zero, List.set_cons_succ, i64_w, i32_w]
          rfl
        refine pure_ (i := 24) (N := some 72) (v := ?_) (a' := ?_) #[true, true, true, true, true, true, true, true, true, true, true, true, true, true, true, true, true, true, true, true, true, true, true, true, true, false, false, false, false, false, false, false, false, false, false, false, false, false] rfl rfl (by kernel_rfl) (fun _ _ _ h => h) (Or.inl ⟨by rfl, ?_⟩) ?_ ?_
        rotate_left
        · intro w'
          go_simp
          with_reducible rfl
        rotate_left
        · simp only [Act.put, List.setIfInBounds_toArray, List.set_cons_zero, List.set_cons_succ, i64_w, i32_w]
          rfl
        refine pure_ (i := 25) (N := some 73) (v := ?_) (a' := ?_) #[true, true, true, true, true, true, true, true, true, true, true, true, true, true, true, true, true, true, true, true, true, true, true, true, true, true, false, false, false, false, false, false, false, false, false, false, false, false] rfl rfl (by kernel_rfl) (fun _ _ _ h => h) (Or.inl ⟨by rfl, ?_⟩) ?_ ?_
        rotate_left
        · intro w'
          go_simp
          with_reducible rfl
        rotate_left
        · simp only [Act.put, List.setIfInBounds_toArray, List.set_cons_zero, List.set_cons_succ, i64_w, i32_w]
          rfl
        refine pure_ (i := 27) (N := some 75) (v := ?_) (a' := ?_) #[true, true, true, true, true, true, true, true, true, true, true, true, true, true, true, true, true, true, true, true, true, true, true, true, true, true, false, true, false, false, false, false, false, false, false, false, false, false] rfl rfl (by kernel_rfl) (fun _ _ _ h => h) (Or.inl ⟨by rfl, ?_⟩) ?_ ?_
        rotate_left
        · intro w'
          go_simp
          with_reducible rfl
        rotate_left
        · simp only [Act.put, List.setIfInBounds_toArray, List.set_cons_zero, List.set_cons_succ, i64_w, i32_w]
          rfl
        refine one_ (i := 26) (N := some 74) #[true, true, true, true, true, true, true, true, true, true, true, true, true, true, true, true, true, true, true, true, true, true, true, true, true, true, true, true, false, false, false, false, false, false, false, false, false, false] rfl rfl (by kernel_rfl) (by decide) (fun K hK => ?_)
        refine goes_ Try.func14 (by kernel_rfl) rfl #[.pointer (some ⟨g, 0, none⟩)] (by rfl) rfl rfl (by simp only [List.map_toArray, List.map_cons, List.map_nil]; rfl) ?_
        with_reducible refine (LWaits w.heap.size w5 okA5 g s' (Pair.a T5.out)).mono ?_
        rintro e w6 ⟨rfl, rfl⟩
        refine ⟨_, rfl, ?_⟩
        refine hK.out _ _ ⟨f0y, f1y, g0y, g1y, g2y, g3y, g4y⟩ (fun hHeld => ?_)
        clear hK K
        refine norm_ (a' := ?_) ?_ ?_
        rotate_left
        · show Act.put _ (some 74) _ = _
          simp only [Act.put, List.setIfInBounds_toArray, List.set_cons_zero, List.set_cons_succ, i64_w, i32_w]
          rfl
        refine one_ (i := 28) (N := some 76) #[true, true, true, true, true, true, true, true, true, true, true, true, true, true, true, true, true, true, true, true, true, true, true, true, true, true, true, true, true, false, false, false, false, false, false, false, false, false] rfl rfl (by kernel_rfl) (by decide) (fun K hK => ?_)
        refine goes_ Try.func27 (by kernel_rfl) rfl #[.pointer (some ⟨h, 0, none⟩)] (by rfl) rfl rfl (by simp only [List.map_toArray, List.map_cons, List.map_nil]; rfl) ?_
        with_reducible refine (RWaits_calls w5 w.heap.size okB5 h s' RB5.out).mono ?_
        rintro e w6 ⟨rfl, rfl⟩
        refine ⟨_, rfl, ?_⟩
        refine hK.out _ _ ⟨f0y, f1y, g0y, g1y, g2y, g3y, g4y⟩ (fun hHeld => ?_)
        clear hK K
        refine norm_ (a' := ?_) ?_ ?_
        rotate_left
        · show Act.put _ (some 76) _ = _
          simp only [Act.put, List.setIfInBounds_toArray, List.set_cons_zero, List.set_cons_succ, i64_w, i32_w]
          rfl
        refine pure_ (i := 29) (N := some 77) (v := ?_) (a' := ?_) #[true, true, true, true, true, true, true, true, true, true, true, true, true, true, true, true, true, true, true, true, true, true, true, true, true, true, true, true, true, true, false, false, false, false, false, false, false, false] rfl rfl (by kernel_rfl) (fun _ _ _ h => h) (Or.inl ⟨by rfl, ?_⟩) ?_ ?_
        rotate_left
        · intro w'
          go_simp
          with_reducible rfl
        rotate_left
        · simp only [Act.put, List.setIfInBounds_toArray, List.set_cons_zero, List.set_cons_succ, i64_w, i32_w]
          rfl
        refine pure_ (i := 30) (N := some 78) (v := ?_) (a' := ?_) #[true, true, true, true, true, true, true, true, true, true, true, true, true, true, true, true, true, true, true, true, true, true, true, true, true, true, true, true, true, true, true, false, false, false, false, false, false, false] rfl rfl (by kernel_rfl) (fun _ _ _ h => h) (Or.inl ⟨by rfl, ?_⟩) ?_ ?_
        rotate_left
        · intro w'
          go_simp
          with_reducible rfl
        rotate_left
        · simp only [Act.put, List.setIfInBounds_toArray, List.set_cons_zero, List.set_cons_succ, i64_w, i32_w]
          rfl
        refine pure_ (i := 31) (N := some 79) (v := ?_) (a' := ?_) #[true, true, true, true, true, true, true, true, true, true, true, true, true, true, true, true, true, true, true, true, true, true, true, true, true, true, true, true, true, true, true, true, false, false, false, false, false, false] rfl rfl (by kernel_rfl) (fun _ _ _ h => h) (Or.inl ⟨by rfl, ?_⟩) ?_ ?_
        rotate_left
        · intro w'
          go_simp
          with_reducible rfl
        rotate_left
        · simp only [Act.put, List.setIfInBounds_toArray, List.set_cons_zero, List.set_cons_succ, i64_w, i32_w]
          rfl
        refine pure_ (i := 32) (N := some 80) (v := ?_) (a' := ?_) #[true, true, true, true, true, true, true, true, true, true, true, true, true, true, true, true, true, true, true, true, true, true, true, true, true, true, true, true, true, true, true, true, true, false, false, false, false, false] rfl rfl (by kernel_rfl) (fun _ _ _ h => h) (Or.inl ⟨by rfl, ?_⟩) ?_ ?_
        rotate_left
        · intro w'
          go_simp
          with_reducible rfl
        rotate_left
        · simp only [Act.put, List.setIfInBounds_toArray, List.set_cons_zero, List.set_cons_succ, i64_w, i32_w]
          rfl
        refine pure_ (i := 34) (N := some 82) (v := ?_) (a' := ?_) #[true, true, true, true, true, true, true, true, true, true, true, true, true, true, true, true, true, true, true, true, true, true, true, true, true, true, true, true, true, true, true, true, true, false, true, false, false, false] rfl rfl (by kernel_rfl) (fun _ _ _ h => h) (Or.inl ⟨by rfl, ?_⟩) ?_ ?_
        rotate_left
        · intro w'
          go_simp
          with_reducible rfl
        rotate_left
        · simp only [Act.put, List.setIfInBounds_toArray, List.set_cons_zero, List.set_cons_succ, i64_w, i32_w]
          rfl
        refine one_ (i := 33) (N := some 81) #[true, true, true, true, true, true, true, true, true, true, true, true, true, true, true, true, true, true, true, true, true, true, true, true, true, true, true, true, true, true, true, true, true, true, true, false, false, false] rfl rfl (by kernel_rfl) (by decide) (fun K hK => ?_)
        refine goes_ Try.func28 (by kernel_rfl) rfl #[.pointer (some ⟨g, 0, none⟩)] (by rfl) rfl rfl (by simp only [List.map_toArray, List.map_cons, List.map_nil]; rfl) ?_
        with_reducible refine (Size_calls w5 w.heap.size okA5 g s' RA5.out).mono ?_
        rintro e w6 ⟨rfl, rfl⟩
        refine ⟨_, rfl, ?_⟩
        refine hK.out _ _ ⟨f0y, f1y, g0y, g1y, g2y, g3y, g4y⟩ (fun hHeld => ?_)
        clear hK K
        refine norm_ (a' := ?_) ?_ ?_
        rotate_left
        · show Act.put _ (some 81) _ = _
          simp only [Act.put, List.setIfInBounds_toArray, List.set_cons_zero, List.set_cons_succ, i64_w, i32_w]
          rfl
        refine one_ (i := 35) (N := some 83) #[true, true, true, true, true, true, true, true, true, true, true, true, true, true, true, true, true, true, true, true, true, true, true, true, true, true, true, true, true, true, true, true, true, true, true, true, false, false] rfl rfl (by kernel_rfl) (by decide) (fun K hK => ?_)
        refine goes_ Try.func29 (by kernel_rfl) rfl #[.pointer (some ⟨h, 0, none⟩)] (by rfl) rfl rfl (by simp only [List.map_toArray, List.map_cons, List.map_nil]; rfl) ?_
        with_reducible refine (RSize_calls w5 w.heap.size okB5 h s' RB5.out).mono ?_
        rintro e w6 ⟨rfl, rfl⟩
        refine ⟨_, rfl, ?_⟩
        refine hK.out _ _ ⟨f0y, f1y, g0y, g1y, g2y, g3y, g4y⟩ (fun hHeld => ?_)
        clear hK K
        refine norm_ (a' := ?_) ?_ ?_
        rotate_left
        · show Act.put _ (some 83) _ = _
          simp only [Act.put, List.setIfInBounds_toArray, List.set_cons_zero, List.set_cons_succ, i64_w, i32_w]
          rfl
        refine pure_ (i := 36) (N := some 84) (v := ?_) (a' := ?_) #[true, true, true, true, true, true, true, true, true, true, true, true, true, true, true, true, true, true, true, true, true, true, true, true, true, true, true, true, true, true, true, true, true, true, true, true, true, false] rfl rfl (by kernel_rfl) (fun _ _ _ h => h) (Or.inl ⟨by rfl, ?_⟩) ?_ ?_
        rotate_left
        · intro w'
          go_simp
          with_reducible rfl
        rotate_left
        · simp only [Act.put, List.setIfInBounds_toArray, List.set_cons_zero, List.set_cons_succ, i64_w, i32_w]
          rfl
        refine pure_ (i := 37) (N := some 85) (v := ?_) (a' := ?_) #[true, true, true, true, true, true, true, true, true, true, true, true, true, true, true, true, true, true, true, true, true, true, true, true, true, true, true, true, true, true, true, true, true, true, true, true, true, true] rfl rfl (by kernel_rfl) (fun _ _ _ h => h) (Or.inl ⟨by rfl, ?_⟩) ?_ ?_
        rotate_left
        · intro w'
          go_simp
          with_reducible rfl
        rotate_left
        · simp only [Act.put, List.setIfInBounds_toArray, List.set_cons_zero, List.set_cons_succ, i64_w, i32_w]
          rfl
        refine done_ (by kernel_rfl) ?_
        
        have HD := Aside0.mk hjl
        clear f0x f1x g0x g1x g2x g3x g4x f0y f1y g0y g1y g2y g3y g4y hHeld HX RA5 RB5 P4 U4 B4 T4 P T B HG f0 f1 g0 g1 g2 g3 g4
        go_wp2_with fail
        refine ⟨⟨j + 1, s', okA5, okB5, by omega, by go_num, HWJ, T5, ⟨P5.out.1, P5.out.2, U5.out⟩, B5⟩, by simp [intOf]; omega⟩
      · obtain rfl : j = N := by omega
        rcases hN with ⟨e1, e2⟩ | ⟨e1, e2⟩
        · subst e1
          have d1 : decide (((l.length : Nat) : Int) < (l.length : Int)) = false := decide_eq_false (Int.lt_irrefl _)
          have HW1 := Aside0.mk (show s.waits.length ≤ 1000000 by have := HW.out; omega)
          go_wp2_with fail
          go_loopw [11] (fun i wr => ∃ (j : Nat) (okA okB : Nat → Prop), j ≤ M ∧ i = .int .i64 (j : Nat) ∧ Aside0 (Pair w.heap.size wr okA okB g h s) ∧ Aside0 (HoldsRow wr b9 55 (bcells g h) ∧ ¬ okU okA okB b9) ∧ Aside0 (Below w.heap.size w wr)) (fun i _ => M - (intOf i).toNat)
          case atStart => exact ⟨0, okA, okB, by omega, rfl, T, ⟨P.out.1, P.out.2.1⟩, B⟩
          case round =>
            clear T P B okA okB d1
            obtain ⟨j, okA, okB, hj, rfl, T, P, B⟩ := hrel
            by_cases hlt : j < M
            · have d1 : decide ((j : Int) < (M : Int)) = true := decide_eq_true (by omega)
              have f0 := P.out.1.cell (j := 0) (v := .pointer (some ⟨g, 0, none⟩)) rfl
              have f1 := P.out.1.cell (j := 1) (v := .pointer (some ⟨h, 0, none⟩)) rfl
              have HX := bread_calls w.heap.size wr okA okB g h s T.out HW1.out j
              unfold bcells at HX
              go_wp2_with fail
              ((with_reducible refine HX.mono ?_))
              rintro e w4 ⟨rfl, okA', okB', ht, hm⟩
              have T4 := Aside0.mk ht
              have P4 := Aside0.mk (bcells_out P.out.1 P.out.2 hm)
              have B4 := Aside0.mk (B.out.trans hm.1)
              clear ht hm HX f0 f1 P B T
              go_wp2_with fail
              refine ⟨⟨j + 1, okA', okB', by omega, by go_num, T4, P4, B4⟩, by simp [intOf]; omega⟩
            · obtain rfl : j = M := by omega
              have d1 : decide (((j : Nat) : Int) < (j : Int)) = false := decide_eq_false (Int.lt_irrefl _)
              go_wp2_with fail
              ((with_reducible refine (works_calls wr).mono ?_))
              rintro e w4 ⟨rfl, hb⟩
              have B4 := Aside0.mk (B.out.trans (hb.mono B.out.size))
              clear hb P T B
              go_wp2_with fail
              go_ret
              exact ⟨rfl, B4.out⟩
        · subst e1
          have d1 : decide ((80 : Int) < (l.length : Int)) = true := decide_eq_true (by omega)
          rw [show ((80 : Nat) : Int) = 80 from rfl]
          have HW1 := Aside0.mk (show s.waits.length ≤ 1000000 by have := HW.out; omega)
          go_wp2_with fail
          go_loopw [11] (fun i wr => ∃ (j : Nat) (okA okB : Nat → Prop), j ≤ M ∧ i = .int .i64 (j : Nat) ∧ Aside0 (Pair w.heap.size wr okA okB g h s) ∧ Aside0 (HoldsRow wr b9 55 (bcells g h) ∧ ¬ okU okA okB b9) ∧ Aside0 (Below w.heap.size w wr)) (fun i _ => M - (intOf i).toNat)
          case atStart => exact ⟨0, okA, okB, by omega, rfl, T, ⟨P.out.1, P.out.2.1⟩, B⟩
          case round =>
            clear T P B okA okB d1
            obtain ⟨j, okA, okB, hj, rfl, T, P, B⟩ := hrel
            by_cases hlt : j < M
            · have d1 : decide ((j : Int) < (M : Int)) = true := decide_eq_true (by omega)
              have f0 := P.out.1.cell (j := 0) (v := .pointer (some ⟨g, 0, none⟩)) rfl
              have f1 := P.out.1.cell (j := 1) (v := .pointer (some ⟨h, 0, none⟩)) rfl
              have HX := bread_calls w.heap.size wr okA okB g h s T.out HW1.out j
              unfold bcells at HX
              go_wp2_with fail
              ((with_reducible refine HX.mono ?_))
              rintro e w4 ⟨rfl, okA', okB', ht, hm⟩
              have T4 := Aside0.mk ht
              have P4 := Aside0.mk (bcells_out P.out.1 P.out.2 hm)
              have B4 := Aside0.mk (B.out.trans hm.1)
              clear ht hm HX f0 f1 P B T
              go_wp2_with fail
              refine ⟨⟨j + 1, okA', okB', by omega, by go_num, T4, P4, B4⟩, by simp [intOf]; omega⟩
            · obtain rfl : j = M := by omega
              have d1 : decide (((j : Nat) : Int) < (j : Int)) = false := decide_eq_false (Int.lt_irrefl _)
              go_wp2_with fail
              ((with_reducible refine (works_calls wr).mono ?_))
              rintro e w4 ⟨rfl, hb⟩
              have B4 := Aside0.mk (B.out.trans (hb.mono B.out.size))
              clear hb P T B
              go_wp2_with fail
              go_ret
              exact ⟨rfl, B4.out⟩
end Go.Proofs.Ytkmgbmnjabmhaaa.Ext
