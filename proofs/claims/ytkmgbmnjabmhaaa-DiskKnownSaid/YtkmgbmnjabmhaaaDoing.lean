/- doing, Crash, Flush of a disk, walked. Condition: a million writes wait at most. -/
import Derived.Test.YtkmgbmnjabmhaaaGone
namespace Go.Proofs.Ytkmgbmnjabmhaaa.Ext
open Go Go.RowKit Go.Proofs.YtkmgbmnjabmhaaaW.PrintWords Go.Proofs.YtkmgbmnjabmhaaaW.PrintLast Go.Proofs.YtkmgbmnjabmhaaaW.PrintMore Go.Proofs.Ytkmgbmnjabmhaaa.Base Go.Proofs.Ytkmgbmnjabmhaaa.Arr
set_option linter.unusedVariables false
set_option linter.unusedSimpArgs false

def doingF (s : DS) : Int × DS := match s.plan with
  | none => (0, s)
  | some (l, b, c) => if 0 < l then (0, { s with plan := some (l - 1, b, c) }) else (30, goneS s b c)
set_option maxHeartbeats 4000000 in
set_option maxRecDepth 100000 in
theorem doing_calls (w : World) (base : Nat) (ok : Nat → Prop) (g : Nat) (s : DS) (h : DiskIs w base ok g s) (hbw : base ≤ w.heap.size) (hw : s.waits.length ≤ 1000000) :
    Calls Try.prog 31 #[.pointer (some ⟨g, 0, none⟩)] w fun e w' => e = .returned (.int .i64 (doingF s).1) ∧ DiskTo w w' base ok g (doingF s).2 := by
  have HD := Aside0.mk h
  obtain ⟨gs, m, vw, pp, h1, h2, h3, h4, h5, ⟨o1, o2, o3⟩, ⟨b1, b2, b3⟩, hG⟩ := h
  have k4 := h1.cell (j := 4) (v := .pointer pp) rfl
  have H1 := Aside0.mk h1
  have H2 := Aside0.mk h2
  have H3 := Aside0.mk h3
  have H4 := Aside0.mk h4
  have HO := Aside0.mk (And.intro o1 (And.intro o2 o3))
  have HBS := Aside0.mk (And.intro b1 (And.intro b2 b3))
  have HG := Aside0.mk hG
  clear h1 h2 h3 h4 o1 o2 o3 b1 b2 b3 hG
  cases hp : s.plan with
  | none =>
    have e : doingF s = (0, s) := by unfold doingF; rw [hp]
    rw [hp] at h5
    obtain rfl : pp = none := h5
    have HE := Aside0.mk e
    clear e hp
    go_enter Try.func31, Try.ntmps31
    go_wp2_with fail
    go_ret
    exact ⟨by rw [HE.out] <;> rfl, by rw [HE.out]; exact DiskTo.same HD.out⟩
  | some q =>
    obtain ⟨l, b, c⟩ := q
    have H5 := Aside0.mk h5
    rw [hp] at h5
    obtain ⟨pb, rfl, hr, h6, h7, h8⟩ := h5
    have p0 := hr.cell (j := 0) (v := .int .i64 l) rfl
    have p1 := hr.cell (j := 1) (v := .int .u64 b) rfl
    have p2 := hr.cell (j := 2) (v := .int .i64 c) rfl
    by_cases hl : 0 < l
    · have e : doingF s = (0, { s with plan := some (l - 1, b, c) }) := by unfold doingF; rw [hp]; exact if_pos hl
      have HE := Aside0.mk e
      have d1 : decide (0 < l) = true := decide_eq_true hl
      have z0 := hr.free 0
      have hng : pb ≠ g := ne_kind hr H1.out (by decide)
      have hngs : pb ≠ gs := ne_kind hr H2.out (by decide)
      have hnm : pb ≠ m := ne_map hr H3.out
      have hfar : ∀ k, k ≠ pb → (w.setCell ⟨pb, 0, none⟩ (.int .i64 (l - 1))).heap[k]? = w.heap[k]? := fun k hk => Below.heap_setCell w ⟨pb, 0, none⟩ _ k hk
      have hs := to_set (W := w) (base := base) (ok := ok) (j := 0) (u := .int .i64 (l - 1)) h6 h7
      have HF := Aside0.mk (show DiskTo w (w.setCell ⟨pb, 0, none⟩ (.int .i64 (l - 1))) base ok g { s with plan := some (l - 1, b, c) } from
        DiskTo.trans hs.1 hs.2 (fun k hk => .inl hk) (DiskTo.same ⟨gs, m, vw, some ⟨pb, 0, none⟩, hr_move H1.out (hfar g hng.symm), hr_move H2.out (hfar gs hngs.symm), H3.out.move (hfar m hnm.symm), wr_move H4.out hr (by decide) hfar, ⟨pb, rfl, hr.set 0 _, h6, h7, by omega⟩, HO.out, HBS.out, HG.out⟩))
      clear e hp hng hngs hnm hfar hs hr
      go_enter Try.func31, Try.ntmps31
      go_wp2_with fail
      go_ret
      exact ⟨by rw [HE.out] <;> rfl, by rw [HE.out]; exact HF.out⟩
    · have e : doingF s = (30, goneS s b c) := by unfold doingF; rw [hp]; exact if_neg hl
      have HE := Aside0.mk e
      have d1 : decide (0 < l) = false := decide_eq_false hl
      have HWL := Aside0.mk hw
      have HBW := Aside0.mk hbw
      have HBD := Aside0.mk (show base ≤ w.drew.heap.size from hbw)
      have HDD := Aside0.mk (show DiskIs w.drew base ok g s from HD.out.below (below_drew (Below.refl _ _)))
      clear e hp hr hl hw hbw
      go_enter Try.func31, Try.ntmps31
      go_wp2_with fail
      refine start_ (n := 10) (S := fun w' => w'.cell? ⟨pb, 1, none⟩ = some (.int .u64 b) ∧ w'.cell? ⟨pb, 2, none⟩ = some (.int .i64 c)) (ds := [9]) #[false, false, false, false, false, false, false, false, false, false] (by kernel_rfl) rfl rfl ⟨p1, p2⟩ (fun hHeld => ?_)
      refine pure_ (i := 0) (N := some 22) (v := ?_) (a' := ?_) #[true, false, false, false, false, false, false, false, false, false] rfl rfl (by kernel_rfl) (fun _ _ _ h => h) (Or.inl ⟨by rfl, ?_⟩) ?_ ?_
      rotate_left
      · intro w'
        go_simp
        with_reducible rfl
      rotate_left
      · simp only [Act.put, List.setIfInBounds_toArray, List.set_cons_zero, List.set_cons_succ, i64_w, i32_w]
        rfl
      refine pure_ (i := 1) (N := some 23) (v := ?_) (a' := ?_) #[true, true, false, false, false, false, false, false, false, false] rfl rfl (by kernel_rfl) (fun _ _ _ h => h) (Or.inl ⟨by rfl, ?_⟩) ?_ ?_
      rotate_left
      · intro w'
        go_simp
        with_reducible rfl
      rotate_left
      · simp only [Act.put, List.setIfInBounds_toArray, List.set_cons_zero, List.set_cons_succ, i64_w, i32_w]
        rfl
      refine pure_ (i := 2) (N := some 24) (v := ?_) (a' := ?_) #[true, true, true, false, false, false, false, false, false, false] rfl rfl (by kernel_rfl) (fun _ _ _ h => h) (Or.inl ⟨by rfl, ?_⟩) ?_ ?_
      rotate_left
      · intro w'
        go_simp
        with_reducible rfl
      rotate_left
      · simp only [Act.put, List.setIfInBounds_toArray, List.set_cons_zero, List.set_cons_succ, i64_w, i32_w]
        rfl
      refine pure_ (i := 3) (N := some 25) (v := ?_) (a' := ?_) #[true, true, true, true, false, false, false, false, false, false] rfl rfl (by kernel_rfl) (fun _ _ _ h => h) (Or.inl ⟨by rfl, ?_⟩) ?_ ?_
      rotate_left
      · intro w'
        go_simp
        with_reducible rfl
      rotate_left
      · simp only [Act.put, List.setIfInBounds_toArray, List.set_cons_zero, List.set_cons_succ, i64_w, i32_w]
        rfl
      refine pure_ (i := 5) (N := some 27) (v := ?_) (a' := ?_) #[true, true, true, true, false, true, false, false, false, false] rfl rfl (by kernel_rfl) (fun _ _ _ h => h) (Or.inl ⟨by rfl, ?_⟩) ?_ ?_
      rotate_left
      · intro w'
        go_simp
        with_reducible rfl
      rotate_left
      · simp only [Act.put, List.setIfInBounds_toArray, List.set_cons_zero, List.set_cons_succ, i64_w, i32_w]
        rfl
      refine pure_ (i := 6) (N := some 28) (v := ?_) (a' := ?_) #[true, true, true, true, false, true, true, false, false, false] rfl rfl (by kernel_rfl) (fun _ _ _ h => h) (Or.inl ⟨by rfl, ?_⟩) ?_ ?_
      rotate_left
      · intro w'
        go_simp
        with_reducible rfl
      rotate_left
      · simp only [Act.put, List.setIfInBounds_toArray, List.set_cons_zero, List.set_cons_succ, i64_w, i32_w]
        rfl
      refine pure_ (i := 7) (N := some 29) (v := ?_) (a' := ?_) #[true, true, true, true, false, true, true, true, false, false] rfl rfl (by kernel_rfl) (fun _ _ _ h => h) (Or.inl ⟨by rfl, ?_⟩) ?_ ?_
      rotate_left
      · intro w'
        go_simp
        with_reducible rfl
      rotate_left
      · simp only [Act.put, List.setIfInBounds_toArray, List.set_cons_zero, List.set_cons_succ, i64_w, i32_w]
        rfl
      refine take_ (i := 4) (N := some 26) (v := ?_) (a' := ?_) #[true, true, true, true, true, true, true, true, false, false] rfl rfl (by kernel_rfl) (fun _ _ _ h => h) (Or.inl ⟨by rfl, ?_⟩) hHeld ?_ ?_
      rotate_left
      · rintro w' ⟨s0, s1⟩
        go_simp
        with_reducible rfl
      rotate_left
      · simp only [Act.put, List.setIfInBounds_toArray, List.set_cons_zero, List.set_cons_succ, i64_w, i32_w]
        rfl
      refine take_ (i := 8) (N := some 30) (v := ?_) (a' := ?_) #[true, true, true, true, true, true, true, true, true, false] rfl rfl (by kernel_rfl) (fun _ _ _ h => h) (Or.inl ⟨by rfl, ?_⟩) hHeld ?_ ?_
      rotate_left
      · rintro w' ⟨s0, s1⟩
        go_simp
        with_reducible rfl
      rotate_left
      · simp only [Act.put, List.setIfInBounds_toArray, List.set_cons_zero, List.set_cons_succ, i64_w, i32_w]
        rfl
      refine last_ (i := 9) (N := some 31) #[true, true, true, true, true, true, true, true, true, true] rfl rfl (by kernel_rfl) (by decide) (fun K hK => ?_)
      refine goes_ Try.func34 (by kernel_rfl) rfl #[.pointer (some ⟨g, 0, none⟩), .int .u64 b, .int .i64 c] (by rfl) rfl rfl (by simp only [List.map_toArray, List.map_cons, List.map_nil]; rfl) ?_
      with_reducible refine (gone_calls w.drew base ok g s HDD.out HBD.out HWL.out b c).mono ?_
      rintro e w3 ⟨rfl, hto⟩
      refine ⟨_, rfl, ?_⟩
      refine hK.out _ _ ?_
      clear hK K
      refine norm_ (a' := ?_) ?_ ?_
      rotate_left
      · show Act.put _ (some 31) _ = _
        simp only [Act.put, List.setIfInBounds_toArray, List.set_cons_zero, List.set_cons_succ, i64_w, i32_w]
        rfl
      refine done_ (by kernel_rfl) ?_
      
      go_wp2_with fail
      go_ret
      exact ⟨by rw [HE.out] <;> rfl, by rw [HE.out]; exact DiskTo.trans (below_drew (Below.refl _ _)) (Kept.refl _ _) (fun k hk => .inl hk) hto⟩
def crashF (s : DS) (bits cut : Int) : Int × DS := if s.dead = true then (30, s) else (0, goneS s bits cut)
set_option maxHeartbeats 4000000 in
set_option maxRecDepth 100000 in
theorem Crash_calls (w : World) (base : Nat) (ok : Nat → Prop) (g : Nat) (s : DS) (h : DiskIs w base ok g s) (hbw : base ≤ w.heap.size) (hw : s.waits.length ≤ 1000000) (bits cut : Int) :
    Calls Try.prog 15 #[.pointer (some ⟨g, 0, none⟩), .int .u64 bits, .int .i64 cut] w fun e w' => e = .returned (.int .i64 (crashF s bits cut).1) ∧ DiskTo w w' base ok g (crashF s bits cut).2 := by
  have HD := Aside0.mk h
  have HWL := Aside0.mk hw
  have HBW := Aside0.mk hbw
  clear h hw hbw
  by_cases hd : s.dead = true
  · have hm : mayE s = 30 := by unfold mayE; rw [if_pos hd]
    have HM := Aside0.mk hm
    have HE := Aside0.mk (show crashF s bits cut = (30, s) from if_pos hd)
    clear hm hd
    go_enter Try.func15, Try.ntmps15
    go_wp2_with fail
    refine (may_calls w base ok g s HD.out).mono ?_
    rintro e w1 ⟨rfl, rfl⟩
    rw [HM.out]
    go_wp2_with fail
    go_ret
    exact ⟨by rw [HE.out] <;> rfl, by rw [HE.out]; exact DiskTo.same HD.out⟩
  · have hm : mayE s = 0 := by unfold mayE; rw [if_neg hd]
    have HM := Aside0.mk hm
    have HE := Aside0.mk (show crashF s bits cut = (0, goneS s bits cut) from if_neg hd)
    clear hm hd
    go_enter Try.func15, Try.ntmps15
    go_wp2_with fail
    refine (may_calls w base ok g s HD.out).mono ?_
    rintro e w1 ⟨rfl, rfl⟩
    rw [HM.out]
    go_wp2_with fail
    refine (gone_calls w base ok g s HD.out HBW.out HWL.out bits cut).mono ?_
    rintro e w1 ⟨rfl, hto⟩
    have HTO := Aside0.mk hto
    clear hto
    go_wp2_with fail
    go_ret
    exact ⟨by rw [HE.out] <;> rfl, by rw [HE.out]; exact HTO.out⟩
def flushF (s : DS) : Int × DS := if s.dead = true then (30, s) else if (doingF s).1 = 0 then (0, { (doingF s).2 with stays := lay (doingF s).2.stays (doingF s).2.waits, waits := [] }) else doingF s
theorem doing_waits (s : DS) (h : (doingF s).1 = 0) : (doingF s).2.waits = s.waits ∧ (doingF s).2.n = s.n ∧ (doingF s).2.stays = s.stays ∧ (doingF s).2.dead = s.dead := by
  unfold doingF at h ⊢
  split
  · exact ⟨rfl, rfl, rfl, rfl⟩
  · split
    · exact ⟨rfl, rfl, rfl, rfl⟩
    · rename_i hl
      rename_i l b c hp
      rw [hp] at h
      simp only [if_neg hl] at h
      exact absurd h (by decide)
theorem doing_cases (s : DS) : (doingF s).1 = 0 ∨ (doingF s).1 = 30 := by
  unfold doingF
  split
  · exact .inl rfl
  · split
    · exact .inl rfl
    · exact .inr rfl
set_option maxHeartbeats 4000000 in
set_option maxRecDepth 100000 in
theorem Flush_calls (w : World) (base : Nat) (ok : Nat → Prop) (g : Nat) (s : DS) (h : DiskIs w base ok g s) (hbw : base ≤ w.heap.size) (hw : s.waits.length ≤ 1000000) :
    Calls Try.prog 13 #[.pointer (some ⟨g, 0, none⟩)] w fun e w' => e = .returned (.int .i64 (flushF s).1) ∧ DiskTo w w' base ok g (flushF s).2 := by
  have HD := Aside0.mk h
  have HWL := Aside0.mk hw
  have HBW := Aside0.mk hbw
  clear h hw hbw
  by_cases hd : s.dead = true
  · have hm : mayE s = 30 := by unfold mayE; rw [if_pos hd]
    have HM := Aside0.mk hm
    have HE := Aside0.mk (show flushF s = (30, s) from if_pos hd)
    clear hm hd
    go_enter Try.func13, Try.ntmps13
    go_wp2_with fail
    refine (may_calls w base ok g s HD.out).mono ?_
    rintro e w1 ⟨rfl, rfl⟩
    rw [HM.out]
    go_wp2_with fail
    go_ret
    exact ⟨by rw [HE.out] <;> rfl, by rw [HE.out]; exact DiskTo.same HD.out⟩
  · have hm : mayE s = 0 := by unfold mayE; rw [if_neg hd]
    have HM := Aside0.mk hm
    rcases doing_cases s with h0 | h30
    · have HE := Aside0.mk (show flushF s = (0, { (doingF s).2 with stays := lay (doingF s).2.stays (doingF s).2.waits, waits := [] }) by unfold flushF; rw [if_neg hd, if_pos h0])
      have H0 := Aside0.mk h0
      clear hm hd h0
      go_enter Try.func13, Try.ntmps13
      go_wp2_with fail
      refine (may_calls w base ok g s HD.out).mono ?_
      rintro e w1 ⟨rfl, rfl⟩
      rw [HM.out]
      go_wp2_with fail
      refine (doing_calls w base ok g s HD.out HBW.out HWL.out).mono ?_
      rintro e w1 ⟨rfl, hto⟩
      rw [H0.out]
      obtain ⟨t1, t2, ok1, t3, t4⟩ := hto
      have HT := Aside0.mk t4
      have HT1 := Aside0.mk (And.intro t1 (And.intro t2 t3))
      obtain ⟨gs, m, vw, pp, h1, h2, h3, h4, h5, -, -, hG⟩ := t4
      have k2 := h1.cell (j := 2) (v := vw) rfl
      have H4 := Aside0.mk h4
      have HF := Aside0.mk (show Fits (doingF s).2.n (doingF s).2.waits from hG.2.2.2)
      clear t1 t2 t3 h1 h2 h3 h4 h5 hG
      go_wp2_with fail
      refine (settle_calls w1 base ok1 ok1 g _ HT.out (Nat.le_trans HBW.out HT1.out.1.size) vw _ H4.out HF.out).mono ?_
      rintro e w2 ⟨rfl, hto⟩
      have HTO := Aside0.mk hto
      clear hto k2
      go_wp2_with fail
      go_ret
      exact ⟨by rw [HE.out] <;> rfl, by rw [HE.out]; exact DiskTo.trans HT1.out.1 HT1.out.2.1 (fun k hk => (HT1.out.2.2 k hk).1) HTO.out⟩
    · have HE := Aside0.mk (show flushF s = doingF s by unfold flushF; rw [if_neg hd, if_neg (by rw [h30]; decide)])
      have H30 := Aside0.mk h30
      clear hm hd h30
      go_enter Try.func13, Try.ntmps13
      go_wp2_with fail
      refine (may_calls w base ok g s HD.out).mono ?_
      rintro e w1 ⟨rfl, rfl⟩
      rw [HM.out]
      go_wp2_with fail
      refine (doing_calls w base ok g s HD.out HBW.out HWL.out).mono ?_
      rintro e w1 ⟨rfl, hto⟩
      rw [H30.out]
      have HTO := Aside0.mk hto
      clear hto
      go_wp2_with fail
      go_ret
      exact ⟨by rw [HE.out, H30.out] <;> rfl, by rw [HE.out]; exact HTO.out⟩
end Go.Proofs.Ytkmgbmnjabmhaaa.Ext
