/- fails, Crash, New of the document's disk, walked. Condition: a million writes wait at most. -/
import Derived.Test.YtkmgbmnjabmhaaaRefGone
namespace Go.Proofs.Ytkmgbmnjabmhaaa.Ext
open Go Go.RowKit Go.Proofs.YtkmgbmnjabmhaaaW.PrintWords Go.Proofs.YtkmgbmnjabmhaaaW.PrintLast Go.Proofs.YtkmgbmnjabmhaaaW.PrintMore Go.Proofs.Ytkmgbmnjabmhaaa.Base Go.Proofs.Ytkmgbmnjabmhaaa.Arr
set_option linter.unusedVariables false
set_option linter.unusedSimpArgs false

def failsB (s : DS) : Bool := decide ((doingF s).1 ≠ 0)
set_option maxHeartbeats 4000000 in
set_option maxRecDepth 100000 in
theorem Rfails_calls (w : World) (base : Nat) (ok : Nat → Prop) (g : Nat) (s : DS) (h : RefIs w base ok g s) (hbw : base ≤ w.heap.size) (hw : s.waits.length ≤ 1000000) :
    Calls Try.prog 45 #[.pointer (some ⟨g, 0, none⟩)] w fun e w' => e = .returned (.bool (failsB s)) ∧ RefTo w w' base ok g (doingF s).2 := by
  have HR := Aside0.mk h
  obtain ⟨gs, vw, fl, l, b, c, h1, h2, h4, ⟨h5, h6⟩, o, hb, hG⟩ := h
  have k3 := h1.cell (j := 3) (v := .bool fl) rfl
  have k4 := h1.cell (j := 4) (v := .int .i64 l) rfl
  have k5 := h1.cell (j := 5) (v := .int .u64 b) rfl
  have k6 := h1.cell (j := 6) (v := .int .i64 c) rfl
  cases fl with
  | false =>
    have hp : s.plan = none := h5
    have e : doingF s = (0, s) := by unfold doingF; rw [hp]
    have HE := Aside0.mk e
    have HF := Aside0.mk (show failsB s = false by unfold failsB; rw [e]; rfl)
    clear h1 h2 h4 h5 o hb hG hp e
    go_enter Try.func45, Try.ntmps45
    go_wp2_with fail
    go_ret
    exact ⟨by rw [HF.out] <;> rfl, by rw [HE.out]; exact RefTo.same HR.out⟩
  | true =>
    have hp : s.plan = some (l, b, c) := h5
    by_cases hl : 0 < l
    · have e : doingF s = (0, { s with plan := some (l - 1, b, c) }) := by unfold doingF; rw [hp]; exact if_pos hl
      have HE := Aside0.mk e
      have HF := Aside0.mk (show failsB s = false by unfold failsB; rw [e]; rfl)
      have d1 : decide (0 < l) = true := decide_eq_true hl
      have z4 := h1.free 4
      have HT := Aside0.mk (show RefTo w (w.setCell ⟨g, 4, none⟩ (.int .i64 (l - 1))) base ok g { s with plan := some (l - 1, b, c) } from
        ref_struct (dead' := s.dead) (fl' := true) (l' := l - 1) (b' := b) (c' := c) h1 h2 h4 o hb hG ⟨rfl, rfl, rfl, rfl⟩ ⟨rfl, by omega⟩ (fun k hk => Below.heap_setCell w ⟨g, 4, none⟩ _ k hk) (by simp [World.setCell]) ((Below.refl base w).setCell (show base ≤ (⟨g, 4, none⟩ : Addr).block from hb.1) _) (h1.set 4 (.int .i64 (l - 1))))
      clear h1 h2 h4 h5 o hb hG hp e
      go_enter Try.func45, Try.ntmps45
      go_wp2_with fail
      go_ret
      exact ⟨by rw [HF.out] <;> rfl, by rw [HE.out]; exact HT.out⟩
    · have e : doingF s = (30, goneS s b c) := by unfold doingF; rw [hp]; exact if_neg hl
      have HE := Aside0.mk e
      have HF := Aside0.mk (show failsB s = true by unfold failsB; rw [e]; rfl)
      have d1 : decide (0 < l) = false := decide_eq_false hl
      have HBD := Aside0.mk (show base ≤ w.drew.heap.size from hbw)
      have HRD := Aside0.mk (show RefIs w.drew base ok g s from HR.out.below (below_drew (Below.refl _ _)))
      have HW := Aside0.mk hw
      clear h1 h2 h4 h5 o hb hG hp e hl hw hbw
      go_enter Try.func45, Try.ntmps45
      go_wp2_with fail
      refine start_ (n := 10) (S := fun w' => w'.cell? ⟨g, 5, none⟩ = some (.int .u64 b) ∧ w'.cell? ⟨g, 6, none⟩ = some (.int .i64 c)) (ds := [9]) #[false, false, false, false, false, false, false, false, false, false] (by kernel_rfl) rfl rfl ⟨k5, k6⟩ (fun hHeld => ?_)
      refine pure_ (i := 0) (N := some 21) (v := ?_) (a' := ?_) #[true, false, false, false, false, false, false, false, false, false] rfl rfl (by kernel_rfl) (fun _ _ _ h => h) (Or.inl ⟨by rfl, ?_⟩) ?_ ?_
      rotate_left
      · intro w'
        go_simp
        with_reducible rfl
      rotate_left
      · simp only [Act.put, List.setIfInBounds_toArray, List.set_cons_zero, List.set_cons_succ, i64_w, i32_w]
        rfl
      refine pure_ (i := 1) (N := some 22) (v := ?_) (a' := ?_) #[true, true, false, false, false, false, false, false, false, false] rfl rfl (by kernel_rfl) (fun _ _ _ h => h) (Or.inl ⟨by rfl, ?_⟩) ?_ ?_
      rotate_left
      · intro w'
        go_simp
        with_reducible rfl
      rotate_left
      · simp only [Act.put, List.setIfInBounds_toArray, List.set_cons_zero, List.set_cons_succ, i64_w, i32_w]
        rfl
      refine pure_ (i := 2) (N := some 23) (v := ?_) (a' := ?_) #[true, true, true, false, false, false, false, false, false, false] rfl rfl (by kernel_rfl) (fun _ _ _ h => h) (Or.inl ⟨by rfl, ?_⟩) ?_ ?_
      rotate_left
      · intro w'
        go_simp
        with_reducible rfl
      rotate_left
      · simp only [Act.put, List.setIfInBounds_toArray, List.set_cons_zero, List.set_cons_succ, i64_w, i32_w]
        rfl
      refine pure_ (i := 3) (N := some 24) (v := ?_) (a' := ?_) #[true, true, true, true, false, false, false, false, false, false] rfl rfl (by kernel_rfl) (fun _ _ _ h => h) (Or.inl ⟨by rfl, ?_⟩) ?_ ?_
      rotate_left
      · intro w'
        go_simp
        with_reducible rfl
      rotate_left
      · simp only [Act.put, List.setIfInBounds_toArray, List.set_cons_zero, List.set_cons_succ, i64_w, i32_w]
        rfl
      refine pure_ (i := 5) (N := some 26) (v := ?_) (a' := ?_) #[true, true, true, true, false, true, false, false, false, false] rfl rfl (by kernel_rfl) (fun _ _ _ h => h) (Or.inl ⟨by rfl, ?_⟩) ?_ ?_
      rotate_left
      · intro w'
        go_simp
        with_reducible rfl
      rotate_left
      · simp only [Act.put, List.setIfInBounds_toArray, List.set_cons_zero, List.set_cons_succ, i64_w, i32_w]
        rfl
      refine pure_ (i := 6) (N := some 27) (v := ?_) (a' := ?_) #[true, true, true, true, false, true, true, false, false, false] rfl rfl (by kernel_rfl) (fun _ _ _ h => h) (Or.inl ⟨by rfl, ?_⟩) ?_ ?_
      rotate_left
      · intro w'
        go_simp
        with_reducible rfl
      rotate_left
      · simp only [Act.put, List.setIfInBounds_toArray, List.set_cons_zero, List.set_cons_succ, i64_w, i32_w]
        rfl
      refine pure_ (i := 7) (N := some 28) (v := ?_) (a' := ?_) #[true, true, true, true, false, true, true, true, false, false] rfl rfl (by kernel_rfl) (fun _ _ _ h => h) (Or.inl ⟨by rfl, ?_⟩) ?_ ?_
      rotate_left
      · intro w'
        go_simp
        with_reducible rfl
      rotate_left
      · simp only [Act.put, List.setIfInBounds_toArray, List.set_cons_zero, List.set_cons_succ, i64_w, i32_w]
        rfl
      refine take_ (i := 4) (N := some 25) (v := ?_) (a' := ?_) #[true, true, true, true, true, true, true, true, false, false] rfl rfl (by kernel_rfl) (fun _ _ _ h => h) (Or.inl ⟨by rfl, ?_⟩) hHeld ?_ ?_
      rotate_left
      · rintro w' ⟨s0, s1⟩
        go_simp
        with_reducible rfl
      rotate_left
      · simp only [Act.put, List.setIfInBounds_toArray, List.set_cons_zero, List.set_cons_succ, i64_w, i32_w]
        rfl
      refine take_ (i := 8) (N := some 29) (v := ?_) (a' := ?_) #[true, true, true, true, true, true, true, true, true, false] rfl rfl (by kernel_rfl) (fun _ _ _ h => h) (Or.inl ⟨by rfl, ?_⟩) hHeld ?_ ?_
      rotate_left
      · rintro w' ⟨s0, s1⟩
        go_simp
        with_reducible rfl
      rotate_left
      · simp only [Act.put, List.setIfInBounds_toArray, List.set_cons_zero, List.set_cons_succ, i64_w, i32_w]
        rfl
      refine last_ (i := 9) (N := some 30) #[true, true, true, true, true, true, true, true, true, true] rfl rfl (by kernel_rfl) (by decide) (fun K hK => ?_)
      refine goes_ Try.func46 (by kernel_rfl) rfl #[.pointer (some ⟨g, 0, none⟩), .int .u64 b, .int .i64 c] (by rfl) rfl rfl (by simp only [List.map_toArray, List.map_cons, List.map_nil]; rfl) ?_
      with_reducible refine (Rgone_calls w.drew base ok g s HRD.out HBD.out HW.out b c).mono ?_
      rintro e w3 ⟨rfl, hto⟩
      refine ⟨_, rfl, ?_⟩
      refine hK.out _ _ ?_
      clear hK K
      refine norm_ (a' := ?_) ?_ ?_
      rotate_left
      · show Act.put _ (some 30) _ = _
        simp only [Act.put, List.setIfInBounds_toArray, List.set_cons_zero, List.set_cons_succ, i64_w, i32_w]
        rfl
      refine done_ (by kernel_rfl) ?_
      
      go_wp2_with fail
      go_ret
      exact ⟨by rw [HF.out] <;> rfl, by rw [HE.out]; exact RefTo.trans (below_drew (Below.refl _ _)) (Kept.refl _ _) (fun k hk => .inl hk) hto⟩
set_option maxHeartbeats 4000000 in
set_option maxRecDepth 100000 in
theorem RCrash_calls (w : World) (base : Nat) (ok : Nat → Prop) (g : Nat) (s : DS) (h : RefIs w base ok g s) (hbw : base ≤ w.heap.size) (hw : s.waits.length ≤ 1000000) (bits cut : Int) :
    Calls Try.prog 39 #[.pointer (some ⟨g, 0, none⟩), .int .u64 bits, .int .i64 cut] w fun e w' => e = .returned (.int .i64 (crashF s bits cut).1) ∧ RefTo w w' base ok g (crashF s bits cut).2 := by
  have HR := Aside0.mk h
  obtain ⟨gs, vw, fl, l, b, c, h1, h2, h4, h5, o, hb, hG⟩ := h
  have k2 := h1.cell (j := 2) (v := .bool s.dead) rfl
  have HW := Aside0.mk hw
  have HBW := Aside0.mk hbw
  clear h1 h2 h4 h5 o hb hG hw hbw
  cases hd : s.dead with
  | true =>
    have HE := Aside0.mk (show crashF s bits cut = (30, s) from if_pos hd)
    rw [hd] at k2
    clear hd
    go_enter Try.func39, Try.ntmps39
    go_wp2_with fail
    go_ret
    exact ⟨by rw [HE.out] <;> rfl, by rw [HE.out]; exact RefTo.same HR.out⟩
  | false =>
    have HE := Aside0.mk (show crashF s bits cut = (0, goneS s bits cut) from crash_alive hd bits cut)
    rw [hd] at k2
    clear hd
    go_enter Try.func39, Try.ntmps39
    go_wp2_with fail
    ((with_reducible refine (Rgone_calls w base ok g s HR.out HBW.out HW.out bits cut).mono ?_))
    rintro e w1 ⟨rfl, hto⟩
    have HTO := Aside0.mk hto
    clear hto k2
    go_wp2_with fail
    go_ret
    exact ⟨by rw [HE.out] <;> rfl, by rw [HE.out]; exact HTO.out⟩
theorem zero_ref (W : World) : (zeroValue 67).run Try.prog W = .ok (.agg (rowK .u8 z64)) W := by kernel_rfl
theorem made_ref (W : World) (m : Nat) (hm : m ≤ 512) : (Instr.makeSlice 77 (.int .i64 (m : Int)) (.int .i64 (m : Int))).run Try.prog W = .ok (.slice (some ⟨W.heap.size, 0, none⟩) m m) (W.alloc (.cells (rowK .u8 (List.replicate (m * 64) 0)) 67)) := by
  have hinfo : (Try.prog.info? 67).map (fun i => (i.zero, i.size, i.bytes)) = some (some (.agg (rowK .u8 z64)), 64, 64) := by kernel_rfl
  obtain ⟨i0, hi, hzz⟩ := Option.map_eq_some_iff.1 hinfo
  simp only [Prod.mk.injEq] at hzz
  obtain ⟨hz0, hz1, hz2⟩ := hzz
  have hr := run_make (P := Try.prog) W 77 67 i0 _ Try.underlying77 hi hz0 .i64 .i64 (m : Int) (m : Int) (by omega) (by omega) (by rw [hz2]; omega) (by omega)
  simp only [Int.toNat_natCast] at hr
  rw [hz1] at hr
  rw [hr]
  show Result.ok _ (W.alloc (.cells (madeCells (rowK .u8 z64) (m * 64)) _)) = _
  rw [made_sec]
def RNewPost (n : Int) (w : World) (e : Ending) (w' : World) : Prop :=
  if n < 1 ∨ 512 < n then e = .returned (.tuple #[.pointer none, .int .i64 9]) ∧ w = w' else ∃ g, e = .returned (.tuple #[.pointer (some ⟨g, 0, none⟩), .int .i64 0]) ∧ Below w.heap.size w w' ∧ RefIs w' w.heap.size (fun k => w.heap.size ≤ k ∧ k < w'.heap.size) g (newS n.toNat)
theorem rnew_world (w : World) (m : Nat) (h : ¬ ((m : Int) < 1 ∨ 512 < (m : Int))) : RNewPost (m : Int) w (.returned (.tuple #[.pointer (some ⟨w.heap.size + 1, 0, none⟩), .int .i64 0])) ((w.alloc (.cells (rowK .u8 (List.replicate (m * 64) 0)) 67)).alloc (.cells #[.slice (some ⟨w.heap.size, 0, none⟩) m m, .slice none 0 0, .bool false, .bool false, .int .i64 0, .int .u64 0, .int .i64 0] 80)) := by
  unfold RNewPost
  rw [if_neg h]
  refine ⟨w.heap.size + 1, rfl, below_alloc (below_alloc (Below.refl _ _) _) _, w.heap.size, .slice none 0 0, false, 0, 0, 0, ?_, (HoldsRow.new w _ _).alloc _, Kd.R_nil _ _ _ _ _, ⟨rfl, by omega⟩, ⟨⟨by omega, by simp⟩, ⟨by omega, by simp; omega⟩⟩, ⟨by omega, by omega⟩, by show 1 ≤ (m : Int).toNat; omega, by show (m : Int).toNat ≤ 512; omega, ?_, fun p hp => by simp [newS] at hp⟩
  · have := HoldsRow.new (w.alloc (.cells (rowK .u8 (List.replicate (m * 64) 0)) 67)) 80 #[.slice (some ⟨w.heap.size, 0, none⟩) m m, .slice none 0 0, .bool false, .bool false, .int .i64 0, .int .u64 0, .int .i64 0]
    rw [World.size_alloc] at this
    exact this
  · show (List.replicate ((m : Int).toNat * 64) (0 : Int)).length = (m : Int).toNat * 64
    rw [List.length_replicate]
set_option maxHeartbeats 4000000 in
set_option maxRecDepth 100000 in
theorem RNew_calls (w : World) (n : Int) : Calls Try.prog 23 #[.int .i64 n] w (RNewPost n w) := by
  by_cases h : n < 1 ∨ 512 < n
  · have HP := Aside0.mk (show RNewPost n w = fun e w' => e = .returned (.tuple #[.pointer none, .int .i64 9]) ∧ w = w' by funext e w'; exact if_pos h)
    rw [HP.out]
    by_cases h1 : n < 1
    · have d1 : decide (n < 1) = true := decide_eq_true h1
      clear h h1 HP
      go_enter Try.func23, Try.ntmps23
      go_wp2_with fail
      go_ret2
      exact ⟨rfl, rfl⟩
    · have d1 : decide (n < 1) = false := decide_eq_false h1
      have d2 : decide (512 < n) = true := decide_eq_true (by omega)
      clear h h1 HP
      go_enter Try.func23, Try.ntmps23
      go_wp2_with fail
      go_ret2
      exact ⟨rfl, rfl⟩
  · have HP := Aside0.mk h
    have d1 : decide (n < 1) = false := decide_eq_false (by omega)
    have d2 : decide (512 < n) = false := decide_eq_false (by omega)
    obtain ⟨m, rfl⟩ := Int.eq_ofNat_of_zero_le (show 0 ≤ n by omega)
    have hmk := fun W => made_ref W m (by omega)
    clear h
    go_enter Try.func23, Try.ntmps23
    go_wp2_with fail
    go_ret2
    exact rnew_world w m HP.out
end Go.Proofs.Ytkmgbmnjabmhaaa.Ext
