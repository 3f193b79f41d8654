import Derived.Test.YthnjkmjcacoajaaKJournalKeeps27
import Derived.Test.YthnjkmjcacoajaaKJournalKeeps28
import Derived.Test.YthnjkmjcacoajaaKJournalKeeps31
import Derived.BigQuiet
import Derived.Defers
import Derived.Lib.SlBytesConst
import Derived.Test.YthnjkmjcacoajaaKJournalKeeps25
section
/- A journal in memory; its small reading methods, walked. No condition. -/
namespace Go.Proofs.Ythnjkmjcacoajaa.Jn
open Go Go.RowKit Go.Proofs.YthnjkmjcacoajaaW.PrintWords Go.Proofs.YthnjkmjcacoajaaW.PrintLast Go.Proofs.YthnjkmjcacoajaaW.PrintMore Go.Proofs.Ythnjkmjcacoajaa.Base Go.Proofs.Ythnjkmjcacoajaa.Arr
open Go.Proofs.Ythnjkmjcacoajaa.Dk (DS DiskIs DiskTo)
set_option linter.unusedVariables false
set_option linter.unusedSimpArgs false

/-- what a journal has, but its disk -/
structure JS where
  gen : Int
  epoch : Int
  used : Int
  synced : Int
  count : Int
  waits : List Int
  broken : Bool
def jcells (g : Nat) (s : JS) (vw : Value) : Array Value := #[.pointer (some ⟨g, 0, none⟩), .int .i64 s.gen, .int .i64 s.epoch, .int .i64 s.used, .int .i64 s.synced, .int .i64 s.count, vw, .bool s.broken]
def JIs (W : World) (H : Nat) (ok : Nat → Prop) (gj g : Nat) (s : JS) : Prop :=
  ∃ vw, HoldsRow W gj 64 (jcells g s vw) ∧ Kd.R (Kd.int .u8) 5 W H ok vw s.waits ∧ ok gj ∧ H ≤ gj
theorem jcell {W : World} {gj g : Nat} {s : JS} {vw : Value} (h : HoldsRow W gj 64 (jcells g s vw)) :
    W.cell? ⟨gj, 0, none⟩ = some (.pointer (some ⟨g, 0, none⟩)) ∧ W.cell? ⟨gj, 1, none⟩ = some (.int .i64 s.gen) ∧ W.cell? ⟨gj, 2, none⟩ = some (.int .i64 s.epoch) ∧ W.cell? ⟨gj, 3, none⟩ = some (.int .i64 s.used) ∧ W.cell? ⟨gj, 4, none⟩ = some (.int .i64 s.synced) ∧ W.cell? ⟨gj, 5, none⟩ = some (.int .i64 s.count) ∧ W.cell? ⟨gj, 6, none⟩ = some vw ∧ W.cell? ⟨gj, 7, none⟩ = some (.bool s.broken) :=
  ⟨h.cell rfl, h.cell rfl, h.cell rfl, h.cell rfl, h.cell rfl, h.cell rfl, h.cell rfl, h.cell rfl⟩
/-- how many sectors an area has -/
def secN (n : Nat) : Int := ((n - 2) / 2 : Nat)
def firstN (n : Nat) (gen : Int) : Int := 2 + (gen % 2) * secN n
set_option maxHeartbeats 2000000 in
set_option maxRecDepth 100000 in
theorem Size_calls (w : World) (base : Nat) (ok : Nat → Prop) (g : Nat) (s : DS) (h : DiskIs w base ok g s) :
    Calls Try.prog 15 #[.pointer (some ⟨g, 0, none⟩)] w fun e w' => e = .returned (.int .i64 (s.n : Int)) ∧ w = w' := by
  have HD := Aside0.mk h
  obtain ⟨gs, m, vw, pp, h1, h2, h3, h4, -, -, -, -⟩ := h
  obtain ⟨k0, -, -, -, -⟩ := Dk.dcell h1
  have hc : (Dk.mayE s == 1) = false := by unfold Dk.mayE; split <;> rfl
  have hc2 : decide (Dk.mayE s = 1) = false := by unfold Dk.mayE; split <;> rfl
  have HC := Aside0.mk hc
  clear h1 h2 h3 h4
  go_enter Try.func15, Try.ntmps15
  go_wp2_with fail
  refine (Dk.may_calls w base ok g s HD.out).mono ?_
  rintro e w1 ⟨rfl, rfl⟩
  generalize Dk.mayE s = q at *
  clear HC
  go_wp2_with fail
  go_ret
  exact ⟨rfl, rfl⟩
theorem DiskIs.n_le {w : World} {base : Nat} {ok : Nat → Prop} {g : Nat} {s : DS} (h : DiskIs w base ok g s) : 1 ≤ s.n ∧ s.n ≤ 512 := by
  obtain ⟨_, _, _, _, _, _, _, _, _, _, _, hG⟩ := h
  exact ⟨hG.1, hG.2.1⟩
set_option maxHeartbeats 2000000 in
set_option maxRecDepth 100000 in
theorem sectors_calls (w : World) (H : Nat) (ok okj : Nat → Prop) (g gj : Nat) (d : DS) (s : JS) (h : DiskIs w H ok g d) (hj : JIs w H okj gj g s) :
    Calls Try.prog 27 #[.pointer (some ⟨gj, 0, none⟩)] w fun e w' => e = .returned (.int .i64 (secN d.n)) ∧ w = w' := by
  obtain ⟨vw, h1, -, -, -⟩ := hj
  obtain ⟨k0, -⟩ := jcell h1
  obtain ⟨n1, n2⟩ := DiskIs.n_le h
  have HD := Aside0.mk h
  clear h1 h
  have e1 : wrap64 ((d.n : Int) - 2) = (d.n : Int) - 2 := by unfold wrap64; omega
  have e2 : Int.tdiv ((d.n : Int) - 2) 2 = secN d.n := by
    unfold secN
    by_cases h2 : 2 ≤ d.n
    · rw [show (d.n : Int) - 2 = ((d.n - 2 : Nat) : Int) by omega]
      norm_cast
    · obtain h3 : d.n = 1 := by omega
      rw [h3]
      decide
  have e3 : wrap64 (secN d.n) = secN d.n := by unfold secN wrap64; omega
  go_enter Try.func27, Try.ntmps27
  go_wp2_with fail
  refine (Size_calls w H ok g d HD.out).mono ?_
  rintro e w1 ⟨rfl, rfl⟩
  clear n1 n2
  obtain ⟨q, hq⟩ : ∃ q, q = secN d.n := ⟨_, rfl⟩
  have HQ := Aside0.mk hq
  rw [← hq] at e2 e3
  clear hq
  go_wp2_with fail
  go_ret
  exact ⟨by rw [← HQ.out]; first | rfl | (simp [e1, e2, e3]), rfl⟩
set_option maxHeartbeats 2000000 in
set_option maxRecDepth 100000 in
theorem first_calls (w : World) (H : Nat) (ok okj : Nat → Prop) (g gj : Nat) (d : DS) (s : JS) (h : DiskIs w H ok g d) (hj : JIs w H okj gj g s) (gen : Int) (hg : 0 ≤ gen) :
    Calls Try.prog 31 #[.pointer (some ⟨gj, 0, none⟩), .int .i64 gen] w fun e w' => e = .returned (.int .i64 (firstN d.n gen)) ∧ w = w' := by
  obtain ⟨n1, n2⟩ := DiskIs.n_le h
  have HD := Aside0.mk h
  have HJ := Aside0.mk hj
  clear h hj
  have e1 : Int.tmod gen 2 = gen % 2 := Int.tmod_eq_emod_of_nonneg hg
  have hs : 0 ≤ secN d.n ∧ secN d.n ≤ 255 := by unfold secN; omega
  have hm : gen % 2 = 0 ∨ gen % 2 = 1 := by omega
  have e2 : wrap64 (gen % 2 * secN d.n) = gen % 2 * secN d.n := by rcases hm with h | h <;> rw [h] <;> unfold wrap64 <;> omega
  have e3 : wrap64 (2 + gen % 2 * secN d.n) = 2 + gen % 2 * secN d.n := by rcases hm with h | h <;> rw [h] <;> unfold wrap64 <;> omega
  have e4 : wrap64 (gen % 2) = gen % 2 := by unfold wrap64; omega
  go_enter Try.func31, Try.ntmps31
  go_wp2_with fail
  refine (sectors_calls w H ok okj g gj d s HD.out HJ.out).mono ?_
  rintro e w1 ⟨rfl, rfl⟩
  obtain ⟨q, hq⟩ : ∃ q, q = secN d.n := ⟨_, rfl⟩
  have HQ := Aside0.mk (show firstN d.n gen = 2 + gen % 2 * q by unfold firstN; rw [hq])
  rw [← hq] at e2 e3 ⊢
  clear hq
  go_wp2_with fail
  go_ret
  exact ⟨by rw [HQ.out]; first | rfl | (simp [e1, e2, e3, e4]), rfl⟩
def jmayE (s : JS) : Int := if s.broken = true then 30 else 0
set_option maxHeartbeats 2000000 in
set_option maxRecDepth 100000 in
theorem jmay_calls (w : World) (H : Nat) (okj : Nat → Prop) (g gj : Nat) (s : JS) (hj : JIs w H okj gj g s) :
    Calls Try.prog 26 #[.pointer (some ⟨gj, 0, none⟩)] w fun e w' => e = .returned (.int .i64 (jmayE s)) ∧ w = w' := by
  obtain ⟨vw, h1, -, -, -⟩ := hj
  obtain ⟨k0, k1, k2, k3, k4, k5, k6, k7⟩ := jcell h1
  clear h1 k1 k2 k3 k4 k5 k6
  unfold jmayE
  generalize s.broken = dd at *
  cases dd
  all_goals
    go_enter Try.func26, Try.ntmps26
    go_wp2_with fail
    go_ret
    exact ⟨rfl, rfl⟩
theorem jmayE_ne (s : JS) : (jmayE s == 1) = false ∧ decide (jmayE s = 1) = false := by
  unfold jmayE
  split <;> exact ⟨rfl, rfl⟩
set_option maxHeartbeats 2000000 in
set_option maxRecDepth 100000 in
theorem Len_calls (w : World) (H : Nat) (okj : Nat → Prop) (g gj : Nat) (s : JS) (hj : JIs w H okj gj g s) :
    Calls Try.prog 12 #[.pointer (some ⟨gj, 0, none⟩)] w fun e w' => e = .returned (.int .i64 s.count) ∧ w = w' := by
  have HJ := Aside0.mk hj
  obtain ⟨vw, h1, -, -, -⟩ := hj
  obtain ⟨k0, k1, k2, k3, k4, k5, k6, k7⟩ := jcell h1
  obtain ⟨m1, m2⟩ := jmayE_ne s
  clear h1 k0 k1 k2 k3 k4 k6 k7
  go_enter Try.func12, Try.ntmps12
  go_wp2_with fail
  refine (jmay_calls w H okj g gj s HJ.out).mono ?_
  rintro e w1 ⟨rfl, rfl⟩
  generalize jmayE s = q at *
  go_wp2_with fail
  go_ret
  exact ⟨rfl, rfl⟩
set_option maxHeartbeats 2000000 in
set_option maxRecDepth 100000 in
theorem Synced_calls (w : World) (H : Nat) (okj : Nat → Prop) (g gj : Nat) (s : JS) (hj : JIs w H okj gj g s) :
    Calls Try.prog 13 #[.pointer (some ⟨gj, 0, none⟩)] w fun e w' => e = .returned (.int .i64 s.synced) ∧ w = w' := by
  have HJ := Aside0.mk hj
  obtain ⟨vw, h1, -, -, -⟩ := hj
  obtain ⟨k0, k1, k2, k3, k4, k5, k6, k7⟩ := jcell h1
  obtain ⟨m1, m2⟩ := jmayE_ne s
  clear h1 k0 k1 k2 k3 k5 k6 k7
  go_enter Try.func13, Try.ntmps13
  go_wp2_with fail
  refine (jmay_calls w H okj g gj s HJ.out).mono ?_
  rintro e w1 ⟨rfl, rfl⟩
  generalize jmayE s = q at *
  go_wp2_with fail
  go_ret
  exact ⟨rfl, rfl⟩
end Go.Proofs.Ythnjkmjcacoajaa.Jn
end

section
/- Room of a journal, walked. No condition beyond the journal's own bounds. -/
namespace Go.Proofs.Ythnjkmjcacoajaa.Jn
open Go Go.RowKit Go.Proofs.YthnjkmjcacoajaaW.PrintWords Go.Proofs.YthnjkmjcacoajaaW.PrintLast Go.Proofs.YthnjkmjcacoajaaW.PrintMore Go.Proofs.Ythnjkmjcacoajaa.Base Go.Proofs.Ythnjkmjcacoajaa.Arr
open Go.Proofs.Ythnjkmjcacoajaa.Dk (DS DiskIs DiskTo)
set_option linter.unusedVariables false
set_option linter.unusedSimpArgs false
/-- how many cells so many bytes need -/
def cntN (n : Nat) : Int := ((n + 46) / 47 : Nat)
theorem count_eq (n : Nat) (hn : n ≤ 1000000000000) : strip_Count.f (n : Int) = some (cntN n) := by
  unfold strip_Count.f cntN
  by_cases h : (n : Int) < 1
  · rw [if_pos h]
    obtain rfl : n = 0 := by omega
    rfl
  · rw [if_neg h]
    congr 1
    have e1 : wrap64 ((n : Int) - 1) = ((n - 1 : Nat) : Int) := by unfold wrap64; omega
    have e2 : Int.tdiv ((n - 1 : Nat) : Int) 47 = (((n - 1) / 47 : Nat) : Int) := by norm_cast
    rw [e1, e2]
    unfold wrap64
    omega
theorem count_drawn (n : Nat) (hn : n ≤ 1000000000000) (w : World) : Calls Try.prog 28 #[.int .i64 (n : Int)] w fun e w' => e = .returned (.int .i64 (cntN n)) ∧ Drawn0 w w' := strip_Count.calls (n : Int) (cntN n) w (count_eq n hn)
theorem disk_drew {w : World} {H : Nat} {ok : Nat → Prop} {g : Nat} {d : DS} (h : DiskIs w H ok g d) : DiskIs w.drew H ok g d := Dk.DiskIs.below h (below_drew (Below.refl _ _))
theorem JIs.below {W W1 : World} {H : Nat} {ok : Nat → Prop} {gj g : Nat} {s : JS} (h : JIs W H ok gj g s) (hb : Below W.heap.size W W1) : JIs W1 H ok gj g s := by
  obtain ⟨vw, h1, h2, h3, h4⟩ := h
  exact ⟨vw, h1.below hb h1.lt, Kd.R_below h2 hb, h3, h4⟩
theorem JIs.drewN {w : World} {H : Nat} {ok : Nat → Prop} {gj g : Nat} {s : JS} (h : JIs w H ok gj g s) (n : Nat) : JIs (w.drewN n) H ok gj g s := h.below (pw_below_drewN (Below.refl _ _) n)
theorem JIs.drew {w : World} {H : Nat} {ok : Nat → Prop} {gj g : Nat} {s : JS} (h : JIs w H ok gj g s) : JIs w.drew H ok gj g s := h.below (below_drew (Below.refl _ _))
theorem drawn_drew {w w' : World} (h : Drawn0 w.drew w') : Drawn0 w w' := by
  obtain ⟨n, rfl⟩ := h.out
  have : w.drew = w.drewN 1 := rfl
  rw [this]
  exact (Drawn0.step (Drawn0.refl w) 1).step n
set_option maxHeartbeats 2000000 in
set_option maxRecDepth 100000 in
theorem Room_calls (w : World) (H : Nat) (ok okj : Nat → Prop) (g gj : Nat) (d : DS) (s : JS) (h : DiskIs w H ok g d) (hj : JIs w H okj gj g s) (hw : s.waits.length ≤ 1000000) (hu : 0 ≤ s.used ∧ s.used ≤ 1000000) :
    Calls Try.prog 9 #[.pointer (some ⟨gj, 0, none⟩)] w fun e w' => e = .returned (.int .i64 (secN d.n - s.used - cntN s.waits.length)) ∧ Drawn0 w w' := by
  have HD := Aside0.mk h
  have HJ := Aside0.mk hj
  have HWL := Aside0.mk hw
  obtain ⟨vw, h1, h2, -, -⟩ := hj
  obtain ⟨k0, k1, k2, k3, k4, k5, k6, k7⟩ := jcell h1
  obtain ⟨m1, m2⟩ := jmayE_ne s
  obtain ⟨n1, n2⟩ := DiskIs.n_le h
  obtain ⟨A, c, rfl⟩ := Kd.R_slice h2
  clear h1 h2 k0 k1 k2 k4 k5 k7 h
  have e1 : wrap64 (secN d.n - s.used) = secN d.n - s.used := by unfold secN wrap64; omega
  have e2 : wrap64 (secN d.n - s.used - cntN s.waits.length) = secN d.n - s.used - cntN s.waits.length := by unfold secN cntN wrap64; omega
  clear n1 n2 hu hw
  go_enter Try.func9, Try.ntmps9
  go_wp2_with fail
  refine (jmay_calls w H okj g gj s HJ.out).mono ?_
  rintro e w1 ⟨rfl, rfl⟩
  generalize jmayE s = q at *
  go_wp2_with fail
  refine start_ (n := 15) (S := fun w' => w'.cell? ⟨gj, 3, none⟩ = some (.int .i64 s.used) ∧ w'.cell? ⟨gj, 6, none⟩ = some (.slice A s.waits.length c)) (ds := []) #[false, false, false, false, false, false, false, false, false, false, false, false, false, false, false] (by kernel_rfl) rfl rfl ⟨k3, k6⟩ (fun hHeld => ?_)
  refine pure_ (i := 0) (N := some 6) (v := ?_) (a' := ?_) #[true, false, false, false, false, false, false, false, false, false, false, false, false, false, false] rfl rfl (by kernel_rfl) (fun _ _ _ h => h) (Or.inl ⟨by rfl, ?_⟩) ?_ ?_
  rotate_left
  · intro w'
    go_simp
    with_reducible rfl
  rotate_left
  · simp only [Act.put, List.setIfInBounds_toArray, List.set_cons_zero, List.set_cons_succ, i64_w, i32_w]
    rfl
  refine pure_ (i := 2) (N := some 8) (v := ?_) (a' := ?_) #[true, false, true, false, false, false, false, false, false, false, false, false, false, false, false] rfl rfl (by kernel_rfl) (fun _ _ _ h => h) (Or.inl ⟨by rfl, ?_⟩) ?_ ?_
  rotate_left
  · intro w'
    go_simp
    with_reducible rfl
  rotate_left
  · simp only [Act.put, List.setIfInBounds_toArray, List.set_cons_zero, List.set_cons_succ, i64_w, i32_w]
    rfl
  refine pure_ (i := 3) (N := some 9) (v := ?_) (a' := ?_) #[true, false, true, true, false, false, false, false, false, false, false, false, false, false, false] rfl rfl (by kernel_rfl) (fun _ _ _ h => h) (Or.inl ⟨by rfl, ?_⟩) ?_ ?_
  rotate_left
  · intro w'
    go_simp
    with_reducible rfl
  rotate_left
  · simp only [Act.put, List.setIfInBounds_toArray, List.set_cons_zero, List.set_cons_succ, i64_w, i32_w]
    rfl
  refine pure_ (i := 4) (N := some 10) (v := ?_) (a' := ?_) #[true, false, true, true, true, false, false, false, false, false, false, false, false, false, false] rfl rfl (by kernel_rfl) (fun _ _ _ h => h) (Or.inl ⟨by rfl, ?_⟩) ?_ ?_
  rotate_left
  · intro w'
    go_simp
    with_reducible rfl
  rotate_left
  · simp only [Act.put, List.setIfInBounds_toArray, List.set_cons_zero, List.set_cons_succ, i64_w, i32_w]
    rfl
  refine pure_ (i := 7) (N := some 13) (v := ?_) (a' := ?_) #[true, false, true, true, true, false, false, true, false, false, false, false, false, false, false] rfl rfl (by kernel_rfl) (fun _ _ _ h => h) (Or.inl ⟨by rfl, ?_⟩) ?_ ?_
  rotate_left
  · intro w'
    go_simp
    with_reducible rfl
  rotate_left
  · simp only [Act.put, List.setIfInBounds_toArray, List.set_cons_zero, List.set_cons_succ, i64_w, i32_w]
    rfl
  refine pure_ (i := 8) (N := some 14) (v := ?_) (a' := ?_) #[true, false, true, true, true, false, false, true, true, false, false, false, false, false, false] rfl rfl (by kernel_rfl) (fun _ _ _ h => h) (Or.inl ⟨by rfl, ?_⟩) ?_ ?_
  rotate_left
  · intro w'
    go_simp
    with_reducible rfl
  rotate_left
  · simp only [Act.put, List.setIfInBounds_toArray, List.set_cons_zero, List.set_cons_succ, i64_w, i32_w]
    rfl
  refine pure_ (i := 9) (N := some 15) (v := ?_) (a' := ?_) #[true, false, true, true, true, false, false, true, true, true, false, false, false, false, false] rfl rfl (by kernel_rfl) (fun _ _ _ h => h) (Or.inl ⟨by rfl, ?_⟩) ?_ ?_
  rotate_left
  · intro w'
    go_simp
    with_reducible rfl
  rotate_left
  · simp only [Act.put, List.setIfInBounds_toArray, List.set_cons_zero, List.set_cons_succ, i64_w, i32_w]
    rfl
  refine take_ (i := 5) (N := some 11) (v := ?_) (a' := ?_) #[true, false, true, true, true, true, false, true, true, true, false, false, false, false, false] rfl rfl (by kernel_rfl) (fun _ _ _ h => h) (Or.inl ⟨by rfl, ?_⟩) hHeld ?_ ?_
  rotate_left
  · rintro w' ⟨s0, s1⟩
    go_simp
    with_reducible rfl
  rotate_left
  · simp only [Act.put, List.setIfInBounds_toArray, List.set_cons_zero, List.set_cons_succ, i64_w, i32_w]
    rfl
  refine take_ (i := 10) (N := some 16) (v := ?_) (a' := ?_) #[true, false, true, true, true, true, false, true, true, true, true, false, false, false, false] rfl rfl (by kernel_rfl) (fun _ _ _ h => h) (Or.inl ⟨by rfl, ?_⟩) hHeld ?_ ?_
  rotate_left
  · rintro w' ⟨s0, s1⟩
    go_simp
    with_reducible rfl
  rotate_left
  · simp only [Act.put, List.setIfInBounds_toArray, List.set_cons_zero, List.set_cons_succ, i64_w, i32_w]
    rfl
  refine pure_ (i := 11) (N := some 17) (v := ?_) (a' := ?_) #[true, false, true, true, true, true, false, true, true, true, true, true, false, false, false] rfl rfl (by kernel_rfl) (fun _ _ _ h => h) (Or.inl ⟨by rfl, ?_⟩) ?_ ?_
  rotate_left
  · intro w'
    go_simp
    with_reducible rfl
  rotate_left
  · simp only [Act.put, List.setIfInBounds_toArray, List.set_cons_zero, List.set_cons_succ, i64_w, i32_w]
    rfl
  refine one_ (i := 1) (N := some 7) #[true, true, true, true, true, true, false, true, true, true, true, true, false, false, false] rfl rfl (by kernel_rfl) (by decide) (fun K hK => ?_)
  refine goes_ Try.func27 (by kernel_rfl) rfl #[.pointer (some ⟨gj, 0, none⟩)] (by rfl) rfl rfl (by simp only [List.map_toArray, List.map_cons, List.map_nil]; rfl) ?_
  with_reducible refine (sectors_calls w.drew H ok okj g gj d s (disk_drew HD.out) HJ.out.drew).mono ?_
  rintro e w3 ⟨rfl, rfl⟩
  refine ⟨_, rfl, ?_⟩
  refine hK.out _ _ ⟨k3, k6⟩ (fun hHeld => ?_)
  clear hK K
  refine norm_ (a' := ?_) ?_ ?_
  rotate_left
  · show Act.put _ (some 7) _ = _
    simp only [Act.put, List.setIfInBounds_toArray, List.set_cons_zero, List.set_cons_succ, i64_w, i32_w]
    rfl
  refine pure_ (i := 6) (N := some 12) (v := ?_) (a' := ?_) #[true, true, true, true, true, true, true, true, true, true, true, true, false, false, false] rfl rfl (by kernel_rfl) (fun _ _ _ h => h) (Or.inl ⟨by rfl, ?_⟩) ?_ ?_
  rotate_left
  · intro w'
    go_simp
    with_reducible rfl
  rotate_left
  · simp only [Act.put, List.setIfInBounds_toArray, List.set_cons_zero, List.set_cons_succ, i64_w, i32_w]
    rfl
  refine one_ (i := 12) (N := some 18) #[true, true, true, true, true, true, true, true, true, true, true, true, true, false, false] rfl rfl (by kernel_rfl) (by decide) (fun K hK => ?_)
  refine goes_ Try.func28 (by kernel_rfl) rfl #[.int .i64 (s.waits.length : Int)] (by rfl) rfl rfl (by simp only [List.map_toArray, List.map_cons, List.map_nil]; rfl) ?_
  with_reducible refine (count_drawn s.waits.length (by have := HWL.out; omega) w.drew).mono ?_
  rintro e w4 ⟨rfl, hd4⟩
  refine ⟨_, rfl, ?_⟩
  refine hK.out _ _ ⟨pw_cell_below hd4.below k3, pw_cell_below hd4.below k6⟩ (fun hHeld => ?_)
  clear hK K
  refine norm_ (a' := ?_) ?_ ?_
  rotate_left
  · show Act.put _ (some 18) _ = _
    simp only [Act.put, List.setIfInBounds_toArray, List.set_cons_zero, List.set_cons_succ, i64_w, i32_w]
    rfl
  refine pure_ (i := 13) (N := some 19) (v := ?_) (a' := ?_) #[true, true, true, true, true, true, true, true, true, true, true, true, true, true, false] rfl rfl (by kernel_rfl) (fun _ _ _ h => h) (Or.inl ⟨by rfl, ?_⟩) ?_ ?_
  rotate_left
  · intro w'
    go_simp
    with_reducible rfl
  rotate_left
  · simp only [Act.put, List.setIfInBounds_toArray, List.set_cons_zero, List.set_cons_succ, i64_w, i32_w]
    rfl
  refine pure_ (i := 14) (N := some 2) (v := ?_) (a' := ?_) #[true, true, true, true, true, true, true, true, true, true, true, true, true, true, true] rfl rfl (by kernel_rfl) (fun _ _ _ h => h) (Or.inl ⟨by rfl, ?_⟩) ?_ ?_
  rotate_left
  · intro w'
    go_simp
    with_reducible rfl
  rotate_left
  · simp only [Act.put, List.setIfInBounds_toArray, List.set_cons_zero, List.set_cons_succ, i64_w, i32_w]
    rfl
  refine done_ (by kernel_rfl) ?_
  
  have HD4 := Aside0.mk hd4
  clear hd4 hHeld
  go_wp2_with fail
  go_ret
  exact ⟨rfl, drawn_drew HD4.out⟩
end Go.Proofs.Ythnjkmjcacoajaa.Jn
end

section
/- A journal and its disk, side by side: how a call moves them. No condition. -/
namespace Go.Proofs.Ythnjkmjcacoajaa.Jn
open Go Go.RowKit Go.Proofs.YthnjkmjcacoajaaW.PrintWords Go.Proofs.YthnjkmjcacoajaaW.PrintLast Go.Proofs.YthnjkmjcacoajaaW.PrintMore Go.Proofs.Ythnjkmjcacoajaa.Base Go.Proofs.Ythnjkmjcacoajaa.Arr
open Go.Proofs.Ythnjkmjcacoajaa.Dk (DS DiskIs DiskTo)
set_option linter.unusedVariables false
set_option linter.unusedSimpArgs false

/-- a step that touches the journal's own blocks alone -/
def JOnly (W W' : World) (H : Nat) (okj : Nat → Prop) (gj g : Nat) (s : JS) : Prop :=
  Below H W W' ∧ Kept W W' okj ∧ ∃ okj' : Nat → Prop, (∀ k, okj' k → (okj k ∨ W.heap.size ≤ k) ∧ k < W'.heap.size) ∧ JIs W' H okj' gj g s
theorem JIs.mono {W : World} {H : Nat} {ok ok' : Nat → Prop} {gj g : Nat} {s : JS} (h : JIs W H ok gj g s) (hm : ∀ k, ok k → k < W.heap.size → ok' k) : JIs W H ok' gj g s := by
  obtain ⟨vw, h1, h2, h3, h4⟩ := h
  exact ⟨vw, h1, Kd.R_mono (Kd.R_bound h2) (fun k hk => hm k hk.1 hk.2.2.1), hm gj h3 h1.lt, h4⟩
theorem JIs.move {W W1 : World} {H : Nat} {ok : Nat → Prop} {gj g : Nat} {s : JS} (h : JIs W H ok gj g s) (hm : ∀ k, ok k → k < W.heap.size → W1.heap[k]? = W.heap[k]?) : JIs W1 H ok gj g s := by
  obtain ⟨vw, h1, h2, h3, h4⟩ := h
  exact ⟨vw, (hm gj h3 h1.lt).trans h1, Kd.R_step h2 hm, h3, h4⟩
/-- a plain cell of the struct set -/
theorem JIs.set {W : World} {H : Nat} {ok : Nat → Prop} {gj g : Nat} {s : JS} (h : JIs W H ok gj g s) (i : Nat) (v : Value) (s' : JS) (hc : ∀ vw, (jcells g s vw).setIfInBounds i v = jcells g s' vw) (hw : s'.waits = s.waits) : JOnly W (W.setCell ⟨gj, i, none⟩ v) H ok gj g s' := by
  obtain ⟨vw, h1, h2, h3, h4⟩ := h
  have hb := Dk.to_set (W := W) (base := H) (ok := ok) (g := gj) (j := i) (u := v) h3 h4
  refine ⟨hb.1, hb.2, fun k => ok k ∧ k < W.heap.size, fun k hk => ⟨.inl hk.1, Nat.lt_of_lt_of_le hk.2 hb.2.1⟩, vw, ?_, ?_, ⟨h3, h1.lt⟩, h4⟩
  · rw [← hc]
    exact h1.set i v
  · rw [hw]
    exact Kd.R_mono (Kd.R_far (Kd.R_types (Kd.R_bound h2) h1 (fun q hq e => by subst e; simp [Kd.int, Kd.scalar] at hq)) (p := ⟨gj, i, none⟩) (fun k hk => hk.2) v) (fun k hk => ⟨hk.1.1, hk.1.2.2.1⟩)
/-- the waiting bytes set anew: a slice of the journal's own, or a new one -/
theorem JIs.set_waits {W : World} {H : Nat} {ok okr : Nat → Prop} {gj g : Nat} {s : JS} {vw v : Value} {l : List Int} (h1 : HoldsRow W gj 64 (jcells g s vw)) (h3 : ok gj) (h4 : H ≤ gj) (hr : Kd.R (Kd.int .u8) 5 W H okr v l) (hok : ∀ k, okr k → k < W.heap.size → ok k) : JOnly W (W.setCell ⟨gj, 6, none⟩ v) H ok gj g { s with waits := l } := by
  have hb := Dk.to_set (W := W) (base := H) (ok := ok) (g := gj) (j := 6) (u := v) h3 h4
  refine ⟨hb.1, hb.2, fun k => ok k ∧ k < W.heap.size, fun k hk => ⟨.inl hk.1, Nat.lt_of_lt_of_le hk.2 hb.2.1⟩, v, ?_, ?_, ⟨h3, h1.lt⟩, h4⟩
  · have := h1.set 6 v
    exact this
  · exact Kd.R_mono (Kd.R_far (Kd.R_types (Kd.R_bound hr) h1 (fun q hq e => by subst e; simp [Kd.int, Kd.scalar] at hq)) (p := ⟨gj, 6, none⟩) (fun k hk => hk.2) v) (fun k hk => ⟨hok k hk.1.1 hk.1.2.2.1, hk.1.2.2.1⟩)
theorem JOnly.trans {W W1 W2 : World} {H : Nat} {ok ok1 : Nat → Prop} {gj g : Nat} {s : JS} (hb : Below H W W1) (hk : Kept W W1 ok) (hs : ∀ k, ok1 k → ok k ∨ W.heap.size ≤ k) (h : JOnly W1 W2 H ok1 gj g s) : JOnly W W2 H ok gj g s := by
  obtain ⟨h1, h2, ok2, h3, h4⟩ := h
  refine ⟨hb.trans h1, hk.then_ h2 hs, ok2, fun k hk2 => ⟨?_, (h3 k hk2).2⟩, h4⟩
  rcases (h3 k hk2).1 with h5 | h5
  · exact hs k h5
  · exact .inr (Nat.le_trans hk.1 h5)
theorem JOnly.then_ {W W1 W2 : World} {H : Nat} {ok : Nat → Prop} {gj g : Nat} {s1 s2 : JS} (h : JOnly W W1 H ok gj g s1) (k : ∀ ok1, JIs W1 H ok1 gj g s1 → JOnly W1 W2 H ok1 gj g s2) : JOnly W W2 H ok gj g s2 := by
  obtain ⟨h1, h2, ok1, h3, h4⟩ := h
  exact JOnly.trans h1 h2 (fun k hk => (h3 k hk).1) (k ok1 h4)
theorem JOnly.same {W : World} {H : Nat} {ok : Nat → Prop} {gj g : Nat} {s : JS} (h : JIs W H ok gj g s) : JOnly W W H ok gj g s :=
  ⟨Below.refl _ _, Kept.refl _ _, fun k => ok k ∧ k < W.heap.size, fun k hk => ⟨.inl hk.1, hk.2⟩, h.mono (fun k h1 h2 => ⟨h1, h2⟩)⟩
theorem JOnly.of_below {W W1 : World} {H : Nat} {ok : Nat → Prop} {gj g : Nat} {s : JS} (h : JIs W H ok gj g s) (hH : H ≤ W.heap.size) (hb : Below W.heap.size W W1) : JOnly W W1 H ok gj g s :=
  ⟨hb.mono hH, Kept.of_below hb _, fun k => ok k ∧ k < W1.heap.size, fun k hk => ⟨.inl hk.1, hk.2⟩, (h.below hb).mono (fun k h1 h2 => ⟨h1, h2⟩)⟩

/-- the disk and the journal, in blocks of their own -/
def JD (W : World) (H : Nat) (ok : Nat → Prop) (g gj : Nat) (d : DS) (s : JS) : Prop :=
  ∃ okd okj : Nat → Prop, DiskIs W H okd g d ∧ JIs W H okj gj g s ∧ (∀ k, okd k → ok k ∧ k < W.heap.size) ∧ (∀ k, okj k → ok k ∧ k < W.heap.size) ∧ (∀ k, okd k → ¬ okj k) ∧ H ≤ W.heap.size
/-- where a call leads -/
def JTo (w w' : World) (H : Nat) (ok : Nat → Prop) (g gj : Nat) (d : DS) (s : JS) : Prop :=
  Below H w w' ∧ Kept w w' ok ∧ ∃ ok' : Nat → Prop, (∀ k, ok' k → (ok k ∨ w.heap.size ≤ k) ∧ k < w'.heap.size) ∧ JD w' H ok' g gj d s
theorem JTo.start {w : World} {H : Nat} {ok : Nat → Prop} {g gj : Nat} {d : DS} {s : JS} (h : JD w H ok g gj d s) : JTo w w H ok g gj d s := by
  obtain ⟨okd, okj, h1, h2, h3, h4, h5, h6⟩ := h
  exact ⟨Below.refl _ _, Kept.refl _ _, fun k => ok k ∧ k < w.heap.size, fun k hk => ⟨.inl hk.1, hk.2⟩, okd, okj, h1, h2, fun k hk => ⟨h3 k hk, (h3 k hk).2⟩, fun k hk => ⟨h4 k hk, (h4 k hk).2⟩, h5, h6⟩
theorem JTo.below {w w1 w2 : World} {H : Nat} {ok : Nat → Prop} {g gj : Nat} {d : DS} {s : JS} (h : JTo w w1 H ok g gj d s) (hb : Below w1.heap.size w1 w2) : JTo w w2 H ok g gj d s := by
  obtain ⟨h1, h2, ok', h3, okd, okj, h4, h5, h6, h7, h8, h9⟩ := h
  have hs := hb.size
  refine ⟨h1.trans (hb.mono h9), h2.below hb, ok', fun k hk => ⟨(h3 k hk).1, Nat.lt_of_lt_of_le (h3 k hk).2 hs⟩, okd, okj, Dk.DiskIs.below h4 hb, h5.below hb, fun k hk => ⟨(h6 k hk).1, Nat.lt_of_lt_of_le (h6 k hk).2 hs⟩, fun k hk => ⟨(h7 k hk).1, Nat.lt_of_lt_of_le (h7 k hk).2 hs⟩, h8, Nat.le_trans h9 hs⟩
/-- the disk's turn -/
theorem JTo.disk {w w1 : World} {H : Nat} {ok : Nat → Prop} {g gj : Nat} {d : DS} {s : JS} (h : JTo w w1 H ok g gj d s) :
    ∃ okd : Nat → Prop, DiskIs w1 H okd g d ∧ H ≤ w1.heap.size ∧ (∀ k, okd k → (ok k ∨ w.heap.size ≤ k) ∧ k < w1.heap.size) ∧ ∀ w2 d', DiskTo w1 w2 H okd g d' → JTo w w2 H ok g gj d' s := by
  obtain ⟨h1, h2, ok', h3, okd, okj, h4, h5, h6, h7, h8, h9⟩ := h
  refine ⟨okd, h4, h9, fun k hk => h3 k (h6 k hk).1, fun w2 d' ⟨t1, t2, okd', t3, t4⟩ => ?_⟩
  have hs := t2.1
  refine ⟨h1.trans t1, h2.then_ t2 (fun k hk => (h3 k (h6 k hk).1).1), fun k => (ok' k ∨ w1.heap.size ≤ k) ∧ k < w2.heap.size, fun k hk => ⟨?_, hk.2⟩, okd', okj, t4, ?_, fun k hk => ⟨⟨?_, (t3 k hk).2⟩, (t3 k hk).2⟩, fun k hk => ⟨⟨.inl (h7 k hk).1, Nat.lt_of_lt_of_le (h7 k hk).2 hs⟩, Nat.lt_of_lt_of_le (h7 k hk).2 hs⟩, fun k hk hj => ?_, Nat.le_trans h9 hs⟩
  · rcases hk.1 with q | q
    · exact (h3 k q).1
    · exact .inr (Nat.le_trans h2.1 q)
  · exact h5.move (fun k hk hlt => t2.2 k hlt (fun q => h8 k q hk))
  · rcases (t3 k hk).1 with q | q
    · exact .inl (h6 k q).1
    · exact .inr q
  · rcases (t3 k hk).1 with q | q
    · exact h8 k q hj
    · have := (h7 k hj).2; omega
/-- the journal's turn -/
theorem JTo.jour {w w1 : World} {H : Nat} {ok : Nat → Prop} {g gj : Nat} {d : DS} {s : JS} (h : JTo w w1 H ok g gj d s) :
    ∃ okj : Nat → Prop, JIs w1 H okj gj g s ∧ H ≤ w1.heap.size ∧ (∀ k, okj k → (ok k ∨ w.heap.size ≤ k) ∧ k < w1.heap.size) ∧ ∀ w2 s', JOnly w1 w2 H okj gj g s' → JTo w w2 H ok g gj d s' := by
  obtain ⟨h1, h2, ok', h3, okd, okj, h4, h5, h6, h7, h8, h9⟩ := h
  refine ⟨okj, h5, h9, fun k hk => h3 k (h7 k hk).1, fun w2 s' ⟨t1, t2, okj', t3, t4⟩ => ?_⟩
  have hs := t2.1
  refine ⟨h1.trans t1, h2.then_ t2 (fun k hk => (h3 k (h7 k hk).1).1), fun k => (ok' k ∨ w1.heap.size ≤ k) ∧ k < w2.heap.size, fun k hk => ⟨?_, hk.2⟩, okd, okj', ?_, t4, fun k hk => ⟨⟨.inl (h6 k hk).1, Nat.lt_of_lt_of_le (h6 k hk).2 hs⟩, Nat.lt_of_lt_of_le (h6 k hk).2 hs⟩, fun k hk => ⟨⟨?_, (t3 k hk).2⟩, (t3 k hk).2⟩, fun k hk hj => ?_, Nat.le_trans h9 hs⟩
  · rcases hk.1 with q | q
    · exact (h3 k q).1
    · exact .inr (Nat.le_trans h2.1 q)
  · exact Dk.DiskIs.move h4 (fun k hk hlt => t2.2 k hlt (fun q => h8 k hk q))
  · rcases (t3 k hk).1 with q | q
    · exact .inl (h7 k q).1
    · exact .inr q
  · rcases (t3 k hj).1 with q | q
    · exact h8 k hk q
    · have := (h6 k hk).2; omega
/-- a call on both -/
theorem JTo.call {w w1 : World} {H : Nat} {ok : Nat → Prop} {g gj : Nat} {d : DS} {s : JS} (h : JTo w w1 H ok g gj d s) :
    ∃ ok1 : Nat → Prop, JD w1 H ok1 g gj d s ∧ (∀ k, ok1 k → (ok k ∨ w.heap.size ≤ k) ∧ k < w1.heap.size) ∧ ∀ w2 d' s', JTo w1 w2 H ok1 g gj d' s' → JTo w w2 H ok g gj d' s' := by
  obtain ⟨h1, h2, ok', h3, h4⟩ := h
  refine ⟨ok', h4, h3, fun w2 d' s' ⟨t1, t2, ok2, t3, t4⟩ => ⟨h1.trans t1, h2.then_ t2 (fun k hk => (h3 k hk).1), ok2, fun k hk => ⟨?_, (t3 k hk).2⟩, t4⟩⟩
  rcases (t3 k hk).1 with q | q
  · exact (h3 k q).1
  · exact .inr (Nat.le_trans h2.1 q)
theorem JTo.le {w w' : World} {H : Nat} {ok : Nat → Prop} {g gj : Nat} {d : DS} {s : JS} (h : JTo w w' H ok g gj d s) : H ≤ w'.heap.size := by
  obtain ⟨_, _, _, _, _, _, _, _, _, _, _, h⟩ := h
  exact h
/-- a row that lies outside of both, read later -/
def Outer (w : World) (ok : Nat → Prop) (A : Option Addr) (n : Nat) (b : List Int) : Prop := ∀ W', Kept w W' ok → Kd.C (Kd.int .u8) W' A n b
theorem Outer.then_ {w w1 : World} {ok ok1 : Nat → Prop} {A : Option Addr} {n : Nat} {b : List Int} (h : Outer w ok A n b) (hk : Kept w w1 ok) (hs : ∀ k, ok1 k → ok k ∨ w.heap.size ≤ k) : Outer w1 ok1 A n b := fun W' hk' => h W' (hk.then_ hk' hs)
theorem Outer.at_ {w w1 : World} {ok : Nat → Prop} {A : Option Addr} {n : Nat} {b : List Int} (h : Outer w ok A n b) (hk : Kept w w1 ok) : Kd.C (Kd.int .u8) w1 A n b := h w1 hk
end Go.Proofs.Ythnjkmjcacoajaa.Jn
end

section
/- packed, Append of a journal, walked. Conditions: bytes; the journal's bounds. -/
namespace Go.Proofs.Ythnjkmjcacoajaa.Jn
open Go Go.RowKit Go.Proofs.YthnjkmjcacoajaaW.PrintWords Go.Proofs.YthnjkmjcacoajaaW.PrintLast Go.Proofs.YthnjkmjcacoajaaW.PrintMore Go.Proofs.Ythnjkmjcacoajaa.Base Go.Proofs.Ythnjkmjcacoajaa.Arr
open Go.Proofs.Ythnjkmjcacoajaa.Dk (DS DiskIs DiskTo)
open Go.Proofs.Ythnjkmjcacoajaa.FrameLink (pk pk_len pk_bytes pack_eq pack_big)
open Go.Proofs.Ythnjkmjcacoajaa.BinMath (Bytes)
set_option linter.unusedVariables false
set_option linter.unusedSimpArgs false

def packedF (s : JS) (b : List Int) : List Int × Int := if s.broken = true then ([], 30) else if b.length ≤ 8192 then (pk b, 0) else ([], 5)
set_option maxHeartbeats 2000000 in
set_option maxRecDepth 100000 in
theorem packed_calls (w : World) (H : Nat) (okj : Nat → Prop) (g gj : Nat) (s : JS) (hj : JIs w H okj gj g s) (A : Option Addr) (c : Nat) (b : List Int) (hb : Kd.C (Kd.int .u8) w A b.length b) (hc : b.length ≤ c) (hby : Bytes b) :
    Calls Try.prog 29 #[.pointer (some ⟨gj, 0, none⟩), .slice A b.length c] w fun e w' => ∃ v, e = .returned (.tuple #[v, .int .i64 (packedF s b).2]) ∧ Kd.R (Kd.int .u8) 5 w' w.heap.size (fun _ => True) v (packedF s b).1 ∧ Below w.heap.size w w' := by
  have HJ := Aside0.mk hj
  have HB := Aside0.mk hb
  have HC := Aside0.mk hc
  have HBY := Aside0.mk hby
  clear hj hb hc hby
  by_cases hbr : s.broken = true
  · have e1 : packedF s b = ([], 30) := if_pos hbr
    have e2 : jmayE s = 30 := if_pos hbr
    have HE := Aside0.mk e1
    have HM := Aside0.mk e2
    clear e1 e2 hbr
    go_enter Try.func29, Try.ntmps29
    go_wp2_with fail
    refine (jmay_calls w H okj g gj s HJ.out).mono ?_
    rintro e w1 ⟨rfl, rfl⟩
    rw [HM.out]
    go_wp2_with fail
    go_ret2
    exact ⟨_, by rw [HE.out]; rfl, by rw [HE.out]; exact Kd.R_nil _ _ _ _ _, Below.refl _ _⟩
  · have e2 : jmayE s = 0 := if_neg hbr
    have HM := Aside0.mk e2
    have HE := Aside0.mk (show Fr.frame_Pack.f b = some (packedF s b) by
      unfold packedF
      rw [if_neg hbr]
      by_cases hl : b.length ≤ 8192
      · rw [if_pos hl]; exact pack_eq HBY.out hl
      · rw [if_neg hl]; exact pack_big hl)
    clear e2 hbr
    obtain ⟨⟨r, er⟩, hr⟩ : ∃ q, q = packedF s b := ⟨_, rfl⟩
    rw [← hr] at HE ⊢
    clear hr
    go_enter Try.func29, Try.ntmps29
    go_wp2_with fail
    refine (jmay_calls w H okj g gj s HJ.out).mono ?_
    rintro e w1 ⟨rfl, rfl⟩
    rw [HM.out]
    go_wp2_with fail
    refine (Fr.frame_Pack.calls A c b r er w HB.out HC.out HE.out).mono ?_
    rintro e w2 ⟨v, rfl, hv, hb2⟩
    have HV := Aside0.mk hv
    have HB2 := Aside0.mk hb2
    clear hv hb2
    go_wp2_with fail
    go_ret2
    exact ⟨v, rfl, HV.out, HB2.out⟩
def appendF (n : Nat) (s : JS) (b : List Int) : Int × JS :=
  if (packedF s b).2 ≠ 0 then ((packedF s b).2, s)
  else if cntN (s.waits.length + (packedF s b).1.length) > secN n - s.used then (7, s)
  else (0, { s with waits := s.waits ++ (packedF s b).1, count := s.count + 1 })
/-- a journal's bounds -/
def SOK (s : JS) : Prop := s.waits.length ≤ 1000000 ∧ (0 ≤ s.used ∧ s.used ≤ 1000) ∧ (0 ≤ s.count ∧ s.count ≤ 1000000000000) ∧ (0 ≤ s.gen ∧ s.gen ≤ 4294967295)
theorem packed_len (s : JS) (b : List Int) : (packedF s b).1.length ≤ 8300 := by
  unfold packedF
  split
  · simp
  · split
    · have := BinLink.W_le b.length
      show (pk b).length ≤ _
      rw [pk_len]
      omega
    · simp
set_option maxHeartbeats 4000000 in
set_option maxRecDepth 100000 in
theorem Append_calls (w : World) (H : Nat) (ok : Nat → Prop) (g gj : Nat) (d : DS) (s : JS) (h : JD w H ok g gj d s) (hs : SOK s) (A : Option Addr) (c : Nat) (b : List Int) (hb : Kd.C (Kd.int .u8) w A b.length b) (hc : b.length ≤ c) (hby : Bytes b) :
    Calls Try.prog 10 #[.pointer (some ⟨gj, 0, none⟩), .slice A b.length c] w fun e w' => e = .returned (.int .i64 (appendF d.n s b).1) ∧ JTo w w' H ok g gj d (appendF d.n s b).2 := by
  have T0 := Aside0.mk (JTo.start h)
  have HB := Aside0.mk hb
  have HC := Aside0.mk hc
  have HBY := Aside0.mk hby
  have HS := Aside0.mk hs
  have HPL := Aside0.mk (packed_len s b)
  clear h hb hc hby hs
  have hcase : ((packedF s b).2 ≠ 0 ∧ appendF d.n s b = ((packedF s b).2, s)) ∨ ((packedF s b).2 = 0 ∧ appendF d.n s b = if cntN (s.waits.length + (packedF s b).1.length) > secN d.n - s.used then (7, s) else (0, { s with waits := s.waits ++ (packedF s b).1, count := s.count + 1 })) := by
    unfold appendF
    by_cases h0 : (packedF s b).2 = 0
    · exact .inr ⟨h0, if_neg (fun q => q h0)⟩
    · exact .inl ⟨h0, if_pos h0⟩
  have HP := Aside0.mk (packed_calls w)
  obtain ⟨⟨r, er⟩, hr⟩ : ∃ q, q = packedF s b := ⟨_, rfl⟩
  have HR := Aside0.mk hr
  rw [← hr] at hcase HPL
  simp only at hcase HPL
  clear hr
  obtain ⟨okj0, hj0, hH, -, -⟩ := T0.out.jour
  have HJ0 := Aside0.mk hj0
  clear hj0
  rcases hcase with ⟨h0, hF⟩ | ⟨rfl, hF⟩
  · have HF := Aside0.mk hF
    have b1 : (er != 0) = true := bne_iff_ne.2 h0
    have b2 : (er == 0) = false := beq_eq_false_iff_ne.2 h0
    have b3 : decide (er = 0) = false := decide_eq_false h0
    clear hF hH
    go_enter Try.func10, Try.ntmps10
    go_wp2_with fail
    refine (HP.out H okj0 g gj s HJ0.out A c b HB.out HC.out HBY.out).mono ?_
    rw [← HR.out]
    rintro e w1 ⟨v, rfl, hv, hb1⟩
    have T1 := Aside0.mk (T0.out.below hb1)
    clear hv hb1 T0
    go_wp2_with fail
    go_ret
    exact ⟨by rw [HF.out]; rfl, by rw [HF.out]; exact T1.out⟩
  · have hwl := HS.out.1
    have hul := HS.out.2.1
    have hrl := HPL.out
    have e1 : wrap64 ((s.waits.length : Int) + (r.length : Int)) = ((s.waits.length + r.length : Nat) : Int) := by unfold wrap64; omega
    obtain ⟨n1, n2⟩ : 1 ≤ d.n ∧ d.n ≤ 512 := by
      obtain ⟨_, hd, _⟩ := T0.out.disk
      exact DiskIs.n_le hd
    have e2 : wrap64 (secN d.n - s.used) = secN d.n - s.used := by unfold secN wrap64; omega
    clear n1 n2
    go_enter Try.func10, Try.ntmps10
    go_wp2_with fail
    refine (HP.out H okj0 g gj s HJ0.out A c b HB.out HC.out HBY.out).mono ?_
    rw [← HR.out]
    rintro e w1 ⟨v, rfl, hv, hb1⟩
    obtain ⟨A1, c1, rfl⟩ := Kd.R_slice hv
    have T1 := Aside0.mk (T0.out.below hb1)
    have HV := Aside0.mk (Kd.R_reads' hv)
    clear hv hb1 T0 HJ0 HB HP
    obtain ⟨okj, hj, -, hokj, hstep⟩ := T1.out.jour
    obtain ⟨okd, hd, -⟩ := T1.out.disk
    have HD1 := Aside0.mk hd
    have HJ1 := Aside0.mk hj
    have HST := Aside0.mk hstep
    have HH := Aside0.mk T1.out.le
    obtain ⟨vw, h1, h2, h3, h4⟩ := hj
    obtain ⟨Aw, cw, rfl⟩ := Kd.R_slice h2
    obtain ⟨k0, k1, k2, k3, k4, k5, k6, k7⟩ := jcell h1
    have H1 := Aside0.mk h1
    have H2 := Aside0.mk h2
    have H3 := Aside0.mk (And.intro h3 h4)
    clear h1 h2 h3 h4 hd k0 k1 k2 k4 k5 k7 hstep hokj
    have hcnt : ∀ W : World, Calls Try.prog 28 #[.int .i64 (wrap64 ((s.waits.length : Int) + (r.length : Int)))] W fun e w' => e = .returned (.int .i64 (cntN (s.waits.length + r.length))) ∧ Drawn0 W w' := fun W => by rw [e1]; exact count_drawn _ (by omega) W
    have HCNT := Aside0.mk hcnt
    clear hcnt
    go_wp2_with fail
    refine start_ (n := 17) (S := fun w' => w'.cell? ⟨gj, 3, none⟩ = some (.int .i64 s.used) ∧ w'.cell? ⟨gj, 6, none⟩ = some (.slice Aw s.waits.length cw)) (ds := []) #[false, false, false, false, false, false, false, false, false, false, false, false, false, false, false, false, false] (by kernel_rfl) rfl rfl ⟨k3, k6⟩ (fun hHeld => ?_)
    refine pure_ (i := 0) (N := some 16) (v := ?_) (a' := ?_) #[true, false, false, false, false, false, false, false, false, false, false, false, false, false, false, false, false] rfl rfl (by kernel_rfl) (fun _ _ _ h => h) (Or.inl ⟨by rfl, ?_⟩) ?_ ?_
    rotate_left
    · intro w'
      go_simp
      with_reducible rfl
    rotate_left
    · simp only [Act.put, List.setIfInBounds_toArray, List.set_cons_zero, List.set_cons_succ, i64_w, i32_w]
      rfl
    refine pure_ (i := 1) (N := some 17) (v := ?_) (a' := ?_) #[true, true, false, false, false, false, false, false, false, false, false, false, false, false, false, false, false] rfl rfl (by kernel_rfl) (fun _ _ _ h => h) (Or.inl ⟨by rfl, ?_⟩) ?_ ?_
    rotate_left
    · intro w'
      go_simp
      with_reducible rfl
    rotate_left
    · simp only [Act.put, List.setIfInBounds_toArray, List.set_cons_zero, List.set_cons_succ, i64_w, i32_w]
      rfl
    refine pure_ (i := 2) (N := some 18) (v := ?_) (a' := ?_) #[true, true, true, false, false, false, false, false, false, false, false, false, false, false, false, false, false] rfl rfl (by kernel_rfl) (fun _ _ _ h => h) (Or.inl ⟨by rfl, ?_⟩) ?_ ?_
    rotate_left
    · intro w'
      go_simp
      with_reducible rfl
    rotate_left
    · simp only [Act.put, List.setIfInBounds_toArray, List.set_cons_zero, List.set_cons_succ, i64_w, i32_w]
      rfl
    refine pure_ (i := 5) (N := some 21) (v := ?_) (a' := ?_) #[true, true, true, false, false, true, false, false, false, false, false, false, false, false, false, false, false] rfl rfl (by kernel_rfl) (fun _ _ _ h => h) (Or.inl ⟨by rfl, ?_⟩) ?_ ?_
    rotate_left
    · intro w'
      go_simp
      with_reducible rfl
    rotate_left
    · simp only [Act.put, List.setIfInBounds_toArray, List.set_cons_zero, List.set_cons_succ, i64_w, i32_w]
      rfl
    refine pure_ (i := 6) (N := some 22) (v := ?_) (a' := ?_) #[true, true, true, false, false, true, true, false, false, false, false, false, false, false, false, false, false] rfl rfl (by kernel_rfl) (fun _ _ _ h => h) (Or.inl ⟨by rfl, ?_⟩) ?_ ?_
    rotate_left
    · intro w'
      go_simp
      with_reducible rfl
    rotate_left
    · simp only [Act.put, List.setIfInBounds_toArray, List.set_cons_zero, List.set_cons_succ, i64_w, i32_w]
      rfl
    refine pure_ (i := 9) (N := some 25) (v := ?_) (a' := ?_) #[true, true, true, false, false, true, true, false, false, true, false, false, false, false, false, false, false] rfl rfl (by kernel_rfl) (fun _ _ _ h => h) (Or.inl ⟨by rfl, ?_⟩) ?_ ?_
    rotate_left
    · intro w'
      go_simp
      with_reducible rfl
    rotate_left
    · simp only [Act.put, List.setIfInBounds_toArray, List.set_cons_zero, List.set_cons_succ, i64_w, i32_w]
      rfl
    refine pure_ (i := 11) (N := some 27) (v := ?_) (a' := ?_) #[true, true, true, false, false, true, true, false, false, true, false, true, false, false, false, false, false] rfl rfl (by kernel_rfl) (fun _ _ _ h => h) (Or.inl ⟨by rfl, ?_⟩) ?_ ?_
    rotate_left
    · intro w'
      go_simp
      with_reducible rfl
    rotate_left
    · simp only [Act.put, List.setIfInBounds_toArray, List.set_cons_zero, List.set_cons_succ, i64_w, i32_w]
      rfl
    refine pure_ (i := 12) (N := some 28) (v := ?_) (a' := ?_) #[true, true, true, false, false, true, true, false, false, true, false, true, true, false, false, false, false] rfl rfl (by kernel_rfl) (fun _ _ _ h => h) (Or.inl ⟨by rfl, ?_⟩) ?_ ?_
    rotate_left
    · intro w'
      go_simp
      with_reducible rfl
    rotate_left
    · simp only [Act.put, List.setIfInBounds_toArray, List.set_cons_zero, List.set_cons_succ, i64_w, i32_w]
      rfl
    refine pure_ (i := 13) (N := some 29) (v := ?_) (a' := ?_) #[true, true, true, false, false, true, true, false, false, true, false, true, true, true, false, false, false] rfl rfl (by kernel_rfl) (fun _ _ _ h => h) (Or.inl ⟨by rfl, ?_⟩) ?_ ?_
    rotate_left
    · intro w'
      go_simp
      with_reducible rfl
    rotate_left
    · simp only [Act.put, List.setIfInBounds_toArray, List.set_cons_zero, List.set_cons_succ, i64_w, i32_w]
      rfl
    refine take_ (i := 3) (N := some 19) (v := ?_) (a' := ?_) #[true, true, true, true, false, true, true, false, false, true, false, true, true, true, false, false, false] rfl rfl (by kernel_rfl) (fun _ _ _ h => h) (Or.inl ⟨by rfl, ?_⟩) hHeld ?_ ?_
    rotate_left
    · rintro w' ⟨s0, s1⟩
      go_simp
      with_reducible rfl
    rotate_left
    · simp only [Act.put, List.setIfInBounds_toArray, List.set_cons_zero, List.set_cons_succ, i64_w, i32_w]
      rfl
    refine pure_ (i := 4) (N := some 20) (v := ?_) (a' := ?_) #[true, true, true, true, true, true, true, false, false, true, false, true, true, true, false, false, false] rfl rfl (by kernel_rfl) (fun _ _ _ h => h) (Or.inl ⟨by rfl, ?_⟩) ?_ ?_
    rotate_left
    · intro w'
      go_simp
      with_reducible rfl
    rotate_left
    · simp only [Act.put, List.setIfInBounds_toArray, List.set_cons_zero, List.set_cons_succ, i64_w, i32_w]
      rfl
    refine pure_ (i := 7) (N := some 23) (v := ?_) (a' := ?_) #[true, true, true, true, true, true, true, true, false, true, false, true, true, true, false, false, false] rfl rfl (by kernel_rfl) (fun _ _ _ h => h) (Or.inl ⟨by rfl, ?_⟩) ?_ ?_
    rotate_left
    · intro w'
      go_simp
      with_reducible rfl
    rotate_left
    · simp only [Act.put, List.setIfInBounds_toArray, List.set_cons_zero, List.set_cons_succ, i64_w, i32_w]
      rfl
    refine take_ (i := 14) (N := some 30) (v := ?_) (a' := ?_) #[true, true, true, true, true, true, true, true, false, true, false, true, true, true, true, false, false] rfl rfl (by kernel_rfl) (fun _ _ _ h => h) (Or.inl ⟨by rfl, ?_⟩) hHeld ?_ ?_
    rotate_left
    · rintro w' ⟨s0, s1⟩
      go_simp
      with_reducible rfl
    rotate_left
    · simp only [Act.put, List.setIfInBounds_toArray, List.set_cons_zero, List.set_cons_succ, i64_w, i32_w]
      rfl
    refine one_ (i := 8) (N := some 24) #[true, true, true, true, true, true, true, true, true, true, false, true, true, true, true, false, false] rfl rfl (by kernel_rfl) (by decide) (fun K hK => ?_)
    refine goes_ Try.func28 (by kernel_rfl) rfl #[.int .i64 (wrap64 ((s.waits.length : Int) + (r.length : Int)))] (by rfl) rfl rfl (by simp only [List.map_toArray, List.map_cons, List.map_nil]; rfl) ?_
    with_reducible refine (HCNT.out w1.drew).mono ?_
    rintro e w2 ⟨rfl, hd2⟩
    refine ⟨_, rfl, ?_⟩
    refine hK.out _ _ ⟨pw_cell_below hd2.below k3, pw_cell_below hd2.below k6⟩ (fun hHeld => ?_)
    clear hK K
    refine norm_ (a' := ?_) ?_ ?_
    rotate_left
    · show Act.put _ (some 24) _ = _
      simp only [Act.put, List.setIfInBounds_toArray, List.set_cons_zero, List.set_cons_succ, i64_w, i32_w]
      rfl
    refine one_ (i := 10) (N := some 26) #[true, true, true, true, true, true, true, true, true, true, true, true, true, true, true, false, false] rfl rfl (by kernel_rfl) (by decide) (fun K hK => ?_)
    refine goes_ Try.func27 (by kernel_rfl) rfl #[.pointer (some ⟨gj, 0, none⟩)] (by rfl) rfl rfl (by simp only [List.map_toArray, List.map_cons, List.map_nil]; rfl) ?_
    with_reducible refine (sectors_calls w2 H okd okj g gj d s (Dk.DiskIs.below (disk_drew HD1.out) hd2.below) (JIs.below HJ1.out.drew hd2.below)).mono ?_
    rintro e w3 ⟨rfl, rfl⟩
    refine ⟨_, rfl, ?_⟩
    refine hK.out _ _ ⟨pw_cell_below hd2.below k3, pw_cell_below hd2.below k6⟩ (fun hHeld => ?_)
    clear hK K
    refine norm_ (a' := ?_) ?_ ?_
    rotate_left
    · show Act.put _ (some 26) _ = _
      simp only [Act.put, List.setIfInBounds_toArray, List.set_cons_zero, List.set_cons_succ, i64_w, i32_w]
      rfl
    refine pure_ (i := 15) (N := some 31) (v := ?_) (a' := ?_) #[true, true, true, true, true, true, true, true, true, true, true, true, true, true, true, true, false] rfl rfl (by kernel_rfl) (fun _ _ _ h => h) (Or.inl ⟨by rfl, ?_⟩) ?_ ?_
    rotate_left
    · intro w'
      go_simp
      with_reducible rfl
    rotate_left
    · simp only [Act.put, List.setIfInBounds_toArray, List.set_cons_zero, List.set_cons_succ, i64_w, i32_w]
      rfl
    refine pure_ (i := 16) (N := some 32) (v := ?_) (a' := ?_) #[true, true, true, true, true, true, true, true, true, true, true, true, true, true, true, true, true] rfl rfl (by kernel_rfl) (fun _ _ _ h => h) (Or.inl ⟨by rfl, ?_⟩) ?_ ?_
    rotate_left
    · intro w'
      go_simp
      with_reducible rfl
    rotate_left
    · simp only [Act.put, List.setIfInBounds_toArray, List.set_cons_zero, List.set_cons_succ, i64_w, i32_w]
      rfl
    refine done_ (by kernel_rfl) ?_
    
    have hbb : Below w1.heap.size w1 w2 := (below_drew (Below.refl _ _)).trans (show Below w1.heap.size w1.drew w2 from hd2.below)
    have HBB := Aside0.mk hbb
    have T2 := Aside0.mk (T1.out.below hbb)
    have hk6 := pw_cell_below hbb k6
    clear hd2 hHeld k3 hbb HCNT
    by_cases hroom : cntN (s.waits.length + r.length) > secN d.n - s.used
    · have d1 : decide (secN d.n - s.used < cntN (s.waits.length + r.length)) = true := decide_eq_true hroom
      have p1 := eq_true (show secN d.n - s.used < cntN (s.waits.length + r.length) from hroom)
      rw [if_pos hroom] at hF
      have HF := Aside0.mk hF
      clear hF hroom k6 hk6
      rw [d1]
      go_wp2_with fail
      go_ret
      exact ⟨by rw [HF.out]; rfl, by rw [HF.out]; exact T2.out⟩
    · have d1 : decide (secN d.n - s.used < cntN (s.waits.length + r.length)) = false := decide_eq_false hroom
      have p1 := eq_false (show ¬ secN d.n - s.used < cntN (s.waits.length + r.length) from hroom)
      rw [if_neg hroom] at hF
      have HF := Aside0.mk hF
      clear hF hroom k6
      rw [d1]
      obtain ⟨okj2, hj2, hH2, hokj2, hst2⟩ := T2.out.jour
      obtain ⟨vw2, h1, h2, h3, h4⟩ := hj2
      have ev : vw2 = .slice Aw s.waits.length cw := by
        have := h1.cell (j := 6) (v := vw2) rfl
        rw [hk6] at this
        exact (Option.some.inj this).symm
      subst ev
      have HR2 := Aside0.mk (Kd.R_mono (ok' := fun k => (okj2 k ∧ k ≠ gj ∧ k < w2.heap.size) ∨ w2.heap.size ≤ k) (Kd.R_bound (Kd.R_types h2 h1 (fun q hq e => by subst e; simp [Kd.int, Kd.scalar] at hq))) (fun k hk => .inl ⟨hk.1.1, hk.1.2, hk.2.2.1⟩))
      have HOWN := Aside0.mk h2.1
      have HG1 := Aside0.mk h1
      have e3 : wrap64 (s.count + 1) = s.count + 1 := by have := HS.out.2.2.1; unfold wrap64; omega
      have HG3 := Aside0.mk (And.intro h3 h4)
      have HST2 := Aside0.mk hst2
      have HSO := Aside0.mk (fun k (hk : okj2 k) => (hokj2 k hk).2)
      have HC2 := Aside0.mk (Kd.C_below HV.out.2.2 HBB.out)
      have HH2 := Aside0.mk hH2
      have HLN := Aside0.mk (show s.waits.length + r.length ≤ 1100000 by omega)
      clear h1 h2 h3 h4 hst2 hokj2 H1 H2 H3 hwl hul hrl hH hH2
      go_wp2_with ((with_reducible refine gate_builtin (b := .append) (xs := #[.tmp 37, .tmp 38]) rfl ?_); at_builtin; refine Kd.R_append_rows (Kd.int .u8) (w0 := w2) H rfl (.tmp 37) (.tmp 38) 31 5 (.int .u8 0) 1 rfl Try.underlying31 (by kernel_rfl) rfl (by decide) (by decide) (.slice Aw s.waits.length cw) s.waits r A1 r.length c1 (fun k => (okj2 k ∧ k ≠ gj ∧ k < w2.heap.size) ∨ w2.heap.size ≤ k) (fun _ => False) rfl rfl HR2.out HC2.out (fun _ _ h => h) (fun _ h => h.elim) (fun k hk => .inr hk) (Below.refl _ _) HH2.out ?aL ?_; (case aL => have := HLN.out; omega); intro v5 w5 ho hb5 hg5 hat5; obtain ⟨A5, c5, e5⟩ := Kd.R_slice ho; rw [List.length_append] at e5; subst e5; have h5 : HoldsRow w5 gj 64 (jcells g s (.slice Aw s.waits.length cw)) := (hg5.block gj HG1.out.lt (Dk.ne_own HG1.out HR2.out (by decide))).trans HG1.out; have K6 := h5.cell (j := 6) (v := .slice Aw s.waits.length cw) rfl; have Z6 := h5.free 6; have K5 := h5.cell (j := 5) (v := .int .i64 s.count) rfl; have Z5 := h5.free 5; have J2 := JOnly.trans hb5 (Kept.of_grown hg5 (Kept.refl w2 okj2) (fun k e => .inl (HOWN.out k e))) (fun k hk => hk) (JIs.set_waits (s := s) (ok := fun k => okj2 k ∨ w2.heap.size ≤ k) h5 (.inl HG3.out.1) HG3.out.2 ho (fun k hk hlt => hk.elim (fun q => .inl q.1) .inr)); have J3 := Aside0.mk (HST2.out _ _ (J2.then_ (fun ok1 h => h.set 5 (.int .i64 (s.count + 1)) { s with waits := s.waits ++ r, count := s.count + 1 } (fun _ => rfl) rfl))); clear ho hb5 hg5 hat5 h5 J2)
      go_ret
      exact ⟨by rw [HF.out]; rfl, by rw [HF.out]; exact J3.out⟩
end Go.Proofs.Ythnjkmjcacoajaa.Jn
end

section
/- What lay defers, walked: a journal whose write failed is broken. No condition. -/
namespace Go.Proofs.Ythnjkmjcacoajaa.Jn
open Go Go.RowKit Go.Proofs.YthnjkmjcacoajaaW.PrintWords Go.Proofs.YthnjkmjcacoajaaW.PrintLast Go.Proofs.YthnjkmjcacoajaaW.PrintMore Go.Proofs.Ythnjkmjcacoajaa.Base Go.Proofs.Ythnjkmjcacoajaa.Arr
open Go.Proofs.Ythnjkmjcacoajaa.Dk (DS DiskIs DiskTo)
set_option linter.unusedVariables false
set_option linter.unusedSimpArgs false

set_option maxHeartbeats 2000000 in
set_option maxRecDepth 100000 in
theorem lay1_calls (bj be gj : Nat) (er : Int) (dd : Bool) (u : FrameMode) (w : World) (hj : w.cell? ⟨bj, 0, none⟩ = some (.pointer (some ⟨gj, 0, none⟩))) (he : w.cell? ⟨be, 0, none⟩ = some (.int .i64 er)) (hb : w.cell? ⟨gj, 7, none⟩ = some (.bool dd)) (hz : w.frozen? ⟨gj, 7, none⟩ = false) :
    CallsD Try.prog 50 #[.pointer (some ⟨bj, 0, none⟩), .pointer (some ⟨be, 0, none⟩)] u w fun e u' w' => u' = u ∧ (e = .returned (.tuple #[]) ∧ w' = w.drew.setCell ⟨gj, 7, none⟩ (.bool (dd || er != 0))) := by
  cases dd
  · go_enter_d Try.func50, Try.ntmps50
    go_wp2_with fail
    refine start_ (n := 12) (S := fun w' => w'.cell? ⟨bj, 0, none⟩ = some (.pointer (some ⟨gj, 0, none⟩)) ∧ w'.cell? ⟨be, 0, none⟩ = some (.int .i64 er) ∧ w'.cell? ⟨gj, 7, none⟩ = some (.bool false)) (ds := [11]) #[false, false, false, false, false, false, false, false, false, false, false, false] (by kernel_rfl) rfl rfl ⟨hj, he, hb⟩ (fun hHeld => ?_)
    refine take_ (i := 0) (N := some 2) (v := ?_) (a' := ?_) #[true, false, false, false, false, false, false, false, false, false, false, false] rfl rfl (by kernel_rfl) (fun _ _ _ h => h) (Or.inl ⟨by rfl, ?_⟩) hHeld ?_ ?_
    rotate_left
    · rintro w' ⟨s0, s1, s2⟩
      go_simp
      with_reducible rfl
    rotate_left
    · simp only [Act.put, List.setIfInBounds_toArray, List.set_cons_zero, List.set_cons_succ, i64_w, i32_w]
      rfl
    refine take_ (i := 1) (N := some 3) (v := ?_) (a' := ?_) #[true, true, false, false, false, false, false, false, false, false, false, false] rfl rfl (by kernel_rfl) (fun _ _ _ h => h) (Or.inl ⟨by rfl, ?_⟩) hHeld ?_ ?_
    rotate_left
    · rintro w' ⟨s0, s1, s2⟩
      go_simp
      with_reducible rfl
    rotate_left
    · simp only [Act.put, List.setIfInBounds_toArray, List.set_cons_zero, List.set_cons_succ, i64_w, i32_w]
      rfl
    refine pure_ (i := 2) (N := some 4) (v := ?_) (a' := ?_) #[true, true, true, false, false, false, false, false, false, false, false, false] rfl rfl (by kernel_rfl) (fun _ _ _ h => h) (Or.inl ⟨by rfl, ?_⟩) ?_ ?_
    rotate_left
    · intro w'
      go_simp
      with_reducible rfl
    rotate_left
    · simp only [Act.put, List.setIfInBounds_toArray, List.set_cons_zero, List.set_cons_succ, i64_w, i32_w]
      rfl
    refine pure_ (i := 3) (N := some 5) (v := ?_) (a' := ?_) #[true, true, true, true, false, false, false, false, false, false, false, false] rfl rfl (by kernel_rfl) (fun _ _ _ h => h) (Or.inl ⟨by rfl, ?_⟩) ?_ ?_
    rotate_left
    · intro w'
      go_simp
      with_reducible rfl
    rotate_left
    · simp only [Act.put, List.setIfInBounds_toArray, List.set_cons_zero, List.set_cons_succ, i64_w, i32_w]
      rfl
    refine take_ (i := 4) (N := some 6) (v := ?_) (a' := ?_) #[true, true, true, true, true, false, false, false, false, false, false, false] rfl rfl (by kernel_rfl) (fun _ _ _ h => h) (Or.inl ⟨by rfl, ?_⟩) hHeld ?_ ?_
    rotate_left
    · rintro w' ⟨s0, s1, s2⟩
      go_simp
      with_reducible rfl
    rotate_left
    · simp only [Act.put, List.setIfInBounds_toArray, List.set_cons_zero, List.set_cons_succ, i64_w, i32_w]
      rfl
    refine pure_ (i := 5) (N := some 7) (v := ?_) (a' := ?_) #[true, true, true, true, true, true, false, false, false, false, false, false] rfl rfl (by kernel_rfl) (fun _ _ _ h => h) (Or.inl ⟨by rfl, ?_⟩) ?_ ?_
    rotate_left
    · intro w'
      go_simp
      with_reducible rfl
    rotate_left
    · simp only [Act.put, List.setIfInBounds_toArray, List.set_cons_zero, List.set_cons_succ, i64_w, i32_w]
      rfl
    refine take_ (i := 6) (N := some 8) (v := ?_) (a' := ?_) #[true, true, true, true, true, true, true, false, false, false, false, false] rfl rfl (by kernel_rfl) (fun _ _ _ h => h) (Or.inl ⟨by rfl, ?_⟩) hHeld ?_ ?_
    rotate_left
    · rintro w' ⟨s0, s1, s2⟩
      go_simp
      with_reducible rfl
    rotate_left
    · simp only [Act.put, List.setIfInBounds_toArray, List.set_cons_zero, List.set_cons_succ, i64_w, i32_w]
      rfl
    refine pure_ (i := 7) (N := some 9) (v := ?_) (a' := ?_) #[true, true, true, true, true, true, true, true, false, false, false, false] rfl rfl (by kernel_rfl) (fun _ _ _ h => h) (Or.inl ⟨by rfl, ?_⟩) ?_ ?_
    rotate_left
    · intro w'
      go_simp
      with_reducible rfl
    rotate_left
    · simp only [Act.put, List.setIfInBounds_toArray, List.set_cons_zero, List.set_cons_succ, i64_w, i32_w]
      rfl
    refine pure_ (i := 8) (N := some 10) (v := ?_) (a' := ?_) #[true, true, true, true, true, true, true, true, true, false, false, false] rfl rfl (by kernel_rfl) (fun _ _ _ h => h) (Or.inl ⟨by rfl, ?_⟩) ?_ ?_
    rotate_left
    · intro w'
      go_simp
      with_reducible rfl
    rotate_left
    · simp only [Act.put, List.setIfInBounds_toArray, List.set_cons_zero, List.set_cons_succ, i64_w, i32_w]
      rfl
    refine pure_ (i := 9) (N := some 11) (v := ?_) (a' := ?_) #[true, true, true, true, true, true, true, true, true, true, false, false] rfl rfl (by kernel_rfl) (fun _ _ _ h => h) (Or.inl ⟨by rfl, ?_⟩) ?_ ?_
    rotate_left
    · intro w'
      go_simp
      with_reducible rfl
    rotate_left
    · simp only [Act.put, List.setIfInBounds_toArray, List.set_cons_zero, List.set_cons_succ, i64_w, i32_w]
      rfl
    refine pure_ (i := 10) (N := some 12) (v := ?_) (a' := ?_) #[true, true, true, true, true, true, true, true, true, true, true, false] rfl rfl (by kernel_rfl) (fun _ _ _ h => h) (Or.inl ⟨by rfl, ?_⟩) ?_ ?_
    rotate_left
    · intro w'
      go_simp
      with_reducible rfl
    rotate_left
    · simp only [Act.put, List.setIfInBounds_toArray, List.set_cons_zero, List.set_cons_succ, i64_w, i32_w]
      rfl
    refine last_ (i := 11) (N := none) #[true, true, true, true, true, true, true, true, true, true, true, true] rfl rfl (by kernel_rfl) (by decide) (fun K hK => ?_)
    refine skip_ (w1 := ?_) (by rfl) rfl ?_ ?_
    rotate_left
    · go_simp
      rfl
    refine hK.out _ _ ?_
    clear hK K
    refine done_ (by kernel_rfl) ?_
    
    go_wp2_with fail
    go_end0
    exact ⟨rfl, rfl⟩
  · go_enter_d Try.func50, Try.ntmps50
    go_wp2_with fail
    refine start_ (n := 12) (S := fun w' => w'.cell? ⟨bj, 0, none⟩ = some (.pointer (some ⟨gj, 0, none⟩)) ∧ w'.cell? ⟨be, 0, none⟩ = some (.int .i64 er) ∧ w'.cell? ⟨gj, 7, none⟩ = some (.bool true)) (ds := [11]) #[false, false, false, false, false, false, false, false, false, false, false, false] (by kernel_rfl) rfl rfl ⟨hj, he, hb⟩ (fun hHeld => ?_)
    refine take_ (i := 0) (N := some 2) (v := ?_) (a' := ?_) #[true, false, false, false, false, false, false, false, false, false, false, false] rfl rfl (by kernel_rfl) (fun _ _ _ h => h) (Or.inl ⟨by rfl, ?_⟩) hHeld ?_ ?_
    rotate_left
    · rintro w' ⟨s0, s1, s2⟩
      go_simp
      with_reducible rfl
    rotate_left
    · simp only [Act.put, List.setIfInBounds_toArray, List.set_cons_zero, List.set_cons_succ, i64_w, i32_w]
      rfl
    refine take_ (i := 1) (N := some 3) (v := ?_) (a' := ?_) #[true, true, false, false, false, false, false, false, false, false, false, false] rfl rfl (by kernel_rfl) (fun _ _ _ h => h) (Or.inl ⟨by rfl, ?_⟩) hHeld ?_ ?_
    rotate_left
    · rintro w' ⟨s0, s1, s2⟩
      go_simp
      with_reducible rfl
    rotate_left
    · simp only [Act.put, List.setIfInBounds_toArray, List.set_cons_zero, List.set_cons_succ, i64_w, i32_w]
      rfl
    refine pure_ (i := 2) (N := some 4) (v := ?_) (a' := ?_) #[true, true, true, false, false, false, false, false, false, false, false, false] rfl rfl (by kernel_rfl) (fun _ _ _ h => h) (Or.inl ⟨by rfl, ?_⟩) ?_ ?_
    rotate_left
    · intro w'
      go_simp
      with_reducible rfl
    rotate_left
    · simp only [Act.put, List.setIfInBounds_toArray, List.set_cons_zero, List.set_cons_succ, i64_w, i32_w]
      rfl
    refine pure_ (i := 3) (N := some 5) (v := ?_) (a' := ?_) #[true, true, true, true, false, false, false, false, false, false, false, false] rfl rfl (by kernel_rfl) (fun _ _ _ h => h) (Or.inl ⟨by rfl, ?_⟩) ?_ ?_
    rotate_left
    · intro w'
      go_simp
      with_reducible rfl
    rotate_left
    · simp only [Act.put, List.setIfInBounds_toArray, List.set_cons_zero, List.set_cons_succ, i64_w, i32_w]
      rfl
    refine take_ (i := 4) (N := some 6) (v := ?_) (a' := ?_) #[true, true, true, true, true, false, false, false, false, false, false, false] rfl rfl (by kernel_rfl) (fun _ _ _ h => h) (Or.inl ⟨by rfl, ?_⟩) hHeld ?_ ?_
    rotate_left
    · rintro w' ⟨s0, s1, s2⟩
      go_simp
      with_reducible rfl
    rotate_left
    · simp only [Act.put, List.setIfInBounds_toArray, List.set_cons_zero, List.set_cons_succ, i64_w, i32_w]
      rfl
    refine pure_ (i := 5) (N := some 7) (v := ?_) (a' := ?_) #[true, true, true, true, true, true, false, false, false, false, false, false] rfl rfl (by kernel_rfl) (fun _ _ _ h => h) (Or.inl ⟨by rfl, ?_⟩) ?_ ?_
    rotate_left
    · intro w'
      go_simp
      with_reducible rfl
    rotate_left
    · simp only [Act.put, List.setIfInBounds_toArray, List.set_cons_zero, List.set_cons_succ, i64_w, i32_w]
      rfl
    refine pure_ (i := 6) (N := some 8) (v := undef) (a' := ?_) #[true, true, true, true, true, true, true, false, false, false, false, false] rfl rfl (by kernel_rfl) (fun _ _ _ h => h) (Or.inr ⟨by rfl, rfl⟩) ?_ ?_
    rotate_left
    · simp only [Act.put, List.setIfInBounds_toArray, List.set_cons_zero, List.set_cons_succ, i64_w, i32_w]
      rfl
    refine pure_ (i := 7) (N := some 9) (v := undef) (a' := ?_) #[true, true, true, true, true, true, true, true, false, false, false, false] rfl rfl (by kernel_rfl) (fun _ _ _ h => h) (Or.inr ⟨by rfl, rfl⟩) ?_ ?_
    rotate_left
    · simp only [Act.put, List.setIfInBounds_toArray, List.set_cons_zero, List.set_cons_succ, i64_w, i32_w]
      rfl
    refine pure_ (i := 8) (N := some 10) (v := ?_) (a' := ?_) #[true, true, true, true, true, true, true, true, true, false, false, false] rfl rfl (by kernel_rfl) (fun _ _ _ h => h) (Or.inl ⟨by rfl, ?_⟩) ?_ ?_
    rotate_left
    · intro w'
      go_simp
      with_reducible rfl
    rotate_left
    · simp only [Act.put, List.setIfInBounds_toArray, List.set_cons_zero, List.set_cons_succ, i64_w, i32_w]
      rfl
    refine pure_ (i := 9) (N := some 11) (v := ?_) (a' := ?_) #[true, true, true, true, true, true, true, true, true, true, false, false] rfl rfl (by kernel_rfl) (fun _ _ _ h => h) (Or.inl ⟨by rfl, ?_⟩) ?_ ?_
    rotate_left
    · intro w'
      go_simp
      with_reducible rfl
    rotate_left
    · simp only [Act.put, List.setIfInBounds_toArray, List.set_cons_zero, List.set_cons_succ, i64_w, i32_w]
      rfl
    refine pure_ (i := 10) (N := some 12) (v := ?_) (a' := ?_) #[true, true, true, true, true, true, true, true, true, true, true, false] rfl rfl (by kernel_rfl) (fun _ _ _ h => h) (Or.inl ⟨by rfl, ?_⟩) ?_ ?_
    rotate_left
    · intro w'
      go_simp
      with_reducible rfl
    rotate_left
    · simp only [Act.put, List.setIfInBounds_toArray, List.set_cons_zero, List.set_cons_succ, i64_w, i32_w]
      rfl
    refine last_ (i := 11) (N := none) #[true, true, true, true, true, true, true, true, true, true, true, true] rfl rfl (by kernel_rfl) (by decide) (fun K hK => ?_)
    refine skip_ (w1 := ?_) (by rfl) rfl ?_ ?_
    rotate_left
    · go_simp
      rfl
    refine hK.out _ _ ?_
    clear hK K
    refine done_ (by kernel_rfl) ?_
    
    go_wp2_with fail
    go_end0
    exact ⟨rfl, rfl⟩
end Go.Proofs.Ythnjkmjcacoajaa.Jn
end

section
/- lay of a journal, walked. Conditions: a good stamp; bytes to lay; bounds. -/
namespace Go.Proofs.Ythnjkmjcacoajaa.Jn
open Go Go.RowKit Go.Proofs.YthnjkmjcacoajaaW.PrintWords Go.Proofs.YthnjkmjcacoajaaW.PrintLast Go.Proofs.YthnjkmjcacoajaaW.PrintMore Go.Proofs.Ythnjkmjcacoajaa.Base Go.Proofs.Ythnjkmjcacoajaa.Arr
open Go.Proofs.Ythnjkmjcacoajaa.Dk (DS DiskIs DiskTo writeF flushF)
open Go.Proofs.Ythnjkmjcacoajaa.Ext (goodS runCells)
set_option linter.unusedVariables false
set_option linter.unusedSimpArgs false

/-- the cells written one behind the other, until one fails -/
def writesF (d : DS) (at_ : Int) : List (List Int) → Int × DS
  | [] => (0, d)
  | c :: cs => if (writeF d at_ c).1 ≠ 0 then writeF d at_ c else writesF (writeF d at_ c).2 (at_ + 1) cs
theorem doingF_waits (d : DS) : (Dk.doingF d).2.waits.length ≤ d.waits.length := by
  unfold Dk.doingF
  split
  · exact Nat.le_refl _
  · split
    · exact Nat.le_refl _
    · exact Nat.zero_le _
theorem writeF_waits (d : DS) (at_ : Int) (b : List Int) : (writeF d at_ b).2.waits.length ≤ d.waits.length + 1 := by
  have := doingF_waits d
  unfold writeF
  split
  · exact Nat.le_succ _
  · split
    · exact Nat.le_succ _
    · split
      · omega
      · rw [List.length_append, List.length_singleton]
        exact Nat.succ_le_succ this
/-- written, and flushed -/
def putF (d : DS) (at_ : Int) (l : List (List Int)) : Int × DS := if (writesF d at_ l).1 ≠ 0 then writesF d at_ l else flushF (writesF d at_ l).2
def layF (d : DS) (s : JS) (at_ gen : Int) (b : List Int) : Int × DS × JS :=
  let q := putF d at_ (runCells gen.toNat s.epoch.toNat b)
  (q.1, q.2, { s with broken := s.broken || q.1 != 0 })
/-- rows that lie outside of S, read later -/
def RowsAt (w : World) (S : Nat → Prop) (A : Option Addr) (l : List (List Int)) : Prop := ∀ j r, l[j]? = some r → ∃ ad A2 c2, A = some ad ∧ r.length ≤ c2 ∧ ∀ W', Kept w W' S → W'.cell? (ad.add j) = some (.slice A2 r.length c2) ∧ Kd.C (Kd.int .u8) W' A2 r.length r
theorem infoRow : (Try.prog.info? 31).map (fun i => (i.zero, i.size, i.bytes)) = some (some (.slice none 0 0), 1, 24) := by kernel_rfl
theorem row_elem {w : World} {A : Option Addr} {n : Nat} {l : List (List Int)} (hC : Kd.C (Kd.slice 5 (Kd.int .u8)) w A n l) {j : Nat} {r : List Int} (hj : l[j]? = some r) : ∃ ad A2 c2, A = some ad ∧ w.cell? (ad.add j) = some (.slice A2 r.length c2) ∧ r.length ≤ c2 ∧ Kd.C (Kd.int .u8) w A2 r.length r := by
  have hjl : j < l.length := (List.getElem?_eq_some_iff.1 hj).1
  obtain ⟨hn, _, hcc⟩ := hC
  obtain ⟨ad, rfl, hcell⟩ := hcc (by omega)
  obtain ⟨cs, hlen, ⟨A2, c2, rfl, h2, h3⟩, h4⟩ := hcell j r hj
  have := h4 0 _ rfl
  rw [show j * (Kd.slice 5 (Kd.int .u8)).sz + 0 = j by show j * 1 + 0 = j; omega] at this
  exact ⟨ad, A2, c2, rfl, this, h2, h3⟩
theorem rows_at {w : World} {base : Nat} {ok S : Nat → Prop} {A : Option Addr} {n c : Nat} {l : List (List Int)} {t : TypeId} (h : Kd.S (Kd.slice 5 (Kd.int .u8)) t w base ok (.slice A n c) l) (hok : ∀ k, ok k → ¬ S k) : RowsAt w S A l := by
  intro j r hj
  obtain ⟨hn, hc, hC⟩ := Kd.S_reads' h
  obtain ⟨ad, A2, c2, rfl, h1, h2, h3⟩ := row_elem hC hj
  refine ⟨ad, A2, c2, rfl, h2, fun W' hk => ?_⟩
  have hS' := Kd.S_kept h hk hok
  obtain ⟨_, _, hC'⟩ := Kd.S_reads' hS'
  obtain ⟨ad', A2', c2', e0, h1', h2', h3'⟩ := row_elem hC' hj
  injection e0 with e0
  subst e0
  have hb : W'.heap[ad.block]? = w.heap[ad.block]? := hk.2 ad.block (Kd.S_lt h ad.block rfl) (hok ad.block ((Kd.S_R h).1 ad.block rfl))
  have hbl : (ad.add j).block = ad.block := by unfold Addr.add; split <;> rfl
  have e1 : W'.cell? (ad.add j) = w.cell? (ad.add j) := World.cell?_of_block (by rw [hbl]; exact hb)
  rw [e1, h1] at h1'
  injection h1' with h1'
  injection h1' with ea el ec
  subst ea
  exact ⟨e1.trans h1, h3'⟩
theorem RowsAt.next {w : World} {S : Nat → Prop} {ad : Addr} {r : List Int} {rs : List (List Int)} {c : Nat} (h : RowsAt w S (some ad) (r :: rs)) (hc : rs.length + 1 ≤ c) : RowsAt w S (if c = 1 then some ad else some ⟨ad.block, ad.off + 1, none⟩) rs := by
  intro j q hj
  have hjl : j < rs.length := (List.getElem?_eq_some_iff.1 hj).1
  rw [if_neg (by omega)]
  obtain ⟨ad', A2, c2, e0, h1, h2⟩ := h (j + 1) q (by simpa using hj)
  injection e0 with e0
  subst e0
  refine ⟨_, A2, c2, rfl, h1, fun W' hk => ?_⟩
  have e1 : (⟨ad.block, ad.off + 1, none⟩ : Addr) = ad.add 1 := by simp [Addr.add]
  rw [e1, add_add, Nat.add_comm 1 j]
  exact h2 W' hk
/-- where the disk's writes have led, beside a cell of one's own -/
def LI (w3 wi : World) (H : Nat) (okd : Nat → Prop) (be g : Nat) (d : DS) (er : Int) : Prop :=
  Below H w3 wi ∧ Kept w3 wi (fun k => okd k ∨ k = be) ∧ wi.heap[be]? = some (.cells #[.int .i64 er] 24 (0, 0)) ∧ ∃ ok', (∀ k, ok' k → (okd k ∨ w3.heap.size ≤ k) ∧ k < wi.heap.size) ∧ DiskIs wi H ok' g d
theorem LI.step {w3 wi wj : World} {H : Nat} {okd ok' : Nat → Prop} {be g : Nat} {d d' : DS} {er e' : Int} (hbe : be < w3.heap.size) (hH : H ≤ be) (hne : ∀ k, okd k → k ≠ be) (h : LI w3 wi H okd be g d er) (hs : ∀ k, ok' k → (okd k ∨ w3.heap.size ≤ k) ∧ k < wi.heap.size) (hto : DiskTo wi wj H ok' g d') :
    LI w3 (wj.setCell ⟨be, 0, none⟩ (.int .i64 e')) H okd be g d' e' ∧ wj.cell? ⟨be, 0, none⟩ = some (.int .i64 er) ∧ wj.frozen? ⟨be, 0, none⟩ = false := by
  obtain ⟨h1, h2, h3, -⟩ := h
  obtain ⟨t1, t2, ok2, t3, t4⟩ := hto
  have hlt : be < wi.heap.size := Nat.lt_of_lt_of_le hbe h2.1
  have hno : ¬ ok' be := fun q => by
    rcases (hs be q).1 with q | q
    · exact hne be q rfl
    · omega
  have hc : HoldsRow wj be 24 #[.int .i64 er] := (t2.2 be hlt hno).trans h3
  have hset := hc.set 0 (.int .i64 e')
  refine ⟨⟨(h1.trans t1).setCell (show H ≤ (⟨be, 0, none⟩ : Addr).block from hH) _, ?_, hset, ok2, fun k hk => ⟨?_, by rw [World.size_setCell]; exact (t3 k hk).2⟩, ?_⟩, hc.cell rfl, hc.free 0⟩
  · exact ((h2.then_ t2 (fun k hk => (hs k hk).1.elim (fun q => .inl (.inl q)) .inr))).setCell (p := ⟨be, 0, none⟩) (.inl (.inr rfl)) _
  · rcases (t3 k hk).1 with q | q
    · exact (hs k q).1
    · exact .inr (Nat.le_trans h2.1 q)
  · refine Dk.DiskIs.move t4 (fun k hk _ => Below.heap_setCell wj ⟨be, 0, none⟩ _ k (fun e => ?_))
    subst e
    rcases (t3 k hk).1 with q | q
    · exact hno q
    · exact absurd hlt (Nat.not_lt.2 q)
theorem LI.again {w3 wi : World} {H : Nat} {okd : Nat → Prop} {be g : Nat} {d : DS} {er e' : Int} (hbe : be < w3.heap.size) (hH : H ≤ be) (hne : ∀ k, okd k → k ≠ be) (h : LI w3 wi H okd be g d er) : LI w3 (wi.setCell ⟨be, 0, none⟩ (.int .i64 e')) H okd be g d e' ∧ wi.cell? ⟨be, 0, none⟩ = some (.int .i64 er) ∧ wi.frozen? ⟨be, 0, none⟩ = false := by
  obtain ⟨ok', hs, hd⟩ := h.2.2.2
  exact LI.step hbe hH hne h hs (DiskTo.same hd |> fun q => ⟨q.1, q.2.1, ok', fun k hk => ⟨.inl hk, (hs k hk).2⟩, hd⟩)
/-- a result that lives in a cell of its own -/
theorem results_cell1 {fn : Func} {p : Tmp} (h : fn.results = #[.cell p 24]) (tmps : Array Value) (w : World) (b : Nat) (v : Value) (hp : tmps.getD p undef = .pointer (some ⟨b, 0, none⟩)) (hc : w.cell? ⟨b, 0, none⟩ = some v) : (results fn tmps).run Try.prog w = .ok v w := by
  have hp' : tmps[p]?.getD undef = .pointer (some ⟨b, 0, none⟩) := by simpa using hp
  simp [results, h, hp', asAddr, hc, go_sem]
theorem LI.to {w w3 wi : World} {H : Nat} {okd : Nat → Prop} {be g : Nat} {d : DS} {er : Int} (hB : Below w.heap.size w w3) (hok : ∀ k, okd k → k < w.heap.size) (hbe : w.heap.size ≤ be) (hH : H ≤ w.heap.size) (h : LI w3 wi H okd be g d er) : DiskTo w wi H okd g d := by
  obtain ⟨h1, h2, -, ok', h3, h4⟩ := h
  refine ⟨(hB.mono hH).trans h1, ⟨Nat.le_trans hB.size h2.1, fun i hi hn => ?_⟩, ok', fun k hk => ⟨?_, (h3 k hk).2⟩, h4⟩
  · rw [h2.2 i (Nat.lt_of_lt_of_le hi hB.size) (fun q => q.elim hn (fun e => by omega))]
    exact hB.block i hi
  · rcases (h3 k hk).1 with q | q
    · exact .inl q
    · exact .inr (Nat.le_trans hB.size q)
theorem lay_fin {w wf : World} {H : Nat} {ok : Nat → Prop} {g gj : Nat} {d : DS} {s : JS} (T : JTo w wf H ok g gj d s) (er : Int) : JTo w (wf.drew.setCell ⟨gj, 7, none⟩ (.bool (s.broken || er != 0))) H ok g gj d { s with broken := s.broken || er != 0 } := by
  obtain ⟨okj, hj, -, -, hst⟩ := (T.below (below_drew (Below.refl _ _))).jour
  exact hst _ _ (hj.set 7 _ _ (fun _ => rfl) rfl)
/-- what the deferred call asks -/
theorem lay_door {w wf : World} {H : Nat} {ok : Nat → Prop} {g gj : Nat} {d : DS} {s : JS} (T : JTo w wf H ok g gj d s) : wf.cell? ⟨gj, 0, none⟩ = some (.pointer (some ⟨g, 0, none⟩)) ∧ wf.cell? ⟨gj, 7, none⟩ = some (.bool s.broken) ∧ wf.frozen? ⟨gj, 7, none⟩ = false ∧ ∃ vw, HoldsRow wf gj 64 (jcells g s vw) := by
  obtain ⟨okj, ⟨vw, h1, _⟩, -⟩ := T.jour
  exact ⟨h1.cell rfl, h1.cell rfl, h1.free 7, vw, h1⟩
set_option maxHeartbeats 4000000 in
set_option maxRecDepth 100000 in
theorem lay_calls (w : World) (H : Nat) (ok : Nat → Prop) (g gj : Nat) (d : DS) (s : JS) (h : JD w H ok g gj d s) (at_ gen : Int) (hat : 0 ≤ at_ ∧ at_ ≤ 1000000) (hg : goodS gen s.epoch) (A : Option Addr) (c : Nat) (b : List Int) (hb : Kd.C (Kd.int .u8) w A b.length b) (hc : b.length ≤ c) (h0 : 0 < b.length) (hl : b.length ≤ 1000000) (hw : d.waits.length ≤ 500000) :
    Calls Try.prog 30 #[.pointer (some ⟨gj, 0, none⟩), .int .i64 at_, .int .i64 gen, .slice A b.length c] w fun e w' => e = .returned (.int .i64 (layF d s at_ gen b).1) ∧ JTo w w' H ok g gj (layF d s at_ gen b).2.1 (layF d s at_ gen b).2.2 := by
  have hmf : ∀ (fn : Fn) (first cap : Array Value) (w : World), (Instr.makeFunc fn first cap).run Try.prog w = .ok (.func fn first cap) w := fun _ _ _ _ => rfl
  have T0 := Aside0.mk (JTo.start h)
  clear h
  obtain ⟨okj0, hj0, hH, hokj, -⟩ := T0.out.jour
  obtain ⟨vw, h1, -, h3, h4⟩ := hj0
  obtain ⟨k0, k1, k2, k3, k4, k5, k6, k7⟩ := jcell h1
  have hglt := h1.lt
  obtain ⟨w1, hw1⟩ : ∃ w1 : World, w1 = w.alloc (.cells #[.pointer (some ⟨gj, 0, none⟩)] 28) := ⟨_, rfl⟩
  have hB1 : Below w.heap.size w w1 := by rw [hw1]; exact below_alloc (Below.refl _ _) _
  have hj1 : HoldsRow w1 w.heap.size 28 #[.pointer (some ⟨gj, 0, none⟩)] := by rw [hw1]; exact HoldsRow.new _ _ _
  have hs1 : w1.heap.size = w.heap.size + 1 := by rw [hw1]; simp
  obtain ⟨w2, hw2⟩ : ∃ w2 : World, w2 = w1.alloc (.cells #[.int .i64 0] 24) := ⟨_, rfl⟩
  have hB2 : Below w.heap.size w w2 := by rw [hw2]; exact below_alloc hB1 _
  have hj2 : HoldsRow w2 w.heap.size 28 #[.pointer (some ⟨gj, 0, none⟩)] := by rw [hw2]; exact hj1.alloc _
  have he2 : HoldsRow w2 (w.heap.size + 1) 24 #[.int .i64 0] := by rw [hw2, ← hs1]; exact HoldsRow.new _ _ _
  have hs2 : w2.heap.size = w.heap.size + 2 := by rw [hw2]; simp [hs1]
  have hG2 : HoldsRow w2 gj 64 (jcells g s vw) := h1.below hB2 hglt
  have q2 := hG2.cell (j := 2) (v := .int .i64 s.epoch) rfl
  have HX := Aside0.mk (show w2 = (w.alloc (.cells #[.pointer (some ⟨gj, 0, none⟩)] 28)).alloc (.cells #[.int .i64 0] 24) by rw [hw2, hw1])
  rw [HX.out] at q2
  have HB2 := Aside0.mk hB2
  have HJ2 := Aside0.mk hj2
  have HE2 := Aside0.mk he2
  have HS2 := Aside0.mk hs2
  have HG2 := Aside0.mk hG2
  have HBR := Aside0.mk (Kd.C_below hb hB2)
  have HC := Aside0.mk hc
  have HCE := Aside0.mk (show Ext.strip_Cells.f gen s.epoch b = some (runCells gen.toNat s.epoch.toNat b, 0) by
    unfold Ext.strip_Cells.f
    rw [if_neg (fun q => q hg), if_neg (by omega), if_pos (by omega)])
  clear k0 k1 k2 k3 k4 k5 k6 k7 hw1 hw2 hB1 hj1 hs1 hB2 hj2 he2 hs2 hG2 h1 hb hc hg
  go_enter_defers Try.func30, Try.ntmps30
  go_wp2_with fail
  rw [← HX.out]
  clear q2 HX
  refine (Ext.strip_Cells.calls gen s.epoch A c b (runCells gen.toNat s.epoch.toNat b) 0 w2 HBR.out HC.out HCE.out).mono ?_
  rintro e w3 ⟨v3, rfl, hv3, hb3⟩
  obtain ⟨okd, hD, -, hokd, hcps⟩ := T0.out.disk
  have hokd' : ∀ k, okd k → k < w.heap.size := fun k hk => (hokd k hk).2
  obtain ⟨rows, hrows⟩ : ∃ l, l = runCells gen.toNat s.epoch.toNat b := ⟨_, rfl⟩
  rw [← hrows] at hv3
  have HROWS := Aside0.mk hrows
  have hnr : rows.length ≤ 30000 := by rw [hrows, Ext.runCells_len]; unfold Ext.pieces; omega
  have hr64 : ∀ r ∈ rows, r.length ≤ 64 := by rw [hrows]; exact Ext.runCells_rows _ _ _
  have hbe : w.heap.size + 1 < w3.heap.size := by have := hb3.size; have := HS2.out; omega
  have hB23 : Below w.heap.size w w3 := HB2.out.trans (hb3.mono (by have := HS2.out; omega))
  have hL0 : LI w3 w3 H okd (w.heap.size + 1) g d 0 := ⟨Below.refl _ _, Kept.refl _ _, (hb3.block _ HE2.out.lt).trans HE2.out, fun k => okd k, fun k hk => ⟨.inl hk, by have := hokd' k hk; omega⟩, Dk.DiskIs.below hD hB23⟩
  have hne : ∀ k, okd k → k ≠ w.heap.size + 1 := fun k hk e => by have := hokd' k hk; omega
  obtain ⟨hL1, hce, hze⟩ := LI.again (e' := 0) hbe (by omega) hne hL0
  have hbx : HoldsRow w3 w.heap.size 28 #[.pointer (some ⟨gj, 0, none⟩)] := (hb3.block _ HJ2.out.lt).trans HJ2.out
  have hbx1 := (hbx.set_other ⟨w.heap.size + 1, 0, none⟩ (.int .i64 0) (by show w.heap.size ≠ w.heap.size + 1; omega)).cell (j := 0) (v := .pointer (some ⟨gj, 0, none⟩)) rfl
  have hgx : HoldsRow w3 gj 64 (jcells g s vw) := HG2.out.below hb3 HG2.out.lt
  have hgx1 := (hgx.set_other ⟨w.heap.size + 1, 0, none⟩ (.int .i64 0) (by show gj ≠ w.heap.size + 1; omega)).cell (j := 0) (v := .pointer (some ⟨g, 0, none⟩)) rfl
  have hce1 := hL1.2.2.1
  obtain ⟨A3, c3, rfl⟩ := Kd.S_slice hv3
  have HRA := Aside0.mk (rows_at (S := fun k => okd k ∨ k = w.heap.size + 1) (Kd.S_bound hv3) (fun k hk q => by
    have h1 := hk.2.1
    have h2 := HS2.out
    rcases q with q | q
    · have := hokd' k q; omega
    · omega))
  have HRC := Aside0.mk (Kd.S_reads' hv3).2.1
  have HL1 := Aside0.mk hL1
  have HBE := Aside0.mk (And.intro hbe (And.intro (show H ≤ w.heap.size + 1 by omega) hne))
  have HBX := Aside0.mk hbx
  have HNR := Aside0.mk hnr
  have HR64 := Aside0.mk hr64
  have HB23 := Aside0.mk hB23
  have HCPS := Aside0.mk hcps
  have HOKD := Aside0.mk hokd'
  have hce2 : (w3.setCell ⟨w.heap.size + 1, 0, none⟩ (.int .i64 0)).cell? ⟨w.heap.size + 1, 0, none⟩ = some (.int .i64 0) := HoldsRow.cell (j := 0) hce1 rfl
  clear hv3 hb3 hrows hnr hr64 hbe hB23 hL0 hne hbx hgx hce1 hL1 hcps hokd hokd' hD HBR HE2 HJ2 HG2 HCE h4 h3
  have HSZ := Aside0.mk (show w.heap.size ≤ w.heap.size + 1 ∧ H ≤ w.heap.size ∧ w.heap.size ≠ w.heap.size + 1 from ⟨by omega, hH, by omega⟩)
  clear hH
  generalize hbe : w.heap.size + 1 = be at *
  go_wp2_with fail
  clear hce hze hbx1 hgx1 hce2 hmf
  go_loopw [1, 9] (fun i v wr => ∃ (k m : Nat) (A' : Option Addr) (c' : Nat) (dk : DS), k + m = rows.length ∧ i = .int .i64 (at_ + (k : Int)) ∧ v = .slice A' m c' ∧ m ≤ c' ∧ Aside0 (RowsAt w3 (fun k => okd k ∨ k = be) A' (rows.drop k)) ∧ Aside0 (LI w3 wr H okd be g dk 0) ∧ Aside0 (writesF d at_ rows = writesF dk (at_ + (k : Int)) (rows.drop k)) ∧ Aside0 (dk.waits.length ≤ 500000 + k)) (fun i _ _ => (at_ + (rows.length : Int) - intOf i).toNat)
  case atStart => exact ⟨0, rows.length, A3, c3, d, by omega, by simp, rfl, HRC.out, ⟨by rw [List.drop_zero]; exact HRA.out⟩, HL1, ⟨by rw [List.drop_zero]; simp⟩, ⟨by omega⟩⟩
  case round =>
    obtain ⟨k, m, A', c', dk, hkm, rfl, rfl, hmc, HRA', HL, HW, HWL⟩ := hrel
    clear HL1
    have hnr := HNR.out
    by_cases hm : 0 < m
    · have d1 : decide ((0 : Int) < (m : Int)) = true := decide_eq_true (by omega)
      have d2 : decide (0 < m) = true := decide_eq_true hm
      have hdrop := List.drop_eq_getElem_cons (show k < rows.length by omega)
      obtain ⟨r, hr⟩ : ∃ r, r = rows[k] := ⟨_, rfl⟩
      rw [← hr] at hdrop
      have hr64 := HR64.out r (by rw [hr]; exact List.getElem_mem _)
      rw [hdrop] at HRA' HW
      obtain ⟨ad, A2, c2, rfl, hc2, hrow⟩ := HRA'.out 0 r rfl
      obtain ⟨ok', hs', hd'⟩ := HL.out.2.2.2
      have K1 := (hrow wr HL.out.2.1).1
      have K2 : wr.cell? ad = some (.slice A2 r.length c2) := by
        rw [← K1]
        congr 1
      have e0 : wr.cell? ad = some (.slice A2 r.length c2) := K2
      obtain ⟨i0, hi0, _, hsz0, _⟩ := info_parts infoRow
      have hcut := cut_from (P := Try.prog) 37 31 .i64 Try.underlying37 hi0 1 hsz0 (some ad) m c' 1 (by omega) (by omega)
      have b0 := eq_true (show (0 : Int) < (m : Int) by omega)
      have HROW := Aside0.mk hrow
      have HD' := Aside0.mk hd'
      have HS' := Aside0.mk hs'
      have HDR := Aside0.mk hdrop
      clear hrow hd' hs' hr hdrop
      have hH2 : H ≤ wr.heap.size := by have := HL.out.2.1.1; have := HBE.out; omega
      go_wp2_with fail
      refine (Dk.Write_calls wr H ok' g dk HD'.out hH2 (by have := HWL.out; omega) (at_ + (k : Int)) A2 c2 r (fun W' hk => (HROW.out W' (HL.out.2.1.then_ hk (fun q hq => (HS'.out q hq).1.elim (fun h => .inl (.inl h)) .inr))).2) hc2).mono ?_
      rintro e wj ⟨rfl, hto⟩
      obtain ⟨hL2, hce, hze⟩ := LI.step (e' := (writeF dk (at_ + (k : Int)) r).1) HBE.out.1 HBE.out.2.1 HBE.out.2.2 HL.out HS'.out hto
      have hwl2 : (writeF dk (at_ + (k : Int)) r).2.waits.length ≤ dk.waits.length + 1 := writeF_waits _ _ _
      have HWW := Aside0.mk (show writesF dk (at_ + (k : Int)) (r :: rows.drop (k + 1)) = if (writeF dk (at_ + (k : Int)) r).1 ≠ 0 then writeF dk (at_ + (k : Int)) r else writesF (writeF dk (at_ + (k : Int)) r).2 (at_ + (k : Int) + 1) (rows.drop (k + 1)) from rfl)
      obtain ⟨⟨er, d2⟩, hq⟩ : ∃ q, q = writeF dk (at_ + (k : Int)) r := ⟨_, rfl⟩
      rw [← hq] at hL2 hwl2 HWW ⊢
      clear hq hto HD' HS' HROW
      by_cases her : er = 0
      · subst her
        have HL2 := Aside0.mk hL2
        have hce2 := HoldsRow.cell (j := 0) (v := .int .i64 0) hL2.2.2.1 rfl
        clear hL2
        go_wp2_with fail
        exact ⟨⟨k + 1, m - 1, _, _, d2, by omega, by rw [show at_ + ((k + 1 : Nat) : Int) = at_ + (k : Int) + 1 by omega], rfl, by omega, ⟨RowsAt.next HRA'.out (by rw [List.length_drop]; omega)⟩, HL2, ⟨by rw [HW.out, HWW.out, if_neg (by simp), show at_ + ((k + 1 : Nat) : Int) = at_ + (k : Int) + 1 by omega]⟩, ⟨by have := HWL.out; omega⟩⟩, by simp [intOf]; omega⟩
      · have r1 : (er != 0) = true := bne_iff_ne.2 her
        have r2 : (er == 0) = false := beq_eq_false_iff_ne.2 her
        have r3 : decide (er = 0) = false := decide_eq_false her
        obtain ⟨hL3, hce3, hze3⟩ := LI.again (e' := er) HBE.out.1 HBE.out.2.1 HBE.out.2.2 hL2
        have hce4 := HoldsRow.cell (j := 0) (v := .int .i64 er) hL3.2.2.1 rfl
        have T := HCPS.out _ _ (LI.to HB23.out HOKD.out HSZ.out.1 HSZ.out.2.1 hL3)
        obtain ⟨g0, g7, gz, vw3, hG⟩ := lay_door T
        have hbx3 : HoldsRow ((wj.setCell ⟨be, 0, none⟩ (.int .i64 er)).setCell ⟨be, 0, none⟩ (.int .i64 er)) w.heap.size 28 #[.pointer (some ⟨gj, 0, none⟩)] := (hL3.2.1.2 w.heap.size HBX.out.lt (fun q => q.elim (fun h => by have := HOKD.out _ h; omega) (fun h => HSZ.out.2.2 h))).trans HBX.out
        have HF := Aside0.mk (lay_fin T er)
        have HDOOR := Aside0.mk (And.intro (hbx3.cell (j := 0) (v := .pointer (some ⟨gj, 0, none⟩)) rfl) (And.intro hce4 (And.intro g7 gz)))
        have HE4 := Aside0.mk (show HoldsRow _ be 24 #[.int .i64 er] from hL3.2.2.1)
        have HGN := Aside0.mk (show be ≠ gj from fun e => by subst e; have := hG.symm.trans hL3.2.2.1; simp at this)
        have HEND := Aside0.mk (show layF d s at_ gen b = (er, d2, { s with broken := s.broken || er != 0 }) by
          unfold layF putF
          rw [← HROWS.out, HW.out, HWW.out, if_pos her]
          simp only
          rw [if_pos her])
        clear hL2 hL3 T g0 g7 gz hG hbx3 hce4
        go_wp2_with fail
        refine leaves_cons (f := 50) (args := #[.pointer (some ⟨w.heap.size, 0, none⟩), .pointer (some ⟨be, 0, none⟩)]) (by simp) (by simp [go_sem]) ?_
        refine (lay1_calls w.heap.size be gj er s.broken .returning _ HDOOR.out.1 HDOOR.out.2.1 HDOOR.out.2.2.1 HDOOR.out.2.2.2).mono ?_
        rintro e u' w'' ⟨rfl, rfl, rfl⟩
        exact ⟨_, results_cell1 (p := 8) rfl _ _ be (.int .i64 er) rfl ((HE4.out.set_other ⟨gj, 7, none⟩ _ HGN.out).cell (j := 0) rfl), by rw [HEND.out], by rw [HEND.out]; exact HF.out⟩
    · obtain rfl : m = 0 := by omega
      have d1 : decide ((0 : Int) < ((0 : Nat) : Int)) = false := by simp
      have d2 : decide (0 < 0) = false := by simp
      have hH2 : H ≤ wr.heap.size := by have := HL.out.2.1.1; have := HBE.out; omega
      have T0' := HCPS.out _ _ (LI.to HB23.out HOKD.out HSZ.out.1 HSZ.out.2.1 HL.out)
      obtain ⟨g0', g7', gz', vw3', hG'⟩ := lay_door T0'
      have hbx' : HoldsRow wr w.heap.size 28 #[.pointer (some ⟨gj, 0, none⟩)] := (HL.out.2.1.2 w.heap.size HBX.out.lt (fun q => q.elim (fun h => by have := HOKD.out _ h; omega) (fun h => HSZ.out.2.2 h))).trans HBX.out
      have hbc := hbx'.cell (j := 0) (v := .pointer (some ⟨gj, 0, none⟩)) rfl
      obtain ⟨ok', hs', hd'⟩ := HL.out.2.2.2
      have HD' := Aside0.mk hd'
      have HS' := Aside0.mk hs'
      have HGN' := Aside0.mk (show be ≠ gj from fun e => by subst e; have := hG'.symm.trans HL.out.2.2.1; simp at this)
      have HKR := Aside0.mk (show k = rows.length by omega)
      clear T0' g7' gz' hG' hbx' hd' hs' hkm
      go_wp2_with fail
      refine (Dk.Flush_calls wr H ok' g dk HD'.out hH2 (by have := HWL.out; have := HKR.out; omega)).mono ?_
      rintro e wj ⟨rfl, hto⟩
      obtain ⟨hL3, hce3, hze3⟩ := LI.step (e' := (flushF dk).1) HBE.out.1 HBE.out.2.1 HBE.out.2.2 HL.out HS'.out hto
      obtain ⟨⟨er, d2⟩, hq⟩ : ∃ q, q = flushF dk := ⟨_, rfl⟩
      have HEND := Aside0.mk (show layF d s at_ gen b = (er, d2, { s with broken := s.broken || er != 0 }) by
        have e1 : writesF d at_ rows = (0, dk) := by rw [HW.out, HKR.out, List.drop_length]; rfl
        unfold layF putF
        rw [← HROWS.out, e1, if_neg (by simp), ← hq])
      rw [← hq] at hL3 ⊢
      have hce4 := HoldsRow.cell (j := 0) (v := .int .i64 er) hL3.2.2.1 rfl
      have T := HCPS.out _ _ (LI.to HB23.out HOKD.out HSZ.out.1 HSZ.out.2.1 hL3)
      obtain ⟨g0, g7, gz, vw3, hG⟩ := lay_door T
      have hbx3 : HoldsRow (wj.setCell ⟨be, 0, none⟩ (.int .i64 er)) w.heap.size 28 #[.pointer (some ⟨gj, 0, none⟩)] := (hL3.2.1.2 w.heap.size HBX.out.lt (fun q => q.elim (fun h => by have := HOKD.out _ h; omega) (fun h => HSZ.out.2.2 h))).trans HBX.out
      have HF := Aside0.mk (lay_fin T er)
      have HDOOR := Aside0.mk (And.intro (hbx3.cell (j := 0) (v := .pointer (some ⟨gj, 0, none⟩)) rfl) (And.intro hce4 (And.intro g7 gz)))
      have HE4 := Aside0.mk (show HoldsRow _ be 24 #[.int .i64 er] from hL3.2.2.1)
      have HGN := HGN'
      clear hL3 T g0 g7 gz hG hbx3 hce4 hq hto g0' hbc
      go_wp2_with fail
      refine leaves_cons (f := 50) (args := #[.pointer (some ⟨w.heap.size, 0, none⟩), .pointer (some ⟨be, 0, none⟩)]) (by simp) (by simp [go_sem]) ?_
      refine (lay1_calls w.heap.size be gj er s.broken .returning _ HDOOR.out.1 HDOOR.out.2.1 HDOOR.out.2.2.1 HDOOR.out.2.2.2).mono ?_
      rintro e u' w'' ⟨rfl, rfl, rfl⟩
      exact ⟨_, results_cell1 (p := 8) rfl _ _ be (.int .i64 er) rfl ((HE4.out.set_other ⟨gj, 7, none⟩ _ HGN.out).cell (j := 0) rfl), by rw [HEND.out], by rw [HEND.out]; exact HF.out⟩
end Go.Proofs.Ythnjkmjcacoajaa.Jn
end

section
/- Sync of a journal, walked. Conditions: the journal's bounds; a good stamp. -/
namespace Go.Proofs.Ythnjkmjcacoajaa.Jn
open Go Go.RowKit Go.Proofs.YthnjkmjcacoajaaW.PrintWords Go.Proofs.YthnjkmjcacoajaaW.PrintLast Go.Proofs.YthnjkmjcacoajaaW.PrintMore Go.Proofs.Ythnjkmjcacoajaa.Base Go.Proofs.Ythnjkmjcacoajaa.Arr
open Go.Proofs.Ythnjkmjcacoajaa.Dk (DS DiskIs DiskTo writeF flushF)
open Go.Proofs.Ythnjkmjcacoajaa.Ext (goodS runCells)
set_option linter.unusedVariables false
set_option linter.unusedSimpArgs false

theorem JIs.set_nil {W : World} {H : Nat} {ok : Nat → Prop} {gj g : Nat} {s : JS} (h : JIs W H ok gj g s) : JOnly W (W.setCell ⟨gj, 6, none⟩ (.slice none 0 0)) H ok gj g { s with waits := [] } := by
  obtain ⟨vw, h1, _, h3, h4⟩ := h
  exact JIs.set_waits (okr := fun _ => False) h1 h3 h4 (Kd.R_nil _ _ _ _ _) (fun k hk => hk.elim)
def syncF (d : DS) (s : JS) : Int × DS × JS :=
  if s.broken = true then (30, d, s) else if s.waits.length = 0 then (0, d, s)
  else
    let q := layF d s (firstN d.n s.gen + s.used) s.gen s.waits
    if q.1 ≠ 0 then q else (0, q.2.1, { q.2.2 with used := s.used + cntN s.waits.length, waits := [], synced := s.count })
theorem layF_rest (d : DS) (s : JS) (a g : Int) (b : List Int) : (layF d s a g b).2.2.gen = s.gen ∧ (layF d s a g b).2.2.epoch = s.epoch ∧ (layF d s a g b).2.2.used = s.used ∧ (layF d s a g b).2.2.synced = s.synced ∧ (layF d s a g b).2.2.count = s.count ∧ (layF d s a g b).2.2.waits = s.waits := ⟨rfl, rfl, rfl, rfl, rfl, rfl⟩
theorem firstN_range (n : Nat) (hn : n ≤ 512) (g : Int) : 0 ≤ firstN n g ∧ firstN n g ≤ 300 := by
  have hs : 0 ≤ secN n ∧ secN n ≤ 255 := by unfold secN; omega
  have hm : g % 2 = 0 ∨ g % 2 = 1 := by omega
  unfold firstN
  rcases hm with h | h <;> rw [h] <;> omega
/-- the cells of a journal at hand -/
theorem JTo.cells {w wf : World} {H : Nat} {ok : Nat → Prop} {g gj : Nat} {d : DS} {s : JS} (T : JTo w wf H ok g gj d s) : ∃ A c, HoldsRow wf gj 64 (jcells g s (.slice A s.waits.length c)) ∧ Kd.C (Kd.int .u8) wf A s.waits.length s.waits ∧ s.waits.length ≤ c := by
  obtain ⟨okj, ⟨vw, h1, h2, _⟩, -⟩ := T.jour
  obtain ⟨A, c, rfl⟩ := Kd.R_slice h2
  obtain ⟨_, h3, h4⟩ := Kd.R_reads' h2
  exact ⟨A, c, h1, h4, h3⟩
theorem JTo.n_le {w wf : World} {H : Nat} {ok : Nat → Prop} {g gj : Nat} {d : DS} {s : JS} (T : JTo w wf H ok g gj d s) : 1 ≤ d.n ∧ d.n ≤ 512 := by
  obtain ⟨_, hd, _⟩ := T.disk
  exact DiskIs.n_le hd
set_option maxHeartbeats 4000000 in
set_option maxRecDepth 100000 in
theorem Sync_calls (w : World) (H : Nat) (ok : Nat → Prop) (g gj : Nat) (d : DS) (s : JS) (h : JD w H ok g gj d s) (hs : SOK s) (hg : goodS s.gen s.epoch) (hw : d.waits.length ≤ 500000) :
    Calls Try.prog 11 #[.pointer (some ⟨gj, 0, none⟩)] w fun e w' => e = .returned (.int .i64 (syncF d s).1) ∧ JTo w w' H ok g gj (syncF d s).2.1 (syncF d s).2.2 := by
  have T0 := Aside0.mk (JTo.start h)
  clear h
  obtain ⟨okj0, hj0, hH, hokj, -⟩ := T0.out.jour
  have HJ0 := Aside0.mk hj0
  clear hj0
  by_cases hbr : s.broken = true
  · have HE := Aside0.mk (show syncF d s = (30, d, s) from if_pos hbr)
    have HM := Aside0.mk (show jmayE s = 30 from if_pos hbr)
    clear hbr
    go_enter Try.func11, Try.ntmps11
    go_wp2_with fail
    refine (jmay_calls w H okj0 g gj s HJ0.out).mono ?_
    rintro e w1 ⟨rfl, rfl⟩
    rw [HM.out]
    go_wp2_with fail
    go_ret
    exact ⟨by rw [HE.out]; rfl, by rw [HE.out]; exact T0.out⟩
  · have HM := Aside0.mk (show jmayE s = 0 from if_neg hbr)
    have hE : syncF d s = if s.waits.length = 0 then (0, d, s) else (let q := layF d s (firstN d.n s.gen + s.used) s.gen s.waits; if q.1 ≠ 0 then q else (0, q.2.1, { q.2.2 with used := s.used + cntN s.waits.length, waits := [], synced := s.count })) := if_neg hbr
    obtain ⟨A, c, h1, hC, hc⟩ := T0.out.cells
    obtain ⟨k0, k1, k2, k3, k4, k5, k6, k7⟩ := jcell h1
    clear k0 k2 k4 k5 k7
    by_cases hl0 : s.waits.length = 0
    · rw [if_pos hl0] at hE
      have HE := Aside0.mk hE
      have d1 : ((s.waits.length : Int) == 0) = true := beq_iff_eq.2 (by omega)
      have d2 : (s.waits.length == 0) = true := beq_iff_eq.2 hl0
      have d3 : decide ((s.waits.length : Int) = 0) = true := decide_eq_true (by omega)
      clear hE hbr hl0 h1 hC hc k1 k3
      go_enter Try.func11, Try.ntmps11
      go_wp2_with fail
      refine (jmay_calls w H okj0 g gj s HJ0.out).mono ?_
      rintro e w1 ⟨rfl, rfl⟩
      rw [HM.out]
      go_wp2_with fail
      go_ret
      exact ⟨by rw [HE.out]; rfl, by rw [HE.out]; exact T0.out⟩
    · rw [if_neg hl0] at hE
      have d1 : ((s.waits.length : Int) == 0) = false := beq_eq_false_iff_ne.2 (by omega)
      have d2 : (s.waits.length == 0) = false := beq_eq_false_iff_ne.2 hl0
      have d3 : decide ((s.waits.length : Int) = 0) = false := decide_eq_false (by omega)
      obtain ⟨n1, n2⟩ := T0.out.n_le
      obtain ⟨f1, f2⟩ := firstN_range d.n n2 s.gen
      have hu := hs.2.1
      have e1 : wrap64 (firstN d.n s.gen + s.used) = firstN d.n s.gen + s.used := by unfold wrap64; omega
      obtain ⟨okd0, hd0, -⟩ := T0.out.disk
      have HD0 := Aside0.mk hd0
      obtain ⟨ok1, hJD, hok1, hcall⟩ := (T0.out.below (below_drew (Below.refl _ _))).call
      have hlay := lay_calls w.drew H ok1 g gj d s hJD (firstN d.n s.gen + s.used) s.gen (by omega) hg A c s.waits (Kd.C_below hC (below_drew (Below.refl _ _))) hc (by omega) hs.1 hw
      rw [← e1] at hlay
      have HLAY := Aside0.mk hlay
      have HCALL := Aside0.mk hcall
      have HG := Aside0.mk (show 0 ≤ s.gen by have := hg.1; omega)
      have HS := Aside0.mk hs
      have HE := Aside0.mk hE
      have HW1 := Aside0.mk e1
      clear hE hbr hl0 h1 hC hc n1 n2 f1 f2 hu hd0 hJD hok1 hlay hcall hs hg e1
      go_enter Try.func11, Try.ntmps11
      go_wp2_with fail
      refine (jmay_calls w H okj0 g gj s HJ0.out).mono ?_
      rintro e w1 ⟨rfl, rfl⟩
      rw [HM.out]
      go_wp2_with fail
      refine start_ (n := 24) (S := fun w' => w'.cell? ⟨gj, 1, none⟩ = some (.int .i64 s.gen) ∧ w'.cell? ⟨gj, 3, none⟩ = some (.int .i64 s.used) ∧ w'.cell? ⟨gj, 6, none⟩ = some (.slice A s.waits.length c)) (ds := [22]) #[false, false, false, false, false, false, false, false, false, false, false, false, false, false, false, false, false, false, false, false, false, false, false, false] (by kernel_rfl) rfl rfl ⟨k1, k3, k6⟩ (fun hHeld => ?_)
      refine pure_ (i := 0) (N := some 16) (v := ?_) (a' := ?_) #[true, false, false, false, false, false, false, false, false, false, false, false, false, false, false, false, false, false, false, false, false, false, false, false] rfl rfl (by kernel_rfl) (fun _ _ _ h => h) (Or.inl ⟨by rfl, ?_⟩) ?_ ?_
      rotate_left
      · intro w'
        go_simp
        with_reducible rfl
      rotate_left
      · simp only [Act.put, List.setIfInBounds_toArray, List.set_cons_zero, List.set_cons_succ, i64_w, i32_w]
        rfl
      refine pure_ (i := 1) (N := some 17) (v := ?_) (a' := ?_) #[true, true, false, false, false, false, false, false, false, false, false, false, false, false, false, false, false, false, false, false, false, false, false, false] rfl rfl (by kernel_rfl) (fun _ _ _ h => h) (Or.inl ⟨by rfl, ?_⟩) ?_ ?_
      rotate_left
      · intro w'
        go_simp
        with_reducible rfl
      rotate_left
      · simp only [Act.put, List.setIfInBounds_toArray, List.set_cons_zero, List.set_cons_succ, i64_w, i32_w]
        rfl
      refine pure_ (i := 2) (N := some 18) (v := ?_) (a' := ?_) #[true, true, true, false, false, false, false, false, false, false, false, false, false, false, false, false, false, false, false, false, false, false, false, false] rfl rfl (by kernel_rfl) (fun _ _ _ h => h) (Or.inl ⟨by rfl, ?_⟩) ?_ ?_
      rotate_left
      · intro w'
        go_simp
        with_reducible rfl
      rotate_left
      · simp only [Act.put, List.setIfInBounds_toArray, List.set_cons_zero, List.set_cons_succ, i64_w, i32_w]
        rfl
      refine pure_ (i := 3) (N := some 19) (v := ?_) (a' := ?_) #[true, true, true, true, false, false, false, false, false, false, false, false, false, false, false, false, false, false, false, false, false, false, false, false] rfl rfl (by kernel_rfl) (fun _ _ _ h => h) (Or.inl ⟨by rfl, ?_⟩) ?_ ?_
      rotate_left
      · intro w'
        go_simp
        with_reducible rfl
      rotate_left
      · simp only [Act.put, List.setIfInBounds_toArray, List.set_cons_zero, List.set_cons_succ, i64_w, i32_w]
        rfl
      refine pure_ (i := 4) (N := some 20) (v := ?_) (a' := ?_) #[true, true, true, true, true, false, false, false, false, false, false, false, false, false, false, false, false, false, false, false, false, false, false, false] rfl rfl (by kernel_rfl) (fun _ _ _ h => h) (Or.inl ⟨by rfl, ?_⟩) ?_ ?_
      rotate_left
      · intro w'
        go_simp
        with_reducible rfl
      rotate_left
      · simp only [Act.put, List.setIfInBounds_toArray, List.set_cons_zero, List.set_cons_succ, i64_w, i32_w]
        rfl
      refine pure_ (i := 5) (N := some 21) (v := ?_) (a' := ?_) #[true, true, true, true, true, true, false, false, false, false, false, false, false, false, false, false, false, false, false, false, false, false, false, false] rfl rfl (by kernel_rfl) (fun _ _ _ h => h) (Or.inl ⟨by rfl, ?_⟩) ?_ ?_
      rotate_left
      · intro w'
        go_simp
        with_reducible rfl
      rotate_left
      · simp only [Act.put, List.setIfInBounds_toArray, List.set_cons_zero, List.set_cons_succ, i64_w, i32_w]
        rfl
      refine pure_ (i := 8) (N := some 24) (v := ?_) (a' := ?_) #[true, true, true, true, true, true, false, false, true, false, false, false, false, false, false, false, false, false, false, false, false, false, false, false] rfl rfl (by kernel_rfl) (fun _ _ _ h => h) (Or.inl ⟨by rfl, ?_⟩) ?_ ?_
      rotate_left
      · intro w'
        go_simp
        with_reducible rfl
      rotate_left
      · simp only [Act.put, List.setIfInBounds_toArray, List.set_cons_zero, List.set_cons_succ, i64_w, i32_w]
        rfl
      refine pure_ (i := 9) (N := some 25) (v := ?_) (a' := ?_) #[true, true, true, true, true, true, false, false, true, true, false, false, false, false, false, false, false, false, false, false, false, false, false, false] rfl rfl (by kernel_rfl) (fun _ _ _ h => h) (Or.inl ⟨by rfl, ?_⟩) ?_ ?_
      rotate_left
      · intro w'
        go_simp
        with_reducible rfl
      rotate_left
      · simp only [Act.put, List.setIfInBounds_toArray, List.set_cons_zero, List.set_cons_succ, i64_w, i32_w]
        rfl
      refine pure_ (i := 10) (N := some 26) (v := ?_) (a' := ?_) #[true, true, true, true, true, true, false, false, true, true, true, false, false, false, false, false, false, false, false, false, false, false, false, false] rfl rfl (by kernel_rfl) (fun _ _ _ h => h) (Or.inl ⟨by rfl, ?_⟩) ?_ ?_
      rotate_left
      · intro w'
        go_simp
        with_reducible rfl
      rotate_left
      · simp only [Act.put, List.setIfInBounds_toArray, List.set_cons_zero, List.set_cons_succ, i64_w, i32_w]
        rfl
      refine pure_ (i := 13) (N := some 29) (v := ?_) (a' := ?_) #[true, true, true, true, true, true, false, false, true, true, true, false, false, true, false, false, false, false, false, false, false, false, false, false] rfl rfl (by kernel_rfl) (fun _ _ _ h => h) (Or.inl ⟨by rfl, ?_⟩) ?_ ?_
      rotate_left
      · intro w'
        go_simp
        with_reducible rfl
      rotate_left
      · simp only [Act.put, List.setIfInBounds_toArray, List.set_cons_zero, List.set_cons_succ, i64_w, i32_w]
        rfl
      refine pure_ (i := 14) (N := some 30) (v := ?_) (a' := ?_) #[true, true, true, true, true, true, false, false, true, true, true, false, false, true, true, false, false, false, false, false, false, false, false, false] rfl rfl (by kernel_rfl) (fun _ _ _ h => h) (Or.inl ⟨by rfl, ?_⟩) ?_ ?_
      rotate_left
      · intro w'
        go_simp
        with_reducible rfl
      rotate_left
      · simp only [Act.put, List.setIfInBounds_toArray, List.set_cons_zero, List.set_cons_succ, i64_w, i32_w]
        rfl
      refine pure_ (i := 15) (N := some 31) (v := ?_) (a' := ?_) #[true, true, true, true, true, true, false, false, true, true, true, false, false, true, true, true, false, false, false, false, false, false, false, false] rfl rfl (by kernel_rfl) (fun _ _ _ h => h) (Or.inl ⟨by rfl, ?_⟩) ?_ ?_
      rotate_left
      · intro w'
        go_simp
        with_reducible rfl
      rotate_left
      · simp only [Act.put, List.setIfInBounds_toArray, List.set_cons_zero, List.set_cons_succ, i64_w, i32_w]
        rfl
      refine pure_ (i := 16) (N := some 32) (v := ?_) (a' := ?_) #[true, true, true, true, true, true, false, false, true, true, true, false, false, true, true, true, true, false, false, false, false, false, false, false] rfl rfl (by kernel_rfl) (fun _ _ _ h => h) (Or.inl ⟨by rfl, ?_⟩) ?_ ?_
      rotate_left
      · intro w'
        go_simp
        with_reducible rfl
      rotate_left
      · simp only [Act.put, List.setIfInBounds_toArray, List.set_cons_zero, List.set_cons_succ, i64_w, i32_w]
        rfl
      refine pure_ (i := 18) (N := some 34) (v := ?_) (a' := ?_) #[true, true, true, true, true, true, false, false, true, true, true, false, false, true, true, true, true, false, true, false, false, false, false, false] rfl rfl (by kernel_rfl) (fun _ _ _ h => h) (Or.inl ⟨by rfl, ?_⟩) ?_ ?_
      rotate_left
      · intro w'
        go_simp
        with_reducible rfl
      rotate_left
      · simp only [Act.put, List.setIfInBounds_toArray, List.set_cons_zero, List.set_cons_succ, i64_w, i32_w]
        rfl
      refine pure_ (i := 19) (N := some 35) (v := ?_) (a' := ?_) #[true, true, true, true, true, true, false, false, true, true, true, false, false, true, true, true, true, false, true, true, false, false, false, false] rfl rfl (by kernel_rfl) (fun _ _ _ h => h) (Or.inl ⟨by rfl, ?_⟩) ?_ ?_
      rotate_left
      · intro w'
        go_simp
        with_reducible rfl
      rotate_left
      · simp only [Act.put, List.setIfInBounds_toArray, List.set_cons_zero, List.set_cons_succ, i64_w, i32_w]
        rfl
      refine pure_ (i := 20) (N := some 36) (v := ?_) (a' := ?_) #[true, true, true, true, true, true, false, false, true, true, true, false, false, true, true, true, true, false, true, true, true, false, false, false] rfl rfl (by kernel_rfl) (fun _ _ _ h => h) (Or.inl ⟨by rfl, ?_⟩) ?_ ?_
      rotate_left
      · intro w'
        go_simp
        with_reducible rfl
      rotate_left
      · simp only [Act.put, List.setIfInBounds_toArray, List.set_cons_zero, List.set_cons_succ, i64_w, i32_w]
        rfl
      refine take_ (i := 6) (N := some 22) (v := ?_) (a' := ?_) #[true, true, true, true, true, true, true, false, true, true, true, false, false, true, true, true, true, false, true, true, true, false, false, false] rfl rfl (by kernel_rfl) (fun _ _ _ h => h) (Or.inl ⟨by rfl, ?_⟩) hHeld ?_ ?_
      rotate_left
      · rintro w' ⟨s0, s1, s2⟩
        go_simp
        with_reducible rfl
      rotate_left
      · simp only [Act.put, List.setIfInBounds_toArray, List.set_cons_zero, List.set_cons_succ, i64_w, i32_w]
        rfl
      refine take_ (i := 11) (N := some 27) (v := ?_) (a' := ?_) #[true, true, true, true, true, true, true, false, true, true, true, true, false, true, true, true, true, false, true, true, true, false, false, false] rfl rfl (by kernel_rfl) (fun _ _ _ h => h) (Or.inl ⟨by rfl, ?_⟩) hHeld ?_ ?_
      rotate_left
      · rintro w' ⟨s0, s1, s2⟩
        go_simp
        with_reducible rfl
      rotate_left
      · simp only [Act.put, List.setIfInBounds_toArray, List.set_cons_zero, List.set_cons_succ, i64_w, i32_w]
        rfl
      refine take_ (i := 17) (N := some 33) (v := ?_) (a' := ?_) #[true, true, true, true, true, true, true, false, true, true, true, true, false, true, true, true, true, true, true, true, true, false, false, false] rfl rfl (by kernel_rfl) (fun _ _ _ h => h) (Or.inl ⟨by rfl, ?_⟩) hHeld ?_ ?_
      rotate_left
      · rintro w' ⟨s0, s1, s2⟩
        go_simp
        with_reducible rfl
      rotate_left
      · simp only [Act.put, List.setIfInBounds_toArray, List.set_cons_zero, List.set_cons_succ, i64_w, i32_w]
        rfl
      refine take_ (i := 21) (N := some 37) (v := ?_) (a' := ?_) #[true, true, true, true, true, true, true, false, true, true, true, true, false, true, true, true, true, true, true, true, true, true, false, false] rfl rfl (by kernel_rfl) (fun _ _ _ h => h) (Or.inl ⟨by rfl, ?_⟩) hHeld ?_ ?_
      rotate_left
      · rintro w' ⟨s0, s1, s2⟩
        go_simp
        with_reducible rfl
      rotate_left
      · simp only [Act.put, List.setIfInBounds_toArray, List.set_cons_zero, List.set_cons_succ, i64_w, i32_w]
        rfl
      refine one_ (i := 7) (N := some 23) #[true, true, true, true, true, true, true, true, true, true, true, true, false, true, true, true, true, true, true, true, true, true, false, false] rfl rfl (by kernel_rfl) (by decide) (fun K hK => ?_)
      refine goes_ Try.func31 (by kernel_rfl) rfl #[.pointer (some ⟨gj, 0, none⟩), .int .i64 s.gen] (by rfl) rfl rfl (by simp only [List.map_toArray, List.map_cons, List.map_nil]; rfl) ?_
      with_reducible refine (first_calls w.drew H okd0 okj0 g gj d s (disk_drew HD0.out) HJ0.out.drew s.gen HG.out).mono ?_
      rintro e w3 ⟨rfl, rfl⟩
      refine ⟨_, rfl, ?_⟩
      refine hK.out _ _ ⟨k1, k3, k6⟩ (fun hHeld => ?_)
      clear hK K
      refine norm_ (a' := ?_) ?_ ?_
      rotate_left
      · show Act.put _ (some 23) _ = _
        simp only [Act.put, List.setIfInBounds_toArray, List.set_cons_zero, List.set_cons_succ, i64_w, i32_w]
        rfl
      refine pure_ (i := 12) (N := some 28) (v := ?_) (a' := ?_) #[true, true, true, true, true, true, true, true, true, true, true, true, true, true, true, true, true, true, true, true, true, true, false, false] rfl rfl (by kernel_rfl) (fun _ _ _ h => h) (Or.inl ⟨by rfl, ?_⟩) ?_ ?_
      rotate_left
      · intro w'
        go_simp
        with_reducible rfl
      rotate_left
      · simp only [Act.put, List.setIfInBounds_toArray, List.set_cons_zero, List.set_cons_succ, i64_w, i32_w]
        rfl
      refine last_ (i := 22) (N := some 38) #[true, true, true, true, true, true, true, true, true, true, true, true, true, true, true, true, true, true, true, true, true, true, true, false] rfl rfl (by kernel_rfl) (by decide) (fun K hK => ?_)
      refine goes_ Try.func30 (by kernel_rfl) rfl #[.pointer (some ⟨gj, 0, none⟩), .int .i64 (wrap64 (firstN d.n s.gen + s.used)), .int .i64 s.gen, .slice A s.waits.length c] (by rfl) rfl rfl (by simp only [List.map_toArray, List.map_cons, List.map_nil]; rfl) ?_
      with_reducible refine (HLAY.out).mono ?_
      rintro e w4 ⟨rfl, hto4⟩
      refine ⟨_, rfl, ?_⟩
      refine hK.out _ _ ?_
      clear hK K
      refine norm_ (a' := ?_) ?_ ?_
      rotate_left
      · show Act.put _ (some 38) _ = _
        simp only [Act.put, List.setIfInBounds_toArray, List.set_cons_zero, List.set_cons_succ, i64_w, i32_w]
        rfl
      refine pure_ (i := 23) (N := some 4) (v := ?_) (a' := ?_) #[true, true, true, true, true, true, true, true, true, true, true, true, true, true, true, true, true, true, true, true, true, true, true, true] rfl rfl (by kernel_rfl) (fun _ _ _ h => h) (Or.inl ⟨by rfl, ?_⟩) ?_ ?_
      rotate_left
      · intro w'
        go_simp
        with_reducible rfl
      rotate_left
      · simp only [Act.put, List.setIfInBounds_toArray, List.set_cons_zero, List.set_cons_succ, i64_w, i32_w]
        rfl
      refine done_ (by kernel_rfl) ?_
      
      rw [HW1.out] at hto4 ⊢
      have T4 := Aside0.mk (HCALL.out _ _ _ hto4)
      clear hto4 k1 k3 k6 hHeld
      have hrest := layF_rest d s (firstN d.n s.gen + s.used) s.gen s.waits
      have hE := HE.out
      obtain ⟨⟨er, dd, ss⟩, hq⟩ : ∃ q, q = layF d s (firstN d.n s.gen + s.used) s.gen s.waits := ⟨_, rfl⟩
      rw [← hq] at T4 hrest hE ⊢
      simp only at T4 hrest hE
      obtain ⟨-, -, r3, -, r5, r6⟩ := hrest
      clear hq HE HW1 HLAY HCALL
      by_cases her : er = 0
      · subst her
        rw [if_neg (by simp)] at hE
        have HE := Aside0.mk hE
        obtain ⟨A2, c2, h2, -, -⟩ := T4.out.cells
        have H2 := Aside0.mk h2
        obtain ⟨-, -, -, k3, -, k5, k6, -⟩ := jcell h2
        have z3 := h2.free 3
        rw [r3] at k3
        rw [r5] at k5
        rw [r6] at k6
        have hwl := HS.out.1
        have hu := HS.out.2.1
        have e3 : wrap64 (s.used + cntN s.waits.length) = s.used + cntN s.waits.length := by unfold cntN wrap64; omega
        have HCNT := Aside0.mk (show s.waits.length ≤ 1000000000000 by omega)
        have HE3 := Aside0.mk e3
        clear hE h2 hwl hu e3
        go_wp2_with fail
        refine start_ (n := 14) (S := fun w' => w'.cell? ⟨gj, 3, none⟩ = some (.int .i64 s.used) ∧ w'.cell? ⟨gj, 6, none⟩ = some (.slice A2 s.waits.length c2)) (ds := [13]) #[false, false, false, false, false, false, false, false, false, false, false, false, false, false] (by kernel_rfl) rfl rfl ⟨k3, k6⟩ (fun hHeld => ?_)
        refine pure_ (i := 0) (N := some 42) (v := ?_) (a' := ?_) #[true, false, false, false, false, false, false, false, false, false, false, false, false, false] rfl rfl (by kernel_rfl) (fun _ _ _ h => h) (Or.inl ⟨by rfl, ?_⟩) ?_ ?_
        rotate_left
        · intro w'
          go_simp
          with_reducible rfl
        rotate_left
        · simp only [Act.put, List.setIfInBounds_toArray, List.set_cons_zero, List.set_cons_succ, i64_w, i32_w]
          rfl
        refine pure_ (i := 1) (N := some 43) (v := ?_) (a' := ?_) #[true, true, false, false, false, false, false, false, false, false, false, false, false, false] rfl rfl (by kernel_rfl) (fun _ _ _ h => h) (Or.inl ⟨by rfl, ?_⟩) ?_ ?_
        rotate_left
        · intro w'
          go_simp
          with_reducible rfl
        rotate_left
        · simp only [Act.put, List.setIfInBounds_toArray, List.set_cons_zero, List.set_cons_succ, i64_w, i32_w]
          rfl
        refine pure_ (i := 2) (N := some 44) (v := ?_) (a' := ?_) #[true, true, true, false, false, false, false, false, false, false, false, false, false, false] rfl rfl (by kernel_rfl) (fun _ _ _ h => h) (Or.inl ⟨by rfl, ?_⟩) ?_ ?_
        rotate_left
        · intro w'
          go_simp
          with_reducible rfl
        rotate_left
        · simp only [Act.put, List.setIfInBounds_toArray, List.set_cons_zero, List.set_cons_succ, i64_w, i32_w]
          rfl
        refine pure_ (i := 4) (N := some 46) (v := ?_) (a' := ?_) #[true, true, true, false, true, false, false, false, false, false, false, false, false, false] rfl rfl (by kernel_rfl) (fun _ _ _ h => h) (Or.inl ⟨by rfl, ?_⟩) ?_ ?_
        rotate_left
        · intro w'
          go_simp
          with_reducible rfl
        rotate_left
        · simp only [Act.put, List.setIfInBounds_toArray, List.set_cons_zero, List.set_cons_succ, i64_w, i32_w]
          rfl
        refine pure_ (i := 5) (N := some 47) (v := ?_) (a' := ?_) #[true, true, true, false, true, true, false, false, false, false, false, false, false, false] rfl rfl (by kernel_rfl) (fun _ _ _ h => h) (Or.inl ⟨by rfl, ?_⟩) ?_ ?_
        rotate_left
        · intro w'
          go_simp
          with_reducible rfl
        rotate_left
        · simp only [Act.put, List.setIfInBounds_toArray, List.set_cons_zero, List.set_cons_succ, i64_w, i32_w]
          rfl
        refine pure_ (i := 6) (N := some 48) (v := ?_) (a' := ?_) #[true, true, true, false, true, true, true, false, false, false, false, false, false, false] rfl rfl (by kernel_rfl) (fun _ _ _ h => h) (Or.inl ⟨by rfl, ?_⟩) ?_ ?_
        rotate_left
        · intro w'
          go_simp
          with_reducible rfl
        rotate_left
        · simp only [Act.put, List.setIfInBounds_toArray, List.set_cons_zero, List.set_cons_succ, i64_w, i32_w]
          rfl
        refine take_ (i := 3) (N := some 45) (v := ?_) (a' := ?_) #[true, true, true, true, true, true, true, false, false, false, false, false, false, false] rfl rfl (by kernel_rfl) (fun _ _ _ h => h) (Or.inl ⟨by rfl, ?_⟩) hHeld ?_ ?_
        rotate_left
        · rintro w' ⟨s0, s1⟩
          go_simp
          with_reducible rfl
        rotate_left
        · simp only [Act.put, List.setIfInBounds_toArray, List.set_cons_zero, List.set_cons_succ, i64_w, i32_w]
          rfl
        refine take_ (i := 7) (N := some 49) (v := ?_) (a' := ?_) #[true, true, true, true, true, true, true, true, false, false, false, false, false, false] rfl rfl (by kernel_rfl) (fun _ _ _ h => h) (Or.inl ⟨by rfl, ?_⟩) hHeld ?_ ?_
        rotate_left
        · rintro w' ⟨s0, s1⟩
          go_simp
          with_reducible rfl
        rotate_left
        · simp only [Act.put, List.setIfInBounds_toArray, List.set_cons_zero, List.set_cons_succ, i64_w, i32_w]
          rfl
        refine pure_ (i := 8) (N := some 50) (v := ?_) (a' := ?_) #[true, true, true, true, true, true, true, true, true, false, false, false, false, false] rfl rfl (by kernel_rfl) (fun _ _ _ h => h) (Or.inl ⟨by rfl, ?_⟩) ?_ ?_
        rotate_left
        · intro w'
          go_simp
          with_reducible rfl
        rotate_left
        · simp only [Act.put, List.setIfInBounds_toArray, List.set_cons_zero, List.set_cons_succ, i64_w, i32_w]
          rfl
        refine one_ (i := 9) (N := some 51) #[true, true, true, true, true, true, true, true, true, true, false, false, false, false] rfl rfl (by kernel_rfl) (by decide) (fun K hK => ?_)
        refine goes_ Try.func28 (by kernel_rfl) rfl #[.int .i64 (s.waits.length : Int)] (by rfl) rfl rfl (by simp only [List.map_toArray, List.map_cons, List.map_nil]; rfl) ?_
        with_reducible refine (count_drawn s.waits.length HCNT.out w4.drew).mono ?_
        rintro e w5 ⟨rfl, hd5⟩
        refine ⟨_, rfl, ?_⟩
        have hb5 : Below w4.heap.size w4 w5 := (below_drew (Below.refl _ _)).trans (show Below w4.heap.size w4.drew w5 from hd5.below)
        have T5 := Aside0.mk (T4.out.below hb5)
        have h5 := H2.out.below hb5 H2.out.lt
        have q3 := h5.cell (j := 3) (v := .int .i64 ss.used) rfl
        rw [r3] at q3
        have z3' := h5.free 3
        refine hK.out _ _ ⟨q3, pw_cell_below hb5 k6⟩ (fun hHeld => ?_)
        clear hK K
        refine norm_ (a' := ?_) ?_ ?_
        rotate_left
        · show Act.put _ (some 51) _ = _
          simp only [Act.put, List.setIfInBounds_toArray, List.set_cons_zero, List.set_cons_succ, i64_w, i32_w]
          rfl
        refine pure_ (i := 10) (N := some 52) (v := ?_) (a' := ?_) #[true, true, true, true, true, true, true, true, true, true, true, false, false, false] rfl rfl (by kernel_rfl) (fun _ _ _ h => h) (Or.inl ⟨by rfl, ?_⟩) ?_ ?_
        rotate_left
        · intro w'
          go_simp
          with_reducible rfl
        rotate_left
        · simp only [Act.put, List.setIfInBounds_toArray, List.set_cons_zero, List.set_cons_succ, i64_w, i32_w]
          rfl
        refine pure_ (i := 11) (N := some 53) (v := ?_) (a' := ?_) #[true, true, true, true, true, true, true, true, true, true, true, true, false, false] rfl rfl (by kernel_rfl) (fun _ _ _ h => h) (Or.inl ⟨by rfl, ?_⟩) ?_ ?_
        rotate_left
        · intro w'
          go_simp
          with_reducible rfl
        rotate_left
        · simp only [Act.put, List.setIfInBounds_toArray, List.set_cons_zero, List.set_cons_succ, i64_w, i32_w]
          rfl
        refine pure_ (i := 12) (N := some 54) (v := ?_) (a' := ?_) #[true, true, true, true, true, true, true, true, true, true, true, true, true, false] rfl rfl (by kernel_rfl) (fun _ _ _ h => h) (Or.inl ⟨by rfl, ?_⟩) ?_ ?_
        rotate_left
        · intro w'
          go_simp
          with_reducible rfl
        rotate_left
        · simp only [Act.put, List.setIfInBounds_toArray, List.set_cons_zero, List.set_cons_succ, i64_w, i32_w]
          rfl
        refine last_ (i := 13) (N := none) #[true, true, true, true, true, true, true, true, true, true, true, true, true, true] rfl rfl (by kernel_rfl) (by decide) (fun K hK => ?_)
        refine skip_ (w1 := ?_) (by rfl) rfl ?_ ?_
        rotate_left
        · go_simp
          rfl
        refine hK.out _ _ ?_
        clear hK K
        refine done_ (by kernel_rfl) ?_
        
        rw [HE3.out]
        have K4 := h5.cell (j := 4) (v := .int .i64 ss.synced) rfl
        have K5 := h5.cell (j := 5) (v := .int .i64 ss.count) rfl
        have K6 := h5.cell (j := 6) (v := .slice A2 ss.waits.length c2) rfl
        have Z4 := h5.free 4
        have Z6 := h5.free 6
        rw [r5] at K5
        have T6 : JTo w (w5.setCell ⟨gj, 3, none⟩ (.int .i64 (s.used + cntN s.waits.length))) H ok g gj dd { ss with used := s.used + cntN s.waits.length } := by
          obtain ⟨okj, hj, -, -, hst⟩ := T5.out.jour
          exact hst _ _ (hj.set 3 _ _ (fun _ => rfl) rfl)
        have T7 := (by
          obtain ⟨okj, hj, -, -, hst⟩ := T6.jour
          exact hst _ _ hj.set_nil : JTo w ((w5.setCell ⟨gj, 3, none⟩ (.int .i64 (s.used + cntN s.waits.length))).setCell ⟨gj, 6, none⟩ (.slice none 0 0)) H ok g gj dd { ss with used := s.used + cntN s.waits.length, waits := [] })
        have T8 := (by
          obtain ⟨okj, hj, -, -, hst⟩ := T7.jour
          exact hst _ _ (hj.set 4 (.int .i64 s.count) { ss with used := s.used + cntN s.waits.length, waits := [], synced := s.count } (fun _ => rfl) rfl) : JTo w (((w5.setCell ⟨gj, 3, none⟩ (.int .i64 (s.used + cntN s.waits.length))).setCell ⟨gj, 6, none⟩ (.slice none 0 0)).setCell ⟨gj, 4, none⟩ (.int .i64 s.count)) H ok g gj dd { ss with used := s.used + cntN s.waits.length, waits := [], synced := s.count })
        have HT8 := Aside0.mk T8
        clear T6 T7 T8 hd5 hb5 h5 q3 z3' k3 k5 k6 z3 hHeld r3 r5 r6
        go_wp2_with fail
        go_ret
        exact ⟨by rw [HE.out]; rfl, by rw [HE.out]; exact HT8.out⟩
      · have hE' := hE
        rw [if_pos her] at hE'
        have HE := Aside0.mk hE'
        have b1 : (er != 0) = true := bne_iff_ne.2 her
        have b2 : (er == 0) = false := beq_eq_false_iff_ne.2 her
        have b3 : decide (er = 0) = false := decide_eq_false her
        clear hE hE' r3 r5 r6
        go_wp2_with fail
        go_ret
        exact ⟨by rw [HE.out]; rfl, by rw [HE.out]; exact T4.out⟩
end Go.Proofs.Ythnjkmjcacoajaa.Jn
end

section
/- Checkpoint of a journal, walked. Conditions: bytes; the journal's bounds; a good stamp. -/
namespace Go.Proofs.Ythnjkmjcacoajaa.Jn
open Go Go.RowKit Go.Proofs.YthnjkmjcacoajaaW.PrintWords Go.Proofs.YthnjkmjcacoajaaW.PrintLast Go.Proofs.YthnjkmjcacoajaaW.PrintMore Go.Proofs.Ythnjkmjcacoajaa.Base Go.Proofs.Ythnjkmjcacoajaa.Arr
open Go.Proofs.Ythnjkmjcacoajaa.Dk (DS DiskIs DiskTo writeF flushF)
open Go.Proofs.Ythnjkmjcacoajaa.Ext (goodS runCells)
open Go.Proofs.Ythnjkmjcacoajaa.BinMath (Bytes)
set_option linter.unusedVariables false
set_option linter.unusedSimpArgs false

def ckptF (d : DS) (s : JS) (b : List Int) : Int × DS × JS :=
  let p := packedF s b
  if p.2 ≠ 0 then (p.2, d, s)
  else if cntN p.1.length > secN d.n then (7, d, s)
  else if s.gen = 4294967295 then (50, d, s)
  else
    let q := layF d s (firstN d.n (s.gen + 1)) (s.gen + 1) p.1
    if q.1 ≠ 0 then q else
      let r := layF q.2.1 q.2.2 ((s.gen + 1) % 2) (s.gen + 1) [1]
      if r.1 ≠ 0 then r else (0, r.2.1, { r.2.2 with gen := s.gen + 1, used := cntN p.1.length, waits := [], count := 1, synced := 1 })
theorem flushF_ok (d : DS) (h : (flushF d).1 = 0) : (flushF d).2.waits = [] := by
  unfold flushF at h ⊢
  split at h
  · cases h
  · rename_i h1
    rw [if_neg h1]
    split at h
    · rename_i h2
      rw [if_pos h2]
    · rename_i h2
      exact absurd h h2
theorem layF_ok (d : DS) (s : JS) (a g : Int) (b : List Int) (h : (layF d s a g b).1 = 0) : (layF d s a g b).2.1.waits = [] := by
  unfold layF putF at h ⊢
  simp only at h ⊢
  split at h
  · rename_i h1
    exact absurd h h1
  · rename_i h1
    rw [if_neg h1]
    exact flushF_ok _ h
theorem one_row (w : World) : Kd.C (Kd.int .u8) (w.alloc (.cells #[.int .u8 1] 5 (1, 2))) (some ⟨w.heap.size, 0, none⟩) ([1] : List Int).length [1] := by
  refine ⟨rfl, by decide, fun _ => ⟨⟨w.heap.size, 0, none⟩, rfl, fun j p hj => ?_⟩⟩
  rcases j with _ | j
  · injection hj with hj
    subst hj
    refine ⟨[.int .u8 1], rfl, rfl, fun i u hu => ?_⟩
    rcases i with _ | i
    · injection hu with hu
      subst hu
      have h0 : ((⟨w.heap.size, 0, none⟩ : Addr).add (0 * (Kd.int .u8).sz + 0)) = ⟨w.heap.size, 0, none⟩ := by simp [Addr.add]
      rw [h0]
      have hh : (w.alloc (.cells #[.int .u8 1] 5 (1, 2))).heap[w.heap.size]? = some (.cells #[.int .u8 1] 5 (1, 2)) := by
        show (w.heap.push _)[w.heap.size]? = _
        simp
      unfold World.cell?
      simp only [hh]
      rfl
    · simp at hu
  · simp at hj
theorem packed_pos (s : JS) (b : List Int) (h : (packedF s b).2 = 0) : 0 < (packedF s b).1.length := by
  unfold packedF at h ⊢
  split at h
  · cases h
  · rename_i h1
    rw [if_neg h1]
    split at h
    · rename_i h2
      rw [if_pos h2]
      show 0 < (FrameLink.pk b).length
      rw [FrameLink.pk_len]
      omega
    · cases h
set_option maxHeartbeats 4000000 in
set_option maxRecDepth 100000 in
theorem Checkpoint_calls (w : World) (H : Nat) (ok : Nat → Prop) (g gj : Nat) (d : DS) (s : JS) (h : JD w H ok g gj d s) (hs : SOK s) (hg : goodS s.gen s.epoch) (hw : d.waits.length ≤ 500000) (A : Option Addr) (c : Nat) (b : List Int) (hb : Kd.C (Kd.int .u8) w A b.length b) (hc : b.length ≤ c) (hby : Bytes b) :
    Calls Try.prog 14 #[.pointer (some ⟨gj, 0, none⟩), .slice A b.length c] w fun e w' => e = .returned (.int .i64 (ckptF d s b).1) ∧ JTo w w' H ok g gj (ckptF d s b).2.1 (ckptF d s b).2.2 := by
  have T0 := Aside0.mk (JTo.start h)
  have HB := Aside0.mk hb
  have HC := Aside0.mk hc
  have HBY := Aside0.mk hby
  have HS := Aside0.mk hs
  have HPL := Aside0.mk (packed_len s b)
  have HPP := Aside0.mk (packed_pos s b)
  have HG := Aside0.mk hg
  have HW := Aside0.mk hw
  obtain ⟨okj0, hj0, hH, -, -⟩ := T0.out.jour
  have HJ0 := Aside0.mk hj0
  have HP := Aside0.mk (packed_calls w)
  have hE : ckptF d s b = (if (packedF s b).2 ≠ 0 then ((packedF s b).2, d, s)
    else if cntN (packedF s b).1.length > secN d.n then (7, d, s)
    else if s.gen = 4294967295 then (50, d, s)
    else if (layF d s (firstN d.n (s.gen + 1)) (s.gen + 1) (packedF s b).1).1 ≠ 0 then layF d s (firstN d.n (s.gen + 1)) (s.gen + 1) (packedF s b).1
    else if (layF (layF d s (firstN d.n (s.gen + 1)) (s.gen + 1) (packedF s b).1).2.1 (layF d s (firstN d.n (s.gen + 1)) (s.gen + 1) (packedF s b).1).2.2 ((s.gen + 1) % 2) (s.gen + 1) [1]).1 ≠ 0 then layF (layF d s (firstN d.n (s.gen + 1)) (s.gen + 1) (packedF s b).1).2.1 (layF d s (firstN d.n (s.gen + 1)) (s.gen + 1) (packedF s b).1).2.2 ((s.gen + 1) % 2) (s.gen + 1) [1]
    else (0, (layF (layF d s (firstN d.n (s.gen + 1)) (s.gen + 1) (packedF s b).1).2.1 (layF d s (firstN d.n (s.gen + 1)) (s.gen + 1) (packedF s b).1).2.2 ((s.gen + 1) % 2) (s.gen + 1) [1]).2.1, { (layF (layF d s (firstN d.n (s.gen + 1)) (s.gen + 1) (packedF s b).1).2.1 (layF d s (firstN d.n (s.gen + 1)) (s.gen + 1) (packedF s b).1).2.2 ((s.gen + 1) % 2) (s.gen + 1) [1]).2.2 with gen := s.gen + 1, used := cntN (packedF s b).1.length, waits := [], count := 1, synced := 1 })) := rfl
  obtain ⟨⟨r, er⟩, hr⟩ : ∃ q, q = packedF s b := ⟨_, rfl⟩
  have HR := Aside0.mk hr
  rw [← hr] at hE HPL HPP
  simp only at hE HPL HPP
  clear hr h hb hc hby hs hw hj0
  by_cases h0 : er = 0
  case neg =>
    rw [if_pos h0] at hE
    have HF := Aside0.mk hE
    have b1 : (er != 0) = true := bne_iff_ne.2 h0
    have b2 : (er == 0) = false := beq_eq_false_iff_ne.2 h0
    have b3 : decide (er = 0) = false := decide_eq_false h0
    clear hE hH hg
    go_enter Try.func14, Try.ntmps14
    go_wp2_with fail
    refine (HP.out H okj0 g gj s HJ0.out A c b HB.out HC.out HBY.out).mono ?_
    rw [← HR.out]
    rintro e w1 ⟨v, rfl, hv, hb1⟩
    have T1 := Aside0.mk (T0.out.below hb1)
    clear hv hb1 T0
    go_wp2_with fail
    go_ret
    exact ⟨by rw [HF.out]; rfl, by rw [HF.out]; exact T1.out⟩
  subst h0
  rw [if_neg (by simp)] at hE
  obtain ⟨n1, n2⟩ := T0.out.n_le
  have hrl := HPL.out
  have HCNT := Aside0.mk (show r.length ≤ 1000000000000 by omega)
  clear n1 n2 hrl
  go_enter Try.func14, Try.ntmps14
  go_wp2_with fail
  refine (HP.out H okj0 g gj s HJ0.out A c b HB.out HC.out HBY.out).mono ?_
  rw [← HR.out]
  rintro e w1 ⟨v, rfl, hv, hb1⟩
  obtain ⟨A1, c1, rfl⟩ := Kd.R_slice hv
  have T1 := Aside0.mk (T0.out.below hb1)
  have HV := Aside0.mk (Kd.R_reads' hv)
  clear hv hb1 T0 HJ0 HB HP HBY HR HC
  go_wp2_with fail
  refine (count_drawn r.length HCNT.out w1).mono ?_
  rintro e w2 ⟨rfl, hd2⟩
  have T2 := Aside0.mk (T1.out.below hd2.below)
  have HV2 := Aside0.mk (And.intro HV.out.2.1 (Kd.C_below HV.out.2.2 hd2.below))
  clear hd2 T1 HV
  obtain ⟨okd2, hd2, -⟩ := T2.out.disk
  obtain ⟨okj2, hj2, -⟩ := T2.out.jour
  obtain ⟨A2, c2, h2, -, -⟩ := T2.out.cells
  obtain ⟨-, k1, -, -, -, -, -, -⟩ := jcell h2
  clear h2
  go_wp2_with fail
  refine (sectors_calls w2 H okd2 okj2 g gj d s hd2 hj2).mono ?_
  rintro e w2' ⟨rfl, rfl⟩
  by_cases hroom : cntN r.length > secN d.n
  · have d1 : decide (secN d.n < cntN r.length) = true := decide_eq_true hroom
    have p1 := eq_true (show secN d.n < cntN r.length from hroom)
    rw [if_pos hroom] at hE
    have HF := Aside0.mk hE
    clear hE hroom hd2 hj2 k1
    go_wp2_with fail
    go_ret
    exact ⟨by rw [HF.out]; rfl, by rw [HF.out]; exact T2.out⟩
  rw [if_neg hroom] at hE
  have d1 : decide (secN d.n < cntN r.length) = false := decide_eq_false hroom
  have p1 := eq_false (show ¬ secN d.n < cntN r.length from hroom)
  by_cases hmg : s.gen = 4294967295
  · have g1 : (s.gen == 4294967295) = true := beq_iff_eq.2 hmg
    have g2 : decide (s.gen = 4294967295) = true := decide_eq_true hmg
    rw [if_pos hmg] at hE
    have HF := Aside0.mk hE
    have p2 := eq_true hmg
    clear hE hroom hd2 hj2 hmg
    go_wp2_with fail
    go_ret
    exact ⟨by rw [HF.out]; rfl, by rw [HF.out]; exact T2.out⟩
  rw [if_neg hmg] at hE
  have g1 : (s.gen == 4294967295) = false := beq_eq_false_iff_ne.2 hmg
  have g2 : decide (s.gen = 4294967295) = false := decide_eq_false hmg
  have p2 := eq_false hmg
  have hgu := HS.out.2.2.2
  have e3 : wrap64 (s.gen + 1) = s.gen + 1 := by unfold wrap64; omega
  have HG1 := Aside0.mk (show 0 ≤ s.gen + 1 by omega)
  have HGS := Aside0.mk (show goodS (s.gen + 1) s.epoch from ⟨by omega, by omega, hg.2.2.1, hg.2.2.2⟩)
  obtain ⟨n1, n2⟩ := T2.out.n_le
  have HFR := Aside0.mk (firstN_range d.n n2 (s.gen + 1))
  have HD2 := Aside0.mk hd2
  have HJ2 := Aside0.mk hj2
  have HE := Aside0.mk hE
  clear hE hroom hd2 hj2 hmg n1 n2 hH hg
  go_wp2_with fail
  refine (first_calls w2 H okd2 okj2 g gj d s HD2.out HJ2.out (s.gen + 1) HG1.out).mono ?_
  rintro e w2' ⟨rfl, rfl⟩
  obtain ⟨ok2, hJD, -, hcall⟩ := T2.out.call
  have HJD := Aside0.mk hJD
  have HCALL := Aside0.mk hcall
  clear hJD hcall k1 hgu
  go_wp2_with fail
  refine (lay_calls w2 H ok2 g gj d s HJD.out (firstN d.n (s.gen + 1)) (s.gen + 1) (by have := HFR.out; omega) HGS.out A1 c1 r HV2.out.2 HV2.out.1 (HPP.out (by first | rfl | trivial)) (by have := HPL.out; omega) HW.out).mono ?_
  rintro e w3 ⟨rfl, hto⟩
  have T3 := Aside0.mk (HCALL.out _ _ _ hto)
  have hE := HE.out
  have hrest := layF_rest d s (firstN d.n (s.gen + 1)) (s.gen + 1) r
  have hok := layF_ok d s (firstN d.n (s.gen + 1)) (s.gen + 1) r
  obtain ⟨⟨er, dd, ss⟩, hq⟩ : ∃ q, q = layF d s (firstN d.n (s.gen + 1)) (s.gen + 1) r := ⟨_, rfl⟩
  rw [← hq] at T3 hrest hE hok ⊢
  simp only at T3 hrest hE hok
  obtain ⟨r1, r2, -, -, -, -⟩ := hrest
  clear hq HE hto HCALL HJD
  by_cases her : er = 0
  case neg =>
    rw [if_pos her] at hE
    have HF := Aside0.mk hE
    have b1 : (er != 0) = true := bne_iff_ne.2 her
    have b2 : (er == 0) = false := beq_eq_false_iff_ne.2 her
    have b3 : decide (er = 0) = false := decide_eq_false her
    clear hE hok
    go_wp2_with fail
    go_ret
    exact ⟨by rw [HF.out]; rfl, by rw [HF.out]; exact T3.out⟩
  subst her
  rw [if_neg (by simp)] at hE
  have HE := Aside0.mk hE
  have hrem : Int.tmod (s.gen + 1) 2 = (s.gen + 1) % 2 := Int.tmod_eq_emod_of_nonneg HG1.out
  have hrem2 : wrap64 ((s.gen + 1) % 2) = (s.gen + 1) % 2 := by unfold wrap64; omega
  have HDW := Aside0.mk (hok rfl)
  obtain ⟨ok3, hJD, -, hcall⟩ := (T3.out.below (below_alloc (Below.refl _ _) (.cells #[.int .u8 1] 5 (1, 2)))).call
  have HJD := Aside0.mk hJD
  have HCALL := Aside0.mk hcall
  have HONE := Aside0.mk (show Kd.C (Kd.int .u8) (w3.alloc (.cells #[.int .u8 1] 5 (1, 2))) (some ⟨w3.heap.size, 0, none⟩) ([1] : List Int).length [1] from one_row w3)
  have kc := fun (w : World) (C : Array Value) (n c : Nat) => Lib.run_convert_bytes_const (P := Try.prog) w 31 5 C n c Try.underlying31 Try.underlying5
  have HGS2 := Aside0.mk (show goodS (s.gen + 1) ss.epoch by rw [r2]; exact HGS.out)
  clear hE hok hJD hcall r1 r2
  go_wp2_with fail
  refine (lay_calls (w3.alloc (.cells #[.int .u8 1] 5 (1, 2))) H ok3 g gj dd ss HJD.out ((s.gen + 1) % 2) (s.gen + 1) (by omega) HGS2.out (some ⟨w3.heap.size, 0, none⟩) 1 [1] HONE.out (Nat.le_refl _) (by decide) (by decide) (by rw [HDW.out]; exact Nat.zero_le _)).mono ?_
  rintro e w4 ⟨rfl, hto⟩
  have T4 := Aside0.mk (HCALL.out _ _ _ hto)
  have hE := HE.out
  obtain ⟨⟨er, d4, s4⟩, hq⟩ : ∃ q, q = layF dd ss ((s.gen + 1) % 2) (s.gen + 1) [1] := ⟨_, rfl⟩
  rw [← hq] at T4 hE ⊢
  simp only at T4 hE
  clear hq HE hto HCALL HJD HONE hrem hrem2 HDW
  by_cases her : er = 0
  case neg =>
    rw [if_pos her] at hE
    have HF := Aside0.mk hE
    have b1 : (er != 0) = true := bne_iff_ne.2 her
    have b2 : (er == 0) = false := beq_eq_false_iff_ne.2 her
    have b3 : decide (er = 0) = false := decide_eq_false her
    clear hE
    go_wp2_with fail
    go_ret
    exact ⟨by rw [HF.out]; rfl, by rw [HF.out]; exact T4.out⟩
  subst her
  rw [if_neg (by simp)] at hE
  have HE := Aside0.mk hE
  obtain ⟨A4, c4, h4, -, -⟩ := T4.out.cells
  obtain ⟨K0, K1, K2, K3, K4, K5, K6, K7⟩ := jcell h4
  have Z1 := h4.free 1
  have Z3 := h4.free 3
  have Z4 := h4.free 4
  have Z5 := h4.free 5
  have Z6 := h4.free 6
  have HEND := Aside0.mk (show JTo w (((((w4.setCell ⟨gj, 1, none⟩ (.int .i64 (s.gen + 1))).setCell ⟨gj, 3, none⟩ (.int .i64 (cntN r.length))).setCell ⟨gj, 6, none⟩ (.slice none 0 0)).setCell ⟨gj, 5, none⟩ (.int .i64 1)).setCell ⟨gj, 4, none⟩ (.int .i64 1)) H ok g gj d4 { s4 with gen := s.gen + 1, used := cntN r.length, waits := [], count := 1, synced := 1 } from by
    obtain ⟨okj, hj, -, -, hst⟩ := T4.out.jour
    refine hst _ _ (JOnly.then_ (hj.set 1 (.int .i64 (s.gen + 1)) { s4 with gen := s.gen + 1 } (fun _ => rfl) rfl) fun o1 h1 => ?_)
    refine JOnly.then_ (h1.set 3 (.int .i64 (cntN r.length)) { s4 with gen := s.gen + 1, used := cntN r.length } (fun _ => rfl) rfl) fun o2 h2 => ?_
    refine JOnly.then_ h2.set_nil fun o3 h3 => ?_
    refine JOnly.then_ (h3.set 5 (.int .i64 1) { s4 with gen := s.gen + 1, used := cntN r.length, waits := [], count := 1 } (fun _ => rfl) rfl) fun o4 h4 => ?_
    exact h4.set 4 (.int .i64 1) _ (fun _ => rfl) rfl)
  clear hE h4 K0 K2 K7
  go_wp2_with fail
  go_ret
  exact ⟨by rw [HE.out]; rfl, by rw [HE.out]; exact HEND.out⟩
end Go.Proofs.Ythnjkmjcacoajaa.Jn
end

section
/- read of the journal, walked: all sectors of a disk that is not dead. No condition. -/
namespace Go.Proofs.Ythnjkmjcacoajaa.Jn
open Go Go.RowKit Go.Proofs.YthnjkmjcacoajaaW.PrintWords Go.Proofs.YthnjkmjcacoajaaW.PrintLast Go.Proofs.YthnjkmjcacoajaaW.PrintMore Go.Proofs.Ythnjkmjcacoajaa.Base Go.Proofs.Ythnjkmjcacoajaa.Arr
open Go.Proofs.Ythnjkmjcacoajaa.Dk (DS DiskIs DiskTo writeF flushF)
set_option linter.unusedVariables false
set_option linter.unusedSimpArgs false

/-- the sectors as they are seen -/
def rowsTo (d : DS) (n : Nat) : List (List Int) := (List.range n).map fun i => Dk.curS d.stays d.waits i
def rowsD (d : DS) : List (List Int) := rowsTo d d.n
theorem rowsTo_len (d : DS) (n : Nat) : (rowsTo d n).length = n := by unfold rowsTo; simp
theorem rowsTo_succ (d : DS) (n : Nat) : rowsTo d (n + 1) = rowsTo d n ++ [Dk.curS d.stays d.waits n] := by
  unfold rowsTo
  rw [List.range_succ, List.map_append]
  rfl
set_option maxHeartbeats 4000000 in
set_option maxRecDepth 100000 in
theorem read_calls (w : World) (H : Nat) (ok : Nat → Prop) (g : Nat) (d : DS) (h : DiskIs w H ok g d) (hd : d.dead = false) :
    Calls Try.prog 42 #[.pointer (some ⟨g, 0, none⟩), .int .i64 0, .int .i64 (d.n : Int)] w fun e w' => ∃ v, e = .returned (.tuple #[v, .int .i64 0]) ∧ Kd.S (Kd.slice 82 (Kd.int .u8)) 31 w' w.heap.size (fun _ => True) v (rowsD d) ∧ Below w.heap.size w w' := by
  have HD := Aside0.mk h
  have HDE := Aside0.mk hd
  obtain ⟨n1, n2⟩ := DiskIs.n_le h
  have HN := Aside0.mk (And.intro n1 n2)
  clear h hd n1 n2
  go_enter Try.func42, Try.ntmps42
  go_wp2_with fail
  go_loopw [8, 9] (fun v i wr => ∃ j : Nat, j ≤ d.n ∧ i = .int .i64 (j : Nat) ∧ Aside0 (Kd.S (Kd.slice 82 (Kd.int .u8)) 31 wr w.heap.size (fun _ => True) v (rowsTo d j)) ∧ Aside0 (Below w.heap.size w wr)) (fun _ i _ => d.n + 1 - (intOf i).toNat)
  case atStart => exact ⟨0, by omega, rfl, ⟨Kd.S_nil _ _ _ _ _⟩, ⟨Below.refl _ _⟩⟩
  case round =>
    obtain ⟨j, hj, rfl, HS, HB⟩ := hrel
    have hn := HN.out
    have e1 : wrap64 (0 + (d.n : Int)) = (d.n : Int) := by unfold wrap64; omega
    by_cases hlt : j < d.n
    · have d1 : decide ((j : Int) < (d.n : Int)) = true := decide_eq_true (by omega)
      have d2 : decide (j < d.n) = true := decide_eq_true hlt
      have hj5 : j < 512 := by omega
      have ht : Dk.thereE d (j : Int) = 0 := by
        unfold Dk.thereE
        rw [HDE.out, if_neg (by decide), if_neg (by omega), if_neg (by omega)]
      have hr : Dk.readF d (j : Int) = Dk.curS d.stays d.waits j := by
        unfold Dk.readF
        rw [if_neg (fun q => q ht), Int.toNat_natCast]
      have HT := Aside0.mk ht
      have HR := Aside0.mk hr
      clear ht hr
      go_wp2_with fail
      refine (Dk.Read_calls wr H ok g d (Dk.DiskIs.below HD.out HB.out) (j : Int)).mono ?_
      rintro e w3 ⟨v3, rfl, h3, b3⟩
      rw [HT.out]
      rw [HR.out] at h3
      have HSN := Aside0.mk (rowsTo_succ d j)
      have HLN := Aside0.mk (show (rowsTo d j).length ≤ 512 by rw [rowsTo_len]; omega)
      generalize rowsTo d j = X at *
      generalize Dk.curS d.stays d.waits j = p at *
      obtain ⟨A3, c3, rfl⟩ := Kd.R_slice h3
      have HB3 := Aside0.mk (below_then HB.out HB.out.size b3)
      have HLT2 := Aside0.mk (Kd.S_lt HS.out)
      have HK1' := Aside0.mk (fun (k : Nat) (hk : some k = (Value.slice A3 p.length c3).ownBlock) => (And.intro trivial (fun he => absurd (HLT2.out k he.symm) (Nat.not_lt.mpr (Kd.R_base h3 k hk.symm))) : True ∧ some k ≠ u8.ownBlock))
      have HO1 := Aside0.mk (Kd.S_mono (ok' := fun k => True ∧ ¬ some k = (Value.slice A3 p.length c3).ownBlock) (Kd.S_old HS.out b3) (fun k hk => ⟨trivial, fun he => absurd hk.2 (Nat.not_lt.mpr (Kd.R_base h3 k he.symm))⟩))
      have HP1 := Aside0.mk (Kd.M_row (Kd.R_lower (Kd.R_tight rfl h3) HB.out.size))
      clear h3 b3 HS HB hn
      go_wp2_with (first | (at_builtin; refine Kd.S_append (Kd.slice 82 (Kd.int .u8)) (w0 := w) w.heap.size rfl (.tmp 29) (.tmp 31) 37 31 (.slice none 0 0) 24 rfl Try.underlying37 infoRow rfl (by decide) (by omega) u8 X p [.slice A3 p.length c3] (fun _ => True) (fun k => some k = (Value.slice A3 p.length c3).ownBlock) rfl rfl HP1.out HK1'.out (fun _ _ => trivial) HO1.out HB3.out HB3.out.size ?aL ?_; (case aL => have := HLN.out; omega); intro v4 w4 ho hb hg hat; have HS4 := Aside0.mk ho; have HB4 := Aside0.mk hb; clear ho hb hg hat))
      exact ⟨⟨j + 1, by omega, by rw [show ((j + 1 : Nat) : Int) = (j : Int) + 1 by omega], ⟨by rw [HSN.out]; exact HS4.out⟩, HB4⟩, by simp [intOf]; omega⟩
    · obtain rfl : j = d.n := by omega
      have d1 : decide ((d.n : Int) < (d.n : Int)) = false := by simp
      have d2 : decide (d.n < d.n) = false := by simp
      go_wp2_with fail
      go_ret2
      exact ⟨_, rfl, HS.out, HB.out⟩
end Go.Proofs.Ythnjkmjcacoajaa.Jn
end

section
/- epoch of the journal, walked: the greatest one of sectors. Condition: sectors of bytes. -/
namespace Go.Proofs.Ythnjkmjcacoajaa.Jn
open Go Go.RowKit Go.Proofs.YthnjkmjcacoajaaW.PrintWords Go.Proofs.YthnjkmjcacoajaaW.PrintLast Go.Proofs.YthnjkmjcacoajaaW.PrintMore Go.Proofs.Ythnjkmjcacoajaa.Base Go.Proofs.Ythnjkmjcacoajaa.Arr
open Go.Proofs.Ythnjkmjcacoajaa.Dk (DS DiskIs DiskTo writeF flushF)
open Go.Proofs.Ythnjkmjcacoajaa.Ext (stampV strip_Front.calls strip_Front.f)
set_option linter.unusedVariables false
set_option linter.unusedSimpArgs false
attribute [local go_sem] max2_int min2_int max_two min_two max_three min_three max_four min_four

def epF (b : List Int) : Int := (stampV b : Int) % 4294967296
def gnF (b : List Int) : Int := (stampV b : Int) / 4294967296
def epochF (l : List (List Int)) : Int := l.foldl (fun t b => if t < epF b then epF b else t) 0
/-- sectors: 64 bytes each -/
def Secs (l : List (List Int)) : Prop := ∀ r ∈ l, r.length = 64 ∧ Ext.Bytes r
theorem front_eq {b : List Int} (h : b.length = 64 ∧ Ext.Bytes b) : strip_Front.f b = some (gnF b, epF b, 0) := by
  unfold strip_Front.f
  rw [if_pos h.1, if_pos (Ext.bytes_to h.2)]
  rfl
theorem take_snoc {α : Type} (l : List α) (j : Nat) (r : α) (h : l[j]? = some r) : l.take (j + 1) = l.take j ++ [r] := by
  rw [List.take_add_one, h]
  rfl
set_option maxHeartbeats 4000000 in
set_option maxRecDepth 100000 in
theorem epoch_calls (w : World) (A : Option Addr) (c : Nat) (l : List (List Int)) (hr : (Kd.slice 5 (Kd.int .u8)).C w A l.length l) (hc : l.length ≤ c) (hb : Secs l) (hl : l.length ≤ 1000000) :
    Calls Try.prog 43 #[.slice A l.length c] w fun e w' => e = .returned (.int .i64 (epochF l)) ∧ Below w.heap.size w w' := by
  have HR := Aside0.mk hr
  have HB0 := Aside0.mk hb
  have HL := Aside0.mk hl
  clear hr hb hc
  go_enter Try.func43, Try.ntmps43
  go_wp2_with fail
  go_loopw [2, 9] (fun t i wr => ∃ j : Nat, j ≤ l.length ∧ i = .int .i64 (j : Nat) ∧ t = .int .i64 (epochF (l.take j)) ∧ Aside0 (Below w.heap.size w wr)) (fun _ i _ => l.length + 1 - (intOf i).toNat)
  case atStart => exact ⟨0, by omega, rfl, rfl, ⟨Below.refl _ _⟩⟩
  case round =>
    obtain ⟨j, hj, rfl, rfl, HB⟩ := hrel
    by_cases hlt : j < l.length
    · have d1 : decide ((j : Int) < (l.length : Int)) = true := decide_eq_true (by omega)
      have d2 : decide (j < l.length) = true := decide_eq_true hlt
      have hx := List.getElem?_eq_getElem hlt
      have hmem := List.getElem_mem hlt
      obtain ⟨r, hr⟩ : ∃ r, r = l[j] := ⟨_, rfl⟩
      rw [← hr] at hx hmem
      obtain ⟨ad, A2, c2, rfl, K1, hc2, hC2⟩ := row_elem (w := wr) (Kd.C_below HR.out HB.out) hx
      have HF := Aside0.mk (front_eq (HB0.out r hmem))
      have HTS := Aside0.mk (show epochF (l.take (j + 1)) = if epochF (l.take j) < epF r then epF r else epochF (l.take j) by
        rw [take_snoc l j r hx]
        unfold epochF
        rw [List.foldl_append]
        rfl)
      have i1 := eq_true (show (0 : Int) ≤ (j : Int) by omega)
      have i2 := eq_true (show (j : Int) < (l.length : Int) by omega)
      clear hx hmem hr
      generalize epochF (l.take j) = t0 at *
      generalize gnF r = g0 at *
      generalize epF r = e0 at *
      go_wp2_with fail
      refine (strip_Front.calls A2 c2 r g0 e0 0 wr hC2 hc2 HF.out).mono ?_
      rintro e w3 ⟨rfl, b3⟩
      have HB3 := Aside0.mk (below_then HB.out HB.out.size b3)
      have HNEW := Aside0.mk (HoldsRow.new w3 44 #[.int .i64 0, .int .i64 0])
      have hb4 := Go.Proofs.Ythnjkmjcacoajaa.Arr.below_setRow (b := w3.heap.size) (below_alloc HB3.out (.cells #[.int .i64 0, .int .i64 0] 44)) #[.int .i64 g0, .int .i64 e0] HB3.out.size
      have hrow4 := HNEW.out.row #[.int .i64 g0, .int .i64 e0]
      have K4 := hrow4.cell (j := 1) (v := .int .i64 e0) rfl
      have HB4 := Aside0.mk hb4
      clear b3 hb4 hrow4 K1 HB
      obtain ⟨w4, hw4⟩ : ∃ w4 : World, w4 = (w3.alloc (.cells #[.int .i64 0, .int .i64 0] 44)).setRow w3.heap.size #[.int .i64 g0, .int .i64 e0] := ⟨_, rfl⟩
      rw [← hw4] at K4 HB4
      have HW4 := Aside0.mk hw4
      clear hw4
      go_wp2_with (refine wpList_store_row rfl 44 (.tmp 5) (.tmp 16) rfl w3.heap.size #[.int .i64 g0, .int .i64 e0] rfl rfl 44 #[.int .i64 0, .int .i64 0] HNEW.out (by kernel_rfl) rfl (by simp [Value.oneCell']) ?_; rw [← HW4.out])
      exact ⟨⟨j + 1, by omega, by rw [show ((j + 1 : Nat) : Int) = (j : Int) + 1 by omega], by rw [HTS.out], HB4⟩, by simp [intOf]; omega⟩
    · obtain rfl : j = l.length := by omega
      have d1 : decide ((l.length : Int) < (l.length : Int)) = false := by simp
      have d2 : decide (l.length < l.length) = false := by simp
      rw [List.take_length]
      go_wp2_with fail
      go_ret
      exact ⟨rfl, HB.out⟩
end Go.Proofs.Ythnjkmjcacoajaa.Jn
end
