/- A call of both, walked: what it does to either disk is the same. Condition: a million writes wait at most. -/
import Derived.Test.YtkmgbmnjabmhaaaPair
namespace Go.Proofs.Ytkmgbmnjabmhaaa.Ext
open Go Go.RowKit Go.Proofs.YtkmgbmnjabmhaaaW.PrintWords Go.Proofs.YtkmgbmnjabmhaaaW.PrintLast Go.Proofs.YtkmgbmnjabmhaaaW.PrintMore Go.Proofs.Ytkmgbmnjabmhaaa.Base Go.Proofs.Ytkmgbmnjabmhaaa.Arr
set_option linter.unusedVariables false
set_option linter.unusedSimpArgs false

set_option maxHeartbeats 4000000 in
theorem FailDead_calls (w : World) (base : Nat) (ok : Nat → Prop) (g : Nat) (s : DS) (h : DiskIs w base ok g s) (hd : s.dead = true) (n bits cut : Int) :
    Calls Try.prog 19 #[.pointer (some ⟨g, 0, none⟩), .int .i64 n, .int .u64 bits, .int .i64 cut] w fun e w' => e = .returned (.int .i64 30) ∧ w = w' := by
  have HD := Aside0.mk h
  have HM := Aside0.mk (show mayE s = 30 by unfold mayE; rw [hd]; rfl)
  clear h hd
  go_enter Try.func19, Try.ntmps19
  go_wp2_with fail
  refine (may_calls w base ok g s HD.out).mono ?_
  rintro e w1 ⟨rfl, rfl⟩
  rw [HM.out]
  go_wp2_with fail
  go_ret
  exact ⟨rfl, rfl⟩
theorem alloc_size (w : World) (o : Obj) : (w.alloc o).heap.size = w.heap.size + 1 := by
  show (w.heap.push o).size = _
  exact Array.size_push _
theorem fail_dead {s : DS} (h : s.dead = true) (n bits cut : Int) : failF s n bits cut = (30, s) := if_pos h
theorem fail_alive {s : DS} (h : s.dead = false) (n bits cut : Int) : failF s n bits cut = (0, { s with plan := failP n bits cut }) := if_neg (by rw [h]; decide)
theorem PFail_a (H : Nat) (w : World) (ok : Nat → Prop) (g : Nat) (s : DS) (n bits cut : Int) (h : DL H w ok g s) (hn : n ≤ 9223372036854775807) :
    Calls Try.prog 19 #[.pointer (some ⟨g, 0, none⟩), .int .i64 n, .int .u64 bits, .int .i64 cut] w fun e w' => e = .returned (.int .i64 (failF s n bits cut).1) ∧ ∃ ok', DL H w' ok' g (failF s n bits cut).2 ∧ Moves H w w' ok ok' := by
  cases hd : s.dead with
  | true =>
    rw [fail_dead hd]
    refine (FailDead_calls w H ok g s h.1 hd n bits cut).mono ?_
    rintro e w' ⟨he, rfl⟩
    exact ⟨he, ok, h, Moves.of_below h.2.2 h.2.1 (Below.refl _ _)⟩
  | false =>
    rw [fail_alive hd]
    exact LFail H w ok g s n bits cut h hd hn
theorem PFail_b (H : Nat) (w : World) (ok : Nat → Prop) (g : Nat) (s : DS) (n bits cut : Int) (h : RL H w ok g s) (hn : n ≤ 9223372036854775807) :
    Calls Try.prog 38 #[.pointer (some ⟨g, 0, none⟩), .int .i64 n, .int .u64 bits, .int .i64 cut] w fun e w' => e = .returned (.int .i64 (failF s n bits cut).1) ∧ ∃ ok', RL H w' ok' g (failF s n bits cut).2 ∧ Moves H w w' ok ok' :=
  (RFail_calls w H ok g s h.1 n bits cut hn).mono fun e w' ⟨he, hto⟩ => ⟨he, h.to_ hto⟩
theorem PFlush_a (H : Nat) (w : World) (ok : Nat → Prop) (g : Nat) (s : DS) (h : DL H w ok g s) (hw : s.waits.length ≤ 1000000) :
    Calls Try.prog 13 #[.pointer (some ⟨g, 0, none⟩)] w fun e w' => e = .returned (.int .i64 (flushF s).1) ∧ ∃ ok', DL H w' ok' g (flushF s).2 ∧ Moves H w w' ok ok' :=
  (Flush_calls w H ok g s h.1 h.2.2 hw).mono fun e w' ⟨he, hto⟩ => ⟨he, h.to2 hto⟩
theorem PFlush_b (H : Nat) (w : World) (ok : Nat → Prop) (g : Nat) (s : DS) (h : RL H w ok g s) (hw : s.waits.length ≤ 1000000) :
    Calls Try.prog 37 #[.pointer (some ⟨g, 0, none⟩)] w fun e w' => e = .returned (.int .i64 (flushF s).1) ∧ ∃ ok', RL H w' ok' g (flushF s).2 ∧ Moves H w w' ok ok' :=
  (RFlush_calls w H ok g s h.1 h.2.2 hw).mono fun e w' ⟨he, hto⟩ => ⟨he, h.to_ hto⟩
theorem PCrash_a (H : Nat) (w : World) (ok : Nat → Prop) (g : Nat) (s : DS) (bits cut : Int) (h : DL H w ok g s) (hw : s.waits.length ≤ 1000000) :
    Calls Try.prog 15 #[.pointer (some ⟨g, 0, none⟩), .int .u64 bits, .int .i64 cut] w fun e w' => e = .returned (.int .i64 (crashF s bits cut).1) ∧ ∃ ok', DL H w' ok' g (crashF s bits cut).2 ∧ Moves H w w' ok ok' :=
  (Crash_calls w H ok g s h.1 h.2.2 hw bits cut).mono fun e w' ⟨he, hto⟩ => ⟨he, h.to2 hto⟩
theorem PCrash_b (H : Nat) (w : World) (ok : Nat → Prop) (g : Nat) (s : DS) (bits cut : Int) (h : RL H w ok g s) (hw : s.waits.length ≤ 1000000) :
    Calls Try.prog 39 #[.pointer (some ⟨g, 0, none⟩), .int .u64 bits, .int .i64 cut] w fun e w' => e = .returned (.int .i64 (crashF s bits cut).1) ∧ ∃ ok', RL H w' ok' g (crashF s bits cut).2 ∧ Moves H w w' ok ok' :=
  (RCrash_calls w H ok g s h.1 h.2.2 hw bits cut).mono fun e w' ⟨he, hto⟩ => ⟨he, h.to_ hto⟩
theorem PBoot_a (H : Nat) (w : World) (ok : Nat → Prop) (g : Nat) (s : DS) (h : DL H w ok g s) :
    Calls Try.prog 16 #[.pointer (some ⟨g, 0, none⟩)] w fun e w' => e = .returned (.int .i64 0) ∧ ∃ ok', DL H w' ok' g (bootS s) ∧ Moves H w w' ok ok' := LBoot H w ok g s h
theorem PBoot_b (H : Nat) (w : World) (ok : Nat → Prop) (g : Nat) (s : DS) (h : RL H w ok g s) :
    Calls Try.prog 40 #[.pointer (some ⟨g, 0, none⟩)] w fun e w' => e = .returned (.int .i64 0) ∧ ∃ ok', RL H w' ok' g (bootS s) ∧ Moves H w w' ok ok' :=
  (RBoot_calls w H ok g s h.1).mono fun e w' ⟨he, hto⟩ => ⟨he, h.to_ hto⟩
theorem waits_doing (s : DS) : (doingF s).2.waits.length ≤ s.waits.length + 1 := by
  unfold doingF
  split
  · exact Nat.le_succ _
  · split
    · exact Nat.le_succ _
    · exact Nat.zero_le _
def stepF (s : DS) (k a b bits : Int) (raw : List Int) : DS :=
  if k = 0 then (writeF s a (secI b)).2 else if k = 1 then s else if k = 2 then (flushF s).2 else if k = 3 then (failF s a bits b).2 else if k = 4 then (crashF s bits b).2 else if k = 5 then bootS s else (writeF s a raw).2
def docells (k a b bits : Int) (v : Value) : Array Value := #[.int .i64 k, .int .i64 a, .int .i64 b, .int .u64 bits, v]

set_option maxHeartbeats 8000000 in
set_option maxRecDepth 100000 in
theorem step0_calls (H : Nat) (w : World) (okA okB : Nat → Prop) (g h : Nat) (s : DS) (t : Pair H w okA okB g h s) (hw : s.waits.length ≤ 1000000) (kd a b bits : Int) (A : Option Addr) (c : Nat) (raw : List Int) (hb : ∀ W', Kept w W' (okU okA okB) → Kd.C (Kd.int .u8) W' A raw.length raw) (hc : raw.length ≤ c) (hl : raw.length < 140737488355328) (ha : a ≤ 9223372036854775807) (hk : encoreref00_Bring.f kd 7 = some 0) :
    Calls Try.prog 24 #[.agg (bcells g h), .agg (docells kd a b bits (.slice A raw.length c))] w (PPost H w okA okB g h (stepF s 0 a b bits raw)) := by
  have HT := Aside0.mk t
  have HWH := Aside0.mk t.hsize
  have HW := Aside0.mk hw
  have HB := Aside0.mk hb
  have HC := Aside0.mk hc
  have HL := Aside0.mk hl
  have HA := Aside0.mk ha
  have HK := Aside0.mk hk
  clear t hw hb hc hl ha hk
  unfold bcells docells
  go_enter Try.func24, Try.ntmps24
  obtain ⟨W1, hW1⟩ : ∃ W1 : World, W1 = (w.alloc (.cells #[.pointer (some ⟨g, 0, none⟩), .pointer (some ⟨h, 0, none⟩)] 55)).alloc (.cells #[.int .i64 kd, .int .i64 a, .int .i64 b, .int .u64 bits, .slice A raw.length c] 58) := ⟨_, rfl⟩
  obtain ⟨b2, hb2⟩ : ∃ b2, b2 = w.heap.size := ⟨_, rfl⟩
  obtain ⟨b3, hb3⟩ : ∃ b3, b3 = w.heap.size + 1 := ⟨_, rfl⟩
  have hbel1 : Below w.heap.size w W1 := by rw [hW1]; exact below_alloc (below_alloc (Below.refl _ _) _) _
  have P2 := Aside0.mk (show HoldsRow W1 b2 55 (bcells g h) by rw [hW1, hb2]; exact (HoldsRow.new w _ _).alloc _)
  have P3 := Aside0.mk (show HoldsRow W1 b3 58 (docells kd a b bits (.slice A raw.length c)) by
    have e : b3 = (w.alloc (.cells #[.pointer (some ⟨g, 0, none⟩), .pointer (some ⟨h, 0, none⟩)] 55)).heap.size := by rw [hb3, alloc_size]
    rw [hW1, e]; exact HoldsRow.new _ _ _)
  have N2 := Aside0.mk (show ¬ okU okA okB b2 from fun q => by have := HT.out.lt _ q; omega)
  have N3 := Aside0.mk (show ¬ okU okA okB b3 from fun q => by have := HT.out.lt _ q; omega)
  have T1 := Aside0.mk (HT.out.below hbel1)
  have M1 := Aside0.mk (Moves.of_below HT.out.1.2.2 HT.out.lt hbel1)
  have k0 := P3.out.cell (j := 0) (v := .int .i64 kd) rfl
  rw [hW1, hb3] at k0
  go_wp2_with fail
  rw [← hW1, ← hb3, ← hb2]
  clear hW1 hb2 hb3 hbel1 k0
  ((with_reducible refine (encoreref00_Bring.calls kd 7 0 W1 HK.out).mono ?_))
  rintro e w2 ⟨rfl, hd⟩
  have T2 := Aside0.mk (T1.out.below hd.below)
  have M2 := Aside0.mk (M1.out.below T1.out.hsize hd.below)
  have P22 := Aside0.mk (P2.out.below hd.below P2.out.lt)
  have P32 := Aside0.mk (P3.out.below hd.below P3.out.lt)
  clear hd T1 M1 P2 P3
  have KR : w2.rangeAt b2 0 (bcells g h).toList := fun q u hu => P22.out.cell (by rw [Nat.zero_add]; simpa using hu)
  have K0 := P22.out.cell (j := 0) (v := .pointer (some ⟨g, 0, none⟩)) rfl
  have K1 := P22.out.cell (j := 1) (v := .pointer (some ⟨h, 0, none⟩)) rfl
  have D0 := P32.out.cell (j := 0) (v := .int .i64 kd) rfl
  have D1 := P32.out.cell (j := 1) (v := .int .i64 a) rfl
  have D2 := P32.out.cell (j := 2) (v := .int .i64 b) rfl
  have D3 := P32.out.cell (j := 3) (v := .int .u64 bits) rfl
  have D4 := P32.out.cell (j := 4) (v := .slice A raw.length c) rfl
  go_wp2_with fail
  have T2d := Aside0.mk (T2.out.below (below_drew (Below.refl _ w2)))
  have M2d := Aside0.mk (M2.out.below T2.out.hsize (below_drew (Below.refl _ w2)))
  have P2d := Aside0.mk (show HoldsRow w2.drew b2 55 (bcells g h) from P22.out)
  have P3d := Aside0.mk (show HoldsRow w2.drew b3 58 (docells kd a b bits (.slice A raw.length c)) from P32.out)
  clear T2 M2 P22 P32
  refine start_ (n := 8) (S := fun w' => w'.cell? ⟨b2, 0, none⟩ = some (.pointer (some ⟨g, 0, none⟩)) ∧ w'.cell? ⟨b2, 1, none⟩ = some (.pointer (some ⟨h, 0, none⟩)) ∧ w'.cell? ⟨b3, 1, none⟩ = some (.int .i64 a) ∧ w'.cell? ⟨b3, 2, none⟩ = some (.int .i64 b)) (ds := []) #[false, false, false, false, false, false, false, false] (by kernel_rfl) rfl rfl ⟨K0, K1, D1, D2⟩ (fun hHeld => ?_)
  refine pure_ (i := 1) (N := some 11) (v := ?_) (a' := ?_) #[false, true, false, false, false, false, false, false] rfl rfl (by kernel_rfl) (fun _ _ _ h => h) (Or.inl ⟨by rfl, ?_⟩) ?_ ?_
  rotate_left
  · intro w'
    go_simp
    with_reducible rfl
  rotate_left
  · simp only [Act.put, List.setIfInBounds_toArray, List.set_cons_zero, List.set_cons_succ, i64_w, i32_w]
    rfl
  refine pure_ (i := 3) (N := some 13) (v := ?_) (a' := ?_) #[false, true, false, true, false, false, false, false] rfl rfl (by kernel_rfl) (fun _ _ _ h => h) (Or.inl ⟨by rfl, ?_⟩) ?_ ?_
  rotate_left
  · intro w'
    go_simp
    with_reducible rfl
  rotate_left
  · simp only [Act.put, List.setIfInBounds_toArray, List.set_cons_zero, List.set_cons_succ, i64_w, i32_w]
    rfl
  refine take_ (i := 0) (N := some 10) (v := ?_) (a' := ?_) #[true, true, false, true, false, false, false, false] rfl rfl (by kernel_rfl) (fun _ _ _ h => h) (Or.inl ⟨by rfl, ?_⟩) hHeld ?_ ?_
  rotate_left
  · rintro w' ⟨s0, s1, s2, s3⟩
    go_simp
    with_reducible rfl
  rotate_left
  · simp only [Act.put, List.setIfInBounds_toArray, List.set_cons_zero, List.set_cons_succ, i64_w, i32_w]
    rfl
  refine take_ (i := 2) (N := some 12) (v := ?_) (a' := ?_) #[true, true, true, true, false, false, false, false] rfl rfl (by kernel_rfl) (fun _ _ _ h => h) (Or.inl ⟨by rfl, ?_⟩) hHeld ?_ ?_
  rotate_left
  · rintro w' ⟨s0, s1, s2, s3⟩
    go_simp
    with_reducible rfl
  rotate_left
  · simp only [Act.put, List.setIfInBounds_toArray, List.set_cons_zero, List.set_cons_succ, i64_w, i32_w]
    rfl
  refine take_ (i := 4) (N := some 14) (v := ?_) (a' := ?_) #[true, true, true, true, true, false, false, false] rfl rfl (by kernel_rfl) (fun _ _ _ h => h) (Or.inl ⟨by rfl, ?_⟩) hHeld ?_ ?_
  rotate_left
  · rintro w' ⟨s0, s1, s2, s3⟩
    go_simp
    with_reducible rfl
  rotate_left
  · simp only [Act.put, List.setIfInBounds_toArray, List.set_cons_zero, List.set_cons_succ, i64_w, i32_w]
    rfl
  refine one_ (i := 5) (N := some 15) #[true, true, true, true, true, true, false, false] rfl rfl (by kernel_rfl) (by decide) (fun K hK => ?_)
  refine goes_ Try.func12 (by kernel_rfl) rfl #[.int .i64 b] (by rfl) rfl rfl (by simp only [List.map_toArray, List.map_cons, List.map_nil]; rfl) ?_
  with_reducible refine (sector_calls b w2.drew).mono ?_
  rintro e w3 ⟨A8, c8, rfl, hr, hb⟩
  refine ⟨_, rfl, ?_⟩
  have T3 := Aside0.mk (T2d.out.below hb)
  have M3 := Aside0.mk (M2d.out.below T2d.out.hsize hb)
  have P23 := Aside0.mk (P2d.out.below hb P2d.out.lt)
  have P33 := Aside0.mk (P3d.out.below hb P3d.out.lt)
  have R3 := Aside0.mk (fresh_row (H := H) T2d.out.hsize T2d.out.lt hr)
  have HX := bwrite_calls H w3 okA okB g h s T3.out HW.out a A8 c8 (secI b) (fun W' hk => by rw [secI_len]; exact row_reads R3.out W' hk) (by rw [secI_len]; exact (Kd.R_reads' R3.out).2.1) (by rw [secI_len]; decide)
  rw [secI_len] at HX
  unfold bcells at HX
  have K0x := P23.out.cell (j := 0) (v := .pointer (some ⟨g, 0, none⟩)) rfl
  have K1x := P23.out.cell (j := 1) (v := .pointer (some ⟨h, 0, none⟩)) rfl
  have D1x := P33.out.cell (j := 1) (v := .int .i64 a) rfl
  have D2x := P33.out.cell (j := 2) (v := .int .i64 b) rfl
  clear hr hb
  refine hK.out _ _ ⟨K0x, K1x, D1x, D2x⟩ (fun hHeld => ?_)
  clear hK K
  refine norm_ (a' := ?_) ?_ ?_
  rotate_left
  · show Act.put _ (some 15) _ = _
    simp only [Act.put, List.setIfInBounds_toArray, List.set_cons_zero, List.set_cons_succ, i64_w, i32_w]
    rfl
  refine one_ (i := 6) (N := some 16) #[true, true, true, true, true, true, true, false] rfl rfl (by kernel_rfl) (by decide) (fun K hK => ?_)
  refine goes_ Try.func36 (by kernel_rfl) rfl #[.agg #[.pointer (some ⟨g, 0, none⟩), .pointer (some ⟨h, 0, none⟩)], .int .i64 a, .slice A8 64 c8] (by rfl) rfl rfl (by simp only [List.map_toArray, List.map_cons, List.map_nil]; rfl) ?_
  with_reducible refine (HX).mono ?_
  rintro e w4 ⟨rfl, okA', okB', ht, hm⟩
  refine ⟨_, rfl, ?_⟩
  have T4 := Aside0.mk ht
  have M4 := Aside0.mk (Moves.trans M3.out hm)
  have P24 := Aside0.mk (hr_move P23.out (hm.2.1.2 b2 P23.out.lt N2.out))
  have P34 := Aside0.mk (hr_move P33.out (hm.2.1.2 b3 P33.out.lt N3.out))
  have K0y := P24.out.cell (j := 0) (v := .pointer (some ⟨g, 0, none⟩)) rfl
  have K1y := P24.out.cell (j := 1) (v := .pointer (some ⟨h, 0, none⟩)) rfl
  have D1y := P34.out.cell (j := 1) (v := .int .i64 a) rfl
  have D2y := P34.out.cell (j := 2) (v := .int .i64 b) rfl
  clear ht hm
  refine hK.out _ _ ⟨K0y, K1y, D1y, D2y⟩ (fun hHeld => ?_)
  clear hK K
  refine norm_ (a' := ?_) ?_ ?_
  rotate_left
  · show Act.put _ (some 16) _ = _
    simp only [Act.put, List.setIfInBounds_toArray, List.set_cons_zero, List.set_cons_succ, i64_w, i32_w]
    rfl
  refine pure_ (i := 7) (N := some 4) (v := ?_) (a' := ?_) #[true, true, true, true, true, true, true, true] rfl rfl (by kernel_rfl) (fun _ _ _ h => h) (Or.inl ⟨by rfl, ?_⟩) ?_ ?_
  rotate_left
  · intro w'
    go_simp
    with_reducible rfl
  rotate_left
  · simp only [Act.put, List.setIfInBounds_toArray, List.set_cons_zero, List.set_cons_succ, i64_w, i32_w]
    rfl
  refine done_ (by kernel_rfl) ?_
  
  clear T2d M2d P2d P3d T3 M3 P23 P33 P24 P34 hHeld HX
  go_wp2_with fail
  go_ret
  exact ⟨rfl, okA', okB', T4.out, M4.out⟩
set_option maxHeartbeats 8000000 in
set_option maxRecDepth 100000 in
theorem step1_calls (H : Nat) (w : World) (okA okB : Nat → Prop) (g h : Nat) (s : DS) (t : Pair H w okA okB g h s) (hw : s.waits.length ≤ 1000000) (kd a b bits : Int) (A : Option Addr) (c : Nat) (raw : List Int) (hb : ∀ W', Kept w W' (okU okA okB) → Kd.C (Kd.int .u8) W' A raw.length raw) (hc : raw.length ≤ c) (hl : raw.length < 140737488355328) (ha : a ≤ 9223372036854775807) (hk : encoreref00_Bring.f kd 7 = some 1) :
    Calls Try.prog 24 #[.agg (bcells g h), .agg (docells kd a b bits (.slice A raw.length c))] w (PPost H w okA okB g h (stepF s 1 a b bits raw)) := by
  have HT := Aside0.mk t
  have HWH := Aside0.mk t.hsize
  have HW := Aside0.mk hw
  have HB := Aside0.mk hb
  have HC := Aside0.mk hc
  have HL := Aside0.mk hl
  have HA := Aside0.mk ha
  have HK := Aside0.mk hk
  clear t hw hb hc hl ha hk
  unfold bcells docells
  go_enter Try.func24, Try.ntmps24
  obtain ⟨W1, hW1⟩ : ∃ W1 : World, W1 = (w.alloc (.cells #[.pointer (some ⟨g, 0, none⟩), .pointer (some ⟨h, 0, none⟩)] 55)).alloc (.cells #[.int .i64 kd, .int .i64 a, .int .i64 b, .int .u64 bits, .slice A raw.length c] 58) := ⟨_, rfl⟩
  obtain ⟨b2, hb2⟩ : ∃ b2, b2 = w.heap.size := ⟨_, rfl⟩
  obtain ⟨b3, hb3⟩ : ∃ b3, b3 = w.heap.size + 1 := ⟨_, rfl⟩
  have hbel1 : Below w.heap.size w W1 := by rw [hW1]; exact below_alloc (below_alloc (Below.refl _ _) _) _
  have P2 := Aside0.mk (show HoldsRow W1 b2 55 (bcells g h) by rw [hW1, hb2]; exact (HoldsRow.new w _ _).alloc _)
  have P3 := Aside0.mk (show HoldsRow W1 b3 58 (docells kd a b bits (.slice A raw.length c)) by
    have e : b3 = (w.alloc (.cells #[.pointer (some ⟨g, 0, none⟩), .pointer (some ⟨h, 0, none⟩)] 55)).heap.size := by rw [hb3, alloc_size]
    rw [hW1, e]; exact HoldsRow.new _ _ _)
  have N2 := Aside0.mk (show ¬ okU okA okB b2 from fun q => by have := HT.out.lt _ q; omega)
  have N3 := Aside0.mk (show ¬ okU okA okB b3 from fun q => by have := HT.out.lt _ q; omega)
  have T1 := Aside0.mk (HT.out.below hbel1)
  have M1 := Aside0.mk (Moves.of_below HT.out.1.2.2 HT.out.lt hbel1)
  have k0 := P3.out.cell (j := 0) (v := .int .i64 kd) rfl
  rw [hW1, hb3] at k0
  go_wp2_with fail
  rw [← hW1, ← hb3, ← hb2]
  clear hW1 hb2 hb3 hbel1 k0
  ((with_reducible refine (encoreref00_Bring.calls kd 7 1 W1 HK.out).mono ?_))
  rintro e w2 ⟨rfl, hd⟩
  have T2 := Aside0.mk (T1.out.below hd.below)
  have M2 := Aside0.mk (M1.out.below T1.out.hsize hd.below)
  have P22 := Aside0.mk (P2.out.below hd.below P2.out.lt)
  have P32 := Aside0.mk (P3.out.below hd.below P3.out.lt)
  clear hd T1 M1 P2 P3
  have KR : w2.rangeAt b2 0 (bcells g h).toList := fun q u hu => P22.out.cell (by rw [Nat.zero_add]; simpa using hu)
  have K0 := P22.out.cell (j := 0) (v := .pointer (some ⟨g, 0, none⟩)) rfl
  have K1 := P22.out.cell (j := 1) (v := .pointer (some ⟨h, 0, none⟩)) rfl
  have D0 := P32.out.cell (j := 0) (v := .int .i64 kd) rfl
  have D1 := P32.out.cell (j := 1) (v := .int .i64 a) rfl
  have D2 := P32.out.cell (j := 2) (v := .int .i64 b) rfl
  have D3 := P32.out.cell (j := 3) (v := .int .u64 bits) rfl
  have D4 := P32.out.cell (j := 4) (v := .slice A raw.length c) rfl
  go_wp2_with fail
  have HX := bread_calls H w2 okA okB g h s T2.out HW.out a
  unfold bcells at HX
  ((with_reducible refine HX.mono ?_))
  rintro e w3 ⟨rfl, okA', okB', ht, hm⟩
  have T3 := Aside0.mk ht
  have M3 := Aside0.mk (Moves.trans M2.out hm)
  clear ht hm HX M2 T2
  go_wp2_with fail
  go_ret
  exact ⟨rfl, okA', okB', T3.out, M3.out⟩
set_option maxHeartbeats 8000000 in
set_option maxRecDepth 100000 in
theorem step2_calls (H : Nat) (w : World) (okA okB : Nat → Prop) (g h : Nat) (s : DS) (t : Pair H w okA okB g h s) (hw : s.waits.length ≤ 1000000) (kd a b bits : Int) (A : Option Addr) (c : Nat) (raw : List Int) (hb : ∀ W', Kept w W' (okU okA okB) → Kd.C (Kd.int .u8) W' A raw.length raw) (hc : raw.length ≤ c) (hl : raw.length < 140737488355328) (ha : a ≤ 9223372036854775807) (hk : encoreref00_Bring.f kd 7 = some 2) :
    Calls Try.prog 24 #[.agg (bcells g h), .agg (docells kd a b bits (.slice A raw.length c))] w (PPost H w okA okB g h (stepF s 2 a b bits raw)) := by
  have HT := Aside0.mk t
  have HWH := Aside0.mk t.hsize
  have HW := Aside0.mk hw
  have HB := Aside0.mk hb
  have HC := Aside0.mk hc
  have HL := Aside0.mk hl
  have HA := Aside0.mk ha
  have HK := Aside0.mk hk
  clear t hw hb hc hl ha hk
  unfold bcells docells
  go_enter Try.func24, Try.ntmps24
  obtain ⟨W1, hW1⟩ : ∃ W1 : World, W1 = (w.alloc (.cells #[.pointer (some ⟨g, 0, none⟩), .pointer (some ⟨h, 0, none⟩)] 55)).alloc (.cells #[.int .i64 kd, .int .i64 a, .int .i64 b, .int .u64 bits, .slice A raw.length c] 58) := ⟨_, rfl⟩
  obtain ⟨b2, hb2⟩ : ∃ b2, b2 = w.heap.size := ⟨_, rfl⟩
  obtain ⟨b3, hb3⟩ : ∃ b3, b3 = w.heap.size + 1 := ⟨_, rfl⟩
  have hbel1 : Below w.heap.size w W1 := by rw [hW1]; exact below_alloc (below_alloc (Below.refl _ _) _) _
  have P2 := Aside0.mk (show HoldsRow W1 b2 55 (bcells g h) by rw [hW1, hb2]; exact (HoldsRow.new w _ _).alloc _)
  have P3 := Aside0.mk (show HoldsRow W1 b3 58 (docells kd a b bits (.slice A raw.length c)) by
    have e : b3 = (w.alloc (.cells #[.pointer (some ⟨g, 0, none⟩), .pointer (some ⟨h, 0, none⟩)] 55)).heap.size := by rw [hb3, alloc_size]
    rw [hW1, e]; exact HoldsRow.new _ _ _)
  have N2 := Aside0.mk (show ¬ okU okA okB b2 from fun q => by have := HT.out.lt _ q; omega)
  have N3 := Aside0.mk (show ¬ okU okA okB b3 from fun q => by have := HT.out.lt _ q; omega)
  have T1 := Aside0.mk (HT.out.below hbel1)
  have M1 := Aside0.mk (Moves.of_below HT.out.1.2.2 HT.out.lt hbel1)
  have k0 := P3.out.cell (j := 0) (v := .int .i64 kd) rfl
  rw [hW1, hb3] at k0
  go_wp2_with fail
  rw [← hW1, ← hb3, ← hb2]
  clear hW1 hb2 hb3 hbel1 k0
  ((with_reducible refine (encoreref00_Bring.calls kd 7 2 W1 HK.out).mono ?_))
  rintro e w2 ⟨rfl, hd⟩
  have T2 := Aside0.mk (T1.out.below hd.below)
  have M2 := Aside0.mk (M1.out.below T1.out.hsize hd.below)
  have P22 := Aside0.mk (P2.out.below hd.below P2.out.lt)
  have P32 := Aside0.mk (P3.out.below hd.below P3.out.lt)
  clear hd T1 M1 P2 P3
  have KR : w2.rangeAt b2 0 (bcells g h).toList := fun q u hu => P22.out.cell (by rw [Nat.zero_add]; simpa using hu)
  have K0 := P22.out.cell (j := 0) (v := .pointer (some ⟨g, 0, none⟩)) rfl
  have K1 := P22.out.cell (j := 1) (v := .pointer (some ⟨h, 0, none⟩)) rfl
  have D0 := P32.out.cell (j := 0) (v := .int .i64 kd) rfl
  have D1 := P32.out.cell (j := 1) (v := .int .i64 a) rfl
  have D2 := P32.out.cell (j := 2) (v := .int .i64 b) rfl
  have D3 := P32.out.cell (j := 3) (v := .int .u64 bits) rfl
  have D4 := P32.out.cell (j := 4) (v := .slice A raw.length c) rfl
  go_wp2_with fail
  obtain ⟨rv, hrv⟩ : ∃ rv, rv = (flushF s).1 := ⟨_, rfl⟩
  obtain ⟨s', hs'⟩ : ∃ s', s' = (flushF s).2 := ⟨_, rfl⟩
  have dn : decide (rv = rv) = true := decide_eq_true rfl
  have T2d := Aside0.mk (T2.out.below (below_drew (Below.refl _ w2)))
  have M2d := Aside0.mk (M2.out.below T2.out.hsize (below_drew (Below.refl _ w2)))
  have P2d := Aside0.mk (show HoldsRow w2.drew b2 55 (bcells g h) from P22.out)
  have P3d := Aside0.mk (show HoldsRow w2.drew b3 58 (docells kd a b bits (.slice A raw.length c)) from P32.out)
  clear T2 M2 P22 P32
  refine start_ (n := 8) (S := fun w' => w'.cell? ⟨b2, 0, none⟩ = some (.pointer (some ⟨g, 0, none⟩)) ∧ w'.cell? ⟨b2, 1, none⟩ = some (.pointer (some ⟨h, 0, none⟩))) (ds := []) #[false, false, false, false, false, false, false, false] (by kernel_rfl) rfl rfl ⟨K0, K1⟩ (fun hHeld => ?_)
  refine pure_ (i := 0) (N := some 25) (v := ?_) (a' := ?_) #[true, false, false, false, false, false, false, false] rfl rfl (by kernel_rfl) (fun _ _ _ h => h) (Or.inl ⟨by rfl, ?_⟩) ?_ ?_
  rotate_left
  · intro w'
    go_simp
    with_reducible rfl
  rotate_left
  · simp only [Act.put, List.setIfInBounds_toArray, List.set_cons_zero, List.set_cons_succ, i64_w, i32_w]
    rfl
  refine pure_ (i := 3) (N := some 28) (v := ?_) (a' := ?_) #[true, false, false, true, false, false, false, false] rfl rfl (by kernel_rfl) (fun _ _ _ h => h) (Or.inl ⟨by rfl, ?_⟩) ?_ ?_
  rotate_left
  · intro w'
    go_simp
    with_reducible rfl
  rotate_left
  · simp only [Act.put, List.setIfInBounds_toArray, List.set_cons_zero, List.set_cons_succ, i64_w, i32_w]
    rfl
  refine take_ (i := 1) (N := some 26) (v := ?_) (a' := ?_) #[true, true, false, true, false, false, false, false] rfl rfl (by kernel_rfl) (fun _ _ _ h => h) (Or.inl ⟨by rfl, ?_⟩) hHeld ?_ ?_
  rotate_left
  · rintro w' ⟨s0, s1⟩
    go_simp
    with_reducible rfl
  rotate_left
  · simp only [Act.put, List.setIfInBounds_toArray, List.set_cons_zero, List.set_cons_succ, i64_w, i32_w]
    rfl
  refine take_ (i := 4) (N := some 29) (v := ?_) (a' := ?_) #[true, true, false, true, true, false, false, false] rfl rfl (by kernel_rfl) (fun _ _ _ h => h) (Or.inl ⟨by rfl, ?_⟩) hHeld ?_ ?_
  rotate_left
  · rintro w' ⟨s0, s1⟩
    go_simp
    with_reducible rfl
  rotate_left
  · simp only [Act.put, List.setIfInBounds_toArray, List.set_cons_zero, List.set_cons_succ, i64_w, i32_w]
    rfl
  refine one_ (i := 2) (N := some 27) #[true, true, true, true, true, false, false, false] rfl rfl (by kernel_rfl) (by decide) (fun K hK => ?_)
  refine goes_ Try.func13 (by kernel_rfl) rfl #[.pointer (some ⟨g, 0, none⟩)] (by rfl) rfl rfl (by simp only [List.map_toArray, List.map_cons, List.map_nil]; rfl) ?_
  with_reducible refine (PFlush_a H w2.drew okA g s (Pair.a T2d.out) HW.out).mono ?_
  rintro e w3 ⟨rfl, okA', hd, hm⟩
  refine ⟨_, rfl, ?_⟩
  rw [← hrv]
  rw [← hs'] at hd
  obtain ⟨ht, hm3⟩ := (Pair.half T2d.out).moveA hd hm
  have T3 := Aside0.mk ht
  have M3 := Aside0.mk (Moves.trans M2d.out hm3)
  have P23 := Aside0.mk (hr_move P2d.out (hm3.2.1.2 b2 P2d.out.lt N2.out))
  have P33 := Aside0.mk (hr_move P3d.out (hm3.2.1.2 b3 P3d.out.lt N3.out))
  have N23 := Aside0.mk (moved_not hm3 N2.out P2d.out.lt)
  have N33 := Aside0.mk (moved_not hm3 N3.out P3d.out.lt)
  have K0x := P23.out.cell (j := 0) (v := .pointer (some ⟨g, 0, none⟩)) rfl
  have K1x := P23.out.cell (j := 1) (v := .pointer (some ⟨h, 0, none⟩)) rfl
  clear ht hm3 hd hm
  refine hK.out _ _ ⟨K0x, K1x⟩ (fun hHeld => ?_)
  clear hK K
  refine norm_ (a' := ?_) ?_ ?_
  rotate_left
  · show Act.put _ (some 27) _ = _
    simp only [Act.put, List.setIfInBounds_toArray, List.set_cons_zero, List.set_cons_succ, i64_w, i32_w]
    rfl
  refine one_ (i := 5) (N := some 30) #[true, true, true, true, true, true, false, false] rfl rfl (by kernel_rfl) (by decide) (fun K hK => ?_)
  refine goes_ Try.func37 (by kernel_rfl) rfl #[.pointer (some ⟨h, 0, none⟩)] (by rfl) rfl rfl (by simp only [List.map_toArray, List.map_cons, List.map_nil]; rfl) ?_
  with_reducible refine (PFlush_b H w3 okB h s (Half.b T3.out) HW.out).mono ?_
  rintro e w4 ⟨rfl, okB', hd, hm⟩
  refine ⟨_, rfl, ?_⟩
  rw [← hrv]
  rw [← hs'] at hd
  obtain ⟨ht, hm3⟩ := T3.out.moveB hd hm
  have T4 := Aside0.mk (Half.pair ht)
  have M4 := Aside0.mk (Moves.trans M3.out hm3)
  have P24 := Aside0.mk (hr_move P23.out (hm3.2.1.2 b2 P23.out.lt N23.out))
  have P34 := Aside0.mk (hr_move P33.out (hm3.2.1.2 b3 P33.out.lt N33.out))
  have N24 := Aside0.mk (moved_not hm3 N23.out P23.out.lt)
  have N34 := Aside0.mk (moved_not hm3 N33.out P33.out.lt)
  have K0y := P24.out.cell (j := 0) (v := .pointer (some ⟨g, 0, none⟩)) rfl
  have K1y := P24.out.cell (j := 1) (v := .pointer (some ⟨h, 0, none⟩)) rfl
  clear ht hm3 hd hm
  refine hK.out _ _ ⟨K0y, K1y⟩ (fun hHeld => ?_)
  clear hK K
  refine norm_ (a' := ?_) ?_ ?_
  rotate_left
  · show Act.put _ (some 30) _ = _
    simp only [Act.put, List.setIfInBounds_toArray, List.set_cons_zero, List.set_cons_succ, i64_w, i32_w]
    rfl
  refine pure_ (i := 6) (N := some 31) (v := ?_) (a' := ?_) #[true, true, true, true, true, true, true, false] rfl rfl (by kernel_rfl) (fun _ _ _ h => h) (Or.inl ⟨by rfl, ?_⟩) ?_ ?_
  rotate_left
  · intro w'
    go_simp
    with_reducible rfl
  rotate_left
  · simp only [Act.put, List.setIfInBounds_toArray, List.set_cons_zero, List.set_cons_succ, i64_w, i32_w]
    rfl
  refine pure_ (i := 7) (N := some 4) (v := ?_) (a' := ?_) #[true, true, true, true, true, true, true, true] rfl rfl (by kernel_rfl) (fun _ _ _ h => h) (Or.inl ⟨by rfl, ?_⟩) ?_ ?_
  rotate_left
  · intro w'
    go_simp
    with_reducible rfl
  rotate_left
  · simp only [Act.put, List.setIfInBounds_toArray, List.set_cons_zero, List.set_cons_succ, i64_w, i32_w]
    rfl
  refine done_ (by kernel_rfl) ?_
  
  clear T2d M2d P2d P3d T3 M3 P23 P33 N23 N33 P24 P34 hHeld
  go_wp2_with fail
  go_ret
  exact ⟨rfl, okA', okB', by rw [show stepF s 2 a b bits raw = s' from hs'.symm]; exact T4.out, M4.out⟩
set_option maxHeartbeats 8000000 in
set_option maxRecDepth 100000 in
theorem step3_calls (H : Nat) (w : World) (okA okB : Nat → Prop) (g h : Nat) (s : DS) (t : Pair H w okA okB g h s) (hw : s.waits.length ≤ 1000000) (kd a b bits : Int) (A : Option Addr) (c : Nat) (raw : List Int) (hb : ∀ W', Kept w W' (okU okA okB) → Kd.C (Kd.int .u8) W' A raw.length raw) (hc : raw.length ≤ c) (hl : raw.length < 140737488355328) (ha : a ≤ 9223372036854775807) (hk : encoreref00_Bring.f kd 7 = some 3) :
    Calls Try.prog 24 #[.agg (bcells g h), .agg (docells kd a b bits (.slice A raw.length c))] w (PPost H w okA okB g h (stepF s 3 a b bits raw)) := by
  have HT := Aside0.mk t
  have HWH := Aside0.mk t.hsize
  have HW := Aside0.mk hw
  have HB := Aside0.mk hb
  have HC := Aside0.mk hc
  have HL := Aside0.mk hl
  have HA := Aside0.mk ha
  have HK := Aside0.mk hk
  clear t hw hb hc hl ha hk
  unfold bcells docells
  go_enter Try.func24, Try.ntmps24
  obtain ⟨W1, hW1⟩ : ∃ W1 : World, W1 = (w.alloc (.cells #[.pointer (some ⟨g, 0, none⟩), .pointer (some ⟨h, 0, none⟩)] 55)).alloc (.cells #[.int .i64 kd, .int .i64 a, .int .i64 b, .int .u64 bits, .slice A raw.length c] 58) := ⟨_, rfl⟩
  obtain ⟨b2, hb2⟩ : ∃ b2, b2 = w.heap.size := ⟨_, rfl⟩
  obtain ⟨b3, hb3⟩ : ∃ b3, b3 = w.heap.size + 1 := ⟨_, rfl⟩
  have hbel1 : Below w.heap.size w W1 := by rw [hW1]; exact below_alloc (below_alloc (Below.refl _ _) _) _
  have P2 := Aside0.mk (show HoldsRow W1 b2 55 (bcells g h) by rw [hW1, hb2]; exact (HoldsRow.new w _ _).alloc _)
  have P3 := Aside0.mk (show HoldsRow W1 b3 58 (docells kd a b bits (.slice A raw.length c)) by
    have e : b3 = (w.alloc (.cells #[.pointer (some ⟨g, 0, none⟩), .pointer (some ⟨h, 0, none⟩)] 55)).heap.size := by rw [hb3, alloc_size]
    rw [hW1, e]; exact HoldsRow.new _ _ _)
  have N2 := Aside0.mk (show ¬ okU okA okB b2 from fun q => by have := HT.out.lt _ q; omega)
  have N3 := Aside0.mk (show ¬ okU okA okB b3 from fun q => by have := HT.out.lt _ q; omega)
  have T1 := Aside0.mk (HT.out.below hbel1)
  have M1 := Aside0.mk (Moves.of_below HT.out.1.2.2 HT.out.lt hbel1)
  have k0 := P3.out.cell (j := 0) (v := .int .i64 kd) rfl
  rw [hW1, hb3] at k0
  go_wp2_with fail
  rw [← hW1, ← hb3, ← hb2]
  clear hW1 hb2 hb3 hbel1 k0
  ((with_reducible refine (encoreref00_Bring.calls kd 7 3 W1 HK.out).mono ?_))
  rintro e w2 ⟨rfl, hd⟩
  have T2 := Aside0.mk (T1.out.below hd.below)
  have M2 := Aside0.mk (M1.out.below T1.out.hsize hd.below)
  have P22 := Aside0.mk (P2.out.below hd.below P2.out.lt)
  have P32 := Aside0.mk (P3.out.below hd.below P3.out.lt)
  clear hd T1 M1 P2 P3
  have KR : w2.rangeAt b2 0 (bcells g h).toList := fun q u hu => P22.out.cell (by rw [Nat.zero_add]; simpa using hu)
  have K0 := P22.out.cell (j := 0) (v := .pointer (some ⟨g, 0, none⟩)) rfl
  have K1 := P22.out.cell (j := 1) (v := .pointer (some ⟨h, 0, none⟩)) rfl
  have D0 := P32.out.cell (j := 0) (v := .int .i64 kd) rfl
  have D1 := P32.out.cell (j := 1) (v := .int .i64 a) rfl
  have D2 := P32.out.cell (j := 2) (v := .int .i64 b) rfl
  have D3 := P32.out.cell (j := 3) (v := .int .u64 bits) rfl
  have D4 := P32.out.cell (j := 4) (v := .slice A raw.length c) rfl
  go_wp2_with fail
  obtain ⟨rv, hrv⟩ : ∃ rv, rv = (failF s a bits b).1 := ⟨_, rfl⟩
  obtain ⟨s', hs'⟩ : ∃ s', s' = (failF s a bits b).2 := ⟨_, rfl⟩
  have dn : decide (rv = rv) = true := decide_eq_true rfl
  have T2d := Aside0.mk (T2.out.below (below_drew (Below.refl _ w2)))
  have M2d := Aside0.mk (M2.out.below T2.out.hsize (below_drew (Below.refl _ w2)))
  have P2d := Aside0.mk (show HoldsRow w2.drew b2 55 (bcells g h) from P22.out)
  have P3d := Aside0.mk (show HoldsRow w2.drew b3 58 (docells kd a b bits (.slice A raw.length c)) from P32.out)
  clear T2 M2 P22 P32
  refine start_ (n := 20) (S := fun w' => w'.cell? ⟨b2, 0, none⟩ = some (.pointer (some ⟨g, 0, none⟩)) ∧ w'.cell? ⟨b2, 1, none⟩ = some (.pointer (some ⟨h, 0, none⟩)) ∧ w'.cell? ⟨b3, 1, none⟩ = some (.int .i64 a) ∧ w'.cell? ⟨b3, 2, none⟩ = some (.int .i64 b) ∧ w'.cell? ⟨b3, 3, none⟩ = some (.int .u64 bits)) (ds := []) #[false, false, false, false, false, false, false, false, false, false, false, false, false, false, false, false, false, false, false, false] (by kernel_rfl) rfl rfl ⟨K0, K1, D1, D2, D3⟩ (fun hHeld => ?_)
  refine pure_ (i := 0) (N := some 34) (v := ?_) (a' := ?_) #[true, false, false, false, false, false, false, false, false, false, false, false, false, false, false, false, false, false, false, false] rfl rfl (by kernel_rfl) (fun _ _ _ h => h) (Or.inl ⟨by rfl, ?_⟩) ?_ ?_
  rotate_left
  · intro w'
    go_simp
    with_reducible rfl
  rotate_left
  · simp only [Act.put, List.setIfInBounds_toArray, List.set_cons_zero, List.set_cons_succ, i64_w, i32_w]
    rfl
  refine pure_ (i := 2) (N := some 36) (v := ?_) (a' := ?_) #[true, false, true, false, false, false, false, false, false, false, false, false, false, false, false, false, false, false, false, false] rfl rfl (by kernel_rfl) (fun _ _ _ h => h) (Or.inl ⟨by rfl, ?_⟩) ?_ ?_
  rotate_left
  · intro w'
    go_simp
    with_reducible rfl
  rotate_left
  · simp only [Act.put, List.setIfInBounds_toArray, List.set_cons_zero, List.set_cons_succ, i64_w, i32_w]
    rfl
  refine pure_ (i := 4) (N := some 38) (v := ?_) (a' := ?_) #[true, false, true, false, true, false, false, false, false, false, false, false, false, false, false, false, false, false, false, false] rfl rfl (by kernel_rfl) (fun _ _ _ h => h) (Or.inl ⟨by rfl, ?_⟩) ?_ ?_
  rotate_left
  · intro w'
    go_simp
    with_reducible rfl
  rotate_left
  · simp only [Act.put, List.setIfInBounds_toArray, List.set_cons_zero, List.set_cons_succ, i64_w, i32_w]
    rfl
  refine pure_ (i := 6) (N := some 40) (v := ?_) (a' := ?_) #[true, false, true, false, true, false, true, false, false, false, false, false, false, false, false, false, false, false, false, false] rfl rfl (by kernel_rfl) (fun _ _ _ h => h) (Or.inl ⟨by rfl, ?_⟩) ?_ ?_
  rotate_left
  · intro w'
    go_simp
    with_reducible rfl
  rotate_left
  · simp only [Act.put, List.setIfInBounds_toArray, List.set_cons_zero, List.set_cons_succ, i64_w, i32_w]
    rfl
  refine pure_ (i := 9) (N := some 43) (v := ?_) (a' := ?_) #[true, false, true, false, true, false, true, false, false, true, false, false, false, false, false, false, false, false, false, false] rfl rfl (by kernel_rfl) (fun _ _ _ h => h) (Or.inl ⟨by rfl, ?_⟩) ?_ ?_
  rotate_left
  · intro w'
    go_simp
    with_reducible rfl
  rotate_left
  · simp only [Act.put, List.setIfInBounds_toArray, List.set_cons_zero, List.set_cons_succ, i64_w, i32_w]
    rfl
  refine pure_ (i := 11) (N := some 45) (v := ?_) (a' := ?_) #[true, false, true, false, true, false, true, false, false, true, false, true, false, false, false, false, false, false, false, false] rfl rfl (by kernel_rfl) (fun _ _ _ h => h) (Or.inl ⟨by rfl, ?_⟩) ?_ ?_
  rotate_left
  · intro w'
    go_simp
    with_reducible rfl
  rotate_left
  · simp only [Act.put, List.setIfInBounds_toArray, List.set_cons_zero, List.set_cons_succ, i64_w, i32_w]
    rfl
  refine pure_ (i := 13) (N := some 47) (v := ?_) (a' := ?_) #[true, false, true, false, true, false, true, false, false, true, false, true, false, true, false, false, false, false, false, false] rfl rfl (by kernel_rfl) (fun _ _ _ h => h) (Or.inl ⟨by rfl, ?_⟩) ?_ ?_
  rotate_left
  · intro w'
    go_simp
    with_reducible rfl
  rotate_left
  · simp only [Act.put, List.setIfInBounds_toArray, List.set_cons_zero, List.set_cons_succ, i64_w, i32_w]
    rfl
  refine pure_ (i := 15) (N := some 49) (v := ?_) (a' := ?_) #[true, false, true, false, true, false, true, false, false, true, false, true, false, true, false, true, false, false, false, false] rfl rfl (by kernel_rfl) (fun _ _ _ h => h) (Or.inl ⟨by rfl, ?_⟩) ?_ ?_
  rotate_left
  · intro w'
    go_simp
    with_reducible rfl
  rotate_left
  · simp only [Act.put, List.setIfInBounds_toArray, List.set_cons_zero, List.set_cons_succ, i64_w, i32_w]
    rfl
  refine take_ (i := 1) (N := some 35) (v := ?_) (a' := ?_) #[true, true, true, false, true, false, true, false, false, true, false, true, false, true, false, true, false, false, false, false] rfl rfl (by kernel_rfl) (fun _ _ _ h => h) (Or.inl ⟨by rfl, ?_⟩) hHeld ?_ ?_
  rotate_left
  · rintro w' ⟨s0, s1, s2, s3, s4⟩
    go_simp
    with_reducible rfl
  rotate_left
  · simp only [Act.put, List.setIfInBounds_toArray, List.set_cons_zero, List.set_cons_succ, i64_w, i32_w]
    rfl
  refine take_ (i := 3) (N := some 37) (v := ?_) (a' := ?_) #[true, true, true, true, true, false, true, false, false, true, false, true, false, true, false, true, false, false, false, false] rfl rfl (by kernel_rfl) (fun _ _ _ h => h) (Or.inl ⟨by rfl, ?_⟩) hHeld ?_ ?_
  rotate_left
  · rintro w' ⟨s0, s1, s2, s3, s4⟩
    go_simp
    with_reducible rfl
  rotate_left
  · simp only [Act.put, List.setIfInBounds_toArray, List.set_cons_zero, List.set_cons_succ, i64_w, i32_w]
    rfl
  refine take_ (i := 5) (N := some 39) (v := ?_) (a' := ?_) #[true, true, true, true, true, true, true, false, false, true, false, true, false, true, false, true, false, false, false, false] rfl rfl (by kernel_rfl) (fun _ _ _ h => h) (Or.inl ⟨by rfl, ?_⟩) hHeld ?_ ?_
  rotate_left
  · rintro w' ⟨s0, s1, s2, s3, s4⟩
    go_simp
    with_reducible rfl
  rotate_left
  · simp only [Act.put, List.setIfInBounds_toArray, List.set_cons_zero, List.set_cons_succ, i64_w, i32_w]
    rfl
  refine take_ (i := 7) (N := some 41) (v := ?_) (a' := ?_) #[true, true, true, true, true, true, true, true, false, true, false, true, false, true, false, true, false, false, false, false] rfl rfl (by kernel_rfl) (fun _ _ _ h => h) (Or.inl ⟨by rfl, ?_⟩) hHeld ?_ ?_
  rotate_left
  · rintro w' ⟨s0, s1, s2, s3, s4⟩
    go_simp
    with_reducible rfl
  rotate_left
  · simp only [Act.put, List.setIfInBounds_toArray, List.set_cons_zero, List.set_cons_succ, i64_w, i32_w]
    rfl
  refine take_ (i := 10) (N := some 44) (v := ?_) (a' := ?_) #[true, true, true, true, true, true, true, true, false, true, true, true, false, true, false, true, false, false, false, false] rfl rfl (by kernel_rfl) (fun _ _ _ h => h) (Or.inl ⟨by rfl, ?_⟩) hHeld ?_ ?_
  rotate_left
  · rintro w' ⟨s0, s1, s2, s3, s4⟩
    go_simp
    with_reducible rfl
  rotate_left
  · simp only [Act.put, List.setIfInBounds_toArray, List.set_cons_zero, List.set_cons_succ, i64_w, i32_w]
    rfl
  refine take_ (i := 12) (N := some 46) (v := ?_) (a' := ?_) #[true, true, true, true, true, true, true, true, false, true, true, true, true, true, false, true, false, false, false, false] rfl rfl (by kernel_rfl) (fun _ _ _ h => h) (Or.inl ⟨by rfl, ?_⟩) hHeld ?_ ?_
  rotate_left
  · rintro w' ⟨s0, s1, s2, s3, s4⟩
    go_simp
    with_reducible rfl
  rotate_left
  · simp only [Act.put, List.setIfInBounds_toArray, List.set_cons_zero, List.set_cons_succ, i64_w, i32_w]
    rfl
  refine take_ (i := 14) (N := some 48) (v := ?_) (a' := ?_) #[true, true, true, true, true, true, true, true, false, true, true, true, true, true, true, true, false, false, false, false] rfl rfl (by kernel_rfl) (fun _ _ _ h => h) (Or.inl ⟨by rfl, ?_⟩) hHeld ?_ ?_
  rotate_left
  · rintro w' ⟨s0, s1, s2, s3, s4⟩
    go_simp
    with_reducible rfl
  rotate_left
  · simp only [Act.put, List.setIfInBounds_toArray, List.set_cons_zero, List.set_cons_succ, i64_w, i32_w]
    rfl
  refine take_ (i := 16) (N := some 50) (v := ?_) (a' := ?_) #[true, true, true, true, true, true, true, true, false, true, true, true, true, true, true, true, true, false, false, false] rfl rfl (by kernel_rfl) (fun _ _ _ h => h) (Or.inl ⟨by rfl, ?_⟩) hHeld ?_ ?_
  rotate_left
  · rintro w' ⟨s0, s1, s2, s3, s4⟩
    go_simp
    with_reducible rfl
  rotate_left
  · simp only [Act.put, List.setIfInBounds_toArray, List.set_cons_zero, List.set_cons_succ, i64_w, i32_w]
    rfl
  refine one_ (i := 8) (N := some 42) #[true, true, true, true, true, true, true, true, true, true, true, true, true, true, true, true, true, false, false, false] rfl rfl (by kernel_rfl) (by decide) (fun K hK => ?_)
  refine goes_ Try.func19 (by kernel_rfl) rfl #[.pointer (some ⟨g, 0, none⟩), .int .i64 a, .int .u64 bits, .int .i64 b] (by rfl) rfl rfl (by simp only [List.map_toArray, List.map_cons, List.map_nil]; rfl) ?_
  with_reducible refine (PFail_a H w2.drew okA g s a bits b (Pair.a T2d.out) HA.out).mono ?_
  rintro e w3 ⟨rfl, okA', hd, hm⟩
  refine ⟨_, rfl, ?_⟩
  rw [← hrv]
  rw [← hs'] at hd
  obtain ⟨ht, hm3⟩ := (Pair.half T2d.out).moveA hd hm
  have T3 := Aside0.mk ht
  have M3 := Aside0.mk (Moves.trans M2d.out hm3)
  have P23 := Aside0.mk (hr_move P2d.out (hm3.2.1.2 b2 P2d.out.lt N2.out))
  have P33 := Aside0.mk (hr_move P3d.out (hm3.2.1.2 b3 P3d.out.lt N3.out))
  have N23 := Aside0.mk (moved_not hm3 N2.out P2d.out.lt)
  have N33 := Aside0.mk (moved_not hm3 N3.out P3d.out.lt)
  have K0x := P23.out.cell (j := 0) (v := .pointer (some ⟨g, 0, none⟩)) rfl
  have K1x := P23.out.cell (j := 1) (v := .pointer (some ⟨h, 0, none⟩)) rfl
  have D1x := P33.out.cell (j := 1) (v := .int .i64 a) rfl
  have D2x := P33.out.cell (j := 2) (v := .int .i64 b) rfl
  have D3x := P33.out.cell (j := 3) (v := .int .u64 bits) rfl
  clear ht hm3 hd hm
  refine hK.out _ _ ⟨K0x, K1x, D1x, D2x, D3x⟩ (fun hHeld => ?_)
  clear hK K
  refine norm_ (a' := ?_) ?_ ?_
  rotate_left
  · show Act.put _ (some 42) _ = _
    simp only [Act.put, List.setIfInBounds_toArray, List.set_cons_zero, List.set_cons_succ, i64_w, i32_w]
    rfl
  refine one_ (i := 17) (N := some 51) #[true, true, true, true, true, true, true, true, true, true, true, true, true, true, true, true, true, true, false, false] rfl rfl (by kernel_rfl) (by decide) (fun K hK => ?_)
  refine goes_ Try.func38 (by kernel_rfl) rfl #[.pointer (some ⟨h, 0, none⟩), .int .i64 a, .int .u64 bits, .int .i64 b] (by rfl) rfl rfl (by simp only [List.map_toArray, List.map_cons, List.map_nil]; rfl) ?_
  with_reducible refine (PFail_b H w3 okB h s a bits b (Half.b T3.out) HA.out).mono ?_
  rintro e w4 ⟨rfl, okB', hd, hm⟩
  refine ⟨_, rfl, ?_⟩
  rw [← hrv]
  rw [← hs'] at hd
  obtain ⟨ht, hm3⟩ := T3.out.moveB hd hm
  have T4 := Aside0.mk (Half.pair ht)
  have M4 := Aside0.mk (Moves.trans M3.out hm3)
  have P24 := Aside0.mk (hr_move P23.out (hm3.2.1.2 b2 P23.out.lt N23.out))
  have P34 := Aside0.mk (hr_move P33.out (hm3.2.1.2 b3 P33.out.lt N33.out))
  have N24 := Aside0.mk (moved_not hm3 N23.out P23.out.lt)
  have N34 := Aside0.mk (moved_not hm3 N33.out P33.out.lt)
  have K0y := P24.out.cell (j := 0) (v := .pointer (some ⟨g, 0, none⟩)) rfl
  have K1y := P24.out.cell (j := 1) (v := .pointer (some ⟨h, 0, none⟩)) rfl
  have D1y := P34.out.cell (j := 1) (v := .int .i64 a) rfl
  have D2y := P34.out.cell (j := 2) (v := .int .i64 b) rfl
  have D3y := P34.out.cell (j := 3) (v := .int .u64 bits) rfl
  clear ht hm3 hd hm
  refine hK.out _ _ ⟨K0y, K1y, D1y, D2y, D3y⟩ (fun hHeld => ?_)
  clear hK K
  refine norm_ (a' := ?_) ?_ ?_
  rotate_left
  · show Act.put _ (some 51) _ = _
    simp only [Act.put, List.setIfInBounds_toArray, List.set_cons_zero, List.set_cons_succ, i64_w, i32_w]
    rfl
  refine pure_ (i := 18) (N := some 52) (v := ?_) (a' := ?_) #[true, true, true, true, true, true, true, true, true, true, true, true, true, true, true, true, true, true, true, false] rfl rfl (by kernel_rfl) (fun _ _ _ h => h) (Or.inl ⟨by rfl, ?_⟩) ?_ ?_
  rotate_left
  · intro w'
    go_simp
    with_reducible rfl
  rotate_left
  · simp only [Act.put, List.setIfInBounds_toArray, List.set_cons_zero, List.set_cons_succ, i64_w, i32_w]
    rfl
  refine pure_ (i := 19) (N := some 4) (v := ?_) (a' := ?_) #[true, true, true, true, true, true, true, true, true, true, true, true, true, true, true, true, true, true, true, true] rfl rfl (by kernel_rfl) (fun _ _ _ h => h) (Or.inl ⟨by rfl, ?_⟩) ?_ ?_
  rotate_left
  · intro w'
    go_simp
    with_reducible rfl
  rotate_left
  · simp only [Act.put, List.setIfInBounds_toArray, List.set_cons_zero, List.set_cons_succ, i64_w, i32_w]
    rfl
  refine done_ (by kernel_rfl) ?_
  
  clear T2d M2d P2d P3d T3 M3 P23 P33 N23 N33 P24 P34 hHeld
  go_wp2_with fail
  go_ret
  exact ⟨rfl, okA', okB', by rw [show stepF s 3 a b bits raw = s' from hs'.symm]; exact T4.out, M4.out⟩
set_option maxHeartbeats 8000000 in
set_option maxRecDepth 100000 in
theorem step4_calls (H : Nat) (w : World) (okA okB : Nat → Prop) (g h : Nat) (s : DS) (t : Pair H w okA okB g h s) (hw : s.waits.length ≤ 1000000) (kd a b bits : Int) (A : Option Addr) (c : Nat) (raw : List Int) (hb : ∀ W', Kept w W' (okU okA okB) → Kd.C (Kd.int .u8) W' A raw.length raw) (hc : raw.length ≤ c) (hl : raw.length < 140737488355328) (ha : a ≤ 9223372036854775807) (hk : encoreref00_Bring.f kd 7 = some 4) :
    Calls Try.prog 24 #[.agg (bcells g h), .agg (docells kd a b bits (.slice A raw.length c))] w (PPost H w okA okB g h (stepF s 4 a b bits raw)) := by
  have HT := Aside0.mk t
  have HWH := Aside0.mk t.hsize
  have HW := Aside0.mk hw
  have HB := Aside0.mk hb
  have HC := Aside0.mk hc
  have HL := Aside0.mk hl
  have HA := Aside0.mk ha
  have HK := Aside0.mk hk
  clear t hw hb hc hl ha hk
  unfold bcells docells
  go_enter Try.func24, Try.ntmps24
  obtain ⟨W1, hW1⟩ : ∃ W1 : World, W1 = (w.alloc (.cells #[.pointer (some ⟨g, 0, none⟩), .pointer (some ⟨h, 0, none⟩)] 55)).alloc (.cells #[.int .i64 kd, .int .i64 a, .int .i64 b, .int .u64 bits, .slice A raw.length c] 58) := ⟨_, rfl⟩
  obtain ⟨b2, hb2⟩ : ∃ b2, b2 = w.heap.size := ⟨_, rfl⟩
  obtain ⟨b3, hb3⟩ : ∃ b3, b3 = w.heap.size + 1 := ⟨_, rfl⟩
  have hbel1 : Below w.heap.size w W1 := by rw [hW1]; exact below_alloc (below_alloc (Below.refl _ _) _) _
  have P2 := Aside0.mk (show HoldsRow W1 b2 55 (bcells g h) by rw [hW1, hb2]; exact (HoldsRow.new w _ _).alloc _)
  have P3 := Aside0.mk (show HoldsRow W1 b3 58 (docells kd a b bits (.slice A raw.length c)) by
    have e : b3 = (w.alloc (.cells #[.pointer (some ⟨g, 0, none⟩), .pointer (some ⟨h, 0, none⟩)] 55)).heap.size := by rw [hb3, alloc_size]
    rw [hW1, e]; exact HoldsRow.new _ _ _)
  have N2 := Aside0.mk (show ¬ okU okA okB b2 from fun q => by have := HT.out.lt _ q; omega)
  have N3 := Aside0.mk (show ¬ okU okA okB b3 from fun q => by have := HT.out.lt _ q; omega)
  have T1 := Aside0.mk (HT.out.below hbel1)
  have M1 := Aside0.mk (Moves.of_below HT.out.1.2.2 HT.out.lt hbel1)
  have k0 := P3.out.cell (j := 0) (v := .int .i64 kd) rfl
  rw [hW1, hb3] at k0
  go_wp2_with fail
  rw [← hW1, ← hb3, ← hb2]
  clear hW1 hb2 hb3 hbel1 k0
  ((with_reducible refine (encoreref00_Bring.calls kd 7 4 W1 HK.out).mono ?_))
  rintro e w2 ⟨rfl, hd⟩
  have T2 := Aside0.mk (T1.out.below hd.below)
  have M2 := Aside0.mk (M1.out.below T1.out.hsize hd.below)
  have P22 := Aside0.mk (P2.out.below hd.below P2.out.lt)
  have P32 := Aside0.mk (P3.out.below hd.below P3.out.lt)
  clear hd T1 M1 P2 P3
  have KR : w2.rangeAt b2 0 (bcells g h).toList := fun q u hu => P22.out.cell (by rw [Nat.zero_add]; simpa using hu)
  have K0 := P22.out.cell (j := 0) (v := .pointer (some ⟨g, 0, none⟩)) rfl
  have K1 := P22.out.cell (j := 1) (v := .pointer (some ⟨h, 0, none⟩)) rfl
  have D0 := P32.out.cell (j := 0) (v := .int .i64 kd) rfl
  have D1 := P32.out.cell (j := 1) (v := .int .i64 a) rfl
  have D2 := P32.out.cell (j := 2) (v := .int .i64 b) rfl
  have D3 := P32.out.cell (j := 3) (v := .int .u64 bits) rfl
  have D4 := P32.out.cell (j := 4) (v := .slice A raw.length c) rfl
  go_wp2_with fail
  obtain ⟨rv, hrv⟩ : ∃ rv, rv = (crashF s bits b).1 := ⟨_, rfl⟩
  obtain ⟨s', hs'⟩ : ∃ s', s' = (crashF s bits b).2 := ⟨_, rfl⟩
  have dn : decide (rv = rv) = true := decide_eq_true rfl
  have T2d := Aside0.mk (T2.out.below (below_drew (Below.refl _ w2)))
  have M2d := Aside0.mk (M2.out.below T2.out.hsize (below_drew (Below.refl _ w2)))
  have P2d := Aside0.mk (show HoldsRow w2.drew b2 55 (bcells g h) from P22.out)
  have P3d := Aside0.mk (show HoldsRow w2.drew b3 58 (docells kd a b bits (.slice A raw.length c)) from P32.out)
  clear T2 M2 P22 P32
  refine start_ (n := 16) (S := fun w' => w'.cell? ⟨b2, 0, none⟩ = some (.pointer (some ⟨g, 0, none⟩)) ∧ w'.cell? ⟨b2, 1, none⟩ = some (.pointer (some ⟨h, 0, none⟩)) ∧ w'.cell? ⟨b3, 2, none⟩ = some (.int .i64 b) ∧ w'.cell? ⟨b3, 3, none⟩ = some (.int .u64 bits)) (ds := []) #[false, false, false, false, false, false, false, false, false, false, false, false, false, false, false, false] (by kernel_rfl) rfl rfl ⟨K0, K1, D2, D3⟩ (fun hHeld => ?_)
  refine pure_ (i := 0) (N := some 55) (v := ?_) (a' := ?_) #[true, false, false, false, false, false, false, false, false, false, false, false, false, false, false, false] rfl rfl (by kernel_rfl) (fun _ _ _ h => h) (Or.inl ⟨by rfl, ?_⟩) ?_ ?_
  rotate_left
  · intro w'
    go_simp
    with_reducible rfl
  rotate_left
  · simp only [Act.put, List.setIfInBounds_toArray, List.set_cons_zero, List.set_cons_succ, i64_w, i32_w]
    rfl
  refine pure_ (i := 2) (N := some 57) (v := ?_) (a' := ?_) #[true, false, true, false, false, false, false, false, false, false, false, false, false, false, false, false] rfl rfl (by kernel_rfl) (fun _ _ _ h => h) (Or.inl ⟨by rfl, ?_⟩) ?_ ?_
  rotate_left
  · intro w'
    go_simp
    with_reducible rfl
  rotate_left
  · simp only [Act.put, List.setIfInBounds_toArray, List.set_cons_zero, List.set_cons_succ, i64_w, i32_w]
    rfl
  refine pure_ (i := 4) (N := some 59) (v := ?_) (a' := ?_) #[true, false, true, false, true, false, false, false, false, false, false, false, false, false, false, false] rfl rfl (by kernel_rfl) (fun _ _ _ h => h) (Or.inl ⟨by rfl, ?_⟩) ?_ ?_
  rotate_left
  · intro w'
    go_simp
    with_reducible rfl
  rotate_left
  · simp only [Act.put, List.setIfInBounds_toArray, List.set_cons_zero, List.set_cons_succ, i64_w, i32_w]
    rfl
  refine pure_ (i := 7) (N := some 62) (v := ?_) (a' := ?_) #[true, false, true, false, true, false, false, true, false, false, false, false, false, false, false, false] rfl rfl (by kernel_rfl) (fun _ _ _ h => h) (Or.inl ⟨by rfl, ?_⟩) ?_ ?_
  rotate_left
  · intro w'
    go_simp
    with_reducible rfl
  rotate_left
  · simp only [Act.put, List.setIfInBounds_toArray, List.set_cons_zero, List.set_cons_succ, i64_w, i32_w]
    rfl
  refine pure_ (i := 9) (N := some 64) (v := ?_) (a' := ?_) #[true, false, true, false, true, false, false, true, false, true, false, false, false, false, false, false] rfl rfl (by kernel_rfl) (fun _ _ _ h => h) (Or.inl ⟨by rfl, ?_⟩) ?_ ?_
  rotate_left
  · intro w'
    go_simp
    with_reducible rfl
  rotate_left
  · simp only [Act.put, List.setIfInBounds_toArray, List.set_cons_zero, List.set_cons_succ, i64_w, i32_w]
    rfl
  refine pure_ (i := 11) (N := some 66) (v := ?_) (a' := ?_) #[true, false, true, false, true, false, false, true, false, true, false, true, false, false, false, false] rfl rfl (by kernel_rfl) (fun _ _ _ h => h) (Or.inl ⟨by rfl, ?_⟩) ?_ ?_
  rotate_left
  · intro w'
    go_simp
    with_reducible rfl
  rotate_left
  · simp only [Act.put, List.setIfInBounds_toArray, List.set_cons_zero, List.set_cons_succ, i64_w, i32_w]
    rfl
  refine take_ (i := 1) (N := some 56) (v := ?_) (a' := ?_) #[true, true, true, false, true, false, false, true, false, true, false, true, false, false, false, false] rfl rfl (by kernel_rfl) (fun _ _ _ h => h) (Or.inl ⟨by rfl, ?_⟩) hHeld ?_ ?_
  rotate_left
  · rintro w' ⟨s0, s1, s2, s3⟩
    go_simp
    with_reducible rfl
  rotate_left
  · simp only [Act.put, List.setIfInBounds_toArray, List.set_cons_zero, List.set_cons_succ, i64_w, i32_w]
    rfl
  refine take_ (i := 3) (N := some 58) (v := ?_) (a' := ?_) #[true, true, true, true, true, false, false, true, false, true, false, true, false, false, false, false] rfl rfl (by kernel_rfl) (fun _ _ _ h => h) (Or.inl ⟨by rfl, ?_⟩) hHeld ?_ ?_
  rotate_left
  · rintro w' ⟨s0, s1, s2, s3⟩
    go_simp
    with_reducible rfl
  rotate_left
  · simp only [Act.put, List.setIfInBounds_toArray, List.set_cons_zero, List.set_cons_succ, i64_w, i32_w]
    rfl
  refine take_ (i := 5) (N := some 60) (v := ?_) (a' := ?_) #[true, true, true, true, true, true, false, true, false, true, false, true, false, false, false, false] rfl rfl (by kernel_rfl) (fun _ _ _ h => h) (Or.inl ⟨by rfl, ?_⟩) hHeld ?_ ?_
  rotate_left
  · rintro w' ⟨s0, s1, s2, s3⟩
    go_simp
    with_reducible rfl
  rotate_left
  · simp only [Act.put, List.setIfInBounds_toArray, List.set_cons_zero, List.set_cons_succ, i64_w, i32_w]
    rfl
  refine take_ (i := 8) (N := some 63) (v := ?_) (a' := ?_) #[true, true, true, true, true, true, false, true, true, true, false, true, false, false, false, false] rfl rfl (by kernel_rfl) (fun _ _ _ h => h) (Or.inl ⟨by rfl, ?_⟩) hHeld ?_ ?_
  rotate_left
  · rintro w' ⟨s0, s1, s2, s3⟩
    go_simp
    with_reducible rfl
  rotate_left
  · simp only [Act.put, List.setIfInBounds_toArray, List.set_cons_zero, List.set_cons_succ, i64_w, i32_w]
    rfl
  refine take_ (i := 10) (N := some 65) (v := ?_) (a' := ?_) #[true, true, true, true, true, true, false, true, true, true, true, true, false, false, false, false] rfl rfl (by kernel_rfl) (fun _ _ _ h => h) (Or.inl ⟨by rfl, ?_⟩) hHeld ?_ ?_
  rotate_left
  · rintro w' ⟨s0, s1, s2, s3⟩
    go_simp
    with_reducible rfl
  rotate_left
  · simp only [Act.put, List.setIfInBounds_toArray, List.set_cons_zero, List.set_cons_succ, i64_w, i32_w]
    rfl
  refine take_ (i := 12) (N := some 67) (v := ?_) (a' := ?_) #[true, true, true, true, true, true, false, true, true, true, true, true, true, false, false, false] rfl rfl (by kernel_rfl) (fun _ _ _ h => h) (Or.inl ⟨by rfl, ?_⟩) hHeld ?_ ?_
  rotate_left
  · rintro w' ⟨s0, s1, s2, s3⟩
    go_simp
    with_reducible rfl
  rotate_left
  · simp only [Act.put, List.setIfInBounds_toArray, List.set_cons_zero, List.set_cons_succ, i64_w, i32_w]
    rfl
  refine one_ (i := 6) (N := some 61) #[true, true, true, true, true, true, true, true, true, true, true, true, true, false, false, false] rfl rfl (by kernel_rfl) (by decide) (fun K hK => ?_)
  refine goes_ Try.func15 (by kernel_rfl) rfl #[.pointer (some ⟨g, 0, none⟩), .int .u64 bits, .int .i64 b] (by rfl) rfl rfl (by simp only [List.map_toArray, List.map_cons, List.map_nil]; rfl) ?_
  with_reducible refine (PCrash_a H w2.drew okA g s bits b (Pair.a T2d.out) HW.out).mono ?_
  rintro e w3 ⟨rfl, okA', hd, hm⟩
  refine ⟨_, rfl, ?_⟩
  rw [← hrv]
  rw [← hs'] at hd
  obtain ⟨ht, hm3⟩ := (Pair.half T2d.out).moveA hd hm
  have T3 := Aside0.mk ht
  have M3 := Aside0.mk (Moves.trans M2d.out hm3)
  have P23 := Aside0.mk (hr_move P2d.out (hm3.2.1.2 b2 P2d.out.lt N2.out))
  have P33 := Aside0.mk (hr_move P3d.out (hm3.2.1.2 b3 P3d.out.lt N3.out))
  have N23 := Aside0.mk (moved_not hm3 N2.out P2d.out.lt)
  have N33 := Aside0.mk (moved_not hm3 N3.out P3d.out.lt)
  have K0x := P23.out.cell (j := 0) (v := .pointer (some ⟨g, 0, none⟩)) rfl
  have K1x := P23.out.cell (j := 1) (v := .pointer (some ⟨h, 0, none⟩)) rfl
  have D2x := P33.out.cell (j := 2) (v := .int .i64 b) rfl
  have D3x := P33.out.cell (j := 3) (v := .int .u64 bits) rfl
  clear ht hm3 hd hm
  refine hK.out _ _ ⟨K0x, K1x, D2x, D3x⟩ (fun hHeld => ?_)
  clear hK K
  refine norm_ (a' := ?_) ?_ ?_
  rotate_left
  · show Act.put _ (some 61) _ = _
    simp only [Act.put, List.setIfInBounds_toArray, List.set_cons_zero, List.set_cons_succ, i64_w, i32_w]
    rfl
  refine one_ (i := 13) (N := some 68) #[true, true, true, true, true, true, true, true, true, true, true, true, true, true, false, false] rfl rfl (by kernel_rfl) (by decide) (fun K hK => ?_)
  refine goes_ Try.func39 (by kernel_rfl) rfl #[.pointer (some ⟨h, 0, none⟩), .int .u64 bits, .int .i64 b] (by rfl) rfl rfl (by simp only [List.map_toArray, List.map_cons, List.map_nil]; rfl) ?_
  with_reducible refine (PCrash_b H w3 okB h s bits b (Half.b T3.out) HW.out).mono ?_
  rintro e w4 ⟨rfl, okB', hd, hm⟩
  refine ⟨_, rfl, ?_⟩
  rw [← hrv]
  rw [← hs'] at hd
  obtain ⟨ht, hm3⟩ := T3.out.moveB hd hm
  have T4 := Aside0.mk (Half.pair ht)
  have M4 := Aside0.mk (Moves.trans M3.out hm3)
  have P24 := Aside0.mk (hr_move P23.out (hm3.2.1.2 b2 P23.out.lt N23.out))
  have P34 := Aside0.mk (hr_move P33.out (hm3.2.1.2 b3 P33.out.lt N33.out))
  have N24 := Aside0.mk (moved_not hm3 N23.out P23.out.lt)
  have N34 := Aside0.mk (moved_not hm3 N33.out P33.out.lt)
  have K0y := P24.out.cell (j := 0) (v := .pointer (some ⟨g, 0, none⟩)) rfl
  have K1y := P24.out.cell (j := 1) (v := .pointer (some ⟨h, 0, none⟩)) rfl
  have D2y := P34.out.cell (j := 2) (v := .int .i64 b) rfl
  have D3y := P34.out.cell (j := 3) (v := .int .u64 bits) rfl
  clear ht hm3 hd hm
  refine hK.out _ _ ⟨K0y, K1y, D2y, D3y⟩ (fun hHeld => ?_)
  clear hK K
  refine norm_ (a' := ?_) ?_ ?_
  rotate_left
  · show Act.put _ (some 68) _ = _
    simp only [Act.put, List.setIfInBounds_toArray, List.set_cons_zero, List.set_cons_succ, i64_w, i32_w]
    rfl
  refine pure_ (i := 14) (N := some 69) (v := ?_) (a' := ?_) #[true, true, true, true, true, true, true, true, true, true, true, true, true, true, true, false] rfl rfl (by kernel_rfl) (fun _ _ _ h => h) (Or.inl ⟨by rfl, ?_⟩) ?_ ?_
  rotate_left
  · intro w'
    go_simp
    with_reducible rfl
  rotate_left
  · simp only [Act.put, List.setIfInBounds_toArray, List.set_cons_zero, List.set_cons_succ, i64_w, i32_w]
    rfl
  refine pure_ (i := 15) (N := some 4) (v := ?_) (a' := ?_) #[true, true, true, true, true, true, true, true, true, true, true, true, true, true, true, true] rfl rfl (by kernel_rfl) (fun _ _ _ h => h) (Or.inl ⟨by rfl, ?_⟩) ?_ ?_
  rotate_left
  · intro w'
    go_simp
    with_reducible rfl
  rotate_left
  · simp only [Act.put, List.setIfInBounds_toArray, List.set_cons_zero, List.set_cons_succ, i64_w, i32_w]
    rfl
  refine done_ (by kernel_rfl) ?_
  
  clear T2d M2d P2d P3d T3 M3 P23 P33 N23 N33 P24 P34 hHeld
  go_wp2_with fail
  go_ret
  exact ⟨rfl, okA', okB', by rw [show stepF s 4 a b bits raw = s' from hs'.symm]; exact T4.out, M4.out⟩
set_option maxHeartbeats 8000000 in
set_option maxRecDepth 100000 in
theorem step5_calls (H : Nat) (w : World) (okA okB : Nat → Prop) (g h : Nat) (s : DS) (t : Pair H w okA okB g h s) (hw : s.waits.length ≤ 1000000) (kd a b bits : Int) (A : Option Addr) (c : Nat) (raw : List Int) (hb : ∀ W', Kept w W' (okU okA okB) → Kd.C (Kd.int .u8) W' A raw.length raw) (hc : raw.length ≤ c) (hl : raw.length < 140737488355328) (ha : a ≤ 9223372036854775807) (hk : encoreref00_Bring.f kd 7 = some 5) :
    Calls Try.prog 24 #[.agg (bcells g h), .agg (docells kd a b bits (.slice A raw.length c))] w (PPost H w okA okB g h (stepF s 5 a b bits raw)) := by
  have HT := Aside0.mk t
  have HWH := Aside0.mk t.hsize
  have HW := Aside0.mk hw
  have HB := Aside0.mk hb
  have HC := Aside0.mk hc
  have HL := Aside0.mk hl
  have HA := Aside0.mk ha
  have HK := Aside0.mk hk
  clear t hw hb hc hl ha hk
  unfold bcells docells
  go_enter Try.func24, Try.ntmps24
  obtain ⟨W1, hW1⟩ : ∃ W1 : World, W1 = (w.alloc (.cells #[.pointer (some ⟨g, 0, none⟩), .pointer (some ⟨h, 0, none⟩)] 55)).alloc (.cells #[.int .i64 kd, .int .i64 a, .int .i64 b, .int .u64 bits, .slice A raw.length c] 58) := ⟨_, rfl⟩
  obtain ⟨b2, hb2⟩ : ∃ b2, b2 = w.heap.size := ⟨_, rfl⟩
  obtain ⟨b3, hb3⟩ : ∃ b3, b3 = w.heap.size + 1 := ⟨_, rfl⟩
  have hbel1 : Below w.heap.size w W1 := by rw [hW1]; exact below_alloc (below_alloc (Below.refl _ _) _) _
  have P2 := Aside0.mk (show HoldsRow W1 b2 55 (bcells g h) by rw [hW1, hb2]; exact (HoldsRow.new w _ _).alloc _)
  have P3 := Aside0.mk (show HoldsRow W1 b3 58 (docells kd a b bits (.slice A raw.length c)) by
    have e : b3 = (w.alloc (.cells #[.pointer (some ⟨g, 0, none⟩), .pointer (some ⟨h, 0, none⟩)] 55)).heap.size := by rw [hb3, alloc_size]
    rw [hW1, e]; exact HoldsRow.new _ _ _)
  have N2 := Aside0.mk (show ¬ okU okA okB b2 from fun q => by have := HT.out.lt _ q; omega)
  have N3 := Aside0.mk (show ¬ okU okA okB b3 from fun q => by have := HT.out.lt _ q; omega)
  have T1 := Aside0.mk (HT.out.below hbel1)
  have M1 := Aside0.mk (Moves.of_below HT.out.1.2.2 HT.out.lt hbel1)
  have k0 := P3.out.cell (j := 0) (v := .int .i64 kd) rfl
  rw [hW1, hb3] at k0
  go_wp2_with fail
  rw [← hW1, ← hb3, ← hb2]
  clear hW1 hb2 hb3 hbel1 k0
  ((with_reducible refine (encoreref00_Bring.calls kd 7 5 W1 HK.out).mono ?_))
  rintro e w2 ⟨rfl, hd⟩
  have T2 := Aside0.mk (T1.out.below hd.below)
  have M2 := Aside0.mk (M1.out.below T1.out.hsize hd.below)
  have P22 := Aside0.mk (P2.out.below hd.below P2.out.lt)
  have P32 := Aside0.mk (P3.out.below hd.below P3.out.lt)
  clear hd T1 M1 P2 P3
  have KR : w2.rangeAt b2 0 (bcells g h).toList := fun q u hu => P22.out.cell (by rw [Nat.zero_add]; simpa using hu)
  have K0 := P22.out.cell (j := 0) (v := .pointer (some ⟨g, 0, none⟩)) rfl
  have K1 := P22.out.cell (j := 1) (v := .pointer (some ⟨h, 0, none⟩)) rfl
  have D0 := P32.out.cell (j := 0) (v := .int .i64 kd) rfl
  have D1 := P32.out.cell (j := 1) (v := .int .i64 a) rfl
  have D2 := P32.out.cell (j := 2) (v := .int .i64 b) rfl
  have D3 := P32.out.cell (j := 3) (v := .int .u64 bits) rfl
  have D4 := P32.out.cell (j := 4) (v := .slice A raw.length c) rfl
  go_wp2_with fail
  obtain ⟨s', hs'⟩ : ∃ s', s' = bootS s := ⟨_, rfl⟩
  have T2d := Aside0.mk (T2.out.below (below_drew (Below.refl _ w2)))
  have M2d := Aside0.mk (M2.out.below T2.out.hsize (below_drew (Below.refl _ w2)))
  have P2d := Aside0.mk (show HoldsRow w2.drew b2 55 (bcells g h) from P22.out)
  have P3d := Aside0.mk (show HoldsRow w2.drew b3 58 (docells kd a b bits (.slice A raw.length c)) from P32.out)
  clear T2 M2 P22 P32
  refine start_ (n := 8) (S := fun w' => w'.cell? ⟨b2, 0, none⟩ = some (.pointer (some ⟨g, 0, none⟩)) ∧ w'.cell? ⟨b2, 1, none⟩ = some (.pointer (some ⟨h, 0, none⟩))) (ds := []) #[false, false, false, false, false, false, false, false] (by kernel_rfl) rfl rfl ⟨K0, K1⟩ (fun hHeld => ?_)
  refine pure_ (i := 0) (N := some 72) (v := ?_) (a' := ?_) #[true, false, false, false, false, false, false, false] rfl rfl (by kernel_rfl) (fun _ _ _ h => h) (Or.inl ⟨by rfl, ?_⟩) ?_ ?_
  rotate_left
  · intro w'
    go_simp
    with_reducible rfl
  rotate_left
  · simp only [Act.put, List.setIfInBounds_toArray, List.set_cons_zero, List.set_cons_succ, i64_w, i32_w]
    rfl
  refine pure_ (i := 3) (N := some 75) (v := ?_) (a' := ?_) #[true, false, false, true, false, false, false, false] rfl rfl (by kernel_rfl) (fun _ _ _ h => h) (Or.inl ⟨by rfl, ?_⟩) ?_ ?_
  rotate_left
  · intro w'
    go_simp
    with_reducible rfl
  rotate_left
  · simp only [Act.put, List.setIfInBounds_toArray, List.set_cons_zero, List.set_cons_succ, i64_w, i32_w]
    rfl
  refine take_ (i := 1) (N := some 73) (v := ?_) (a' := ?_) #[true, true, false, true, false, false, false, false] rfl rfl (by kernel_rfl) (fun _ _ _ h => h) (Or.inl ⟨by rfl, ?_⟩) hHeld ?_ ?_
  rotate_left
  · rintro w' ⟨s0, s1⟩
    go_simp
    with_reducible rfl
  rotate_left
  · simp only [Act.put, List.setIfInBounds_toArray, List.set_cons_zero, List.set_cons_succ, i64_w, i32_w]
    rfl
  refine take_ (i := 4) (N := some 76) (v := ?_) (a' := ?_) #[true, true, false, true, true, false, false, false] rfl rfl (by kernel_rfl) (fun _ _ _ h => h) (Or.inl ⟨by rfl, ?_⟩) hHeld ?_ ?_
  rotate_left
  · rintro w' ⟨s0, s1⟩
    go_simp
    with_reducible rfl
  rotate_left
  · simp only [Act.put, List.setIfInBounds_toArray, List.set_cons_zero, List.set_cons_succ, i64_w, i32_w]
    rfl
  refine one_ (i := 2) (N := some 74) #[true, true, true, true, true, false, false, false] rfl rfl (by kernel_rfl) (by decide) (fun K hK => ?_)
  refine goes_ Try.func16 (by kernel_rfl) rfl #[.pointer (some ⟨g, 0, none⟩)] (by rfl) rfl rfl (by simp only [List.map_toArray, List.map_cons, List.map_nil]; rfl) ?_
  with_reducible refine (PBoot_a H w2.drew okA g s (Pair.a T2d.out)).mono ?_
  rintro e w3 ⟨rfl, okA', hd, hm⟩
  refine ⟨_, rfl, ?_⟩
  rw [← hs'] at hd
  obtain ⟨ht, hm3⟩ := (Pair.half T2d.out).moveA hd hm
  have T3 := Aside0.mk ht
  have M3 := Aside0.mk (Moves.trans M2d.out hm3)
  have P23 := Aside0.mk (hr_move P2d.out (hm3.2.1.2 b2 P2d.out.lt N2.out))
  have P33 := Aside0.mk (hr_move P3d.out (hm3.2.1.2 b3 P3d.out.lt N3.out))
  have N23 := Aside0.mk (moved_not hm3 N2.out P2d.out.lt)
  have N33 := Aside0.mk (moved_not hm3 N3.out P3d.out.lt)
  have K0x := P23.out.cell (j := 0) (v := .pointer (some ⟨g, 0, none⟩)) rfl
  have K1x := P23.out.cell (j := 1) (v := .pointer (some ⟨h, 0, none⟩)) rfl
  clear ht hm3 hd hm
  refine hK.out _ _ ⟨K0x, K1x⟩ (fun hHeld => ?_)
  clear hK K
  refine norm_ (a' := ?_) ?_ ?_
  rotate_left
  · show Act.put _ (some 74) _ = _
    simp only [Act.put, List.setIfInBounds_toArray, List.set_cons_zero, List.set_cons_succ, i64_w, i32_w]
    rfl
  refine one_ (i := 5) (N := some 77) #[true, true, true, true, true, true, false, false] rfl rfl (by kernel_rfl) (by decide) (fun K hK => ?_)
  refine goes_ Try.func40 (by kernel_rfl) rfl #[.pointer (some ⟨h, 0, none⟩)] (by rfl) rfl rfl (by simp only [List.map_toArray, List.map_cons, List.map_nil]; rfl) ?_
  with_reducible refine (PBoot_b H w3 okB h s (Half.b T3.out)).mono ?_
  rintro e w4 ⟨rfl, okB', hd, hm⟩
  refine ⟨_, rfl, ?_⟩
  rw [← hs'] at hd
  obtain ⟨ht, hm3⟩ := T3.out.moveB hd hm
  have T4 := Aside0.mk (Half.pair ht)
  have M4 := Aside0.mk (Moves.trans M3.out hm3)
  have P24 := Aside0.mk (hr_move P23.out (hm3.2.1.2 b2 P23.out.lt N23.out))
  have P34 := Aside0.mk (hr_move P33.out (hm3.2.1.2 b3 P33.out.lt N33.out))
  have N24 := Aside0.mk (moved_not hm3 N23.out P23.out.lt)
  have N34 := Aside0.mk (moved_not hm3 N33.out P33.out.lt)
  have K0y := P24.out.cell (j := 0) (v := .pointer (some ⟨g, 0, none⟩)) rfl
  have K1y := P24.out.cell (j := 1) (v := .pointer (some ⟨h, 0, none⟩)) rfl
  clear ht hm3 hd hm
  refine hK.out _ _ ⟨K0y, K1y⟩ (fun hHeld => ?_)
  clear hK K
  refine norm_ (a' := ?_) ?_ ?_
  rotate_left
  · show Act.put _ (some 77) _ = _
    simp only [Act.put, List.setIfInBounds_toArray, List.set_cons_zero, List.set_cons_succ, i64_w, i32_w]
    rfl
  refine pure_ (i := 6) (N := some 78) (v := ?_) (a' := ?_) #[true, true, true, true, true, true, true, false] rfl rfl (by kernel_rfl) (fun _ _ _ h => h) (Or.inl ⟨by rfl, ?_⟩) ?_ ?_
  rotate_left
  · intro w'
    go_simp
    with_reducible rfl
  rotate_left
  · simp only [Act.put, List.setIfInBounds_toArray, List.set_cons_zero, List.set_cons_succ, i64_w, i32_w]
    rfl
  refine pure_ (i := 7) (N := some 4) (v := ?_) (a' := ?_) #[true, true, true, true, true, true, true, true] rfl rfl (by kernel_rfl) (fun _ _ _ h => h) (Or.inl ⟨by rfl, ?_⟩) ?_ ?_
  rotate_left
  · intro w'
    go_simp
    with_reducible rfl
  rotate_left
  · simp only [Act.put, List.setIfInBounds_toArray, List.set_cons_zero, List.set_cons_succ, i64_w, i32_w]
    rfl
  refine done_ (by kernel_rfl) ?_
  
  clear T2d M2d P2d P3d T3 M3 P23 P33 N23 N33 P24 P34 hHeld
  go_wp2_with fail
  go_ret
  exact ⟨rfl, okA', okB', by rw [show stepF s 5 a b bits raw = s' from hs'.symm]; exact T4.out, M4.out⟩
set_option maxHeartbeats 8000000 in
set_option maxRecDepth 100000 in
theorem step6_calls (H : Nat) (w : World) (okA okB : Nat → Prop) (g h : Nat) (s : DS) (t : Pair H w okA okB g h s) (hw : s.waits.length ≤ 1000000) (kd a b bits : Int) (A : Option Addr) (c : Nat) (raw : List Int) (hb : ∀ W', Kept w W' (okU okA okB) → Kd.C (Kd.int .u8) W' A raw.length raw) (hc : raw.length ≤ c) (hl : raw.length < 140737488355328) (ha : a ≤ 9223372036854775807) (hk : encoreref00_Bring.f kd 7 = some 6) :
    Calls Try.prog 24 #[.agg (bcells g h), .agg (docells kd a b bits (.slice A raw.length c))] w (PPost H w okA okB g h (stepF s 6 a b bits raw)) := by
  have HT := Aside0.mk t
  have HWH := Aside0.mk t.hsize
  have HW := Aside0.mk hw
  have HB := Aside0.mk hb
  have HC := Aside0.mk hc
  have HL := Aside0.mk hl
  have HA := Aside0.mk ha
  have HK := Aside0.mk hk
  clear t hw hb hc hl ha hk
  unfold bcells docells
  go_enter Try.func24, Try.ntmps24
  obtain ⟨W1, hW1⟩ : ∃ W1 : World, W1 = (w.alloc (.cells #[.pointer (some ⟨g, 0, none⟩), .pointer (some ⟨h, 0, none⟩)] 55)).alloc (.cells #[.int .i64 kd, .int .i64 a, .int .i64 b, .int .u64 bits, .slice A raw.length c] 58) := ⟨_, rfl⟩
  obtain ⟨b2, hb2⟩ : ∃ b2, b2 = w.heap.size := ⟨_, rfl⟩
  obtain ⟨b3, hb3⟩ : ∃ b3, b3 = w.heap.size + 1 := ⟨_, rfl⟩
  have hbel1 : Below w.heap.size w W1 := by rw [hW1]; exact below_alloc (below_alloc (Below.refl _ _) _) _
  have P2 := Aside0.mk (show HoldsRow W1 b2 55 (bcells g h) by rw [hW1, hb2]; exact (HoldsRow.new w _ _).alloc _)
  have P3 := Aside0.mk (show HoldsRow W1 b3 58 (docells kd a b bits (.slice A raw.length c)) by
    have e : b3 = (w.alloc (.cells #[.pointer (some ⟨g, 0, none⟩), .pointer (some ⟨h, 0, none⟩)] 55)).heap.size := by rw [hb3, alloc_size]
    rw [hW1, e]; exact HoldsRow.new _ _ _)
  have N2 := Aside0.mk (show ¬ okU okA okB b2 from fun q => by have := HT.out.lt _ q; omega)
  have N3 := Aside0.mk (show ¬ okU okA okB b3 from fun q => by have := HT.out.lt _ q; omega)
  have T1 := Aside0.mk (HT.out.below hbel1)
  have M1 := Aside0.mk (Moves.of_below HT.out.1.2.2 HT.out.lt hbel1)
  have k0 := P3.out.cell (j := 0) (v := .int .i64 kd) rfl
  rw [hW1, hb3] at k0
  go_wp2_with fail
  rw [← hW1, ← hb3, ← hb2]
  clear hW1 hb2 hb3 hbel1 k0
  ((with_reducible refine (encoreref00_Bring.calls kd 7 6 W1 HK.out).mono ?_))
  rintro e w2 ⟨rfl, hd⟩
  have T2 := Aside0.mk (T1.out.below hd.below)
  have M2 := Aside0.mk (M1.out.below T1.out.hsize hd.below)
  have P22 := Aside0.mk (P2.out.below hd.below P2.out.lt)
  have P32 := Aside0.mk (P3.out.below hd.below P3.out.lt)
  clear hd T1 M1 P2 P3
  have KR : w2.rangeAt b2 0 (bcells g h).toList := fun q u hu => P22.out.cell (by rw [Nat.zero_add]; simpa using hu)
  have K0 := P22.out.cell (j := 0) (v := .pointer (some ⟨g, 0, none⟩)) rfl
  have K1 := P22.out.cell (j := 1) (v := .pointer (some ⟨h, 0, none⟩)) rfl
  have D0 := P32.out.cell (j := 0) (v := .int .i64 kd) rfl
  have D1 := P32.out.cell (j := 1) (v := .int .i64 a) rfl
  have D2 := P32.out.cell (j := 2) (v := .int .i64 b) rfl
  have D3 := P32.out.cell (j := 3) (v := .int .u64 bits) rfl
  have D4 := P32.out.cell (j := 4) (v := .slice A raw.length c) rfl
  go_wp2_with fail
  have HX := bwrite_calls H w2 okA okB g h s T2.out HW.out a A c raw (fun W' hk => HB.out W' ((kept_of M2.out).then_ hk (fun k hk => .inl hk))) HC.out HL.out
  unfold bcells at HX
  ((with_reducible refine HX.mono ?_))
  rintro e w3 ⟨rfl, okA', okB', ht, hm⟩
  have T3 := Aside0.mk ht
  have M3 := Aside0.mk (Moves.trans M2.out hm)
  clear ht hm HX M2 T2
  go_wp2_with fail
  go_ret
  exact ⟨rfl, okA', okB', T3.out, M3.out⟩
theorem step_calls (H : Nat) (w : World) (okA okB : Nat → Prop) (g h : Nat) (s : DS) (t : Pair H w okA okB g h s) (hw : s.waits.length ≤ 1000000) (kd a b bits : Int) (A : Option Addr) (c : Nat) (raw : List Int) (hb : ∀ W', Kept w W' (okU okA okB) → Kd.C (Kd.int .u8) W' A raw.length raw) (hc : raw.length ≤ c) (hl : raw.length < 140737488355328) (ha : a ≤ 9223372036854775807) :
    Calls Try.prog 24 #[.agg (bcells g h), .agg (docells kd a b bits (.slice A raw.length c))] w (PPost H w okA okB g h (stepF s (kd % 7) a b bits raw)) := by
  have hk := bring_eq kd 7 (by decide) (by decide)
  rw [show ((7 : Nat) : Int) = 7 from rfl] at hk
  have h7 : kd % 7 = 0 ∨ kd % 7 = 1 ∨ kd % 7 = 2 ∨ kd % 7 = 3 ∨ kd % 7 = 4 ∨ kd % 7 = 5 ∨ kd % 7 = 6 := by omega
  rcases h7 with e | e | e | e | e | e | e <;> rw [e] at hk ⊢
  · exact step0_calls H w okA okB g h s t hw kd a b bits A c raw hb hc hl ha hk
  · exact step1_calls H w okA okB g h s t hw kd a b bits A c raw hb hc hl ha hk
  · exact step2_calls H w okA okB g h s t hw kd a b bits A c raw hb hc hl ha hk
  · exact step3_calls H w okA okB g h s t hw kd a b bits A c raw hb hc hl ha hk
  · exact step4_calls H w okA okB g h s t hw kd a b bits A c raw hb hc hl ha hk
  · exact step5_calls H w okA okB g h s t hw kd a b bits A c raw hb hc hl ha hk
  · exact step6_calls H w okA okB g h s t hw kd a b bits A c raw hb hc hl ha hk
theorem waits_write (s : DS) (a : Int) (b : List Int) : (writeF s a b).2.waits.length ≤ s.waits.length + 1 := by
  unfold writeF
  split
  · exact Nat.le_succ _
  · split
    · exact Nat.le_succ _
    · split
      · exact waits_doing s
      · rename_i h1
        have := (doing_waits s (Decidable.not_not.1 h1)).1
        show ((doingF s).2.waits ++ [(a, b)]).length ≤ _
        rw [List.length_append, this]; exact Nat.le_refl _
theorem waits_step (s : DS) (k a b bits : Int) (raw : List Int) : (stepF s k a b bits raw).waits.length ≤ s.waits.length + 1 := by
  unfold stepF
  split
  · exact waits_write _ _ _
  split
  · exact Nat.le_succ _
  split
  · unfold flushF
    split
    · exact Nat.le_succ _
    · split
      · exact Nat.zero_le _
      · exact waits_doing s
  split
  · unfold failF; split <;> exact Nat.le_succ _
  split
  · unfold crashF; split
    · exact Nat.le_succ _
    · exact Nat.zero_le _
  split
  · exact Nat.le_succ _
  · exact waits_write _ _ _
end Go.Proofs.Ytkmgbmnjabmhaaa.Ext
