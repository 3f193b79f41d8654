/- may, there, Dead, Waits, Size, Boot, Fail of a disk, walked. No condition. -/
import Derived.WalkSpells
import Derived.Test.YtkmgbmnjabmhaaaDiskIs
namespace Go.Proofs.Ytkmgbmnjabmhaaa.Ext
open Go Go.RowKit Go.Proofs.YtkmgbmnjabmhaaaW.PrintWords Go.Proofs.YtkmgbmnjabmhaaaW.PrintLast Go.Proofs.YtkmgbmnjabmhaaaW.PrintMore Go.Proofs.Ytkmgbmnjabmhaaa.Base Go.Proofs.Ytkmgbmnjabmhaaa.Arr
set_option linter.unusedVariables false
set_option linter.unusedSimpArgs false

theorem dcell {W : World} {g gs m n : Nat} {vw : Value} {dead : Bool} {pp : Option Addr} (h : HoldsRow W g 65 (dcells gs m n vw dead pp)) :
    W.cell? ⟨g, 0, none⟩ = some (.slice (some ⟨gs, 0, none⟩) n n) ∧ W.cell? ⟨g, 1, none⟩ = some (.map (some m)) ∧ W.cell? ⟨g, 2, none⟩ = some vw ∧ W.cell? ⟨g, 3, none⟩ = some (.bool dead) ∧ W.cell? ⟨g, 4, none⟩ = some (.pointer pp) :=
  ⟨h.cell rfl, h.cell rfl, h.cell rfl, h.cell rfl, h.cell rfl⟩
def mayE (s : DS) : Int := if s.dead = true then 30 else 0
set_option maxHeartbeats 2000000 in
set_option maxRecDepth 100000 in
theorem may_calls (w : World) (base : Nat) (ok : Nat → Prop) (g : Nat) (s : DS) (h : DiskIs w base ok g s) :
    Calls Try.prog 32 #[.pointer (some ⟨g, 0, none⟩)] w fun e w' => e = .returned (.int .i64 (mayE s)) ∧ w = w' := by
  obtain ⟨gs, m, vw, pp, h1, -, -, -, -, -, -, -⟩ := h
  obtain ⟨k0, -, -, k3, -⟩ := dcell h1
  unfold mayE
  have hn := fun (W : World) => Lib.run_eql_slice_nil (P := Try.prog) W 60 68 (some ⟨gs, 0, none⟩) s.n s.n 0 0 Try.underlying60
  rw [Option.isNone_some] at hn
  generalize s.dead = dd at *
  clear h1
  cases dd
  all_goals
    go_enter Try.func32, Try.ntmps32
    go_wp2_with fail
    go_ret
    exact ⟨rfl, rfl⟩
def thereE (s : DS) (at_ : Int) : Int := if s.dead = true then 30 else if at_ < 0 then 9 else if (s.n : Int) ≤ at_ then 9 else 0
set_option maxHeartbeats 2000000 in
set_option maxRecDepth 100000 in
theorem there_calls (w : World) (base : Nat) (ok : Nat → Prop) (g : Nat) (s : DS) (h : DiskIs w base ok g s) (at_ : Int) :
    Calls Try.prog 30 #[.pointer (some ⟨g, 0, none⟩), .int .i64 at_] w fun e w' => e = .returned (.int .i64 (thereE s at_)) ∧ w = w' := by
  have HD := Aside0.mk h
  obtain ⟨gs, m, vw, pp, h1, -, -, -, -, -, -, -⟩ := h
  obtain ⟨k0, -, -, -, -⟩ := dcell h1
  clear h1
  by_cases hd : s.dead = true
  · have hm : mayE s = 30 := by unfold mayE; rw [if_pos hd]
    have ht : thereE s at_ = 30 := by unfold thereE; rw [if_pos hd]
    have HM := Aside0.mk hm
    have HT := Aside0.mk ht
    clear hm ht hd
    go_enter Try.func30, Try.ntmps30
    go_wp2_with fail
    refine (may_calls w base ok g s HD.out).mono ?_
    rintro e w1 ⟨rfl, rfl⟩
    rw [HM.out]
    go_wp2_with fail
    go_ret
    exact ⟨by rw [HT.out]; rfl, rfl⟩
  · have hm : mayE s = 0 := by unfold mayE; rw [if_neg hd]
    have HM := Aside0.mk hm
    have hcase : (thereE s at_ = 9 ∧ decide (at_ < 0) = true) ∨ (thereE s at_ = 9 ∧ decide (at_ < 0) = false ∧ decide ((s.n : Int) ≤ at_) = true) ∨ (thereE s at_ = 0 ∧ decide (at_ < 0) = false ∧ decide ((s.n : Int) ≤ at_) = false) := by
      unfold thereE
      rw [if_neg hd]
      by_cases h1 : at_ < 0
      · exact .inl ⟨if_pos h1, decide_eq_true h1⟩
      · rw [if_neg h1]
        by_cases h2 : (s.n : Int) ≤ at_
        · exact .inr (.inl ⟨if_pos h2, decide_eq_false h1, decide_eq_true h2⟩)
        · exact .inr (.inr ⟨if_neg h2, decide_eq_false h1, decide_eq_false h2⟩)
    clear hm hd
    rcases hcase with ⟨ht, d1⟩ | ⟨ht, d1, d2⟩ | ⟨ht, d1, d2⟩
    all_goals
      have HT := Aside0.mk ht
      clear ht
      go_enter Try.func30, Try.ntmps30
      go_wp2_with fail
      refine (may_calls w base ok g s HD.out).mono ?_
      rintro e w1 ⟨rfl, rfl⟩
      rw [HM.out]
      go_wp2_with fail
      go_ret
      exact ⟨by rw [HT.out]; rfl, rfl⟩
set_option maxHeartbeats 2000000 in
set_option maxRecDepth 100000 in
theorem Dead_calls (w : World) (base : Nat) (ok : Nat → Prop) (g : Nat) (s : DS) (h : DiskIs w base ok g s) :
    Calls Try.prog 20 #[.pointer (some ⟨g, 0, none⟩)] w fun e w' => e = .returned (.bool s.dead) ∧ w = w' := by
  have hm : mayE s = if s.dead = true then 30 else 0 := rfl
  have HD := Aside0.mk h
  have hc : (mayE s == 30) = s.dead := by
    rw [hm]
    cases s.dead <;> rfl
  have HC := Aside0.mk hc
  clear hm hc h
  go_enter Try.func20, Try.ntmps20
  go_wp2_with fail
  refine (may_calls w base ok g s HD.out).mono ?_
  rintro e w1 ⟨rfl, rfl⟩
  have hc := HC.out
  generalize mayE s = q at *
  go_wp2_with fail
  go_ret
  exact ⟨rfl, rfl⟩
set_option maxHeartbeats 2000000 in
set_option maxRecDepth 100000 in
theorem Waits_calls (w : World) (base : Nat) (ok : Nat → Prop) (g : Nat) (s : DS) (h : DiskIs w base ok g s) :
    Calls Try.prog 14 #[.pointer (some ⟨g, 0, none⟩)] w fun e w' => e = .returned (.int .i64 (s.waits.length : Int)) ∧ w = w' := by
  have HD := Aside0.mk h
  obtain ⟨gs, m, vw, pp, h1, -, -, h4, -, -, -, -⟩ := h
  obtain ⟨-, -, k2, -, -⟩ := dcell h1
  obtain ⟨A, c, rfl⟩ := Kd.R_slice h4
  have hc : (mayE s == 1) = false := by unfold mayE; split <;> rfl
  have HC := Aside0.mk hc
  clear hc h1 h4
  go_enter Try.func14, Try.ntmps14
  go_wp2_with fail
  refine (may_calls w base ok g s HD.out).mono ?_
  rintro e w1 ⟨rfl, rfl⟩
  have hc := HC.out
  generalize mayE s = q at *
  go_wp2_with fail
  go_ret
  exact ⟨rfl, rfl⟩
/-- the struct's cells, one set -/
theorem dcells_dead (gs m n : Nat) (vw : Value) (dead d' : Bool) (pp : Option Addr) : (dcells gs m n vw dead pp).setIfInBounds 3 (.bool d') = dcells gs m n vw d' pp := rfl
theorem dcells_plan (gs m n : Nat) (vw : Value) (dead : Bool) (pp p' : Option Addr) : (dcells gs m n vw dead pp).setIfInBounds 4 (.pointer p') = dcells gs m n vw dead p' := rfl
theorem dcells_waits (gs m n : Nat) (vw v' : Value) (dead : Bool) (pp : Option Addr) : (dcells gs m n vw dead pp).setIfInBounds 2 v' = dcells gs m n v' dead pp := rfl
/-- blocks of unlike kinds are two -/
theorem ne_kind {W : World} {a b : Nat} {t t' : TypeId} {cs cs' : Array Value} (h : HoldsRow W a t cs) (h' : HoldsRow W b t' cs') (hne : t ≠ t') : a ≠ b := by
  rintro rfl
  have := h.symm.trans h'
  injection this with e
  injection e with _ e2
  exact hne e2
theorem ne_map {W : World} {a b : Nat} {t : TypeId} {cs : Array Value} {F : Int → Option Value} (h : HoldsRow W a t cs) (h' : MapIs W b F) : a ≠ b := by
  rintro rfl
  obtain ⟨es, c, h1, _⟩ := h'
  have := h.symm.trans h1
  simp at this
theorem ne_own {W : World} {g : Nat} {t e base : Nat} {cs : Array Value} {α : Type} {d : Kd α} {ok : Nat → Prop} {v : Value} {xs : List α} (h : HoldsRow W g t cs) (h' : d.R e W base ok v xs) (hne : t ≠ e) : some g ≠ v.ownBlock := fun he => by
  obtain ⟨cells, hc⟩ := Kd.R_typed h' g he.symm
  have := h.symm.trans hc
  injection this with e
  injection e with _ e2
  exact hne e2
/-- where a cell of the struct is set, all else of a disk lies as it lay -/
theorem rest_set {W : World} {base : Nat} {ok : Nat → Prop} {g gs m n : Nat} {vw0 vw : Value} {dead : Bool} {pp0 pp : Option Addr} {f : List Int} {F : Int → Option Value} {xs : List (Int × List Int)} {q : Option (Int × Int × Int)} (h1 : HoldsRow W g 65 (dcells gs m n vw0 dead pp0)) (h2 : HoldsRow W gs 68 (rowK .u8 f)) (h3 : MapIs W m F) (h4 : Kd.R wrK 70 W base ok vw xs) (h5 : PlanIs W base ok pp q) (j : Nat) (u : Value) :
    HoldsRow (W.setCell ⟨g, j, none⟩ u) gs 68 (rowK .u8 f) ∧ MapIs (W.setCell ⟨g, j, none⟩ u) m F ∧ Kd.R wrK 70 (W.setCell ⟨g, j, none⟩ u) base ok vw xs ∧ PlanIs (W.setCell ⟨g, j, none⟩ u) base ok pp q := by
  have hfar : ∀ k, k ≠ g → (W.setCell ⟨g, j, none⟩ u).heap[k]? = W.heap[k]? := fun k hk => Below.heap_setCell W ⟨g, j, none⟩ u k hk
  refine ⟨hr_move h2 (hfar gs (ne_kind h2 h1 (by decide))), h3.move (hfar m (fun e => ne_map h1 h3 e.symm)), ?_, ?_⟩
  · have hne := ne_own h1 h4 (by decide)
    refine Kd.R_mono (Kd.R_move (Kd.R_bound h4) (fun k hk => hfar k (fun e => ?_))) (fun k hk => hk.1)
    obtain ⟨_, _, _, q, hq, cells, hc⟩ := hk
    have hq' : q = 70 := by simpa [wrK] using hq
    subst e
    have := h1.symm.trans hc
    injection this with e1
    injection e1 with _ e2
    rw [hq'] at e2
    exact absurd e2 (by decide)
  · cases q with
    | none => exact h5
    | some q =>
      obtain ⟨l, b, c⟩ := q
      obtain ⟨pb, e, hr, h6, h7⟩ := h5
      exact ⟨pb, e, hr_move hr (hfar pb (ne_kind hr h1 (by decide))), h6, h7⟩
/-- a cell of the struct set: the world and what is kept -/
theorem to_set {W : World} {base : Nat} {ok : Nat → Prop} {g j : Nat} {u : Value} (hg : ok g) (hb : base ≤ g) : Below base W (W.setCell ⟨g, j, none⟩ u) ∧ Kept W (W.setCell ⟨g, j, none⟩ u) ok :=
  ⟨(Below.refl base W).setCell (show base ≤ (⟨g, j, none⟩ : Addr).block from hb) u, (Kept.refl W ok).setCell (p := ⟨g, j, none⟩) (.inl hg) u⟩
set_option maxHeartbeats 2000000 in
set_option maxRecDepth 100000 in
theorem Boot_calls (w : World) (base : Nat) (ok : Nat → Prop) (g : Nat) (s : DS) (h : DiskIs w base ok g s) :
    Calls Try.prog 16 #[.pointer (some ⟨g, 0, none⟩)] w fun e w' => e = .returned (.int .i64 0) ∧ DiskTo w w' base ok g { s with dead := false, plan := none } := by
  have HD := Aside0.mk h
  have hc : (mayE s == 1) = false := by unfold mayE; split <;> rfl
  have HC := Aside0.mk hc
  clear hc
  obtain ⟨gs, m, vw, pp, h1, h2, h3, h4, h5, ⟨o1, o2, o3⟩, ⟨b1, b2, b3⟩, hG⟩ := h
  have k3 := h1.cell (j := 3) (v := .bool s.dead) rfl
  have k4 := h1.cell (j := 4) (v := .pointer pp) rfl
  have z3 := h1.free 3
  have z4 := h1.free 4
  obtain ⟨r2, r3, r4, r5⟩ := rest_set h1 h2 h3 h4 h5 3 (.bool false)
  have r1 := h1.set 3 (.bool false)
  rw [dcells_dead] at r1
  obtain ⟨q2, q3, q4, q5⟩ := rest_set r1 r2 r3 r4 r5 4 (.pointer none)
  have q1 := r1.set 4 (.pointer none)
  rw [dcells_plan] at q1
  have hb1 := (to_set (W := w) (j := 3) (u := .bool false) o1 b1)
  have hb2 := (to_set (W := w.setCell ⟨g, 3, none⟩ (.bool false)) (j := 4) (u := .pointer none) o1 b1)
  have HF := Aside0.mk (show DiskTo w ((w.setCell ⟨g, 3, none⟩ (.bool false)).setCell ⟨g, 4, none⟩ (.pointer none)) base ok g { s with dead := false, plan := none } from
    DiskTo.trans (hb1.1.trans hb2.1) (hb1.2.then_ hb2.2 (fun k hk => .inl hk)) (fun k hk => .inl hk) (DiskTo.same ⟨gs, m, vw, none, q1, q2, q3, q4, rfl, ⟨o1, o2, o3⟩, ⟨b1, b2, b3⟩, hG⟩))
  clear h1 h2 h3 h4 h5 r1 r2 r3 r4 r5 q1 q2 q3 q4 q5 hb1 hb2 o1 o2 o3 hG
  go_enter Try.func16, Try.ntmps16
  go_wp2_with fail
  refine (may_calls w base ok g s HD.out).mono ?_
  rintro e w1 ⟨rfl, rfl⟩
  have hc := HC.out
  generalize mayE s = q at *
  go_wp2_with fail
  go_ret
  exact ⟨rfl, HF.out⟩
/-- when it is to go: as Fail says -/
def failP (n bits cut : Int) : Option (Int × Int × Int) := if n < 0 then none else some (n, bits, cut)
set_option maxHeartbeats 2000000 in
set_option maxRecDepth 100000 in
theorem Fail_calls (w : World) (base : Nat) (ok : Nat → Prop) (g : Nat) (s : DS) (h : DiskIs w base ok g s) (hbw : base ≤ w.heap.size) (hd : s.dead = false) (n bits cut : Int) (hnm : n ≤ 9223372036854775807) :
    Calls Try.prog 19 #[.pointer (some ⟨g, 0, none⟩), .int .i64 n, .int .u64 bits, .int .i64 cut] w fun e w' => e = .returned (.int .i64 0) ∧ DiskTo w w' base ok g { s with plan := failP n bits cut } := by
  have HD := Aside0.mk h
  have hm : mayE s = 0 := by unfold mayE; rw [hd]; rfl
  have HM := Aside0.mk hm
  clear hm hd
  have hba := below_alloc (Below.refl w.heap.size w) (.cells #[.int .i64 n, .int .u64 bits, .int .i64 cut] 75)
  have hnew := HoldsRow.new w 75 #[.int .i64 n, .int .u64 bits, .int .i64 cut]
  have h0 := (h.below hba).mono (ok' := fun k => ok k ∨ w.heap.size ≤ k) (fun k hk _ => .inl hk)
  have hk0 : Kept w (w.alloc (.cells #[.int .i64 n, .int .u64 bits, .int .i64 cut] 75)) ok := (Kept.refl w ok).alloc _
  have hb0 : Below base w (w.alloc (.cells #[.int .i64 n, .int .u64 bits, .int .i64 cut] 75)) := (Below.refl base w).alloc hbw _
  obtain ⟨gs, m, vw, pp, h1, h2, h3, h4, h5, ⟨o1, o2, o3⟩, ⟨b1, b2, b3⟩, hG⟩ := h0
  obtain ⟨W, hW⟩ : ∃ W : World, W = w.alloc (.cells #[.int .i64 n, .int .u64 bits, .int .i64 cut] 75) := ⟨_, rfl⟩
  rw [← hW] at hnew hk0 hb0 h1 h2 h3 h4 h5
  have k4 := h1.cell (j := 4) (v := .pointer pp) rfl
  have z4 := h1.free 4
  obtain ⟨r2, r3, r4, r5⟩ := rest_set h1 h2 h3 h4 h5 4 (.pointer (some ⟨w.heap.size, 0, none⟩))
  have r1 := h1.set 4 (.pointer (some ⟨w.heap.size, 0, none⟩))
  rw [dcells_plan] at r1
  have hb1 := (to_set (ok := fun k => ok k ∨ w.heap.size ≤ k) (W := W) (j := 4) (u := .pointer (some ⟨w.heap.size, 0, none⟩)) o1 b1)
  have hpl : HoldsRow (W.setCell ⟨g, 4, none⟩ (.pointer (some ⟨w.heap.size, 0, none⟩))) w.heap.size 75 #[.int .i64 n, .int .u64 bits, .int .i64 cut] := hnew.set_other _ _ (ne_kind hnew h1 (by decide))
  have F1 : DiskTo w (W.setCell ⟨g, 4, none⟩ (.pointer (some ⟨w.heap.size, 0, none⟩))) base ok g { s with plan := some (n, bits, cut) } :=
    DiskTo.trans (hb0.trans hb1.1) (hk0.then_ hb1.2 (fun k hk => hk)) (fun k hk => hk) (DiskTo.same ⟨gs, m, vw, some ⟨w.heap.size, 0, none⟩, r1, r2, r3, r4, ⟨w.heap.size, rfl, hpl, .inr (Nat.le_refl _), hbw, hnm⟩, ⟨o1, o2, o3⟩, ⟨b1, b2, b3⟩, hG⟩)
  obtain ⟨q2, q3, q4, q5⟩ := rest_set (q := some (n, bits, cut)) (pp := some ⟨w.heap.size, 0, none⟩) r1 r2 r3 r4 ⟨w.heap.size, rfl, hpl, .inr (Nat.le_refl _), hbw, hnm⟩ 4 (.pointer none)
  have q1 := r1.set 4 (.pointer none)
  rw [dcells_plan] at q1
  have hb2 := (to_set (ok := fun k => ok k ∨ w.heap.size ≤ k) (W := W.setCell ⟨g, 4, none⟩ (.pointer (some ⟨w.heap.size, 0, none⟩))) (j := 4) (u := .pointer none) o1 b1)
  have F2 : DiskTo w ((W.setCell ⟨g, 4, none⟩ (.pointer (some ⟨w.heap.size, 0, none⟩))).setCell ⟨g, 4, none⟩ (.pointer none)) base ok g { s with plan := none } :=
    DiskTo.trans (hb0.trans (hb1.1.trans hb2.1)) ((hk0.then_ hb1.2 (fun k hk => hk)).then_ hb2.2 (fun k hk => hk)) (fun k hk => hk) (DiskTo.same ⟨gs, m, vw, none, q1, q2, q3, q4, rfl, ⟨o1, o2, o3⟩, ⟨b1, b2, b3⟩, hG⟩)
  have HF1 := Aside0.mk F1
  have HF2 := Aside0.mk F2
  have k4' := r1.cell (j := 4) (v := .pointer (some ⟨w.heap.size, 0, none⟩)) rfl
  have z4' := r1.free 4
  clear F1 F2 h1 h2 h3 h4 h5 r1 r2 r3 r4 r5 q1 q2 q3 q4 q5 hb1 hb2 hb0 hk0 hba hnew hpl h hG
  by_cases hn : n < 0
  · have hp : failP n bits cut = none := if_pos hn
    have HP := Aside0.mk hp
    have d1 : decide (n < 0) = true := decide_eq_true hn
    clear hp hn
    subst hW
    go_enter Try.func19, Try.ntmps19
    go_wp2_with fail
    refine (may_calls w base ok g s HD.out).mono ?_
    rintro e w1 ⟨rfl, rfl⟩
    rw [HM.out]
    go_wp2_with fail
    go_ret
    exact ⟨rfl, by rw [HP.out]; exact HF2.out⟩
  · have hp : failP n bits cut = some (n, bits, cut) := if_neg hn
    have HP := Aside0.mk hp
    have d1 : decide (n < 0) = false := decide_eq_false hn
    clear hp hn
    subst hW
    go_enter Try.func19, Try.ntmps19
    go_wp2_with fail
    refine (may_calls w base ok g s HD.out).mono ?_
    rintro e w1 ⟨rfl, rfl⟩
    rw [HM.out]
    go_wp2_with fail
    go_ret
    exact ⟨rfl, by rw [HP.out]; exact HF1.out⟩
end Go.Proofs.Ytkmgbmnjabmhaaa.Ext
