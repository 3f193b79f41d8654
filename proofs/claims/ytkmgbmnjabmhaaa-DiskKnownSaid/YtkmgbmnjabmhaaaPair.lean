/- The program's disk and the document's, beside each other; write and read of both, walked. Condition: a million writes wait at most. -/
import Derived.Test.YtkmgbmnjabmhaaaRefW
import Derived.Test.YtkmgbmnjabmhaaaDEndsP
namespace Go.Proofs.Ytkmgbmnjabmhaaa.Ext
open Go Go.RowKit Go.Proofs.YtkmgbmnjabmhaaaW.PrintWords Go.Proofs.YtkmgbmnjabmhaaaW.PrintLast Go.Proofs.YtkmgbmnjabmhaaaW.PrintMore Go.Proofs.Ytkmgbmnjabmhaaa.Base Go.Proofs.Ytkmgbmnjabmhaaa.Arr
set_option linter.unusedVariables false
set_option linter.unusedSimpArgs false

def RL (H : Nat) (W : World) (ok : Nat → Prop) (g : Nat) (s : DS) : Prop := RefIs W H ok g s ∧ (∀ k, ok k → k < W.heap.size) ∧ H ≤ W.heap.size
/-- both disks, told alike -/
def Pair (H : Nat) (W : World) (okA okB : Nat → Prop) (g h : Nat) (s : DS) : Prop := DL H W okA g s ∧ RL H W okB h s ∧ ∀ k, okA k → ¬ okB k
section
variable {H : Nat} {w w' : World} {okA okB okA' okB' : Nat → Prop} {g h : Nat} {s s' sb : DS}
theorem RL.below (t : RL H w okB h s) (hb : Below w.heap.size w w') : RL H w' okB h s := ⟨t.1.below hb, fun k hk => Nat.lt_of_lt_of_le (t.2.1 k hk) hb.size, Nat.le_trans t.2.2 hb.size⟩
theorem Pair.below (t : Pair H w okA okB g h s) (hb : Below w.heap.size w w') : Pair H w' okA okB g h s := ⟨t.1.below hb, t.2.1.below hb, t.2.2⟩
theorem Pair.a (t : Pair H w okA okB g h s) : DL H w okA g s := t.1
theorem Pair.b (t : Pair H w okA okB g h s) : RL H w okB h s := t.2.1
/-- a call of the one, and then of the other -/
def Half (H : Nat) (W : World) (okA okB : Nat → Prop) (g h : Nat) (sa sb : DS) : Prop := DL H W okA g sa ∧ RL H W okB h sb ∧ ∀ k, okA k → ¬ okB k
theorem Pair.half (t : Pair H w okA okB g h s) : Half H w okA okB g h s s := t
theorem Half.pair (t : Half H w okA okB g h s s) : Pair H w okA okB g h s := t
theorem Half.below (t : Half H w okA okB g h s sb) (hb : Below w.heap.size w w') : Half H w' okA okB g h s sb := ⟨t.1.below hb, t.2.1.below hb, t.2.2⟩
theorem Half.moveA {sa sa' : DS} (t : Half H w okA okB g h sa sb) (hd : DL H w' okA' g sa') (hm : Moves H w w' okA okA') : Half H w' okA' okB g h sa' sb ∧ Moves H w w' (okU okA okB) (okU okA' okB) := by
  obtain ⟨t1, t2, t3⟩ := t
  refine ⟨⟨hd, ⟨t2.1.move (fun k hk hlt => hm.2.1.2 k hlt (fun q => t3 k q hk)), fun k hk => Nat.lt_of_lt_of_le (t2.2.1 k hk) hm.2.1.1, Nat.le_trans t2.2.2 hm.2.1.1⟩, fun k hk q => ?_⟩, hm.1, hm.2.1.mono (fun k hk => .inl hk), fun k hk => ?_⟩
  · rcases (hm.2.2 k hk).1 with h1 | h1
    · exact t3 k h1 q
    · have := t2.2.1 k q; omega
  · rcases hk with hk | hk
    · exact ⟨(hm.2.2 k hk).1.elim (fun h => .inl (.inl h)) .inr, (hm.2.2 k hk).2⟩
    · exact ⟨.inl (.inr hk), Nat.lt_of_lt_of_le (t2.2.1 k hk) hm.2.1.1⟩
theorem Half.moveB {sa sb' : DS} (t : Half H w okA okB g h sa sb) (hd : RL H w' okB' h sb') (hm : Moves H w w' okB okB') : Half H w' okA okB' g h sa sb' ∧ Moves H w w' (okU okA okB) (okU okA okB') := by
  obtain ⟨t1, t2, t3⟩ := t
  refine ⟨⟨⟨t1.1.move (fun k hk hlt => hm.2.1.2 k hlt (fun q => t3 k hk q)), fun k hk => Nat.lt_of_lt_of_le (t1.2.1 k hk) hm.2.1.1, Nat.le_trans t1.2.2 hm.2.1.1⟩, hd, fun k hk q => ?_⟩, hm.1, hm.2.1.mono (fun k hk => .inr hk), fun k hk => ?_⟩
  · rcases (hm.2.2 k q).1 with h1 | h1
    · exact t3 k hk h1
    · have := t1.2.1 k hk; omega
  · rcases hk with hk | hk
    · exact ⟨.inl (.inl hk), Nat.lt_of_lt_of_le (t1.2.1 k hk) hm.2.1.1⟩
    · exact ⟨(hm.2.2 k hk).1.elim (fun h => .inl (.inr h)) .inr, (hm.2.2 k hk).2⟩
theorem RL.to_ {okB : Nat → Prop} (t : RL H w okB h s) (hto : RefTo w w' H okB h s') : ∃ ok', RL H w' ok' h s' ∧ Moves H w w' okB ok' := by
  obtain ⟨h1, h2, ok', h3, h4⟩ := hto
  exact ⟨ok', ⟨h4, fun k hk => (h3 k hk).2, Nat.le_trans t.2.2 h2.1⟩, h1, h2, h3⟩
theorem DL.to2 (t : DL H w okA g s) (hto : DiskTo w w' H okA g s') : ∃ ok', DL H w' ok' g s' ∧ Moves H w w' okA ok' := by
  obtain ⟨ok', hd, hb, hk, hss⟩ := t.to_ hto
  exact ⟨ok', hd, hb, hk, hss⟩
theorem Moves.trans {U U' U'' : Nat → Prop} {w1 w2 : World} (m1 : Moves H w w1 U U') (m2 : Moves H w1 w2 U' U'') : Moves H w w2 U U'' :=
  ⟨m1.1.trans m2.1, m1.2.1.then_ m2.2.1 (fun k hk => (m1.2.2 k hk).1), fun k hk => ⟨by
    rcases (m2.2.2 k hk).1 with h1 | h1
    · exact (m1.2.2 k h1).1
    · exact .inr (Nat.le_trans m1.2.1.1 h1), (m2.2.2 k hk).2⟩⟩
theorem Moves.below {U U' : Nat → Prop} {w1 w2 : World} (m1 : Moves H w w1 U U') (hH : H ≤ w1.heap.size) (hb : Below w1.heap.size w1 w2) : Moves H w w2 U U' :=
  ⟨m1.1.trans (hb.mono hH), m1.2.1.below hb, fun k hk => ⟨(m1.2.2 k hk).1, Nat.lt_of_lt_of_le (m1.2.2 k hk).2 hb.size⟩⟩
theorem Moves.of_below {U : Nat → Prop} {w1 : World} (hH : H ≤ w.heap.size) (hU : ∀ k, U k → k < w.heap.size) (hb : Below w.heap.size w w1) : Moves H w w1 U U :=
  ⟨hb.mono hH, Kept.of_below hb _, fun k hk => ⟨.inl hk, Nat.lt_of_lt_of_le (hU k hk) hb.size⟩⟩
theorem Pair.lt (t : Pair H w okA okB g h s) : ∀ k, okU okA okB k → k < w.heap.size := fun k hk => hk.elim (t.1.2.1 k) (t.2.1.2.1 k)
theorem Half.lt {sa : DS} (t : Half H w okA okB g h sa sb) : ∀ k, okU okA okB k → k < w.heap.size := fun k hk => hk.elim (t.1.2.1 k) (t.2.1.2.1 k)
theorem fresh_row {U : Nat → Prop} (hH : H ≤ w.heap.size) (hU : ∀ k, U k → k < w.heap.size) {α : Type} {d : Kd α} {e : Nat} {okr : Nat → Prop} {v : Value} {xs : List α} (hr : d.R e w' w.heap.size okr v xs) : d.R e w' H (fun k => ¬ U k) v xs :=
  Kd.R_mono (Kd.R_bound (Kd.R_lower (Kd.R_mono (Kd.R_bound hr) (ok' := fun k => ¬ U k) (fun k hk q => by have := hU k q; omega)) hH)) (fun k hk => hk.1)
theorem Half.far {sa : DS} (t : Half H w okA okB g h sa sb) {b : Nat} (hb : ¬ okU okA okB b) (hm : ∀ k, k ≠ b → w'.heap[k]? = w.heap[k]?) (hs : w'.heap.size = w.heap.size) : Half H w' okA okB g h sa sb :=
  ⟨⟨t.1.1.move (fun k hk _ => hm k (fun e => hb (.inl (by rw [e] at hk; exact hk)))), fun k hk => by rw [hs]; exact t.1.2.1 k hk, by rw [hs]; exact t.1.2.2⟩, ⟨t.2.1.1.move (fun k hk _ => hm k (fun e => hb (.inr (by rw [e] at hk; exact hk)))), fun k hk => by rw [hs]; exact t.2.1.2.1 k hk, by rw [hs]; exact t.2.1.2.2⟩, t.2.2⟩
end
/-! ### the calls, told alike -/
theorem PWrite_a (H : Nat) (w : World) (ok : Nat → Prop) (g : Nat) (s : DS) (at_ : Int) (A : Option Addr) (c : Nat) (b : List Int) (h : DL H w ok g s) (hw : s.waits.length ≤ 1000000) (hb : ∀ W', Kept w W' ok → Kd.C (Kd.int .u8) W' A b.length b) (hc : b.length ≤ c) :
    Calls Try.prog 11 #[.pointer (some ⟨g, 0, none⟩), .int .i64 at_, .slice A b.length c] w fun e w' => e = .returned (.int .i64 (writeF s at_ b).1) ∧ ∃ ok', DL H w' ok' g (writeF s at_ b).2 ∧ Moves H w w' ok ok' :=
  (Write_calls w H ok g s h.1 h.2.2 hw at_ A c b hb hc).mono fun e w' ⟨he, hto⟩ => ⟨he, h.to2 hto⟩
theorem PWrite_b (H : Nat) (w : World) (ok : Nat → Prop) (g : Nat) (s : DS) (at_ : Int) (A : Option Addr) (c : Nat) (b : List Int) (h : RL H w ok g s) (hw : s.waits.length ≤ 1000000) (hb : ∀ W', Kept w W' ok → Kd.C (Kd.int .u8) W' A b.length b) (hc : b.length ≤ c) :
    Calls Try.prog 44 #[.pointer (some ⟨g, 0, none⟩), .int .i64 at_, .slice A b.length c] w fun e w' => e = .returned (.int .i64 (writeF s at_ b).1) ∧ ∃ ok', RL H w' ok' g (writeF s at_ b).2 ∧ Moves H w w' ok ok' :=
  (RWrite_calls w H ok g s h.1 h.2.2 hw at_ A c b hb hc).mono fun e w' ⟨he, hto⟩ => ⟨he, h.to_ hto⟩
theorem PRead_b (H : Nat) (w : World) (ok : Nat → Prop) (g : Nat) (s : DS) (at_ : Int) (h : RL H w ok g s) (hw : s.waits.length ≤ 1000000) : Calls Try.prog 41 #[.pointer (some ⟨g, 0, none⟩), .int .i64 at_] w (RReadPost s at_ w) := RRead_calls w H ok g s h.1 hw at_
theorem readF_len {s : DS} (hG : Good s) (at_ : Int) : (readF s at_).length ≤ 64 := by
  unfold readF
  split
  · simp
  · rename_i h
    have ht : thereE s at_ = 0 := Decidable.not_not.1 h
    obtain ⟨-, h0, h1⟩ := there_ok ht
    rw [curS_len (secOf_len hG.2.2.1 (by omega)) (fun p hp => (hG.2.2.2 p hp).2.2)]
    exact Nat.le_refl _
theorem DL.good {H : Nat} {w : World} {ok : Nat → Prop} {g : Nat} {s : DS} (h : DL H w ok g s) : Good s := by
  obtain ⟨⟨gs, m, vw, pp, h1, h2, h3, h4, h5, o, b, hG⟩, _⟩ := h
  exact hG
theorem kept_of {H : Nat} {w w' : World} {U U' : Nat → Prop} (m : Moves H w w' U U') : Kept w w' U := m.2.1
theorem Half.hsize {H : Nat} {w : World} {okA okB : Nat → Prop} {g h : Nat} {sa sb : DS} (t : Half H w okA okB g h sa sb) : H ≤ w.heap.size := t.1.2.2
theorem Half.b {H : Nat} {w : World} {okA okB : Nat → Prop} {g h : Nat} {sa sb : DS} (t : Half H w okA okB g h sa sb) : RL H w okB h sb := t.2.1
theorem Half.a {H : Nat} {w : World} {okA okB : Nat → Prop} {g h : Nat} {sa sb : DS} (t : Half H w okA okB g h sa sb) : DL H w okA g sa := t.1
theorem row_mv {H B : Nat} {W W1 : World} {ok ok' : Nat → Prop} {α : Type} {d : Kd α} {e : Nat} {v : Value} {xs : List α} (hr : d.R e W B (fun k => ¬ ok k) v xs) (hm : Moves H W W1 ok ok') : d.R e W1 B (fun k => ¬ ok' k) v xs := row_to hr hm.2.1 hm.2.2
theorem row_put {B : Nat} {w : World} {U : Nat → Prop} {e : Nat} {g n cap : Nat} {xs : List Int} (hr : Kd.R (Kd.int .u8) e w B (fun k => ¬ U k) (.slice (some ⟨g, 0, none⟩) n cap) xs) : ¬ U g ∧ B ≤ g ∧ g < w.heap.size := ⟨hr.1 g rfl, Kd.R_base hr g rfl, Kd.R_lt hr g rfl⟩
theorem Moves.put {H : Nat} {w w1 : World} {U U' : Nat → Prop} (m : Moves H w w1 U U') {g : Nat} (hg : w.heap.size ≤ g) (hH : H ≤ w.heap.size) (j : Nat) (v : Value) : Moves H w (w1.setCell ⟨g, j, none⟩ v) U U' := by
  have hs : (w1.setCell ⟨g, j, none⟩ v).heap.size = w1.heap.size := by simp [World.setCell]
  refine ⟨m.1.setCell (show H ≤ g from Nat.le_trans hH hg) v, ⟨by rw [hs]; exact m.2.1.1, fun k hk hu => ?_⟩, fun k hk => ⟨(m.2.2 k hk).1, by rw [hs]; exact (m.2.2 k hk).2⟩⟩
  rw [Below.heap_setCell w1 ⟨g, j, none⟩ v k (by show k ≠ g; omega)]
  exact m.2.1.2 k hk hu
theorem Pair.put {H : Nat} {w : World} {okA okB : Nat → Prop} {g h : Nat} {s : DS} (t : Pair H w okA okB g h s) {b : Nat} (hb : ¬ okU okA okB b) (j : Nat) (v : Value) : Pair H (w.setCell ⟨b, j, none⟩ v) okA okB g h s :=
  Half.far t hb (fun k hk => Below.heap_setCell w ⟨b, j, none⟩ v k hk) (by simp [World.setCell])
theorem Pair.hsize {H : Nat} {w : World} {okA okB : Nat → Prop} {g h : Nat} {s : DS} (t : Pair H w okA okB g h s) : H ≤ w.heap.size := t.1.2.2
theorem moved_not {H : Nat} {w w' : World} {U U' : Nat → Prop} (m : Moves H w w' U U') {b : Nat} (hb : ¬ U b) (hl : b < w.heap.size) : ¬ U' b := fun q => ((m.2.2 b q).1).elim hb (fun h => by omega)
/-- a law's struct of both -/
def bcells (g h : Nat) : Array Value := #[.pointer (some ⟨g, 0, none⟩), .pointer (some ⟨h, 0, none⟩)]
def PPost (H : Nat) (w : World) (okA okB : Nat → Prop) (g h : Nat) (s' : DS) (e : Ending) (w' : World) : Prop :=
  e = .returned (.bool true) ∧ ∃ okA' okB', Pair H w' okA' okB' g h s' ∧ Moves H w w' (okU okA okB) (okU okA' okB')
set_option maxHeartbeats 8000000 in
set_option maxRecDepth 100000 in
theorem bwrite_calls (H : Nat) (w : World) (okA okB : Nat → Prop) (g h : Nat) (s : DS) (t : Pair H w okA okB g h s) (hw : s.waits.length ≤ 1000000) (at_ : Int) (A : Option Addr) (c : Nat) (b : List Int) (hb : ∀ W', Kept w W' (okU okA okB) → Kd.C (Kd.int .u8) W' A b.length b) (hc : b.length ≤ c) (hl : b.length < 140737488355328) :
    Calls Try.prog 36 #[.agg (bcells g h), .int .i64 at_, .slice A b.length c] w (PPost H w okA okB g h (writeF s at_ b).2) := by
  have HT := Aside0.mk t
  have HWH := Aside0.mk t.hsize
  have HW := Aside0.mk hw
  have HB := Aside0.mk hb
  have HC := Aside0.mk hc
  have HCE := Aside0.mk (copy_eq b hl)
  have hmx : b.length ≤ 9223372036854775807 := by omega
  have HL := Aside0.mk hl
  clear t hw hb hc hl
  unfold bcells
  go_enter Try.func36, Try.ntmps36
  go_wp2_with fail
  obtain ⟨W1, hW1⟩ : ∃ W1 : World, W1 = w.alloc (.cells #[.pointer (some ⟨g, 0, none⟩), .pointer (some ⟨h, 0, none⟩)] 55) := ⟨_, rfl⟩
  obtain ⟨b3, hb3⟩ : ∃ b3, b3 = w.heap.size := ⟨_, rfl⟩
  have hbel1 : Below w.heap.size w W1 := by rw [hW1]; exact below_alloc (Below.refl _ _) _
  have P3 := Aside0.mk (show HoldsRow W1 b3 55 (bcells g h) by rw [hW1, hb3]; exact HoldsRow.new w _ _)
  have N3 := Aside0.mk (show ¬ okU okA okB b3 from fun q => by have := HT.out.lt _ q; omega)
  have T1 := Aside0.mk (HT.out.below hbel1)
  have M1 := Aside0.mk (Moves.of_below HT.out.1.2.2 HT.out.lt hbel1)
  have B1 := Aside0.mk (hbel1.size)
  rw [← hW1, ← hb3]
  clear hW1 hb3 hbel1
  have HBK1 := Aside0.mk (HB.out W1 (kept_of M1.out))
  ((with_reducible refine (encoreref00_CopyBytes.calls A c b b W1 HBK1.out HC.out HCE.out).mono ?_))
  rintro e w2 ⟨v2, rfl, hr2, hb2⟩
  obtain ⟨A2, c2, rfl⟩ := Kd.R_slice hr2
  have R2 := Aside0.mk (fresh_row (H := w.heap.size) B1.out T1.out.lt hr2)
  have T2 := Aside0.mk (T1.out.below hb2)
  have P2 := Aside0.mk (P3.out.below hb2 P3.out.lt)
  have M2 := Aside0.mk (M1.out.below T1.out.hsize hb2)
  clear hr2 hb2 P3 T1 M1 HBK1 B1
  go_wp2_with fail
  obtain ⟨rv, hrv⟩ : ∃ rv, rv = (writeF s at_ b).1 := ⟨_, rfl⟩
  obtain ⟨s', hs'⟩ : ∃ s', s' = (writeF s at_ b).2 := ⟨_, rfl⟩
  have T2d := Aside0.mk (T2.out.below (below_drew (Below.refl _ w2)))
  have R2d := Aside0.mk (Kd.R_drew R2.out)
  have M2d := Aside0.mk (M2.out.below T2.out.hsize (below_drew (Below.refl _ w2)))
  have P2d := Aside0.mk (show HoldsRow w2.drew b3 55 (bcells g h) from P2.out)
  have K0 := P2d.out.cell (j := 0) rfl
  have K1 := P2d.out.cell (j := 1) rfl
  have HRB := Aside0.mk (fun W' hk => row_reads (row_A R2d.out) W' hk)
  have HC2 := Aside0.mk (Kd.R_reads' R2.out).2.1
  have HEQ := Aside0.mk (eq_same b (by have := HL.out; omega) (b.length + 1) (by omega))
  have dn : decide (rv = rv) = true := decide_eq_true rfl
  have dn2 : (!decide (rv = rv)) = false := by rw [dn]; rfl
  clear R2 T2 P2 M2
  refine start_ (n := 17) (S := fun w' => w'.cell? ⟨b3, 0, none⟩ = some (.pointer (some ⟨g, 0, none⟩)) ∧ w'.cell? ⟨b3, 1, none⟩ = some (.pointer (some ⟨h, 0, none⟩))) (ds := []) #[false, false, false, false, false, false, false, false, false, false, false, false, false, false, false, false, false] (by kernel_rfl) rfl rfl ⟨K0, K1⟩ (fun hHeld => ?_)
  refine pure_ (i := 0) (N := some 11) (v := ?_) (a' := ?_) #[true, false, false, false, false, false, false, false, false, false, false, false, false, false, false, false, false] rfl rfl (by kernel_rfl) (fun _ _ _ h => h) (Or.inl ⟨by rfl, ?_⟩) ?_ ?_
  rotate_left
  · intro w'
    go_simp
    with_reducible rfl
  rotate_left
  · simp only [Act.put, List.setIfInBounds_toArray, List.set_cons_zero, List.set_cons_succ, i64_w, i32_w]
    rfl
  refine pure_ (i := 2) (N := some 13) (v := ?_) (a' := ?_) #[true, false, true, false, false, false, false, false, false, false, false, false, false, false, false, false, false] rfl rfl (by kernel_rfl) (fun _ _ _ h => h) (Or.inl ⟨by rfl, ?_⟩) ?_ ?_
  rotate_left
  · intro w'
    go_simp
    with_reducible rfl
  rotate_left
  · simp only [Act.put, List.setIfInBounds_toArray, List.set_cons_zero, List.set_cons_succ, i64_w, i32_w]
    rfl
  refine pure_ (i := 3) (N := some 14) (v := ?_) (a' := ?_) #[true, false, true, true, false, false, false, false, false, false, false, false, false, false, false, false, false] rfl rfl (by kernel_rfl) (fun _ _ _ h => h) (Or.inl ⟨by rfl, ?_⟩) ?_ ?_
  rotate_left
  · intro w'
    go_simp
    with_reducible rfl
  rotate_left
  · simp only [Act.put, List.setIfInBounds_toArray, List.set_cons_zero, List.set_cons_succ, i64_w, i32_w]
    rfl
  refine pure_ (i := 5) (N := some 16) (v := ?_) (a' := ?_) #[true, false, true, true, false, true, false, false, false, false, false, false, false, false, false, false, false] rfl rfl (by kernel_rfl) (fun _ _ _ h => h) (Or.inl ⟨by rfl, ?_⟩) ?_ ?_
  rotate_left
  · intro w'
    go_simp
    with_reducible rfl
  rotate_left
  · simp only [Act.put, List.setIfInBounds_toArray, List.set_cons_zero, List.set_cons_succ, i64_w, i32_w]
    rfl
  refine pure_ (i := 7) (N := some 18) (v := ?_) (a' := ?_) #[true, false, true, true, false, true, false, true, false, false, false, false, false, false, false, false, false] rfl rfl (by kernel_rfl) (fun _ _ _ h => h) (Or.inl ⟨by rfl, ?_⟩) ?_ ?_
  rotate_left
  · intro w'
    go_simp
    with_reducible rfl
  rotate_left
  · simp only [Act.put, List.setIfInBounds_toArray, List.set_cons_zero, List.set_cons_succ, i64_w, i32_w]
    rfl
  refine pure_ (i := 8) (N := some 19) (v := ?_) (a' := ?_) #[true, false, true, true, false, true, false, true, true, false, false, false, false, false, false, false, false] rfl rfl (by kernel_rfl) (fun _ _ _ h => h) (Or.inl ⟨by rfl, ?_⟩) ?_ ?_
  rotate_left
  · intro w'
    go_simp
    with_reducible rfl
  rotate_left
  · simp only [Act.put, List.setIfInBounds_toArray, List.set_cons_zero, List.set_cons_succ, i64_w, i32_w]
    rfl
  refine take_ (i := 1) (N := some 12) (v := ?_) (a' := ?_) #[true, true, true, true, false, true, false, true, true, false, false, false, false, false, false, false, false] rfl rfl (by kernel_rfl) (fun _ _ _ h => h) (Or.inl ⟨by rfl, ?_⟩) hHeld ?_ ?_
  rotate_left
  · rintro w' ⟨s0, s1⟩
    go_simp
    with_reducible rfl
  rotate_left
  · simp only [Act.put, List.setIfInBounds_toArray, List.set_cons_zero, List.set_cons_succ, i64_w, i32_w]
    rfl
  refine take_ (i := 6) (N := some 17) (v := ?_) (a' := ?_) #[true, true, true, true, false, true, true, true, true, false, false, false, false, false, false, false, false] rfl rfl (by kernel_rfl) (fun _ _ _ h => h) (Or.inl ⟨by rfl, ?_⟩) hHeld ?_ ?_
  rotate_left
  · rintro w' ⟨s0, s1⟩
    go_simp
    with_reducible rfl
  rotate_left
  · simp only [Act.put, List.setIfInBounds_toArray, List.set_cons_zero, List.set_cons_succ, i64_w, i32_w]
    rfl
  refine one_ (i := 4) (N := some 15) #[true, true, true, true, true, true, true, true, true, false, false, false, false, false, false, false, false] rfl rfl (by kernel_rfl) (by decide) (fun K hK => ?_)
  refine goes_ Try.func11 (by kernel_rfl) rfl #[.pointer (some ⟨g, 0, none⟩), .int .i64 at_, .slice A2 b.length c2] (by rfl) rfl rfl (by simp only [List.map_toArray, List.map_cons, List.map_nil]; rfl) ?_
  with_reducible refine (PWrite_a H w2.drew okA g s at_ A2 c2 b (Pair.a T2d.out) HW.out HRB.out HC2.out).mono ?_
  rintro e w3 ⟨rfl, okA', hd, hm⟩
  refine ⟨_, rfl, ?_⟩
  rw [← hrv]
  rw [← hs'] at hd
  obtain ⟨ht, hm3⟩ := (Pair.half T2d.out).moveA hd hm
  have T3 := Aside0.mk ht
  have M3 := Aside0.mk (Moves.trans M2d.out hm3)
  have R3 := Aside0.mk (row_mv R2d.out hm3)
  have P3 := Aside0.mk (hr_move P2d.out (hm3.2.1.2 b3 P2d.out.lt N3.out))
  have N3' := Aside0.mk (moved_not hm3 N3.out P2d.out.lt)
  have Q0 := P3.out.cell (j := 0) rfl
  have Q1 := P3.out.cell (j := 1) rfl
  have HBB := Aside0.mk (fun W' hk => HB.out W' ((kept_of M3.out).then_ hk (fun k hk => .inl (.inr hk))))
  clear ht hm3 hd hm
  refine hK.out _ _ ⟨Q0, Q1⟩ (fun hHeld => ?_)
  clear hK K
  refine norm_ (a' := ?_) ?_ ?_
  rotate_left
  · show Act.put _ (some 15) _ = _
    simp only [Act.put, List.setIfInBounds_toArray, List.set_cons_zero, List.set_cons_succ, i64_w, i32_w]
    rfl
  refine one_ (i := 9) (N := some 20) #[true, true, true, true, true, true, true, true, true, true, false, false, false, false, false, false, false] rfl rfl (by kernel_rfl) (by decide) (fun K hK => ?_)
  refine goes_ Try.func44 (by kernel_rfl) rfl #[.pointer (some ⟨h, 0, none⟩), .int .i64 at_, .slice A b.length c] (by rfl) rfl rfl (by simp only [List.map_toArray, List.map_cons, List.map_nil]; rfl) ?_
  with_reducible refine (PWrite_b H w3 okB h s at_ A c b (Half.b T3.out) HW.out HBB.out HC.out).mono ?_
  rintro e w4 ⟨rfl, okB', hd, hm⟩
  refine ⟨_, rfl, ?_⟩
  rw [← hrv]
  rw [← hs'] at hd
  obtain ⟨ht, hm4⟩ := T3.out.moveB hd hm
  have T4 := Aside0.mk (Half.pair ht)
  have M4 := Aside0.mk (Moves.trans M3.out hm4)
  have R4 := Aside0.mk (row_mv R3.out hm4)
  have P4 := Aside0.mk (hr_move P3.out (hm4.2.1.2 b3 P3.out.lt N3'.out))
  have N4 := Aside0.mk (moved_not hm4 N3'.out P3.out.lt)
  have HK4 := Aside0.mk (HB.out w4 (kept_of M4.out))
  have Q2 := P4.out.cell (j := 0) rfl
  have Q3 := P4.out.cell (j := 1) rfl
  have HR4 := Aside0.mk (Kd.R_reads' R4.out).2.2
  clear ht hm4 hd hm
  refine hK.out _ _ ⟨Q2, Q3⟩ (fun hHeld => ?_)
  clear hK K
  refine norm_ (a' := ?_) ?_ ?_
  rotate_left
  · show Act.put _ (some 20) _ = _
    simp only [Act.put, List.setIfInBounds_toArray, List.set_cons_zero, List.set_cons_succ, i64_w, i32_w]
    rfl
  refine pure_ (i := 10) (N := some 21) (v := ?_) (a' := ?_) #[true, true, true, true, true, true, true, true, true, true, true, false, false, false, false, false, false] rfl rfl (by kernel_rfl) (fun _ _ _ h => h) (Or.inl ⟨by rfl, ?_⟩) ?_ ?_
  rotate_left
  · intro w'
    go_simp
    with_reducible rfl
  rotate_left
  · simp only [Act.put, List.setIfInBounds_toArray, List.set_cons_zero, List.set_cons_succ, i64_w, i32_w]
    rfl
  refine pure_ (i := 11) (N := some 22) (v := ?_) (a' := ?_) #[true, true, true, true, true, true, true, true, true, true, true, true, false, false, false, false, false] rfl rfl (by kernel_rfl) (fun _ _ _ h => h) (Or.inl ⟨by rfl, ?_⟩) ?_ ?_
  rotate_left
  · intro w'
    go_simp
    with_reducible rfl
  rotate_left
  · simp only [Act.put, List.setIfInBounds_toArray, List.set_cons_zero, List.set_cons_succ, i64_w, i32_w]
    rfl
  refine pure_ (i := 12) (N := some 23) (v := ?_) (a' := ?_) #[true, true, true, true, true, true, true, true, true, true, true, true, true, false, false, false, false] rfl rfl (by kernel_rfl) (fun _ _ _ h => h) (Or.inl ⟨by rfl, ?_⟩) ?_ ?_
  rotate_left
  · intro w'
    go_simp
    with_reducible rfl
  rotate_left
  · simp only [Act.put, List.setIfInBounds_toArray, List.set_cons_zero, List.set_cons_succ, i64_w, i32_w]
    rfl
  refine pure_ (i := 13) (N := some 24) (v := ?_) (a' := ?_) #[true, true, true, true, true, true, true, true, true, true, true, true, true, true, false, false, false] rfl rfl (by kernel_rfl) (fun _ _ _ h => h) (Or.inl ⟨by rfl, ?_⟩) ?_ ?_
  rotate_left
  · intro w'
    go_simp
    with_reducible rfl
  rotate_left
  · simp only [Act.put, List.setIfInBounds_toArray, List.set_cons_zero, List.set_cons_succ, i64_w, i32_w]
    rfl
  refine one_ (i := 14) (N := some 25) #[true, true, true, true, true, true, true, true, true, true, true, true, true, true, true, false, false] rfl rfl (by kernel_rfl) (by decide) (fun K hK => ?_)
  refine goes_ Try.func35 (by kernel_rfl) rfl #[.slice A2 b.length c2, .slice A b.length c] (by rfl) rfl rfl (by simp only [List.map_toArray, List.map_cons, List.map_nil]; rfl) ?_
  with_reducible refine (encoreref00_EqBytes.calls (b.length + 1) A2 c2 b A c b true w4 HR4.out HC2.out HK4.out HC.out HEQ.out).mono ?_
  rintro e w5 ⟨rfl, hd⟩
  refine ⟨_, rfl, ?_⟩
  have T5 := Aside0.mk (T4.out.below hd.below)
  have M5 := Aside0.mk (M4.out.below T4.out.hsize hd.below)
  have R5 := Aside0.mk (Kd.R_below R4.out hd.below)
  have P5 := Aside0.mk (P4.out.below hd.below P4.out.lt)
  have Q4 := P5.out.cell (j := 0) rfl
  have Q5 := P5.out.cell (j := 1) rfl
  clear hd
  refine hK.out _ _ ⟨Q4, Q5⟩ (fun hHeld => ?_)
  clear hK K
  refine norm_ (a' := ?_) ?_ ?_
  rotate_left
  · show Act.put _ (some 25) _ = _
    simp only [Act.put, List.setIfInBounds_toArray, List.set_cons_zero, List.set_cons_succ, i64_w, i32_w]
    rfl
  refine pure_ (i := 15) (N := some 26) (v := ?_) (a' := ?_) #[true, true, true, true, true, true, true, true, true, true, true, true, true, true, true, true, false] rfl rfl (by kernel_rfl) (fun _ _ _ h => h) (Or.inl ⟨by rfl, ?_⟩) ?_ ?_
  rotate_left
  · intro w'
    go_simp
    with_reducible rfl
  rotate_left
  · simp only [Act.put, List.setIfInBounds_toArray, List.set_cons_zero, List.set_cons_succ, i64_w, i32_w]
    rfl
  refine pure_ (i := 16) (N := some 27) (v := ?_) (a' := ?_) #[true, true, true, true, true, true, true, true, true, true, true, true, true, true, true, true, true] rfl rfl (by kernel_rfl) (fun _ _ _ h => h) (Or.inl ⟨by rfl, ?_⟩) ?_ ?_
  rotate_left
  · intro w'
    go_simp
    with_reducible rfl
  rotate_left
  · simp only [Act.put, List.setIfInBounds_toArray, List.set_cons_zero, List.set_cons_succ, i64_w, i32_w]
    rfl
  refine done_ (by kernel_rfl) ?_
  
  clear T2d R2d M2d P2d T3 M3 R3 P3 N3' T4 M4 R4 P4 HK4 HR4 Q0 Q1 Q2 Q3 Q4 Q5 hHeld HRB HBB HEQ K0 K1 P5
  go_wp2_with fail
  go_loopw [8] (fun i wr => ∃ (j : Nat) (xs : List Int), j ≤ b.length ∧ i = .int .i64 (j : Nat) ∧ xs.length = b.length ∧ Aside0 (Pair H wr okA' okB' g h s') ∧ Aside0 (Kd.R (Kd.int .u8) 5 wr w.heap.size (fun k => ¬ okU okA' okB' k) (.slice A2 b.length c2) xs) ∧ Aside0 (Moves H w wr (okU okA okB) (okU okA' okB'))) (fun i _ => b.length - (intOf i).toNat)
  case atStart => exact ⟨0, b, by omega, rfl, rfl, T5, R5, M5⟩
  case round =>
    clear T5 R5 M5
    obtain ⟨j, xs, hj, rfl, hxl, RT, RR, RM⟩ := hrel
    by_cases hlt : j < b.length
    · obtain ⟨gr, cr, er, -, -, -⟩ := Kd.R_form RR.out (by omega)
      injection er with er1 er2 er3
      subst er1
      clear er2 er3
      have hlt' : (j : Int) < (b.length : Int) := by omega
      have d1 : decide ((j : Int) < (b.length : Int)) = true := decide_eq_true hlt'
      have b0 := eq_true (show (0 : Int) ≤ (j : Int) by omega)
      have b1 := eq_true hlt'
      obtain ⟨K8, F8⟩ := Kd.R_celln 0 RR.out (j : Int) (by omega) hlt'
      rw [Int.toNat_natCast] at K8 F8
      go_wp2_with fail
      have HPUT := Kd.R_putn RR.out (j : Int) (bits .xor .u8 (rdOf 0 xs (j : Int)) 90)
      rw [Int.toNat_natCast] at HPUT
      refine ⟨⟨j + 1, _, by omega, by go_num, ?_, ⟨RT.out.put (row_put RR.out).1 _ _⟩, ⟨HPUT⟩, ⟨RM.out.put (row_put RR.out).2.1 HWH.out _ _⟩⟩, by simp [intOf]; omega⟩
      rw [List.length_set]; exact hxl
    · obtain rfl : j = b.length := by omega
      have d1 : decide (((b.length : Nat) : Int) < (b.length : Int)) = false := decide_eq_false (Int.lt_irrefl _)
      go_wp2_with fail
      go_ret
      exact ⟨rfl, okA', okB', by rw [← hs']; exact RT.out, RM.out⟩
set_option maxHeartbeats 8000000 in
set_option maxRecDepth 100000 in
theorem bread_calls (H : Nat) (w : World) (okA okB : Nat → Prop) (g h : Nat) (s : DS) (t : Pair H w okA okB g h s) (hw : s.waits.length ≤ 1000000) (at_ : Int) :
    Calls Try.prog 25 #[.agg (bcells g h), .int .i64 at_] w (PPost H w okA okB g h s) := by
  have HT := Aside0.mk t
  have HWH := Aside0.mk t.hsize
  have HW := Aside0.mk hw
  have HL := Aside0.mk (readF_len (DL.good t.a) at_)
  obtain ⟨b, hb⟩ : ∃ b, b = readF s at_ := ⟨_, rfl⟩
  have HBE := Aside0.mk hb
  rw [← hb] at HL
  have hl : b.length ≤ 9223372036854775807 := by have := HL.out; omega
  clear t hw hb
  unfold bcells
  go_enter Try.func25, Try.ntmps25
  obtain ⟨W1, hW1⟩ : ∃ W1 : World, W1 = w.alloc (.cells #[.pointer (some ⟨g, 0, none⟩), .pointer (some ⟨h, 0, none⟩)] 55) := ⟨_, rfl⟩
  obtain ⟨b3, hb3⟩ : ∃ b3, b3 = w.heap.size := ⟨_, rfl⟩
  have hbel1 : Below w.heap.size w W1 := by rw [hW1]; exact below_alloc (Below.refl _ _) _
  have P3 := Aside0.mk (show HoldsRow W1 b3 55 (bcells g h) by rw [hW1, hb3]; exact HoldsRow.new w _ _)
  have N3 := Aside0.mk (show ¬ okU okA okB b3 from fun q => by have := HT.out.lt _ q; omega)
  have T1 := Aside0.mk (HT.out.below hbel1)
  have M1 := Aside0.mk (Moves.of_below HT.out.1.2.2 HT.out.lt hbel1)
  have B1 := Aside0.mk (hbel1.size)
  have K0 : (w.alloc (.cells #[.pointer (some ⟨g, 0, none⟩), .pointer (some ⟨h, 0, none⟩)] 55)).cell? ⟨w.heap.size, 0, none⟩ = some (.pointer (some ⟨g, 0, none⟩)) := by
    have := P3.out.cell (j := 0) rfl
    rw [hW1, hb3] at this
    exact this
  go_wp2_with fail
  rw [← hW1, ← hb3]
  clear hW1 hb3 hbel1 K0
  ((with_reducible refine (LRead H W1 okA g s at_ (Pair.a T1.out)).mono ?_))
  rintro e w2 ⟨v2, rfl, hr2, hb2⟩
  rw [← HBE.out] at hr2
  obtain ⟨A2, c2, rfl⟩ := Kd.R_slice hr2
  have R2 := Aside0.mk (fresh_row (H := w.heap.size) B1.out T1.out.lt hr2)
  have T2 := Aside0.mk (T1.out.below hb2)
  have P2 := Aside0.mk (P3.out.below hb2 P3.out.lt)
  have M2 := Aside0.mk (M1.out.below T1.out.hsize hb2)
  have B2 := Aside0.mk (Nat.le_trans B1.out hb2.size)
  clear hr2 hb2 P3 T1 M1 B1
  have K1 := P2.out.cell (j := 1) (v := .pointer (some ⟨h, 0, none⟩)) rfl
  go_wp2_with fail
  ((with_reducible refine (PRead_b H w2 okB h s at_ (Pair.b T2.out) HW.out).mono ?_))
  rintro e w3 ⟨v3, rfl, hr3, hb3⟩
  rw [← HBE.out] at hr3
  obtain ⟨A3, c3, rfl⟩ := Kd.R_slice hr3
  have R3 := Aside0.mk (Kd.R_below R2.out hb3)
  have T3 := Aside0.mk (T2.out.below hb3)
  have M3 := Aside0.mk (M2.out.below T2.out.hsize hb3)
  have HR2 := Aside0.mk (Kd.R_reads' R3.out).2.2
  have HR3 := Aside0.mk (Kd.R_reads' hr3).2.2
  have HC2 := Aside0.mk (Kd.R_reads' R3.out).2.1
  have HC3 := Aside0.mk (Kd.R_reads' hr3).2.1
  have HEQ := Aside0.mk (eq_same b (by have := HL.out; omega) (b.length + 1) (by omega))
  clear hr3 hb3 R2 T2 P2 M2 B2 K1
  go_wp2_with fail
  ((with_reducible refine (encoreref00_EqBytes.calls (b.length + 1) A2 c2 b A3 c3 b true w3 HR2.out HC2.out HR3.out HC3.out HEQ.out).mono ?_))
  rintro e w5 ⟨rfl, hd⟩
  have T5 := Aside0.mk (T3.out.below hd.below)
  have M5 := Aside0.mk (M3.out.below T3.out.hsize hd.below)
  have R5 := Aside0.mk (Kd.R_below R3.out hd.below)
  clear hd T3 M3 R3 HR2 HR3
  go_wp2_with fail
  go_loopw [9] (fun i wr => ∃ (j : Nat) (xs : List Int), j ≤ b.length ∧ i = .int .i64 (j : Nat) ∧ xs.length = b.length ∧ Aside0 (Pair H wr okA okB g h s) ∧ Aside0 (Kd.R (Kd.int .u8) 68 wr w.heap.size (fun k => ¬ okU okA okB k) (.slice A2 b.length c2) xs) ∧ Aside0 (Moves H w wr (okU okA okB) (okU okA okB))) (fun i _ => b.length - (intOf i).toNat)
  case atStart => exact ⟨0, b, by omega, rfl, rfl, T5, R5, M5⟩
  case round =>
    clear T5 R5 M5
    obtain ⟨j, xs, hj, rfl, hxl, RT, RR, RM⟩ := hrel
    by_cases hlt : j < b.length
    · obtain ⟨gr, cr, er, -, -, -⟩ := Kd.R_form RR.out (by omega)
      injection er with er1 er2 er3
      subst er1
      clear er2 er3
      have hlt' : (j : Int) < (b.length : Int) := by omega
      have d1 : decide ((j : Int) < (b.length : Int)) = true := decide_eq_true hlt'
      have b0 := eq_true (show (0 : Int) ≤ (j : Int) by omega)
      have b1 := eq_true hlt'
      obtain ⟨K8, F8⟩ := Kd.R_celln 0 RR.out (j : Int) (by omega) hlt'
      rw [Int.toNat_natCast] at K8 F8
      go_wp2_with fail
      have HPUT := Kd.R_putn RR.out (j : Int) (bits .xor .u8 (rdOf 0 xs (j : Int)) 90)
      rw [Int.toNat_natCast] at HPUT
      refine ⟨⟨j + 1, _, by omega, by go_num, ?_, ⟨RT.out.put (row_put RR.out).1 _ _⟩, ⟨HPUT⟩, ⟨RM.out.put (row_put RR.out).2.1 HWH.out _ _⟩⟩, by simp [intOf]; omega⟩
      rw [List.length_set]; exact hxl
    · obtain rfl : j = b.length := by omega
      have d1 : decide (((b.length : Nat) : Int) < (b.length : Int)) = false := decide_eq_false (Int.lt_irrefl _)
      go_wp2_with fail
      go_ret
      exact ⟨rfl, okA, okB, RT.out, RM.out⟩
end Go.Proofs.Ytkmgbmnjabmhaaa.Ext
