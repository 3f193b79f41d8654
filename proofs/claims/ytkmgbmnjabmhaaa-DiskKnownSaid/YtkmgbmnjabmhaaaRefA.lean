/- The document's disk in memory; New, Dead, Waits, Size, Boot, Fail of it, walked. No condition. -/
import Derived.Test.YtkmgbmnjabmhaaaDPlain
namespace Go.Proofs.Ytkmgbmnjabmhaaa.Ext
open Go Go.RowKit Go.Proofs.YtkmgbmnjabmhaaaW.PrintWords Go.Proofs.YtkmgbmnjabmhaaaW.PrintLast Go.Proofs.YtkmgbmnjabmhaaaW.PrintMore Go.Proofs.Ytkmgbmnjabmhaaa.Base Go.Proofs.Ytkmgbmnjabmhaaa.Arr
set_option linter.unusedVariables false
set_option linter.unusedSimpArgs false

def rcells (gs n : Nat) (vw : Value) (dead fl : Bool) (l b c : Int) : Array Value := #[.slice (some ⟨gs, 0, none⟩) n n, vw, .bool dead, .bool fl, .int .i64 l, .int .u64 b, .int .i64 c]
/-- the document's disk, told as the program's -/
def RefIs (W : World) (base : Nat) (ok : Nat → Prop) (g : Nat) (s : DS) : Prop :=
  ∃ (gs : Nat) (vw : Value) (fl : Bool) (l b c : Int), HoldsRow W g 80 (rcells gs s.n vw s.dead fl l b c) ∧ HoldsRow W gs 67 (rowK .u8 s.stays) ∧ Kd.R wrK 85 W base ok vw s.waits ∧ (s.plan = (if fl = true then some (l, b, c) else none) ∧ l ≤ 9223372036854775807) ∧ (ok g ∧ ok gs) ∧ (base ≤ g ∧ base ≤ gs) ∧ Good s
theorem RefIs.move {W W1 : World} {base : Nat} {ok : Nat → Prop} {g : Nat} {s : DS} (h : RefIs W base ok g s) (hm : ∀ k, ok k → k < W.heap.size → W1.heap[k]? = W.heap[k]?) : RefIs W1 base ok g s := by
  obtain ⟨gs, vw, fl, l, b, c, h1, h2, h4, h5, ⟨o1, o2⟩, hb, hG⟩ := h
  exact ⟨gs, vw, fl, l, b, c, hr_move h1 (hm g o1 h1.lt), hr_move h2 (hm gs o2 h2.lt), Kd.R_step h4 hm, h5, ⟨o1, o2⟩, hb, hG⟩
theorem RefIs.mono {W : World} {base : Nat} {ok ok' : Nat → Prop} {g : Nat} {s : DS} (h : RefIs W base ok g s) (hm : ∀ k, ok k → k < W.heap.size → ok' k) : RefIs W base ok' g s := by
  obtain ⟨gs, vw, fl, l, b, c, h1, h2, h4, h5, ⟨o1, o2⟩, hb, hG⟩ := h
  exact ⟨gs, vw, fl, l, b, c, h1, h2, Kd.R_mono (Kd.R_bound h4) (fun k hk => hm k hk.1 hk.2.2.1), h5, ⟨hm g o1 h1.lt, hm gs o2 h2.lt⟩, hb, hG⟩
theorem RefIs.below {W W1 : World} {base : Nat} {ok : Nat → Prop} {g : Nat} {s : DS} (h : RefIs W base ok g s) (hb : Below W.heap.size W W1) : RefIs W1 base ok g s := h.move (fun k _ hk => hb.block k hk)
def RefTo (w w' : World) (base : Nat) (ok : Nat → Prop) (g : Nat) (s : DS) : Prop :=
  Below base w w' ∧ Kept w w' ok ∧ ∃ ok' : Nat → Prop, (∀ k, ok' k → (ok k ∨ w.heap.size ≤ k) ∧ k < w'.heap.size) ∧ RefIs w' base ok' g s
theorem RefTo.same {w : World} {base : Nat} {ok : Nat → Prop} {g : Nat} {s : DS} (h : RefIs w base ok g s) : RefTo w w base ok g s :=
  ⟨Below.refl _ _, Kept.refl _ _, fun k => ok k ∧ k < w.heap.size, fun k hk => ⟨.inl hk.1, hk.2⟩, h.mono (fun k h1 h2 => ⟨h1, h2⟩)⟩
theorem RefTo.trans {w w1 w2 : World} {base : Nat} {ok ok1 : Nat → Prop} {g : Nat} {s : DS} (hb : Below base w w1) (hk : Kept w w1 ok) (hsub : ∀ k, ok1 k → ok k ∨ w.heap.size ≤ k) (h : RefTo w1 w2 base ok1 g s) : RefTo w w2 base ok g s := by
  obtain ⟨h1, h2, ok2, h3, h4⟩ := h
  refine ⟨hb.trans h1, hk.then_ h2 hsub, ok2, fun k hk2 => ⟨?_, (h3 k hk2).2⟩, h4⟩
  rcases (h3 k hk2).1 with h5 | h5
  · exact hsub k h5
  · exact .inr (Nat.le_trans hk.1 h5)
theorem RefTo.then_ {w w1 w2 : World} {base : Nat} {ok : Nat → Prop} {g : Nat} {s s' : DS} (h : RefTo w w1 base ok g s) (k : ∀ ok1, RefIs w1 base ok1 g s → RefTo w1 w2 base ok1 g s') : RefTo w w2 base ok g s' := by
  obtain ⟨h1, h2, ok1, h3, h4⟩ := h
  exact RefTo.trans h1 h2 (fun k hk => (h3 k hk).1) (k ok1 h4)
theorem wr2_move {W W1 : World} {b base : Nat} {t : TypeId} {cs : Array Value} {ok : Nat → Prop} {v : Value} {xs : List (Int × List Int)} (h : Kd.R wrK 85 W base ok v xs) (hb : HoldsRow W b t cs) (ht : t ≠ 85) (hm : ∀ k, k ≠ b → W1.heap[k]? = W.heap[k]?) : Kd.R wrK 85 W1 base ok v xs := by
  refine Kd.R_mono (Kd.R_move (Kd.R_bound h) (fun k hk => hm k (fun e => ?_))) (fun k hk => hk.1)
  obtain ⟨_, _, _, q, hq, cells, hc⟩ := hk
  have hq' : q = 85 := by simpa [wrK] using hq
  subst e
  have := hb.symm.trans hc
  injection this with e1
  injection e1 with _ e2
  rw [hq'] at e2
  exact ht e2
/-- where the struct's cells are turned, and nothing else -/
theorem ref_struct {w w' : World} {base : Nat} {ok : Nat → Prop} {g gs : Nat} {vw : Value} {fl : Bool} {l b c : Int} {s s' : DS} {dead' fl' : Bool} {l' b' c' : Int} (h1 : HoldsRow w g 80 (rcells gs s.n vw s.dead fl l b c)) (h2 : HoldsRow w gs 67 (rowK .u8 s.stays)) (h4 : Kd.R wrK 85 w base ok vw s.waits) (o : ok g ∧ ok gs) (hb : base ≤ g ∧ base ≤ gs) (hG : Good s)
    (hs : s'.n = s.n ∧ s'.stays = s.stays ∧ s'.waits = s.waits ∧ s'.dead = dead') (hp : s'.plan = (if fl' = true then some (l', b', c') else none) ∧ l' ≤ 9223372036854775807)
    (hf : ∀ k, k ≠ g → w'.heap[k]? = w.heap[k]?) (hsz : w'.heap.size = w.heap.size) (hbel : Below base w w') (hr : HoldsRow w' g 80 (rcells gs s.n vw dead' fl' l' b' c')) : RefTo w w' base ok g s' := by
  obtain ⟨n1, n2, n3, n4⟩ := hs
  refine RefTo.trans hbel ⟨by rw [hsz]; exact Nat.le_refl _, fun k _ hk => hf k (fun e => hk (by rw [e]; exact o.1))⟩ (fun k hk => .inl hk) (RefTo.same ⟨gs, vw, fl', l', b', c', by rw [n1, n4]; exact hr, by rw [n2]; exact hr_move h2 (hf gs (ne_kind h2 h1 (by decide))), by rw [n3]; exact wr2_move h4 h1 (by decide) hf, hp, o, hb, ?_⟩)
  exact ⟨by rw [n1]; exact hG.1, by rw [n1]; exact hG.2.1, by rw [n1, n2]; exact hG.2.2.1, by rw [n1, n3]; exact hG.2.2.2⟩
section
variable (w : World) (base : Nat) (ok : Nat → Prop) (g : Nat) (s : DS) (h : RefIs w base ok g s)
include h
set_option maxHeartbeats 4000000 in
theorem RDead_calls : Calls Try.prog 26 #[.pointer (some ⟨g, 0, none⟩)] w fun e w' => e = .returned (.bool s.dead) ∧ w = w' := by
  obtain ⟨gs, vw, fl, l, b, c, h1, h2, h4, h5, o, hb, hG⟩ := h
  have k2 := h1.cell (j := 2) (v := .bool s.dead) rfl
  clear h1 h2 h4 h5 o hb hG
  go_enter Try.func26, Try.ntmps26
  go_wp2_with fail
  go_ret
  exact ⟨rfl, rfl⟩
set_option maxHeartbeats 4000000 in
theorem RWaits_calls : Calls Try.prog 27 #[.pointer (some ⟨g, 0, none⟩)] w fun e w' => e = .returned (.int .i64 (s.waits.length : Int)) ∧ w = w' := by
  obtain ⟨gs, vw, fl, l, b, c, h1, h2, h4, h5, o, hb, hG⟩ := h
  obtain ⟨A, q, rfl⟩ := Kd.R_slice h4
  have k2 := h1.cell (j := 1) (v := .slice A s.waits.length q) rfl
  clear h1 h2 h4 h5 o hb hG
  go_enter Try.func27, Try.ntmps27
  go_wp2_with fail
  go_ret
  exact ⟨rfl, rfl⟩
set_option maxHeartbeats 4000000 in
theorem RSize_calls : Calls Try.prog 29 #[.pointer (some ⟨g, 0, none⟩)] w fun e w' => e = .returned (.int .i64 (s.n : Int)) ∧ w = w' := by
  obtain ⟨gs, vw, fl, l, b, c, h1, h2, h4, h5, o, hb, hG⟩ := h
  have k2 := h1.cell (j := 0) (v := .slice (some ⟨gs, 0, none⟩) s.n s.n) rfl
  clear h1 h2 h4 h5 o hb hG
  go_enter Try.func29, Try.ntmps29
  go_wp2_with fail
  go_ret
  exact ⟨rfl, rfl⟩
set_option maxHeartbeats 4000000 in
theorem RBoot_calls : Calls Try.prog 40 #[.pointer (some ⟨g, 0, none⟩)] w fun e w' => e = .returned (.int .i64 0) ∧ RefTo w w' base ok g (bootS s) := by
  obtain ⟨gs, vw, fl, l, b, c, h1, h2, h4, h5, o, hb, hG⟩ := h
  have k2 := h1.cell (j := 2) (v := .bool s.dead) rfl
  have k3 := h1.cell (j := 3) (v := .bool fl) rfl
  have z2 := h1.free 2
  have z3 := h1.free 3
  have HF := Aside0.mk (show RefTo w ((w.setCell ⟨g, 2, none⟩ (.bool false)).setCell ⟨g, 3, none⟩ (.bool false)) base ok g (bootS s) from
    ref_struct h1 h2 h4 o hb hG ⟨rfl, rfl, rfl, rfl⟩ ⟨rfl, h5.2⟩ (fun k hk => (Below.heap_setCell _ ⟨g, 3, none⟩ _ k hk).trans (Below.heap_setCell w ⟨g, 2, none⟩ _ k hk)) (by simp [World.setCell]) (((Below.refl base w).setCell (show base ≤ (⟨g, 2, none⟩ : Addr).block from hb.1) _).setCell (show base ≤ (⟨g, 3, none⟩ : Addr).block from hb.1) _) ((h1.set 2 (.bool false)).set 3 (.bool false)))
  clear h1 h2 h4 h5 o hb hG
  go_enter Try.func40, Try.ntmps40
  go_wp2_with fail
  go_ret
  exact ⟨rfl, HF.out⟩
def failF (s : DS) (n bits cut : Int) : Int × DS := if s.dead = true then (30, s) else (0, { s with plan := failP n bits cut })
set_option maxHeartbeats 4000000 in
theorem RFail_calls (n bits cut : Int) (hn : n ≤ 9223372036854775807) : Calls Try.prog 38 #[.pointer (some ⟨g, 0, none⟩), .int .i64 n, .int .u64 bits, .int .i64 cut] w fun e w' => e = .returned (.int .i64 (failF s n bits cut).1) ∧ RefTo w w' base ok g (failF s n bits cut).2 := by
  have HR := Aside0.mk h
  obtain ⟨gs, vw, fl, l, b, c, h1, h2, h4, h5, o, hb, hG⟩ := h
  have k2 := h1.cell (j := 2) (v := .bool s.dead) rfl
  cases hd : s.dead with
  | true =>
    have HE := Aside0.mk (show failF s n bits cut = (30, s) from if_pos hd)
    rw [hd] at k2
    clear h1 h2 h4 h5 o hb hG hd
    go_enter Try.func38, Try.ntmps38
    go_wp2_with fail
    go_ret
    exact ⟨by rw [HE.out] <;> rfl, by rw [HE.out]; exact RefTo.same HR.out⟩
  | false =>
    have HE := Aside0.mk (show failF s n bits cut = (0, { s with plan := failP n bits cut }) from if_neg (by rw [hd]; decide))
    have k3 := h1.cell (j := 3) (v := .bool fl) rfl
    have k4 := h1.cell (j := 4) (v := .int .i64 l) rfl
    have k5 := h1.cell (j := 5) (v := .int .u64 b) rfl
    have k6 := h1.cell (j := 6) (v := .int .i64 c) rfl
    have z3 := h1.free 3
    have z4 := h1.free 4
    have z5 := h1.free 5
    have z6 := h1.free 6
    have HF : ∀ q : Bool, (q = decide (0 ≤ n)) → Aside0 (RefTo w ((((w.setCell ⟨g, 3, none⟩ (.bool q)).setCell ⟨g, 4, none⟩ (.int .i64 n)).setCell ⟨g, 5, none⟩ (.int .u64 bits)).setCell ⟨g, 6, none⟩ (.int .i64 cut)) base ok g { s with plan := failP n bits cut }) := fun q hq => ⟨
      ref_struct (dead' := s.dead) (fl' := q) (l' := n) (b' := bits) (c' := cut) h1 h2 h4 o hb hG ⟨rfl, rfl, rfl, rfl⟩ ⟨by
          show failP n bits cut = _
          unfold failP
          by_cases e : n < 0
          · rw [if_pos e, hq, decide_eq_false (by omega)]; rfl
          · rw [if_neg e, hq, decide_eq_true (by omega)]; rfl, hn⟩
        (fun k hk => ((Below.heap_setCell _ ⟨g, 6, none⟩ _ k hk).trans (Below.heap_setCell _ ⟨g, 5, none⟩ _ k hk)).trans ((Below.heap_setCell _ ⟨g, 4, none⟩ _ k hk).trans (Below.heap_setCell w ⟨g, 3, none⟩ _ k hk))) (by simp [World.setCell])
        (((((Below.refl base w).setCell (show base ≤ (⟨g, 3, none⟩ : Addr).block from hb.1) _).setCell (show base ≤ (⟨g, 4, none⟩ : Addr).block from hb.1) _).setCell (show base ≤ (⟨g, 5, none⟩ : Addr).block from hb.1) _).setCell (show base ≤ (⟨g, 6, none⟩ : Addr).block from hb.1) _) ((((h1.set 3 (.bool q)).set 4 (.int .i64 n)).set 5 (.int .u64 bits)).set 6 (.int .i64 cut))⟩
    rw [hd] at k2
    by_cases hn0 : 0 ≤ n
    · have d0 : decide (0 ≤ n) = true := decide_eq_true hn0
      have HQ := HF true d0.symm
      clear h1 h2 h4 h5 o hb hG hd HF hn0
      go_enter Try.func38, Try.ntmps38
      go_wp2_with fail
      go_ret
      exact ⟨by rw [HE.out] <;> rfl, by rw [HE.out]; exact HQ.out⟩
    · have d0 : decide (0 ≤ n) = false := decide_eq_false hn0
      have HQ := HF false d0.symm
      clear h1 h2 h4 h5 o hb hG hd HF hn0
      go_enter Try.func38, Try.ntmps38
      go_wp2_with fail
      go_ret
      exact ⟨by rw [HE.out] <;> rfl, by rw [HE.out]; exact HQ.out⟩
end
end Go.Proofs.Ytkmgbmnjabmhaaa.Ext
