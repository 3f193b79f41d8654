import Derived.Test.YthnjkmjcacoajaaKJournalLoses33
section
/- A journal beside a row of headers; a fall that keeps nothing. No condition beyond those of the calls. -/
namespace Go.Proofs.Ythnjkmjcacoajaa.Jn
open Go Go.RowKit Go.Proofs.YthnjkmjcacoajaaW.PrintWords Go.Proofs.YthnjkmjcacoajaaW.PrintLast Go.Proofs.YthnjkmjcacoajaaW.PrintMore Go.Proofs.Ythnjkmjcacoajaa.Base Go.Proofs.Ythnjkmjcacoajaa.Arr
open Go.Proofs.Ythnjkmjcacoajaa.Dk (DS DiskIs DiskTo writeF flushF doingF secOf newS goneS crashF)
open Go.Proofs.Ythnjkmjcacoajaa.FrameLink (pk joined joined_nil joined_cons joined_snoc pk_len)
set_option linter.unusedVariables false
set_option linter.unusedSimpArgs false

/-- a slice's header -/
abbrev Hdr := Option Addr × Nat × Nat
def hdr : Kd Hdr := Kd.scalar (fun x => .slice x.1 x.2.1 x.2.2) (fun _ => rfl)
/-- headers of rows that came in -/
def Heads (w : World) (hs : List Hdr) (l : List (List Int)) : Prop := hs.length = l.length ∧ ∀ (j : Nat) (x : Hdr) (p : List Int), hs[j]? = some x → l[j]? = some p → x.2.1 = p.length ∧ p.length ≤ x.2.2 ∧ Kd.C (Kd.int .u8) w x.1 p.length p
theorem Heads.nil (w : World) : Heads w [] [] := ⟨rfl, fun j x p h => by simp at h⟩
theorem C_kept {w W' : World} {A : Option Addr} {n : Nat} {p : List Int} (h : Kd.C (Kd.int .u8) w A n p) (hsz : w.heap.size ≤ W'.heap.size) (hb : ∀ k, k < w.heap.size → W'.heap[k]? = w.heap[k]?) : Kd.C (Kd.int .u8) W' A n p := by
  have h2 : Kd.C (Kd.int .u8) { w with heap := W'.heap } A n p := Kd.C_below h ⟨rfl, rfl, rfl, hsz, hb⟩
  exact h2
theorem Heads.snoc {w : World} {hs : List Hdr} {l : List (List Int)} {A : Option Addr} {c : Nat} {p : List Int} (h : Heads w hs l) (hc : p.length ≤ c) (hp : Kd.C (Kd.int .u8) w A p.length p) : Heads w (hs ++ [(A, p.length, c)]) (l ++ [p]) := by
  refine ⟨by rw [List.length_append, List.length_append, h.1]; rfl, fun j x q hx hq => ?_⟩
  by_cases hj : j < l.length
  · rw [List.getElem?_append_left (by rw [h.1]; exact hj)] at hx
    rw [List.getElem?_append_left hj] at hq
    exact h.2 j x q hx hq
  · rw [List.getElem?_append_right (by rw [h.1]; omega)] at hx
    rw [List.getElem?_append_right (by omega)] at hq
    rw [h.1] at hx
    obtain ⟨z, hz⟩ : ∃ z, z = j - l.length := ⟨_, rfl⟩
    rw [← hz] at hx hq
    cases z with
    | zero =>
      simp at hx hq
      subst hx hq
      exact ⟨rfl, hc, hp⟩
    | succ z => simp at hx
theorem Heads.rows {w W : World} {hs : List Hdr} {l : List (List Int)} {A : Option Addr} (h : Heads w hs l) (hsz : w.heap.size ≤ W.heap.size) (hb : ∀ k, k < w.heap.size → W.heap[k]? = w.heap[k]?) (hC : hdr.C W A hs.length hs) : (Kd.slice 5 (Kd.int .u8)).C W A l.length l := by
  obtain ⟨h1, h2, h3⟩ := hC
  have hlen : hs.length = l.length := h.1
  rw [hlen] at h2 h3
  refine ⟨rfl, h2, fun hn => ?_⟩
  obtain ⟨a, ha, hj⟩ := h3 hn
  refine ⟨a, ha, fun j p hp => ?_⟩
  have hjl := (List.getElem?_eq_some_iff.1 hp).1
  have hx := List.getElem?_eq_getElem (l := hs) (i := j) (hlen ▸ hjl)
  obtain ⟨e1, e2, e3⟩ := h.2 j _ p hx hp
  obtain ⟨cs, f1, f2, f3⟩ := hj j _ hx
  have f2' : cs = [.slice (hs[j]'(hlen ▸ hjl)).1 (hs[j]'(hlen ▸ hjl)).2.1 (hs[j]'(hlen ▸ hjl)).2.2] := f2
  refine ⟨cs, f1, ⟨_, _, by rw [f2', e1], e2, C_kept e3 hsz hb⟩, f3⟩
/-- a disk beside a row of headers -/
def LDV (w0 W : World) (g : Nat) (d : DS) (v : Value) (hs : List Hdr) : Prop := Below w0.heap.size w0 W ∧ ∃ ok : Nat → Prop, DiskIs W w0.heap.size ok g d ∧ (∀ k, ok k → k < W.heap.size) ∧ w0.heap.size ≤ W.heap.size ∧ hdr.R 31 W w0.heap.size (fun k => ¬ ok k) v hs
/-- a journal beside a row of headers -/
def LJV (w0 W : World) (g gj : Nat) (d : DS) (s : JS) (v : Value) (hs : List Hdr) : Prop := Below w0.heap.size w0 W ∧ ∃ ok : Nat → Prop, JD W w0.heap.size ok g gj d s ∧ (∀ k, ok k → k < W.heap.size) ∧ hdr.R 31 W w0.heap.size (fun k => ¬ ok k) v hs
theorem row_kept {W W' : World} {base : Nat} {ok ok' : Nat → Prop} {v : Value} {hs : List Hdr} (h : hdr.R 31 W base (fun k => ¬ ok k) v hs) (hk : Kept W W' ok) (hsub : ∀ k, ok' k → ok k ∨ W.heap.size ≤ k) : hdr.R 31 W' base (fun k => ¬ ok' k) v hs := by
  have h2 := Kd.R_bound h
  have h3 : hdr.R 31 W base (fun k => ¬ ok' k ∧ ¬ ok k ∧ k < W.heap.size) v hs := Kd.R_mono h2 (fun k hk => ⟨fun q => by
    rcases hsub k q with r | r
    · exact hk.1 r
    · have := hk.2.2.1
      omega, hk.1, hk.2.2.1⟩)
  exact Kd.R_mono (Kd.R_step h3 (fun k q hlt => hk.2 k hlt q.2.1)) (fun k q => q.1)
theorem LJV.start {w0 W : World} {g gj : Nat} {d : DS} {s : JS} (h : LJ w0 W g gj d s) : LJV w0 W g gj d s (.slice none 0 0) [] := by
  obtain ⟨h1, ok, h2, h3⟩ := h
  exact ⟨h1, ok, h2, h3, Kd.R_nil _ _ _ _ _⟩
theorem LJV.of {w0 W W' : World} {g gj : Nat} {d' : DS} {s' : JS} {v : Value} {hs : List Hdr} {ok : Nat → Prop} (hb : Below w0.heap.size w0 W) (hr : hdr.R 31 W w0.heap.size (fun k => ¬ ok k) v hs) (h : JTo W W' w0.heap.size ok g gj d' s') : LJV w0 W' g gj d' s' v hs := by
  obtain ⟨h1, h2, ok', h3, h4⟩ := h
  exact ⟨hb.trans h1, ok', h4, fun k hk => (h3 k hk).2, row_kept hr h2 (fun k hk => (h3 k hk).1)⟩
theorem LJV.below {w0 W W' : World} {g gj : Nat} {d : DS} {s : JS} {v : Value} {hs : List Hdr} (h : LJV w0 W g gj d s v hs) (hb : Below W.heap.size W W') : LJV w0 W' g gj d s v hs := by
  obtain ⟨h1, ok, h2, h3, h4⟩ := h
  exact LJV.of h1 h4 ((JTo.start h2).below hb)
theorem LJV.b {w0 W : World} {g gj : Nat} {d : DS} {s : JS} {v : Value} {hs : List Hdr} (h : LJV w0 W g gj d s v hs) : Below w0.heap.size w0 W := h.1
theorem LJV.slice {w0 W : World} {g gj : Nat} {d : DS} {s : JS} {v : Value} {hs : List Hdr} (h : LJV w0 W g gj d s v hs) : ∃ A c, v = .slice A hs.length c := by
  obtain ⟨_, ok, _, _, h4⟩ := h
  exact Kd.R_slice h4
theorem LJV.disk {w0 W : World} {g gj : Nat} {d : DS} {s : JS} {v : Value} {hs : List Hdr} (h : LJV w0 W g gj d s v hs) : LDV w0 W g d v hs := by
  obtain ⟨hb, ok, ⟨okd, okj, h1, _, h2, _, _, h3⟩, _, h4⟩ := h
  exact ⟨hb, okd, h1, fun k hk => (h2 k hk).2, h3, Kd.R_mono h4 (fun k hk q => hk (h2 k q).1)⟩
theorem VAppend {w0 W : World} {g gj : Nat} {d : DS} {s : JS} {v : Value} {hs : List Hdr} (h : LJV w0 W g gj d s v hs) (hk : SOK s) (A : Option Addr) (c : Nat) (b : List Int) (hb : Kd.C (Kd.int .u8) W A b.length b) (hc : b.length ≤ c) (hby : Ext.Bytes b) :
    Calls Try.prog 10 #[.pointer (some ⟨gj, 0, none⟩), .slice A b.length c] W fun e W' => e = .returned (.int .i64 (appendF d.n s b).1) ∧ LJV w0 W' g gj d (appendF d.n s b).2 v hs := by
  obtain ⟨h1, ok, h2, h3, h4⟩ := h
  exact (Append_calls W w0.heap.size ok g gj d s h2 hk A c b hb hc hby).mono fun e W' ⟨he, ht⟩ => ⟨he, LJV.of h1 h4 ht⟩
theorem VSync {w0 W : World} {g gj : Nat} {d : DS} {s : JS} {v : Value} {hs : List Hdr} (h : LJV w0 W g gj d s v hs) (hk : SOK s) (hg : Ext.goodS s.gen s.epoch) (hw : d.waits.length ≤ 500000) :
    Calls Try.prog 11 #[.pointer (some ⟨gj, 0, none⟩)] W fun e W' => e = .returned (.int .i64 (syncF d s).1) ∧ LJV w0 W' g gj (syncF d s).2.1 (syncF d s).2.2 v hs := by
  obtain ⟨h1, ok, h2, h3, h4⟩ := h
  exact (Sync_calls W w0.heap.size ok g gj d s h2 hk hg hw).mono fun e W' ⟨he, ht⟩ => ⟨he, LJV.of h1 h4 ht⟩
/-- the row grows beside the journal -/
theorem LJV.grown {w0 W W' : World} {g gj : Nat} {d : DS} {s : JS} {v v' : Value} {hs hs' : List Hdr} (h : LJV w0 W g gj d s v hs) (hg : W.grownBy W' v.ownBlock) (hb : Below w0.heap.size w0 W') (hsz : W.heap.size ≤ W'.heap.size)
    (hr : hdr.R 31 W' w0.heap.size (fun k => v.ownBlock = some k ∨ W.heap.size ≤ k) v' hs') : LJV w0 W' g gj d s v' hs' := by
  obtain ⟨h1, ok, h2, h3, h4⟩ := h
  obtain ⟨okd, okj, q1, q2, q3, q4, q5, q6⟩ := h2
  have hmv : ∀ k, ok k → k < W.heap.size → W'.heap[k]? = W.heap[k]? := fun k hk hlt => hg.block k hlt (fun e => h4.1 k e.symm hk)
  refine ⟨hb, ok, ⟨okd, okj, q1.move (fun k hk => hmv k (q3 k hk).1), q2.move (fun k hk => hmv k (q4 k hk).1), fun k hk => ⟨(q3 k hk).1, Nat.lt_of_lt_of_le (q3 k hk).2 hsz⟩, fun k hk => ⟨(q4 k hk).1, Nat.lt_of_lt_of_le (q4 k hk).2 hsz⟩, q5, Nat.le_trans q6 hsz⟩, fun k hk => Nat.lt_of_lt_of_le (h3 k hk) hsz, ?_⟩
  refine Kd.R_mono hr (fun k hk q => ?_)
  rcases hk with hk | hk
  · exact h4.1 k hk q
  · have := h3 k q
    omega
theorem LDV.to_ {w0 W W' : World} {g : Nat} {d' : DS} {v : Value} {hs : List Hdr} {ok : Nat → Prop} (hb : Below w0.heap.size w0 W) (hle : w0.heap.size ≤ W.heap.size) (hr : hdr.R 31 W w0.heap.size (fun k => ¬ ok k) v hs) (h : DiskTo W W' w0.heap.size ok g d') : LDV w0 W' g d' v hs := by
  obtain ⟨h1, h2, ok', h3, h4⟩ := h
  exact ⟨hb.trans h1, ok', h4, fun k hk => (h3 k hk).2, Nat.le_trans hle h2.1, row_kept hr h2 (fun k hk => (h3 k hk).1)⟩
theorem LDV.below {w0 W W' : World} {g : Nat} {d : DS} {v : Value} {hs : List Hdr} (h : LDV w0 W g d v hs) (hb : Below W.heap.size W W') : LDV w0 W' g d v hs := by
  obtain ⟨h1, ok, h2, h3, h4, h5⟩ := h
  exact ⟨h1.trans (hb.mono h4), ok, Dk.DiskIs.below h2 hb, fun k hk => Nat.lt_of_lt_of_le (h3 k hk) hb.size, Nat.le_trans h4 hb.size, Kd.R_below h5 hb⟩
theorem VCrash {w0 W : World} {g : Nat} {d : DS} {v : Value} {hs : List Hdr} (h : LDV w0 W g d v hs) (hw : d.waits.length ≤ 1000000) (bits cut : Int) :
    Calls Try.prog 17 #[.pointer (some ⟨g, 0, none⟩), .int .u64 bits, .int .i64 cut] W fun e W' => e = .returned (.int .i64 (crashF d bits cut).1) ∧ LDV w0 W' g (crashF d bits cut).2 v hs := by
  obtain ⟨h1, ok, h2, h3, h4, h5⟩ := h
  exact (Dk.Crash_calls W w0.heap.size ok g d h2 h4 hw bits cut).mono fun e W' ⟨he, ht⟩ => ⟨he, LDV.to_ h1 h4 h5 ht⟩
theorem VBoot {w0 W : World} {g : Nat} {d : DS} {v : Value} {hs : List Hdr} (h : LDV w0 W g d v hs) :
    Calls Try.prog 18 #[.pointer (some ⟨g, 0, none⟩)] W fun e W' => e = .returned (.int .i64 0) ∧ LDV w0 W' g { d with dead := false, plan := none } v hs := by
  obtain ⟨h1, ok, h2, h3, h4, h5⟩ := h
  exact (Dk.Boot_calls W w0.heap.size ok g d h2).mono fun e W' ⟨he, ht⟩ => ⟨he, LDV.to_ h1 h4 h5 ht⟩
theorem LDV.rows {w0 W : World} {g : Nat} {d : DS} {A : Option Addr} {n c : Nat} {hs : List Hdr} {l : List (List Int)} (h : LDV w0 W g d (.slice A n c) hs) (hp : d.plan = none) (hh : Heads w0 hs l) : RowsOut w0 W g d A l := by
  obtain ⟨h1, ok, h2, h3, h4, h5⟩ := h
  obtain ⟨gs, m, vw, pp, q1, q2, q3, q4, q5, ⟨o1, o2, o3⟩, ⟨b1, b2, b3⟩, hG⟩ := h2
  have q5' : Dk.PlanIs W w0.heap.size (fun k => ok k ∧ w0.heap.size ≤ k) pp d.plan := by
    rw [hp] at q5 ⊢
    exact q5
  refine ⟨h1, fun k => ok k ∧ w0.heap.size ≤ k, ⟨gs, m, vw, pp, q1, q2, q3, Kd.R_mono (Kd.R_bound q4) (fun k hk => ⟨hk.1, hk.2.1⟩), q5', ⟨⟨o1, b1⟩, ⟨o2, b2⟩, ⟨o3, b3⟩⟩, ⟨b1, b2, b3⟩, hG⟩, fun k hk => h3 k hk.1, h4, fun W' hk => ?_⟩
  have h6 := row_kept (ok' := fun k => ok k ∧ w0.heap.size ≤ k) (Kd.R_mono h5 (fun k hk (q : ok k ∧ w0.heap.size ≤ k) => hk q.1)) hk (fun k hk => .inl hk)
  exact hh.rows (Nat.le_trans h4 hk.1) (fun k hlt => (hk.2 k (Nat.lt_of_lt_of_le hlt h4) (fun q => by have := q.2; omega)).trans (h1.block k hlt)) (Kd.R_reads' h6).2.2
theorem hdr_own {W : World} {base : Nat} {ok : Nat → Prop} {v : Value} {hs : List Hdr} (h : hdr.R 31 W base ok v hs) (N : Nat) : hdr.R 31 W base (fun k => v.ownBlock = some k ∨ N ≤ k) v hs := ⟨fun k hk => .inl hk, h.2⟩
theorem LJV.row {w0 W : World} {g gj : Nat} {d : DS} {s : JS} {v : Value} {hs : List Hdr} (h : LJV w0 W g gj d s v hs) : hdr.R 31 W w0.heap.size (fun k => v.ownBlock = some k ∨ W.heap.size ≤ k) v hs := by
  obtain ⟨_, ok, _, _, h4⟩ := h
  exact hdr_own h4 _
theorem cut60 {w : World} {A : Option Addr} {x : List Int} {q : Nat} (h : Kd.C (Kd.int .u8) w A x.length x) (hq : (if 60 < x.length then 60 else x.length) = q) : (x.take 60).length = q ∧ Kd.C (Kd.int .u8) w A (x.take 60).length (x.take 60) := by
  by_cases hx : 60 < x.length
  · rw [if_pos hx] at hq
    exact ⟨by rw [List.length_take]; omega, Go.Proofs.YthnjkmjcacoajaaW.PrintWords.Kd.C_take h (by omega)⟩
  · rw [if_neg hx] at hq
    rw [List.take_of_length_le (by omega)]
    exact ⟨hq, h⟩
/-- the journal of the law: i payloads appended, m of them synced -/
structure Lose (P : List (List Int)) (d : DS) (s : JS) (i m : Nat) : Prop where
  inv : JInv d s (P.take i) m
  plan : d.plan = none
  dn : d.n = 200
  ep : s.epoch = 1
  gn : s.gen = 1
  u0 : m = 0 → s.used = 0
  much : 47 * s.used + (s.waits.length : Int) ≤ 73 * (i : Int) + (if m = 0 then 0 else 47)
def Short60 (P : List (List Int)) : Prop := ∀ p ∈ P, Ext.Bytes p ∧ p.length ≤ 60
theorem lose_start (P : List (List Int)) : ∃ d s, openF (newS 200) = (0, d, some (s, [])) ∧ Lose P d s 0 0 := by
  obtain ⟨d, s, a1, a2, a3, a4, a5, a6, a7, a8⟩ := new_open 200 (by decide) (by decide)
  refine ⟨d, s, a1, ⟨?_, a3, a4, a5, a6, fun _ => a7, ?_⟩⟩
  · rw [List.take_zero]; exact a2
  · rw [a7, a8]; decide
theorem Lose.append {P : List (List Int)} {d : DS} {s : JS} {i m : Nat} {p : List Int} (h : Lose P d s i m) (hi : P[i]? = some p) (h20 : i < 20) (hp : Short60 P) : ∃ s', appendF d.n s p = (0, s') ∧ Lose P d s' (i + 1) m := by
  have hpm := List.mem_of_getElem? hi
  have hl := pk_le p (by have := (hp p hpm).2; omega)
  have h2 := (hp p hpm).2
  have hm := h.much
  have hu := h.inv.us
  have hse : secN d.n = 99 := by rw [h.dn]; decide
  have hil := (List.getElem?_eq_some_iff.1 hi).1
  obtain ⟨a1, a2⟩ := (append_inv h.inv (hp p hpm).1 (by omega)).1 (by
    rw [hse]
    unfold cntN
    split at hm <;> omega)
  refine ⟨_, a1, ⟨?_, h.plan, h.dn, h.ep, h.gn, h.u0, ?_⟩⟩
  · have e : P.take (i + 1) = P.take i ++ [p] := by rw [List.take_add_one, hi]; rfl
    rw [e]
    exact a2
  · show 47 * s.used + ((s.waits ++ pk p).length : Int) ≤ 73 * ((i + 1 : Nat) : Int) + _
    rw [List.length_append]
    omega
theorem Lose.sync {P : List (List Int)} {d : DS} {s : JS} {i : Nat} (h : Lose P d s i 0) (hi : i ≤ P.length) : ∃ d' s', syncF d s = (0, d', s') ∧ Lose P d' s' i i := by
  obtain ⟨e1, e2⟩ := sync_fine h.inv h.plan
  obtain ⟨f1, f2, f3, f4⟩ := sync_inv h.inv e1
  obtain ⟨u1, u2⟩ := sync_used d s h.inv.br e1
  have hu0 := h.u0 rfl
  have hw := h.inv.wt
  generalize syncF d s = q at *
  obtain ⟨q0, d2, s3⟩ := q
  simp only at e1 e2 f1 f2 f3 f4 u1 u2
  subst e1
  have hlen : (P.take i).length = i := by rw [List.length_take]; omega
  rw [hlen] at f1
  refine ⟨d2, s3, rfl, ⟨f1, e2, f2.trans h.dn, f3.trans h.ep, f4.trans h.gn, fun hz => ?_, ?_⟩⟩
  · subst hz
    rw [u1, hu0]
    rw [List.take_zero] at hw
    have : s.waits = [] := hw
    rw [this]
    decide
  · have hm := h.much
    rw [u1, u2, hu0]
    rw [hu0] at hm
    simp only [List.length_nil]
    rw [if_pos rfl] at hm
    by_cases hz : i = 0
    · subst hz
      rw [List.take_zero] at hw
      have : s.waits = [] := hw
      rw [this]
      decide
    · rw [if_neg hz]
      unfold cntN
      omega
theorem Lose.fall {P : List (List Int)} {d : DS} {s : JS} {i m : Nat} (h : Lose P d s i m) : crashF d 0 0 = (0, { d with dead := true }) := by
  have hc := h.inv.calm
  unfold crashF goneS
  rw [if_neg (by rw [hc.dead]; decide), hc.waits]
  have e : Dk.keptTo d 0 0 ([] : List (Int × List Int)).length = [] := rfl
  rw [e]
  have e2 : Dk.lay d.stays [] = d.stays := rfl
  rw [e2]
  have hp := h.plan
  have hw := hc.waits
  cases d
  simp only at hp hw
  subst hp hw
  rfl
theorem Lose.rise {P : List (List Int)} {d : DS} {s : JS} {i m : Nat} (h : Lose P d s i m) : ({ ({ d with dead := true } : DS) with dead := false, plan := none } : DS) = d := by
  have hp := h.plan
  have hd := h.inv.calm.dead
  cases d
  simp only at hp hd
  subst hp hd
  rfl
theorem Lose.again {P : List (List Int)} {d : DS} {s : JS} {i m : Nat} (h : Lose P d s i m) (hm : m ≤ i) : ∃ s', openF d = (0, d, some (s', P.take m)) ∧ Pay (P.take m) := by
  obtain ⟨s', a1, a2, _⟩ := again_open h.inv (by rw [h.ep]; decide)
  rw [List.take_take, Nat.min_eq_left hm] at a1 a2
  exact ⟨s', a1, a2.pay⟩
end Go.Proofs.Ythnjkmjcacoajaa.Jn
end

section
/- JournalLoses answers true, walked with the plain law at hand: for all rows and numbers. No condition beyond the row's own. -/
namespace Go.Proofs.Ythnjkmjcacoajaa.Jn
open Go Go.RowKit Go.Proofs.YthnjkmjcacoajaaW.PrintWords Go.Proofs.YthnjkmjcacoajaaW.PrintLast Go.Proofs.YthnjkmjcacoajaaW.PrintMore Go.Proofs.Ythnjkmjcacoajaa.Base Go.Proofs.Ythnjkmjcacoajaa.Arr
open Go.Proofs.Ythnjkmjcacoajaa.Dk (DS DiskIs DiskTo writeF flushF doingF secOf newS goneS crashF)
set_option linter.unusedVariables false
set_option linter.unusedSimpArgs false
attribute [local go_sem] max2_int min2_int max_two min_two max_three min_three max_four min_four

theorem min_facts (n q : Nat) : ∃ m : Nat, (if (q : Int) < (n : Int) then (q : Int) else (n : Int)) = (m : Int) ∧ (if q < n then q else n) = m ∧ m ≤ n ∧ m ≤ q ∧ (m = n ∨ m = q) := by
  by_cases h : q < n
  · exact ⟨q, by rw [if_pos (by omega)], by rw [if_pos h], by omega, Nat.le_refl _, .inr rfl⟩
  · exact ⟨n, by rw [if_neg (by omega)], by rw [if_neg h], Nat.le_refl _, by omega, .inl rfl⟩
/-- the payloads of a law: the first N rows, sixty bytes of each -/
def paysF (l : List (List Int)) (N : Nat) : List (List Int) := (l.take N).map (List.take 60)
theorem paysF_at {l : List (List Int)} {N i : Nat} {x : List Int} (hi : i < N) (hx : l[i]? = some x) : (paysF l N)[i]? = some (x.take 60) := by
  unfold paysF
  rw [List.getElem?_map, List.getElem?_take, if_pos hi, hx]
  rfl
theorem paysF_len {l : List (List Int)} {N : Nat} (h : N ≤ l.length) : (paysF l N).length = N := by
  unfold paysF
  rw [List.length_map, List.length_take]
  omega
theorem paysF_short {l : List (List Int)} {N : Nat} (h : ∀ x ∈ l, Ext.Bytes x) : Short60 (paysF l N) := fun p hp => by
  unfold paysF at hp
  obtain ⟨x, hx, rfl⟩ := List.mem_map.1 hp
  exact ⟨fun y hy => h x (List.mem_of_mem_take hx) y (List.mem_of_mem_take hy), by rw [List.length_take]; omega⟩
/-- how many are wanted behind i rounds -/
def wantN (i k : Nat) : Nat := if i ≤ k then i else k
def synN (i k : Nat) : Nat := if i ≤ k then 0 else k
set_option maxHeartbeats 8000000 in
set_option maxRecDepth 100000 in
theorem loses_calls (A0 : Option Addr) (c0 : Nat) (l0 : List (List Int)) (a1 : Int) (w : World) (hr0 : (Kd.slice 5 (Kd.int .u8)).C w A0 l0.length l0) (hc0 : l0.length ≤ c0) (hm0 : l0.length ≤ 9223372036854775807) (hb0 : ∀ x ∈ l0, Ext.Bytes x) :
    Calls Try.prog 4 #[.slice A0 l0.length c0, .int .i64 a1] w fun e w' => e = .returned (.bool true) ∧ Below w.heap.size w w' := by
  obtain ⟨N, hN1, hN2, hN3, hN4, hN5⟩ := min_facts l0.length 20
  rw [show ((20 : Nat) : Int) = 20 from rfl] at hN1
  obtain ⟨k, hk, hB⟩ := LBring a1 (N + 1) (by omega) (by omega)
  simp only [show ((N + 1 : Nat) : Int) = (N : Int) + 1 by omega] at hB
  obtain ⟨P, hP⟩ : ∃ P, P = paysF l0 N := ⟨_, rfl⟩
  obtain ⟨d0, s0, ho0, hf0⟩ := lose_start P
  obtain ⟨n2, hn2⟩ : ∃ n : Nat, n = 200 := ⟨_, rfl⟩
  have he2 : ((n2 : Nat) : Int) = 200 := by omega
  rw [← hn2] at ho0
  have HPS := Aside0.mk (show Short60 P by rw [hP]; exact paysF_short hb0)
  have HPL := Aside0.mk (show P.length = N by rw [hP]; exact paysF_len hN3)
  have HPA := Aside0.mk (show ∀ i x, i < N → l0[i]? = some x → P[i]? = some (x.take 60) by rw [hP]; exact fun i x h1 h2 => paysF_at h1 h2)
  have HR0 := Aside0.mk hr0
  have HB := Aside0.mk hB
  have HO0 := Aside0.mk ho0
  have HF0 := Aside0.mk hf0
  have HN := Aside0.mk (show N ≤ l0.length ∧ N ≤ 20 ∧ (N = l0.length ∨ N = 20) ∧ k ≤ N by omega)
  have HM := Aside0.mk hm0
  clear hr0 hc0 hm0 hb0 hB ho0 hf0 hk hN3 hN4 hN5 hP
  go_enter Try.func4, Try.ntmps4
  go_wp2_with fail
  have hnew := LNew w n2 (by omega) (by omega)
  rw [he2] at hnew
  refine hnew.mono ?_
  rintro e w1 ⟨g, rfl, hd⟩
  clear hnew
  have L1 := Aside0.mk hd
  clear hd
  go_wp2_with fail
  refine (LOpensT (c := 0) L1.out.none (new_secs n2 (by omega) (by omega)) (show (newS n2).waits.length ≤ 500000 from Nat.zero_le _) ⟨by decide, fun r hr => by cases hr⟩ HO0.out).mono ?_
  rintro e w2 ⟨gj, rfl, hl⟩
  have L2 := Aside0.mk hl
  clear hl L1
  go_wp2_with fail
  refine (HB.out w2).mono ?_
  rintro e w3 ⟨rfl, hd3⟩
  have V3 := Aside0.mk (LJV.start (L2.out.below hd3.below))
  have H3 := Aside0.mk (Heads.nil w)
  clear hd3 L2
  go_wp2_with fail
  go_loopw [10, 11] (fun v10 v11 wr => ∃ (i : Nat) (d : DS) (s : JS) (hs : List Hdr), i ≤ N ∧ v11 = .int .i64 (i : Nat) ∧ Aside0 (Lose P d s i (synN i k)) ∧ Aside0 (Heads w hs (P.take (wantN i k))) ∧ Aside0 (LJV w wr g gj d s v10 hs)) (fun _ i _ => N - (intOf i).toNat)
  case atStart => exact ⟨0, d0, s0, [], by omega, rfl, ⟨by unfold synN; rw [if_pos (by omega)]; exact HF0.out⟩, ⟨by unfold wantN; rw [if_pos (by omega)]; exact Heads.nil w⟩, V3⟩
  case round =>
    obtain ⟨i, d, s, hs, hi, rfl, HL, HH, HV⟩ := hrel
    clear V3 H3 HF0
    by_cases hlt : i < N
    · have hil : i < l0.length := by have := HN.out; omega
      have hi20 : i < 20 := by have := HN.out; omega
      have d1 : decide ((i : Int) < (l0.length : Int)) = true := decide_eq_true (by omega)
      have d2 : decide (i < l0.length) = true := decide_eq_true hil
      have d3 : decide ((i : Int) < 20) = true := decide_eq_true (by omega)
      have d4 : decide (i < 20) = true := decide_eq_true hi20
      have hx := List.getElem?_eq_getElem hil
      obtain ⟨x, hxx⟩ : ∃ x, x = l0[i] := ⟨_, rfl⟩
      rw [← hxx] at hx
      have HX := Aside0.mk hx
      clear hx hxx
      rcases Nat.lt_trichotomy i k with hik | hik | hik
      · have b1 : ((i : Int) == (k : Int)) = false := by simp; omega
        have b2 : (i == k) = false := by simp; omega
        have b3 : decide ((i : Int) < (k : Int)) = true := decide_eq_true (by omega)
        have b4 : decide (i < k) = true := decide_eq_true hik
        have hsy : synN i k = 0 := by unfold synN; rw [if_pos (by omega)]
        rw [hsy] at HL
        obtain ⟨ad, A2, c2, rfl, K0, hc2, hC2⟩ := row_elem (w := w) HR0.out HX.out
        have K1 := pw_cell_below HV.out.b K0
        obtain ⟨q, hq1, hq2, hq3, hq4, -⟩ := min_facts x.length 60
        rw [show ((60 : Nat) : Int) = 60 from rfl] at hq1
        obtain ⟨i0, hi0, -, hsz0, -⟩ := info_parts Go.Proofs.Ythnjkmjcacoajaa.Fr.infoU8
        have hcut := cut_to (P := Try.prog) 31 5 .i64 Try.underlying31 hi0 A2 x.length c2 (q : Int) (by omega) (by omega) hc2
        rw [Int.toNat_natCast] at hcut
        have b5 := eq_true (show (0 : Int) ≤ (i : Int) by omega)
        have b6 := eq_true (show (i : Int) < (l0.length : Int) by omega)
        have h60 := cut60 hC2 hq2
        have HC2 := Aside0.mk h60.2
        have HQ := Aside0.mk h60.1
        have HQC := Aside0.mk (show q ≤ c2 by omega)
        have HPI := Aside0.mk (HPA.out i x hlt HX.out)
        clear hi0 hsz0 hq3 hC2 K0 h60
        generalize x.take 60 = p at *
        go_wp2_with fail
        refine start_ (n := 12) (S := fun w' => w'.cell? (ad.add i) = some (.slice A2 x.length c2)) (ds := []) #[false, false, false, false, false, false, false, false, false, false, false, false] (by kernel_rfl) rfl rfl (K1) (fun hHeld => ?_)
        refine pure_ (i := 0) (N := some 48) (v := ?_) (a' := ?_) #[true, false, false, false, false, false, false, false, false, false, false, false] rfl rfl (by kernel_rfl) (fun _ _ _ h => h) (Or.inl ⟨by rfl, ?_⟩) ?_ ?_
        rotate_left
        · intro w'
          go_simp
          with_reducible rfl
        rotate_left
        · simp only [Act.put, List.setIfInBounds_toArray, List.set_cons_zero, List.set_cons_succ, i64_w, i32_w]
          rfl
        refine pure_ (i := 1) (N := some 49) (v := ?_) (a' := ?_) #[true, true, false, false, false, false, false, false, false, false, false, false] rfl rfl (by kernel_rfl) (fun _ _ _ h => h) (Or.inl ⟨by rfl, ?_⟩) ?_ ?_
        rotate_left
        · intro w'
          go_simp
          with_reducible rfl
        rotate_left
        · simp only [Act.put, List.setIfInBounds_toArray, List.set_cons_zero, List.set_cons_succ, i64_w, i32_w]
          rfl
        refine pure_ (i := 2) (N := some 50) (v := ?_) (a' := ?_) #[true, true, true, false, false, false, false, false, false, false, false, false] rfl rfl (by kernel_rfl) (fun _ _ _ h => h) (Or.inl ⟨by rfl, ?_⟩) ?_ ?_
        rotate_left
        · intro w'
          go_simp
          with_reducible rfl
        rotate_left
        · simp only [Act.put, List.setIfInBounds_toArray, List.set_cons_zero, List.set_cons_succ, i64_w, i32_w]
          rfl
        refine pure_ (i := 4) (N := some 52) (v := ?_) (a' := ?_) #[true, true, true, false, true, false, false, false, false, false, false, false] rfl rfl (by kernel_rfl) (fun _ _ _ h => h) (Or.inl ⟨by rfl, ?_⟩) ?_ ?_
        rotate_left
        · intro w'
          go_simp
          with_reducible rfl
        rotate_left
        · simp only [Act.put, List.setIfInBounds_toArray, List.set_cons_zero, List.set_cons_succ, i64_w, i32_w]
          rfl
        refine pure_ (i := 5) (N := some 53) (v := ?_) (a' := ?_) #[true, true, true, false, true, true, false, false, false, false, false, false] rfl rfl (by kernel_rfl) (fun _ _ _ h => h) (Or.inl ⟨by rfl, ?_⟩) ?_ ?_
        rotate_left
        · intro w'
          go_simp
          with_reducible rfl
        rotate_left
        · simp only [Act.put, List.setIfInBounds_toArray, List.set_cons_zero, List.set_cons_succ, i64_w, i32_w]
          rfl
        refine pure_ (i := 6) (N := some 54) (v := ?_) (a' := ?_) #[true, true, true, false, true, true, true, false, false, false, false, false] rfl rfl (by kernel_rfl) (fun _ _ _ h => h) (Or.inl ⟨by rfl, ?_⟩) ?_ ?_
        rotate_left
        · intro w'
          go_simp
          with_reducible rfl
        rotate_left
        · simp only [Act.put, List.setIfInBounds_toArray, List.set_cons_zero, List.set_cons_succ, i64_w, i32_w]
          rfl
        refine take_ (i := 3) (N := some 51) (v := ?_) (a' := ?_) #[true, true, true, true, true, true, true, false, false, false, false, false] rfl rfl (by kernel_rfl) (fun _ _ _ h => h) (Or.inl ⟨by rfl, ?_⟩) hHeld ?_ ?_
        rotate_left
        · intro w' s0
          go_simp
          with_reducible rfl
        rotate_left
        · simp only [Act.put, List.setIfInBounds_toArray, List.set_cons_zero, List.set_cons_succ, i64_w, i32_w]
          rfl
        refine take_ (i := 7) (N := some 55) (v := ?_) (a' := ?_) #[true, true, true, true, true, true, true, true, false, false, false, false] rfl rfl (by kernel_rfl) (fun _ _ _ h => h) (Or.inl ⟨by rfl, ?_⟩) hHeld ?_ ?_
        rotate_left
        · intro w' s0
          go_simp
          with_reducible rfl
        rotate_left
        · simp only [Act.put, List.setIfInBounds_toArray, List.set_cons_zero, List.set_cons_succ, i64_w, i32_w]
          rfl
        refine pure_ (i := 8) (N := some 56) (v := ?_) (a' := ?_) #[true, true, true, true, true, true, true, true, true, false, false, false] rfl rfl (by kernel_rfl) (fun _ _ _ h => h) (Or.inl ⟨by rfl, ?_⟩) ?_ ?_
        rotate_left
        · intro w'
          go_simp
          with_reducible rfl
        rotate_left
        · simp only [Act.put, List.setIfInBounds_toArray, List.set_cons_zero, List.set_cons_succ, i64_w, i32_w]
          rfl
        refine pure_ (i := 9) (N := some 57) (v := ?_) (a' := ?_) #[true, true, true, true, true, true, true, true, true, true, false, false] rfl rfl (by kernel_rfl) (fun _ _ _ h => h) (Or.inl ⟨by rfl, ?_⟩) ?_ ?_
        rotate_left
        · intro w'
          go_simp
          with_reducible rfl
        rotate_left
        · simp only [Act.put, List.setIfInBounds_toArray, List.set_cons_zero, List.set_cons_succ, i64_w, i32_w]
          rfl
        refine pure_ (i := 10) (N := some 58) (v := ?_) (a' := ?_) #[true, true, true, true, true, true, true, true, true, true, true, false] rfl rfl (by kernel_rfl) (fun _ _ _ h => h) (Or.inl ⟨by rfl, ?_⟩) ?_ ?_
        rotate_left
        · intro w'
          go_simp
          with_reducible rfl
        rotate_left
        · simp only [Act.put, List.setIfInBounds_toArray, List.set_cons_zero, List.set_cons_succ, i64_w, i32_w]
          rfl
        refine pure_ (i := 11) (N := some 12) (v := ?_) (a' := ?_) #[true, true, true, true, true, true, true, true, true, true, true, true] rfl rfl (by kernel_rfl) (fun _ _ _ h => h) (Or.inl ⟨by rfl, ?_⟩) ?_ ?_
        rotate_left
        · intro w'
          go_simp
          with_reducible rfl
        rotate_left
        · simp only [Act.put, List.setIfInBounds_toArray, List.set_cons_zero, List.set_cons_succ, i64_w, i32_w]
          rfl
        refine done_ (by kernel_rfl) ?_
        
        clear hcut hq1 hq2 hHeld K1 b5 b6
        have VD := Aside0.mk (HV.out.below (below_drew (Below.refl _ _)))
        obtain ⟨s', ha, hl'⟩ := HL.out.append HPI.out hi20 HPS.out
        have HL' := Aside0.mk hl'
        have hap := VAppend VD.out (HL.out.inv.sok (by rw [List.length_take]; omega)) A2 c2 p (Kd.C_below HC2.out VD.out.b) (by rw [HQ.out]; exact HQC.out) (HPS.out p (List.mem_of_getElem? HPI.out)).1
        rw [ha, HQ.out] at hap
        have HAP := Aside0.mk hap
        clear hap ha hl'
        go_wp2_with fail
        refine HAP.out.mono ?_
        rintro e w5 ⟨rfl, hv5⟩
        simp only at hv5 ⊢
        have V5 := Aside0.mk hv5
        clear hv5 HAP VD
        have hlen := HH.out.1
        have hw1 : wantN i k = i := by unfold wantN; rw [if_pos (by omega)]
        rw [hw1, List.length_take, HPL.out] at hlen
        have HLN := Aside0.mk (show hs.length ≤ 20 by omega)
        have HH2 := Aside0.mk (show Heads w (hs ++ [(A2, q, c2)]) (P.take (wantN (i + 1) k)) by
          have h := HH.out.snoc (by rw [HQ.out]; exact HQC.out) HC2.out
          have e : wantN (i + 1) k = i + 1 := by unfold wantN; rw [if_pos (by omega)]
          rw [HQ.out, hw1] at h
          rw [e, List.take_add_one, HPI.out]
          exact h)
        have HSY := Aside0.mk (show synN (i + 1) k = 0 by unfold synN; rw [if_pos (by omega)])
        clear hlen hw1
        go_wp2_with (first | (at_builtin; refine Kd.R_append hdr (w0 := w) w.heap.size rfl (.tmp 66) (.tmp 68) 37 31 (.slice none 0 0) 24 rfl Try.underlying37 infoRow rfl (by decide) (by omega) u10 hs (A2, q, c2) [.slice A2 q c2] (fun k => u10.ownBlock = some k ∨ w5.heap.size ≤ k) (fun _ => False) rfl rfl rfl (fun _ h => h.elim) (fun k h => .inr h) V5.out.row V5.out.b V5.out.b.size ?aL ?_; (case aL => have := HLN.out; omega); intro v6 w6 hr6 hb6 hg6 hat6; have V6 := Aside0.mk (V5.out.grown hg6 hb6 hg6.size hr6); clear hr6 hb6 hg6 hat6))
        exact ⟨⟨i + 1, d, s', _, by omega, rfl, ⟨by rw [HSY.out]; exact HL'.out⟩, HH2, V6⟩, by simp [intOf]; omega⟩
      · subst hik
        have b1 : ((i : Int) == (i : Int)) = true := by simp
        have b2 : (i == i) = true := by simp
        have b3 : decide ((i : Int) < (i : Int)) = false := by simp
        have b4 : decide (i < i) = false := by simp
        have hsy : synN i i = 0 := by unfold synN; rw [if_pos (by omega)]
        rw [hsy] at HL
        go_wp2_with fail
        have hap := VSync HV.out (HL.out.inv.sok (by rw [List.length_take]; omega)) HL.out.inv.good HL.out.inv.w0
        obtain ⟨d4, s4, hsf, hl4⟩ := HL.out.sync (by rw [HPL.out]; omega)
        rw [hsf] at hap
        have HL4 := Aside0.mk hl4
        refine hap.mono ?_
        clear hap hsf hl4
        rintro e w4 ⟨rfl, hv4⟩
        simp only at hv4 ⊢
        have V4 := Aside0.mk hv4
        clear hv4 HV HL
        obtain ⟨ad, A2, c2, rfl, K0, hc2, hC2⟩ := row_elem (w := w) HR0.out HX.out
        have K1 := pw_cell_below V4.out.b K0
        obtain ⟨q, hq1, hq2, hq3, hq4, -⟩ := min_facts x.length 60
        rw [show ((60 : Nat) : Int) = 60 from rfl] at hq1
        obtain ⟨i0, hi0, -, hsz0, -⟩ := info_parts Go.Proofs.Ythnjkmjcacoajaa.Fr.infoU8
        have hcut := cut_to (P := Try.prog) 31 5 .i64 Try.underlying31 hi0 A2 x.length c2 (q : Int) (by omega) (by omega) hc2
        rw [Int.toNat_natCast] at hcut
        have b5 := eq_true (show (0 : Int) ≤ (i : Int) by omega)
        have b6 := eq_true (show (i : Int) < (l0.length : Int) by omega)
        have h60 := cut60 hC2 hq2
        have HC2 := Aside0.mk h60.2
        have HQ := Aside0.mk h60.1
        have HQC := Aside0.mk (show q ≤ c2 by omega)
        have HPI := Aside0.mk (HPA.out i x hlt HX.out)
        clear hi0 hsz0 hq3 hC2 K0 h60
        generalize x.take 60 = p at *
        go_wp2_with fail
        refine start_ (n := 12) (S := fun w' => w'.cell? (ad.add i) = some (.slice A2 x.length c2)) (ds := []) #[false, false, false, false, false, false, false, false, false, false, false, false] (by kernel_rfl) rfl rfl (K1) (fun hHeld => ?_)
        refine pure_ (i := 0) (N := some 48) (v := ?_) (a' := ?_) #[true, false, false, false, false, false, false, false, false, false, false, false] rfl rfl (by kernel_rfl) (fun _ _ _ h => h) (Or.inl ⟨by rfl, ?_⟩) ?_ ?_
        rotate_left
        · intro w'
          go_simp
          with_reducible rfl
        rotate_left
        · simp only [Act.put, List.setIfInBounds_toArray, List.set_cons_zero, List.set_cons_succ, i64_w, i32_w]
          rfl
        refine pure_ (i := 1) (N := some 49) (v := ?_) (a' := ?_) #[true, true, false, false, false, false, false, false, false, false, false, false] rfl rfl (by kernel_rfl) (fun _ _ _ h => h) (Or.inl ⟨by rfl, ?_⟩) ?_ ?_
        rotate_left
        · intro w'
          go_simp
          with_reducible rfl
        rotate_left
        · simp only [Act.put, List.setIfInBounds_toArray, List.set_cons_zero, List.set_cons_succ, i64_w, i32_w]
          rfl
        refine pure_ (i := 2) (N := some 50) (v := ?_) (a' := ?_) #[true, true, true, false, false, false, false, false, false, false, false, false] rfl rfl (by kernel_rfl) (fun _ _ _ h => h) (Or.inl ⟨by rfl, ?_⟩) ?_ ?_
        rotate_left
        · intro w'
          go_simp
          with_reducible rfl
        rotate_left
        · simp only [Act.put, List.setIfInBounds_toArray, List.set_cons_zero, List.set_cons_succ, i64_w, i32_w]
          rfl
        refine pure_ (i := 4) (N := some 52) (v := ?_) (a' := ?_) #[true, true, true, false, true, false, false, false, false, false, false, false] rfl rfl (by kernel_rfl) (fun _ _ _ h => h) (Or.inl ⟨by rfl, ?_⟩) ?_ ?_
        rotate_left
        · intro w'
          go_simp
          with_reducible rfl
        rotate_left
        · simp only [Act.put, List.setIfInBounds_toArray, List.set_cons_zero, List.set_cons_succ, i64_w, i32_w]
          rfl
        refine pure_ (i := 5) (N := some 53) (v := ?_) (a' := ?_) #[true, true, true, false, true, true, false, false, false, false, false, false] rfl rfl (by kernel_rfl) (fun _ _ _ h => h) (Or.inl ⟨by rfl, ?_⟩) ?_ ?_
        rotate_left
        · intro w'
          go_simp
          with_reducible rfl
        rotate_left
        · simp only [Act.put, List.setIfInBounds_toArray, List.set_cons_zero, List.set_cons_succ, i64_w, i32_w]
          rfl
        refine pure_ (i := 6) (N := some 54) (v := ?_) (a' := ?_) #[true, true, true, false, true, true, true, false, false, false, false, false] rfl rfl (by kernel_rfl) (fun _ _ _ h => h) (Or.inl ⟨by rfl, ?_⟩) ?_ ?_
        rotate_left
        · intro w'
          go_simp
          with_reducible rfl
        rotate_left
        · simp only [Act.put, List.setIfInBounds_toArray, List.set_cons_zero, List.set_cons_succ, i64_w, i32_w]
          rfl
        refine take_ (i := 3) (N := some 51) (v := ?_) (a' := ?_) #[true, true, true, true, true, true, true, false, false, false, false, false] rfl rfl (by kernel_rfl) (fun _ _ _ h => h) (Or.inl ⟨by rfl, ?_⟩) hHeld ?_ ?_
        rotate_left
        · intro w' s0
          go_simp
          with_reducible rfl
        rotate_left
        · simp only [Act.put, List.setIfInBounds_toArray, List.set_cons_zero, List.set_cons_succ, i64_w, i32_w]
          rfl
        refine take_ (i := 7) (N := some 55) (v := ?_) (a' := ?_) #[true, true, true, true, true, true, true, true, false, false, false, false] rfl rfl (by kernel_rfl) (fun _ _ _ h => h) (Or.inl ⟨by rfl, ?_⟩) hHeld ?_ ?_
        rotate_left
        · intro w' s0
          go_simp
          with_reducible rfl
        rotate_left
        · simp only [Act.put, List.setIfInBounds_toArray, List.set_cons_zero, List.set_cons_succ, i64_w, i32_w]
          rfl
        refine pure_ (i := 8) (N := some 56) (v := ?_) (a' := ?_) #[true, true, true, true, true, true, true, true, true, false, false, false] rfl rfl (by kernel_rfl) (fun _ _ _ h => h) (Or.inl ⟨by rfl, ?_⟩) ?_ ?_
        rotate_left
        · intro w'
          go_simp
          with_reducible rfl
        rotate_left
        · simp only [Act.put, List.setIfInBounds_toArray, List.set_cons_zero, List.set_cons_succ, i64_w, i32_w]
          rfl
        refine pure_ (i := 9) (N := some 57) (v := ?_) (a' := ?_) #[true, true, true, true, true, true, true, true, true, true, false, false] rfl rfl (by kernel_rfl) (fun _ _ _ h => h) (Or.inl ⟨by rfl, ?_⟩) ?_ ?_
        rotate_left
        · intro w'
          go_simp
          with_reducible rfl
        rotate_left
        · simp only [Act.put, List.setIfInBounds_toArray, List.set_cons_zero, List.set_cons_succ, i64_w, i32_w]
          rfl
        refine pure_ (i := 10) (N := some 58) (v := ?_) (a' := ?_) #[true, true, true, true, true, true, true, true, true, true, true, false] rfl rfl (by kernel_rfl) (fun _ _ _ h => h) (Or.inl ⟨by rfl, ?_⟩) ?_ ?_
        rotate_left
        · intro w'
          go_simp
          with_reducible rfl
        rotate_left
        · simp only [Act.put, List.setIfInBounds_toArray, List.set_cons_zero, List.set_cons_succ, i64_w, i32_w]
          rfl
        refine pure_ (i := 11) (N := some 12) (v := ?_) (a' := ?_) #[true, true, true, true, true, true, true, true, true, true, true, true] rfl rfl (by kernel_rfl) (fun _ _ _ h => h) (Or.inl ⟨by rfl, ?_⟩) ?_ ?_
        rotate_left
        · intro w'
          go_simp
          with_reducible rfl
        rotate_left
        · simp only [Act.put, List.setIfInBounds_toArray, List.set_cons_zero, List.set_cons_succ, i64_w, i32_w]
          rfl
        refine done_ (by kernel_rfl) ?_
        
        clear hcut hq1 hq2 hHeld K1 b5 b6
        have VD := Aside0.mk (V4.out.below (below_drew (Below.refl _ _)))
        obtain ⟨s', ha, hl'⟩ := HL4.out.append HPI.out hi20 HPS.out
        have HL' := Aside0.mk hl'
        have hap := VAppend VD.out (HL4.out.inv.sok (by rw [List.length_take]; omega)) A2 c2 p (Kd.C_below HC2.out VD.out.b) (by rw [HQ.out]; exact HQC.out) (HPS.out p (List.mem_of_getElem? HPI.out)).1
        rw [ha, HQ.out] at hap
        have HAP := Aside0.mk hap
        clear hap ha hl'
        go_wp2_with fail
        refine HAP.out.mono ?_
        rintro e w5 ⟨rfl, hv5⟩
        simp only at hv5 ⊢
        have V5 := Aside0.mk hv5
        clear hv5 HAP VD
        have HH2 := Aside0.mk (show Heads w hs (P.take (wantN (i + 1) i)) by
          have e : wantN (i + 1) i = wantN i i := by unfold wantN; rw [if_neg (by omega), if_pos (by omega)]
          rw [e]
          exact HH.out)
        have HSY := Aside0.mk (show synN (i + 1) i = i by unfold synN; rw [if_neg (by omega)])
        go_wp2_with fail
        exact ⟨⟨i + 1, d4, s', hs, by omega, rfl, ⟨by rw [HSY.out]; exact HL'.out⟩, HH2, V5⟩, by simp [intOf]; omega⟩
      · have b1 : ((i : Int) == (k : Int)) = false := by simp; omega
        have b2 : (i == k) = false := by simp; omega
        have b3 : decide ((i : Int) < (k : Int)) = false := decide_eq_false (by omega)
        have b4 : decide (i < k) = false := decide_eq_false (by omega)
        have hsy : synN i k = k := by unfold synN; rw [if_neg (by omega)]
        rw [hsy] at HL
        obtain ⟨ad, A2, c2, rfl, K0, hc2, hC2⟩ := row_elem (w := w) HR0.out HX.out
        have K1 := pw_cell_below HV.out.b K0
        obtain ⟨q, hq1, hq2, hq3, hq4, -⟩ := min_facts x.length 60
        rw [show ((60 : Nat) : Int) = 60 from rfl] at hq1
        obtain ⟨i0, hi0, -, hsz0, -⟩ := info_parts Go.Proofs.Ythnjkmjcacoajaa.Fr.infoU8
        have hcut := cut_to (P := Try.prog) 31 5 .i64 Try.underlying31 hi0 A2 x.length c2 (q : Int) (by omega) (by omega) hc2
        rw [Int.toNat_natCast] at hcut
        have b5 := eq_true (show (0 : Int) ≤ (i : Int) by omega)
        have b6 := eq_true (show (i : Int) < (l0.length : Int) by omega)
        have h60 := cut60 hC2 hq2
        have HC2 := Aside0.mk h60.2
        have HQ := Aside0.mk h60.1
        have HQC := Aside0.mk (show q ≤ c2 by omega)
        have HPI := Aside0.mk (HPA.out i x hlt HX.out)
        clear hi0 hsz0 hq3 hC2 K0 h60
        generalize x.take 60 = p at *
        go_wp2_with fail
        refine start_ (n := 12) (S := fun w' => w'.cell? (ad.add i) = some (.slice A2 x.length c2)) (ds := []) #[false, false, false, false, false, false, false, false, false, false, false, false] (by kernel_rfl) rfl rfl (K1) (fun hHeld => ?_)
        refine pure_ (i := 0) (N := some 48) (v := ?_) (a' := ?_) #[true, false, false, false, false, false, false, false, false, false, false, false] rfl rfl (by kernel_rfl) (fun _ _ _ h => h) (Or.inl ⟨by rfl, ?_⟩) ?_ ?_
        rotate_left
        · intro w'
          go_simp
          with_reducible rfl
        rotate_left
        · simp only [Act.put, List.setIfInBounds_toArray, List.set_cons_zero, List.set_cons_succ, i64_w, i32_w]
          rfl
        refine pure_ (i := 1) (N := some 49) (v := ?_) (a' := ?_) #[true, true, false, false, false, false, false, false, false, false, false, false] rfl rfl (by kernel_rfl) (fun _ _ _ h => h) (Or.inl ⟨by rfl, ?_⟩) ?_ ?_
        rotate_left
        · intro w'
          go_simp
          with_reducible rfl
        rotate_left
        · simp only [Act.put, List.setIfInBounds_toArray, List.set_cons_zero, List.set_cons_succ, i64_w, i32_w]
          rfl
        refine pure_ (i := 2) (N := some 50) (v := ?_) (a' := ?_) #[true, true, true, false, false, false, false, false, false, false, false, false] rfl rfl (by kernel_rfl) (fun _ _ _ h => h) (Or.inl ⟨by rfl, ?_⟩) ?_ ?_
        rotate_left
        · intro w'
          go_simp
          with_reducible rfl
        rotate_left
        · simp only [Act.put, List.setIfInBounds_toArray, List.set_cons_zero, List.set_cons_succ, i64_w, i32_w]
          rfl
        refine pure_ (i := 4) (N := some 52) (v := ?_) (a' := ?_) #[true, true, true, false, true, false, false, false, false, false, false, false] rfl rfl (by kernel_rfl) (fun _ _ _ h => h) (Or.inl ⟨by rfl, ?_⟩) ?_ ?_
        rotate_left
        · intro w'
          go_simp
          with_reducible rfl
        rotate_left
        · simp only [Act.put, List.setIfInBounds_toArray, List.set_cons_zero, List.set_cons_succ, i64_w, i32_w]
          rfl
        refine pure_ (i := 5) (N := some 53) (v := ?_) (a' := ?_) #[true, true, true, false, true, true, false, false, false, false, false, false] rfl rfl (by kernel_rfl) (fun _ _ _ h => h) (Or.inl ⟨by rfl, ?_⟩) ?_ ?_
        rotate_left
        · intro w'
          go_simp
          with_reducible rfl
        rotate_left
        · simp only [Act.put, List.setIfInBounds_toArray, List.set_cons_zero, List.set_cons_succ, i64_w, i32_w]
          rfl
        refine pure_ (i := 6) (N := some 54) (v := ?_) (a' := ?_) #[true, true, true, false, true, true, true, false, false, false, false, false] rfl rfl (by kernel_rfl) (fun _ _ _ h => h) (Or.inl ⟨by rfl, ?_⟩) ?_ ?_
        rotate_left
        · intro w'
          go_simp
          with_reducible rfl
        rotate_left
        · simp only [Act.put, List.setIfInBounds_toArray, List.set_cons_zero, List.set_cons_succ, i64_w, i32_w]
          rfl
        refine take_ (i := 3) (N := some 51) (v := ?_) (a' := ?_) #[true, true, true, true, true, true, true, false, false, false, false, false] rfl rfl (by kernel_rfl) (fun _ _ _ h => h) (Or.inl ⟨by rfl, ?_⟩) hHeld ?_ ?_
        rotate_left
        · intro w' s0
          go_simp
          with_reducible rfl
        rotate_left
        · simp only [Act.put, List.setIfInBounds_toArray, List.set_cons_zero, List.set_cons_succ, i64_w, i32_w]
          rfl
        refine take_ (i := 7) (N := some 55) (v := ?_) (a' := ?_) #[true, true, true, true, true, true, true, true, false, false, false, false] rfl rfl (by kernel_rfl) (fun _ _ _ h => h) (Or.inl ⟨by rfl, ?_⟩) hHeld ?_ ?_
        rotate_left
        · intro w' s0
          go_simp
          with_reducible rfl
        rotate_left
        · simp only [Act.put, List.setIfInBounds_toArray, List.set_cons_zero, List.set_cons_succ, i64_w, i32_w]
          rfl
        refine pure_ (i := 8) (N := some 56) (v := ?_) (a' := ?_) #[true, true, true, true, true, true, true, true, true, false, false, false] rfl rfl (by kernel_rfl) (fun _ _ _ h => h) (Or.inl ⟨by rfl, ?_⟩) ?_ ?_
        rotate_left
        · intro w'
          go_simp
          with_reducible rfl
        rotate_left
        · simp only [Act.put, List.setIfInBounds_toArray, List.set_cons_zero, List.set_cons_succ, i64_w, i32_w]
          rfl
        refine pure_ (i := 9) (N := some 57) (v := ?_) (a' := ?_) #[true, true, true, true, true, true, true, true, true, true, false, false] rfl rfl (by kernel_rfl) (fun _ _ _ h => h) (Or.inl ⟨by rfl, ?_⟩) ?_ ?_
        rotate_left
        · intro w'
          go_simp
          with_reducible rfl
        rotate_left
        · simp only [Act.put, List.setIfInBounds_toArray, List.set_cons_zero, List.set_cons_succ, i64_w, i32_w]
          rfl
        refine pure_ (i := 10) (N := some 58) (v := ?_) (a' := ?_) #[true, true, true, true, true, true, true, true, true, true, true, false] rfl rfl (by kernel_rfl) (fun _ _ _ h => h) (Or.inl ⟨by rfl, ?_⟩) ?_ ?_
        rotate_left
        · intro w'
          go_simp
          with_reducible rfl
        rotate_left
        · simp only [Act.put, List.setIfInBounds_toArray, List.set_cons_zero, List.set_cons_succ, i64_w, i32_w]
          rfl
        refine pure_ (i := 11) (N := some 12) (v := ?_) (a' := ?_) #[true, true, true, true, true, true, true, true, true, true, true, true] rfl rfl (by kernel_rfl) (fun _ _ _ h => h) (Or.inl ⟨by rfl, ?_⟩) ?_ ?_
        rotate_left
        · intro w'
          go_simp
          with_reducible rfl
        rotate_left
        · simp only [Act.put, List.setIfInBounds_toArray, List.set_cons_zero, List.set_cons_succ, i64_w, i32_w]
          rfl
        refine done_ (by kernel_rfl) ?_
        
        clear hcut hq1 hq2 hHeld K1 b5 b6
        have VD := Aside0.mk (HV.out.below (below_drew (Below.refl _ _)))
        obtain ⟨s', ha, hl'⟩ := HL.out.append HPI.out hi20 HPS.out
        have HL' := Aside0.mk hl'
        have hap := VAppend VD.out (HL.out.inv.sok (by rw [List.length_take]; omega)) A2 c2 p (Kd.C_below HC2.out VD.out.b) (by rw [HQ.out]; exact HQC.out) (HPS.out p (List.mem_of_getElem? HPI.out)).1
        rw [ha, HQ.out] at hap
        have HAP := Aside0.mk hap
        clear hap ha hl'
        go_wp2_with fail
        refine HAP.out.mono ?_
        rintro e w5 ⟨rfl, hv5⟩
        simp only at hv5 ⊢
        have V5 := Aside0.mk hv5
        clear hv5 HAP VD
        have HH2 := Aside0.mk (show Heads w hs (P.take (wantN (i + 1) k)) by
          have e : wantN (i + 1) k = wantN i k := by unfold wantN; rw [if_neg (by omega), if_neg (by omega)]
          rw [e]
          exact HH.out)
        have HSY := Aside0.mk (show synN (i + 1) k = k by unfold synN; rw [if_neg (by omega)])
        go_wp2_with fail
        exact ⟨⟨i + 1, d, s', hs, by omega, rfl, ⟨by rw [HSY.out]; exact HL'.out⟩, HH2, V5⟩, by simp [intOf]; omega⟩
    · obtain rfl : i = N := by omega
      have hkn := HN.out.2.2.2
      have hw1 : wantN i k = k := by
        unfold wantN
        split <;> omega
      rw [hw1] at HH
      obtain ⟨A, c, rfl⟩ := HV.out.slice
      have hpl := HPL.out
      rcases Nat.lt_or_ge i l0.length with hll | hll
      · have h20 : i = 20 := by have := HN.out; omega
        have d1 : decide ((i : Int) < (l0.length : Int)) = true := decide_eq_true (by omega)
        have d2 : decide (i < l0.length) = true := decide_eq_true (by omega)
        have d3 : decide ((i : Int) < 20) = false := decide_eq_false (by omega)
        have d4 : decide (i < 20) = false := decide_eq_false (by omega)
        rcases Nat.lt_or_ge k i with hki | hki
        · have q1 : ((k : Int) == (i : Int)) = false := by simp; omega
          have q2 : ((k : Int) == 20) = false := by simp; omega
          have q3 : ((k : Int) == (l0.length : Int)) = false := by simp; omega
          have hsy : synN i k = k := by unfold synN; rw [if_neg (by omega)]
          rw [hsy] at HL
          go_wp2_with fail
          have hcr := VCrash HV.out.disk (Nat.le_trans HL.out.inv.w0 (by decide)) 0 0
          rw [HL.out.fall] at hcr
          refine hcr.mono ?_
          clear hcr
          rintro e w7 ⟨rfl, hv7⟩
          have V7 := Aside0.mk hv7
          clear hv7
          go_wp2_with fail
          refine (VBoot V7.out).mono ?_
          rintro e w8 ⟨rfl, hv8⟩
          have V8 := Aside0.mk (Eq.mp (congrArg (fun z => LDV w w8 g z (.slice A hs.length c) hs) HL.out.rise) hv8)
          clear hv8 V7
          obtain ⟨s9, hop, hpay⟩ := HL.out.again (by omega)
          have hsh := pay_short hpay (by rw [List.length_take]; omega)
          have hl9 := LOpens (c := c) (V8.out.rows HL.out.plan HH.out) HL.out.inv.secs HL.out.inv.w0 hsh hop hsh
          rw [← HH.out.1, decide_eq_true rfl] at hl9
          have H9 := Aside0.mk hl9
          clear hl9 hop hsh hpay
          go_wp2_with fail
          refine H9.out.mono ?_
          rintro e w9 ⟨g9, rfl, hl9⟩
          have L9 := Aside0.mk hl9
          clear hl9 V8
          go_wp2_with fail
          refine (works_calls w9).mono ?_
          rintro e w10 ⟨rfl, hb10⟩
          have B10 := Aside0.mk hb10
          clear hb10
          go_wp2_with fail
          go_ret
          exact ⟨rfl, L9.out.1.trans (B10.out.mono L9.out.1.size)⟩
        · obtain rfl : k = i := by omega
          have q1 : ((k : Int) == (k : Int)) = true := by simp
          have q2 : ((k : Int) == 20) = true := by simp; omega
          have hsy : synN k k = 0 := by unfold synN; rw [if_pos (by omega)]
          rw [hsy] at HL
          go_wp2_with fail
          have hap := VSync HV.out (HL.out.inv.sok (by rw [List.length_take]; omega)) HL.out.inv.good HL.out.inv.w0
          obtain ⟨d4, s4, hsf, hl4⟩ := HL.out.sync (by omega)
          rw [hsf] at hap
          have HL4 := Aside0.mk hl4
          refine hap.mono ?_
          clear hap hsf hl4
          rintro e w4 ⟨rfl, hv4⟩
          simp only at hv4 ⊢
          have V4 := Aside0.mk hv4
          clear hv4 HV HL
          go_wp2_with fail
          have hcr := VCrash V4.out.disk (Nat.le_trans HL4.out.inv.w0 (by decide)) 0 0
          rw [HL4.out.fall] at hcr
          refine hcr.mono ?_
          clear hcr
          rintro e w7 ⟨rfl, hv7⟩
          have V7 := Aside0.mk hv7
          clear hv7
          go_wp2_with fail
          refine (VBoot V7.out).mono ?_
          rintro e w8 ⟨rfl, hv8⟩
          have V8 := Aside0.mk (Eq.mp (congrArg (fun z => LDV w w8 g z (.slice A hs.length c) hs) HL4.out.rise) hv8)
          clear hv8 V7
          obtain ⟨s9, hop, hpay⟩ := HL4.out.again (by omega)
          have hsh := pay_short hpay (by rw [List.length_take]; omega)
          have hl9 := LOpens (c := c) (V8.out.rows HL4.out.plan HH.out) HL4.out.inv.secs HL4.out.inv.w0 hsh hop hsh
          rw [← HH.out.1, decide_eq_true rfl] at hl9
          have H9 := Aside0.mk hl9
          clear hl9 hop hsh hpay
          go_wp2_with fail
          refine H9.out.mono ?_
          rintro e w9 ⟨g9, rfl, hl9⟩
          have L9 := Aside0.mk hl9
          clear hl9 V8
          go_wp2_with fail
          refine (works_calls w9).mono ?_
          rintro e w10 ⟨rfl, hb10⟩
          have B10 := Aside0.mk hb10
          clear hb10
          go_wp2_with fail
          go_ret
          exact ⟨rfl, L9.out.1.trans (B10.out.mono L9.out.1.size)⟩
      · have hle : l0.length = i := by have := HN.out; omega
        have d1 : decide ((i : Int) < (l0.length : Int)) = false := decide_eq_false (by omega)
        have d2 : decide (i < l0.length) = false := decide_eq_false (by omega)
        rcases Nat.lt_or_ge k i with hki | hki
        · have q1 : ((k : Int) == (i : Int)) = false := by simp; omega
          have q3 : ((k : Int) == (l0.length : Int)) = false := by simp; omega
          have hsy : synN i k = k := by unfold synN; rw [if_neg (by omega)]
          rw [hsy] at HL
          go_wp2_with fail
          have hcr := VCrash HV.out.disk (Nat.le_trans HL.out.inv.w0 (by decide)) 0 0
          rw [HL.out.fall] at hcr
          refine hcr.mono ?_
          clear hcr
          rintro e w7 ⟨rfl, hv7⟩
          have V7 := Aside0.mk hv7
          clear hv7
          go_wp2_with fail
          refine (VBoot V7.out).mono ?_
          rintro e w8 ⟨rfl, hv8⟩
          have V8 := Aside0.mk (Eq.mp (congrArg (fun z => LDV w w8 g z (.slice A hs.length c) hs) HL.out.rise) hv8)
          clear hv8 V7
          obtain ⟨s9, hop, hpay⟩ := HL.out.again (by omega)
          have hsh := pay_short hpay (by rw [List.length_take]; omega)
          have hl9 := LOpens (c := c) (V8.out.rows HL.out.plan HH.out) HL.out.inv.secs HL.out.inv.w0 hsh hop hsh
          rw [← HH.out.1, decide_eq_true rfl] at hl9
          have H9 := Aside0.mk hl9
          clear hl9 hop hsh hpay
          go_wp2_with fail
          refine H9.out.mono ?_
          rintro e w9 ⟨g9, rfl, hl9⟩
          have L9 := Aside0.mk hl9
          clear hl9 V8
          go_wp2_with fail
          refine (works_calls w9).mono ?_
          rintro e w10 ⟨rfl, hb10⟩
          have B10 := Aside0.mk hb10
          clear hb10
          go_wp2_with fail
          go_ret
          exact ⟨rfl, L9.out.1.trans (B10.out.mono L9.out.1.size)⟩
        · obtain rfl : k = i := by omega
          have q1 : ((k : Int) == (k : Int)) = true := by simp
          have q3 : ((k : Int) == (l0.length : Int)) = true := by simp; omega
          have hsy : synN k k = 0 := by unfold synN; rw [if_pos (by omega)]
          rw [hsy] at HL
          go_wp2_with fail
          have hap := VSync HV.out (HL.out.inv.sok (by rw [List.length_take]; omega)) HL.out.inv.good HL.out.inv.w0
          obtain ⟨d4, s4, hsf, hl4⟩ := HL.out.sync (by omega)
          rw [hsf] at hap
          have HL4 := Aside0.mk hl4
          refine hap.mono ?_
          clear hap hsf hl4
          rintro e w4 ⟨rfl, hv4⟩
          simp only at hv4 ⊢
          have V4 := Aside0.mk hv4
          clear hv4 HV HL
          go_wp2_with fail
          have hcr := VCrash V4.out.disk (Nat.le_trans HL4.out.inv.w0 (by decide)) 0 0
          rw [HL4.out.fall] at hcr
          refine hcr.mono ?_
          clear hcr
          rintro e w7 ⟨rfl, hv7⟩
          have V7 := Aside0.mk hv7
          clear hv7
          go_wp2_with fail
          refine (VBoot V7.out).mono ?_
          rintro e w8 ⟨rfl, hv8⟩
          have V8 := Aside0.mk (Eq.mp (congrArg (fun z => LDV w w8 g z (.slice A hs.length c) hs) HL4.out.rise) hv8)
          clear hv8 V7
          obtain ⟨s9, hop, hpay⟩ := HL4.out.again (by omega)
          have hsh := pay_short hpay (by rw [List.length_take]; omega)
          have hl9 := LOpens (c := c) (V8.out.rows HL4.out.plan HH.out) HL4.out.inv.secs HL4.out.inv.w0 hsh hop hsh
          rw [← HH.out.1, decide_eq_true rfl] at hl9
          have H9 := Aside0.mk hl9
          clear hl9 hop hsh hpay
          go_wp2_with fail
          refine H9.out.mono ?_
          rintro e w9 ⟨g9, rfl, hl9⟩
          have L9 := Aside0.mk hl9
          clear hl9 V8
          go_wp2_with fail
          refine (works_calls w9).mono ?_
          rintro e w10 ⟨rfl, hb10⟩
          have B10 := Aside0.mk hb10
          clear hb10
          go_wp2_with fail
          go_ret
          exact ⟨rfl, L9.out.1.trans (B10.out.mono L9.out.1.size)⟩
end Go.Proofs.Ythnjkmjcacoajaa.Jn
end
