import Derived.Test.YthnjkmjcacoajaaKJournalKeeps34
import Derived.Test.YthnjkmjcacoajaaKJournalKeeps35
import Derived.Deep.DeepCutAuto
import Derived.Deep.CutBlock
import Derived.Deep.SlicePairs
import Derived.ChangeSlices
import Derived.SizedLaws
section
/- A world of JournalKeeps in memory: rows that nobody changes, and the struct that names them beside a journal and its disk. No condition. -/
namespace Go.Proofs.Ythnjkmjcacoajaa.Jn
open Go Go.RowKit Go.Proofs.YthnjkmjcacoajaaW.PrintWords Go.Proofs.YthnjkmjcacoajaaW.PrintLast Go.Proofs.YthnjkmjcacoajaaW.PrintMore Go.Proofs.Ythnjkmjcacoajaa.Base Go.Proofs.Ythnjkmjcacoajaa.Arr
open Go.Proofs.Ythnjkmjcacoajaa.Dk (DS DiskIs DiskTo writeF flushF doingF secOf newS goneS crashF failP)
set_option linter.unusedVariables false
set_option linter.unusedSimpArgs false

/-- rows that nobody changes who changes the blocks of ok alone -/
structure XRows (W : World) (ok : Nat → Prop) (v : Value) (hs : List Hdr) (l : List (List Int)) : Prop where
  shape : ∃ A c, v = .slice A hs.length c ∧ hs.length ≤ c ∧ hdr.C W A hs.length hs
  blk : ∀ k, v.ownBlock = some k → k < W.heap.size ∧ ¬ ok k
  len : hs.length = l.length
  row : ∀ (j : Nat) (x : Hdr) (p : List Int), hs[j]? = some x → l[j]? = some p → x.2.1 = p.length ∧ p.length ≤ x.2.2 ∧ ∀ W', Kept W W' ok → Kd.C (Kd.int .u8) W' x.1 p.length p
theorem XRows.nil (W : World) (ok : Nat → Prop) : XRows W ok (.slice none 0 0) [] [] :=
  ⟨⟨none, 0, rfl, Nat.le_refl _, Kd.C_nil _ _⟩, fun k hk => by simp [Value.ownBlock] at hk, rfl, fun j x p h => by simp at h⟩
theorem add_block (a : Addr) (n : Nat) : (a.add n).block = a.block := by unfold Addr.add; split <;> rfl
theorem cellK {W W2 : World} {S : Nat → Prop} {a : Addr} {v : Value} (hc : W.cell? a = some v) (hk : Kept W W2 S) (hne : ¬ S a.block) : W2.cell? a = some v := by
  have := hk.2 a.block (World.block_lt_of_cell? W a hc) hne
  unfold World.cell? at hc ⊢
  rw [this]
  exact hc
theorem hdr_kept {W W1 : World} {ok : Nat → Prop} {A : Option Addr} {hs : List Hdr} (h : hdr.C W A hs.length hs) (hb : ∀ a, A = some a → ¬ ok a.block) (hk : Kept W W1 ok) : hdr.C W1 A hs.length hs := by
  obtain ⟨h1, h2, h3⟩ := h
  refine ⟨h1, h2, fun hn => ?_⟩
  obtain ⟨a, rfl, hj⟩ := h3 hn
  refine ⟨a, rfl, fun j p hp => ?_⟩
  obtain ⟨cs, f1, f2, f3⟩ := hj j p hp
  exact ⟨cs, f1, f2, fun i u hu => cellK (f3 i u hu) hk (by rw [add_block]; exact hb a rfl)⟩
theorem XRows.keep {W W1 : World} {ok ok1 : Nat → Prop} {v : Value} {hs : List Hdr} {l : List (List Int)} (h : XRows W ok v hs l) (hk : Kept W W1 ok) (hs1 : ∀ k, ok1 k → ok k ∨ W.heap.size ≤ k) : XRows W1 ok1 v hs l := by
  obtain ⟨⟨A, c, rfl, hc, hC⟩, hb, hl, hr⟩ := h
  have hb' : ∀ a, A = some a → a.block < W.heap.size ∧ ¬ ok a.block := fun a ha => hb a.block (by rw [ha]; rfl)
  refine ⟨⟨A, c, rfl, hc, hdr_kept hC (fun a ha => (hb' a ha).2) hk⟩, fun k hkk => ?_, hl, fun j x p hx hp => ?_⟩
  · obtain ⟨q1, q2⟩ := hb k hkk
    exact ⟨Nat.lt_of_lt_of_le q1 hk.1, fun q => (hs1 k q).elim q2 (fun r => by omega)⟩
  · obtain ⟨e1, e2, e3⟩ := hr j x p hx hp
    exact ⟨e1, e2, fun W2 hk2 => e3 W2 (hk.then_ hk2 hs1)⟩
theorem XRows.C {W : World} {ok : Nat → Prop} {v : Value} {hs : List Hdr} {l : List (List Int)} (h : XRows W ok v hs l) : ∃ A c, v = .slice A l.length c ∧ l.length ≤ c ∧ (Kd.slice 5 (Kd.int .u8)).C W A l.length l ∧ hdr.C W A l.length hs := by
  obtain ⟨⟨A, c, rfl, hc, hC⟩, hb, hl, hr⟩ := h
  have hH : Heads W hs l := ⟨hl, fun j x p hx hp => by
    obtain ⟨e1, e2, e3⟩ := hr j x p hx hp
    exact ⟨e1, e2, e3 W (Kept.refl _ _)⟩⟩
  exact ⟨A, c, by rw [hl], by omega, hH.rows (Nat.le_refl _) (fun k _ => rfl) hC, by rw [← hl]; exact hC⟩
/-- the headers of rows -/
theorem rows_heads {W : World} {A : Option Addr} {l : List (List Int)} (h : (Kd.slice 5 (Kd.int .u8)).C W A l.length l) : ∃ hs, hs.length = l.length ∧ hdr.C W A hs.length hs ∧ Heads W hs l := by
  have key : ∀ n, n ≤ l.length → ∃ hs : List Hdr, hs.length = n ∧ ∀ j x p, hs[j]? = some x → l[j]? = some p → x.2.1 = p.length ∧ p.length ≤ x.2.2 ∧ Kd.C (Kd.int .u8) W x.1 p.length p ∧ ∃ ad, A = some ad ∧ W.cell? (ad.add j) = some (.slice x.1 x.2.1 x.2.2) := by
    intro n
    induction n with
    | zero => exact fun _ => ⟨[], rfl, fun j x p hx => by simp at hx⟩
    | succ n ih =>
      intro hn
      obtain ⟨hs, h1, h2⟩ := ih (by omega)
      obtain ⟨p, hp⟩ : ∃ p, l[n]? = some p := ⟨_, List.getElem?_eq_getElem (by omega)⟩
      obtain ⟨ad, A2, c2, e1, e2, e3, e4⟩ := row_elem h hp
      refine ⟨hs ++ [(A2, p.length, c2)], by rw [List.length_append, h1]; rfl, fun j x q hx hq => ?_⟩
      by_cases hj : j < n
      · rw [List.getElem?_append_left (by omega)] at hx
        exact h2 j x q hx hq
      · rw [List.getElem?_append_right (by omega), h1] at hx
        obtain ⟨z, hz⟩ : ∃ z, z = j - n := ⟨_, rfl⟩
        rw [← hz] at hx
        cases z with
        | zero =>
          obtain rfl : j = n := by omega
          simp at hx
          subst hx
          rw [hp] at hq
          injection hq with hq
          subst hq
          exact ⟨rfl, e3, e4, ad, e1, e2⟩
        | succ z => simp at hx
  obtain ⟨hs, h1, h2⟩ := key l.length (Nat.le_refl _)
  refine ⟨hs, h1, ⟨rfl, by rw [h1]; exact h.2.1, fun hn => ?_⟩, h1, fun j x p hx hp => ?_⟩
  · obtain ⟨ad, ha, _⟩ := h.2.2 (by omega)
    refine ⟨ad, ha, fun j x hx => ?_⟩
    have hjl : j < l.length := by rw [← h1]; exact (List.getElem?_eq_some_iff.1 hx).1
    obtain ⟨_, _, _, ad2, ha2, hc⟩ := h2 j x _ hx (List.getElem?_eq_getElem hjl)
    rw [ha] at ha2
    injection ha2 with ha2
    subst ha2
    refine ⟨[.slice x.1 x.2.1 x.2.2], rfl, rfl, fun i u hu => ?_⟩
    rcases i with _ | i
    · injection hu with hu
      subst hu
      have e : j * hdr.sz + 0 = j := by show j * 1 + 0 = j; omega
      rw [e]
      exact hc
    · simp at hu
  · obtain ⟨e1, e2, e3, _⟩ := h2 j x p hx hp
    exact ⟨e1, e2, e3⟩
/-- rows that a call made -/
theorem XRows.ofR {W : World} {base : Nat} {ok okx : Nat → Prop} {v : Value} {l : List (List Int)} {t : TypeId} (h : Kd.R (Kd.slice 5 (Kd.int .u8)) t W base (fun k => ¬ ok k) v l) (hx : ∀ k, okx k → ok k ∨ k < base) : ∃ hs, XRows W okx v hs l := by
  have hR : Kd.R (Kd.slice 5 (Kd.int .u8)) t W base (fun k => ¬ okx k ∧ k < W.heap.size) v l := Kd.R_mono (Kd.R_bound h) (fun k hk => ⟨fun q => (hx k q).elim hk.1 (fun r => by have := hk.2.1; omega), hk.2.2.1⟩)
  obtain ⟨A, c, rfl⟩ := Kd.R_slice hR
  obtain ⟨_, hc, hC⟩ := Kd.R_reads' hR
  obtain ⟨hs, h1, h2, h3⟩ := rows_heads hC
  have hb : ∀ a, A = some a → a.block < W.heap.size ∧ ¬ okx a.block := fun a ha => by
    have := hR.1 a.block (by rw [ha]; rfl)
    exact ⟨this.2, this.1⟩
  refine ⟨hs, ⟨A, c, by rw [h1], by omega, h2⟩, fun k hk => ?_, h1, fun j x p hx hp => ?_⟩
  · have := hR.1 k hk
    exact ⟨this.2, this.1⟩
  · obtain ⟨e1, e2, e3⟩ := h3.2 j x p hx hp
    refine ⟨e1, e2, fun W' hk => ?_⟩
    have hR' := Kd.R_step hR (w1 := W') (fun k q hlt => hk.2 k hlt q.1)
    obtain ⟨_, _, hC'⟩ := Kd.R_reads' hR'
    obtain ⟨ad, A2, c2, q1, q2, q3, q4⟩ := row_elem hC' hp
    have hjh : j < hs.length := (List.getElem?_eq_some_iff.1 hx).1
    obtain ⟨_, _, h2c⟩ := h2
    obtain ⟨ad', hA, hj⟩ := h2c (by omega)
    rw [q1] at hA
    injection hA with hA
    subst hA
    obtain ⟨cs, f1, f2, f3⟩ := hj j x hx
    have f2' : cs = [.slice x.1 x.2.1 x.2.2] := f2
    have f4 := f3 0 (.slice x.1 x.2.1 x.2.2) (by rw [f2']; rfl)
    have e : j * hdr.sz + 0 = j := by show j * 1 + 0 = j; omega
    rw [e] at f4
    have f5 := cellK f4 hk (by rw [add_block]; exact (hb ad q1).2)
    rw [f5] at q2
    injection q2 with q2
    injection q2 with q2 _ _
    rw [q2]
    exact q4
/-- one row in a literal -/
theorem XRows.one {W : World} {ok : Nat → Prop} {b : Nat} {A : Option Addr} {c : Nat} {p : List Int} (h : HoldsRow W b 31 #[.slice A p.length c]) (hb : ¬ ok b) (hc : p.length ≤ c) (hp : ∀ W', Kept W W' ok → Kd.C (Kd.int .u8) W' A p.length p) : XRows W ok (.slice (some ⟨b, 0, none⟩) 1 1) [(A, p.length, c)] [p] := by
  refine ⟨⟨_, 1, rfl, Nat.le_refl _, rfl, by simp, fun _ => ⟨_, rfl, fun j x hx => ?_⟩⟩, fun k hk => ?_, rfl, fun j x q hx hq => ?_⟩
  · rcases j with _ | j
    · injection hx with hx
      subst hx
      refine ⟨[.slice A p.length c], rfl, rfl, fun i u hu => ?_⟩
      rcases i with _ | i
      · injection hu with hu
        subst hu
        exact h.cell (j := 0) rfl
      · simp at hu
    · simp at hx
  · have : b = k := by simpa [Value.ownBlock] using hk
    subst this
    exact ⟨h.lt, hb⟩
  · rcases j with _ | j
    · injection hx with hx
      injection hq with hq
      subst hx hq
      exact ⟨rfl, hc, hp⟩
    · simp at hx
/-- a row of headers made anew, the old rows and one more -/
theorem XRows.snoc {W W1 : World} {ok : Nat → Prop} {v v1 : Value} {hs : List Hdr} {l : List (List Int)} {A : Option Addr} {c : Nat} {p : List Int} {base : Nat} {okr : Nat → Prop} (h : XRows W ok v hs l) (hk : Kept W W1 ok) (hc : p.length ≤ c) (hp : ∀ W', Kept W W' ok → Kd.C (Kd.int .u8) W' A p.length p) (hr : hdr.R 31 W1 base okr v1 (hs ++ [(A, p.length, c)])) (hn : ∀ k, okr k → k < W1.heap.size → ¬ ok k) : XRows W1 ok v1 (hs ++ [(A, p.length, c)]) (l ++ [p]) := by
  have hrb := Kd.R_bound hr
  obtain ⟨A1, c1, rfl⟩ := Kd.R_slice hr
  obtain ⟨_, hc1, hC1⟩ := Kd.R_reads' hr
  refine ⟨⟨A1, c1, rfl, hc1, hC1⟩, fun k hkk => ?_, by rw [List.length_append, List.length_append, h.len]; rfl, fun j x q hx hq => ?_⟩
  · have := hrb.1 k hkk
    exact ⟨this.2.2.1, hn k this.1 this.2.2.1⟩
  · have hlen := h.len
    by_cases hj : j < l.length
    · rw [List.getElem?_append_left (by omega)] at hx
      rw [List.getElem?_append_left hj] at hq
      obtain ⟨e1, e2, e3⟩ := h.row j x q hx hq
      exact ⟨e1, e2, fun W' hk' => e3 W' (hk.then_ hk' (fun k hk => .inl hk))⟩
    · rw [List.getElem?_append_right (by omega), hlen] at hx
      rw [List.getElem?_append_right (by omega)] at hq
      obtain ⟨z, hz⟩ : ∃ z, z = j - l.length := ⟨_, rfl⟩
      rw [← hz] at hx hq
      cases z with
      | zero =>
        simp at hx hq
        subst hx hq
        exact ⟨rfl, hc, fun W' hk' => hp W' (hk.then_ hk' (fun k hk => .inl hk))⟩
      | succ z => simp at hx
/-! ### the struct -/
def wcells (g gj : Nat) (vl : Value) (m : Int) (vp : Value) : Array Value := #[.pointer (some ⟨g, 0, none⟩), .pointer (some ⟨gj, 0, none⟩), vl, .int .i64 m, vp]
/-- the world: its struct (bx), its rows, its checkpoint at hand -/
structure XC (w0 W : World) (ok : Nat → Prop) (bx g gj : Nat) (vl : Value) (m : Int) (vp : Value) (l pt : List (List Int)) : Prop where
  b : Below w0.heap.size w0 W
  lt : ∀ k, ok k → k < W.heap.size
  ge : w0.heap.size ≤ bx
  no : ¬ ok bx
  row : HoldsRow W bx 50 (wcells g gj vl m vp)
  l : ∃ hs, XRows W (fun k => ok k ∨ k = bx) vl hs l
  p : ∃ hs, XRows W (fun k => ok k ∨ k = bx) vp hs pt
theorem XC.cells {w0 W : World} {ok : Nat → Prop} {bx g gj : Nat} {vl : Value} {m : Int} {vp : Value} {l pt : List (List Int)} (h : XC w0 W ok bx g gj vl m vp l pt) :
    W.cell? ⟨bx, 0, none⟩ = some (.pointer (some ⟨g, 0, none⟩)) ∧ W.cell? ⟨bx, 1, none⟩ = some (.pointer (some ⟨gj, 0, none⟩)) ∧ W.cell? ⟨bx, 2, none⟩ = some vl ∧ W.cell? ⟨bx, 3, none⟩ = some (.int .i64 m) ∧ W.cell? ⟨bx, 4, none⟩ = some vp :=
  ⟨h.row.cell rfl, h.row.cell rfl, h.row.cell rfl, h.row.cell rfl, h.row.cell rfl⟩
theorem XC.size {w0 W : World} {ok : Nat → Prop} {bx g gj : Nat} {vl : Value} {m : Int} {vp : Value} {l pt : List (List Int)} (h : XC w0 W ok bx g gj vl m vp l pt) : w0.heap.size ≤ W.heap.size := h.b.size
/-- a step that leaves the struct alone -/
theorem XC.keep {w0 W W1 : World} {ok ok1 : Nat → Prop} {bx g gj : Nat} {vl : Value} {m : Int} {vp : Value} {l pt : List (List Int)} (h : XC w0 W ok bx g gj vl m vp l pt) (hb : Below w0.heap.size W W1) (hk : Kept W W1 ok) (hs : ∀ k, ok1 k → (ok k ∨ W.heap.size ≤ k) ∧ k < W1.heap.size) : XC w0 W1 ok1 bx g gj vl m vp l pt := by
  have hlt := h.row.lt
  have hk' : Kept W W1 (fun k => ok k ∨ k = bx) := hk.mono (fun k q => .inl q)
  have hs' : ∀ k, (ok1 k ∨ k = bx) → (ok k ∨ k = bx) ∨ W.heap.size ≤ k := fun k q => by
    rcases q with q | q
    · rcases (hs k q).1 with r | r
      · exact .inl (.inl r)
      · exact .inr r
    · exact .inl (.inr q)
  exact ⟨h.b.trans hb, fun k q => (hs k q).2, h.ge, fun q => (hs bx q).1.elim h.no (fun r => by omega), (hk.2 bx hlt h.no).trans h.row, h.l.imp fun _ q => q.keep hk' hs', h.p.imp fun _ q => q.keep hk' hs'⟩
theorem XC.jto {w0 W W1 : World} {ok : Nat → Prop} {bx g gj gj2 : Nat} {vl : Value} {m : Int} {vp : Value} {l pt : List (List Int)} {d : DS} {s : JS} (h : XC w0 W ok bx g gj vl m vp l pt) (ht : JTo W W1 w0.heap.size ok g gj2 d s) : ∃ ok1, JD W1 w0.heap.size ok1 g gj2 d s ∧ XC w0 W1 ok1 bx g gj vl m vp l pt := by
  obtain ⟨h1, h2, ok1, h3, h4⟩ := ht
  exact ⟨ok1, h4, h.keep h1 h2 h3⟩
theorem XC.below {w0 W W1 : World} {ok : Nat → Prop} {bx g gj : Nat} {vl : Value} {m : Int} {vp : Value} {l pt : List (List Int)} (h : XC w0 W ok bx g gj vl m vp l pt) (hb : Below W.heap.size W W1) : XC w0 W1 ok bx g gj vl m vp l pt :=
  h.keep (hb.mono h.size) (Kept.of_below hb _) (fun k q => ⟨.inl q, Nat.lt_of_lt_of_le (h.lt k q) hb.size⟩)
theorem JD.move {W W1 : World} {H : Nat} {ok : Nat → Prop} {g gj : Nat} {d : DS} {s : JS} (h : JD W H ok g gj d s) (hsz : W.heap.size ≤ W1.heap.size) (hm : ∀ k, ok k → k < W.heap.size → W1.heap[k]? = W.heap[k]?) : JD W1 H ok g gj d s := by
  obtain ⟨okd, okj, q1, q2, q3, q4, q5, q6⟩ := h
  exact ⟨okd, okj, q1.move (fun k hk hlt => hm k (q3 k hk).1 hlt), q2.move (fun k hk hlt => hm k (q4 k hk).1 hlt), fun k hk => ⟨(q3 k hk).1, Nat.lt_of_lt_of_le (q3 k hk).2 hsz⟩, fun k hk => ⟨(q4 k hk).1, Nat.lt_of_lt_of_le (q4 k hk).2 hsz⟩, q5, Nat.le_trans q6 hsz⟩
theorem JD.below {W W1 : World} {H : Nat} {ok : Nat → Prop} {g gj : Nat} {d : DS} {s : JS} (h : JD W H ok g gj d s) (hb : Below W.heap.size W W1) : JD W1 H ok g gj d s := h.move hb.size (fun k _ hlt => hb.block k hlt)
/-- a field of the struct set: the journal lies as it lay -/
theorem JD.set {w0 W : World} {ok : Nat → Prop} {bx g gj gx : Nat} {vl : Value} {m : Int} {vp : Value} {l pt : List (List Int)} {d : DS} {s : JS} (h : JD W w0.heap.size ok g gj d s) (hx : XC w0 W ok bx g gx vl m vp l pt) (i : Nat) (u : Value) : JD (W.setCell ⟨bx, i, none⟩ u) w0.heap.size ok g gj d s :=
  h.move (by simp [World.setCell]) (fun k hk _ => Below.heap_setCell W ⟨bx, i, none⟩ u k (fun e => hx.no (by have e' : k = bx := e; rw [← e']; exact hk)))
theorem XC.set {w0 W : World} {ok : Nat → Prop} {bx g gj gj2 : Nat} {vl vl2 : Value} {m m2 : Int} {vp vp2 : Value} {l l2 pt pt2 : List (List Int)} (h : XC w0 W ok bx g gj vl m vp l pt) (i : Nat) (u : Value) (hc : (wcells g gj vl m vp).setIfInBounds i u = wcells g gj2 vl2 m2 vp2)
    (hl : ∃ hs, XRows W (fun k => ok k ∨ k = bx) vl2 hs l2) (hp : ∃ hs, XRows W (fun k => ok k ∨ k = bx) vp2 hs pt2) : XC w0 (W.setCell ⟨bx, i, none⟩ u) ok bx g gj2 vl2 m2 vp2 l2 pt2 := by
  have hsz : W.heap.size = (W.setCell ⟨bx, i, none⟩ u).heap.size := by simp [World.setCell]
  have hk : Kept W (W.setCell ⟨bx, i, none⟩ u) (fun k => ok k ∨ k = bx) := ⟨Nat.le_of_eq hsz, fun k _ hn => Below.heap_setCell W ⟨bx, i, none⟩ u k (fun e => hn (.inr e))⟩
  have hb := (Dk.to_set (W := W) (base := w0.heap.size) (ok := fun k => k = bx) (g := bx) (j := i) (u := u) rfl h.ge).1
  refine ⟨h.b.trans hb, fun k q => by rw [← hsz]; exact h.lt k q, h.ge, h.no, ?_, hl.imp fun _ q => q.keep hk (fun k r => .inl r), hp.imp fun _ q => q.keep hk (fun k r => .inl r)⟩
  rw [← hc]
  exact h.row.set i u
end Go.Proofs.Ythnjkmjcacoajaa.Jn
end

section
/- The calls of JournalKeeps' functions, beside a journal and its disk. No condition beyond those of the calls. -/
namespace Go.Proofs.Ythnjkmjcacoajaa.Jn
open Go Go.RowKit Go.Proofs.YthnjkmjcacoajaaW.PrintWords Go.Proofs.YthnjkmjcacoajaaW.PrintLast Go.Proofs.YthnjkmjcacoajaaW.PrintMore Go.Proofs.Ythnjkmjcacoajaa.Base Go.Proofs.Ythnjkmjcacoajaa.Arr
open Go.Proofs.Ythnjkmjcacoajaa.Dk (DS DiskIs DiskTo writeF flushF doingF secOf newS goneS crashF failP)
set_option linter.unusedVariables false
set_option linter.unusedSimpArgs false

theorem XFail {W : World} {H : Nat} {ok : Nat → Prop} {g gj : Nat} {d : DS} {s : JS} (h : JD W H ok g gj d s) (hd : d.dead = false) (n bits cut : Int) (hn : n ≤ 9223372036854775807) :
    Calls Try.prog 46 #[.pointer (some ⟨g, 0, none⟩), .int .i64 n, .int .u64 bits, .int .i64 cut] W fun e W' => e = .returned (.int .i64 0) ∧ JTo W W' H ok g gj { d with plan := failP n bits cut } s := by
  obtain ⟨okd, h1, h2, h3, h4⟩ := (JTo.start h).disk
  exact (Dk.Fail_calls W H okd g d h1 h2 hd n bits cut hn).mono fun e W' ⟨he, ht⟩ => ⟨he, h4 W' _ ht⟩
theorem XBoot {W : World} {H : Nat} {ok : Nat → Prop} {g gj : Nat} {d : DS} {s : JS} (h : JD W H ok g gj d s) :
    Calls Try.prog 18 #[.pointer (some ⟨g, 0, none⟩)] W fun e W' => e = .returned (.int .i64 0) ∧ JTo W W' H ok g gj (upS d) s := by
  obtain ⟨okd, h1, h2, h3, h4⟩ := (JTo.start h).disk
  exact (Dk.Boot_calls W H okd g d h1).mono fun e W' ⟨he, ht⟩ => ⟨he, h4 W' _ ht⟩
theorem XCrash {W : World} {H : Nat} {ok : Nat → Prop} {g gj : Nat} {d : DS} {s : JS} (h : JD W H ok g gj d s) (hw : d.waits.length ≤ 1000000) (bits cut : Int) :
    Calls Try.prog 17 #[.pointer (some ⟨g, 0, none⟩), .int .u64 bits, .int .i64 cut] W fun e W' => e = .returned (.int .i64 (crashF d bits cut).1) ∧ JTo W W' H ok g gj (crashF d bits cut).2 s := by
  obtain ⟨okd, h1, h2, h3, h4⟩ := (JTo.start h).disk
  exact (Dk.Crash_calls W H okd g d h1 h2 hw bits cut).mono fun e W' ⟨he, ht⟩ => ⟨he, h4 W' _ ht⟩
theorem XDead {W : World} {H : Nat} {ok : Nat → Prop} {g gj : Nat} {d : DS} {s : JS} (h : JD W H ok g gj d s) :
    Calls Try.prog 41 #[.pointer (some ⟨g, 0, none⟩)] W fun e W' => e = .returned (.bool d.dead) ∧ W = W' := by
  obtain ⟨okd, h1, h2, h3, h4⟩ := (JTo.start h).disk
  exact Dk.Dead_calls W H okd g d h1
theorem XLen {W : World} {H : Nat} {ok : Nat → Prop} {g gj : Nat} {d : DS} {s : JS} (h : JD W H ok g gj d s) : Calls Try.prog 12 #[.pointer (some ⟨gj, 0, none⟩)] W fun e W' => e = .returned (.int .i64 s.count) ∧ W = W' := by
  obtain ⟨okd, okj, _, h2, _⟩ := h
  exact Len_calls W H okj g gj s h2
theorem XSynced {W : World} {H : Nat} {ok : Nat → Prop} {g gj : Nat} {d : DS} {s : JS} (h : JD W H ok g gj d s) : Calls Try.prog 13 #[.pointer (some ⟨gj, 0, none⟩)] W fun e W' => e = .returned (.int .i64 s.synced) ∧ W = W' := by
  obtain ⟨okd, okj, _, h2, _⟩ := h
  exact Synced_calls W H okj g gj s h2
theorem XRoom {W : World} {H : Nat} {ok : Nat → Prop} {g gj : Nat} {d : DS} {s : JS} (h : JD W H ok g gj d s) (hw : s.waits.length ≤ 1000000) (hu : 0 ≤ s.used ∧ s.used ≤ 1000000) : Calls Try.prog 9 #[.pointer (some ⟨gj, 0, none⟩)] W fun e W' => e = .returned (.int .i64 (secN d.n - s.used - cntN s.waits.length)) ∧ Drawn0 W W' := by
  obtain ⟨okd, okj, h3, h2, _⟩ := h
  exact Room_calls W H okd okj g gj d s h3 h2 hw hu
/-- Open, beside whatever journal was there -/
theorem XOpen {W : World} {H : Nat} {ok : Nat → Prop} {g gj : Nat} {d d' : DS} {s s' : JS} {out : List (List Int)} (h : JD W H ok g gj d s) (hb : Secs (rowsD d)) (hw : d.waits.length ≤ 500000) (ho : openF d = (0, d', some (s', out))) :
    Calls Try.prog 22 #[.pointer (some ⟨g, 0, none⟩)] W fun e W' => ∃ gj2 v, e = .returned (.tuple #[.pointer (some ⟨gj2, 0, none⟩), v, .int .i64 0]) ∧ Below H W W' ∧ Kept W W' ok ∧ ∃ ok', (∀ k, ok' k → (ok k ∨ W.heap.size ≤ k) ∧ k < W'.heap.size) ∧ JD W' H ok' g gj2 d' s' ∧ Kd.R (Kd.slice 5 (Kd.int .u8)) 31 W' W.heap.size (fun k => ¬ ok' k) v out := by
  obtain ⟨okd, okj, h1, h2, h3, h4, h5, h6⟩ := h
  refine (Open_calls W H okd g d h1 (fun k hk => (h3 k hk).2) h6 hb hw).mono fun e W' hp => ?_
  rw [ho] at hp
  obtain ⟨gj2, v, e1, e2, e3, ok', e4, e5, e6⟩ := hp
  exact ⟨gj2, v, e1, e2, e3.mono (fun k hk => (h3 k hk).1), ok', fun k hk => ⟨(e4 k hk).1.imp (fun q => (h3 k q).1) id, (e4 k hk).2⟩, e5, e6⟩
/-- a world after Open: the rows that it brought, and those that were there -/
theorem XC.opened {w0 W W1 : World} {ok ok1 : Nat → Prop} {bx g gj : Nat} {vl : Value} {m : Int} {vp : Value} {l pt out : List (List Int)} {v : Value} (h : XC w0 W ok bx g gj vl m vp l pt) (hb : Below w0.heap.size W W1) (hk : Kept W W1 ok) (hs : ∀ k, ok1 k → (ok k ∨ W.heap.size ≤ k) ∧ k < W1.heap.size) (hr : Kd.R (Kd.slice 5 (Kd.int .u8)) 31 W1 W.heap.size (fun k => ¬ ok1 k) v out) : XC w0 W1 ok1 bx g gj vl m vp l pt ∧ ∃ hs, XRows W1 (fun k => ok1 k ∨ k = bx) v hs out := by
  have hlt := h.row.lt
  exact ⟨h.keep hb hk hs, XRows.ofR hr (fun k q => q.imp id (fun r => by omega))⟩
theorem Down.plan {d : DS} {g e : Nat} {out : List (List Int)} (h : Down d g e out) (p : Option (Int × Int × Int)) : Down { d with plan := p } g e out := ⟨⟨h.calm.dead, h.calm.waits, h.calm.len, h.calm.n1, h.calm.n2⟩, h.n6, h.r⟩
theorem Down.secs {d : DS} {g e : Nat} {out : List (List Int)} (h : Down d g e out) : Secs (rowsD d) := h.r.sd.secs (calm_len d)
theorem Down.w0 {d : DS} {g e : Nat} {out : List (List Int)} (h : Down d g e out) : d.waits.length ≤ 500000 := by rw [h.calm.waits]; exact Nat.zero_le _
/-- payload i of so many bytes -/
def payF (i : Int) (k : Nat) : List Int := (i % 256) :: (i / 256 % 256) :: List.replicate k 0
theorem payF_len (i : Int) (k : Nat) : (payF i k).length = 2 + k := by unfold payF; simp; omega
theorem payF_bytes (i : Int) (k : Nat) : Ext.Bytes (payF i k) := fun x hx => by
  unfold payF at hx
  rcases List.mem_cons.1 hx with rfl | hx
  · omega
  · rcases List.mem_cons.1 hx with rfl | hx
    · omega
    · rw [List.eq_of_mem_replicate hx]; decide
set_option maxHeartbeats 4000000 in
set_option maxRecDepth 100000 in
theorem payload_calls (w : World) (i n : Int) (hi : 0 ≤ i ∧ i < 100) : ∃ k : Nat, k < 90 ∧ Calls Try.prog 47 #[.int .i64 i, .int .i64 n] w fun e w' => ∃ b, e = .returned (.slice (some ⟨b, 0, none⟩) (2 + k) (2 + k)) ∧ Below w.heap.size w w' ∧ w.heap.size ≤ b ∧ HoldsRow w' b 5 (rowK .u8 (payF i k)) := by
  obtain ⟨k, hk, hB⟩ := LBring n 90 (by decide) (by decide)
  refine ⟨k, hk, ?_⟩
  have HB := Aside0.mk hB
  clear hB
  go_enter Try.func47, Try.ntmps47
  go_wp2_with fail
  refine (HB.out w).mono ?_
  rintro e w3 ⟨rfl, hd3⟩
  have HD := Aside0.mk hd3.below
  clear hd3
  have hmk := make_n (2 + k) (by omega) w3
  rw [show ((2 + k : Nat) : Int) = 2 + (k : Int) by omega, show List.replicate (2 + k) (0 : Int) = 0 :: 0 :: List.replicate k 0 by rw [show 2 + k = k + 1 + 1 by omega]; rfl] at hmk
  obtain ⟨a0, ha0⟩ : ∃ a0, a0 = rowK .u8 (0 :: 0 :: List.replicate k 0) := ⟨_, rfl⟩
  rw [← ha0] at hmk
  have z0 : a0[0]? = some (.int .u8 0) := by rw [ha0]; rfl
  have z1 : a0[1]? = some (.int .u8 0) := by rw [ha0]; rfl
  have b0 := eq_true (show (0 : Int) < 2 + (k : Int) by omega)
  have b1 := eq_true (show (1 : Int) < 2 + (k : Int) by omega)
  go_wp2_with fail
  go_ret
  refine ⟨w3.heap.size, rfl, HD.out.trans ((below_alloc (Below.refl _ _) _).mono HD.out.size), HD.out.size, ?_⟩
  have e : rowK .u8 (payF i k) = ((rowK .u8 (0 :: 0 :: List.replicate k 0)).setIfInBounds 0 (.int .u8 i)).setIfInBounds 1 (.int .u8 (i / 256)) := by
    rw [rowK_set, rowK_set]
    unfold payF
    rw [show i % 256 = i by omega, show i / 256 % 256 = i / 256 by omega]
    rfl
  rw [e]
  exact HoldsRow.new _ _ _
end Go.Proofs.Ythnjkmjcacoajaa.Jn
end

section
/- (*world).fell answers true, walked with the plain law at hand. Conditions: as its theorem says. -/
namespace Go.Proofs.Ythnjkmjcacoajaa.Jn
open Go Go.RowKit Go.Proofs.YthnjkmjcacoajaaW.PrintWords Go.Proofs.YthnjkmjcacoajaaW.PrintLast Go.Proofs.YthnjkmjcacoajaaW.PrintMore Go.Proofs.Ythnjkmjcacoajaa.Base Go.Proofs.Ythnjkmjcacoajaa.Arr
open Go.Proofs.Ythnjkmjcacoajaa.Dk (DS DiskIs DiskTo writeF flushF doingF secOf newS goneS crashF failP)
set_option linter.unusedVariables false
set_option linter.unusedSimpArgs false

theorem run_neq_nil (w : World) (a : Option Addr) (n c : Nat) : (binOp .neq 37 (.slice a n c) (.slice none 0 0)).run Try.prog w = .ok (.bool (!a.isNone)) w := by
  simp only [binOp]
  simp [Op.equal, Op.maxDepth, Lib.run_equalIn_slice_nil (P := Try.prog) w 9999 37 31 a n c 0 0 Try.underlying37]
/-- a world after a fall, opened anew -/
def Rose (w0 W : World) (bx g : Nat) (d : DS) (ge e : Nat) (out : List (List Int)) (e0 : Ending) : Prop :=
  e0 = .returned (.bool true) ∧ ∃ (ok : Nat → Prop) (gj : Nat) (vl vp : Value) (pt : List (List Int)) (s : JS), JD W w0.heap.size ok g gj d s ∧ XC w0 W ok bx g gj vl (out.length : Int) vp out pt ∧ Live d s out out.length ∧ s.gen = (ge : Int) ∧ s.epoch.toNat / 16777216 ≤ e / 16777216 + 1
theorem rose_set {w0 W : World} {ok : Nat → Prop} {bx g gj gx : Nat} {vl vp v : Value} {m : Int} {l pt out : List (List Int)} {d : DS} {s : JS} {ge e : Nat} (hJ : JD W w0.heap.size ok g gj d s) (hX : XC w0 W ok bx g gx vl m vp l pt) (hv : ∃ hs, XRows W (fun k => ok k ∨ k = bx) v hs out) (hL : Live d s out out.length) (hg : s.gen = (ge : Int)) (he : s.epoch.toNat / 16777216 ≤ e / 16777216 + 1) :
    Rose w0 (((W.setCell ⟨bx, 1, none⟩ (.pointer (some ⟨gj, 0, none⟩))).setCell ⟨bx, 2, none⟩ v).setCell ⟨bx, 3, none⟩ (.int .i64 (out.length : Int))) bx g d ge e out (.returned (.bool true)) := by
  have x1 := hX.set (gj2 := gj) (vl2 := vl) (m2 := m) (vp2 := vp) 1 (.pointer (some ⟨gj, 0, none⟩)) rfl hX.l hX.p
  have j1 := hJ.set hX 1 (.pointer (some ⟨gj, 0, none⟩))
  have hk1 : Kept W (W.setCell ⟨bx, 1, none⟩ (.pointer (some ⟨gj, 0, none⟩))) (fun k => ok k ∨ k = bx) := ⟨by simp [World.setCell], fun k _ hn => Below.heap_setCell W ⟨bx, 1, none⟩ _ k (fun e => hn (.inr e))⟩
  have hv1 : ∃ hs, XRows (W.setCell ⟨bx, 1, none⟩ (.pointer (some ⟨gj, 0, none⟩))) (fun k => ok k ∨ k = bx) v hs out := hv.imp fun _ q => q.keep hk1 (fun k r => .inl r)
  have x2 := x1.set (gj2 := gj) (vl2 := v) (m2 := m) (vp2 := vp) 2 v rfl hv1 x1.p
  have j2 := j1.set x1 2 v
  have x3 := x2.set (gj2 := gj) (vl2 := v) (m2 := (out.length : Int)) (vp2 := vp) 3 (.int .i64 (out.length : Int)) rfl x2.l x2.p
  have j3 := j2.set x2 3 (.int .i64 (out.length : Int))
  exact ⟨rfl, ok, gj, v, vp, pt, s, j3, x3, hL, hg, he⟩
/-- what Open may find there -/
def Found (l pt out : List (List Int)) (m : Nat) : Prop := (∃ q, m ≤ q ∧ q ≤ l.length ∧ out = l.take q) ∨ (pt ≠ [] ∧ out = pt)
set_option maxHeartbeats 8000000 in
set_option maxRecDepth 100000 in
theorem fell_calls (w0 W : World) (ok : Nat → Prop) (bx g gj gx : Nat) (vl vp : Value) (m : Nat) (l pt out : List (List Int)) (d : DS) (s : JS) (ge e : Nat) (hJ : JD W w0.heap.size ok g gj d s) (hX : XC w0 W ok bx g gx vl (m : Int) vp l pt) (hD : Down (upS d) ge e out) (he : e / 16777216 ≤ 253) (hF : Found l pt out m) (hp : (pt = [] ∧ vp = .slice none 0 0) ∨ pt.length = 1) (hll : l.length ≤ 1000000) (hsl : Short l) (hsp : Short pt) (bits cut thn : Int) :
    Calls Try.prog 24 #[.pointer (some ⟨bx, 0, none⟩), .int .u64 bits, .int .i64 cut, .int .i64 thn] W fun e0 W' => Rose w0 W' bx g (upS d) ge e out e0 := by
  obtain ⟨k, hk, hB⟩ := LBring thn 5 (by decide) (by decide)
  have HB := Aside0.mk hB
  have HJ := Aside0.mk hJ
  have HX := Aside0.mk hX
  have HD := Aside0.mk hD
  have HEB := Aside0.mk he
  have HF := Aside0.mk hF
  have HP := Aside0.mk hp
  have HBL := Aside0.mk hll
  have HSL := Aside0.mk hsl
  have HSP := Aside0.mk hsp
  obtain ⟨c0, c1, c2, c3, c4⟩ := hX.cells
  clear hB hJ hX hD he hF hp hll hsl hsp c1 c2 c3 c4
  go_enter Try.func24, Try.ntmps24
  go_wp2_with fail
  refine (XBoot HJ.out).mono ?_
  rintro e1 w1 ⟨rfl, ht1⟩
  obtain ⟨ok1, hj1, hx1⟩ := HX.out.jto ht1
  have HJ1 := Aside0.mk hj1
  have HX1 := Aside0.mk hx1
  clear ht1 hj1 hx1 HJ HX c0
  go_wp2_with fail
  refine (HB.out w1).mono ?_
  rintro e2 w2 ⟨rfl, hd2⟩
  have HJ2 := Aside0.mk (HJ1.out.below hd2.below)
  have HX2 := Aside0.mk (HX1.out.below hd2.below)
  clear hd2 HJ1 HX1 HB
  obtain ⟨c0, c1, c2, c3, c4⟩ := HX2.out.cells
  by_cases hk0 : k = 0
  · subst hk0
    go_wp2_with fail
    have hop := open_down HD.out HEB.out
    obtain ⟨s5, ho5, hl5, hg5, he5, hc5, hs5⟩ := hop
    have HOP := Aside0.mk (XOpen HJ2.out HD.out.secs HD.out.w0 ho5)
    have H5 := Aside0.mk (And.intro hl5 (And.intro hg5 (And.intro he5 (And.intro hc5 hs5))))
    clear ho5 hl5 hg5 he5 hc5 hs5
    refine HOP.out.mono ?_
    rintro e w5 ⟨gj5, v5, rfl, hb5, hk5, ok5, hs5, hj5, hr5⟩
    have hxo := HX2.out.opened hb5 hk5 hs5 hr5
    obtain ⟨A5, z5, rfl⟩ := Kd.R_slice hr5
    have HR5 := Aside0.mk (Kd.R_reads' hr5)
    have HJ5 := Aside0.mk hj5
    have HX5 := Aside0.mk hxo.1
    have HV5 := Aside0.mk hxo.2
    clear hb5 hk5 hs5 hj5 hr5 hxo c0 c1 c2 c3 c4 HOP
    go_wp2_with fail
    refine (XLen HJ5.out).mono ?_
    rw [H5.out.2.2.2.1]
    rintro e w6 ⟨rfl, rfl⟩
    go_wp2_with fail
    refine (XSynced HJ5.out).mono ?_
    rw [H5.out.2.2.2.2]
    rintro e w6 ⟨rfl, rfl⟩
    obtain ⟨c0, c1, c2, c3, c4⟩ := HX5.out.cells
    obtain ⟨hsl5, hxl5⟩ := HX5.out.l
    obtain ⟨Al, cl, rfl, hcl, hCl, -⟩ := hxl5.C
    have HLC := Aside0.mk (And.intro hcl hCl)
    have HSO := Aside0.mk (pay_short HD.out.r.pay (by
      rcases HF.out with ⟨q, -, -, hq⟩ | ⟨-, hq⟩
      · rw [hq, List.length_take]
        have := HBL.out
        omega
      · have := HP.out
        rw [hq]
        rcases this with h | h
        · rw [h.1]; exact Nat.zero_le _
        · omega))
    clear hxl5 hcl hCl
    rcases HP.out with ⟨hpn, rfl⟩ | hp1
    · have HNE := Aside0.mk (show ¬ (pt ≠ [] ∧ out = pt) from fun q => q.1 hpn)
      clear hpn
      have hnn := fun (W : World) => run_neq_nil W none 0 0
      obtain ⟨q, hq1, hq2, hq3⟩ := HF.out.resolve_right HNE.out
      have hol : out.length = q := by rw [hq3, List.length_take]; omega
      have b5 : decide ((out.length : Int) < (m : Int)) = false := decide_eq_false (by omega)
      have b6 : decide (out.length < m) = false := decide_eq_false (by omega)
      have b7 : decide ((l.length : Int) < (out.length : Int)) = false := decide_eq_false (by omega)
      have b8 : decide (l.length < out.length) = false := decide_eq_false (by omega)
      obtain ⟨i0, hi0, -, hsz0, -⟩ := info_parts infoRow
      have hcut := cut_to (P := Try.prog) 37 31 .i64 Try.underlying37 hi0 Al l.length cl (out.length : Int) (by omega) (by omega) (by have := HLC.out.1; omega)
      rw [Int.toNat_natCast] at hcut
      have htk : l.take out.length = out := by rw [hol]; exact hq3.symm
      have HTK := Aside0.mk htk
      have htC := Go.Proofs.YthnjkmjcacoajaaW.PrintWords.Kd.C_take HLC.out.2 (show out.length ≤ l.length by omega)
      rw [htk] at htC
      have HTC := Aside0.mk htC
      clear hq3 hol hq1 hq2 htk htC hi0 hsz0
      go_wp2_with fail
      refine (same_calls w5 A5 z5 out Al cl out HR5.out.2.2 HTC.out HSO.out HSO.out).mono ?_
      rw [decide_eq_true rfl]
      rintro e w7 ⟨rfl, hd7⟩
      have HJ7 := Aside0.mk (HJ5.out.below hd7.below)
      have HX7 := Aside0.mk (HX5.out.below hd7.below)
      have HV7 := Aside0.mk (HV5.out.imp fun _ q => q.keep (Kept.of_below hd7.below _) (fun k r => .inl r))
      clear hd7
      obtain ⟨c0, c1, c2, c3, c4⟩ := HX7.out.cells
      have z1 := HX7.out.row.free 1
      have z2 := HX7.out.row.free 2
      have z3 := HX7.out.row.free 3
      go_wp2_with fail
      go_ret
      exact rose_set HJ7.out HX7.out HV7.out H5.out.1 H5.out.2.1 H5.out.2.2.1
    · obtain ⟨hsp5, hxp5⟩ := HX5.out.p
      obtain ⟨Ap, cp, rfl, hcp, hCp, -⟩ := hxp5.C
      obtain ⟨ap, rfl, -⟩ := hCp.2.2 (by omega)
      have HPC := Aside0.mk hCp
      have HP1 := Aside0.mk hp1
      clear hcp hCp hxp5 hp1
      have hnn := fun (W : World) => run_neq_nil W (some ap) pt.length cp
      go_wp2_with fail
      refine (same_calls w5 A5 z5 out (some ap) cp pt HR5.out.2.2 HPC.out HSO.out HSP.out).mono ?_
      rintro e w6 ⟨rfl, hd6⟩
      have HJ6 := Aside0.mk (HJ5.out.below hd6.below)
      have HX6 := Aside0.mk (HX5.out.below hd6.below)
      have HV6 := Aside0.mk (HV5.out.imp fun _ q => q.keep (Kept.of_below hd6.below _) (fun k r => .inl r))
      have HR6 := Aside0.mk (Kd.C_below HR5.out.2.2 hd6.below)
      have HL6 := Aside0.mk (Kd.C_below HLC.out.2 hd6.below)
      clear hd6 c0 c1 c2 c3 c4
      obtain ⟨c0, c1, c2, c3, c4⟩ := HX6.out.cells
      by_cases hoe : out = pt
      · rw [decide_eq_true hoe]
        have z1 := HX6.out.row.free 1
        have z2 := HX6.out.row.free 2
        have z3 := HX6.out.row.free 3
        clear hoe
        go_wp2_with fail
        go_ret
        exact rose_set HJ6.out HX6.out HV6.out H5.out.1 H5.out.2.1 H5.out.2.2.1
      · rw [decide_eq_false hoe]
        have HNE := Aside0.mk (show ¬ (pt ≠ [] ∧ out = pt) from fun q => hoe q.2)
        clear hoe
        obtain ⟨q, hq1, hq2, hq3⟩ := HF.out.resolve_right HNE.out
        have hol : out.length = q := by rw [hq3, List.length_take]; omega
        have b5 : decide ((out.length : Int) < (m : Int)) = false := decide_eq_false (by omega)
        have b6 : decide (out.length < m) = false := decide_eq_false (by omega)
        have b7 : decide ((l.length : Int) < (out.length : Int)) = false := decide_eq_false (by omega)
        have b8 : decide (l.length < out.length) = false := decide_eq_false (by omega)
        obtain ⟨i0, hi0, -, hsz0, -⟩ := info_parts infoRow
        have hcut := cut_to (P := Try.prog) 37 31 .i64 Try.underlying37 hi0 Al l.length cl (out.length : Int) (by omega) (by omega) (by have := HLC.out.1; omega)
        rw [Int.toNat_natCast] at hcut
        have htk : l.take out.length = out := by rw [hol]; exact hq3.symm
        have HTK := Aside0.mk htk
        have htC := Go.Proofs.YthnjkmjcacoajaaW.PrintWords.Kd.C_take HL6.out (show out.length ≤ l.length by omega)
        rw [htk] at htC
        have HTC := Aside0.mk htC
        clear hq3 hol hq1 hq2 htk htC hi0 hsz0
        go_wp2_with fail
        refine (same_calls w6 A5 z5 out Al cl out HR6.out HTC.out HSO.out HSO.out).mono ?_
        rw [decide_eq_true rfl]
        rintro e w7 ⟨rfl, hd7⟩
        have HJ7 := Aside0.mk (HJ6.out.below hd7.below)
        have HX7 := Aside0.mk (HX6.out.below hd7.below)
        have HV7 := Aside0.mk (HV6.out.imp fun _ q => q.keep (Kept.of_below hd7.below _) (fun k r => .inl r))
        clear hd7
        obtain ⟨c0, c1, c2, c3, c4⟩ := HX7.out.cells
        have z1 := HX7.out.row.free 1
        have z2 := HX7.out.row.free 2
        have z3 := HX7.out.row.free 3
        go_wp2_with fail
        go_ret
        exact rose_set HJ7.out HX7.out HV7.out H5.out.1 H5.out.2.1 H5.out.2.2.1
  · have b1 : decide ((0 : Int) < (k : Int)) = true := decide_eq_true (by omega)
    have b2 : decide (0 < k) = true := decide_eq_true (by omega)
    go_wp2_with fail
    refine (XFail HJ2.out HD.out.calm.dead _ _ _ (by omega)).mono ?_
    rintro e3 w3 ⟨rfl, ht3⟩
    obtain ⟨P, hP⟩ : ∃ P, P = failP ((k : Int) - 1) (bits / 128) (wrap64 (cut + 9)) := ⟨_, rfl⟩
    rw [← hP] at ht3
    obtain ⟨ok3, hj3, hx3⟩ := HX2.out.jto ht3
    have HJ3 := Aside0.mk hj3
    have HX3 := Aside0.mk hx3
    clear ht3 hj3 hx3 HJ2 HX2 c0 c1 c2 c3 c4 hP
    have HD3 := Aside0.mk (HD.out.plan P)
    obtain ⟨s4, ho4, -⟩ := open_down HD3.out HEB.out
    have HOP4 := Aside0.mk (XOpen HJ3.out HD3.out.secs HD3.out.w0 ho4)
    clear ho4
    obtain ⟨c0, c1, c2, c3, c4⟩ := HX3.out.cells
    go_wp2_with fail
    refine HOP4.out.mono ?_
    rintro e4 w4 ⟨gj4, v4, rfl, hb4, hk4, ok4, hs4, hj4, hr4⟩
    have HJ4 := Aside0.mk hj4
    have HX4 := Aside0.mk (HX3.out.opened hb4 hk4 hs4 hr4).1
    clear hb4 hk4 hs4 hj4 hr4 HOP4 HX3 HJ3 c0 c1 c2 c3 c4
    obtain ⟨c0, c1, c2, c3, c4⟩ := HX4.out.cells
    go_wp2_with fail
    refine (XBoot HJ4.out).mono ?_
    rintro e8 w8 ⟨rfl, ht8⟩
    obtain ⟨ok8, hj8, hx8⟩ := HX4.out.jto ht8
    have HJ8 := Aside0.mk (show JD w8 w0.heap.size ok8 g gj4 (upS d) s4 from hj8)
    have HX8 := Aside0.mk hx8
    clear ht8 hj8 hx8 HX4 HJ4 c0 c1 c2 c3 c4 HD3
    obtain ⟨c0, c1, c2, c3, c4⟩ := HX8.out.cells
    go_wp2_with fail
    have hop := open_down HD.out HEB.out
    obtain ⟨s5, ho5, hl5, hg5, he5, hc5, hs5⟩ := hop
    have HOP := Aside0.mk (XOpen HJ8.out HD.out.secs HD.out.w0 ho5)
    have H5 := Aside0.mk (And.intro hl5 (And.intro hg5 (And.intro he5 (And.intro hc5 hs5))))
    clear ho5 hl5 hg5 he5 hc5 hs5
    refine HOP.out.mono ?_
    rintro e w5 ⟨gj5, v5, rfl, hb5, hk5, ok5, hs5, hj5, hr5⟩
    have hxo := HX8.out.opened hb5 hk5 hs5 hr5
    obtain ⟨A5, z5, rfl⟩ := Kd.R_slice hr5
    have HR5 := Aside0.mk (Kd.R_reads' hr5)
    have HJ5 := Aside0.mk hj5
    have HX5 := Aside0.mk hxo.1
    have HV5 := Aside0.mk hxo.2
    clear hb5 hk5 hs5 hj5 hr5 hxo c0 c1 c2 c3 c4 HOP
    go_wp2_with fail
    refine (XLen HJ5.out).mono ?_
    rw [H5.out.2.2.2.1]
    rintro e w6 ⟨rfl, rfl⟩
    go_wp2_with fail
    refine (XSynced HJ5.out).mono ?_
    rw [H5.out.2.2.2.2]
    rintro e w6 ⟨rfl, rfl⟩
    obtain ⟨c0, c1, c2, c3, c4⟩ := HX5.out.cells
    obtain ⟨hsl5, hxl5⟩ := HX5.out.l
    obtain ⟨Al, cl, rfl, hcl, hCl, -⟩ := hxl5.C
    have HLC := Aside0.mk (And.intro hcl hCl)
    have HSO := Aside0.mk (pay_short HD.out.r.pay (by
      rcases HF.out with ⟨q, -, -, hq⟩ | ⟨-, hq⟩
      · rw [hq, List.length_take]
        have := HBL.out
        omega
      · have := HP.out
        rw [hq]
        rcases this with h | h
        · rw [h.1]; exact Nat.zero_le _
        · omega))
    clear hxl5 hcl hCl
    rcases HP.out with ⟨hpn, rfl⟩ | hp1
    · have HNE := Aside0.mk (show ¬ (pt ≠ [] ∧ out = pt) from fun q => q.1 hpn)
      clear hpn
      have hnn := fun (W : World) => run_neq_nil W none 0 0
      obtain ⟨q, hq1, hq2, hq3⟩ := HF.out.resolve_right HNE.out
      have hol : out.length = q := by rw [hq3, List.length_take]; omega
      have b5 : decide ((out.length : Int) < (m : Int)) = false := decide_eq_false (by omega)
      have b6 : decide (out.length < m) = false := decide_eq_false (by omega)
      have b7 : decide ((l.length : Int) < (out.length : Int)) = false := decide_eq_false (by omega)
      have b8 : decide (l.length < out.length) = false := decide_eq_false (by omega)
      obtain ⟨i0, hi0, -, hsz0, -⟩ := info_parts infoRow
      have hcut := cut_to (P := Try.prog) 37 31 .i64 Try.underlying37 hi0 Al l.length cl (out.length : Int) (by omega) (by omega) (by have := HLC.out.1; omega)
      rw [Int.toNat_natCast] at hcut
      have htk : l.take out.length = out := by rw [hol]; exact hq3.symm
      have HTK := Aside0.mk htk
      have htC := Go.Proofs.YthnjkmjcacoajaaW.PrintWords.Kd.C_take HLC.out.2 (show out.length ≤ l.length by omega)
      rw [htk] at htC
      have HTC := Aside0.mk htC
      clear hq3 hol hq1 hq2 htk htC hi0 hsz0
      go_wp2_with fail
      refine (same_calls w5 A5 z5 out Al cl out HR5.out.2.2 HTC.out HSO.out HSO.out).mono ?_
      rw [decide_eq_true rfl]
      rintro e w7 ⟨rfl, hd7⟩
      have HJ7 := Aside0.mk (HJ5.out.below hd7.below)
      have HX7 := Aside0.mk (HX5.out.below hd7.below)
      have HV7 := Aside0.mk (HV5.out.imp fun _ q => q.keep (Kept.of_below hd7.below _) (fun k r => .inl r))
      clear hd7
      obtain ⟨c0, c1, c2, c3, c4⟩ := HX7.out.cells
      have z1 := HX7.out.row.free 1
      have z2 := HX7.out.row.free 2
      have z3 := HX7.out.row.free 3
      go_wp2_with fail
      go_ret
      exact rose_set HJ7.out HX7.out HV7.out H5.out.1 H5.out.2.1 H5.out.2.2.1
    · obtain ⟨hsp5, hxp5⟩ := HX5.out.p
      obtain ⟨Ap, cp, rfl, hcp, hCp, -⟩ := hxp5.C
      obtain ⟨ap, rfl, -⟩ := hCp.2.2 (by omega)
      have HPC := Aside0.mk hCp
      have HP1 := Aside0.mk hp1
      clear hcp hCp hxp5 hp1
      have hnn := fun (W : World) => run_neq_nil W (some ap) pt.length cp
      go_wp2_with fail
      refine (same_calls w5 A5 z5 out (some ap) cp pt HR5.out.2.2 HPC.out HSO.out HSP.out).mono ?_
      rintro e w6 ⟨rfl, hd6⟩
      have HJ6 := Aside0.mk (HJ5.out.below hd6.below)
      have HX6 := Aside0.mk (HX5.out.below hd6.below)
      have HV6 := Aside0.mk (HV5.out.imp fun _ q => q.keep (Kept.of_below hd6.below _) (fun k r => .inl r))
      have HR6 := Aside0.mk (Kd.C_below HR5.out.2.2 hd6.below)
      have HL6 := Aside0.mk (Kd.C_below HLC.out.2 hd6.below)
      clear hd6 c0 c1 c2 c3 c4
      obtain ⟨c0, c1, c2, c3, c4⟩ := HX6.out.cells
      by_cases hoe : out = pt
      · rw [decide_eq_true hoe]
        have z1 := HX6.out.row.free 1
        have z2 := HX6.out.row.free 2
        have z3 := HX6.out.row.free 3
        clear hoe
        go_wp2_with fail
        go_ret
        exact rose_set HJ6.out HX6.out HV6.out H5.out.1 H5.out.2.1 H5.out.2.2.1
      · rw [decide_eq_false hoe]
        have HNE := Aside0.mk (show ¬ (pt ≠ [] ∧ out = pt) from fun q => hoe q.2)
        clear hoe
        obtain ⟨q, hq1, hq2, hq3⟩ := HF.out.resolve_right HNE.out
        have hol : out.length = q := by rw [hq3, List.length_take]; omega
        have b5 : decide ((out.length : Int) < (m : Int)) = false := decide_eq_false (by omega)
        have b6 : decide (out.length < m) = false := decide_eq_false (by omega)
        have b7 : decide ((l.length : Int) < (out.length : Int)) = false := decide_eq_false (by omega)
        have b8 : decide (l.length < out.length) = false := decide_eq_false (by omega)
        obtain ⟨i0, hi0, -, hsz0, -⟩ := info_parts infoRow
        have hcut := cut_to (P := Try.prog) 37 31 .i64 Try.underlying37 hi0 Al l.length cl (out.length : Int) (by omega) (by omega) (by have := HLC.out.1; omega)
        rw [Int.toNat_natCast] at hcut
        have htk : l.take out.length = out := by rw [hol]; exact hq3.symm
        have HTK := Aside0.mk htk
        have htC := Go.Proofs.YthnjkmjcacoajaaW.PrintWords.Kd.C_take HL6.out (show out.length ≤ l.length by omega)
        rw [htk] at htC
        have HTC := Aside0.mk htC
        clear hq3 hol hq1 hq2 htk htC hi0 hsz0
        go_wp2_with fail
        refine (same_calls w6 A5 z5 out Al cl out HR6.out HTC.out HSO.out HSO.out).mono ?_
        rw [decide_eq_true rfl]
        rintro e w7 ⟨rfl, hd7⟩
        have HJ7 := Aside0.mk (HJ6.out.below hd7.below)
        have HX7 := Aside0.mk (HX6.out.below hd7.below)
        have HV7 := Aside0.mk (HV6.out.imp fun _ q => q.keep (Kept.of_below hd7.below _) (fun k r => .inl r))
        clear hd7
        obtain ⟨c0, c1, c2, c3, c4⟩ := HX7.out.cells
        have z1 := HX7.out.row.free 1
        have z2 := HX7.out.row.free 2
        have z3 := HX7.out.row.free 3
        go_wp2_with fail
        go_ret
        exact rose_set HJ7.out HX7.out HV7.out H5.out.1 H5.out.2.1 H5.out.2.2.1
end Go.Proofs.Ythnjkmjcacoajaa.Jn
end

section
/- (*world).do answers true, walked with the plain law at hand. Conditions: as its theorem says. -/
namespace Go.Proofs.Ythnjkmjcacoajaa.Jn
open Go Go.RowKit Go.Proofs.YthnjkmjcacoajaaW.PrintWords Go.Proofs.YthnjkmjcacoajaaW.PrintLast Go.Proofs.YthnjkmjcacoajaaW.PrintMore Go.Proofs.Ythnjkmjcacoajaa.Base Go.Proofs.Ythnjkmjcacoajaa.Arr
open Go.Proofs.Ythnjkmjcacoajaa.Dk (DS DiskIs DiskTo writeF flushF doingF secOf newS goneS crashF failP)
open Go.Proofs.Ythnjkmjcacoajaa.FrameLink (pk)
set_option linter.unusedVariables false
set_option linter.unusedSimpArgs false

/-- the journal behind i deeds -/
structure Ran (i : Nat) (d : DS) (s : JS) (l : List (List Int)) (m : Nat) : Prop where
  live : Live d s l m
  plan : d.plan = none
  gn : s.gen ≤ (i : Int) + 1
  ep : s.epoch.toNat / 16777216 ≤ 128 + i
  ln : l.length ≤ i
/-- the world behind i deeds -/
def At (w0 W : World) (bx g : Nat) (i : Nat) : Prop := ∃ (ok : Nat → Prop) (gj : Nat) (vl vp : Value) (d : DS) (s : JS) (l pt : List (List Int)) (m : Nat), JD W w0.heap.size ok g gj d s ∧ XC w0 W ok bx g gj vl (m : Int) vp l pt ∧ Ran i d s l m
/-- a block that nobody changes -/
structure Fix (W : World) (ok : Nat → Prop) (b : Nat) (t : TypeId) (cs : Array Value) : Prop where
  row : HoldsRow W b t cs
  no : ¬ ok b
theorem Fix.keep {W W1 : World} {ok ok1 : Nat → Prop} {b : Nat} {t : TypeId} {cs : Array Value} (h : Fix W ok b t cs) (hk : Kept W W1 ok) (hs : ∀ k, ok1 k → ok k ∨ W.heap.size ≤ k) : Fix W1 ok1 b t cs := by
  have := h.row.lt
  exact ⟨(hk.2 b this h.no).trans h.row, fun q => (hs b q).elim h.no (fun r => by omega)⟩
theorem Fix.bytes {W : World} {ok : Nat → Prop} {b : Nat} {p : List Int} (h : Fix W ok b 5 (rowK .u8 p)) (hp : p.length ≤ 9223372036854775807) : ∀ W', Kept W W' ok → Kd.C (Kd.int .u8) W' (some ⟨b, 0, none⟩) p.length p := fun W' hk => by
  have := h.row.lt
  exact (Kd.R_reads' (HoldsRow.own (base := 0) (show HoldsRow W' b 5 (rowK .u8 p) from (hk.2 b this h.no).trans h.row) (Nat.zero_le _) hp)).2.2
def ycells (kd n fl ct th bt : Int) : Array Value := #[.int .i64 kd, .int .i64 n, .int .i64 fl, .int .i64 ct, .int .i64 th, .int .u64 bt]
/-- a step of the world: what else lay there lies there still -/
def Step (W W1 : World) (bx : Nat) (ok ok1 : Nat → Prop) : Prop := Kept W W1 (fun k => ok k ∨ k = bx) ∧ ∀ k, (ok1 k ∨ k = bx) → (ok k ∨ k = bx) ∨ W.heap.size ≤ k
theorem Step.fix {W W1 : World} {bx : Nat} {ok ok1 : Nat → Prop} (h : Step W W1 bx ok ok1) {b : Nat} {t : TypeId} {cs : Array Value} (hf : Fix W (fun k => ok k ∨ k = bx) b t cs) : Fix W1 (fun k => ok1 k ∨ k = bx) b t cs := hf.keep h.1 h.2
theorem Step.rows {W W1 : World} {bx : Nat} {ok ok1 : Nat → Prop} (h : Step W W1 bx ok ok1) {v : Value} {l : List (List Int)} (hf : ∃ hs, XRows W (fun k => ok k ∨ k = bx) v hs l) : ∃ hs, XRows W1 (fun k => ok1 k ∨ k = bx) v hs l := hf.imp fun _ q => q.keep h.1 h.2
theorem Step.below {W W1 : World} {bx : Nat} {ok : Nat → Prop} (hb : Below W.heap.size W W1) : Step W W1 bx ok ok := ⟨Kept.of_below hb _, fun k q => .inl q⟩
theorem Step.set {W : World} {bx : Nat} {ok : Nat → Prop} (i : Nat) (u : Value) : Step W (W.setCell ⟨bx, i, none⟩ u) bx ok ok := ⟨⟨by simp [World.setCell], fun k _ hn => Below.heap_setCell W ⟨bx, i, none⟩ u k (fun e => hn (.inr e))⟩, fun k q => .inl q⟩
theorem Step.trans {W W1 W2 : World} {bx : Nat} {ok ok1 ok2 : Nat → Prop} (h : Step W W1 bx ok ok1) (h2 : Step W1 W2 bx ok1 ok2) : Step W W2 bx ok ok2 := ⟨h.1.then_ h2.1 h.2, fun k q => by
  rcases h2.2 k q with r | r
  · exact h.2 k r
  · exact .inr (Nat.le_trans h.1.1 r)⟩
theorem XC.jto2 {w0 W W1 : World} {ok : Nat → Prop} {bx g gj gj2 : Nat} {vl : Value} {m : Int} {vp : Value} {l pt : List (List Int)} {d : DS} {s : JS} (h : XC w0 W ok bx g gj vl m vp l pt) (ht : JTo W W1 w0.heap.size ok g gj2 d s) : ∃ ok1, JD W1 w0.heap.size ok1 g gj2 d s ∧ XC w0 W1 ok1 bx g gj vl m vp l pt ∧ Step W W1 bx ok ok1 := by
  obtain ⟨h1, h2, ok1, h3, h4⟩ := ht
  refine ⟨ok1, h4, h.keep h1 h2 h3, h2.mono (fun k q => .inl q), fun k q => ?_⟩
  rcases q with q | q
  · exact (h3 k q).1.imp .inl id
  · exact .inl (.inr q)
theorem XC.keep2 {w0 W W1 : World} {ok ok1 : Nat → Prop} {bx g gj : Nat} {vl : Value} {m : Int} {vp : Value} {l pt : List (List Int)} (h : XC w0 W ok bx g gj vl m vp l pt) (hb : Below w0.heap.size w0 W1) (hk : Kept W W1 ok) (hs : ∀ k, ok1 k → (ok k ∨ W.heap.size ≤ k) ∧ k < W1.heap.size) : XC w0 W1 ok1 bx g gj vl m vp l pt := by
  have hlt := h.row.lt
  have hk' : Kept W W1 (fun k => ok k ∨ k = bx) := hk.mono (fun k q => .inl q)
  have hs' : ∀ k, (ok1 k ∨ k = bx) → (ok k ∨ k = bx) ∨ W.heap.size ≤ k := fun k q => by
    rcases q with q | q
    · rcases (hs k q).1 with r | r
      · exact .inl (.inl r)
      · exact .inr r
    · exact .inl (.inr q)
  exact ⟨hb, fun k q => (hs k q).2, h.ge, fun q => (hs bx q).1.elim h.no (fun r => by omega), (hk.2 bx hlt h.no).trans h.row, h.l.imp fun _ q => q.keep hk' hs', h.p.imp fun _ q => q.keep hk' hs'⟩
/-- rows appended to a copy of the rows that were there -/
theorem grown_two {w0 w6 w7 w8 : World} {ok : Nat → Prop} {bx g gj pb : Nat} {vl vp v7 v8 : Value} {m : Int} {l pt : List (List Int)} {d : DS} {s : JS} {hs : List Hdr} {p : List Int} (hJ : JD w6 w0.heap.size ok g gj d s) (hX : XC w0 w6 ok bx g gj vl m vp l pt) (hh : XRows w6 (fun k => ok k ∨ k = bx) vl hs l) (hP : Fix w6 (fun k => ok k ∨ k = bx) pb 5 (rowK .u8 p)) (hpl : p.length ≤ 9223372036854775807)
    (hr7 : hdr.R 31 w7 w0.heap.size (fun k => w6.heap.size ≤ k) v7 hs) (hg7 : w6.grownBy w7 none) (hr8 : hdr.R 31 w8 w0.heap.size (fun k => w6.heap.size ≤ k) v8 (hs ++ [(some ⟨pb, 0, none⟩, p.length, p.length)])) (hb8 : Below w0.heap.size w0 w8) (hg8 : w7.grownBy w8 v7.ownBlock) :
    JD w8 w0.heap.size ok g gj d s ∧ XC w0 w8 ok bx g gj vl m vp l pt ∧ (∃ hs, XRows w8 (fun k => ok k ∨ k = bx) v8 hs (l ++ [p])) ∧ Step w6 w8 bx ok ok := by
  have hsz := Nat.le_trans hg7.size hg8.size
  have hmv : ∀ k, k < w6.heap.size → w8.heap[k]? = w6.heap[k]? := fun k hk => by
    rw [hg8.block k (Nat.lt_of_lt_of_le hk hg7.size) (fun e => by
      have := hr7.1 k e.symm
      omega)]
    exact hg7.block k hk (by simp)
  have hkept : ∀ S, Kept w6 w8 S := fun S => ⟨hsz, fun k hk _ => hmv k hk⟩
  refine ⟨hJ.move hsz (fun k _ hk => hmv k hk), hX.keep2 hb8 (hkept _) (fun k q => ⟨.inl q, Nat.lt_of_lt_of_le (hX.lt k q) hsz⟩), ?_, hkept _, fun k q => .inl q⟩
  refine ⟨_, hh.snoc (hkept _) (Nat.le_refl _) (hP.bytes hpl) hr8 (fun k q hk r => ?_)⟩
  rcases r with r | r
  · have := hX.lt k r
    have q' : w6.heap.size ≤ k := q
    omega
  · have := hX.row.lt
    have q' : w6.heap.size ≤ k := q
    omega
/-- the world behind the deed itself: it went well, or it was full, or the power went -/
def Mid (w0 W : World) (bx g by_ i : Nat) (ycs : Array Value) (e : Int) : Prop := ∃ (ok : Nat → Prop) (gj : Nat) (vl vp : Value) (d : DS) (s : JS) (l pt : List (List Int)) (m : Nat), JD W w0.heap.size ok g gj d s ∧ XC w0 W ok bx g gj vl (m : Int) vp l pt ∧ Fix W (fun k => ok k ∨ k = bx) by_ 53 ycs ∧
  (((e = 0 ∨ e = 7) ∧ Live d s l m ∧ s.gen ≤ (i : Int) + 2 ∧ s.epoch.toNat / 16777216 ≤ 128 + i ∧ l.length ≤ i + 1) ∨
   (e = 30 ∧ d.dead = true ∧ l.length ≤ i ∧ Pay l ∧ Pay pt ∧ ((pt = [] ∧ vp = .slice none 0 0) ∨ pt.length = 1) ∧ ∃ ge en out, Down (upS d) ge en out ∧ Found l pt out m ∧ en / 16777216 ≤ 128 + i ∧ ge ≤ i + 2))
theorem live_nums {d : DS} {s : JS} {l : List (List Int)} {m : Nat} (h : Live d s l m) : s.waits.length ≤ 1000000 ∧ (0 ≤ s.used ∧ s.used ≤ 1000000) ∧ 0 ≤ secN d.n - s.used - cntN s.waits.length ∧ True := by
  obtain ⟨h1, h2⟩ := h.j.waits_le
  have h3 := h.j.us
  have h4 := h.j.room
  exact ⟨by omega, ⟨h3, by omega⟩, by omega, trivial⟩
set_option maxHeartbeats 8000000 in
set_option maxRecDepth 100000 in
theorem do_calls (w0 W : World) (ok : Nat → Prop) (bx g gj : Nat) (vl vp : Value) (m : Nat) (l pt : List (List Int)) (d : DS) (s : JS) (i : Nat) (hJ : JD W w0.heap.size ok g gj d s) (hX : XC w0 W ok bx g gj vl (m : Int) vp l pt) (hR : Ran i d s l m) (hi : i < 40) (kd n fl ct th bt : Int) (hfl : -9223372036854775808 ≤ fl ∧ fl ≤ 9223372036854775807) :
    Calls Try.prog 23 #[.pointer (some ⟨bx, 0, none⟩), .int .i64 (i : Int), .agg (ycells kd n fl ct th bt)] W fun e0 W' => e0 = .returned (.bool true) ∧ At w0 W' bx g (i + 1) := by
  obtain ⟨kp, hkp, hPAY⟩ := payload_calls W (i : Int) n (by omega)
  obtain ⟨kk, hkk, hKK⟩ := LBring kd 4 (by decide) (by decide)
  have HKK := Aside0.mk hKK
  have HJ := Aside0.mk hJ
  have HX := Aside0.mk hX
  have HR := Aside0.mk hR
  have HFL := Aside0.mk hfl
  clear hKK hJ hX hR hfl hPAY
  unfold ycells
  go_enter Try.func23, Try.ntmps23
  go_upto_if 11 with fail
  obtain ⟨W1, hW1⟩ : ∃ W1, W1 = W.alloc (.cells #[.int .i64 kd, .int .i64 n, .int .i64 fl, .int .i64 ct, .int .i64 th, .int .u64 bt] 53) := ⟨_, rfl⟩
  obtain ⟨by_, hby⟩ : ∃ b, b = W.heap.size := ⟨_, rfl⟩
  rw [← hW1, ← hby]
  have hb1 : Below W.heap.size W W1 := by rw [hW1]; exact below_alloc (Below.refl _ _) _
  have HJ1 := Aside0.mk (HJ.out.below hb1)
  have HX1 := Aside0.mk (HX.out.below hb1)
  have HY1 := Aside0.mk (show Fix W1 (fun k => ok k ∨ k = bx) by_ 53 (ycells kd n fl ct th bt) from ⟨by rw [hW1, hby]; exact HoldsRow.new _ _ _, fun q => by
    rcases q with q | q
    · have := HX.out.lt _ q
      omega
    · have := HX.out.row.lt
      omega⟩)
  clear hb1 hW1 hby HJ HX
  go_cut [] (fun wx => ∃ (ok2 : Nat → Prop) (d2 : DS), Aside0 (JD wx w0.heap.size ok2 g gj d2 s) ∧ Aside0 (Live d2 s l m) ∧ Aside0 (XC w0 wx ok2 bx g gj vl (m : Int) vp l pt) ∧ Aside0 (Fix wx (fun k => ok2 k ∨ k = bx) by_ 53 (ycells kd n fl ct th bt)))
  case first =>
    obtain ⟨c0, -, -, -, -⟩ := HX1.out.cells
    have y2 := HY1.out.row.cell (j := 2) (v := .int .i64 fl) rfl
    have y3 := HY1.out.row.cell (j := 3) (v := .int .i64 ct) rfl
    have y5 := HY1.out.row.cell (j := 5) (v := .int .u64 bt) rfl
    by_cases hf0 : 0 < fl
    · have b1 : decide (0 < fl) = true := decide_eq_true hf0
      go_wp2_with fail
      refine start_ (n := 12) (S := fun w' => w'.cell? ⟨bx, 0, none⟩ = some (.pointer (some ⟨g, 0, none⟩)) ∧ w'.cell? ⟨by_, 2, none⟩ = some (.int .i64 fl) ∧ w'.cell? ⟨by_, 3, none⟩ = some (.int .i64 ct) ∧ w'.cell? ⟨by_, 5, none⟩ = some (.int .u64 bt)) (ds := [11]) #[false, false, false, false, false, false, false, false, false, false, false, false] (by kernel_rfl) rfl rfl ⟨c0, y2, y3, y5⟩ (fun hHeld => ?_)
      refine pure_ (i := 0) (N := some 12) (v := ?_) (a' := ?_) #[true, false, false, false, false, false, false, false, false, false, false, false] rfl rfl (by kernel_rfl) (fun _ _ _ h => h) (Or.inl ⟨by rfl, ?_⟩) ?_ ?_
      rotate_left
      · intro w'
        go_simp
        with_reducible rfl
      rotate_left
      · simp only [Act.put, List.setIfInBounds_toArray, List.set_cons_zero, List.set_cons_succ, i64_w, i32_w]
        rfl
      refine pure_ (i := 1) (N := some 13) (v := ?_) (a' := ?_) #[true, true, false, false, false, false, false, false, false, false, false, false] rfl rfl (by kernel_rfl) (fun _ _ _ h => h) (Or.inl ⟨by rfl, ?_⟩) ?_ ?_
      rotate_left
      · intro w'
        go_simp
        with_reducible rfl
      rotate_left
      · simp only [Act.put, List.setIfInBounds_toArray, List.set_cons_zero, List.set_cons_succ, i64_w, i32_w]
        rfl
      refine pure_ (i := 2) (N := some 14) (v := ?_) (a' := ?_) #[true, true, true, false, false, false, false, false, false, false, false, false] rfl rfl (by kernel_rfl) (fun _ _ _ h => h) (Or.inl ⟨by rfl, ?_⟩) ?_ ?_
      rotate_left
      · intro w'
        go_simp
        with_reducible rfl
      rotate_left
      · simp only [Act.put, List.setIfInBounds_toArray, List.set_cons_zero, List.set_cons_succ, i64_w, i32_w]
        rfl
      refine pure_ (i := 4) (N := some 16) (v := ?_) (a' := ?_) #[true, true, true, false, true, false, false, false, false, false, false, false] rfl rfl (by kernel_rfl) (fun _ _ _ h => h) (Or.inl ⟨by rfl, ?_⟩) ?_ ?_
      rotate_left
      · intro w'
        go_simp
        with_reducible rfl
      rotate_left
      · simp only [Act.put, List.setIfInBounds_toArray, List.set_cons_zero, List.set_cons_succ, i64_w, i32_w]
        rfl
      refine pure_ (i := 7) (N := some 19) (v := ?_) (a' := ?_) #[true, true, true, false, true, false, false, true, false, false, false, false] rfl rfl (by kernel_rfl) (fun _ _ _ h => h) (Or.inl ⟨by rfl, ?_⟩) ?_ ?_
      rotate_left
      · intro w'
        go_simp
        with_reducible rfl
      rotate_left
      · simp only [Act.put, List.setIfInBounds_toArray, List.set_cons_zero, List.set_cons_succ, i64_w, i32_w]
        rfl
      refine pure_ (i := 9) (N := some 21) (v := ?_) (a' := ?_) #[true, true, true, false, true, false, false, true, false, true, false, false] rfl rfl (by kernel_rfl) (fun _ _ _ h => h) (Or.inl ⟨by rfl, ?_⟩) ?_ ?_
      rotate_left
      · intro w'
        go_simp
        with_reducible rfl
      rotate_left
      · simp only [Act.put, List.setIfInBounds_toArray, List.set_cons_zero, List.set_cons_succ, i64_w, i32_w]
        rfl
      refine take_ (i := 3) (N := some 15) (v := ?_) (a' := ?_) #[true, true, true, true, true, false, false, true, false, true, false, false] rfl rfl (by kernel_rfl) (fun _ _ _ h => h) (Or.inl ⟨by rfl, ?_⟩) hHeld ?_ ?_
      rotate_left
      · rintro w' ⟨s0, s1, s2, s3⟩
        go_simp
        with_reducible rfl
      rotate_left
      · simp only [Act.put, List.setIfInBounds_toArray, List.set_cons_zero, List.set_cons_succ, i64_w, i32_w]
        rfl
      refine take_ (i := 5) (N := some 17) (v := ?_) (a' := ?_) #[true, true, true, true, true, true, false, true, false, true, false, false] rfl rfl (by kernel_rfl) (fun _ _ _ h => h) (Or.inl ⟨by rfl, ?_⟩) hHeld ?_ ?_
      rotate_left
      · rintro w' ⟨s0, s1, s2, s3⟩
        go_simp
        with_reducible rfl
      rotate_left
      · simp only [Act.put, List.setIfInBounds_toArray, List.set_cons_zero, List.set_cons_succ, i64_w, i32_w]
        rfl
      refine pure_ (i := 6) (N := some 18) (v := ?_) (a' := ?_) #[true, true, true, true, true, true, true, true, false, true, false, false] rfl rfl (by kernel_rfl) (fun _ _ _ h => h) (Or.inl ⟨by rfl, ?_⟩) ?_ ?_
      rotate_left
      · intro w'
        go_simp
        with_reducible rfl
      rotate_left
      · simp only [Act.put, List.setIfInBounds_toArray, List.set_cons_zero, List.set_cons_succ, i64_w, i32_w]
        rfl
      refine take_ (i := 8) (N := some 20) (v := ?_) (a' := ?_) #[true, true, true, true, true, true, true, true, true, true, false, false] rfl rfl (by kernel_rfl) (fun _ _ _ h => h) (Or.inl ⟨by rfl, ?_⟩) hHeld ?_ ?_
      rotate_left
      · rintro w' ⟨s0, s1, s2, s3⟩
        go_simp
        with_reducible rfl
      rotate_left
      · simp only [Act.put, List.setIfInBounds_toArray, List.set_cons_zero, List.set_cons_succ, i64_w, i32_w]
        rfl
      refine take_ (i := 10) (N := some 22) (v := ?_) (a' := ?_) #[true, true, true, true, true, true, true, true, true, true, true, false] rfl rfl (by kernel_rfl) (fun _ _ _ h => h) (Or.inl ⟨by rfl, ?_⟩) hHeld ?_ ?_
      rotate_left
      · rintro w' ⟨s0, s1, s2, s3⟩
        go_simp
        with_reducible rfl
      rotate_left
      · simp only [Act.put, List.setIfInBounds_toArray, List.set_cons_zero, List.set_cons_succ, i64_w, i32_w]
        rfl
      refine last_ (i := 11) (N := some 23) #[true, true, true, true, true, true, true, true, true, true, true, true] rfl rfl (by kernel_rfl) (by decide) (fun K hK => ?_)
      refine goes_ Try.func46 (by kernel_rfl) rfl #[.pointer (some ⟨g, 0, none⟩), .int .i64 (fl.tmod 24), .int .u64 bt, .int .i64 ct] (by rfl) rfl rfl (by simp only [List.map_toArray, List.map_cons, List.map_nil]; rfl) ?_
      with_reducible refine (XFail (HJ1.out.below (below_drew (Below.refl _ _))) HR.out.live.j.calm.dead _ _ _ (by have := HFL.out; have h1 := Int.tmod_lt_of_pos fl (show (0 : Int) < 24 by decide); omega)).mono ?_
      rintro e w3 ⟨rfl, ht3⟩
      refine ⟨_, rfl, ?_⟩
      refine hK.out _ _ ?_
      clear hK K
      refine norm_ (a' := ?_) ?_ ?_
      rotate_left
      · show Act.put _ (some 23) _ = _
        simp only [Act.put, List.setIfInBounds_toArray, List.set_cons_zero, List.set_cons_succ, i64_w, i32_w]
        rfl
      refine done_ (by kernel_rfl) ?_
      
      go_wp2_with fail
      go_meet
      case rel =>
        obtain ⟨ok3, hj3, hx3, hs3⟩ := (HX1.out.below (below_drew (Below.refl _ _))).jto2 ht3
        exact ⟨ok3, _, ⟨hj3⟩, ⟨HR.out.live.plan _⟩, ⟨hx3⟩, ⟨((Step.below (below_drew (Below.refl _ _))).trans hs3).fix HY1.out⟩⟩
    · have b1 : decide (0 < fl) = false := decide_eq_false hf0
      go_wp2_with fail
      go_meet
      case rel => exact ⟨ok, d, HJ1, ⟨HR.out.live⟩, HX1, HY1⟩
  case rest =>
    obtain ⟨ok2, d2, HJ2, HL2, HX2, HY2⟩ := hcut
    clear HJ1 HX1 HY1
    have z4 := HX2.out.row.free 4
    obtain ⟨c0, c1, c2, c3, c4⟩ := HX2.out.cells
    have hne : by_ ≠ bx := fun q => HY2.out.no (.inr q)
    have y1 := HY2.out.row.cell (j := 1) (v := .int .i64 n) rfl
    go_wp2_with fail
    obtain ⟨W3, hW3⟩ : ∃ W3, W3 = wc.setCell ⟨bx, 4, none⟩ (.slice none 0 0) := ⟨_, rfl⟩
    rw [← hW3]
    have HJ3 := Aside0.mk (show JD W3 w0.heap.size ok2 g gj d2 s by rw [hW3]; exact HJ2.out.set HX2.out 4 _)
    have HX3 := Aside0.mk (show XC w0 W3 ok2 bx g gj vl (m : Int) (.slice none 0 0) l [] by rw [hW3]; exact HX2.out.set 4 _ rfl HX2.out.l ⟨[], XRows.nil _ _⟩)
    have HY3 := Aside0.mk (show Fix W3 (fun k => ok2 k ∨ k = bx) by_ 53 (ycells kd n fl ct th bt) by rw [hW3]; exact (Step.set 4 _).fix HY2.out)
    clear hW3 HJ2 HX2 HY2 z4 c0 c1 c2 c3 c4 y1
    obtain ⟨kp, hkp, hPAY⟩ := payload_calls W3 (i : Int) n (by omega)
    refine hPAY.mono ?_
    rintro e4 w4 ⟨pb, rfl, hb4, hge4, hrow4⟩
    have HJ4 := Aside0.mk (HJ3.out.below hb4)
    have HX4 := Aside0.mk (HX3.out.below hb4)
    have HY4 := Aside0.mk ((Step.below hb4).fix HY3.out)
    have HP4 := Aside0.mk (show Fix w4 (fun k => ok2 k ∨ k = bx) pb 5 (rowK .u8 (payF (i : Int) kp)) from ⟨hrow4, fun q => by
      rcases q with q | q
      · have := HX3.out.lt _ q
        omega
      · have := HX3.out.row.lt
        omega⟩)
    clear hPAY hb4 hge4 hrow4 HJ3 HX3 HY3
    have y0 := HY4.out.row.cell (j := 0) (v := .int .i64 kd) rfl
    go_wp2_with fail
    refine (HKK.out w4).mono ?_
    rintro e5 w5 ⟨rfl, hd5⟩
    have HJ5 := Aside0.mk (HJ4.out.below hd5.below)
    have HX5 := Aside0.mk (HX4.out.below hd5.below)
    have HY5 := Aside0.mk ((Step.below hd5.below).fix HY4.out)
    have HP5 := Aside0.mk ((Step.below hd5.below).fix HP4.out)
    clear hd5 HJ4 HX4 HY4 HP4 HKK y0
    go_upto_block 0 with fail
    go_cut [7] (fun u7 wx => ∃ e : Int, u7 = .int .i64 e ∧ Aside0 (Mid w0 wx bx g by_ i (ycells kd n fl ct th bt) e))
    case first =>
      have HGO := Aside0.mk HL2.out.j.good
      have HSK := Aside0.mk (HL2.out.j.sok (by have := HR.out.ln; omega))
      have HW0 := Aside0.mk HL2.out.j.w0
      obtain ⟨c0, c1, c2, c3, c4⟩ := HX5.out.cells
      have hk4 : kk = 2 ∨ kk = 3 ∨ (kk = 0 ∨ kk = 1) := by omega
      rcases hk4 with rfl | rfl | hk4
      · go_wp2_with fail
        refine (Sync_calls w5 w0.heap.size ok2 g gj d2 s HJ5.out HSK.out HGO.out HW0.out).mono ?_
        have hls := live_sync HL2.out
        obtain ⟨⟨q0, d6, s6⟩, hq⟩ : ∃ q, q = syncF d2 s := ⟨_, rfl⟩
        rw [← hq] at hls ⊢
        simp only at hls ⊢
        clear hq
        rintro e6 w6 ⟨rfl, ht6⟩
        obtain ⟨ok6, hj6, hx6, hs6⟩ := HX5.out.jto2 ht6
        have HJ6 := Aside0.mk hj6
        have HX6 := Aside0.mk hx6
        have HY6 := Aside0.mk (hs6.fix HY5.out)
        clear ht6 hj6 hx6 hs6 HJ5 HX5 HY5 HP5 c0 c1 c2 c3 c4
        obtain ⟨hsl6, hxl6⟩ := HX6.out.l
        obtain ⟨Al, cl, rfl, -, -, -⟩ := hxl6.C
        clear hxl6
        obtain ⟨c0, c1, c2, c3, c4⟩ := HX6.out.cells
        have z3 := HX6.out.row.free 3
        rcases hls with ⟨rfl, hl6, hn6, he6, hg6⟩ | ⟨rfl, hd6, hn6, k6, hk1, hk2, hdn⟩
        · have HL6 := Aside0.mk hl6
          have HE6 := Aside0.mk (And.intro he6 hg6)
          clear hl6 hn6 he6 hg6
          go_wp2_with fail
          go_meet
          case rel =>
            refine ⟨0, rfl, ⟨ok6, gj, _, _, d6, s6, l, [], l.length, HJ6.out.set HX6.out 3 _, HX6.out.set 3 _ rfl HX6.out.l HX6.out.p, (Step.set 3 _).fix HY6.out, .inl ⟨.inl rfl, HL6.out, ?_, ?_, ?_⟩⟩⟩
            · rw [HE6.out.2]; have := HR.out.gn; omega
            · rw [HE6.out.1]; exact HR.out.ep
            · have := HR.out.ln; omega
        · have HD6 := Aside0.mk (And.intro hd6 hdn)
          clear hd6 hn6 hdn
          go_wp2_with fail
          go_meet
          case rel =>
            refine ⟨30, rfl, ⟨ok6, gj, _, _, d6, s6, l, [], m, HJ6.out, HX6.out, HY6.out, .inr ⟨rfl, HD6.out.1, HR.out.ln, HR.out.live.j.pay, fun p hp => (by cases hp), .inl ⟨rfl, rfl⟩, _, _, _, HD6.out.2, .inl ⟨k6, hk1, hk2, rfl⟩, HR.out.ep, ?_⟩⟩⟩
            have := HR.out.gn
            have := HR.out.live.j.gen
            omega
      · obtain ⟨W6, hW6⟩ : ∃ W6, W6 = w5.alloc (.cells #[.slice (some ⟨pb, 0, none⟩) (2 + kp) (2 + kp)] 31) := ⟨_, rfl⟩
        have hb6 : Below w5.heap.size w5 W6 := by rw [hW6]; exact below_alloc (Below.refl _ _) _
        have X6 := HX5.out.below hb6
        obtain ⟨C0, C1, C2, C3, C4⟩ := X6.cells
        have Z4 := X6.row.free 4
        have hp6 := (Step.below hb6).fix HP5.out
        have hpb := hp6.bytes (by rw [payF_len]; omega)
        have X7 := X6.set 4 (.slice (some ⟨w5.heap.size, 0, none⟩) 1 1) rfl X6.l ⟨_, XRows.one (p := payF (i : Int) kp) (c := 2 + kp) (A := some ⟨pb, 0, none⟩) (b := w5.heap.size) (by rw [payF_len, hW6]; exact HoldsRow.new _ _ _) (fun q => by
          rcases q with q | q
          · have := HX5.out.lt _ q
            omega
          · have := HX5.out.row.lt
            omega) (by rw [payF_len]; omega) hpb⟩
        have J7 := (HJ5.out.below hb6).set X6 4 (.slice (some ⟨w5.heap.size, 0, none⟩) 1 1)
        have hck := Checkpoint_calls _ w0.heap.size ok2 g gj d2 s J7 HSK.out HGO.out HW0.out (some ⟨pb, 0, none⟩) (2 + kp) (payF (i : Int) kp) (hpb _ (Step.set 4 _).1) (by rw [payF_len]; omega) (payF_bytes _ _)
        rw [payF_len] at hck
        have HCK := Aside0.mk hck
        have HX7 := Aside0.mk X7
        have HY7 := Aside0.mk ((Step.set (W := W6) (bx := bx) (ok := ok2) 4 (.slice (some ⟨w5.heap.size, 0, none⟩) 1 1)).fix ((Step.below hb6).fix HY5.out))
        rw [hW6] at C0 C1 C2 C3 C4 Z4 HCK HX7 HY7
        clear hW6 hb6 X6 hp6 hpb X7 J7 hck c0 c1 c2 c3 c4 HJ5 HX5 HY5 HP5
        go_wp2_with fail
        refine HCK.out.mono ?_
        have hls := live_ckpt HL2.out (payF_bytes (i : Int) kp) (by rw [payF_len]; omega) (by have := HR.out.gn; omega)
        obtain ⟨⟨q0, d6, s6⟩, hq⟩ : ∃ q, q = ckptF d2 s (payF (i : Int) kp) := ⟨_, rfl⟩
        rw [← hq] at hls ⊢
        simp only at hls ⊢
        clear hq
        rintro e8 w8 ⟨rfl, ht8⟩
        obtain ⟨ok8, hj8, hx8, hs8⟩ := HX7.out.jto2 ht8
        have HJ8 := Aside0.mk hj8
        have HX8 := Aside0.mk hx8
        have HY8 := Aside0.mk (hs8.fix HY7.out)
        clear ht8 hj8 hx8 hs8 HCK HX7 HY7 C0 C1 C2 C3 C4 Z4
        obtain ⟨c0, c1, c2, c3, c4⟩ := HX8.out.cells
        have z2 := HX8.out.row.free 2
        have z3 := HX8.out.row.free 3
        have HPP := Aside0.mk (show Pay [payF (i : Int) kp] from fun p hp => by rw [List.mem_singleton.1 hp]; exact ⟨payF_bytes _ _, by rw [payF_len]; omega⟩)
        rcases hls with hls | ⟨rfl, hl8, hn8, he8, hg8⟩ | ⟨rfl, hd8, hn8, hdn⟩
        · injection hls with h1 h2
          injection h2 with h2 h3
          subst h1 h2 h3
          go_wp2_with fail
          go_meet
          case rel =>
            refine ⟨7, rfl, ⟨ok8, gj, _, _, _, _, l, _, m, HJ8.out, HX8.out, HY8.out, .inl ⟨.inr rfl, HL2.out, ?_, ?_, ?_⟩⟩⟩
            · have := HR.out.gn; omega
            · exact HR.out.ep
            · have := HR.out.ln; omega
        · have HL8 := Aside0.mk hl8
          have HE8 := Aside0.mk (And.intro he8 hg8)
          clear hl8 hn8 he8 hg8
          go_wp2_with fail
          go_meet
          case rel =>
            have x9 := HX8.out.set 2 (.slice (some ⟨w5.heap.size, 0, none⟩) 1 1) rfl HX8.out.p HX8.out.p
            have j9 := HJ8.out.set HX8.out 2 (.slice (some ⟨w5.heap.size, 0, none⟩) 1 1)
            refine ⟨0, rfl, ⟨ok8, gj, _, _, d6, s6, [payF (i : Int) kp], _, 1, j9.set x9 3 (.int .i64 1), x9.set 3 (.int .i64 1) rfl x9.l x9.p, (Step.set 3 _).fix ((Step.set 2 _).fix HY8.out), .inl ⟨.inl rfl, HL8.out, ?_, ?_, ?_⟩⟩⟩
            · rw [HE8.out.2]; have := HR.out.gn; omega
            · rw [HE8.out.1]; exact HR.out.ep
            · simp
        · have HD8 := Aside0.mk (And.intro hd8 hdn)
          clear hd8 hn8 hdn
          go_wp2_with fail
          go_meet
          case rel =>
            have hgn := HR.out.gn
            have hg0 := HR.out.live.j.gen
            have hep := HR.out.ep
            rcases HD8.out.2 with q | q
            · exact ⟨30, rfl, ⟨ok8, gj, _, _, d6, s6, l, _, m, HJ8.out, HX8.out, HY8.out, .inr ⟨rfl, HD8.out.1, HR.out.ln, HR.out.live.j.pay, HPP.out, .inr rfl, _, _, _, q, .inl ⟨m, Nat.le_refl _, HR.out.live.j.ml, rfl⟩, hep, by omega⟩⟩⟩
            · exact ⟨30, rfl, ⟨ok8, gj, _, _, d6, s6, l, _, m, HJ8.out, HX8.out, HY8.out, .inr ⟨rfl, HD8.out.1, HR.out.ln, HR.out.live.j.pay, HPP.out, .inr rfl, _, _, _, q, .inr ⟨by simp, rfl⟩, hep, by omega⟩⟩⟩
      · have b2 : ((kk : Int) == 2) = false := by simp; omega
        have b3 : ((kk : Int) == 3) = false := by simp; omega
        have b4 : (kk == 2) = false := by simp; omega
        have b5 : (kk == 3) = false := by simp; omega
        have hpb := HP5.out.bytes (by rw [payF_len]; omega)
        have hap := Append_calls w5 w0.heap.size ok2 g gj d2 s HJ5.out HSK.out (some ⟨pb, 0, none⟩) (2 + kp) (payF (i : Int) kp) (hpb _ (Kept.refl _ _)) (by rw [payF_len]; omega) (payF_bytes _ _)
        rw [payF_len] at hap
        have HAP := Aside0.mk hap
        clear hap hpb
        go_wp2_with fail
        refine HAP.out.mono ?_
        have hls := live_append HL2.out (payF_bytes (i : Int) kp) (by rw [payF_len]; omega)
        rcases hls with ⟨hls, hl6⟩ | hls
        · rw [hls]
          simp only
          obtain ⟨s6, hs6⟩ : ∃ s6, s6 = ({ s with waits := s.waits ++ pk (payF (i : Int) kp), count := s.count + 1 } : JS) := ⟨_, rfl⟩
          rw [← hs6] at hl6 ⊢
          have HL6 := Aside0.mk hl6
          have HE6 := Aside0.mk (show s6.gen = s.gen ∧ s6.epoch = s.epoch by rw [hs6]; exact ⟨rfl, rfl⟩)
          clear hls hl6 hs6
          rintro e6 w6 ⟨rfl, ht6⟩
          obtain ⟨ok6, hj6, hx6, hs6⟩ := HX5.out.jto2 ht6
          have HJ6 := Aside0.mk hj6
          have HX6 := Aside0.mk hx6
          have HY6 := Aside0.mk (hs6.fix HY5.out)
          have HP6 := Aside0.mk (hs6.fix HP5.out)
          clear ht6 hj6 hx6 hs6 HJ5 HX5 HY5 HP5 HAP c0 c1 c2 c3 c4
          obtain ⟨hs6, hxl6⟩ := HX6.out.l
          obtain ⟨Al, cl, rfl, -, -, hhc⟩ := hxl6.C
          have HXL := Aside0.mk hxl6
          have HHC := Aside0.mk hhc
          have HLL := Aside0.mk (show l.length ≤ 40 by have := HR.out.ln; omega)
          have HLH := Aside0.mk (show hs6.length = l.length from hxl6.len)
          clear hxl6 hhc
          obtain ⟨c0, c1, c2, c3, c4⟩ := HX6.out.cells
          go_wp2_with (first | (at_builtin; refine Kd.R_append_row (fun x : Hdr => .slice x.1 x.2.1 x.2.2) (none, 0, 0) (h1 := fun _ => rfl) (w0 := w0) (W := w6) w0.heap.size rfl (.const (.slice none 0 0)) (.tmp 46) 37 31 (.slice none 0 0) 24 rfl Try.underlying37 infoRow rfl (by decide) (.slice none 0 0) [] hs6 Al l.length cl (fun k => w6.heap.size ≤ k) rfl rfl (fun k h => h) (Kd.R_nil _ _ _ _ _) HHC.out HX6.out.b HX6.out.size ?aL ?_; (case aL => have := HLL.out; simp only [List.length_nil]; omega); intro v7 w7 hr7 hb7 hg7 hat7; have R7 := Aside0.mk (And.intro hr7 (And.intro hb7 hg7)); clear hr7 hb7 hg7 hat7) | (at_builtin; refine Kd.R_append hdr (w0 := w0) (W := w7) w0.heap.size rfl (.tmp 47) (.tmp 49) 37 31 (.slice none 0 0) 24 rfl Try.underlying37 infoRow rfl (by decide) (by omega) v7 hs6 (some ⟨pb, 0, none⟩, 2 + kp, 2 + kp) [.slice (some ⟨pb, 0, none⟩) (2 + kp) (2 + kp)] (fun k => w6.heap.size ≤ k) (fun _ => False) rfl rfl rfl (fun _ h => h.elim) (fun k h => Nat.le_trans R7.out.2.2.size h) R7.out.1 R7.out.2.1 R7.out.2.1.size ?aL ?_; (case aL => have := HLL.out; have := HLH.out; omega); intro v8 w8 hr8 hb8 hg8 hat8; obtain ⟨A8, z8, rfl⟩ := Kd.R_slice hr8; have G8 := Aside0.mk (grown_two HJ6.out HX6.out HXL.out HP6.out (by rw [payF_len]; omega) R7.out.1 R7.out.2.2 (by rw [payF_len]; exact hr8) hb8 hg8); clear hr8 hb8 hg8 hat8; obtain ⟨c0, c1, c2, c3, c4⟩ := G8.out.2.1.cells; have z2 := G8.out.2.1.row.free 2))
          go_meet
          case rel =>
            obtain ⟨j8, x8, r8, s8⟩ := G8.out
            rw [List.length_append, List.length_singleton] at r8
            refine ⟨0, rfl, ⟨ok6, gj, _, _, d2, s6, l ++ [payF (i : Int) kp], [], m, j8.set x8 2 _, x8.set 2 _ rfl r8 x8.p, (Step.set 2 _).fix (s8.fix HY6.out), .inl ⟨.inl rfl, HL6.out, ?_, ?_, ?_⟩⟩⟩
            · rw [HE6.out.1]; have := HR.out.gn; omega
            · rw [HE6.out.2]; exact HR.out.ep
            · rw [List.length_append]; have := HR.out.ln; simp only [List.length_singleton]; omega
        · rw [hls]
          simp only
          rintro e6 w6 ⟨rfl, ht6⟩
          obtain ⟨ok6, hj6, hx6, hs6⟩ := HX5.out.jto2 ht6
          have HJ6 := Aside0.mk hj6
          have HX6 := Aside0.mk hx6
          have HY6 := Aside0.mk (hs6.fix HY5.out)
          clear ht6 hj6 hx6 hs6 HJ5 HX5 HY5 HP5 HAP c0 c1 c2 c3 c4 hls
          go_wp2_with fail
          go_meet
          case rel =>
            refine ⟨7, rfl, ⟨ok6, gj, _, _, _, _, l, _, m, HJ6.out, HX6.out, HY6.out, .inl ⟨.inr rfl, HL2.out, ?_, ?_, ?_⟩⟩⟩
            · have := HR.out.gn; omega
            · exact HR.out.ep
            · have := HR.out.ln; omega
    case rest =>
      obtain ⟨e, rfl, HM⟩ := hcut
      obtain ⟨ok9, gj9, vl9, vp9, d9, s9, l9, pt9, m9, hj9, hx9, hy9, hcase⟩ := HM.out
      have HJ9 := Aside0.mk hj9
      have HX9 := Aside0.mk hx9
      have HY9 := Aside0.mk hy9
      clear HM HJ5 HX5 HY5 HP5 HL2 hj9 hx9 hy9
      obtain ⟨c0, c1, c2, c3, c4⟩ := HX9.out.cells
      rcases hcase with ⟨he9, hl9, hg9, hp9, hln9⟩ | ⟨rfl, hd9, hln9, hpy9, hpt9, hps9, ge, en, out, hdn9, hfd9, hen9, hge9⟩
      · have HL9 := Aside0.mk hl9
        have HB9 := Aside0.mk (And.intro hg9 (And.intro hp9 hln9))
        clear hl9 hg9 hp9 hln9
        go_wp2_with fail
        refine (XDead HJ9.out).mono ?_
        rw [HL9.out.j.calm.dead]
        rintro e10 w10 ⟨rfl, rfl⟩
        go_wp2_with fail
        refine (XFail HJ9.out HL9.out.j.calm.dead _ _ _ (by omega)).mono ?_
        rintro e11 w11 ⟨rfl, ht11⟩
        have hpn : failP (-1) 0 0 = none := rfl
        rw [hpn] at ht11
        obtain ⟨d11, hd11⟩ : ∃ d11, d11 = ({ d9 with plan := none } : DS) := ⟨_, rfl⟩
        rw [← hd11] at ht11
        have HL11 := Aside0.mk (show Live d11 s9 l9 m9 by rw [hd11]; exact HL9.out.plan none)
        have HPN := Aside0.mk (show d11.plan = none by rw [hd11])
        obtain ⟨ok11, hj11, hx11⟩ := HX9.out.jto ht11
        have HJ11 := Aside0.mk hj11
        have HX11 := Aside0.mk hx11
        clear ht11 hd11 hj11 hx11 HJ9 HX9 HY9 HL9 hpn c0 c1 c2 c3 c4
        obtain ⟨hs11, hxl11⟩ := HX11.out.l
        obtain ⟨Al, cl, rfl, -, -, -⟩ := hxl11.C
        clear hxl11
        obtain ⟨c0, c1, c2, c3, c4⟩ := HX11.out.cells
        obtain ⟨r1, r2, r3, r4⟩ := live_nums HL11.out
        have HRM := Aside0.mk (And.intro r1 r2)
        have hrm := eq_true r3
        have HRN := Aside0.mk (show cntN s9.waits.length ≤ secN d11.n - s9.used by omega)
        have hrd := decide_eq_true r3
        clear r1 r2 r3
        have hc1 : s9.count = (l9.length : Int) := HL11.out.j.cnt
        have hc2 : s9.synced = (m9 : Int) := HL11.out.j.sy
        have LEN := Aside0.mk (fun (W : World) (h : JD W w0.heap.size ok11 g gj9 d11 s9) => XLen h)
        have SYN := Aside0.mk (fun (W : World) (h : JD W w0.heap.size ok11 g gj9 d11 s9) => XSynced h)
        rw [hc1] at LEN
        rw [hc2] at SYN
        rcases he9 with rfl | rfl
        · go_wp2_with fail
          refine start_ (n := 40) (S := fun w' => w'.cell? ⟨bx, 1, none⟩ = some (.pointer (some ⟨gj9, 0, none⟩)) ∧ w'.cell? ⟨bx, 2, none⟩ = some (.slice Al l9.length cl) ∧ w'.cell? ⟨bx, 3, none⟩ = some (.int .i64 (m9 : Int))) (ds := [36]) #[false, false, false, false, false, false, false, false, false, false, false, false, false, false, false, false, false, false, false, false, false, false, false, false, false, false, false, false, false, false, false, false, false, false, false, false, false, false, false, false] (by kernel_rfl) rfl rfl ⟨c1, c2, c3⟩ (fun hHeld => ?_)
          refine pure_ (i := 0) (N := some 117) (v := ?_) (a' := ?_) #[true, false, false, false, false, false, false, false, false, false, false, false, false, false, false, false, false, false, false, false, false, false, false, false, false, false, false, false, false, false, false, false, false, false, false, false, false, false, false, false] rfl rfl (by kernel_rfl) (fun _ _ _ h => h) (Or.inl ⟨by rfl, ?_⟩) ?_ ?_
          rotate_left
          · intro w'
            go_simp
            with_reducible rfl
          rotate_left
          · simp only [Act.put, List.setIfInBounds_toArray, List.set_cons_zero, List.set_cons_succ, i64_w, i32_w]
            rfl
          refine pure_ (i := 1) (N := some 118) (v := ?_) (a' := ?_) #[true, true, false, false, false, false, false, false, false, false, false, false, false, false, false, false, false, false, false, false, false, false, false, false, false, false, false, false, false, false, false, false, false, false, false, false, false, false, false, false] rfl rfl (by kernel_rfl) (fun _ _ _ h => h) (Or.inl ⟨by rfl, ?_⟩) ?_ ?_
          rotate_left
          · intro w'
            go_simp
            with_reducible rfl
          rotate_left
          · simp only [Act.put, List.setIfInBounds_toArray, List.set_cons_zero, List.set_cons_succ, i64_w, i32_w]
            rfl
          refine pure_ (i := 2) (N := some 119) (v := ?_) (a' := ?_) #[true, true, true, false, false, false, false, false, false, false, false, false, false, false, false, false, false, false, false, false, false, false, false, false, false, false, false, false, false, false, false, false, false, false, false, false, false, false, false, false] rfl rfl (by kernel_rfl) (fun _ _ _ h => h) (Or.inl ⟨by rfl, ?_⟩) ?_ ?_
          rotate_left
          · intro w'
            go_simp
            with_reducible rfl
          rotate_left
          · simp only [Act.put, List.setIfInBounds_toArray, List.set_cons_zero, List.set_cons_succ, i64_w, i32_w]
            rfl
          refine pure_ (i := 3) (N := some 120) (v := undef) (a' := ?_) #[true, true, true, true, false, false, false, false, false, false, false, false, false, false, false, false, false, false, false, false, false, false, false, false, false, false, false, false, false, false, false, false, false, false, false, false, false, false, false, false] rfl rfl (by kernel_rfl) (fun _ _ _ h => h) (Or.inr ⟨by rfl, rfl⟩) ?_ ?_
          rotate_left
          · simp only [Act.put, List.setIfInBounds_toArray, List.set_cons_zero, List.set_cons_succ, i64_w, i32_w]
            rfl
          refine pure_ (i := 4) (N := some 121) (v := undef) (a' := ?_) #[true, true, true, true, true, false, false, false, false, false, false, false, false, false, false, false, false, false, false, false, false, false, false, false, false, false, false, false, false, false, false, false, false, false, false, false, false, false, false, false] rfl rfl (by kernel_rfl) (fun _ _ _ h => h) (Or.inr ⟨by rfl, rfl⟩) ?_ ?_
          rotate_left
          · simp only [Act.put, List.setIfInBounds_toArray, List.set_cons_zero, List.set_cons_succ, i64_w, i32_w]
            rfl
          refine pure_ (i := 5) (N := some 122) (v := ?_) (a' := ?_) #[true, true, true, true, true, true, false, false, false, false, false, false, false, false, false, false, false, false, false, false, false, false, false, false, false, false, false, false, false, false, false, false, false, false, false, false, false, false, false, false] rfl rfl (by kernel_rfl) (fun _ _ _ h => h) (Or.inl ⟨by rfl, ?_⟩) ?_ ?_
          rotate_left
          · intro w'
            go_simp
            with_reducible rfl
          rotate_left
          · simp only [Act.put, List.setIfInBounds_toArray, List.set_cons_zero, List.set_cons_succ, i64_w, i32_w]
            rfl
          refine pure_ (i := 6) (N := some 123) (v := ?_) (a' := ?_) #[true, true, true, true, true, true, true, false, false, false, false, false, false, false, false, false, false, false, false, false, false, false, false, false, false, false, false, false, false, false, false, false, false, false, false, false, false, false, false, false] rfl rfl (by kernel_rfl) (fun _ _ _ h => h) (Or.inl ⟨by rfl, ?_⟩) ?_ ?_
          rotate_left
          · intro w'
            go_simp
            with_reducible rfl
          rotate_left
          · simp only [Act.put, List.setIfInBounds_toArray, List.set_cons_zero, List.set_cons_succ, i64_w, i32_w]
            rfl
          refine pure_ (i := 7) (N := some 124) (v := ?_) (a' := ?_) #[true, true, true, true, true, true, true, true, false, false, false, false, false, false, false, false, false, false, false, false, false, false, false, false, false, false, false, false, false, false, false, false, false, false, false, false, false, false, false, false] rfl rfl (by kernel_rfl) (fun _ _ _ h => h) (Or.inl ⟨by rfl, ?_⟩) ?_ ?_
          rotate_left
          · intro w'
            go_simp
            with_reducible rfl
          rotate_left
          · simp only [Act.put, List.setIfInBounds_toArray, List.set_cons_zero, List.set_cons_succ, i64_w, i32_w]
            rfl
          refine pure_ (i := 8) (N := some 125) (v := ?_) (a' := ?_) #[true, true, true, true, true, true, true, true, true, false, false, false, false, false, false, false, false, false, false, false, false, false, false, false, false, false, false, false, false, false, false, false, false, false, false, false, false, false, false, false] rfl rfl (by kernel_rfl) (fun _ _ _ h => h) (Or.inl ⟨by rfl, ?_⟩) ?_ ?_
          rotate_left
          · intro w'
            go_simp
            with_reducible rfl
          rotate_left
          · simp only [Act.put, List.setIfInBounds_toArray, List.set_cons_zero, List.set_cons_succ, i64_w, i32_w]
            rfl
          refine pure_ (i := 9) (N := some 126) (v := ?_) (a' := ?_) #[true, true, true, true, true, true, true, true, true, true, false, false, false, false, false, false, false, false, false, false, false, false, false, false, false, false, false, false, false, false, false, false, false, false, false, false, false, false, false, false] rfl rfl (by kernel_rfl) (fun _ _ _ h => h) (Or.inl ⟨by rfl, ?_⟩) ?_ ?_
          rotate_left
          · intro w'
            go_simp
            with_reducible rfl
          rotate_left
          · simp only [Act.put, List.setIfInBounds_toArray, List.set_cons_zero, List.set_cons_succ, i64_w, i32_w]
            rfl
          refine pure_ (i := 12) (N := some 129) (v := ?_) (a' := ?_) #[true, true, true, true, true, true, true, true, true, true, false, false, true, false, false, false, false, false, false, false, false, false, false, false, false, false, false, false, false, false, false, false, false, false, false, false, false, false, false, false] rfl rfl (by kernel_rfl) (fun _ _ _ h => h) (Or.inl ⟨by rfl, ?_⟩) ?_ ?_
          rotate_left
          · intro w'
            go_simp
            with_reducible rfl
          rotate_left
          · simp only [Act.put, List.setIfInBounds_toArray, List.set_cons_zero, List.set_cons_succ, i64_w, i32_w]
            rfl
          refine pure_ (i := 13) (N := some 130) (v := ?_) (a' := ?_) #[true, true, true, true, true, true, true, true, true, true, false, false, true, true, false, false, false, false, false, false, false, false, false, false, false, false, false, false, false, false, false, false, false, false, false, false, false, false, false, false] rfl rfl (by kernel_rfl) (fun _ _ _ h => h) (Or.inl ⟨by rfl, ?_⟩) ?_ ?_
          rotate_left
          · intro w'
            go_simp
            with_reducible rfl
          rotate_left
          · simp only [Act.put, List.setIfInBounds_toArray, List.set_cons_zero, List.set_cons_succ, i64_w, i32_w]
            rfl
          refine pure_ (i := 14) (N := some 131) (v := ?_) (a' := ?_) #[true, true, true, true, true, true, true, true, true, true, false, false, true, true, true, false, false, false, false, false, false, false, false, false, false, false, false, false, false, false, false, false, false, false, false, false, false, false, false, false] rfl rfl (by kernel_rfl) (fun _ _ _ h => h) (Or.inl ⟨by rfl, ?_⟩) ?_ ?_
          rotate_left
          · intro w'
            go_simp
            with_reducible rfl
          rotate_left
          · simp only [Act.put, List.setIfInBounds_toArray, List.set_cons_zero, List.set_cons_succ, i64_w, i32_w]
            rfl
          refine take_ (i := 10) (N := some 127) (v := ?_) (a' := ?_) #[true, true, true, true, true, true, true, true, true, true, true, false, true, true, true, false, false, false, false, false, false, false, false, false, false, false, false, false, false, false, false, false, false, false, false, false, false, false, false, false] rfl rfl (by kernel_rfl) (fun _ _ _ h => h) (Or.inl ⟨by rfl, ?_⟩) hHeld ?_ ?_
          rotate_left
          · rintro w' ⟨s0, s1, s2⟩
            go_simp
            with_reducible rfl
          rotate_left
          · simp only [Act.put, List.setIfInBounds_toArray, List.set_cons_zero, List.set_cons_succ, i64_w, i32_w]
            rfl
          refine take_ (i := 15) (N := some 132) (v := ?_) (a' := ?_) #[true, true, true, true, true, true, true, true, true, true, true, false, true, true, true, true, false, false, false, false, false, false, false, false, false, false, false, false, false, false, false, false, false, false, false, false, false, false, false, false] rfl rfl (by kernel_rfl) (fun _ _ _ h => h) (Or.inl ⟨by rfl, ?_⟩) hHeld ?_ ?_
          rotate_left
          · rintro w' ⟨s0, s1, s2⟩
            go_simp
            with_reducible rfl
          rotate_left
          · simp only [Act.put, List.setIfInBounds_toArray, List.set_cons_zero, List.set_cons_succ, i64_w, i32_w]
            rfl
          refine pure_ (i := 16) (N := some 133) (v := ?_) (a' := ?_) #[true, true, true, true, true, true, true, true, true, true, true, false, true, true, true, true, true, false, false, false, false, false, false, false, false, false, false, false, false, false, false, false, false, false, false, false, false, false, false, false] rfl rfl (by kernel_rfl) (fun _ _ _ h => h) (Or.inl ⟨by rfl, ?_⟩) ?_ ?_
          rotate_left
          · intro w'
            go_simp
            with_reducible rfl
          rotate_left
          · simp only [Act.put, List.setIfInBounds_toArray, List.set_cons_zero, List.set_cons_succ, i64_w, i32_w]
            rfl
          refine one_ (i := 11) (N := some 128) #[true, true, true, true, true, true, true, true, true, true, true, true, true, true, true, true, true, false, false, false, false, false, false, false, false, false, false, false, false, false, false, false, false, false, false, false, false, false, false, false] rfl rfl (by kernel_rfl) (by decide) (fun K hK => ?_)
          refine goes_ Try.func12 (by kernel_rfl) rfl #[.pointer (some ⟨gj9, 0, none⟩)] (by rfl) rfl rfl (by simp only [List.map_toArray, List.map_cons, List.map_nil]; rfl) ?_
          with_reducible refine (LEN.out _ (HJ11.out.below (below_drew (Below.refl _ _)))).mono ?_
          rintro e w13 ⟨rfl, rfl⟩
          refine ⟨_, rfl, ?_⟩
          refine hK.out _ _ ⟨c1, c2, c3⟩ (fun hHeld => ?_)
          clear hK K
          refine norm_ (a' := ?_) ?_ ?_
          rotate_left
          · show Act.put _ (some 128) _ = _
            simp only [Act.put, List.setIfInBounds_toArray, List.set_cons_zero, List.set_cons_succ, i64_w, i32_w]
            rfl
          refine pure_ (i := 17) (N := some 134) (v := ?_) (a' := ?_) #[true, true, true, true, true, true, true, true, true, true, true, true, true, true, true, true, true, true, false, false, false, false, false, false, false, false, false, false, false, false, false, false, false, false, false, false, false, false, false, false] rfl rfl (by kernel_rfl) (fun _ _ _ h => h) (Or.inl ⟨by rfl, ?_⟩) ?_ ?_
          rotate_left
          · intro w'
            go_simp
            with_reducible rfl
          rotate_left
          · simp only [Act.put, List.setIfInBounds_toArray, List.set_cons_zero, List.set_cons_succ, i64_w, i32_w]
            rfl
          refine pure_ (i := 18) (N := some 135) (v := ?_) (a' := ?_) #[true, true, true, true, true, true, true, true, true, true, true, true, true, true, true, true, true, true, true, false, false, false, false, false, false, false, false, false, false, false, false, false, false, false, false, false, false, false, false, false] rfl rfl (by kernel_rfl) (fun _ _ _ h => h) (Or.inl ⟨by rfl, ?_⟩) ?_ ?_
          rotate_left
          · intro w'
            go_simp
            with_reducible rfl
          rotate_left
          · simp only [Act.put, List.setIfInBounds_toArray, List.set_cons_zero, List.set_cons_succ, i64_w, i32_w]
            rfl
          refine pure_ (i := 19) (N := some 136) (v := ?_) (a' := ?_) #[true, true, true, true, true, true, true, true, true, true, true, true, true, true, true, true, true, true, true, true, false, false, false, false, false, false, false, false, false, false, false, false, false, false, false, false, false, false, false, false] rfl rfl (by kernel_rfl) (fun _ _ _ h => h) (Or.inl ⟨by rfl, ?_⟩) ?_ ?_
          rotate_left
          · intro w'
            go_simp
            with_reducible rfl
          rotate_left
          · simp only [Act.put, List.setIfInBounds_toArray, List.set_cons_zero, List.set_cons_succ, i64_w, i32_w]
            rfl
          refine pure_ (i := 20) (N := some 137) (v := ?_) (a' := ?_) #[true, true, true, true, true, true, true, true, true, true, true, true, true, true, true, true, true, true, true, true, true, false, false, false, false, false, false, false, false, false, false, false, false, false, false, false, false, false, false, false] rfl rfl (by kernel_rfl) (fun _ _ _ h => h) (Or.inl ⟨by rfl, ?_⟩) ?_ ?_
          rotate_left
          · intro w'
            go_simp
            with_reducible rfl
          rotate_left
          · simp only [Act.put, List.setIfInBounds_toArray, List.set_cons_zero, List.set_cons_succ, i64_w, i32_w]
            rfl
          refine pure_ (i := 21) (N := some 138) (v := ?_) (a' := ?_) #[true, true, true, true, true, true, true, true, true, true, true, true, true, true, true, true, true, true, true, true, true, true, false, false, false, false, false, false, false, false, false, false, false, false, false, false, false, false, false, false] rfl rfl (by kernel_rfl) (fun _ _ _ h => h) (Or.inl ⟨by rfl, ?_⟩) ?_ ?_
          rotate_left
          · intro w'
            go_simp
            with_reducible rfl
          rotate_left
          · simp only [Act.put, List.setIfInBounds_toArray, List.set_cons_zero, List.set_cons_succ, i64_w, i32_w]
            rfl
          refine pure_ (i := 22) (N := some 139) (v := ?_) (a' := ?_) #[true, true, true, true, true, true, true, true, true, true, true, true, true, true, true, true, true, true, true, true, true, true, true, false, false, false, false, false, false, false, false, false, false, false, false, false, false, false, false, false] rfl rfl (by kernel_rfl) (fun _ _ _ h => h) (Or.inl ⟨by rfl, ?_⟩) ?_ ?_
          rotate_left
          · intro w'
            go_simp
            with_reducible rfl
          rotate_left
          · simp only [Act.put, List.setIfInBounds_toArray, List.set_cons_zero, List.set_cons_succ, i64_w, i32_w]
            rfl
          refine pure_ (i := 25) (N := some 142) (v := ?_) (a' := ?_) #[true, true, true, true, true, true, true, true, true, true, true, true, true, true, true, true, true, true, true, true, true, true, true, false, false, true, false, false, false, false, false, false, false, false, false, false, false, false, false, false] rfl rfl (by kernel_rfl) (fun _ _ _ h => h) (Or.inl ⟨by rfl, ?_⟩) ?_ ?_
          rotate_left
          · intro w'
            go_simp
            with_reducible rfl
          rotate_left
          · simp only [Act.put, List.setIfInBounds_toArray, List.set_cons_zero, List.set_cons_succ, i64_w, i32_w]
            rfl
          refine pure_ (i := 26) (N := some 143) (v := ?_) (a' := ?_) #[true, true, true, true, true, true, true, true, true, true, true, true, true, true, true, true, true, true, true, true, true, true, true, false, false, true, true, false, false, false, false, false, false, false, false, false, false, false, false, false] rfl rfl (by kernel_rfl) (fun _ _ _ h => h) (Or.inl ⟨by rfl, ?_⟩) ?_ ?_
          rotate_left
          · intro w'
            go_simp
            with_reducible rfl
          rotate_left
          · simp only [Act.put, List.setIfInBounds_toArray, List.set_cons_zero, List.set_cons_succ, i64_w, i32_w]
            rfl
          refine pure_ (i := 27) (N := some 144) (v := ?_) (a' := ?_) #[true, true, true, true, true, true, true, true, true, true, true, true, true, true, true, true, true, true, true, true, true, true, true, false, false, true, true, true, false, false, false, false, false, false, false, false, false, false, false, false] rfl rfl (by kernel_rfl) (fun _ _ _ h => h) (Or.inl ⟨by rfl, ?_⟩) ?_ ?_
          rotate_left
          · intro w'
            go_simp
            with_reducible rfl
          rotate_left
          · simp only [Act.put, List.setIfInBounds_toArray, List.set_cons_zero, List.set_cons_succ, i64_w, i32_w]
            rfl
          refine take_ (i := 23) (N := some 140) (v := ?_) (a' := ?_) #[true, true, true, true, true, true, true, true, true, true, true, true, true, true, true, true, true, true, true, true, true, true, true, true, false, true, true, true, false, false, false, false, false, false, false, false, false, false, false, false] rfl rfl (by kernel_rfl) (fun _ _ _ h => h) (Or.inl ⟨by rfl, ?_⟩) hHeld ?_ ?_
          rotate_left
          · rintro w' ⟨s0, s1, s2⟩
            go_simp
            with_reducible rfl
          rotate_left
          · simp only [Act.put, List.setIfInBounds_toArray, List.set_cons_zero, List.set_cons_succ, i64_w, i32_w]
            rfl
          refine take_ (i := 28) (N := some 145) (v := ?_) (a' := ?_) #[true, true, true, true, true, true, true, true, true, true, true, true, true, true, true, true, true, true, true, true, true, true, true, true, false, true, true, true, true, false, false, false, false, false, false, false, false, false, false, false] rfl rfl (by kernel_rfl) (fun _ _ _ h => h) (Or.inl ⟨by rfl, ?_⟩) hHeld ?_ ?_
          rotate_left
          · rintro w' ⟨s0, s1, s2⟩
            go_simp
            with_reducible rfl
          rotate_left
          · simp only [Act.put, List.setIfInBounds_toArray, List.set_cons_zero, List.set_cons_succ, i64_w, i32_w]
            rfl
          refine one_ (i := 24) (N := some 141) #[true, true, true, true, true, true, true, true, true, true, true, true, true, true, true, true, true, true, true, true, true, true, true, true, true, true, true, true, true, false, false, false, false, false, false, false, false, false, false, false] rfl rfl (by kernel_rfl) (by decide) (fun K hK => ?_)
          refine goes_ Try.func13 (by kernel_rfl) rfl #[.pointer (some ⟨gj9, 0, none⟩)] (by rfl) rfl rfl (by simp only [List.map_toArray, List.map_cons, List.map_nil]; rfl) ?_
          with_reducible refine (SYN.out _ (HJ11.out.below (below_drew (Below.refl _ _)))).mono ?_
          rintro e w14 ⟨rfl, rfl⟩
          refine ⟨_, rfl, ?_⟩
          refine hK.out _ _ ⟨c1, c2, c3⟩ (fun hHeld => ?_)
          clear hK K
          refine norm_ (a' := ?_) ?_ ?_
          rotate_left
          · show Act.put _ (some 141) _ = _
            simp only [Act.put, List.setIfInBounds_toArray, List.set_cons_zero, List.set_cons_succ, i64_w, i32_w]
            rfl
          refine pure_ (i := 29) (N := some 146) (v := ?_) (a' := ?_) #[true, true, true, true, true, true, true, true, true, true, true, true, true, true, true, true, true, true, true, true, true, true, true, true, true, true, true, true, true, true, false, false, false, false, false, false, false, false, false, false] rfl rfl (by kernel_rfl) (fun _ _ _ h => h) (Or.inl ⟨by rfl, ?_⟩) ?_ ?_
          rotate_left
          · intro w'
            go_simp
            with_reducible rfl
          rotate_left
          · simp only [Act.put, List.setIfInBounds_toArray, List.set_cons_zero, List.set_cons_succ, i64_w, i32_w]
            rfl
          refine pure_ (i := 30) (N := some 147) (v := ?_) (a' := ?_) #[true, true, true, true, true, true, true, true, true, true, true, true, true, true, true, true, true, true, true, true, true, true, true, true, true, true, true, true, true, true, true, false, false, false, false, false, false, false, false, false] rfl rfl (by kernel_rfl) (fun _ _ _ h => h) (Or.inl ⟨by rfl, ?_⟩) ?_ ?_
          rotate_left
          · intro w'
            go_simp
            with_reducible rfl
          rotate_left
          · simp only [Act.put, List.setIfInBounds_toArray, List.set_cons_zero, List.set_cons_succ, i64_w, i32_w]
            rfl
          refine pure_ (i := 31) (N := some 148) (v := ?_) (a' := ?_) #[true, true, true, true, true, true, true, true, true, true, true, true, true, true, true, true, true, true, true, true, true, true, true, true, true, true, true, true, true, true, true, true, false, false, false, false, false, false, false, false] rfl rfl (by kernel_rfl) (fun _ _ _ h => h) (Or.inl ⟨by rfl, ?_⟩) ?_ ?_
          rotate_left
          · intro w'
            go_simp
            with_reducible rfl
          rotate_left
          · simp only [Act.put, List.setIfInBounds_toArray, List.set_cons_zero, List.set_cons_succ, i64_w, i32_w]
            rfl
          refine pure_ (i := 32) (N := some 149) (v := ?_) (a' := ?_) #[true, true, true, true, true, true, true, true, true, true, true, true, true, true, true, true, true, true, true, true, true, true, true, true, true, true, true, true, true, true, true, true, true, false, false, false, false, false, false, false] rfl rfl (by kernel_rfl) (fun _ _ _ h => h) (Or.inl ⟨by rfl, ?_⟩) ?_ ?_
          rotate_left
          · intro w'
            go_simp
            with_reducible rfl
          rotate_left
          · simp only [Act.put, List.setIfInBounds_toArray, List.set_cons_zero, List.set_cons_succ, i64_w, i32_w]
            rfl
          refine pure_ (i := 33) (N := some 150) (v := ?_) (a' := ?_) #[true, true, true, true, true, true, true, true, true, true, true, true, true, true, true, true, true, true, true, true, true, true, true, true, true, true, true, true, true, true, true, true, true, true, false, false, false, false, false, false] rfl rfl (by kernel_rfl) (fun _ _ _ h => h) (Or.inl ⟨by rfl, ?_⟩) ?_ ?_
          rotate_left
          · intro w'
            go_simp
            with_reducible rfl
          rotate_left
          · simp only [Act.put, List.setIfInBounds_toArray, List.set_cons_zero, List.set_cons_succ, i64_w, i32_w]
            rfl
          refine pure_ (i := 34) (N := some 151) (v := ?_) (a' := ?_) #[true, true, true, true, true, true, true, true, true, true, true, true, true, true, true, true, true, true, true, true, true, true, true, true, true, true, true, true, true, true, true, true, true, true, true, false, false, false, false, false] rfl rfl (by kernel_rfl) (fun _ _ _ h => h) (Or.inl ⟨by rfl, ?_⟩) ?_ ?_
          rotate_left
          · intro w'
            go_simp
            with_reducible rfl
          rotate_left
          · simp only [Act.put, List.setIfInBounds_toArray, List.set_cons_zero, List.set_cons_succ, i64_w, i32_w]
            rfl
          refine take_ (i := 35) (N := some 152) (v := ?_) (a' := ?_) #[true, true, true, true, true, true, true, true, true, true, true, true, true, true, true, true, true, true, true, true, true, true, true, true, true, true, true, true, true, true, true, true, true, true, true, true, false, false, false, false] rfl rfl (by kernel_rfl) (fun _ _ _ h => h) (Or.inl ⟨by rfl, ?_⟩) hHeld ?_ ?_
          rotate_left
          · rintro w' ⟨s0, s1, s2⟩
            go_simp
            with_reducible rfl
          rotate_left
          · simp only [Act.put, List.setIfInBounds_toArray, List.set_cons_zero, List.set_cons_succ, i64_w, i32_w]
            rfl
          refine last_ (i := 36) (N := some 153) #[true, true, true, true, true, true, true, true, true, true, true, true, true, true, true, true, true, true, true, true, true, true, true, true, true, true, true, true, true, true, true, true, true, true, true, true, true, false, false, false] rfl rfl (by kernel_rfl) (by decide) (fun K hK => ?_)
          refine goes_ Try.func9 (by kernel_rfl) rfl #[.pointer (some ⟨gj9, 0, none⟩)] (by rfl) rfl rfl (by simp only [List.map_toArray, List.map_cons, List.map_nil]; rfl) ?_
          with_reducible refine (XRoom (HJ11.out.below (below_drew (Below.refl _ _))) HRM.out.1 HRM.out.2).mono ?_
          rintro e w15 ⟨rfl, hd15⟩
          refine ⟨_, rfl, ?_⟩
          refine hK.out _ _ ?_
          clear hK K
          refine norm_ (a' := ?_) ?_ ?_
          rotate_left
          · show Act.put _ (some 153) _ = _
            simp only [Act.put, List.setIfInBounds_toArray, List.set_cons_zero, List.set_cons_succ, i64_w, i32_w]
            rfl
          refine pure_ (i := 37) (N := some 154) (v := ?_) (a' := ?_) #[true, true, true, true, true, true, true, true, true, true, true, true, true, true, true, true, true, true, true, true, true, true, true, true, true, true, true, true, true, true, true, true, true, true, true, true, true, true, false, false] rfl rfl (by kernel_rfl) (fun _ _ _ h => h) (Or.inl ⟨by rfl, ?_⟩) ?_ ?_
          rotate_left
          · intro w'
            go_simp
            with_reducible rfl
          rotate_left
          · simp only [Act.put, List.setIfInBounds_toArray, List.set_cons_zero, List.set_cons_succ, i64_w, i32_w]
            rfl
          refine pure_ (i := 38) (N := some 155) (v := ?_) (a' := ?_) #[true, true, true, true, true, true, true, true, true, true, true, true, true, true, true, true, true, true, true, true, true, true, true, true, true, true, true, true, true, true, true, true, true, true, true, true, true, true, true, false] rfl rfl (by kernel_rfl) (fun _ _ _ h => h) (Or.inl ⟨by rfl, ?_⟩) ?_ ?_
          rotate_left
          · intro w'
            go_simp
            with_reducible rfl
          rotate_left
          · simp only [Act.put, List.setIfInBounds_toArray, List.set_cons_zero, List.set_cons_succ, i64_w, i32_w]
            rfl
          refine pure_ (i := 39) (N := some 6) (v := ?_) (a' := ?_) #[true, true, true, true, true, true, true, true, true, true, true, true, true, true, true, true, true, true, true, true, true, true, true, true, true, true, true, true, true, true, true, true, true, true, true, true, true, true, true, true] rfl rfl (by kernel_rfl) (fun _ _ _ h => h) (Or.inl ⟨by rfl, ?_⟩) ?_ ?_
          rotate_left
          · intro w'
            go_simp
            with_reducible rfl
          rotate_left
          · simp only [Act.put, List.setIfInBounds_toArray, List.set_cons_zero, List.set_cons_succ, i64_w, i32_w]
            rfl
          refine done_ (by kernel_rfl) ?_
          
          have HEND := Aside0.mk (show At w0 w15 bx g (i + 1) from ⟨ok11, gj9, _, _, d11, s9, l9, _, m9, (HJ11.out.below (below_drew (Below.refl _ _))).below hd15.below, (HX11.out.below (below_drew (Below.refl _ _))).below hd15.below, HL11.out, HPN.out, by have := HB9.out; omega, by have := HB9.out; omega, HB9.out.2.2⟩)
          clear hHeld hd15
          go_wp2_with fail
          go_ret
          exact ⟨by show Ending.returned (.bool (decide (cntN s9.waits.length ≤ secN d11.n - s9.used))) = _; rw [decide_eq_true HRN.out], HEND.out⟩
        · go_wp2_with fail
          refine start_ (n := 40) (S := fun w' => w'.cell? ⟨bx, 1, none⟩ = some (.pointer (some ⟨gj9, 0, none⟩)) ∧ w'.cell? ⟨bx, 2, none⟩ = some (.slice Al l9.length cl) ∧ w'.cell? ⟨bx, 3, none⟩ = some (.int .i64 (m9 : Int))) (ds := [36]) #[false, false, false, false, false, false, false, false, false, false, false, false, false, false, false, false, false, false, false, false, false, false, false, false, false, false, false, false, false, false, false, false, false, false, false, false, false, false, false, false] (by kernel_rfl) rfl rfl ⟨c1, c2, c3⟩ (fun hHeld => ?_)
          refine pure_ (i := 0) (N := some 117) (v := ?_) (a' := ?_) #[true, false, false, false, false, false, false, false, false, false, false, false, false, false, false, false, false, false, false, false, false, false, false, false, false, false, false, false, false, false, false, false, false, false, false, false, false, false, false, false] rfl rfl (by kernel_rfl) (fun _ _ _ h => h) (Or.inl ⟨by rfl, ?_⟩) ?_ ?_
          rotate_left
          · intro w'
            go_simp
            with_reducible rfl
          rotate_left
          · simp only [Act.put, List.setIfInBounds_toArray, List.set_cons_zero, List.set_cons_succ, i64_w, i32_w]
            rfl
          refine pure_ (i := 1) (N := some 118) (v := ?_) (a' := ?_) #[true, true, false, false, false, false, false, false, false, false, false, false, false, false, false, false, false, false, false, false, false, false, false, false, false, false, false, false, false, false, false, false, false, false, false, false, false, false, false, false] rfl rfl (by kernel_rfl) (fun _ _ _ h => h) (Or.inl ⟨by rfl, ?_⟩) ?_ ?_
          rotate_left
          · intro w'
            go_simp
            with_reducible rfl
          rotate_left
          · simp only [Act.put, List.setIfInBounds_toArray, List.set_cons_zero, List.set_cons_succ, i64_w, i32_w]
            rfl
          refine pure_ (i := 2) (N := some 119) (v := ?_) (a' := ?_) #[true, true, true, false, false, false, false, false, false, false, false, false, false, false, false, false, false, false, false, false, false, false, false, false, false, false, false, false, false, false, false, false, false, false, false, false, false, false, false, false] rfl rfl (by kernel_rfl) (fun _ _ _ h => h) (Or.inl ⟨by rfl, ?_⟩) ?_ ?_
          rotate_left
          · intro w'
            go_simp
            with_reducible rfl
          rotate_left
          · simp only [Act.put, List.setIfInBounds_toArray, List.set_cons_zero, List.set_cons_succ, i64_w, i32_w]
            rfl
          refine pure_ (i := 3) (N := some 120) (v := ?_) (a' := ?_) #[true, true, true, true, false, false, false, false, false, false, false, false, false, false, false, false, false, false, false, false, false, false, false, false, false, false, false, false, false, false, false, false, false, false, false, false, false, false, false, false] rfl rfl (by kernel_rfl) (fun _ _ _ h => h) (Or.inl ⟨by rfl, ?_⟩) ?_ ?_
          rotate_left
          · intro w'
            go_simp
            with_reducible rfl
          rotate_left
          · simp only [Act.put, List.setIfInBounds_toArray, List.set_cons_zero, List.set_cons_succ, i64_w, i32_w]
            rfl
          refine pure_ (i := 4) (N := some 121) (v := ?_) (a' := ?_) #[true, true, true, true, true, false, false, false, false, false, false, false, false, false, false, false, false, false, false, false, false, false, false, false, false, false, false, false, false, false, false, false, false, false, false, false, false, false, false, false] rfl rfl (by kernel_rfl) (fun _ _ _ h => h) (Or.inl ⟨by rfl, ?_⟩) ?_ ?_
          rotate_left
          · intro w'
            go_simp
            with_reducible rfl
          rotate_left
          · simp only [Act.put, List.setIfInBounds_toArray, List.set_cons_zero, List.set_cons_succ, i64_w, i32_w]
            rfl
          refine pure_ (i := 5) (N := some 122) (v := ?_) (a' := ?_) #[true, true, true, true, true, true, false, false, false, false, false, false, false, false, false, false, false, false, false, false, false, false, false, false, false, false, false, false, false, false, false, false, false, false, false, false, false, false, false, false] rfl rfl (by kernel_rfl) (fun _ _ _ h => h) (Or.inl ⟨by rfl, ?_⟩) ?_ ?_
          rotate_left
          · intro w'
            go_simp
            with_reducible rfl
          rotate_left
          · simp only [Act.put, List.setIfInBounds_toArray, List.set_cons_zero, List.set_cons_succ, i64_w, i32_w]
            rfl
          refine pure_ (i := 6) (N := some 123) (v := ?_) (a' := ?_) #[true, true, true, true, true, true, true, false, false, false, false, false, false, false, false, false, false, false, false, false, false, false, false, false, false, false, false, false, false, false, false, false, false, false, false, false, false, false, false, false] rfl rfl (by kernel_rfl) (fun _ _ _ h => h) (Or.inl ⟨by rfl, ?_⟩) ?_ ?_
          rotate_left
          · intro w'
            go_simp
            with_reducible rfl
          rotate_left
          · simp only [Act.put, List.setIfInBounds_toArray, List.set_cons_zero, List.set_cons_succ, i64_w, i32_w]
            rfl
          refine pure_ (i := 7) (N := some 124) (v := ?_) (a' := ?_) #[true, true, true, true, true, true, true, true, false, false, false, false, false, false, false, false, false, false, false, false, false, false, false, false, false, false, false, false, false, false, false, false, false, false, false, false, false, false, false, false] rfl rfl (by kernel_rfl) (fun _ _ _ h => h) (Or.inl ⟨by rfl, ?_⟩) ?_ ?_
          rotate_left
          · intro w'
            go_simp
            with_reducible rfl
          rotate_left
          · simp only [Act.put, List.setIfInBounds_toArray, List.set_cons_zero, List.set_cons_succ, i64_w, i32_w]
            rfl
          refine pure_ (i := 8) (N := some 125) (v := ?_) (a' := ?_) #[true, true, true, true, true, true, true, true, true, false, false, false, false, false, false, false, false, false, false, false, false, false, false, false, false, false, false, false, false, false, false, false, false, false, false, false, false, false, false, false] rfl rfl (by kernel_rfl) (fun _ _ _ h => h) (Or.inl ⟨by rfl, ?_⟩) ?_ ?_
          rotate_left
          · intro w'
            go_simp
            with_reducible rfl
          rotate_left
          · simp only [Act.put, List.setIfInBounds_toArray, List.set_cons_zero, List.set_cons_succ, i64_w, i32_w]
            rfl
          refine pure_ (i := 9) (N := some 126) (v := ?_) (a' := ?_) #[true, true, true, true, true, true, true, true, true, true, false, false, false, false, false, false, false, false, false, false, false, false, false, false, false, false, false, false, false, false, false, false, false, false, false, false, false, false, false, false] rfl rfl (by kernel_rfl) (fun _ _ _ h => h) (Or.inl ⟨by rfl, ?_⟩) ?_ ?_
          rotate_left
          · intro w'
            go_simp
            with_reducible rfl
          rotate_left
          · simp only [Act.put, List.setIfInBounds_toArray, List.set_cons_zero, List.set_cons_succ, i64_w, i32_w]
            rfl
          refine pure_ (i := 12) (N := some 129) (v := ?_) (a' := ?_) #[true, true, true, true, true, true, true, true, true, true, false, false, true, false, false, false, false, false, false, false, false, false, false, false, false, false, false, false, false, false, false, false, false, false, false, false, false, false, false, false] rfl rfl (by kernel_rfl) (fun _ _ _ h => h) (Or.inl ⟨by rfl, ?_⟩) ?_ ?_
          rotate_left
          · intro w'
            go_simp
            with_reducible rfl
          rotate_left
          · simp only [Act.put, List.setIfInBounds_toArray, List.set_cons_zero, List.set_cons_succ, i64_w, i32_w]
            rfl
          refine pure_ (i := 13) (N := some 130) (v := ?_) (a' := ?_) #[true, true, true, true, true, true, true, true, true, true, false, false, true, true, false, false, false, false, false, false, false, false, false, false, false, false, false, false, false, false, false, false, false, false, false, false, false, false, false, false] rfl rfl (by kernel_rfl) (fun _ _ _ h => h) (Or.inl ⟨by rfl, ?_⟩) ?_ ?_
          rotate_left
          · intro w'
            go_simp
            with_reducible rfl
          rotate_left
          · simp only [Act.put, List.setIfInBounds_toArray, List.set_cons_zero, List.set_cons_succ, i64_w, i32_w]
            rfl
          refine pure_ (i := 14) (N := some 131) (v := ?_) (a' := ?_) #[true, true, true, true, true, true, true, true, true, true, false, false, true, true, true, false, false, false, false, false, false, false, false, false, false, false, false, false, false, false, false, false, false, false, false, false, false, false, false, false] rfl rfl (by kernel_rfl) (fun _ _ _ h => h) (Or.inl ⟨by rfl, ?_⟩) ?_ ?_
          rotate_left
          · intro w'
            go_simp
            with_reducible rfl
          rotate_left
          · simp only [Act.put, List.setIfInBounds_toArray, List.set_cons_zero, List.set_cons_succ, i64_w, i32_w]
            rfl
          refine take_ (i := 10) (N := some 127) (v := ?_) (a' := ?_) #[true, true, true, true, true, true, true, true, true, true, true, false, true, true, true, false, false, false, false, false, false, false, false, false, false, false, false, false, false, false, false, false, false, false, false, false, false, false, false, false] rfl rfl (by kernel_rfl) (fun _ _ _ h => h) (Or.inl ⟨by rfl, ?_⟩) hHeld ?_ ?_
          rotate_left
          · rintro w' ⟨s0, s1, s2⟩
            go_simp
            with_reducible rfl
          rotate_left
          · simp only [Act.put, List.setIfInBounds_toArray, List.set_cons_zero, List.set_cons_succ, i64_w, i32_w]
            rfl
          refine take_ (i := 15) (N := some 132) (v := ?_) (a' := ?_) #[true, true, true, true, true, true, true, true, true, true, true, false, true, true, true, true, false, false, false, false, false, false, false, false, false, false, false, false, false, false, false, false, false, false, false, false, false, false, false, false] rfl rfl (by kernel_rfl) (fun _ _ _ h => h) (Or.inl ⟨by rfl, ?_⟩) hHeld ?_ ?_
          rotate_left
          · rintro w' ⟨s0, s1, s2⟩
            go_simp
            with_reducible rfl
          rotate_left
          · simp only [Act.put, List.setIfInBounds_toArray, List.set_cons_zero, List.set_cons_succ, i64_w, i32_w]
            rfl
          refine pure_ (i := 16) (N := some 133) (v := ?_) (a' := ?_) #[true, true, true, true, true, true, true, true, true, true, true, false, true, true, true, true, true, false, false, false, false, false, false, false, false, false, false, false, false, false, false, false, false, false, false, false, false, false, false, false] rfl rfl (by kernel_rfl) (fun _ _ _ h => h) (Or.inl ⟨by rfl, ?_⟩) ?_ ?_
          rotate_left
          · intro w'
            go_simp
            with_reducible rfl
          rotate_left
          · simp only [Act.put, List.setIfInBounds_toArray, List.set_cons_zero, List.set_cons_succ, i64_w, i32_w]
            rfl
          refine one_ (i := 11) (N := some 128) #[true, true, true, true, true, true, true, true, true, true, true, true, true, true, true, true, true, false, false, false, false, false, false, false, false, false, false, false, false, false, false, false, false, false, false, false, false, false, false, false] rfl rfl (by kernel_rfl) (by decide) (fun K hK => ?_)
          refine goes_ Try.func12 (by kernel_rfl) rfl #[.pointer (some ⟨gj9, 0, none⟩)] (by rfl) rfl rfl (by simp only [List.map_toArray, List.map_cons, List.map_nil]; rfl) ?_
          with_reducible refine (LEN.out _ (HJ11.out.below (below_drew (Below.refl _ _)))).mono ?_
          rintro e w13 ⟨rfl, rfl⟩
          refine ⟨_, rfl, ?_⟩
          refine hK.out _ _ ⟨c1, c2, c3⟩ (fun hHeld => ?_)
          clear hK K
          refine norm_ (a' := ?_) ?_ ?_
          rotate_left
          · show Act.put _ (some 128) _ = _
            simp only [Act.put, List.setIfInBounds_toArray, List.set_cons_zero, List.set_cons_succ, i64_w, i32_w]
            rfl
          refine pure_ (i := 17) (N := some 134) (v := ?_) (a' := ?_) #[true, true, true, true, true, true, true, true, true, true, true, true, true, true, true, true, true, true, false, false, false, false, false, false, false, false, false, false, false, false, false, false, false, false, false, false, false, false, false, false] rfl rfl (by kernel_rfl) (fun _ _ _ h => h) (Or.inl ⟨by rfl, ?_⟩) ?_ ?_
          rotate_left
          · intro w'
            go_simp
            with_reducible rfl
          rotate_left
          · simp only [Act.put, List.setIfInBounds_toArray, List.set_cons_zero, List.set_cons_succ, i64_w, i32_w]
            rfl
          refine pure_ (i := 18) (N := some 135) (v := ?_) (a' := ?_) #[true, true, true, true, true, true, true, true, true, true, true, true, true, true, true, true, true, true, true, false, false, false, false, false, false, false, false, false, false, false, false, false, false, false, false, false, false, false, false, false] rfl rfl (by kernel_rfl) (fun _ _ _ h => h) (Or.inl ⟨by rfl, ?_⟩) ?_ ?_
          rotate_left
          · intro w'
            go_simp
            with_reducible rfl
          rotate_left
          · simp only [Act.put, List.setIfInBounds_toArray, List.set_cons_zero, List.set_cons_succ, i64_w, i32_w]
            rfl
          refine pure_ (i := 19) (N := some 136) (v := ?_) (a' := ?_) #[true, true, true, true, true, true, true, true, true, true, true, true, true, true, true, true, true, true, true, true, false, false, false, false, false, false, false, false, false, false, false, false, false, false, false, false, false, false, false, false] rfl rfl (by kernel_rfl) (fun _ _ _ h => h) (Or.inl ⟨by rfl, ?_⟩) ?_ ?_
          rotate_left
          · intro w'
            go_simp
            with_reducible rfl
          rotate_left
          · simp only [Act.put, List.setIfInBounds_toArray, List.set_cons_zero, List.set_cons_succ, i64_w, i32_w]
            rfl
          refine pure_ (i := 20) (N := some 137) (v := ?_) (a' := ?_) #[true, true, true, true, true, true, true, true, true, true, true, true, true, true, true, true, true, true, true, true, true, false, false, false, false, false, false, false, false, false, false, false, false, false, false, false, false, false, false, false] rfl rfl (by kernel_rfl) (fun _ _ _ h => h) (Or.inl ⟨by rfl, ?_⟩) ?_ ?_
          rotate_left
          · intro w'
            go_simp
            with_reducible rfl
          rotate_left
          · simp only [Act.put, List.setIfInBounds_toArray, List.set_cons_zero, List.set_cons_succ, i64_w, i32_w]
            rfl
          refine pure_ (i := 21) (N := some 138) (v := ?_) (a' := ?_) #[true, true, true, true, true, true, true, true, true, true, true, true, true, true, true, true, true, true, true, true, true, true, false, false, false, false, false, false, false, false, false, false, false, false, false, false, false, false, false, false] rfl rfl (by kernel_rfl) (fun _ _ _ h => h) (Or.inl ⟨by rfl, ?_⟩) ?_ ?_
          rotate_left
          · intro w'
            go_simp
            with_reducible rfl
          rotate_left
          · simp only [Act.put, List.setIfInBounds_toArray, List.set_cons_zero, List.set_cons_succ, i64_w, i32_w]
            rfl
          refine pure_ (i := 22) (N := some 139) (v := ?_) (a' := ?_) #[true, true, true, true, true, true, true, true, true, true, true, true, true, true, true, true, true, true, true, true, true, true, true, false, false, false, false, false, false, false, false, false, false, false, false, false, false, false, false, false] rfl rfl (by kernel_rfl) (fun _ _ _ h => h) (Or.inl ⟨by rfl, ?_⟩) ?_ ?_
          rotate_left
          · intro w'
            go_simp
            with_reducible rfl
          rotate_left
          · simp only [Act.put, List.setIfInBounds_toArray, List.set_cons_zero, List.set_cons_succ, i64_w, i32_w]
            rfl
          refine pure_ (i := 25) (N := some 142) (v := ?_) (a' := ?_) #[true, true, true, true, true, true, true, true, true, true, true, true, true, true, true, true, true, true, true, true, true, true, true, false, false, true, false, false, false, false, false, false, false, false, false, false, false, false, false, false] rfl rfl (by kernel_rfl) (fun _ _ _ h => h) (Or.inl ⟨by rfl, ?_⟩) ?_ ?_
          rotate_left
          · intro w'
            go_simp
            with_reducible rfl
          rotate_left
          · simp only [Act.put, List.setIfInBounds_toArray, List.set_cons_zero, List.set_cons_succ, i64_w, i32_w]
            rfl
          refine pure_ (i := 26) (N := some 143) (v := ?_) (a' := ?_) #[true, true, true, true, true, true, true, true, true, true, true, true, true, true, true, true, true, true, true, true, true, true, true, false, false, true, true, false, false, false, false, false, false, false, false, false, false, false, false, false] rfl rfl (by kernel_rfl) (fun _ _ _ h => h) (Or.inl ⟨by rfl, ?_⟩) ?_ ?_
          rotate_left
          · intro w'
            go_simp
            with_reducible rfl
          rotate_left
          · simp only [Act.put, List.setIfInBounds_toArray, List.set_cons_zero, List.set_cons_succ, i64_w, i32_w]
            rfl
          refine pure_ (i := 27) (N := some 144) (v := ?_) (a' := ?_) #[true, true, true, true, true, true, true, true, true, true, true, true, true, true, true, true, true, true, true, true, true, true, true, false, false, true, true, true, false, false, false, false, false, false, false, false, false, false, false, false] rfl rfl (by kernel_rfl) (fun _ _ _ h => h) (Or.inl ⟨by rfl, ?_⟩) ?_ ?_
          rotate_left
          · intro w'
            go_simp
            with_reducible rfl
          rotate_left
          · simp only [Act.put, List.setIfInBounds_toArray, List.set_cons_zero, List.set_cons_succ, i64_w, i32_w]
            rfl
          refine take_ (i := 23) (N := some 140) (v := ?_) (a' := ?_) #[true, true, true, true, true, true, true, true, true, true, true, true, true, true, true, true, true, true, true, true, true, true, true, true, false, true, true, true, false, false, false, false, false, false, false, false, false, false, false, false] rfl rfl (by kernel_rfl) (fun _ _ _ h => h) (Or.inl ⟨by rfl, ?_⟩) hHeld ?_ ?_
          rotate_left
          · rintro w' ⟨s0, s1, s2⟩
            go_simp
            with_reducible rfl
          rotate_left
          · simp only [Act.put, List.setIfInBounds_toArray, List.set_cons_zero, List.set_cons_succ, i64_w, i32_w]
            rfl
          refine take_ (i := 28) (N := some 145) (v := ?_) (a' := ?_) #[true, true, true, true, true, true, true, true, true, true, true, true, true, true, true, true, true, true, true, true, true, true, true, true, false, true, true, true, true, false, false, false, false, false, false, false, false, false, false, false] rfl rfl (by kernel_rfl) (fun _ _ _ h => h) (Or.inl ⟨by rfl, ?_⟩) hHeld ?_ ?_
          rotate_left
          · rintro w' ⟨s0, s1, s2⟩
            go_simp
            with_reducible rfl
          rotate_left
          · simp only [Act.put, List.setIfInBounds_toArray, List.set_cons_zero, List.set_cons_succ, i64_w, i32_w]
            rfl
          refine one_ (i := 24) (N := some 141) #[true, true, true, true, true, true, true, true, true, true, true, true, true, true, true, true, true, true, true, true, true, true, true, true, true, true, true, true, true, false, false, false, false, false, false, false, false, false, false, false] rfl rfl (by kernel_rfl) (by decide) (fun K hK => ?_)
          refine goes_ Try.func13 (by kernel_rfl) rfl #[.pointer (some ⟨gj9, 0, none⟩)] (by rfl) rfl rfl (by simp only [List.map_toArray, List.map_cons, List.map_nil]; rfl) ?_
          with_reducible refine (SYN.out _ (HJ11.out.below (below_drew (Below.refl _ _)))).mono ?_
          rintro e w14 ⟨rfl, rfl⟩
          refine ⟨_, rfl, ?_⟩
          refine hK.out _ _ ⟨c1, c2, c3⟩ (fun hHeld => ?_)
          clear hK K
          refine norm_ (a' := ?_) ?_ ?_
          rotate_left
          · show Act.put _ (some 141) _ = _
            simp only [Act.put, List.setIfInBounds_toArray, List.set_cons_zero, List.set_cons_succ, i64_w, i32_w]
            rfl
          refine pure_ (i := 29) (N := some 146) (v := ?_) (a' := ?_) #[true, true, true, true, true, true, true, true, true, true, true, true, true, true, true, true, true, true, true, true, true, true, true, true, true, true, true, true, true, true, false, false, false, false, false, false, false, false, false, false] rfl rfl (by kernel_rfl) (fun _ _ _ h => h) (Or.inl ⟨by rfl, ?_⟩) ?_ ?_
          rotate_left
          · intro w'
            go_simp
            with_reducible rfl
          rotate_left
          · simp only [Act.put, List.setIfInBounds_toArray, List.set_cons_zero, List.set_cons_succ, i64_w, i32_w]
            rfl
          refine pure_ (i := 30) (N := some 147) (v := ?_) (a' := ?_) #[true, true, true, true, true, true, true, true, true, true, true, true, true, true, true, true, true, true, true, true, true, true, true, true, true, true, true, true, true, true, true, false, false, false, false, false, false, false, false, false] rfl rfl (by kernel_rfl) (fun _ _ _ h => h) (Or.inl ⟨by rfl, ?_⟩) ?_ ?_
          rotate_left
          · intro w'
            go_simp
            with_reducible rfl
          rotate_left
          · simp only [Act.put, List.setIfInBounds_toArray, List.set_cons_zero, List.set_cons_succ, i64_w, i32_w]
            rfl
          refine pure_ (i := 31) (N := some 148) (v := ?_) (a' := ?_) #[true, true, true, true, true, true, true, true, true, true, true, true, true, true, true, true, true, true, true, true, true, true, true, true, true, true, true, true, true, true, true, true, false, false, false, false, false, false, false, false] rfl rfl (by kernel_rfl) (fun _ _ _ h => h) (Or.inl ⟨by rfl, ?_⟩) ?_ ?_
          rotate_left
          · intro w'
            go_simp
            with_reducible rfl
          rotate_left
          · simp only [Act.put, List.setIfInBounds_toArray, List.set_cons_zero, List.set_cons_succ, i64_w, i32_w]
            rfl
          refine pure_ (i := 32) (N := some 149) (v := ?_) (a' := ?_) #[true, true, true, true, true, true, true, true, true, true, true, true, true, true, true, true, true, true, true, true, true, true, true, true, true, true, true, true, true, true, true, true, true, false, false, false, false, false, false, false] rfl rfl (by kernel_rfl) (fun _ _ _ h => h) (Or.inl ⟨by rfl, ?_⟩) ?_ ?_
          rotate_left
          · intro w'
            go_simp
            with_reducible rfl
          rotate_left
          · simp only [Act.put, List.setIfInBounds_toArray, List.set_cons_zero, List.set_cons_succ, i64_w, i32_w]
            rfl
          refine pure_ (i := 33) (N := some 150) (v := ?_) (a' := ?_) #[true, true, true, true, true, true, true, true, true, true, true, true, true, true, true, true, true, true, true, true, true, true, true, true, true, true, true, true, true, true, true, true, true, true, false, false, false, false, false, false] rfl rfl (by kernel_rfl) (fun _ _ _ h => h) (Or.inl ⟨by rfl, ?_⟩) ?_ ?_
          rotate_left
          · intro w'
            go_simp
            with_reducible rfl
          rotate_left
          · simp only [Act.put, List.setIfInBounds_toArray, List.set_cons_zero, List.set_cons_succ, i64_w, i32_w]
            rfl
          refine pure_ (i := 34) (N := some 151) (v := ?_) (a' := ?_) #[true, true, true, true, true, true, true, true, true, true, true, true, true, true, true, true, true, true, true, true, true, true, true, true, true, true, true, true, true, true, true, true, true, true, true, false, false, false, false, false] rfl rfl (by kernel_rfl) (fun _ _ _ h => h) (Or.inl ⟨by rfl, ?_⟩) ?_ ?_
          rotate_left
          · intro w'
            go_simp
            with_reducible rfl
          rotate_left
          · simp only [Act.put, List.setIfInBounds_toArray, List.set_cons_zero, List.set_cons_succ, i64_w, i32_w]
            rfl
          refine take_ (i := 35) (N := some 152) (v := ?_) (a' := ?_) #[true, true, true, true, true, true, true, true, true, true, true, true, true, true, true, true, true, true, true, true, true, true, true, true, true, true, true, true, true, true, true, true, true, true, true, true, false, false, false, false] rfl rfl (by kernel_rfl) (fun _ _ _ h => h) (Or.inl ⟨by rfl, ?_⟩) hHeld ?_ ?_
          rotate_left
          · rintro w' ⟨s0, s1, s2⟩
            go_simp
            with_reducible rfl
          rotate_left
          · simp only [Act.put, List.setIfInBounds_toArray, List.set_cons_zero, List.set_cons_succ, i64_w, i32_w]
            rfl
          refine last_ (i := 36) (N := some 153) #[true, true, true, true, true, true, true, true, true, true, true, true, true, true, true, true, true, true, true, true, true, true, true, true, true, true, true, true, true, true, true, true, true, true, true, true, true, false, false, false] rfl rfl (by kernel_rfl) (by decide) (fun K hK => ?_)
          refine goes_ Try.func9 (by kernel_rfl) rfl #[.pointer (some ⟨gj9, 0, none⟩)] (by rfl) rfl rfl (by simp only [List.map_toArray, List.map_cons, List.map_nil]; rfl) ?_
          with_reducible refine (XRoom (HJ11.out.below (below_drew (Below.refl _ _))) HRM.out.1 HRM.out.2).mono ?_
          rintro e w15 ⟨rfl, hd15⟩
          refine ⟨_, rfl, ?_⟩
          refine hK.out _ _ ?_
          clear hK K
          refine norm_ (a' := ?_) ?_ ?_
          rotate_left
          · show Act.put _ (some 153) _ = _
            simp only [Act.put, List.setIfInBounds_toArray, List.set_cons_zero, List.set_cons_succ, i64_w, i32_w]
            rfl
          refine pure_ (i := 37) (N := some 154) (v := ?_) (a' := ?_) #[true, true, true, true, true, true, true, true, true, true, true, true, true, true, true, true, true, true, true, true, true, true, true, true, true, true, true, true, true, true, true, true, true, true, true, true, true, true, false, false] rfl rfl (by kernel_rfl) (fun _ _ _ h => h) (Or.inl ⟨by rfl, ?_⟩) ?_ ?_
          rotate_left
          · intro w'
            go_simp
            with_reducible rfl
          rotate_left
          · simp only [Act.put, List.setIfInBounds_toArray, List.set_cons_zero, List.set_cons_succ, i64_w, i32_w]
            rfl
          refine pure_ (i := 38) (N := some 155) (v := ?_) (a' := ?_) #[true, true, true, true, true, true, true, true, true, true, true, true, true, true, true, true, true, true, true, true, true, true, true, true, true, true, true, true, true, true, true, true, true, true, true, true, true, true, true, false] rfl rfl (by kernel_rfl) (fun _ _ _ h => h) (Or.inl ⟨by rfl, ?_⟩) ?_ ?_
          rotate_left
          · intro w'
            go_simp
            with_reducible rfl
          rotate_left
          · simp only [Act.put, List.setIfInBounds_toArray, List.set_cons_zero, List.set_cons_succ, i64_w, i32_w]
            rfl
          refine pure_ (i := 39) (N := some 6) (v := ?_) (a' := ?_) #[true, true, true, true, true, true, true, true, true, true, true, true, true, true, true, true, true, true, true, true, true, true, true, true, true, true, true, true, true, true, true, true, true, true, true, true, true, true, true, true] rfl rfl (by kernel_rfl) (fun _ _ _ h => h) (Or.inl ⟨by rfl, ?_⟩) ?_ ?_
          rotate_left
          · intro w'
            go_simp
            with_reducible rfl
          rotate_left
          · simp only [Act.put, List.setIfInBounds_toArray, List.set_cons_zero, List.set_cons_succ, i64_w, i32_w]
            rfl
          refine done_ (by kernel_rfl) ?_
          
          have HEND := Aside0.mk (show At w0 w15 bx g (i + 1) from ⟨ok11, gj9, _, _, d11, s9, l9, _, m9, (HJ11.out.below (below_drew (Below.refl _ _))).below hd15.below, (HX11.out.below (below_drew (Below.refl _ _))).below hd15.below, HL11.out, HPN.out, by have := HB9.out; omega, by have := HB9.out; omega, HB9.out.2.2⟩)
          clear hHeld hd15
          go_wp2_with fail
          go_ret
          exact ⟨by show Ending.returned (.bool (decide (cntN s9.waits.length ≤ secN d11.n - s9.used))) = _; rw [decide_eq_true HRN.out], HEND.out⟩
      · have HF9 := Aside0.mk hfd9
        have HD9 := Aside0.mk (And.intro hd9 hdn9)
        have HP9 := Aside0.mk (And.intro hpy9 (And.intro hpt9 hps9))
        have HB9 := Aside0.mk (And.intro hln9 (And.intro hen9 hge9))
        have y3 := HY9.out.row.cell (j := 3) (v := .int .i64 ct) rfl
        have y4 := HY9.out.row.cell (j := 4) (v := .int .i64 th) rfl
        have y5 := HY9.out.row.cell (j := 5) (v := .int .u64 bt) rfl
        clear hfd9 hd9 hdn9 hpy9 hpt9 hps9 hln9 hen9 hge9
        go_wp2_with fail
        refine (XDead HJ9.out).mono ?_
        rw [HD9.out.1]
        rintro e10 w10 ⟨rfl, rfl⟩
        go_wp2_with fail
        have hlb := HB9.out
        refine (fell_calls w0 wc ok9 bx g gj9 gj9 vl9 vp9 m9 l9 pt9 out d9 s9 ge en HJ9.out HX9.out HD9.out.2 (by omega) HF9.out HP9.out.2.2 (by omega) (pay_short HP9.out.1 (by omega)) (pay_short HP9.out.2.1 (by
          rcases HP9.out.2.2 with ⟨q, -⟩ | q
          · rw [q]; exact Nat.zero_le _
          · omega)) bt ct th).mono ?_
        rintro e12 w12 ⟨rfl, ok12, gj12, vl12, vp12, pt12, s12, hj12, hx12, hl12, hg12, he12⟩
        have hol : out.length ≤ i + 1 := by
          rcases HF9.out with ⟨q, -, -, hq⟩ | ⟨hne, hq⟩
          · rw [hq, List.length_take]; omega
          · rw [hq]
            rcases HP9.out.2.2 with ⟨r, -⟩ | r
            · exact absurd r hne
            · omega
        have HEND := Aside0.mk (show At w0 w12 bx g (i + 1) from ⟨ok12, gj12, _, _, _, _, _, _, _, hj12, hx12, hl12, rfl, by rw [hg12]; omega, by omega, hol⟩)
        clear hj12 hx12 hl12 hg12 he12 hol hlb
        go_wp2_with fail
        go_ret
        exact ⟨rfl, HEND.out⟩
end Go.Proofs.Ythnjkmjcacoajaa.Jn
end

section
/- A region whose facts hold behind its first call alone. No condition. -/
namespace Go.Proofs.Ythnjkmjcacoajaa.Jn
open Go Go.RowKit Go.Proofs.YthnjkmjcacoajaaW.PrintWords Go.Proofs.YthnjkmjcacoajaaW.PrintLast Go.Proofs.YthnjkmjcacoajaaW.PrintMore Go.Proofs.Ythnjkmjcacoajaa.Base Go.Proofs.Ythnjkmjcacoajaa.Arr
set_option linter.unusedVariables false
section
variable {P : Program} {md : Region.Mode} {ops : Array Oper} {Q : Exit → Act → World → Prop} {S2 : World → Prop} {ds ds2 : List Nat}
theorem late_ : ∀ (fuel : Nat) (l : Array Bool) (a : Act) (w : World), wpAnyLast P md ops Q S2 ds2 fuel l a w → wpAnyLast P md ops Q (fun _ => True) ds fuel l a w
  | 0, _, _, _, h => h
  | fuel + 1, _, _, _, h => ⟨h.1, fun i hi => wpOp_mono (fun a' w' h' => ⟨fun _ _ => trivial, late_ fuel _ a' w' h'.2⟩) (h.2 i hi)⟩
end
end Go.Proofs.Ythnjkmjcacoajaa.Jn
end

section
/- A law's []Deed that came in, as DeedRow says. No condition. -/
namespace Go.Proofs.Ythnjkmjcacoajaa.Jn
open Go Go.RowKit Go.Deep Go.ChangeShapes Go.WideShapes Go.Proofs.YthnjkmjcacoajaaW.PrintWords
set_option linter.unusedVariables false
set_option linter.unusedSimpArgs false

/-- what a law's []Deed is: kind, n, fail, cut, then, bits -/
abbrev DeedT := Int × Int × Int × Int × Int × Int
def DeedRow (W : World) (A : Option Addr) (l : List DeedT) : Prop := ∀ j d, l[j]? = some d → ∃ ad, A = some ad ∧
  (W.cell? (ad.add (j * 6)) = some (.int .i64 d.1) ∧ W.cell? (ad.add (j * 6 + 1)) = some (.int .i64 d.2.1) ∧ W.cell? (ad.add (j * 6 + 2)) = some (.int .i64 d.2.2.1) ∧ W.cell? (ad.add (j * 6 + 3)) = some (.int .i64 d.2.2.2.1) ∧ W.cell? (ad.add (j * 6 + 4)) = some (.int .i64 d.2.2.2.2.1) ∧ W.cell? (ad.add (j * 6 + 5)) = some (.int .u64 d.2.2.2.2.2)) ∧
  -9223372036854775808 ≤ d.2.2.1 ∧ d.2.2.1 ≤ 9223372036854775807
section
variable {H : Type} {enc : TypeId × Value → H} {W : World} {base : Nat}
theorem y_int : Try.prog.cellsOf 3 = 1 := by kernel_rfl
theorem y_u64 : Try.prog.cellsOf 22 = 1 := by kernel_rfl
theorem y_deed : Try.prog.cellsOf 53 = 6 := by kernel_rfl
def DeedIs (W : World) (d : DeedT) (cs : List Value) : Prop := cs = [.int .i64 d.1, .int .i64 d.2.1, .int .i64 d.2.2.1, .int .i64 d.2.2.2.1, .int .i64 d.2.2.2.2.1, .int .u64 d.2.2.2.2.2] ∧ -9223372036854775808 ≤ d.2.2.1 ∧ d.2.2.1 ≤ 9223372036854775807
set_option maxRecDepth 100000 in
theorem deed_elem {n : Nat} {cs : List Value} {y : DataW H × List MemPlace} (h : DataW.trod enc Try.prog W base (fun _ => true) true n 53 cs = some y) : ∃ d, DeedIs W d cs := by
  obtain ⟨xs, k, rfl, rfl, hl, hxl, hf⟩ := DataW.trod_struct Try.underlying53 h
  rw [y_deed] at hl
  match cs, hl, xs, hxl with
  | [v0, v1, v2, v3, v4, v5], _, [y0, y1, y2, y3, y4, y5], _ =>
    have g0 : DataW.trod enc Try.prog W base (fun _ => true) true k 3 (([v0, v1, v2, v3, v4, v5].drop 0).take (Try.prog.cellsOf 3)) = some y0 := hf 0 _ rfl
    rw [y_int] at g0
    replace g0 : DataW.trod enc Try.prog W base (fun _ => true) true k 3 [v0] = some y0 := g0
    have g1 : DataW.trod enc Try.prog W base (fun _ => true) true k 3 (([v0, v1, v2, v3, v4, v5].drop 1).take (Try.prog.cellsOf 3)) = some y1 := hf 1 _ rfl
    rw [y_int] at g1
    replace g1 : DataW.trod enc Try.prog W base (fun _ => true) true k 3 [v1] = some y1 := g1
    have g2 : DataW.trod enc Try.prog W base (fun _ => true) true k 3 (([v0, v1, v2, v3, v4, v5].drop 2).take (Try.prog.cellsOf 3)) = some y2 := hf 2 _ rfl
    rw [y_int] at g2
    replace g2 : DataW.trod enc Try.prog W base (fun _ => true) true k 3 [v2] = some y2 := g2
    have g3 : DataW.trod enc Try.prog W base (fun _ => true) true k 3 (([v0, v1, v2, v3, v4, v5].drop 3).take (Try.prog.cellsOf 3)) = some y3 := hf 3 _ rfl
    rw [y_int] at g3
    replace g3 : DataW.trod enc Try.prog W base (fun _ => true) true k 3 [v3] = some y3 := g3
    have g4 : DataW.trod enc Try.prog W base (fun _ => true) true k 3 (([v0, v1, v2, v3, v4, v5].drop 4).take (Try.prog.cellsOf 3)) = some y4 := hf 4 _ rfl
    rw [y_int] at g4
    replace g4 : DataW.trod enc Try.prog W base (fun _ => true) true k 3 [v4] = some y4 := g4
    have g5 : DataW.trod enc Try.prog W base (fun _ => true) true k 22 (([v0, v1, v2, v3, v4, v5].drop 5).take (Try.prog.cellsOf 22)) = some y5 := hf 5 _ rfl
    rw [y_u64] at g5
    replace g5 : DataW.trod enc Try.prog W base (fun _ => true) true k 22 [v5] = some y5 := g5
    obtain ⟨k0, e0, -, -⟩ := DataW.trod_int Try.underlying3 g0
    obtain ⟨k1, e1, -, -⟩ := DataW.trod_int Try.underlying3 g1
    obtain ⟨k2, e2, -, w2⟩ := DataW.trod_int Try.underlying3 g2
    obtain ⟨k3, e3, -, -⟩ := DataW.trod_int Try.underlying3 g3
    obtain ⟨k4, e4, -, -⟩ := DataW.trod_int Try.underlying3 g4
    obtain ⟨k5, e5, -, -⟩ := DataW.trod_int Try.underlying22 g5
    injection e0 with e0; injection e1 with e1; injection e2 with e2; injection e3 with e3; injection e4 with e4; injection e5 with e5
    subst e0; subst e1; subst e2; subst e3; subst e4; subst e5
    have ha : -9223372036854775808 ≤ k2 ∧ k2 ≤ 9223372036854775807 := by
      simp [Lit.wf, IntKind.min, IntKind.max, IntKind.signed, IntKind.bits] at w2
      omega
    exact ⟨(k0, k1, k2, k3, k4, k5), rfl, ha⟩
theorem deeds_open {fuel : Nat} {a : Option Addr} {len cap : Nat} {x : DataW H × List MemPlace} (h : DataW.trod enc Try.prog W base (fun _ => true) true fuel 40 (Value.slice a len cap).cells.toList = some x) :
    ∃ l : List DeedT, len = l.length ∧ DeedRow W a l ∧ l.length ≤ cap ∧ l.length ≤ 9223372036854775807 := by
  rcases open_slice Try.underlying40 h with ⟨hcs, _⟩ | ⟨a', len', cap', m, n, D, Pl, hcs, _, hl, hm, hmm, rfl, hx⟩
  · simp [Value.cells] at hcs
    obtain ⟨rfl, rfl, rfl⟩ := hcs
    exact ⟨[], rfl, fun j d h => by simp at h, Nat.le_refl _, by decide⟩
  · simp [Value.cells] at hcs
    obtain ⟨rfl, rfl, rfl⟩ := hcs
    rw [if_pos rfl] at hmm
    subst hmm
    obtain ⟨V, hV⟩ := choose_lt (α := DeedT) (n := len) (p := fun i d => ∃ cs, W.cells? base (a'.add (i * Try.prog.cellsOf 53)) (Try.prog.cellsOf 53) = some cs ∧ DeedIs W d cs) (fun i hi => by
      obtain ⟨cs, h1, h2⟩ := hx i (by omega)
      obtain ⟨d, hd⟩ := deed_elem h2
      exact ⟨d, cs, h1, hd⟩)
    unfold maxLen at hm
    refine ⟨(List.range len).map V, by simp, fun j d hj => ?_, by simpa using hl, by simp; omega⟩
    rw [List.getElem?_map] at hj
    obtain ⟨r, hr1, rfl⟩ := Option.map_eq_some_iff.1 hj
    have hjr : j < len ∧ r = j := by
      obtain ⟨h2, h3⟩ := List.getElem?_eq_some_iff.1 hr1
      simp at h2 h3
      exact ⟨h2, h3.symm⟩
    obtain ⟨hjl, rfl⟩ := hjr
    obtain ⟨cs, h1, rfl, h3, h4⟩ := hV r hjl
    obtain ⟨_, _, hcell⟩ := World.cells?_some h1
    rw [y_deed] at hcell
    have q0 := hcell 0 (by omega)
    have q1 := hcell 1 (by omega)
    have q2 := hcell 2 (by omega)
    have q3 := hcell 3 (by omega)
    have q4 := hcell 4 (by omega)
    have q5 := hcell 5 (by omega)
    rw [Go.Deep.add_add] at q0 q1 q2 q3 q4 q5
    exact ⟨a', rfl, ⟨q0, q1, q2, q3, q4, q5⟩, h3, h4⟩
end
end Go.Proofs.Ythnjkmjcacoajaa.Jn
end
