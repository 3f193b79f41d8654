import Derived.Test.YthnjkmjcacoajaaKJournalFull33
section
/- A new disk, and the journal that is opened on it; a journal opened again. Plain. -/
namespace Go.Proofs.Ythnjkmjcacoajaa.Jn
open Go Go.RowKit Go.Proofs.YthnjkmjcacoajaaW.PrintWords Go.Proofs.YthnjkmjcacoajaaW.PrintLast Go.Proofs.YthnjkmjcacoajaaW.PrintMore Go.Proofs.Ythnjkmjcacoajaa.Base Go.Proofs.Ythnjkmjcacoajaa.Arr
open Go.Proofs.Ythnjkmjcacoajaa.Dk (DS DiskIs DiskTo writeF flushF doingF secOf newS)
open Go.Proofs.Ythnjkmjcacoajaa.Ext (runCells pieces runCells_len readT stampV)
open Go.Proofs.Ythnjkmjcacoajaa.FrameLink (pk joined joined_nil joined_cons joined_snoc pk_len)
set_option linter.unusedVariables false
set_option linter.unusedSimpArgs false

theorem new_calm (n : Nat) (h1 : 1 ≤ n) (h2 : n ≤ 512) : Calm (newS n) := ⟨rfl, rfl, by simp [newS], h1, h2⟩
theorem new_row (n : Nat) (h1 : 1 ≤ n) (h2 : n ≤ 512) (i : Nat) (hi : i < n) : (rowsD (newS n)).getD i [] = List.replicate 64 0 := by
  rw [calm_row (new_calm n h1 h2) i hi]
  show ((List.replicate (n * 64) (0 : Int)).drop (i * 64)).take 64 = _
  rw [List.drop_replicate, List.take_replicate]
  congr 1
  omega
theorem new_mem (n : Nat) (h1 : 1 ≤ n) (h2 : n ≤ 512) {r : List Int} (h : r ∈ rowsD (newS n)) : r = List.replicate 64 0 := by
  obtain ⟨i, hi, rfl⟩ := mem_getD h
  rw [calm_len] at hi
  exact new_row n h1 h2 i hi
theorem zero_stamp : stampV (List.replicate 64 0) = 0 := by decide +kernel
theorem zero_err : (readT (List.replicate 64 0)).2.2.2.2 ≠ 0 := by decide +kernel
theorem new_secs (n : Nat) (h1 : 1 ≤ n) (h2 : n ≤ 512) : Secs (rowsD (newS n)) := fun r hr => by
  rw [new_mem n h1 h2 hr]
  exact ⟨by simp, fun x hx => by rw [List.eq_of_mem_replicate hx]; decide⟩
theorem epochF_le {R : List (List Int)} {e : Int} (h0 : 0 ≤ e) (h : ∀ r ∈ R, epF r ≤ e) : epochF R ≤ e := by
  have : ∀ (l : List (List Int)) (t : Int), t ≤ e → (∀ r ∈ l, epF r ≤ e) → l.foldl (fun t b => if t < epF b then epF b else t) t ≤ e := by
    intro l
    induction l with
    | nil => intro t ht _; exact ht
    | cons b l ih =>
      intro t ht hl
      refine ih _ ?_ (fun r hr => hl r (by simp [hr]))
      show (if t < epF b then epF b else t) ≤ e
      split
      · exact hl b (by simp)
      · exact ht
  exact this R 0 h0 h
theorem new_epoch (n : Nat) (h1 : 1 ≤ n) (h2 : n ≤ 512) : epochF (rowsD (newS n)) = 0 := by
  have := epochF_le (R := rowsD (newS n)) (e := 0) (Int.le_refl _) (fun r hr => by
    rw [new_mem n h1 h2 hr]
    unfold epF
    rw [zero_stamp]
    decide)
  have := (epochF_range (rowsD (newS n))).1
  omega
theorem new_head (n : Nat) (h1 : 2 ≤ n) (h2 : n ≤ 512) : (headF (rowsD (newS n))).1 = 0 := by
  rw [headF_eq, new_row n (by omega) h2 0 (by omega), new_row n (by omega) h2 1 (by omega)]
  unfold headStep
  rw [if_neg (fun q => zero_err q.1), if_neg (fun q => zero_err q.1)]
/-- the journal of a new disk -/
theorem new_open (n : Nat) (h6 : 6 ≤ n) (h5 : n ≤ 512) : ∃ d s, openF (newS n) = (0, d, some (s, [])) ∧ JInv d s [] 0 ∧ d.plan = none ∧ d.n = n ∧ s.epoch = 1 ∧ s.gen = 1 ∧ s.used = 0 ∧ s.waits = [] := by
  have hc := new_calm n (by omega) h5
  have he := new_epoch n (by omega) h5
  obtain ⟨f1, f2⟩ := fresh_fine hc h6 rfl (epochF (rowsD (newS n)) + 1)
  obtain ⟨o1, o2, o3⟩ := open_fresh hc h6 (new_secs n (by omega) h5) (new_head n (by omega) h5) (by rw [he]; decide) f1
  refine ⟨_, _, o1, o3, f2, o2, ?_, rfl, rfl, rfl⟩
  show epochF (rowsD (newS n)) + 1 = 1
  rw [he]
  rfl
/-- opened again: what was synced -/
theorem again_open {d : DS} {s : JS} {l : List (List Int)} {m : Nat} (h : JInv d s l m) (he : s.epoch + 1 ≤ 4294967295) : ∃ s', openF d = (0, d, some (s', l.take m)) ∧ JInv d s' (l.take m) (l.take m).length ∧ s'.epoch ≤ s.epoch + 1 ∧ s'.gen = s.gen ∧ s'.used = s.used ∧ s'.waits = [] := by
  have hen := h.ep
  have hgn := h.gen
  have hus := h.us
  have hle : epochF (rowsD d) ≤ s.epoch := epochF_le hen (fun r hr => by have := (h.body.all r hr).1; omega)
  have hro := h.room
  have hc0 : 0 ≤ cntN s.waits.length := by unfold cntN; omega
  obtain ⟨o1, o2⟩ := open_reads (out := l.take m) h.calm h.body (by omega) (pay_take h.pay m) (by omega)
  refine ⟨_, o1, o2, ?_, ?_, ?_, rfl⟩
  · show epochF (rowsD d) + 1 ≤ _
    omega
  · show ((s.gen.toNat : Nat) : Int) = s.gen
    omega
  · show ((s.used.toNat : Nat) : Int) = s.used
    omega
theorem JInv.secs {d : DS} {s : JS} {l : List (List Int)} {m : Nat} (h : JInv d s l m) : Secs (rowsD d) := h.body.secs
theorem JInv.w0 {d : DS} {s : JS} {l : List (List Int)} {m : Nat} (h : JInv d s l m) : d.waits.length ≤ 500000 := by rw [h.calm.waits]; exact Nat.zero_le _
theorem sync_used (d : DS) (s : JS) (hb : s.broken = false) (h : (syncF d s).1 = 0) : (syncF d s).2.2.used = s.used + cntN s.waits.length ∧ (syncF d s).2.2.waits = [] := by
  unfold syncF at h ⊢
  rw [if_neg (by rw [hb]; decide)] at h ⊢
  by_cases h0 : s.waits.length = 0
  · rw [if_pos h0]
    have : s.waits = [] := List.length_eq_zero_iff.1 h0
    refine ⟨?_, this⟩
    show s.used = s.used + cntN s.waits.length
    rw [h0]
    have : cntN 0 = 0 := rfl
    omega
  · rw [if_neg h0] at h ⊢
    simp only at h ⊢
    split at h
    · rename_i h1
      exact absurd h h1
    · rename_i h1
      rw [if_neg h1]
      exact ⟨rfl, rfl⟩
theorem pk_one (x : Int) : (pk [x]).length = 6 := by
  rw [pk_len, BinLink.W_len]
  have : Fr.fol 1 = 0 := by decide +kernel
  show Fr.fol 1 + 1 + 1 + 4 = 6
  rw [this]
theorem one_ok {x : Int} (h : 0 ≤ x ∧ x < 256) : Ext.Bytes [x] := fun y hy => by rw [List.mem_singleton.1 hy]; exact h
/-- the chapter's examples, in the plain -/
theorem works_plain : ∃ (d1 d2 d3 d4 : DS) (s1 s2 s3 s4 s5 s7 s8 s9 s10 : JS),
    (openF (newS 6) = (0, d1, some (s1, [])) ∧ JInv d1 s1 [] 0) ∧ (appendF d1.n s1 [7] = (0, s2) ∧ JInv d1 s2 [[7]] 0) ∧ (syncF d1 s2 = (0, d2, s3) ∧ JInv d2 s3 [[7]] 1) ∧
    (openF d2 = (0, d2, some (s4, [[7]])) ∧ JInv d2 s4 [[7]] 1) ∧ (appendF d2.n s4 [8] = (0, s5) ∧ JInv d2 s5 [[7], [8]] 1) ∧
    (ckptF d2 s4 [9] = (0, d3, s7) ∧ JInv d3 s7 [[9]] 1) ∧ (appendF d3.n s7 [10] = (0, s8) ∧ JInv d3 s8 [[9], [10]] 1) ∧ (syncF d3 s8 = (0, d4, s9) ∧ JInv d4 s9 [[9], [10]] 2) ∧
    (openF d4 = (0, d4, some (s10, [[9], [10]])) ∧ JInv d4 s10 [[9], [10]] 2) := by
  obtain ⟨d1, s1, a1, a2, a3, a4, a5, a6, a7, a8⟩ := new_open 6 (by decide) (by decide)
  have hs6 : secN 6 = 2 := rfl
  have c6 : cntN (0 + 6) = 1 := rfl
  have hw1 : s1.waits.length = 0 := by rw [a8]; rfl
  obtain ⟨b1, b2⟩ := (append_inv (b := [7]) a2 (one_ok (by decide)) (by decide)).1 (by rw [hw1, pk_one, a4, a7, hs6, c6]; decide)
  obtain ⟨e1, e2⟩ := sync_fine b2 a3
  obtain ⟨f1, f2, f3, f4⟩ := sync_inv b2 e1
  obtain ⟨u1, u2⟩ := sync_used d1 _ b2.br e1
  generalize hsy : syncF d1 { s1 with waits := s1.waits ++ pk [7], count := s1.count + 1 } = q at *
  obtain ⟨q0, d2, s3⟩ := q
  simp only at e1 e2 f1 f2 f3 f4 u1 u2
  subst e1
  obtain ⟨s4, g1, g2, g3, g4, g5, g6⟩ := again_open f1 (by rw [f3]; show s1.epoch + 1 ≤ _; rw [a5]; decide)
  have hu4 : s4.used = 1 := by rw [g5, u1]; show s1.used + cntN (s1.waits ++ pk [7]).length = 1; rw [a7, a8, List.nil_append, pk_one]; rfl
  have hn2 : d2.n = 6 := f2.trans a4
  have hw4 : s4.waits.length = 0 := by rw [g6]; rfl
  obtain ⟨h1, h2⟩ := (append_inv (b := [8]) g2 (one_ok (by decide)) (by decide)).1 (by rw [hw4, pk_one, hn2, hu4, hs6, c6]; decide)
  have hg4 : s4.gen = 1 := by rw [g4, f4]; exact a6
  have hcf := ckpt_fine (b := [9]) g2 e2 (by decide) (by rw [pk_one, hn2]; decide) (by rw [hg4]; decide)
  obtain ⟨k1, k2, k3, k4, k5, k6⟩ := ckpt_inv g2 (one_ok (x := 9) (by decide)) (by decide) hcf.1
  generalize hck : ckptF d2 s4 [9] = q at *
  obtain ⟨q0, d3, s7⟩ := q
  obtain ⟨hc1, hc2⟩ := hcf
  simp only at hc1 hc2 k1 k2 k3 k4 k5 k6
  subst hc1
  have hn3 : d3.n = 6 := k2.trans hn2
  have hw7 : s7.waits.length = 0 := by rw [k6]; rfl
  have hu7 : s7.used = 1 := by rw [k5, pk_one]; rfl
  obtain ⟨l1, l2⟩ := (append_inv (b := [10]) k1 (one_ok (by decide)) (by decide)).1 (by rw [hw7, pk_one, hn3, hu7, hs6, c6]; decide)
  obtain ⟨m1, m2⟩ := sync_fine l2 hc2
  obtain ⟨n1, n2, n3, n4⟩ := sync_inv l2 m1
  generalize hsy2 : syncF d3 { s7 with waits := s7.waits ++ pk [10], count := s7.count + 1 } = q at *
  obtain ⟨q0, d4, s9⟩ := q
  simp only at m1 m2 n1 n2 n3 n4
  subst m1
  obtain ⟨s10, o1, o2, _⟩ := again_open n1 (by
    rw [n3]
    show s7.epoch + 1 ≤ _
    rw [k3]
    have : s3.epoch = 1 := by rw [f3]; exact a5
    omega)
  exact ⟨d1, d2, d3, d4, s1, _, s3, s4, _, s7, _, s9, s10, ⟨a1, a2⟩, ⟨b1, b2⟩, ⟨hsy, f1⟩, ⟨g1, g2⟩, ⟨h1, h2⟩, ⟨hck, k1⟩, ⟨l1, l2⟩, ⟨hsy2, n1⟩, o1, o2⟩
end Go.Proofs.Ythnjkmjcacoajaa.Jn
end

section
/- The chapter's examples, walked. No condition. -/
namespace Go.Proofs.Ythnjkmjcacoajaa.Jn
open Go Go.RowKit Go.Proofs.YthnjkmjcacoajaaW.PrintWords Go.Proofs.YthnjkmjcacoajaaW.PrintLast Go.Proofs.YthnjkmjcacoajaaW.PrintMore Go.Proofs.Ythnjkmjcacoajaa.Base Go.Proofs.Ythnjkmjcacoajaa.Arr
open Go.Proofs.Ythnjkmjcacoajaa.Dk (DS DiskIs DiskTo writeF flushF doingF secOf newS)
set_option linter.unusedVariables false
set_option linter.unusedSimpArgs false

theorem lit_two {w0 W : World} {g : Nat} {d : DS} (h : LD w0 W g d) (x y : Int) : RowsOut w0 (((W.alloc (.cells #[.int .u8 x] 5)).alloc (.cells #[.int .u8 y] 5)).alloc (.cells #[.slice (some ⟨W.heap.size, 0, none⟩) 1 1, .slice (some ⟨W.heap.size + 1, 0, none⟩) 1 1] 31)) g d (some ⟨W.heap.size + 2, 0, none⟩) [[x], [y]] := by
  obtain ⟨h1, ok, h2, h3, h4⟩ := h
  obtain ⟨W3, hW3⟩ : ∃ W3 : World, W3 = ((W.alloc (.cells #[.int .u8 x] 5)).alloc (.cells #[.int .u8 y] 5)).alloc (.cells #[.slice (some ⟨W.heap.size, 0, none⟩) 1 1, .slice (some ⟨W.heap.size + 1, 0, none⟩) 1 1] 31) := ⟨_, rfl⟩
  have hb : Below W.heap.size W W3 := by rw [hW3]; exact below_alloc (below_alloc (below_alloc (Below.refl _ _) _) _) _
  have hs1 : (W.alloc (.cells #[.int .u8 x] 5)).heap.size = W.heap.size + 1 := by simp
  have hs2 : ((W.alloc (.cells #[.int .u8 x] 5)).alloc (.cells #[.int .u8 y] 5)).heap.size = W.heap.size + 2 := by simp
  have r1 : HoldsRow W3 W.heap.size 5 (rowK .u8 [x]) := by rw [hW3]; exact ((HoldsRow.new W 5 #[.int .u8 x]).alloc _).alloc _
  have r2 : HoldsRow W3 (W.heap.size + 1) 5 (rowK .u8 [y]) := by
    rw [hW3, ← hs1]
    exact (HoldsRow.new (W.alloc (.cells #[.int .u8 x] 5)) 5 #[.int .u8 y]).alloc _
  have r3 : HoldsRow W3 (W.heap.size + 2) 31 #[.slice (some ⟨W.heap.size, 0, none⟩) 1 1, .slice (some ⟨W.heap.size + 1, 0, none⟩) 1 1] := by
    rw [hW3, ← hs2]
    exact HoldsRow.new _ _ _
  rw [← hW3]
  refine ⟨h1.trans (hb.mono h4), ok, Dk.DiskIs.below h2 hb, fun k hk => Nat.lt_of_lt_of_le (h3 k hk) hb.size, Nat.le_trans h4 hb.size, fun W' hk => ?_⟩
  have n1 : ¬ ok W.heap.size := fun q => Nat.lt_irrefl _ (h3 _ q)
  have n2 : ¬ ok (W.heap.size + 1) := fun q => by have := h3 _ q; omega
  have n3 : ¬ ok (W.heap.size + 2) := fun q => by have := h3 _ q; omega
  have q3 : HoldsRow W' (W.heap.size + 2) 31 #[.slice (some ⟨W.heap.size, 0, none⟩) 1 1, .slice (some ⟨W.heap.size + 1, 0, none⟩) 1 1] := (hk.2 _ r3.lt n3).trans r3
  refine ⟨rfl, by simp, fun _ => ⟨_, rfl, fun j p hj => ?_⟩⟩
  rcases j with _ | _ | j
  · injection hj with hj
    subst hj
    refine ⟨[.slice (some ⟨W.heap.size, 0, none⟩) 1 1], rfl, ⟨_, _, rfl, Nat.le_refl _, lit_row r1 n1 hk⟩, fun i u hu => ?_⟩
    rcases i with _ | i
    · injection hu with hu
      subst hu
      have e0 : ((⟨W.heap.size + 2, 0, none⟩ : Addr).add (0 * (Kd.slice 5 (Kd.int .u8)).sz + 0)) = ⟨W.heap.size + 2, 0, none⟩ := by simp [Addr.add]
      rw [e0]
      exact q3.cell (j := 0) rfl
    · simp at hu
  · injection hj with hj
    subst hj
    refine ⟨[.slice (some ⟨W.heap.size + 1, 0, none⟩) 1 1], rfl, ⟨_, _, rfl, Nat.le_refl _, lit_row r2 n2 hk⟩, fun i u hu => ?_⟩
    rcases i with _ | i
    · injection hu with hu
      subst hu
      have e0 : ((⟨W.heap.size + 2, 0, none⟩ : Addr).add ((0 + 1) * (Kd.slice 5 (Kd.int .u8)).sz + 0)) = ⟨W.heap.size + 2, 1, none⟩ := by
        show (⟨W.heap.size + 2, 0, none⟩ : Addr).add 1 = _
        simp [Addr.add]
      rw [e0]
      exact q3.cell (j := 1) rfl
    · simp at hu
  · simp at hj
theorem LOpensT {w0 W : World} {g : Nat} {d d' : DS} {A : Option Addr} {c : Nat} {l : List (List Int)} {s : JS} (h : RowsOut w0 W g d A l) (hb : Secs (rowsD d)) (hw : d.waits.length ≤ 500000) (hsl : Short l) (ho : openF d = (0, d', some (s, l))) :
    Calls Try.prog 8 #[.pointer (some ⟨g, 0, none⟩), .slice A l.length c] W fun e W' => ∃ gj, e = .returned (.tuple #[.pointer (some ⟨gj, 0, none⟩), .bool true]) ∧ LJ w0 W' g gj d' s :=
  (LOpens h hb hw hsl ho hsl).mono fun e W' ⟨gj, he, hl⟩ => ⟨gj, by rw [he, decide_eq_true rfl], hl⟩
theorem one_C (W : World) (x : Int) : Kd.C (Kd.int .u8) (W.alloc (.cells #[.int .u8 x] 5)) (some ⟨W.heap.size, 0, none⟩) ([x] : List Int).length [x] :=
  lit_row (ok := fun _ => False) (show HoldsRow _ W.heap.size 5 (rowK .u8 [x]) from HoldsRow.new W 5 #[.int .u8 x]) (fun h => h) (Kept.refl _ _)
theorem short_one (x : Int) : Short [[x]] := ⟨by simp, fun r hr => by rw [List.mem_singleton.1 hr]; simp⟩
theorem short_two (x y : Int) : Short [[x], [y]] := ⟨by simp, fun r hr => by
  rcases List.mem_cons.1 hr with q | q
  · rw [q]; simp
  · rw [List.mem_singleton.1 q]; simp⟩
/-- Append that goes well -/
theorem LAppendOK {w0 W : World} {g gj : Nat} {d : DS} {s s' : JS} {l : List (List Int)} {m : Nat} (h : LJ w0 W g gj d s) (hj : JInv d s l m) (hl : l.length ≤ 1000000) (A : Option Addr) (c : Nat) (b : List Int) (hb : Kd.C (Kd.int .u8) W A b.length b) (hc : b.length ≤ c) (hby : Ext.Bytes b) (ho : appendF d.n s b = (0, s')) :
    Calls Try.prog 10 #[.pointer (some ⟨gj, 0, none⟩), .slice A b.length c] W fun e W' => e = .returned (.int .i64 0) ∧ LJ w0 W' g gj d s' :=
  (LAppend h (hj.sok (by omega)) A c b hb hc hby).mono fun e W' ⟨he, hl⟩ => by
    rw [ho] at he hl
    exact ⟨he, hl⟩
theorem LSyncOK {w0 W : World} {g gj : Nat} {d d' : DS} {s s' : JS} {l : List (List Int)} {m : Nat} (h : LJ w0 W g gj d s) (hj : JInv d s l m) (hl : l.length ≤ 1000000) (ho : syncF d s = (0, d', s')) :
    Calls Try.prog 11 #[.pointer (some ⟨gj, 0, none⟩)] W fun e W' => e = .returned (.int .i64 0) ∧ LJ w0 W' g gj d' s' :=
  (LSync h (hj.sok (by omega)) hj.good hj.w0).mono fun e W' ⟨he, hl⟩ => by
    rw [ho] at he hl
    exact ⟨he, hl⟩
theorem LCkptOK {w0 W : World} {g gj : Nat} {d d' : DS} {s s' : JS} {l : List (List Int)} {m : Nat} (h : LJ w0 W g gj d s) (hj : JInv d s l m) (hl : l.length ≤ 1000000) (A : Option Addr) (c : Nat) (b : List Int) (hb : Kd.C (Kd.int .u8) W A b.length b) (hc : b.length ≤ c) (hby : Ext.Bytes b) (ho : ckptF d s b = (0, d', s')) :
    Calls Try.prog 14 #[.pointer (some ⟨gj, 0, none⟩), .slice A b.length c] W fun e W' => e = .returned (.int .i64 0) ∧ LJ w0 W' g gj d' s' :=
  (LCkpt h (hj.sok (by omega)) hj.good hj.w0 A c b hb hc hby).mono fun e W' ⟨he, hl⟩ => by
    rw [ho] at he hl
    exact ⟨he, hl⟩
set_option maxHeartbeats 4000000 in
set_option maxRecDepth 100000 in
theorem works_calls (w : World) : Calls Try.prog 16 #[] w fun e w' => e = .returned (.bool true) ∧ Below w.heap.size w w' := by
  obtain ⟨d1, d2, d3, d4, s1, s2, s3, s4, s5, s7, s8, s9, s10, p1, p2, p3, p4, p5, p6, p7, p8, p9⟩ := works_plain
  have P1 := Aside0.mk p1
  have P2 := Aside0.mk p2
  have P3 := Aside0.mk p3
  have P4 := Aside0.mk p4
  have P5 := Aside0.mk p5
  have P6 := Aside0.mk p6
  have P7 := Aside0.mk p7
  have P8 := Aside0.mk p8
  have P9 := Aside0.mk p9
  clear p1 p2 p3 p4 p5 p6 p7 p8 p9
  go_enter Try.func16, Try.ntmps16
  go_wp2_with fail
  refine (LNew w 6 (by decide) (by decide)).mono ?_
  rintro e w1 ⟨g, rfl, hd⟩
  have L1 := Aside0.mk hd
  clear hd
  go_wp2_with fail
  refine (LOpensT (c := 0) L1.out.none (new_secs 6 (by decide) (by decide)) (by decide) ⟨by decide, fun r hr => by cases hr⟩ P1.out.1).mono ?_
  rintro e w2 ⟨g2, rfl, hl⟩
  have L2 := Aside0.mk hl
  clear hl L1
  go_wp2_with fail
  refine (LAppendOK (L2.out.below (below_alloc (Below.refl _ _) _)) P1.out.2 (by decide) (some ⟨w2.heap.size, 0, none⟩) 1 [7] (one_C w2 7) (by decide) (one_ok (by decide)) P2.out.1).mono ?_
  rintro e w3 ⟨rfl, hl⟩
  have L3 := Aside0.mk hl
  clear hl L2
  go_wp2_with fail
  refine (LSyncOK L3.out P2.out.2 (by decide) P3.out.1).mono ?_
  rintro e w4 ⟨rfl, hl⟩
  have L4 := Aside0.mk hl
  clear hl L3
  go_wp2_with fail
  refine (LOpensT (c := 1) (lit_one L4.out.disk 7) P3.out.2.secs P3.out.2.w0 (short_one 7) P4.out.1).mono ?_
  rintro e w5 ⟨g5, rfl, hl⟩
  have L5 := Aside0.mk hl
  clear hl L4
  go_wp2_with fail
  refine (LAppendOK (L5.out.below (below_alloc (Below.refl _ _) _)) P4.out.2 (by decide) (some ⟨w5.heap.size, 0, none⟩) 1 [8] (one_C w5 8) (by decide) (one_ok (by decide)) P5.out.1).mono ?_
  rintro e w6 ⟨rfl, hl⟩
  have L6 := Aside0.mk hl
  clear hl L5
  have hcnt : s5.count = 2 := P5.out.2.cnt
  have hsyn : s5.synced = 1 := P5.out.2.sy
  go_wp2_with fail
  refine (LLen L6.out).mono ?_
  rintro e w6' ⟨rfl, rfl⟩
  rw [hcnt]
  go_wp2_with fail
  refine (LSynced L6.out).mono ?_
  rintro e w6' ⟨rfl, rfl⟩
  rw [hsyn]
  clear hcnt hsyn
  go_wp2_with fail
  refine (LOpensT (c := 1) (lit_one L6.out.disk 7) P3.out.2.secs P3.out.2.w0 (short_one 7) P4.out.1).mono ?_
  rintro e w7 ⟨g7, rfl, hl⟩
  have L7 := Aside0.mk hl
  clear hl L6
  go_wp2_with fail
  refine (LCkptOK (L7.out.below (below_alloc (Below.refl _ _) _)) P4.out.2 (by decide) (some ⟨w7.heap.size, 0, none⟩) 1 [9] (one_C w7 9) (by decide) (one_ok (by decide)) P6.out.1).mono ?_
  rintro e w8 ⟨rfl, hl⟩
  have L8 := Aside0.mk hl
  clear hl L7
  go_wp2_with fail
  refine (LAppendOK (L8.out.below (below_alloc (Below.refl _ _) _)) P6.out.2 (by decide) (some ⟨w8.heap.size, 0, none⟩) 1 [10] (one_C w8 10) (by decide) (one_ok (by decide)) P7.out.1).mono ?_
  rintro e w9 ⟨rfl, hl⟩
  have L9 := Aside0.mk hl
  clear hl L8
  go_wp2_with fail
  refine (LSyncOK L9.out P7.out.2 (by decide) P8.out.1).mono ?_
  rintro e w10 ⟨rfl, hl⟩
  have L10 := Aside0.mk hl
  clear hl L9
  go_wp2_with fail
  refine (LOpensT (c := 2) (lit_two L10.out.disk 9 10) P8.out.2.secs P8.out.2.w0 (short_two 9 10) P9.out.1).mono ?_
  rintro e w11 ⟨g11, rfl, hl⟩
  have L11 := Aside0.mk hl
  clear hl L10
  go_wp2_with fail
  go_ret
  exact ⟨rfl, L11.out.1⟩
end Go.Proofs.Ythnjkmjcacoajaa.Jn
end

section
/- A journal in a law, beside a row that is read again and again. -/
namespace Go.Proofs.Ythnjkmjcacoajaa.Jn
open Go Go.RowKit Go.Proofs.YthnjkmjcacoajaaW.PrintWords Go.Proofs.YthnjkmjcacoajaaW.PrintLast Go.Proofs.YthnjkmjcacoajaaW.PrintMore Go.Proofs.Ythnjkmjcacoajaa.Base Go.Proofs.Ythnjkmjcacoajaa.Arr
open Go.Proofs.Ythnjkmjcacoajaa.Dk (DS DiskIs DiskTo writeF flushF doingF secOf newS)
open Go.Proofs.Ythnjkmjcacoajaa.FrameLink (pk joined joined_nil joined_cons joined_snoc pk_len)
set_option linter.unusedVariables false
set_option linter.unusedSimpArgs false

theorem make_n (k : Nat) (hk : k ≤ 1000) (W : World) : (Instr.makeSlice 31 (.int .i64 ((k : Nat) : Int)) (.int .i64 ((k : Nat) : Int))).run Try.prog W = .ok (.slice (some ⟨W.heap.size, 0, none⟩) k k) (W.alloc (.cells (rowK .u8 (List.replicate k 0)) 5)) := by
  have h := print_make (P := Try.prog) 31 5 .u8 1 Try.underlying31 (by kernel_rfl) (by decide) k (by omega) W
  rw [rowK_made] at h
  exact h
theorem bring_eq (a : Int) (n : Nat) (hn : 0 < n) (hb : n ≤ 281474976710656) : encoreref00_Bring.f a (n : Int) = some (a % (n : Int)) := by
  unfold encoreref00_Bring.f
  rw [if_neg (by omega), if_neg (by omega)]
  have h := Int.tmod_eq_emod (a := a) (b := (n : Int))
  have h1 := Int.emod_nonneg a (show (n : Int) ≠ 0 by omega)
  have h2 := Int.emod_lt_of_pos a (show (0 : Int) < n by omega)
  split at h
  · have e0 : ((0 : Nat) : Int) = 0 := rfl
    rw [h, e0, Int.sub_zero, if_neg (by omega)]
  · rw [h, if_pos (by simp; omega)]
    congr 1
    unfold wrap64
    simp only [Int.natAbs_natCast]
    omega
/-- Bring of any number: below n -/
theorem LBring (a : Int) (n : Nat) (hn : 0 < n) (hb : n ≤ 281474976710656) : ∃ k : Nat, k < n ∧ ∀ W : World, Calls Try.prog 7 #[.int .i64 a, .int .i64 (n : Int)] W fun e W' => e = .returned (.int .i64 (k : Int)) ∧ Drawn0 W W' := by
  have h1 := Int.emod_nonneg a (show (n : Int) ≠ 0 by omega)
  have h2 := Int.emod_lt_of_pos a (show (0 : Int) < n by omega)
  refine ⟨(a % (n : Int)).toNat, by omega, fun W => ?_⟩
  rw [Int.toNat_of_nonneg h1]
  exact encoreref00_Bring.calls a n _ W (bring_eq a n hn hb)
/-- a journal on its disk, and a row of the law's own -/
def LJR (w0 W : World) (g gj : Nat) (d : DS) (s : JS) (A : Option Addr) (p : List Int) : Prop := Below w0.heap.size w0 W ∧ ∃ ok : Nat → Prop, JD W w0.heap.size ok g gj d s ∧ (∀ k, ok k → k < W.heap.size) ∧ ∀ W', Kept W W' ok → Kd.C (Kd.int .u8) W' A p.length p
theorem LJR.lj {w0 W : World} {g gj : Nat} {d : DS} {s : JS} {A : Option Addr} {p : List Int} (h : LJR w0 W g gj d s A p) : LJ w0 W g gj d s := ⟨h.1, h.2.imp fun ok q => ⟨q.1, q.2.1⟩⟩
theorem LJR.row {w0 W : World} {g gj : Nat} {d : DS} {s : JS} {A : Option Addr} {p : List Int} (h : LJR w0 W g gj d s A p) : Kd.C (Kd.int .u8) W A p.length p := by
  obtain ⟨_, ok, _, _, q⟩ := h
  exact q W (Kept.refl _ _)
theorem LJR.of {w0 W W' : World} {g gj : Nat} {d : DS} {s : JS} {A : Option Addr} {p : List Int} {ok : Nat → Prop} (hb : Below w0.heap.size w0 W) (h : JTo W W' w0.heap.size ok g gj d s) (hr : ∀ W', Kept W W' ok → Kd.C (Kd.int .u8) W' A p.length p) : LJR w0 W' g gj d s A p := by
  obtain ⟨h1, h2, ok', h3, h4⟩ := h
  exact ⟨hb.trans h1, ok', h4, fun k hk => (h3 k hk).2, fun W2 hk => hr W2 (h2.then_ hk (fun k hk => (h3 k hk).1))⟩
theorem LJR.below {w0 W W' : World} {g gj : Nat} {d : DS} {s : JS} {A : Option Addr} {p : List Int} (h : LJR w0 W g gj d s A p) (hb : Below W.heap.size W W') : LJR w0 W' g gj d s A p := by
  obtain ⟨h1, ok, h2, h3, h4⟩ := h
  exact LJR.of h1 ((JTo.start h2).below hb) h4
/-- a new row beside a journal -/
theorem LJ.new_row {w0 W : World} {g gj : Nat} {d : DS} {s : JS} (h : LJ w0 W g gj d s) (p : List Int) (hp : p.length ≤ 9223372036854775807) : LJR w0 (W.alloc (.cells (rowK .u8 p) 5)) g gj d s (some ⟨W.heap.size, 0, none⟩) p := by
  obtain ⟨h1, ok, h2, h3⟩ := h
  have r1 : HoldsRow (W.alloc (.cells (rowK .u8 p) 5)) W.heap.size 5 (rowK .u8 p) := HoldsRow.new _ _ _
  obtain ⟨t1, t2, ok', t3, t4⟩ := (JTo.start h2).below (below_alloc (Below.refl _ _) (.cells (rowK .u8 p) 5))
  obtain ⟨okd, okj, q1, q2, q3, q4, q5, q6⟩ := h2
  have hb : Below W.heap.size W (W.alloc (.cells (rowK .u8 p) 5)) := below_alloc (Below.refl _ _) _
  refine ⟨h1.trans (hb.mono q6), ok, ⟨okd, okj, Dk.DiskIs.below q1 hb, q2.below hb, fun k hk => ⟨(q3 k hk).1, Nat.lt_of_lt_of_le (q3 k hk).2 hb.size⟩, fun k hk => ⟨(q4 k hk).1, Nat.lt_of_lt_of_le (q4 k hk).2 hb.size⟩, q5, Nat.le_trans q6 hb.size⟩, fun k hk => Nat.lt_of_lt_of_le (h3 k hk) hb.size, fun W2 hk => ?_⟩
  have n1 : ¬ ok W.heap.size := fun q => Nat.lt_irrefl _ (h3 _ q)
  exact (Kd.R_reads' (HoldsRow.own (base := 0) (show HoldsRow W2 W.heap.size 5 (rowK .u8 p) from (hk.2 _ r1.lt n1).trans r1) (Nat.zero_le _) hp)).2.2
theorem RAppend {w0 W : World} {g gj : Nat} {d : DS} {s : JS} {A : Option Addr} {p : List Int} (h : LJR w0 W g gj d s A p) (hs : SOK s) (c : Nat) (hc : p.length ≤ c) (hby : Ext.Bytes p) :
    Calls Try.prog 10 #[.pointer (some ⟨gj, 0, none⟩), .slice A p.length c] W fun e W' => e = .returned (.int .i64 (appendF d.n s p).1) ∧ LJR w0 W' g gj d (appendF d.n s p).2 A p := by
  have hr := h.row
  obtain ⟨h1, ok, h2, h3, h4⟩ := h
  exact (Append_calls W w0.heap.size ok g gj d s h2 hs A c p hr hc hby).mono fun e W' ⟨he, ht⟩ => ⟨he, LJR.of h1 ht h4⟩
theorem RSync {w0 W : World} {g gj : Nat} {d : DS} {s : JS} {A : Option Addr} {p : List Int} (h : LJR w0 W g gj d s A p) (hs : SOK s) (hg : Ext.goodS s.gen s.epoch) (hw : d.waits.length ≤ 500000) :
    Calls Try.prog 11 #[.pointer (some ⟨gj, 0, none⟩)] W fun e W' => e = .returned (.int .i64 (syncF d s).1) ∧ LJR w0 W' g gj (syncF d s).2.1 (syncF d s).2.2 A p := by
  obtain ⟨h1, ok, h2, h3, h4⟩ := h
  exact (Sync_calls W w0.heap.size ok g gj d s h2 hs hg hw).mono fun e W' ⟨he, ht⟩ => ⟨he, LJR.of h1 ht h4⟩
theorem RRoom {w0 W : World} {g gj : Nat} {d : DS} {s : JS} {A : Option Addr} {p : List Int} (h : LJR w0 W g gj d s A p) (hw : s.waits.length ≤ 1000000) (hu : 0 ≤ s.used ∧ s.used ≤ 1000000) : Calls Try.prog 9 #[.pointer (some ⟨gj, 0, none⟩)] W fun e W' => e = .returned (.int .i64 (secN d.n - s.used - cntN s.waits.length)) ∧ LJR w0 W' g gj d s A p := by
  have h0 := h
  obtain ⟨h1, ok, ⟨okd, okj, h3, h2, _⟩, _⟩ := h
  exact (Room_calls W w0.heap.size okd okj g gj d s h3 h2 hw hu).mono fun e W' ⟨he, hd⟩ => ⟨he, h0.below hd.below⟩
/-- opened beside an older journal, which lies as it lay -/
theorem LOpensOld {w0 W : World} {g gj : Nat} {d d' : DS} {s0 s : JS} {x : Int} (h : LJ w0 W g gj d s0) (hb : Secs (rowsD d)) (hw : d.waits.length ≤ 500000) (ho : openF d = (0, d', some (s, [[x]]))) :
    Calls Try.prog 8 #[.pointer (some ⟨g, 0, none⟩), .slice (some ⟨W.heap.size + 1, 0, none⟩) 1 1] ((W.alloc (.cells #[.int .u8 x] 5)).alloc (.cells #[.slice (some ⟨W.heap.size, 0, none⟩) 1 1] 31)) fun e W' => ∃ g2, e = .returned (.tuple #[.pointer (some ⟨g2, 0, none⟩), .bool true]) ∧ LJ w0 W' g g2 d' s ∧ ∃ okj, JIs W' w0.heap.size okj gj g s0 := by
  obtain ⟨h1, ok, ⟨okd, okj, q1, q2, q3, q4, q5, q6⟩, h3⟩ := h
  obtain ⟨W2, hW2⟩ : ∃ W2 : World, W2 = (W.alloc (.cells #[.int .u8 x] 5)).alloc (.cells #[.slice (some ⟨W.heap.size, 0, none⟩) 1 1] 31) := ⟨_, rfl⟩
  have hb2 : Below W.heap.size W W2 := by rw [hW2]; exact below_alloc (below_alloc (Below.refl _ _) _) _
  have hsz : (W.alloc (.cells #[.int .u8 x] 5)).heap.size = W.heap.size + 1 := by simp
  have r1 : HoldsRow W2 W.heap.size 5 (rowK .u8 [x]) := by rw [hW2]; exact (HoldsRow.new W 5 #[.int .u8 x]).alloc _
  have r2 : HoldsRow W2 (W.heap.size + 1) 31 #[.slice (some ⟨W.heap.size, 0, none⟩) 1 1] := by rw [hW2, ← hsz]; exact HoldsRow.new _ _ _
  rw [← hW2]
  have n1 : ¬ okd W.heap.size := fun q => Nat.lt_irrefl _ (q3 _ q).2
  have n2 : ¬ okd (W.heap.size + 1) := fun q => by have := (q3 _ q).2; omega
  have hrows : ∀ W', Kept W2 W' okd → (Kd.slice 5 (Kd.int .u8)).C W' (some ⟨W.heap.size + 1, 0, none⟩) ([[x]] : List (List Int)).length [[x]] := fun W' hk => by
    have t2 : HoldsRow W' (W.heap.size + 1) 31 #[.slice (some ⟨W.heap.size, 0, none⟩) 1 1] := (hk.2 _ r2.lt n2).trans r2
    refine ⟨rfl, by simp, fun _ => ⟨_, rfl, fun j p hj => ?_⟩⟩
    rcases j with _ | j
    · injection hj with hj
      subst hj
      refine ⟨[.slice (some ⟨W.heap.size, 0, none⟩) 1 1], rfl, ⟨_, _, rfl, Nat.le_refl _, lit_row r1 n1 hk⟩, fun i u hu => ?_⟩
      rcases i with _ | i
      · injection hu with hu
        subst hu
        have e0 : ((⟨W.heap.size + 1, 0, none⟩ : Addr).add (0 * (Kd.slice 5 (Kd.int .u8)).sz + 0)) = ⟨W.heap.size + 1, 0, none⟩ := by simp [Addr.add]
        rw [e0]
        exact t2.cell (j := 0) rfl
      · simp at hu
    · simp at hj
  have hop := opens_calls W2 w0.heap.size okd g d (Dk.DiskIs.below q1 hb2) (fun k hk => Nat.lt_of_lt_of_le (q3 k hk).2 hb2.size) (Nat.le_trans q6 hb2.size) hb hw (some ⟨W.heap.size + 1, 0, none⟩) 1 [[x]] hrows (short_one x) d' s [[x]] ho (short_one x)
  refine hop.mono fun e W' ⟨g2, he, m1, m2, ok', m3, m4⟩ => ⟨g2, by rw [he, decide_eq_true rfl], ⟨(h1.trans (hb2.mono q6)).trans m1, ok', m4, fun k hk => (m3 k hk).2⟩, okj, ?_⟩
  exact (q2.below hb2).move (fun k hk hlt => m2.2 k hlt (fun q => q5 k q hk))
end Go.Proofs.Ythnjkmjcacoajaa.Jn
end

section
/- JournalFull answers true, walked with the plain law at hand: for all numbers. No condition. -/
namespace Go.Proofs.Ythnjkmjcacoajaa.Jn
open Go Go.RowKit Go.Proofs.YthnjkmjcacoajaaW.PrintWords Go.Proofs.YthnjkmjcacoajaaW.PrintLast Go.Proofs.YthnjkmjcacoajaaW.PrintMore Go.Proofs.Ythnjkmjcacoajaa.Base Go.Proofs.Ythnjkmjcacoajaa.Arr
open Go.Proofs.Ythnjkmjcacoajaa.Dk (DS DiskIs DiskTo writeF flushF doingF secOf newS)
open Go.Proofs.Ythnjkmjcacoajaa.FrameLink (pk joined joined_nil joined_cons joined_snoc pk_len)
set_option linter.unusedVariables false
set_option linter.unusedSimpArgs false

/-- the state of the loop: a journal that is filled -/
structure Fill (n : Nat) (d : DS) (s : JS) (c : Nat) (p : List Int) : Prop where
  inv : ∃ l m, JInv d s l m ∧ l.length = c
  plan : d.plan = none
  dn : d.n = n
  ep : s.epoch = 1
  gn : s.gen = 1
  much : 6 * (c : Int) ≤ 47 * s.used + (s.waits.length : Int)
theorem Fill.count {n : Nat} {d : DS} {s : JS} {c : Nat} {p : List Int} (h : Fill n d s c p) (hn : n ≤ 60) : c ≤ 300 := by
  obtain ⟨l, m, hj, hl⟩ := h.inv
  have h1 := hj.room
  have h2 := h.much
  have h3 := h.dn
  have h4 : secN d.n ≤ 29 := by unfold secN; omega
  unfold cntN at h1
  omega
theorem Fill.room {n : Nat} {d : DS} {s : JS} {c : Nat} {p : List Int} (h : Fill n d s c p) : 0 ≤ secN d.n - s.used - cntN s.waits.length := by
  obtain ⟨l, m, hj, hl⟩ := h.inv
  have := hj.room
  omega
theorem Fill.append {n : Nat} {d : DS} {s : JS} {c : Nat} {p : List Int} (h : Fill n d s c p) (hp : Ext.Bytes p) (hl : p.length ≤ 100) (hl0 : 0 < p.length) :
    (∃ s', appendF d.n s p = (0, s') ∧ Fill n d s' (c + 1) p ∧ secN d.n - s'.used - cntN s'.waits.length ≤ secN d.n - s.used - cntN s.waits.length) ∨ appendF d.n s p = (7, s) := by
  obtain ⟨l, m, hj, hlc⟩ := h.inv
  obtain ⟨a1, a2⟩ := append_inv hj hp (by omega : p.length ≤ 8192)
  by_cases hr : cntN (s.waits.length + (pk p).length) ≤ secN d.n - s.used
  · obtain ⟨b1, b2⟩ := a1 hr
    refine .inl ⟨_, b1, ⟨⟨_, m, b2, by rw [List.length_append, hlc]; rfl⟩, h.plan, h.dn, h.ep, h.gn, ?_⟩, ?_⟩
    · show 6 * ((c + 1 : Nat) : Int) ≤ 47 * s.used + ((s.waits ++ pk p).length : Int)
      have h1 := h.much
      have h2 := pk_len p
      have h3 := BinLink.W_len p.length
      rw [List.length_append]
      omega
    · show secN d.n - s.used - cntN (s.waits ++ pk p).length ≤ _
      rw [List.length_append]
      unfold cntN
      omega
  · exact .inr (a2 hr)
theorem Fill.sync {n : Nat} {d : DS} {s : JS} {c : Nat} {p : List Int} (h : Fill n d s c p) : ∃ d' s', syncF d s = (0, d', s') ∧ Fill n d' s' c p ∧ s'.synced = (c : Int) ∧ (∃ l, JInv d' s' l l.length ∧ l.length = c) := by
  obtain ⟨l, m, hj, hlc⟩ := h.inv
  obtain ⟨e1, e2⟩ := sync_fine hj h.plan
  obtain ⟨f1, f2, f3, f4⟩ := sync_inv hj e1
  obtain ⟨u1, u2⟩ := sync_used d s hj.br e1
  generalize syncF d s = q at *
  obtain ⟨q0, d2, s3⟩ := q
  simp only at e1 e2 f1 f2 f3 f4 u1 u2
  subst e1
  refine ⟨d2, s3, rfl, ⟨⟨l, l.length, f1, hlc⟩, e2, f2.trans h.dn, f3.trans h.ep, f4.trans h.gn, ?_⟩, ?_, l, f1, hlc⟩
  · have := h.much
    rw [u1, u2]
    simp only [List.length_nil]
    unfold cntN
    omega
  · rw [f1.sy, hlc]
theorem full_start (n : Nat) (h6 : 6 ≤ n) (h5 : n ≤ 60) (p : List Int) : ∃ d s, openF (newS n) = (0, d, some (s, [])) ∧ Fill n d s 0 p := by
  obtain ⟨d, s, a1, a2, a3, a4, a5, a6, a7, a8⟩ := new_open n h6 (by omega)
  refine ⟨d, s, a1, ⟨⟨[], 0, a2, rfl⟩, a3, a4, a5, a6, ?_⟩⟩
  rw [a7, a8]
  decide
theorem full_end {n : Nat} {d : DS} {s : JS} {c : Nat} {l : List (List Int)} {q : List Int} (h : Fill n d s c q) (hj : JInv d s l l.length) (h6 : 6 ≤ n) : ∃ d' s' s2, ckptF d s [1] = (0, d', s') ∧ JInv d' s' [[1]] 1 ∧ s'.count = 1 ∧ d'.n = n ∧ secN d'.n - s'.used - cntN s'.waits.length = secN n - 1 ∧ openF d' = (0, d', some (s2, [[1]])) := by
  have hs6 : 2 ≤ secN d.n := by rw [h.dn]; unfold secN; omega
  have c6 : cntN 6 = 1 := rfl
  have hcf := ckpt_fine (b := [1]) hj h.plan (by decide) (by rw [pk_one, c6]; omega) (by rw [h.gn]; decide)
  obtain ⟨k1, k2, k3, k4, k5, k6⟩ := ckpt_inv hj one_bytes (by decide) hcf.1
  generalize ckptF d s [1] = q at *
  obtain ⟨q0, d3, s7⟩ := q
  obtain ⟨hc1, hc2⟩ := hcf
  simp only at hc1 hc2 k1 k2 k3 k4 k5 k6
  subst hc1
  obtain ⟨s10, o1, o2, _⟩ := again_open k1 (by rw [k3, h.ep]; decide)
  refine ⟨d3, s7, s10, rfl, k1, k1.cnt, k2.trans h.dn, ?_, o1⟩
  rw [k5, k6, pk_one, c6, k2, h.dn]
  have : cntN ([] : List Int).length = 0 := rfl
  omega
set_option maxHeartbeats 8000000 in
set_option maxRecDepth 100000 in
theorem full_calls (a0 a1 a2 : Int) (w : World) :
    Calls Try.prog 3 #[.int .i64 a0, .int .i64 a1, .int .u64 a2] w fun e w' => e = .returned (.bool true) ∧ Below w.heap.size w w' := by
  obtain ⟨k0, hk0, hB0⟩ := LBring a0 55 (by decide) (by decide)
  obtain ⟨k1, hk1, hB1⟩ := LBring a1 90 (by decide) (by decide)
  obtain ⟨n, hn⟩ : ∃ n, n = 6 + k0 := ⟨_, rfl⟩
  obtain ⟨pl, hpl⟩ : ∃ q, q = 1 + k1 := ⟨_, rfl⟩
  obtain ⟨d0, s0, ho0, hf0⟩ := full_start n (by omega) (by omega) (List.replicate pl 0)
  have hpb : Ext.Bytes (List.replicate pl 0) := fun x hx => by rw [List.eq_of_mem_replicate hx]; decide
  have e1 : wrap64 (6 + (k0 : Int)) = (n : Int) := by unfold wrap64; omega
  have e2 : wrap64 (1 + (k1 : Int)) = (pl : Int) := by unfold wrap64; omega
  have HB0 := Aside0.mk hB0
  have HB1 := Aside0.mk hB1
  have HO0 := Aside0.mk ho0
  have HF0 := Aside0.mk hf0
  have HPB := Aside0.mk hpb
  have HN := Aside0.mk (show 6 ≤ n ∧ n ≤ 60 by omega)
  have HPL := Aside0.mk (show 1 ≤ pl ∧ pl ≤ 90 by omega)
  have hmk := make_n pl (by omega)
  clear hB0 hB1 ho0 hf0 hpb hn hpl hk0 hk1
  go_enter Try.func3, Try.ntmps3
  go_wp2_with fail
  refine (HB0.out w).mono ?_
  rintro e w1 ⟨rfl, hd1⟩
  have B1 := Aside0.mk hd1.below
  clear hd1
  go_wp2_with fail
  refine (LNew w1 n (by have := HN.out; omega) (by have := HN.out; omega)).mono ?_
  rintro e w2 ⟨g, rfl, hd⟩
  have L2 := Aside0.mk hd
  clear hd
  go_wp2_with fail
  refine (LOpensT (c := 0) L2.out.none (new_secs n (by have := HN.out; omega) (by have := HN.out; omega)) (show (newS n).waits.length ≤ 500000 from Nat.zero_le _) ⟨by decide, fun r hr => by cases hr⟩ HO0.out).mono ?_
  rintro e w3 ⟨gj, rfl, hl⟩
  have L3 := Aside0.mk hl
  clear hl L2 e1
  go_wp2_with fail
  refine (HB1.out w3).mono ?_
  rintro e w4 ⟨rfl, hd4⟩
  have hR := LJ.new_row (L3.out.below hd4.below) (List.replicate pl 0) (by rw [List.length_replicate]; have := HPL.out; omega)
  have hlen : (List.replicate pl (0 : Int)).length = pl := List.length_replicate
  obtain ⟨w5, hw5⟩ : ∃ w5 : World, w5 = w4.alloc (.cells (rowK .u8 (List.replicate pl 0)) 5) := ⟨_, rfl⟩
  rw [← hw5] at hR
  have R5 := Aside0.mk hR
  have HW5 := Aside0.mk hw5
  obtain ⟨bp, hbp⟩ : ∃ b, b = w4.heap.size := ⟨_, rfl⟩
  rw [← hbp] at R5
  have HBP := Aside0.mk hbp
  have HLEN := Aside0.mk hlen
  clear hR hw5 hd4 L3 hbp hlen
  go_wp2_with fail
  rw [← HW5.out, ← HBP.out]
  clear hmk HW5 HBP e2
  obtain ⟨p, hp⟩ : ∃ p, p = List.replicate pl (0 : Int) := ⟨_, rfl⟩
  rw [← hp] at R5 HF0 HPB HLEN
  clear hp
  go_loopw [10, 12, 13] (fun v10 v12 v13 wr => ∃ (c : Nat) (d : DS) (s : JS), c ≤ 300 ∧ v10 = .bool true ∧ ((v12 = .int .i64 0 ∧ v13 = .int .i64 (c : Nat)) ∨ (v12 = .int .i64 7 ∧ v13 = .int .i64 ((c : Int) + 1))) ∧ Aside0 (Fill n d s c p) ∧ Aside0 (LJR w1 wr g gj d s (some ⟨bp, 0, none⟩) p)) (fun _ _ i _ => (2000 - intOf i).toNat)
  case atStart => exact ⟨0, d0, s0, by omega, rfl, .inl ⟨rfl, rfl⟩, HF0, R5⟩
  case round =>
    obtain ⟨c, d, s, hc, rfl, hcase, HF, HR⟩ := hrel
    clear HF0 R5
    obtain ⟨l, m, hjv, hlc⟩ := HF.out.inv
    have hw12 := hjv.waits_le
    have hus := hjv.us
    have HJ := Aside0.mk hjv
    have HLC := Aside0.mk hlc
    have HWU := Aside0.mk (show s.waits.length ≤ 1000000 ∧ 0 ≤ s.used ∧ s.used ≤ 1000000 by omega)
    clear hjv hlc hw12 hus
    rcases hcase with ⟨rfl, rfl⟩ | ⟨rfl, rfl⟩
    · have d1 : decide ((c : Int) < 2000) = true := decide_eq_true (by omega)
      have d2 : decide (c < 2000) = true := decide_eq_true (by omega)
      go_wp2_with fail
      refine (RRoom HR.out HWU.out.1 HWU.out.2).mono ?_
      rintro e w6 ⟨rfl, hr6⟩
      have R6 := Aside0.mk hr6
      clear hr6
      go_wp2_with fail
      have hap := RAppend R6.out (HJ.out.sok (by have := HLC.out; omega)) pl (by rw [HLEN.out]; exact Nat.le_refl _) HPB.out
      rw [HLEN.out] at hap
      refine hap.mono ?_
      clear hap
      rintro e w7 ⟨rfl, hr7⟩
      obtain ⟨r0, hr0⟩ : ∃ q, q = secN d.n - s.used - cntN s.waits.length := ⟨_, rfl⟩
      have hnn := HF.out.room
      rw [← hr0] at hnn ⊢
      rcases HF.out.append HPB.out (by rw [HLEN.out]; have := HPL.out; omega) (by rw [HLEN.out]; have := HPL.out; omega) with ⟨s', ha, hf', hle⟩ | ha
      · rw [ha] at hr7 ⊢
        simp only at hr7 ⊢
        have R7 := Aside0.mk hr7
        have HF' := Aside0.mk hf'
        obtain ⟨l', m', hjv', hlc'⟩ := hf'.inv
        have hw12 := hjv'.waits_le
        have hus := hjv'.us
        have hnn' := hf'.room
        have hc' := hf'.count HN.out.2
        have HJ' := Aside0.mk hjv'
        have HLC' := Aside0.mk hlc'
        have HWU' := Aside0.mk (show s'.waits.length ≤ 1000000 ∧ 0 ≤ s'.used ∧ s'.used ≤ 1000000 by omega)
        have HC' := Aside0.mk hc'
        obtain ⟨r1, hr1⟩ : ∃ q, q = secN d.n - s'.used - cntN s'.waits.length := ⟨_, rfl⟩
        rw [← hr1, ← hr0] at hle
        rw [← hr1] at hnn'
        have HR1 := Aside0.mk hr1
        have t1 : decide (r0 < r1) = false := decide_eq_false (by omega)
        have t2 := eq_false (show ¬ r0 < r1 by omega)
        have t3 : decide (r1 < 0) = false := decide_eq_false (by omega)
        have t4 := eq_false (show ¬ r1 < 0 by omega)
        clear hr7 hf' hjv' hlc' hw12 hus hnn' hc' hr1 hle ha hr0 hnn R6 HJ HLC HWU HF
        go_wp2_with fail
        refine (RRoom R7.out HWU'.out.1 HWU'.out.2).mono ?_
        rintro e w8 ⟨rfl, hr8⟩
        rw [← HR1.out]
        have R8 := Aside0.mk hr8
        clear hr8 R7
        go_wp2_with fail
        refine (RRoom R8.out HWU'.out.1 HWU'.out.2).mono ?_
        rintro e w9 ⟨rfl, hr9⟩
        rw [← HR1.out]
        have R9 := Aside0.mk hr9
        clear hr9 R8
        go_wp2_with fail
        · refine (RSync R9.out (HJ'.out.sok (by have := HLC'.out; have := HC'.out; omega)) HJ'.out.good HJ'.out.w0).mono ?_
          rintro e w10 ⟨rfl, hr10⟩
          obtain ⟨d', s'', hsf, hf'', _, _⟩ := HF'.out.sync
          rw [hsf] at hr10 ⊢
          simp only at hr10 ⊢
          have R10 := Aside0.mk hr10
          have HF'' := Aside0.mk hf''
          clear hr10 hf'' hsf R9 HF' HJ' HR1
          go_wp2_with fail
          go_roundw
          case rel => exact ⟨c + 1, d', s'', HC'.out, rfl, .inl ⟨rfl, rfl⟩, HF'', R10⟩
          case measure => simp [intOf]; omega
        · go_roundw
          case rel => exact ⟨c + 1, d, s', HC'.out, rfl, .inl ⟨rfl, rfl⟩, HF', R9⟩
          case measure => simp [intOf]; omega
      · rw [ha] at hr7 ⊢
        simp only at hr7 ⊢
        have R7 := Aside0.mk hr7
        have HR0 := Aside0.mk hr0
        have t1 : decide (r0 < r0) = false := decide_eq_false (by omega)
        have t2 := eq_false (show ¬ r0 < r0 by omega)
        have t3 : decide (r0 < 0) = false := decide_eq_false (by omega)
        have t4 := eq_false (show ¬ r0 < 0 by omega)
        clear hr7 ha hr0 hnn R6 HJ HLC
        go_wp2_with fail
        refine (RRoom R7.out HWU.out.1 HWU.out.2).mono ?_
        rintro e w8 ⟨rfl, hr8⟩
        rw [← HR0.out]
        have R8 := Aside0.mk hr8
        clear hr8 R7
        go_wp2_with fail
        refine (RRoom R8.out HWU.out.1 HWU.out.2).mono ?_
        rintro e w9 ⟨rfl, hr9⟩
        rw [← HR0.out]
        have R9 := Aside0.mk hr9
        clear hr9 R8
        go_wp2_with fail
        go_roundw
        case rel => exact ⟨c, d, s, hc, rfl, .inr ⟨rfl, rfl⟩, HF, R9⟩
        case measure => simp [intOf]; omega
    · have d1 : decide ((c : Int) + 1 < 2000) = true := decide_eq_true (by omega)
      have d2 := eq_true (show (c : Int) + 1 < 2000 by omega)
      have d3 := eq_true (show c + 1 < 2000 by omega)
      go_wp2_with fail
      refine (LLen HR.out.lj).mono ?_
      rintro e w6 ⟨rfl, rfl⟩
      rw [HJ.out.cnt, HLC.out]
      go_wp2_with fail
      refine (RSync HR.out (HJ.out.sok (by have := HLC.out; omega)) HJ.out.good HJ.out.w0).mono ?_
      rintro e w7 ⟨rfl, hr7⟩
      obtain ⟨d', s'', hsf, hf'', hsy, l2, hj2, hl2⟩ := HF.out.sync
      rw [hsf] at hr7 ⊢
      simp only at hr7 ⊢
      have R7 := Aside0.mk hr7
      have HSY := Aside0.mk hsy
      have HJ2 := Aside0.mk hj2
      have HL2 := Aside0.mk hl2
      have HE := Aside0.mk (full_end hf'' hj2 HN.out.1)
      have HG2 := Aside0.mk hf''
      clear hr7 hf'' hsf HR HF HJ hsy hj2 HLC hl2
      go_wp2_with fail
      refine (LSynced R7.out.lj).mono ?_
      rintro e w8 ⟨rfl, rfl⟩
      rw [HSY.out]
      obtain ⟨d3, s3, s4, hck, hj3, hc3, hn3, hr3, ho4⟩ := HE.out
      have HJ3 := Aside0.mk hj3
      have HO4 := Aside0.mk ho4
      have HC3 := Aside0.mk hc3
      have HN3 := Aside0.mk hn3
      have HR3 := Aside0.mk hr3
      have L7 := Aside0.mk R7.out.lj
      have HSK := Aside0.mk (HJ2.out.sok (by have := HL2.out; omega))
      have HCK := Aside0.mk hck
      have HWU3 := Aside0.mk (show s3.waits.length ≤ 1000000 ∧ 0 ≤ s3.used ∧ s3.used ≤ 1000000 by have := hj3.waits_le; have := hj3.us; omega)
      clear HSY R7 HE hj3 ho4 hc3 hn3 hr3 hck
      go_wp2_with fail
      have hck := LCkpt (L7.out.below (below_alloc (Below.refl _ _) _)) HSK.out HJ2.out.good HJ2.out.w0 (some ⟨w7.heap.size, 0, none⟩) 1 [1] (one_C w7 1) (by decide) (one_ok (by decide))
      rw [HCK.out] at hck
      refine hck.mono ?_
      rintro e w9 ⟨rfl, hl9⟩
      simp only at hl9 ⊢
      have L9 := Aside0.mk hl9
      clear hl9 hck L7 HCK
      go_wp2_with fail
      refine (LRoom L9.out HWU3.out.1 HWU3.out.2).mono ?_
      rintro e w10 ⟨rfl, hl10⟩
      rw [HR3.out]
      have L10 := Aside0.mk hl10
      clear hl10 L9
      go_wp2_with fail
      refine (LOpensOld L10.out HJ3.out.secs HJ3.out.w0 HO4.out).mono ?_
      rintro e w11 ⟨g2, rfl, hl11, okj, hji⟩
      have L11 := Aside0.mk hl11
      have JI := Aside0.mk hji
      clear hl11 hji L10
      go_wp2_with fail
      refine (Len_calls _ _ okj g gj s3 JI.out).mono ?_
      rintro e w12 ⟨rfl, rfl⟩
      rw [HC3.out]
      go_wp2_with fail
      obtain ⟨okd, hdi⟩ := L11.out.disk.2
      refine (Size_calls _ _ okd g d3 hdi.1).mono ?_
      rintro e w12 ⟨rfl, rfl⟩
      clear hdi
      rw [HN3.out]
      obtain ⟨z, hz⟩ : ∃ z, z = secN n := ⟨_, rfl⟩
      have hn6 := HN.out
      have f1 : wrap64 ((n : Int) - 2) = (n : Int) - 2 := by unfold wrap64; omega
      have f2 : Int.tdiv ((n : Int) - 2) 2 = z := by
        rw [hz]
        unfold secN
        rw [show (n : Int) - 2 = ((n - 2 : Nat) : Int) by omega]
        norm_cast
      have hz2 : 2 ≤ z ∧ z ≤ 29 := by rw [hz]; unfold secN; omega
      have f3 : wrap64 z = z := by unfold wrap64; omega
      have f4 : wrap64 (z - 1) = z - 1 := by unfold wrap64; omega
      rw [← hz]
      have HZ := Aside0.mk hz
      clear hz hn6
      go_wp2_with fail
      refine (works_calls w11).mono ?_
      rintro e w12 ⟨rfl, hb12⟩
      have B12 := Aside0.mk hb12
      clear hb12
      go_wp2_with fail
      go_ret
      exact ⟨rfl, B1.out.trans ((L11.out.1.trans (B12.out.mono L11.out.1.size)).mono B1.out.size)⟩
end Go.Proofs.Ythnjkmjcacoajaa.Jn
end
