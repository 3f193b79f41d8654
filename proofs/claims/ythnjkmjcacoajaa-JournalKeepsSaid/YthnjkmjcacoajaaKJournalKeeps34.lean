import Derived.Test.YthnjkmjcacoajaaKJournalKeeps33
section
/- A new disk, and the journal that is opened on it; a journal opened again. Plain. -/
namespace Go.Proofs.Ythnjkmjcacoajaa.Jn
open Go Go.RowKit Go.Proofs.YthnjkmjcacoajaaW.PrintWords Go.Proofs.YthnjkmjcacoajaaW.PrintLast Go.Proofs.YthnjkmjcacoajaaW.PrintMore Go.Proofs.Ythnjkmjcacoajaa.Base Go.Proofs.Ythnjkmjcacoajaa.Arr
open Go.Proofs.Ythnjkmjcacoajaa.Dk (DS DiskIs DiskTo writeF flushF doingF secOf newS)
open Go.Proofs.Ythnjkmjcacoajaa.Ext (runCells pieces runCells_len readT stampV)
open Go.Proofs.Ythnjkmjcacoajaa.FrameLink (pk joined joined_nil joined_cons joined_snoc pk_len)
set_option linter.unusedVariables false
set_option linter.unusedSimpArgs false

theorem new_calm (n : Nat) (h1 : 1 ≤ n) (h2 : n ≤ 512) : Calm (newS n) := ⟨rfl, rfl, by simp [newS], h1, h2⟩
theorem new_row (n : Nat) (h1 : 1 ≤ n) (h2 : n ≤ 512) (i : Nat) (hi : i < n) : (rowsD (newS n)).getD i [] = List.replicate 64 0 := by
  rw [calm_row (new_calm n h1 h2) i hi]
  show ((List.replicate (n * 64) (0 : Int)).drop (i * 64)).take 64 = _
  rw [List.drop_replicate, List.take_replicate]
  congr 1
  omega
theorem new_mem (n : Nat) (h1 : 1 ≤ n) (h2 : n ≤ 512) {r : List Int} (h : r ∈ rowsD (newS n)) : r = List.replicate 64 0 := by
  obtain ⟨i, hi, rfl⟩ := mem_getD h
  rw [calm_len] at hi
  exact new_row n h1 h2 i hi
theorem zero_stamp : stampV (List.replicate 64 0) = 0 := by decide +kernel
theorem zero_err : (readT (List.replicate 64 0)).2.2.2.2 ≠ 0 := by decide +kernel
theorem new_secs (n : Nat) (h1 : 1 ≤ n) (h2 : n ≤ 512) : Secs (rowsD (newS n)) := fun r hr => by
  rw [new_mem n h1 h2 hr]
  exact ⟨by simp, fun x hx => by rw [List.eq_of_mem_replicate hx]; decide⟩
theorem epochF_le {R : List (List Int)} {e : Int} (h0 : 0 ≤ e) (h : ∀ r ∈ R, epF r ≤ e) : epochF R ≤ e := by
  have : ∀ (l : List (List Int)) (t : Int), t ≤ e → (∀ r ∈ l, epF r ≤ e) → l.foldl (fun t b => if t < epF b then epF b else t) t ≤ e := by
    intro l
    induction l with
    | nil => intro t ht _; exact ht
    | cons b l ih =>
      intro t ht hl
      refine ih _ ?_ (fun r hr => hl r (by simp [hr]))
      show (if t < epF b then epF b else t) ≤ e
      split
      · exact hl b (by simp)
      · exact ht
  exact this R 0 h0 h
theorem new_epoch (n : Nat) (h1 : 1 ≤ n) (h2 : n ≤ 512) : epochF (rowsD (newS n)) = 0 := by
  have := epochF_le (R := rowsD (newS n)) (e := 0) (Int.le_refl _) (fun r hr => by
    rw [new_mem n h1 h2 hr]
    unfold epF
    rw [zero_stamp]
    decide)
  have := (epochF_range (rowsD (newS n))).1
  omega
theorem new_head (n : Nat) (h1 : 2 ≤ n) (h2 : n ≤ 512) : (headF (rowsD (newS n))).1 = 0 := by
  rw [headF_eq, new_row n (by omega) h2 0 (by omega), new_row n (by omega) h2 1 (by omega)]
  unfold headStep
  rw [if_neg (fun q => zero_err q.1), if_neg (fun q => zero_err q.1)]
/-- the journal of a new disk -/
theorem new_open (n : Nat) (h6 : 6 ≤ n) (h5 : n ≤ 512) : ∃ d s, openF (newS n) = (0, d, some (s, [])) ∧ JInv d s [] 0 ∧ d.plan = none ∧ d.n = n ∧ s.epoch = 1 ∧ s.gen = 1 ∧ s.used = 0 ∧ s.waits = [] := by
  have hc := new_calm n (by omega) h5
  have he := new_epoch n (by omega) h5
  obtain ⟨f1, f2⟩ := fresh_fine hc h6 rfl (epochF (rowsD (newS n)) + 1)
  obtain ⟨o1, o2, o3⟩ := open_fresh hc h6 (new_secs n (by omega) h5) (new_head n (by omega) h5) (by rw [he]; decide) f1
  refine ⟨_, _, o1, o3, f2, o2, ?_, rfl, rfl, rfl⟩
  show epochF (rowsD (newS n)) + 1 = 1
  rw [he]
  rfl
/-- opened again: what was synced -/
theorem again_open {d : DS} {s : JS} {l : List (List Int)} {m : Nat} (h : JInv d s l m) (he : s.epoch + 1 ≤ 4294967295) : ∃ s', openF d = (0, d, some (s', l.take m)) ∧ JInv d s' (l.take m) (l.take m).length ∧ s'.epoch ≤ s.epoch + 1 ∧ s'.gen = s.gen ∧ s'.used = s.used ∧ s'.waits = [] := by
  have hen := h.ep
  have hgn := h.gen
  have hus := h.us
  have hle : epochF (rowsD d) ≤ s.epoch := epochF_le hen (fun r hr => by have := (h.body.all r hr).1; omega)
  have hro := h.room
  have hc0 : 0 ≤ cntN s.waits.length := by unfold cntN; omega
  obtain ⟨o1, o2⟩ := open_reads (out := l.take m) h.calm h.body (by omega) (pay_take h.pay m) (by omega)
  refine ⟨_, o1, o2, ?_, ?_, ?_, rfl⟩
  · show epochF (rowsD d) + 1 ≤ _
    omega
  · show ((s.gen.toNat : Nat) : Int) = s.gen
    omega
  · show ((s.used.toNat : Nat) : Int) = s.used
    omega
theorem JInv.secs {d : DS} {s : JS} {l : List (List Int)} {m : Nat} (h : JInv d s l m) : Secs (rowsD d) := h.body.secs
theorem JInv.w0 {d : DS} {s : JS} {l : List (List Int)} {m : Nat} (h : JInv d s l m) : d.waits.length ≤ 500000 := by rw [h.calm.waits]; exact Nat.zero_le _
theorem pay_short {l : List (List Int)} (h : Pay l) (hl : l.length ≤ 1000000) : Short l := ⟨by omega, fun r hr => by have := (h r hr).2; omega⟩
theorem pk_le (b : List Int) (h : b.length ≤ 8192) : (pk b).length ≤ b.length + 13 := by
  have := BinLink.W_le b.length
  rw [pk_len]
  omega
theorem sync_used (d : DS) (s : JS) (hb : s.broken = false) (h : (syncF d s).1 = 0) : (syncF d s).2.2.used = s.used + cntN s.waits.length ∧ (syncF d s).2.2.waits = [] := by
  unfold syncF at h ⊢
  rw [if_neg (by rw [hb]; decide)] at h ⊢
  by_cases h0 : s.waits.length = 0
  · rw [if_pos h0]
    have : s.waits = [] := List.length_eq_zero_iff.1 h0
    refine ⟨?_, this⟩
    show s.used = s.used + cntN s.waits.length
    rw [h0]
    have : cntN 0 = 0 := rfl
    omega
  · rw [if_neg h0] at h ⊢
    simp only at h ⊢
    split at h
    · rename_i h1
      exact absurd h h1
    · rename_i h1
      rw [if_neg h1]
      exact ⟨rfl, rfl⟩
theorem pk_one (x : Int) : (pk [x]).length = 6 := by
  rw [pk_len, BinLink.W_len]
  have : Fr.fol 1 = 0 := by decide +kernel
  show Fr.fol 1 + 1 + 1 + 4 = 6
  rw [this]
theorem one_ok {x : Int} (h : 0 ≤ x ∧ x < 256) : Ext.Bytes [x] := fun y hy => by rw [List.mem_singleton.1 hy]; exact h
/-- the chapter's examples, in the plain -/
theorem works_plain : ∃ (d1 d2 d3 d4 : DS) (s1 s2 s3 s4 s5 s7 s8 s9 s10 : JS),
    (openF (newS 6) = (0, d1, some (s1, [])) ∧ JInv d1 s1 [] 0) ∧ (appendF d1.n s1 [7] = (0, s2) ∧ JInv d1 s2 [[7]] 0) ∧ (syncF d1 s2 = (0, d2, s3) ∧ JInv d2 s3 [[7]] 1) ∧
    (openF d2 = (0, d2, some (s4, [[7]])) ∧ JInv d2 s4 [[7]] 1) ∧ (appendF d2.n s4 [8] = (0, s5) ∧ JInv d2 s5 [[7], [8]] 1) ∧
    (ckptF d2 s4 [9] = (0, d3, s7) ∧ JInv d3 s7 [[9]] 1) ∧ (appendF d3.n s7 [10] = (0, s8) ∧ JInv d3 s8 [[9], [10]] 1) ∧ (syncF d3 s8 = (0, d4, s9) ∧ JInv d4 s9 [[9], [10]] 2) ∧
    (openF d4 = (0, d4, some (s10, [[9], [10]])) ∧ JInv d4 s10 [[9], [10]] 2) := by
  obtain ⟨d1, s1, a1, a2, a3, a4, a5, a6, a7, a8⟩ := new_open 6 (by decide) (by decide)
  have hs6 : secN 6 = 2 := rfl
  have c6 : cntN (0 + 6) = 1 := rfl
  have hw1 : s1.waits.length = 0 := by rw [a8]; rfl
  obtain ⟨b1, b2⟩ := (append_inv (b := [7]) a2 (one_ok (by decide)) (by decide)).1 (by rw [hw1, pk_one, a4, a7, hs6, c6]; decide)
  obtain ⟨e1, e2⟩ := sync_fine b2 a3
  obtain ⟨f1, f2, f3, f4⟩ := sync_inv b2 e1
  obtain ⟨u1, u2⟩ := sync_used d1 _ b2.br e1
  generalize hsy : syncF d1 { s1 with waits := s1.waits ++ pk [7], count := s1.count + 1 } = q at *
  obtain ⟨q0, d2, s3⟩ := q
  simp only at e1 e2 f1 f2 f3 f4 u1 u2
  subst e1
  obtain ⟨s4, g1, g2, g3, g4, g5, g6⟩ := again_open f1 (by rw [f3]; show s1.epoch + 1 ≤ _; rw [a5]; decide)
  have hu4 : s4.used = 1 := by rw [g5, u1]; show s1.used + cntN (s1.waits ++ pk [7]).length = 1; rw [a7, a8, List.nil_append, pk_one]; rfl
  have hn2 : d2.n = 6 := f2.trans a4
  have hw4 : s4.waits.length = 0 := by rw [g6]; rfl
  obtain ⟨h1, h2⟩ := (append_inv (b := [8]) g2 (one_ok (by decide)) (by decide)).1 (by rw [hw4, pk_one, hn2, hu4, hs6, c6]; decide)
  have hg4 : s4.gen = 1 := by rw [g4, f4]; exact a6
  have hcf := ckpt_fine (b := [9]) g2 e2 (by decide) (by rw [pk_one, hn2]; decide) (by rw [hg4]; decide)
  obtain ⟨k1, k2, k3, k4, k5, k6⟩ := ckpt_inv g2 (one_ok (x := 9) (by decide)) (by decide) hcf.1
  generalize hck : ckptF d2 s4 [9] = q at *
  obtain ⟨q0, d3, s7⟩ := q
  obtain ⟨hc1, hc2⟩ := hcf
  simp only at hc1 hc2 k1 k2 k3 k4 k5 k6
  subst hc1
  have hn3 : d3.n = 6 := k2.trans hn2
  have hw7 : s7.waits.length = 0 := by rw [k6]; rfl
  have hu7 : s7.used = 1 := by rw [k5, pk_one]; rfl
  obtain ⟨l1, l2⟩ := (append_inv (b := [10]) k1 (one_ok (by decide)) (by decide)).1 (by rw [hw7, pk_one, hn3, hu7, hs6, c6]; decide)
  obtain ⟨m1, m2⟩ := sync_fine l2 hc2
  obtain ⟨n1, n2, n3, n4⟩ := sync_inv l2 m1
  generalize hsy2 : syncF d3 { s7 with waits := s7.waits ++ pk [10], count := s7.count + 1 } = q at *
  obtain ⟨q0, d4, s9⟩ := q
  simp only at m1 m2 n1 n2 n3 n4
  subst m1
  obtain ⟨s10, o1, o2, _⟩ := again_open n1 (by
    rw [n3]
    show s7.epoch + 1 ≤ _
    rw [k3]
    have : s3.epoch = 1 := by rw [f3]; exact a5
    omega)
  exact ⟨d1, d2, d3, d4, s1, _, s3, s4, _, s7, _, s9, s10, ⟨a1, a2⟩, ⟨b1, b2⟩, ⟨hsy, f1⟩, ⟨g1, g2⟩, ⟨h1, h2⟩, ⟨hck, k1⟩, ⟨l1, l2⟩, ⟨hsy2, n1⟩, o1, o2⟩
end Go.Proofs.Ythnjkmjcacoajaa.Jn
end

section
/- The chapter's examples, walked. No condition. -/
namespace Go.Proofs.Ythnjkmjcacoajaa.Jn
open Go Go.RowKit Go.Proofs.YthnjkmjcacoajaaW.PrintWords Go.Proofs.YthnjkmjcacoajaaW.PrintLast Go.Proofs.YthnjkmjcacoajaaW.PrintMore Go.Proofs.Ythnjkmjcacoajaa.Base Go.Proofs.Ythnjkmjcacoajaa.Arr
open Go.Proofs.Ythnjkmjcacoajaa.Dk (DS DiskIs DiskTo writeF flushF doingF secOf newS)
set_option linter.unusedVariables false
set_option linter.unusedSimpArgs false

theorem lit_two {w0 W : World} {g : Nat} {d : DS} (h : LD w0 W g d) (x y : Int) : RowsOut w0 (((W.alloc (.cells #[.int .u8 x] 5)).alloc (.cells #[.int .u8 y] 5)).alloc (.cells #[.slice (some ⟨W.heap.size, 0, none⟩) 1 1, .slice (some ⟨W.heap.size + 1, 0, none⟩) 1 1] 31)) g d (some ⟨W.heap.size + 2, 0, none⟩) [[x], [y]] := by
  obtain ⟨h1, ok, h2, h3, h4⟩ := h
  obtain ⟨W3, hW3⟩ : ∃ W3 : World, W3 = ((W.alloc (.cells #[.int .u8 x] 5)).alloc (.cells #[.int .u8 y] 5)).alloc (.cells #[.slice (some ⟨W.heap.size, 0, none⟩) 1 1, .slice (some ⟨W.heap.size + 1, 0, none⟩) 1 1] 31) := ⟨_, rfl⟩
  have hb : Below W.heap.size W W3 := by rw [hW3]; exact below_alloc (below_alloc (below_alloc (Below.refl _ _) _) _) _
  have hs1 : (W.alloc (.cells #[.int .u8 x] 5)).heap.size = W.heap.size + 1 := by simp
  have hs2 : ((W.alloc (.cells #[.int .u8 x] 5)).alloc (.cells #[.int .u8 y] 5)).heap.size = W.heap.size + 2 := by simp
  have r1 : HoldsRow W3 W.heap.size 5 (rowK .u8 [x]) := by rw [hW3]; exact ((HoldsRow.new W 5 #[.int .u8 x]).alloc _).alloc _
  have r2 : HoldsRow W3 (W.heap.size + 1) 5 (rowK .u8 [y]) := by
    rw [hW3, ← hs1]
    exact (HoldsRow.new (W.alloc (.cells #[.int .u8 x] 5)) 5 #[.int .u8 y]).alloc _
  have r3 : HoldsRow W3 (W.heap.size + 2) 31 #[.slice (some ⟨W.heap.size, 0, none⟩) 1 1, .slice (some ⟨W.heap.size + 1, 0, none⟩) 1 1] := by
    rw [hW3, ← hs2]
    exact HoldsRow.new _ _ _
  rw [← hW3]
  refine ⟨h1.trans (hb.mono h4), ok, Dk.DiskIs.below h2 hb, fun k hk => Nat.lt_of_lt_of_le (h3 k hk) hb.size, Nat.le_trans h4 hb.size, fun W' hk => ?_⟩
  have n1 : ¬ ok W.heap.size := fun q => Nat.lt_irrefl _ (h3 _ q)
  have n2 : ¬ ok (W.heap.size + 1) := fun q => by have := h3 _ q; omega
  have n3 : ¬ ok (W.heap.size + 2) := fun q => by have := h3 _ q; omega
  have q3 : HoldsRow W' (W.heap.size + 2) 31 #[.slice (some ⟨W.heap.size, 0, none⟩) 1 1, .slice (some ⟨W.heap.size + 1, 0, none⟩) 1 1] := (hk.2 _ r3.lt n3).trans r3
  refine ⟨rfl, by simp, fun _ => ⟨_, rfl, fun j p hj => ?_⟩⟩
  rcases j with _ | _ | j
  · injection hj with hj
    subst hj
    refine ⟨[.slice (some ⟨W.heap.size, 0, none⟩) 1 1], rfl, ⟨_, _, rfl, Nat.le_refl _, lit_row r1 n1 hk⟩, fun i u hu => ?_⟩
    rcases i with _ | i
    · injection hu with hu
      subst hu
      have e0 : ((⟨W.heap.size + 2, 0, none⟩ : Addr).add (0 * (Kd.slice 5 (Kd.int .u8)).sz + 0)) = ⟨W.heap.size + 2, 0, none⟩ := by simp [Addr.add]
      rw [e0]
      exact q3.cell (j := 0) rfl
    · simp at hu
  · injection hj with hj
    subst hj
    refine ⟨[.slice (some ⟨W.heap.size + 1, 0, none⟩) 1 1], rfl, ⟨_, _, rfl, Nat.le_refl _, lit_row r2 n2 hk⟩, fun i u hu => ?_⟩
    rcases i with _ | i
    · injection hu with hu
      subst hu
      have e0 : ((⟨W.heap.size + 2, 0, none⟩ : Addr).add ((0 + 1) * (Kd.slice 5 (Kd.int .u8)).sz + 0)) = ⟨W.heap.size + 2, 1, none⟩ := by
        show (⟨W.heap.size + 2, 0, none⟩ : Addr).add 1 = _
        simp [Addr.add]
      rw [e0]
      exact q3.cell (j := 1) rfl
    · simp at hu
  · simp at hj
theorem LOpensT {w0 W : World} {g : Nat} {d d' : DS} {A : Option Addr} {c : Nat} {l : List (List Int)} {s : JS} (h : RowsOut w0 W g d A l) (hb : Secs (rowsD d)) (hw : d.waits.length ≤ 500000) (hsl : Short l) (ho : openF d = (0, d', some (s, l))) :
    Calls Try.prog 8 #[.pointer (some ⟨g, 0, none⟩), .slice A l.length c] W fun e W' => ∃ gj, e = .returned (.tuple #[.pointer (some ⟨gj, 0, none⟩), .bool true]) ∧ LJ w0 W' g gj d' s :=
  (LOpens h hb hw hsl ho hsl).mono fun e W' ⟨gj, he, hl⟩ => ⟨gj, by rw [he, decide_eq_true rfl], hl⟩
theorem one_C (W : World) (x : Int) : Kd.C (Kd.int .u8) (W.alloc (.cells #[.int .u8 x] 5)) (some ⟨W.heap.size, 0, none⟩) ([x] : List Int).length [x] :=
  lit_row (ok := fun _ => False) (show HoldsRow _ W.heap.size 5 (rowK .u8 [x]) from HoldsRow.new W 5 #[.int .u8 x]) (fun h => h) (Kept.refl _ _)
theorem short_one (x : Int) : Short [[x]] := ⟨by simp, fun r hr => by rw [List.mem_singleton.1 hr]; simp⟩
theorem short_two (x y : Int) : Short [[x], [y]] := ⟨by simp, fun r hr => by
  rcases List.mem_cons.1 hr with q | q
  · rw [q]; simp
  · rw [List.mem_singleton.1 q]; simp⟩
/-- Append that goes well -/
theorem LAppendOK {w0 W : World} {g gj : Nat} {d : DS} {s s' : JS} {l : List (List Int)} {m : Nat} (h : LJ w0 W g gj d s) (hj : JInv d s l m) (hl : l.length ≤ 1000000) (A : Option Addr) (c : Nat) (b : List Int) (hb : Kd.C (Kd.int .u8) W A b.length b) (hc : b.length ≤ c) (hby : Ext.Bytes b) (ho : appendF d.n s b = (0, s')) :
    Calls Try.prog 10 #[.pointer (some ⟨gj, 0, none⟩), .slice A b.length c] W fun e W' => e = .returned (.int .i64 0) ∧ LJ w0 W' g gj d s' :=
  (LAppend h (hj.sok (by omega)) A c b hb hc hby).mono fun e W' ⟨he, hl⟩ => by
    rw [ho] at he hl
    exact ⟨he, hl⟩
theorem LSyncOK {w0 W : World} {g gj : Nat} {d d' : DS} {s s' : JS} {l : List (List Int)} {m : Nat} (h : LJ w0 W g gj d s) (hj : JInv d s l m) (hl : l.length ≤ 1000000) (ho : syncF d s = (0, d', s')) :
    Calls Try.prog 11 #[.pointer (some ⟨gj, 0, none⟩)] W fun e W' => e = .returned (.int .i64 0) ∧ LJ w0 W' g gj d' s' :=
  (LSync h (hj.sok (by omega)) hj.good hj.w0).mono fun e W' ⟨he, hl⟩ => by
    rw [ho] at he hl
    exact ⟨he, hl⟩
theorem LCkptOK {w0 W : World} {g gj : Nat} {d d' : DS} {s s' : JS} {l : List (List Int)} {m : Nat} (h : LJ w0 W g gj d s) (hj : JInv d s l m) (hl : l.length ≤ 1000000) (A : Option Addr) (c : Nat) (b : List Int) (hb : Kd.C (Kd.int .u8) W A b.length b) (hc : b.length ≤ c) (hby : Ext.Bytes b) (ho : ckptF d s b = (0, d', s')) :
    Calls Try.prog 14 #[.pointer (some ⟨gj, 0, none⟩), .slice A b.length c] W fun e W' => e = .returned (.int .i64 0) ∧ LJ w0 W' g gj d' s' :=
  (LCkpt h (hj.sok (by omega)) hj.good hj.w0 A c b hb hc hby).mono fun e W' ⟨he, hl⟩ => by
    rw [ho] at he hl
    exact ⟨he, hl⟩
set_option maxHeartbeats 4000000 in
set_option maxRecDepth 100000 in
theorem works_calls (w : World) : Calls Try.prog 16 #[] w fun e w' => e = .returned (.bool true) ∧ Below w.heap.size w w' := by
  obtain ⟨d1, d2, d3, d4, s1, s2, s3, s4, s5, s7, s8, s9, s10, p1, p2, p3, p4, p5, p6, p7, p8, p9⟩ := works_plain
  have P1 := Aside0.mk p1
  have P2 := Aside0.mk p2
  have P3 := Aside0.mk p3
  have P4 := Aside0.mk p4
  have P5 := Aside0.mk p5
  have P6 := Aside0.mk p6
  have P7 := Aside0.mk p7
  have P8 := Aside0.mk p8
  have P9 := Aside0.mk p9
  clear p1 p2 p3 p4 p5 p6 p7 p8 p9
  go_enter Try.func16, Try.ntmps16
  go_wp2_with fail
  refine (LNew w 6 (by decide) (by decide)).mono ?_
  rintro e w1 ⟨g, rfl, hd⟩
  have L1 := Aside0.mk hd
  clear hd
  go_wp2_with fail
  refine (LOpensT (c := 0) L1.out.none (new_secs 6 (by decide) (by decide)) (by decide) ⟨by decide, fun r hr => by cases hr⟩ P1.out.1).mono ?_
  rintro e w2 ⟨g2, rfl, hl⟩
  have L2 := Aside0.mk hl
  clear hl L1
  go_wp2_with fail
  refine (LAppendOK (L2.out.below (below_alloc (Below.refl _ _) _)) P1.out.2 (by decide) (some ⟨w2.heap.size, 0, none⟩) 1 [7] (one_C w2 7) (by decide) (one_ok (by decide)) P2.out.1).mono ?_
  rintro e w3 ⟨rfl, hl⟩
  have L3 := Aside0.mk hl
  clear hl L2
  go_wp2_with fail
  refine (LSyncOK L3.out P2.out.2 (by decide) P3.out.1).mono ?_
  rintro e w4 ⟨rfl, hl⟩
  have L4 := Aside0.mk hl
  clear hl L3
  go_wp2_with fail
  refine (LOpensT (c := 1) (lit_one L4.out.disk 7) P3.out.2.secs P3.out.2.w0 (short_one 7) P4.out.1).mono ?_
  rintro e w5 ⟨g5, rfl, hl⟩
  have L5 := Aside0.mk hl
  clear hl L4
  go_wp2_with fail
  refine (LAppendOK (L5.out.below (below_alloc (Below.refl _ _) _)) P4.out.2 (by decide) (some ⟨w5.heap.size, 0, none⟩) 1 [8] (one_C w5 8) (by decide) (one_ok (by decide)) P5.out.1).mono ?_
  rintro e w6 ⟨rfl, hl⟩
  have L6 := Aside0.mk hl
  clear hl L5
  have hcnt : s5.count = 2 := P5.out.2.cnt
  have hsyn : s5.synced = 1 := P5.out.2.sy
  go_wp2_with fail
  refine (LLen L6.out).mono ?_
  rintro e w6' ⟨rfl, rfl⟩
  rw [hcnt]
  go_wp2_with fail
  refine (LSynced L6.out).mono ?_
  rintro e w6' ⟨rfl, rfl⟩
  rw [hsyn]
  clear hcnt hsyn
  go_wp2_with fail
  refine (LOpensT (c := 1) (lit_one L6.out.disk 7) P3.out.2.secs P3.out.2.w0 (short_one 7) P4.out.1).mono ?_
  rintro e w7 ⟨g7, rfl, hl⟩
  have L7 := Aside0.mk hl
  clear hl L6
  go_wp2_with fail
  refine (LCkptOK (L7.out.below (below_alloc (Below.refl _ _) _)) P4.out.2 (by decide) (some ⟨w7.heap.size, 0, none⟩) 1 [9] (one_C w7 9) (by decide) (one_ok (by decide)) P6.out.1).mono ?_
  rintro e w8 ⟨rfl, hl⟩
  have L8 := Aside0.mk hl
  clear hl L7
  go_wp2_with fail
  refine (LAppendOK (L8.out.below (below_alloc (Below.refl _ _) _)) P6.out.2 (by decide) (some ⟨w8.heap.size, 0, none⟩) 1 [10] (one_C w8 10) (by decide) (one_ok (by decide)) P7.out.1).mono ?_
  rintro e w9 ⟨rfl, hl⟩
  have L9 := Aside0.mk hl
  clear hl L8
  go_wp2_with fail
  refine (LSyncOK L9.out P7.out.2 (by decide) P8.out.1).mono ?_
  rintro e w10 ⟨rfl, hl⟩
  have L10 := Aside0.mk hl
  clear hl L9
  go_wp2_with fail
  refine (LOpensT (c := 2) (lit_two L10.out.disk 9 10) P8.out.2.secs P8.out.2.w0 (short_two 9 10) P9.out.1).mono ?_
  rintro e w11 ⟨g11, rfl, hl⟩
  have L11 := Aside0.mk hl
  clear hl L10
  go_wp2_with fail
  go_ret
  exact ⟨rfl, L11.out.1⟩
end Go.Proofs.Ythnjkmjcacoajaa.Jn
end

section
/- A journal in a law, beside a row that is read again and again. -/
namespace Go.Proofs.Ythnjkmjcacoajaa.Jn
open Go Go.RowKit Go.Proofs.YthnjkmjcacoajaaW.PrintWords Go.Proofs.YthnjkmjcacoajaaW.PrintLast Go.Proofs.YthnjkmjcacoajaaW.PrintMore Go.Proofs.Ythnjkmjcacoajaa.Base Go.Proofs.Ythnjkmjcacoajaa.Arr
open Go.Proofs.Ythnjkmjcacoajaa.Dk (DS DiskIs DiskTo writeF flushF doingF secOf newS)
open Go.Proofs.Ythnjkmjcacoajaa.FrameLink (pk joined joined_nil joined_cons joined_snoc pk_len)
set_option linter.unusedVariables false
set_option linter.unusedSimpArgs false

theorem make_n (k : Nat) (hk : k ≤ 1000) (W : World) : (Instr.makeSlice 31 (.int .i64 ((k : Nat) : Int)) (.int .i64 ((k : Nat) : Int))).run Try.prog W = .ok (.slice (some ⟨W.heap.size, 0, none⟩) k k) (W.alloc (.cells (rowK .u8 (List.replicate k 0)) 5)) := by
  have h := print_make (P := Try.prog) 31 5 .u8 1 Try.underlying31 (by kernel_rfl) (by decide) k (by omega) W
  rw [rowK_made] at h
  exact h
theorem bring_eq (a : Int) (n : Nat) (hn : 0 < n) (hb : n ≤ 281474976710656) : encoreref00_Bring.f a (n : Int) = some (a % (n : Int)) := by
  unfold encoreref00_Bring.f
  rw [if_neg (by omega), if_neg (by omega)]
  have h := Int.tmod_eq_emod (a := a) (b := (n : Int))
  have h1 := Int.emod_nonneg a (show (n : Int) ≠ 0 by omega)
  have h2 := Int.emod_lt_of_pos a (show (0 : Int) < n by omega)
  split at h
  · have e0 : ((0 : Nat) : Int) = 0 := rfl
    rw [h, e0, Int.sub_zero, if_neg (by omega)]
  · rw [h, if_pos (by simp; omega)]
    congr 1
    unfold wrap64
    simp only [Int.natAbs_natCast]
    omega
/-- Bring of any number: below n -/
theorem LBring (a : Int) (n : Nat) (hn : 0 < n) (hb : n ≤ 281474976710656) : ∃ k : Nat, k < n ∧ ∀ W : World, Calls Try.prog 7 #[.int .i64 a, .int .i64 (n : Int)] W fun e W' => e = .returned (.int .i64 (k : Int)) ∧ Drawn0 W W' := by
  have h1 := Int.emod_nonneg a (show (n : Int) ≠ 0 by omega)
  have h2 := Int.emod_lt_of_pos a (show (0 : Int) < n by omega)
  refine ⟨(a % (n : Int)).toNat, by omega, fun W => ?_⟩
  rw [Int.toNat_of_nonneg h1]
  exact encoreref00_Bring.calls a n _ W (bring_eq a n hn hb)
/-- a journal on its disk, and a row of the law's own -/
def LJR (w0 W : World) (g gj : Nat) (d : DS) (s : JS) (A : Option Addr) (p : List Int) : Prop := Below w0.heap.size w0 W ∧ ∃ ok : Nat → Prop, JD W w0.heap.size ok g gj d s ∧ (∀ k, ok k → k < W.heap.size) ∧ ∀ W', Kept W W' ok → Kd.C (Kd.int .u8) W' A p.length p
theorem LJR.lj {w0 W : World} {g gj : Nat} {d : DS} {s : JS} {A : Option Addr} {p : List Int} (h : LJR w0 W g gj d s A p) : LJ w0 W g gj d s := ⟨h.1, h.2.imp fun ok q => ⟨q.1, q.2.1⟩⟩
theorem LJR.row {w0 W : World} {g gj : Nat} {d : DS} {s : JS} {A : Option Addr} {p : List Int} (h : LJR w0 W g gj d s A p) : Kd.C (Kd.int .u8) W A p.length p := by
  obtain ⟨_, ok, _, _, q⟩ := h
  exact q W (Kept.refl _ _)
theorem LJR.of {w0 W W' : World} {g gj : Nat} {d : DS} {s : JS} {A : Option Addr} {p : List Int} {ok : Nat → Prop} (hb : Below w0.heap.size w0 W) (h : JTo W W' w0.heap.size ok g gj d s) (hr : ∀ W', Kept W W' ok → Kd.C (Kd.int .u8) W' A p.length p) : LJR w0 W' g gj d s A p := by
  obtain ⟨h1, h2, ok', h3, h4⟩ := h
  exact ⟨hb.trans h1, ok', h4, fun k hk => (h3 k hk).2, fun W2 hk => hr W2 (h2.then_ hk (fun k hk => (h3 k hk).1))⟩
theorem LJR.below {w0 W W' : World} {g gj : Nat} {d : DS} {s : JS} {A : Option Addr} {p : List Int} (h : LJR w0 W g gj d s A p) (hb : Below W.heap.size W W') : LJR w0 W' g gj d s A p := by
  obtain ⟨h1, ok, h2, h3, h4⟩ := h
  exact LJR.of h1 ((JTo.start h2).below hb) h4
/-- a new row beside a journal -/
theorem LJ.new_row {w0 W : World} {g gj : Nat} {d : DS} {s : JS} (h : LJ w0 W g gj d s) (p : List Int) (hp : p.length ≤ 9223372036854775807) : LJR w0 (W.alloc (.cells (rowK .u8 p) 5)) g gj d s (some ⟨W.heap.size, 0, none⟩) p := by
  obtain ⟨h1, ok, h2, h3⟩ := h
  have r1 : HoldsRow (W.alloc (.cells (rowK .u8 p) 5)) W.heap.size 5 (rowK .u8 p) := HoldsRow.new _ _ _
  obtain ⟨t1, t2, ok', t3, t4⟩ := (JTo.start h2).below (below_alloc (Below.refl _ _) (.cells (rowK .u8 p) 5))
  obtain ⟨okd, okj, q1, q2, q3, q4, q5, q6⟩ := h2
  have hb : Below W.heap.size W (W.alloc (.cells (rowK .u8 p) 5)) := below_alloc (Below.refl _ _) _
  refine ⟨h1.trans (hb.mono q6), ok, ⟨okd, okj, Dk.DiskIs.below q1 hb, q2.below hb, fun k hk => ⟨(q3 k hk).1, Nat.lt_of_lt_of_le (q3 k hk).2 hb.size⟩, fun k hk => ⟨(q4 k hk).1, Nat.lt_of_lt_of_le (q4 k hk).2 hb.size⟩, q5, Nat.le_trans q6 hb.size⟩, fun k hk => Nat.lt_of_lt_of_le (h3 k hk) hb.size, fun W2 hk => ?_⟩
  have n1 : ¬ ok W.heap.size := fun q => Nat.lt_irrefl _ (h3 _ q)
  exact (Kd.R_reads' (HoldsRow.own (base := 0) (show HoldsRow W2 W.heap.size 5 (rowK .u8 p) from (hk.2 _ r1.lt n1).trans r1) (Nat.zero_le _) hp)).2.2
end Go.Proofs.Ythnjkmjcacoajaa.Jn
end

section
/- A journal beside a row of headers; a fall that keeps nothing. No condition beyond those of the calls. -/
namespace Go.Proofs.Ythnjkmjcacoajaa.Jn
open Go Go.RowKit Go.Proofs.YthnjkmjcacoajaaW.PrintWords Go.Proofs.YthnjkmjcacoajaaW.PrintLast Go.Proofs.YthnjkmjcacoajaaW.PrintMore Go.Proofs.Ythnjkmjcacoajaa.Base Go.Proofs.Ythnjkmjcacoajaa.Arr
open Go.Proofs.Ythnjkmjcacoajaa.Dk (DS DiskIs DiskTo writeF flushF doingF secOf newS goneS crashF)
open Go.Proofs.Ythnjkmjcacoajaa.FrameLink (pk joined joined_nil joined_cons joined_snoc pk_len)
set_option linter.unusedVariables false
set_option linter.unusedSimpArgs false

/-- a slice's header -/
abbrev Hdr := Option Addr × Nat × Nat
def hdr : Kd Hdr := Kd.scalar (fun x => .slice x.1 x.2.1 x.2.2) (fun _ => rfl)
/-- headers of rows that came in -/
def Heads (w : World) (hs : List Hdr) (l : List (List Int)) : Prop := hs.length = l.length ∧ ∀ (j : Nat) (x : Hdr) (p : List Int), hs[j]? = some x → l[j]? = some p → x.2.1 = p.length ∧ p.length ≤ x.2.2 ∧ Kd.C (Kd.int .u8) w x.1 p.length p
theorem Heads.nil (w : World) : Heads w [] [] := ⟨rfl, fun j x p h => by simp at h⟩
theorem C_kept {w W' : World} {A : Option Addr} {n : Nat} {p : List Int} (h : Kd.C (Kd.int .u8) w A n p) (hsz : w.heap.size ≤ W'.heap.size) (hb : ∀ k, k < w.heap.size → W'.heap[k]? = w.heap[k]?) : Kd.C (Kd.int .u8) W' A n p := by
  have h2 : Kd.C (Kd.int .u8) { w with heap := W'.heap } A n p := Kd.C_below h ⟨rfl, rfl, rfl, hsz, hb⟩
  exact h2
theorem Heads.snoc {w : World} {hs : List Hdr} {l : List (List Int)} {A : Option Addr} {c : Nat} {p : List Int} (h : Heads w hs l) (hc : p.length ≤ c) (hp : Kd.C (Kd.int .u8) w A p.length p) : Heads w (hs ++ [(A, p.length, c)]) (l ++ [p]) := by
  refine ⟨by rw [List.length_append, List.length_append, h.1]; rfl, fun j x q hx hq => ?_⟩
  by_cases hj : j < l.length
  · rw [List.getElem?_append_left (by rw [h.1]; exact hj)] at hx
    rw [List.getElem?_append_left hj] at hq
    exact h.2 j x q hx hq
  · rw [List.getElem?_append_right (by rw [h.1]; omega)] at hx
    rw [List.getElem?_append_right (by omega)] at hq
    rw [h.1] at hx
    obtain ⟨z, hz⟩ : ∃ z, z = j - l.length := ⟨_, rfl⟩
    rw [← hz] at hx hq
    cases z with
    | zero =>
      simp at hx hq
      subst hx hq
      exact ⟨rfl, hc, hp⟩
    | succ z => simp at hx
theorem Heads.rows {w W : World} {hs : List Hdr} {l : List (List Int)} {A : Option Addr} (h : Heads w hs l) (hsz : w.heap.size ≤ W.heap.size) (hb : ∀ k, k < w.heap.size → W.heap[k]? = w.heap[k]?) (hC : hdr.C W A hs.length hs) : (Kd.slice 5 (Kd.int .u8)).C W A l.length l := by
  obtain ⟨h1, h2, h3⟩ := hC
  have hlen : hs.length = l.length := h.1
  rw [hlen] at h2 h3
  refine ⟨rfl, h2, fun hn => ?_⟩
  obtain ⟨a, ha, hj⟩ := h3 hn
  refine ⟨a, ha, fun j p hp => ?_⟩
  have hjl := (List.getElem?_eq_some_iff.1 hp).1
  have hx := List.getElem?_eq_getElem (l := hs) (i := j) (hlen ▸ hjl)
  obtain ⟨e1, e2, e3⟩ := h.2 j _ p hx hp
  obtain ⟨cs, f1, f2, f3⟩ := hj j _ hx
  have f2' : cs = [.slice (hs[j]'(hlen ▸ hjl)).1 (hs[j]'(hlen ▸ hjl)).2.1 (hs[j]'(hlen ▸ hjl)).2.2] := f2
  refine ⟨cs, f1, ⟨_, _, by rw [f2', e1], e2, C_kept e3 hsz hb⟩, f3⟩
/-- a disk beside a row of headers -/
def LDV (w0 W : World) (g : Nat) (d : DS) (v : Value) (hs : List Hdr) : Prop := Below w0.heap.size w0 W ∧ ∃ ok : Nat → Prop, DiskIs W w0.heap.size ok g d ∧ (∀ k, ok k → k < W.heap.size) ∧ w0.heap.size ≤ W.heap.size ∧ hdr.R 31 W w0.heap.size (fun k => ¬ ok k) v hs
/-- a journal beside a row of headers -/
def LJV (w0 W : World) (g gj : Nat) (d : DS) (s : JS) (v : Value) (hs : List Hdr) : Prop := Below w0.heap.size w0 W ∧ ∃ ok : Nat → Prop, JD W w0.heap.size ok g gj d s ∧ (∀ k, ok k → k < W.heap.size) ∧ hdr.R 31 W w0.heap.size (fun k => ¬ ok k) v hs
theorem row_kept {W W' : World} {base : Nat} {ok ok' : Nat → Prop} {v : Value} {hs : List Hdr} (h : hdr.R 31 W base (fun k => ¬ ok k) v hs) (hk : Kept W W' ok) (hsub : ∀ k, ok' k → ok k ∨ W.heap.size ≤ k) : hdr.R 31 W' base (fun k => ¬ ok' k) v hs := by
  have h2 := Kd.R_bound h
  have h3 : hdr.R 31 W base (fun k => ¬ ok' k ∧ ¬ ok k ∧ k < W.heap.size) v hs := Kd.R_mono h2 (fun k hk => ⟨fun q => by
    rcases hsub k q with r | r
    · exact hk.1 r
    · have := hk.2.2.1
      omega, hk.1, hk.2.2.1⟩)
  exact Kd.R_mono (Kd.R_step h3 (fun k q hlt => hk.2 k hlt q.2.1)) (fun k q => q.1)
theorem LJV.start {w0 W : World} {g gj : Nat} {d : DS} {s : JS} (h : LJ w0 W g gj d s) : LJV w0 W g gj d s (.slice none 0 0) [] := by
  obtain ⟨h1, ok, h2, h3⟩ := h
  exact ⟨h1, ok, h2, h3, Kd.R_nil _ _ _ _ _⟩
theorem LJV.of {w0 W W' : World} {g gj : Nat} {d' : DS} {s' : JS} {v : Value} {hs : List Hdr} {ok : Nat → Prop} (hb : Below w0.heap.size w0 W) (hr : hdr.R 31 W w0.heap.size (fun k => ¬ ok k) v hs) (h : JTo W W' w0.heap.size ok g gj d' s') : LJV w0 W' g gj d' s' v hs := by
  obtain ⟨h1, h2, ok', h3, h4⟩ := h
  exact ⟨hb.trans h1, ok', h4, fun k hk => (h3 k hk).2, row_kept hr h2 (fun k hk => (h3 k hk).1)⟩
theorem LJV.below {w0 W W' : World} {g gj : Nat} {d : DS} {s : JS} {v : Value} {hs : List Hdr} (h : LJV w0 W g gj d s v hs) (hb : Below W.heap.size W W') : LJV w0 W' g gj d s v hs := by
  obtain ⟨h1, ok, h2, h3, h4⟩ := h
  exact LJV.of h1 h4 ((JTo.start h2).below hb)
theorem LJV.b {w0 W : World} {g gj : Nat} {d : DS} {s : JS} {v : Value} {hs : List Hdr} (h : LJV w0 W g gj d s v hs) : Below w0.heap.size w0 W := h.1
theorem LJV.slice {w0 W : World} {g gj : Nat} {d : DS} {s : JS} {v : Value} {hs : List Hdr} (h : LJV w0 W g gj d s v hs) : ∃ A c, v = .slice A hs.length c := by
  obtain ⟨_, ok, _, _, h4⟩ := h
  exact Kd.R_slice h4
theorem LJV.disk {w0 W : World} {g gj : Nat} {d : DS} {s : JS} {v : Value} {hs : List Hdr} (h : LJV w0 W g gj d s v hs) : LDV w0 W g d v hs := by
  obtain ⟨hb, ok, ⟨okd, okj, h1, _, h2, _, _, h3⟩, _, h4⟩ := h
  exact ⟨hb, okd, h1, fun k hk => (h2 k hk).2, h3, Kd.R_mono h4 (fun k hk q => hk (h2 k q).1)⟩
/-- the row grows beside the journal -/
theorem LJV.grown {w0 W W' : World} {g gj : Nat} {d : DS} {s : JS} {v v' : Value} {hs hs' : List Hdr} (h : LJV w0 W g gj d s v hs) (hg : W.grownBy W' v.ownBlock) (hb : Below w0.heap.size w0 W') (hsz : W.heap.size ≤ W'.heap.size)
    (hr : hdr.R 31 W' w0.heap.size (fun k => v.ownBlock = some k ∨ W.heap.size ≤ k) v' hs') : LJV w0 W' g gj d s v' hs' := by
  obtain ⟨h1, ok, h2, h3, h4⟩ := h
  obtain ⟨okd, okj, q1, q2, q3, q4, q5, q6⟩ := h2
  have hmv : ∀ k, ok k → k < W.heap.size → W'.heap[k]? = W.heap[k]? := fun k hk hlt => hg.block k hlt (fun e => h4.1 k e.symm hk)
  refine ⟨hb, ok, ⟨okd, okj, q1.move (fun k hk => hmv k (q3 k hk).1), q2.move (fun k hk => hmv k (q4 k hk).1), fun k hk => ⟨(q3 k hk).1, Nat.lt_of_lt_of_le (q3 k hk).2 hsz⟩, fun k hk => ⟨(q4 k hk).1, Nat.lt_of_lt_of_le (q4 k hk).2 hsz⟩, q5, Nat.le_trans q6 hsz⟩, fun k hk => Nat.lt_of_lt_of_le (h3 k hk) hsz, ?_⟩
  refine Kd.R_mono hr (fun k hk q => ?_)
  rcases hk with hk | hk
  · exact h4.1 k hk q
  · have := h3 k q
    omega
theorem LDV.to_ {w0 W W' : World} {g : Nat} {d' : DS} {v : Value} {hs : List Hdr} {ok : Nat → Prop} (hb : Below w0.heap.size w0 W) (hle : w0.heap.size ≤ W.heap.size) (hr : hdr.R 31 W w0.heap.size (fun k => ¬ ok k) v hs) (h : DiskTo W W' w0.heap.size ok g d') : LDV w0 W' g d' v hs := by
  obtain ⟨h1, h2, ok', h3, h4⟩ := h
  exact ⟨hb.trans h1, ok', h4, fun k hk => (h3 k hk).2, Nat.le_trans hle h2.1, row_kept hr h2 (fun k hk => (h3 k hk).1)⟩
theorem LDV.below {w0 W W' : World} {g : Nat} {d : DS} {v : Value} {hs : List Hdr} (h : LDV w0 W g d v hs) (hb : Below W.heap.size W W') : LDV w0 W' g d v hs := by
  obtain ⟨h1, ok, h2, h3, h4, h5⟩ := h
  exact ⟨h1.trans (hb.mono h4), ok, Dk.DiskIs.below h2 hb, fun k hk => Nat.lt_of_lt_of_le (h3 k hk) hb.size, Nat.le_trans h4 hb.size, Kd.R_below h5 hb⟩
theorem LDV.rows {w0 W : World} {g : Nat} {d : DS} {A : Option Addr} {n c : Nat} {hs : List Hdr} {l : List (List Int)} (h : LDV w0 W g d (.slice A n c) hs) (hp : d.plan = none) (hh : Heads w0 hs l) : RowsOut w0 W g d A l := by
  obtain ⟨h1, ok, h2, h3, h4, h5⟩ := h
  obtain ⟨gs, m, vw, pp, q1, q2, q3, q4, q5, ⟨o1, o2, o3⟩, ⟨b1, b2, b3⟩, hG⟩ := h2
  have q5' : Dk.PlanIs W w0.heap.size (fun k => ok k ∧ w0.heap.size ≤ k) pp d.plan := by
    rw [hp] at q5 ⊢
    exact q5
  refine ⟨h1, fun k => ok k ∧ w0.heap.size ≤ k, ⟨gs, m, vw, pp, q1, q2, q3, Kd.R_mono (Kd.R_bound q4) (fun k hk => ⟨hk.1, hk.2.1⟩), q5', ⟨⟨o1, b1⟩, ⟨o2, b2⟩, ⟨o3, b3⟩⟩, ⟨b1, b2, b3⟩, hG⟩, fun k hk => h3 k hk.1, h4, fun W' hk => ?_⟩
  have h6 := row_kept (ok' := fun k => ok k ∧ w0.heap.size ≤ k) (Kd.R_mono h5 (fun k hk (q : ok k ∧ w0.heap.size ≤ k) => hk q.1)) hk (fun k hk => .inl hk)
  exact hh.rows (Nat.le_trans h4 hk.1) (fun k hlt => (hk.2 k (Nat.lt_of_lt_of_le hlt h4) (fun q => by have := q.2; omega)).trans (h1.block k hlt)) (Kd.R_reads' h6).2.2
theorem hdr_own {W : World} {base : Nat} {ok : Nat → Prop} {v : Value} {hs : List Hdr} (h : hdr.R 31 W base ok v hs) (N : Nat) : hdr.R 31 W base (fun k => v.ownBlock = some k ∨ N ≤ k) v hs := ⟨fun k hk => .inl hk, h.2⟩
theorem LJV.row {w0 W : World} {g gj : Nat} {d : DS} {s : JS} {v : Value} {hs : List Hdr} (h : LJV w0 W g gj d s v hs) : hdr.R 31 W w0.heap.size (fun k => v.ownBlock = some k ∨ W.heap.size ≤ k) v hs := by
  obtain ⟨_, ok, _, _, h4⟩ := h
  exact hdr_own h4 _
/-- the journal of the law: i payloads appended, m of them synced -/
structure Lose (P : List (List Int)) (d : DS) (s : JS) (i m : Nat) : Prop where
  inv : JInv d s (P.take i) m
  plan : d.plan = none
  dn : d.n = 200
  ep : s.epoch = 1
  gn : s.gen = 1
  u0 : m = 0 → s.used = 0
  much : 47 * s.used + (s.waits.length : Int) ≤ 73 * (i : Int) + (if m = 0 then 0 else 47)
def Short60 (P : List (List Int)) : Prop := ∀ p ∈ P, Ext.Bytes p ∧ p.length ≤ 60
theorem Lose.append {P : List (List Int)} {d : DS} {s : JS} {i m : Nat} {p : List Int} (h : Lose P d s i m) (hi : P[i]? = some p) (h20 : i < 20) (hp : Short60 P) : ∃ s', appendF d.n s p = (0, s') ∧ Lose P d s' (i + 1) m := by
  have hpm := List.mem_of_getElem? hi
  have hl := pk_le p (by have := (hp p hpm).2; omega)
  have h2 := (hp p hpm).2
  have hm := h.much
  have hu := h.inv.us
  have hse : secN d.n = 99 := by rw [h.dn]; decide
  have hil := (List.getElem?_eq_some_iff.1 hi).1
  obtain ⟨a1, a2⟩ := (append_inv h.inv (hp p hpm).1 (by omega)).1 (by
    rw [hse]
    unfold cntN
    split at hm <;> omega)
  refine ⟨_, a1, ⟨?_, h.plan, h.dn, h.ep, h.gn, h.u0, ?_⟩⟩
  · have e : P.take (i + 1) = P.take i ++ [p] := by rw [List.take_add_one, hi]; rfl
    rw [e]
    exact a2
  · show 47 * s.used + ((s.waits ++ pk p).length : Int) ≤ 73 * ((i + 1 : Nat) : Int) + _
    rw [List.length_append]
    omega
theorem Lose.sync {P : List (List Int)} {d : DS} {s : JS} {i : Nat} (h : Lose P d s i 0) (hi : i ≤ P.length) : ∃ d' s', syncF d s = (0, d', s') ∧ Lose P d' s' i i := by
  obtain ⟨e1, e2⟩ := sync_fine h.inv h.plan
  obtain ⟨f1, f2, f3, f4⟩ := sync_inv h.inv e1
  obtain ⟨u1, u2⟩ := sync_used d s h.inv.br e1
  have hu0 := h.u0 rfl
  have hw := h.inv.wt
  generalize syncF d s = q at *
  obtain ⟨q0, d2, s3⟩ := q
  simp only at e1 e2 f1 f2 f3 f4 u1 u2
  subst e1
  have hlen : (P.take i).length = i := by rw [List.length_take]; omega
  rw [hlen] at f1
  refine ⟨d2, s3, rfl, ⟨f1, e2, f2.trans h.dn, f3.trans h.ep, f4.trans h.gn, fun hz => ?_, ?_⟩⟩
  · subst hz
    rw [u1, hu0]
    rw [List.take_zero] at hw
    have : s.waits = [] := hw
    rw [this]
    decide
  · have hm := h.much
    rw [u1, u2, hu0]
    rw [hu0] at hm
    simp only [List.length_nil]
    rw [if_pos rfl] at hm
    by_cases hz : i = 0
    · subst hz
      rw [List.take_zero] at hw
      have : s.waits = [] := hw
      rw [this]
      decide
    · rw [if_neg hz]
      unfold cntN
      omega
theorem Lose.fall {P : List (List Int)} {d : DS} {s : JS} {i m : Nat} (h : Lose P d s i m) : crashF d 0 0 = (0, { d with dead := true }) := by
  have hc := h.inv.calm
  unfold crashF goneS
  rw [if_neg (by rw [hc.dead]; decide), hc.waits]
  have e : Dk.keptTo d 0 0 ([] : List (Int × List Int)).length = [] := rfl
  rw [e]
  have e2 : Dk.lay d.stays [] = d.stays := rfl
  rw [e2]
  have hp := h.plan
  have hw := hc.waits
  cases d
  simp only at hp hw
  subst hp hw
  rfl
theorem Lose.again {P : List (List Int)} {d : DS} {s : JS} {i m : Nat} (h : Lose P d s i m) (hm : m ≤ i) : ∃ s', openF d = (0, d, some (s', P.take m)) ∧ Pay (P.take m) := by
  obtain ⟨s', a1, a2, _⟩ := again_open h.inv (by rw [h.ep]; decide)
  rw [List.take_take, Nat.min_eq_left hm] at a1 a2
  exact ⟨s', a1, a2.pay⟩
end Go.Proofs.Ythnjkmjcacoajaa.Jn
end
