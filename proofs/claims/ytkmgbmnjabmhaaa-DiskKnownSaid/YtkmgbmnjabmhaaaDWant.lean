/- An array of eight rows of a law's own, beside its disk; writes of a number. No condition. -/
import Derived.Test.YtkmgbmnjabmhaaaDPlain
namespace Go.Proofs.Ytkmgbmnjabmhaaa.Ext
open Go Go.RowKit Go.Proofs.YtkmgbmnjabmhaaaW.PrintWords Go.Proofs.YtkmgbmnjabmhaaaW.PrintLast Go.Proofs.YtkmgbmnjabmhaaaW.PrintMore Go.Proofs.Ytkmgbmnjabmhaaa.Base Go.Proofs.Ytkmgbmnjabmhaaa.Arr
set_option linter.unusedVariables false
set_option linter.unusedSimpArgs false

/-- block b is an array of eight slices, whose rows are xs; none of them is the disk's -/
def Wants (H : Nat) (W : World) (ok : Nat → Prop) (b : Nat) (vs : List Value) (xs : List (List Int)) : Prop :=
  HoldsRow W b 27 vs.toArray ∧ vs.length = 8 ∧ xs.length = 8 ∧ ¬ ok b ∧ H ≤ b ∧ ∀ i, i < 8 → ∃ A c, vs[i]? = some (.slice A (xs.getD i []).length c) ∧ Kd.R (Kd.int .u8) 5 W H (fun k => ¬ ok k) (.slice A (xs.getD i []).length c) (xs.getD i [])
variable {H : Nat} {W W1 : World} {ok ok' : Nat → Prop} {b : Nat} {vs : List Value} {xs : List (List Int)}
theorem Wants.below (h : Wants H W ok b vs xs) (hb : Below W.heap.size W W1) : Wants H W1 ok b vs xs := by
  obtain ⟨h1, h2, h3, h4, h5, h6⟩ := h
  refine ⟨h1.below hb h1.lt, h2, h3, h4, h5, fun i hi => ?_⟩
  obtain ⟨A, c, e, hr⟩ := h6 i hi
  exact ⟨A, c, e, Kd.R_below hr hb⟩
theorem Wants.moves (h : Wants H W ok b vs xs) (hm : Moves H W W1 ok ok') : Wants H W1 ok' b vs xs := by
  obtain ⟨h1, h2, h3, h4, h5, h6⟩ := h
  refine ⟨hr_move h1 (hm.2.1.2 b h1.lt h4), h2, h3, fun q => ?_, h5, fun i hi => ?_⟩
  · rcases (hm.2.2 b q).1 with q1 | q1
    · exact h4 q1
    · have := h1.lt; omega
  · obtain ⟨A, c, e, hr⟩ := h6 i hi
    exact ⟨A, c, e, row_moves hr hm⟩
/-- a row is set -/
theorem Wants.set {a : Nat} (h : Wants H W ok b vs xs) (ha : a < 8) {A : Option Addr} {n c : Nat} {x : List Int} (hn : x.length = n) (hr : Kd.R (Kd.int .u8) 5 W H (fun k => ¬ ok k) (.slice A n c) x) :
    Wants H (W.setCell ⟨b, a, none⟩ (.slice A n c)) ok b (vs.set a (.slice A n c)) (xs.set a x) := by
  obtain ⟨h1, h2, h3, h4, h5, h6⟩ := h
  have hmv : ∀ {A' : Option Addr} {n' c' : Nat} {y : List Int}, Kd.R (Kd.int .u8) 5 W H (fun k => ¬ ok k) (.slice A' n' c') y → Kd.R (Kd.int .u8) 5 (W.setCell ⟨b, a, none⟩ (.slice A n c)) H (fun k => ¬ ok k) (.slice A' n' c') y := fun hr => by
    refine Kd.R_mono (Kd.R_move (Kd.R_bound hr) (fun k hk => Below.heap_setCell W ⟨b, a, none⟩ _ k (fun e => ?_))) (fun k hk => hk.1)
    obtain ⟨_, _, _, q, hq, cells, hc⟩ := hk
    subst e
    have := h1.symm.trans hc
    injection this with e1
    injection e1 with _ e2
    have hq' : q = 5 := by simpa [Kd.int, Kd.scalar] using hq
    rw [hq'] at e2
    exact absurd e2 (by decide)
  refine ⟨by have := h1.set a (.slice A n c); simpa using this, by simpa using h2, by simpa using h3, h4, h5, fun i hi => ?_⟩
  by_cases e : i = a
  · subst e
    refine ⟨A, c, ?_, ?_⟩
    · rw [List.getElem?_set_self (by omega), List.getD_eq_getElem?_getD, List.getElem?_set_self (by omega)]
      simp [hn]
    · have : (xs.set i x).getD i [] = x := by rw [List.getD_eq_getElem?_getD, List.getElem?_set_self (by omega)]; rfl
      rw [this, hn]
      exact hmv hr
  · obtain ⟨A', c', e', hr'⟩ := h6 i hi
    have : (xs.set a x).getD i [] = xs.getD i [] := by rw [List.getD_eq_getElem?_getD, List.getElem?_set_ne (fun q => e q.symm), List.getD_eq_getElem?_getD]
    rw [this]
    exact ⟨A', c', by rw [List.getElem?_set_ne (fun q => e q.symm)]; exact e', hmv hr'⟩
theorem Wants.cell {a : Nat} (h : Wants H W ok b vs xs) (ha : a < 8) : ∃ A c, W.cell? ⟨b, a, none⟩ = some (.slice A (xs.getD a []).length c) ∧ Kd.R (Kd.int .u8) 5 W H (fun k => ¬ ok k) (.slice A (xs.getD a []).length c) (xs.getD a []) := by
  obtain ⟨h1, h2, h3, h4, h5, h6⟩ := h
  obtain ⟨A, c, e, hr⟩ := h6 a ha
  exact ⟨A, c, h1.cell (by simpa using e), hr⟩
def nil8 : List Value := List.replicate 8 (Value.slice none 0 0)
theorem set_row_all {W : World} {b : Nat} {t : TypeId} {cs cs' : Array Value} (h : HoldsRow W b t cs) (hl : cs'.size = cs.size) : HoldsRow (W.setCells b 0 cs'.toList) b t cs' := by
  obtain ⟨cur, h1, h2, h3⟩ := setCells_row cs'.toList 0 W cs h (by simp; omega)
  have : cur = cs' := by
    apply Array.toList_inj.1
    rw [h3]
    simp [hl]
  rw [← this]
  rw [← this] at h1
  exact h1
theorem Wants.dl {g : Nat} {s : DS} (h : Wants H W ok b vs xs) (hd : DL H W ok g s) (a : Nat) (u : Value) : DL H (W.setCell ⟨b, a, none⟩ u) ok g s :=
  ⟨hd.1.move (fun k hk _ => Below.heap_setCell W ⟨b, a, none⟩ _ k (fun e => h.2.2.2.1 (by rw [e] at hk; exact hk))), fun k hk => by have := hd.2.1 k hk; simpa [World.setCell] using this, by have := hd.2.2; simpa [World.setCell] using this⟩
theorem Wants.row {b' : Nat} {t : TypeId} {cs : Array Value} (h : Wants H W ok b vs xs) (hr : HoldsRow W b' t cs) (ht : t ≠ 27) (a : Nat) (u : Value) : HoldsRow (W.setCell ⟨b, a, none⟩ u) b' t cs := hr.set_other _ _ (ne_kind hr h.1 ht)
theorem Wants.bel {w : World} (h : Wants H W ok b vs xs) (hb : Below H w W) (a : Nat) (u : Value) : Below H w (W.setCell ⟨b, a, none⟩ u) := hb.setCell (show H ≤ (⟨b, a, none⟩ : Addr).block from h.2.2.2.2.1) u
/-- where one other block is turned -/
theorem Wants.far' {b' : Nat} {t : TypeId} {cs : Array Value} (h : Wants H W ok b vs xs) (hr : HoldsRow W b' t cs) (h1 : b ≠ b') (h2 : t ≠ 5) (hm : ∀ k, k ≠ b' → W1.heap[k]? = W.heap[k]?) : Wants H W1 ok b vs xs := by
  obtain ⟨g1, g2, g3, g4, g5, g6⟩ := h
  refine ⟨hr_move g1 (hm b h1), g2, g3, g4, g5, fun i hi => ?_⟩
  obtain ⟨A, c, e, hx⟩ := g6 i hi
  refine ⟨A, c, e, Kd.R_mono (Kd.R_move (Kd.R_bound hx) (fun k hk => hm k (fun e => ?_))) (fun k hk => hk.1)⟩
  obtain ⟨_, _, _, q, hq, cells, hc⟩ := hk
  have hq' : q = 5 := by simpa [Kd.int, Kd.scalar] using hq
  subst e
  have := hr.symm.trans hc
  injection this with e1
  injection e1 with _ e2
  rw [hq'] at e2
  exact h2 e2
theorem Wants.one (h : Wants H W ok b vs xs) : vs.toArray.all (·.oneCell') = true := by
  rw [Array.all_eq_true_iff_forall_mem]
  intro x hx
  have hx : x ∈ vs := by simpa using hx
  obtain ⟨i, hi, rfl⟩ := List.getElem_of_mem hx
  obtain ⟨A, c, e, -⟩ := h.2.2.2.2.2 i (by have := h.2.1; omega)
  rw [List.getElem?_eq_getElem hi] at e
  rw [Option.some.inj e]
  rfl
/-- one array is put over another -/
theorem Wants.copy {b7 : Nat} {vs7 : List Value} {xs7 : List (List Int)} (h7 : Wants H W ok b7 vs7 xs7) (h8 : Wants H W ok b vs xs) (hne : b ≠ b7) : Wants H (W.setRow b7 vs.toArray) ok b7 vs xs ∧ Wants H (W.setRow b7 vs.toArray) ok b vs xs := by
  have h8' : Wants H (W.setRow b7 vs.toArray) ok b vs xs := h8.far' h7.1 hne (by decide) (fun k hk => setRow_other _ _ _ _ hk)
  exact ⟨⟨h7.1.row _, h8.2.1, h8.2.2.1, h7.2.2.2.1, h7.2.2.2.2.1, h8'.2.2.2.2.2⟩, h8'⟩
theorem Wants.far {b' : Nat} {t : TypeId} {cs : Array Value} (h : Wants H W ok b vs xs) (hr : HoldsRow W b' t cs) (h1 : t ≠ 27) (h2 : t ≠ 5) (hm : ∀ k, k ≠ b' → W1.heap[k]? = W.heap[k]?) : Wants H W1 ok b vs xs := by
  obtain ⟨g1, g2, g3, g4, g5, g6⟩ := h
  refine ⟨hr_move g1 (hm b (ne_kind g1 hr (fun e => h1 e.symm))), g2, g3, g4, g5, fun i hi => ?_⟩
  obtain ⟨A, c, e, hx⟩ := g6 i hi
  refine ⟨A, c, e, Kd.R_mono (Kd.R_move (Kd.R_bound hx) (fun k hk => hm k (fun e => ?_))) (fun k hk => hk.1)⟩
  obtain ⟨_, _, _, q, hq, cells, hc⟩ := hk
  have hq' : q = 5 := by simpa [Kd.int, Kd.scalar] using hq
  subst e
  have := hr.symm.trans hc
  injection this with e1
  injection e1 with _ e2
  rw [hq'] at e2
  exact h2 e2
theorem zero_wr (W : World) : (zeroValue 31).run Try.prog W = .ok (.agg #[.int .i64 0, .int .i64 0]) W := by kernel_rfl
theorem zero_rows (W : World) : (zeroValue 27).run Try.prog W = .ok (.agg nil8.toArray) W := by kernel_rfl
/-- a new array -/
theorem Wants.new (W : World) (hH : H ≤ W.heap.size) (hok : ∀ k, ok k → k < W.heap.size) : Wants H (W.alloc (.cells nil8.toArray 27)) ok W.heap.size nil8 (List.replicate 8 []) := by
  refine ⟨HoldsRow.new W _ _, by simp [nil8], by simp, fun q => by have := hok _ q; omega, hH, fun i hi => ⟨none, 0, ?_, ?_⟩⟩
  · have : (List.replicate 8 ([] : List Int)).getD i [] = [] := by rw [List.getD_eq_getElem?_getD, List.getElem?_replicate, if_pos hi]; rfl
    unfold nil8
    rw [this, List.getElem?_replicate, if_pos hi]
    rfl
  · have : (List.replicate 8 ([] : List Int)).getD i [] = [] := by rw [List.getD_eq_getElem?_getD, List.getElem?_replicate, if_pos hi]; rfl
    rw [this]
    exact Kd.R_nil _ _ _ _ _
theorem make64 (W : World) : (Instr.makeSlice 26 (.int .i64 64) (.int .i64 64)).run Try.prog W = .ok (.slice (some ⟨W.heap.size, 0, none⟩) 64 64) (W.alloc (.cells (rowK .u8 z64) 5)) := by
  obtain ⟨i0, hi, hzz⟩ := Option.map_eq_some_iff.1 info5
  simp only [Prod.mk.injEq] at hzz
  obtain ⟨hz0, hz1, hz2⟩ := hzz
  have hr := run_make (P := Try.prog) W 26 5 i0 _ Try.underlying26 hi hz0 .i64 .i64 64 64 (by omega) (by omega) (by rw [hz2]; decide) (by omega)
  rw [hr, hz1]
  show Result.ok _ (W.alloc (.cells (madeCells #[Value.int .u8 0] 64) _)) = _
  rw [rowK_made]
  rfl
/-- a write of a number: the sector modulo eight, of the rest -/
def wrI (x : Int) : Int × List Int := (x % 8, secI (x.tdiv 8))
theorem wrI_fits (l : List Int) : Fits 8 (l.map wrI) := fun p hp => by
  obtain ⟨x, _, rfl⟩ := List.mem_map.1 hp
  exact ⟨by show (0 : Int) ≤ x % 8; omega, by show x % 8 < ((8 : Nat) : Int); omega, secI_len _⟩
theorem take_rd {l : List Int} {j : Nat} (hj : j < l.length) : l.take (j + 1) = l.take j ++ [rd l j] := by
  rw [List.take_succ_eq_append_getElem hj]
  congr 2
  unfold rd
  rw [Int.toNat_natCast, List.getD_eq_getElem?_getD, List.getElem?_eq_getElem hj]
  rfl
/-- what each of eight sectors has -/
def eight (f : List Int) (l : List (Int × List Int)) : List (List Int) := (List.range 8).map (fun i => curS f l i)
theorem eight_getD (f : List Int) (l : List (Int × List Int)) {i : Nat} (hi : i < 8) : (eight f l).getD i [] = curS f l i := by
  unfold eight
  rw [List.getD_eq_getElem?_getD, List.getElem?_map, List.getElem?_range hi]
  rfl
theorem eight_snoc (f : List Int) (l : List (Int × List Int)) (a : Nat) (ha : a < 8) (s : List Int) : eight f (l ++ [((a : Int), s)]) = (eight f l).set a s := by
  apply List.ext_getElem?
  intro i
  unfold eight
  by_cases hi : i < 8
  · rw [List.getElem?_map, List.getElem?_range hi]
    by_cases e : i = a
    · subst e
      rw [List.getElem?_set_self (by simp; omega)]
      show some (curS f (l ++ [((i : Int), s)]) i) = _
      rw [curS_snoc, if_pos rfl]
    · rw [List.getElem?_set_ne (fun q => e q.symm), List.getElem?_map, List.getElem?_range hi]
      show some (curS f (l ++ [((a : Int), s)]) i) = some (curS f l i)
      rw [curS_snoc, if_neg (by show ¬ ((a : Int) = (i : Int)); omega)]
  · rw [List.getElem?_eq_none (by simp; omega), List.getElem?_eq_none (by simp; omega)]
theorem kept_at {s : DS} (bits cut : Int) : ∀ k, ∀ p ∈ keptTo s bits cut k, ∃ q ∈ s.waits, q.1 = p.1
  | 0 => fun p hp => by simp [keptTo] at hp
  | k + 1 => fun p hp => by
    have ih := kept_at (s := s) bits cut k
    cases h : s.waits[k]? with
    | none => rw [keptTo, h] at hp; exact ih p hp
    | some q =>
      rw [keptTo, h] at hp
      have hp : p ∈ (if offB bits k = true then keptTo s bits cut k else keptTo s bits cut k ++ [(q.1, if k + 1 = s.waits.length then tornS s.stays (keptTo s bits cut k) q.1.toNat q.2 (cutN cut) else q.2)]) := hp
      split at hp
      · exact ih p hp
      · rcases List.mem_append.1 hp with hp | hp
        · exact ih p hp
        · rw [List.mem_singleton.1 hp]
          exact ⟨q, List.mem_of_getElem? h, rfl⟩
theorem curS_far {f : List Int} {l : List (Int × List Int)} {i : Nat} (h : ∀ p ∈ l, p.1 ≠ (i : Int)) : curS f l i = secOf f i := by
  unfold curS lastW
  have : ∀ (l : List (Int × List Int)) (a : Option (List Int)), (∀ p ∈ l, p.1 ≠ (i : Int)) → l.foldl (fun a p => if p.1 = (i : Int) then some p.2 else a) a = a := by
    intro l
    induction l with
    | nil => intro a _; rfl
    | cons p l ih =>
      intro a h
      rw [List.foldl_cons, if_neg (h p (by simp)), ih a (fun q hq => h q (by simp [hq]))]
  rw [this l none h]
  rfl
end Go.Proofs.Ytkmgbmnjabmhaaa.Ext
