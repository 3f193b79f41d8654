/- Arrays in the middle of a block: an operation's load and store; rows of bytes cut. No condition. (Out of tpl3's XMid.) -/
import Derived.Great.BuildSlice
import Derived.WalkSpells
import Derived.Deep.MidRow
import Derived.Laws.CopyOwn
import Derived.Test.YtfkndnocjelhgaaArr
import Derived.Test.YtfkndnocjelhgaaBase
namespace Go.Proofs.Ytfkndnocjelhgaa.Ext
open Go Go.RowKit Go.Proofs.YtfkndnocjelhgaaW.PrintWords Go.Proofs.YtfkndnocjelhgaaW.PrintLast Go.Proofs.YtfkndnocjelhgaaW.PrintMore Go.Proofs.Ytfkndnocjelhgaa.Base Go.Proofs.Ytfkndnocjelhgaa.Arr
set_option linter.unusedVariables false
set_option linter.unusedSimpArgs false

theorem exec_load_mid {P : Program} {o : Oper} {a : Act} {w : World} (ty : TypeId) (x : Operand) (ho : o.op = .load ty x) (b q : Nat) (hx : a.eval x = .pointer (some ⟨b, q, none⟩)) (cs : List Value) (d : TypeDesc) (hc : w.rangeAt b q cs)
    (hu : P.underlying ty = some d) (hd : d.isRow = true) (hi : (P.info? ty).map (·.size) = some cs.length) : (execOp a.eval o).run P w = .ok (.value (.agg cs.toArray)) w := by
  unfold execOp
  simp only [ho, hx, Instr.loadAt, Instr.sureAddr, Sem.run_bind, Sem.run_pure, Result.andThen_ok, run_loadVar_mid w b q ty cs d hc hu hd hi]
theorem exec_store_mid {P : Program} {o : Oper} {a : Act} {w : World} (ty : TypeId) (x y : Operand) (ho : o.op = .store ty x y) (b q : Nat) (cells : Array Value) (hx : a.eval x = .pointer (some ⟨b, q, none⟩)) (hy : a.eval y = .agg cells)
    (ht : w.there b q cells.size) (hi : (P.info? ty).map (·.size) = some cells.size) (h1 : cells.all (·.oneCell') = true) : (execOp a.eval o).run P w = .ok .skip (w.setCells b q cells.toList) := by
  unfold execOp
  simp only [ho, hx, hy, Instr.storeAt, Instr.sureAddr, Sem.run_bind, Sem.run_pure, Result.andThen_ok, run_storeVar_mid w b q ty cells ht hi h1]
theorem cell_alloc_old {W : World} {a : Addr} {v : Value} (o : Obj) (h : W.cell? a = some v) : (W.alloc o).cell? a = some v := pw_cell_below (below_alloc (Below.refl _ W) o) h
theorem exec_alloc {P : Program} {o : Oper} {a : Act} {w : World} (ty : TypeId) (ho : o.op = .alloc ty) (cs : Array Value) (hz : ∀ W, (zeroValue ty).run P W = .ok (.agg cs) W) :
    (execOp a.eval o).run P w = .ok (.value (.pointer (some ⟨w.heap.size, 0, none⟩))) (w.alloc (.cells cs ty)) := by
  unfold execOp
  simp only [ho]
  unfold Instr.alloc
  simp [hz, go_sem, Result.andThen]
theorem run_one_slice {P : Program} (w : World) (t e : TypeId) (n : Nat) (cs : Array Value) (hu : P.underlying t = some (.slice e)) (hinfo : (P.info? e).map (fun i => (i.zero.isSome, i.size)) = some (true, n)) (hn : 0 < n) (hs : n ≤ 16777216) (hcs : cs.size = n) :
    (Instr.buildSlice t 1 #[(0, .agg cs)]).run P w = .ok (.slice (some ⟨w.heap.size, 0, none⟩) 1 1) (w.alloc (.cells cs e)) := by
  obtain ⟨ie, hie, hz⟩ := Option.map_eq_some_iff.1 hinfo
  obtain ⟨hz1, hz2⟩ := Prod.mk.inj hz
  obtain ⟨z, hzz⟩ := Option.isSome_iff_exists.1 hz1
  refine run_buildSlice w t e 1 _ cs ie z hu hie hzz (by rw [hz2]; omega) (by rw [hz2]; omega) ?_
  have := Great.fill_whole (s := n) hn [.agg cs] ((Array.range (1 * n)).map (z.cells[· % z.cells.size]!)) (fun v hv => by rw [List.mem_singleton.1 hv]; exact hcs) (by simp)
  rw [hz2]
  have e2 : (Value.agg cs).cells = cs := rfl
  simpa [e2] using this
theorem wpList_one_slice {P : Program} {ops : Array Oper} {rest : List Oper} {o : Oper} {a : Act} {w : World} {Q : Exit → Act → World → Prop} (hgd : o.guard = none) (t e : TypeId) (x : Operand) (ho : o.op = .buildSlice t 1 #[(0, x)]) (n : Nat) (cs : Array Value) (hx : a.eval x = .agg cs)
    (hu : P.underlying t = some (.slice e)) (hinfo : (P.info? e).map (fun i => (i.zero.isSome, i.size)) = some (true, n)) (hn : 0 < n) (hs : n ≤ 16777216) (hcs : cs.size = n)
    (h : wpList P ops Q rest (a.put o.dst (.slice (some ⟨w.heap.size, 0, none⟩) 1 1)) (w.alloc (.cells cs e))) : wpList P ops Q (o :: rest) a w := by
  refine wpList_plain hgd fun _ hK => ?_
  unfold Oper.wp execOp
  simp only [ho, Sem.run_bind, List.map_toArray, List.map_cons, List.map_nil, hx, run_one_slice w t e n cs hu hinfo hn hs hcs, Result.andThen_ok]
  exact hK _ _ h
theorem fill_part {place : Nat → Option (Nat × Nat)} {cells : Array Value} {i : Nat} {v : Value} {rest : List (Nat × Value)} {off size : Nat} (hp : place i = some (off, size)) (hs : v.cells.size = size) (hfit : off + size ≤ cells.size) :
    ∃ cells', Instr.fill place cells ((i, v) :: rest) = Instr.fill place cells' rest ∧ cells'.size = cells.size ∧ ∀ k, cells'[k]? = if off ≤ k ∧ k < off + size then v.cells[k - off]? else cells[k]? := by
  refine ⟨v.cells.zipIdx.foldl (fun cs (c, j) => cs.setIfInBounds (off + j) c) cells, ?_, ?_, ?_⟩
  · rw [Instr.fill, hp]
    simp [hs, show ¬ cells.size < off + size by omega]
  all_goals
    have h := Great.foldl_set off v.cells.toList 0 cells
    have e : v.cells.zipIdx.foldl (fun cs (x : Value × Nat) => cs.setIfInBounds (off + x.2) x.1) cells = (v.cells.toList.zipIdx 0).foldl (fun cs (x : Value × Nat) => cs.setIfInBounds (off + x.2) x.1) cells := by
      rw [← Array.foldl_toList, Array.toList_zipIdx]
  · exact (congrArg Array.size e).trans h.1
  · intro k
    refine (congrArg (·[k]?) e).trans ?_
    rw [h.2 k]
    simp only [Nat.add_zero, Array.length_toList, hs, Array.getElem?_toList]
    by_cases hk : off ≤ k ∧ k < off + size
    · rw [if_pos hk, if_pos ⟨hk.1, hk.2, by omega⟩]
    · rw [if_neg hk, if_neg (fun q => hk ⟨q.1, q.2.1⟩)]
/-- a load of a whole array at any address -/
theorem wpList_load_at {P : Program} {w : World} {ops : Array Oper} {rest : List Oper} {o : Oper} {a : Act} {Q : Exit → Act → World → Prop} (hgd : o.guard = none) (ty : TypeId) (x : Operand) (ho : o.op = .load ty x) (ad : Addr) (hx : a.eval x = .pointer (some ad)) (cs : List Value) (d : TypeDesc)
    (hc : ∀ j v, cs[j]? = some v → w.cell? (ad.add j) = some v) (hu : P.underlying ty = some d) (hd : d.isRow = true) (hi : (P.info? ty).map (·.size) = some cs.length)
    (h : wpList P ops Q rest (a.put o.dst (.agg cs.toArray)) w) : wpList P ops Q (o :: rest) a w := by
  have hl : (loadCells ad cs.length).run P w = .ok cs.toArray w := run_loadCells_list (P := P) w ad cs hc
  refine wpList_plain hgd fun _ hK => ?_
  obtain ⟨i, hq, hs⟩ := Option.map_eq_some_iff.1 hi
  have hagg : (isAgg ty).run P w = .ok true w := by
    unfold isAgg
    rw [Sem.run_bind, run_underlying hu w]
    cases d <;> simp_all
  have hlv : (loadVar ty ad).run P w = .ok (.agg cs.toArray) w := by simp [loadVar, Sem.run_bind, hagg, sizeOf, typeInfo, hq, hs, hl]
  unfold Oper.wp execOp
  simp only [ho, hx, Instr.loadAt, Instr.sureAddr, Sem.run_bind, Sem.run_pure, Result.andThen_ok, hlv]
  exact hK _ _ h
theorem exec_built {P : Program} {o : Oper} {a : Act} {w : World} (t : TypeId) (parts : Array (Nat × Operand)) (ho : o.op = .build t parts) (vals : List (Nat × Value)) (hv : (parts.map fun (i, x) => (i, a.eval x)).toList = vals) (cells : Array Value) (h : P.built t vals = some cells) :
    (execOp a.eval o).run P w = .ok (.value (.agg cells)) w := by
  unfold execOp
  simp only [ho, Sem.run_bind, run_build w t _ cells (by rw [hv]; exact h), Result.andThen_ok]
  rfl
theorem exec_one_slice {P : Program} {o : Oper} {a : Act} {w : World} (t e : TypeId) (x : Operand) (ho : o.op = .buildSlice t 1 #[(0, x)]) (n : Nat) (cs : Array Value) (hx : a.eval x = .agg cs)
    (hu : P.underlying t = some (.slice e)) (hinfo : (P.info? e).map (fun i => (i.zero.isSome, i.size)) = some (true, n)) (hn : 0 < n) (hs : n ≤ 16777216) (hcs : cs.size = n) :
    (execOp a.eval o).run P w = .ok (.value (.slice (some ⟨w.heap.size, 0, none⟩) 1 1)) (w.alloc (.cells cs e)) := by
  unfold execOp
  simp only [ho, Sem.run_bind, List.map_toArray, List.map_cons, List.map_nil, hx, run_one_slice w t e n cs hu hinfo hn hs hcs, Result.andThen_ok]
  rfl
theorem nums_rowK (l : List Int) : (nums .u8 l).toArray = rowK .u8 l := rfl
theorem nums_len (l : List Int) : (nums .u8 l).length = l.length := by simp [nums]
theorem range_row {W : World} {b : Nat} {t : TypeId} {f : List Int} (h : HoldsRow W b t (rowK .u8 f)) (q n : Nat) : W.rangeAt b q (nums .u8 ((f.drop q).take n)) := fun j v hv => by
  refine h.cell ?_
  unfold nums at hv
  rw [List.getElem?_map] at hv
  obtain ⟨x, hx, rfl⟩ := Option.map_eq_some_iff.1 hv
  rw [List.getElem?_take] at hx
  split at hx
  · rw [List.getElem?_drop] at hx
    simp [rowK, nums, hx]
  · cases hx
theorem there_row {W : World} {b : Nat} {t : TypeId} {cs : Array Value} (h : HoldsRow W b t cs) (q n : Nat) (hn : q + n ≤ cs.size) : W.there b q n := fun j hj => by
  refine ⟨?_, h.free (q + j)⟩
  have : q + j < cs.size := by omega
  rw [h.cell (j := q + j) (v := cs[q + j]) (Array.getElem?_eq_getElem this)]
  rfl
theorem sets_far {W : World} {b q : Nat} {vs : List Value} {k : Nat} (hk : k ≠ b) : (W.setCells b q vs).heap[k]? = W.heap[k]? := setCells_far vs q k hk
theorem sets_below {base : Nat} {w W : World} {b q : Nat} (h : Below base w W) (hb : base ≤ b) (vs : List Value) : Below base w (W.setCells b q vs) := by
  obtain ⟨s1, s2, s3, s4⟩ := setCells_same b vs q W
  exact h.trans ⟨s1, s2, s3, by rw [s4]; exact Nat.le_refl _, fun k hk => setCells_far vs q k (by omega)⟩
theorem sets_kept {w W : World} {S : Nat → Prop} {b q : Nat} (h : Kept w W S) (hb : S b ∨ w.heap.size ≤ b) (vs : List Value) : Kept w (W.setCells b q vs) S :=
  h.then_ (S2 := fun k => k = b) ⟨by rw [(setCells_same b vs q W).2.2.2]; exact Nat.le_refl _, fun k _ hn => setCells_far vs q k hn⟩ (fun k hk => by rw [hk]; exact hb)
theorem sets_size {W : World} {b q : Nat} (vs : List Value) : (W.setCells b q vs).heap.size = W.heap.size := (setCells_same b vs q W).2.2.2
theorem sets_all_far {W : World} {b q : Nat} {vs : List Value} : ∀ k, k ≠ b → (W.drew.setCells b q vs).heap[k]? = W.heap[k]? := fun k hk => setCells_far vs q k hk
end Go.Proofs.Ytfkndnocjelhgaa.Ext
