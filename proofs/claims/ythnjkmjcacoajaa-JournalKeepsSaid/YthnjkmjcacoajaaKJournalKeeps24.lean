import Derived.Great.BuildSlice
import Derived.WalkSpells
import Derived.Deep.MidRow
import Derived.Laws.CopyOwn
import Derived.Test.YthnjkmjcacoajaaKJournalKeeps2
import Derived.Test.YthnjkmjcacoajaaKJournalKeeps23
import Derived.Great.Walk
import Derived.RangeFuncBox
import Derived.RangeFuncNested
import Derived.RangeFuncBound
import Derived.RangeFuncCalls
import Derived.RangeFuncLeaves
import Derived.WalkKit
import Derived.OwnWalkIn
import Derived.TacticsInMore
import Derived.LoopNIn
import Derived.LoopIn
import Derived.OrdersIn
import Derived.Test.YthnjkmjcacoajaaKJournalKeeps3
section
/- Arrays in the middle of a block: an operation's load and store; rows of bytes cut. No condition. (Out of tpl3's XMid.) -/
namespace Go.Proofs.Ythnjkmjcacoajaa.Ext
open Go Go.RowKit Go.Proofs.YthnjkmjcacoajaaW.PrintWords Go.Proofs.YthnjkmjcacoajaaW.PrintLast Go.Proofs.YthnjkmjcacoajaaW.PrintMore Go.Proofs.Ythnjkmjcacoajaa.Base Go.Proofs.Ythnjkmjcacoajaa.Arr
set_option linter.unusedVariables false
set_option linter.unusedSimpArgs false

theorem exec_load_mid {P : Program} {o : Oper} {a : Act} {w : World} (ty : TypeId) (x : Operand) (ho : o.op = .load ty x) (b q : Nat) (hx : a.eval x = .pointer (some ⟨b, q, none⟩)) (cs : List Value) (d : TypeDesc) (hc : w.rangeAt b q cs)
    (hu : P.underlying ty = some d) (hd : d.isRow = true) (hi : (P.info? ty).map (·.size) = some cs.length) : (execOp a.eval o).run P w = .ok (.value (.agg cs.toArray)) w := by
  unfold execOp
  simp only [ho, hx, Instr.loadAt, Instr.sureAddr, Sem.run_bind, Sem.run_pure, Result.andThen_ok, run_loadVar_mid w b q ty cs d hc hu hd hi]
theorem exec_store_mid {P : Program} {o : Oper} {a : Act} {w : World} (ty : TypeId) (x y : Operand) (ho : o.op = .store ty x y) (b q : Nat) (cells : Array Value) (hx : a.eval x = .pointer (some ⟨b, q, none⟩)) (hy : a.eval y = .agg cells)
    (ht : w.there b q cells.size) (hi : (P.info? ty).map (·.size) = some cells.size) (h1 : cells.all (·.oneCell') = true) : (execOp a.eval o).run P w = .ok .skip (w.setCells b q cells.toList) := by
  unfold execOp
  simp only [ho, hx, hy, Instr.storeAt, Instr.sureAddr, Sem.run_bind, Sem.run_pure, Result.andThen_ok, run_storeVar_mid w b q ty cells ht hi h1]
theorem cell_alloc_old {W : World} {a : Addr} {v : Value} (o : Obj) (h : W.cell? a = some v) : (W.alloc o).cell? a = some v := pw_cell_below (below_alloc (Below.refl _ W) o) h
theorem exec_alloc {P : Program} {o : Oper} {a : Act} {w : World} (ty : TypeId) (ho : o.op = .alloc ty) (cs : Array Value) (hz : ∀ W, (zeroValue ty).run P W = .ok (.agg cs) W) :
    (execOp a.eval o).run P w = .ok (.value (.pointer (some ⟨w.heap.size, 0, none⟩))) (w.alloc (.cells cs ty)) := by
  unfold execOp
  simp only [ho]
  unfold Instr.alloc
  simp [hz, go_sem, Result.andThen]
theorem run_one_slice {P : Program} (w : World) (t e : TypeId) (n : Nat) (cs : Array Value) (hu : P.underlying t = some (.slice e)) (hinfo : (P.info? e).map (fun i => (i.zero.isSome, i.size)) = some (true, n)) (hn : 0 < n) (hs : n ≤ 16777216) (hcs : cs.size = n) :
    (Instr.buildSlice t 1 #[(0, .agg cs)]).run P w = .ok (.slice (some ⟨w.heap.size, 0, none⟩) 1 1) (w.alloc (.cells cs e)) := by
  obtain ⟨ie, hie, hz⟩ := Option.map_eq_some_iff.1 hinfo
  obtain ⟨hz1, hz2⟩ := Prod.mk.inj hz
  obtain ⟨z, hzz⟩ := Option.isSome_iff_exists.1 hz1
  refine run_buildSlice w t e 1 _ cs ie z hu hie hzz (by rw [hz2]; omega) (by rw [hz2]; omega) ?_
  have := Great.fill_whole (s := n) hn [.agg cs] ((Array.range (1 * n)).map (z.cells[· % z.cells.size]!)) (fun v hv => by rw [List.mem_singleton.1 hv]; exact hcs) (by simp)
  rw [hz2]
  have e2 : (Value.agg cs).cells = cs := rfl
  simpa [e2] using this
theorem wpList_one_slice {P : Program} {ops : Array Oper} {rest : List Oper} {o : Oper} {a : Act} {w : World} {Q : Exit → Act → World → Prop} (hgd : o.guard = none) (t e : TypeId) (x : Operand) (ho : o.op = .buildSlice t 1 #[(0, x)]) (n : Nat) (cs : Array Value) (hx : a.eval x = .agg cs)
    (hu : P.underlying t = some (.slice e)) (hinfo : (P.info? e).map (fun i => (i.zero.isSome, i.size)) = some (true, n)) (hn : 0 < n) (hs : n ≤ 16777216) (hcs : cs.size = n)
    (h : wpList P ops Q rest (a.put o.dst (.slice (some ⟨w.heap.size, 0, none⟩) 1 1)) (w.alloc (.cells cs e))) : wpList P ops Q (o :: rest) a w := by
  refine wpList_plain hgd fun _ hK => ?_
  unfold Oper.wp execOp
  simp only [ho, Sem.run_bind, List.map_toArray, List.map_cons, List.map_nil, hx, run_one_slice w t e n cs hu hinfo hn hs hcs, Result.andThen_ok]
  exact hK _ _ h
theorem fill_part {place : Nat → Option (Nat × Nat)} {cells : Array Value} {i : Nat} {v : Value} {rest : List (Nat × Value)} {off size : Nat} (hp : place i = some (off, size)) (hs : v.cells.size = size) (hfit : off + size ≤ cells.size) :
    ∃ cells', Instr.fill place cells ((i, v) :: rest) = Instr.fill place cells' rest ∧ cells'.size = cells.size ∧ ∀ k, cells'[k]? = if off ≤ k ∧ k < off + size then v.cells[k - off]? else cells[k]? := by
  refine ⟨v.cells.zipIdx.foldl (fun cs (c, j) => cs.setIfInBounds (off + j) c) cells, ?_, ?_, ?_⟩
  · rw [Instr.fill, hp]
    simp [hs, show ¬ cells.size < off + size by omega]
  all_goals
    have h := Great.foldl_set off v.cells.toList 0 cells
    have e : v.cells.zipIdx.foldl (fun cs (x : Value × Nat) => cs.setIfInBounds (off + x.2) x.1) cells = (v.cells.toList.zipIdx 0).foldl (fun cs (x : Value × Nat) => cs.setIfInBounds (off + x.2) x.1) cells := by
      rw [← Array.foldl_toList, Array.toList_zipIdx]
  · exact (congrArg Array.size e).trans h.1
  · intro k
    refine (congrArg (·[k]?) e).trans ?_
    rw [h.2 k]
    simp only [Nat.add_zero, Array.length_toList, hs, Array.getElem?_toList]
    by_cases hk : off ≤ k ∧ k < off + size
    · rw [if_pos hk, if_pos ⟨hk.1, hk.2, by omega⟩]
    · rw [if_neg hk, if_neg (fun q => hk ⟨q.1, q.2.1⟩)]
/-- a load of a whole array at any address -/
theorem wpList_load_at {P : Program} {w : World} {ops : Array Oper} {rest : List Oper} {o : Oper} {a : Act} {Q : Exit → Act → World → Prop} (hgd : o.guard = none) (ty : TypeId) (x : Operand) (ho : o.op = .load ty x) (ad : Addr) (hx : a.eval x = .pointer (some ad)) (cs : List Value) (d : TypeDesc)
    (hc : ∀ j v, cs[j]? = some v → w.cell? (ad.add j) = some v) (hu : P.underlying ty = some d) (hd : d.isRow = true) (hi : (P.info? ty).map (·.size) = some cs.length)
    (h : wpList P ops Q rest (a.put o.dst (.agg cs.toArray)) w) : wpList P ops Q (o :: rest) a w := by
  have hl : (loadCells ad cs.length).run P w = .ok cs.toArray w := run_loadCells_list (P := P) w ad cs hc
  refine wpList_plain hgd fun _ hK => ?_
  obtain ⟨i, hq, hs⟩ := Option.map_eq_some_iff.1 hi
  have hagg : (isAgg ty).run P w = .ok true w := by
    unfold isAgg
    rw [Sem.run_bind, run_underlying hu w]
    cases d <;> simp_all
  have hlv : (loadVar ty ad).run P w = .ok (.agg cs.toArray) w := by simp [loadVar, Sem.run_bind, hagg, sizeOf, typeInfo, hq, hs, hl]
  unfold Oper.wp execOp
  simp only [ho, hx, Instr.loadAt, Instr.sureAddr, Sem.run_bind, Sem.run_pure, Result.andThen_ok, hlv]
  exact hK _ _ h
theorem exec_built {P : Program} {o : Oper} {a : Act} {w : World} (t : TypeId) (parts : Array (Nat × Operand)) (ho : o.op = .build t parts) (vals : List (Nat × Value)) (hv : (parts.map fun (i, x) => (i, a.eval x)).toList = vals) (cells : Array Value) (h : P.built t vals = some cells) :
    (execOp a.eval o).run P w = .ok (.value (.agg cells)) w := by
  unfold execOp
  simp only [ho, Sem.run_bind, run_build w t _ cells (by rw [hv]; exact h), Result.andThen_ok]
  rfl
theorem exec_one_slice {P : Program} {o : Oper} {a : Act} {w : World} (t e : TypeId) (x : Operand) (ho : o.op = .buildSlice t 1 #[(0, x)]) (n : Nat) (cs : Array Value) (hx : a.eval x = .agg cs)
    (hu : P.underlying t = some (.slice e)) (hinfo : (P.info? e).map (fun i => (i.zero.isSome, i.size)) = some (true, n)) (hn : 0 < n) (hs : n ≤ 16777216) (hcs : cs.size = n) :
    (execOp a.eval o).run P w = .ok (.value (.slice (some ⟨w.heap.size, 0, none⟩) 1 1)) (w.alloc (.cells cs e)) := by
  unfold execOp
  simp only [ho, Sem.run_bind, List.map_toArray, List.map_cons, List.map_nil, hx, run_one_slice w t e n cs hu hinfo hn hs hcs, Result.andThen_ok]
  rfl
theorem nums_rowK (l : List Int) : (nums .u8 l).toArray = rowK .u8 l := rfl
theorem nums_len (l : List Int) : (nums .u8 l).length = l.length := by simp [nums]
theorem range_row {W : World} {b : Nat} {t : TypeId} {f : List Int} (h : HoldsRow W b t (rowK .u8 f)) (q n : Nat) : W.rangeAt b q (nums .u8 ((f.drop q).take n)) := fun j v hv => by
  refine h.cell ?_
  unfold nums at hv
  rw [List.getElem?_map] at hv
  obtain ⟨x, hx, rfl⟩ := Option.map_eq_some_iff.1 hv
  rw [List.getElem?_take] at hx
  split at hx
  · rw [List.getElem?_drop] at hx
    simp [rowK, nums, hx]
  · cases hx
theorem there_row {W : World} {b : Nat} {t : TypeId} {cs : Array Value} (h : HoldsRow W b t cs) (q n : Nat) (hn : q + n ≤ cs.size) : W.there b q n := fun j hj => by
  refine ⟨?_, h.free (q + j)⟩
  have : q + j < cs.size := by omega
  rw [h.cell (j := q + j) (v := cs[q + j]) (Array.getElem?_eq_getElem this)]
  rfl
theorem sets_far {W : World} {b q : Nat} {vs : List Value} {k : Nat} (hk : k ≠ b) : (W.setCells b q vs).heap[k]? = W.heap[k]? := setCells_far vs q k hk
theorem sets_below {base : Nat} {w W : World} {b q : Nat} (h : Below base w W) (hb : base ≤ b) (vs : List Value) : Below base w (W.setCells b q vs) := by
  obtain ⟨s1, s2, s3, s4⟩ := setCells_same b vs q W
  exact h.trans ⟨s1, s2, s3, by rw [s4]; exact Nat.le_refl _, fun k hk => setCells_far vs q k (by omega)⟩
theorem sets_kept {w W : World} {S : Nat → Prop} {b q : Nat} (h : Kept w W S) (hb : S b ∨ w.heap.size ≤ b) (vs : List Value) : Kept w (W.setCells b q vs) S :=
  h.then_ (S2 := fun k => k = b) ⟨by rw [(setCells_same b vs q W).2.2.2]; exact Nat.le_refl _, fun k _ hn => setCells_far vs q k hn⟩ (fun k hk => by rw [hk]; exact hb)
theorem sets_all_far {W : World} {b q : Nat} {vs : List Value} : ∀ k, k ≠ b → (W.drew.setCells b q vs).heap[k]? = W.heap[k]? := fun k hk => setCells_far vs q k hk
end Go.Proofs.Ythnjkmjcacoajaa.Ext

/- The stamps of strip, as bytes and back, walked. Condition: a stamp of two numbers of 32 bits. -/
namespace Go.Proofs.Ythnjkmjcacoajaa.Ext
open Go Go.RowKit Go.Proofs.YthnjkmjcacoajaaW.PrintWords Go.Proofs.YthnjkmjcacoajaaW.PrintLast Go.Proofs.YthnjkmjcacoajaaW.PrintMore Go.Proofs.Ythnjkmjcacoajaa.Base Go.Proofs.Ythnjkmjcacoajaa.Arr
set_option linter.unusedVariables false
set_option linter.unusedSimpArgs false

theorem hr_move {W W1 : World} {b : Nat} {t : TypeId} {cs : Array Value} (h : HoldsRow W b t cs) (hm : W1.heap[b]? = W.heap[b]?) : HoldsRow W1 b t cs := hm.trans h
theorem u64_small (n : Int) (h0 : 0 ≤ n) (h : n < 18446744073709551616) : IntKind.u64.wrap n = n := by
  simp only [IntKind.wrap]
  simp [IntKind.bits, IntKind.signed]
  omega
theorem ofInt_nat64 (n : Nat) (h : n < 18446744073709551616) : (BitVec.ofInt 64 (n : Int)).toNat = n := by
  rw [BitVec.toNat_ofInt]
  omega
theorem or64 (a b : Nat) (ha : a < 18446744073709551616) (hb : b < 18446744073709551616) : bits .or .u64 (a : Int) (b : Int) = ((a ||| b : Nat) : Int) := by
  show IntKind.u64.wrap ((BitVec.ofInt 64 (a : Int) ||| BitVec.ofInt 64 (b : Int)).toNat : Int) = _
  have h := (BitVec.ofInt 64 (a : Int) ||| BitVec.ofInt 64 (b : Int)).isLt
  rw [u64_small _ (by omega) (by omega), BitVec.toNat_or, ofInt_nat64 a ha, ofInt_nat64 b hb]
theorem or_hi (k a b : Nat) (hb : b < 2 ^ k) : (a * 2 ^ k) ||| b = a * 2 ^ k + b := by
  rw [← Nat.shiftLeft_eq, Nat.shiftLeft_add_eq_or_of_lt hb]
theorem alloc_size (w : World) (o : Obj) : (w.alloc o).heap.size = w.heap.size + 1 := by
  show (w.heap.push o).size = _
  exact Array.size_push _
/-- a stamp's number -/
def stampN (g e : Nat) : Nat := g * 4294967296 + e
def edgeB (v i : Nat) : Int := (v : Int) / 2 ^ (8 * (7 - i)) % 256
/-- its bytes -/
def edgeL (v : Nat) : List Int := (List.range 8).map (edgeB v)
theorem stamp_or (g e : Nat) (hg : g < 4294967296) (he : e < 4294967296) : bits .or .u64 (IntKind.u64.wrap ((g : Int) * 4294967296)) (e : Int) = (stampN g e : Int) := by
  rw [u64_small _ (by omega) (by omega)]
  have : ((g : Int) * 4294967296) = ((g * 2 ^ 32 : Nat) : Int) := by omega
  rw [this, or64 _ _ (by omega) (by omega), or_hi 32 g e (by omega)]
  unfold stampN
  omega
def edgeTo (v n : Nat) : List Int := (List.range 8).map fun i => if i < n then edgeB v i else 0
theorem edge_set (v n : Nat) (hn : n < 8) : (edgeTo v n).set n (edgeB v n) = edgeTo v (n + 1) := by
  apply List.ext_getElem?
  intro i
  unfold edgeTo
  by_cases h : i = n
  · subst h
    rw [List.getElem?_set_self (by simpa using hn)]
    simp [List.getElem?_map, List.getElem?_range hn]
  · rw [List.getElem?_set_ne (fun e => h e.symm)]
    simp only [List.getElem?_map]
    by_cases hi : i < 8
    · rw [List.getElem?_range hi]
      simp only [Option.map_some]
      by_cases h2 : i < n
      · rw [if_pos h2, if_pos (by omega)]
      · rw [if_neg h2, if_neg (by omega)]
    · rw [List.getElem?_eq_none (by simp; omega)]; rfl
theorem edge_len (v n : Nat) : (edgeTo v n).length = 8 := by simp [edgeTo]
set_option maxHeartbeats 4000000 in
set_option maxRecDepth 100000 in
theorem edge_calls (w : World) (g e : Nat) (hg : g < 4294967296) (he : e < 4294967296) :
    Calls Try.prog 35 #[.agg #[.int .i64 (g : Int), .int .i64 (e : Int)]] w fun en w' => en = .returned (.agg (rowK .u8 (edgeL (stampN g e)))) ∧ Below w.heap.size w w' := by
  have HV := Aside0.mk (stamp_or g e hg he)
  have HG := Aside0.mk hg
  have HE := Aside0.mk he
  have hvl : stampN g e < 18446744073709551616 := by unfold stampN; omega
  have HVL := Aside0.mk hvl
  have ug := u64_small (g : Int) (by omega) (by omega)
  have ue := u64_small (e : Int) (by omega) (by omega)
  clear hg he hvl
  go_enter Try.func35, Try.ntmps35
  go_wp2_with fail
  rw [HV.out]
  obtain ⟨b2, hb2⟩ : ∃ b2, b2 = w.heap.size + 1 := ⟨_, rfl⟩
  have HB2 := Aside0.mk hb2
  rw [← hb2]
  clear hb2
  go_loopw [13] (fun i wr => ∃ (j : Nat), j ≤ 8 ∧ i = .int .i64 (j : Nat) ∧ Aside0 (HoldsRow wr b2 74 (rowK .u8 (edgeTo (stampN g e) j))) ∧ Aside0 (Below w.heap.size w wr)) (fun i _ => 8 - (intOf i).toNat)
  case atStart =>
    refine ⟨0, by omega, rfl, ⟨?_⟩, ⟨below_alloc (below_alloc (Below.refl _ _) _) _⟩⟩
    have e : b2 = (w.alloc (.cells #[.int .i64 (g : Int), .int .i64 (e : Int)] 44)).heap.size := by rw [HB2.out, alloc_size]
    rw [e]
    exact HoldsRow.new _ _ _
  case round =>
    obtain ⟨j, hj, rfl, R, B⟩ := hrel
    by_cases hlt : j < 8
    · have d1 : decide ((j : Int) < 8) = true := decide_eq_true (by omega)
      have b0 := eq_true (show (0 : Int) ≤ (j : Int) by omega)
      have b1 := eq_true (show (j : Int) < 8 by omega)
      have hc := R.out.cell (j := j) (rowK_get _ _ j (by rw [edge_len]; exact hlt))
      have hf := R.out.free j
      go_wp2_with fail
      have h1 := R.out.set j (.int .u8 (edgeB (stampN g e) j))
      rw [rowK_set, edge_set _ _ hlt] at h1
      refine ⟨⟨j + 1, by omega, by go_num, ⟨h1⟩, ⟨B.out.setCell (show w.heap.size ≤ b2 by have := HB2.out; omega) _⟩⟩, by simp [intOf]; omega⟩
    · obtain rfl : j = 8 := by omega
      have d1 : decide (((8 : Nat) : Int) < 8) = false := rfl
      rw [show ((8 : Nat) : Int) = 8 from rfl]
      have R8 := Aside0.mk (show HoldsRow wr b2 74 (rowK .u8 (edgeL (stampN g e))) from R.out)
      have hsz : (rowK .u8 (edgeL (stampN g e))).size = 8 := by rw [rowK_size]; rfl
      have HBW := Aside0.mk (show w.heap.size ≤ b2 by have := HB2.out; omega)
      clear d1 R
      go_wp2_with (first | (refine wpList_load_row rfl 74 (.tmp 2) rfl b2 rfl 74 (rowK .u8 (edgeL (stampN g e))) (0, 0) _ R8.out Try.underlying74 rfl (by rw [hsz]; kernel_rfl) ?_) | (refine wpList_store_row rfl 74 _ _ rfl b2 (rowK .u8 (edgeL (stampN g e))) rfl rfl 74 (rowK .u8 (edgeL (stampN g e))) R8.out (by rw [hsz]; kernel_rfl) rfl (rowK_one _ _) ?_))
      exact bodyPost_ret (results_cell_row (p := 2) (ty := 74) rfl _ _ b2 74 (rowK .u8 (edgeL (stampN g e))) (0, 0) _ rfl (R8.out.row _) Try.underlying74 rfl (by rw [hsz]; kernel_rfl)) rfl ⟨rfl, Go.Proofs.Ythnjkmjcacoajaa.Arr.below_setRow B.out _ HBW.out⟩
end Go.Proofs.Ythnjkmjcacoajaa.Ext

/- slices.Reverse of eight bytes; an edge turned. No condition. -/
namespace Go.Proofs.Ythnjkmjcacoajaa.Ext
open Go Go.RowKit Go.Proofs.YthnjkmjcacoajaaW.PrintWords Go.Proofs.YthnjkmjcacoajaaW.PrintLast Go.Proofs.YthnjkmjcacoajaaW.PrintMore Go.Proofs.Ythnjkmjcacoajaa.Base Go.Proofs.Ythnjkmjcacoajaa.Arr
set_option linter.unusedVariables false
set_option linter.unusedSimpArgs false

/-- the first k and the last k of eight are turned -/
def revTo (l : List Int) (k : Nat) : List Int := (List.range 8).map fun i => if i < k ∨ 8 ≤ i + k then rd l ((7 - i : Nat) : Int) else rd l (i : Int)
theorem rev_len (l : List Int) (k : Nat) : (revTo l k).length = 8 := by simp [revTo]
theorem rev_get (l : List Int) (k i : Nat) (hi : i < 8) : rd (revTo l k) (i : Int) = if i < k ∨ 8 ≤ i + k then rd l ((7 - i : Nat) : Int) else rd l (i : Int) := by
  unfold revTo
  show (List.map _ _).getD (i : Int).toNat 0 = _
  rw [Int.toNat_natCast, List.getD_eq_getElem?_getD, List.getElem?_map, List.getElem?_range hi]
  rfl
theorem rd_nat (l : List Int) (i : Nat) : rd l (i : Int) = l.getD i 0 := by unfold rd; rw [Int.toNat_natCast]
theorem rev_step (l : List Int) (k j : Nat) (hk : k + j = 7) (hlt : k < j) : ((revTo l k).set k (rd (revTo l k) (j : Int))).set j (rd (revTo l k) (k : Int)) = revTo l (k + 1) := by
  apply List.ext_getElem?
  intro i
  by_cases hi : i < 8
  · have hr : (revTo l (k + 1))[i]? = some (rd (revTo l (k + 1)) (i : Int)) := by
      rw [rd_nat, List.getD_eq_getElem?_getD, List.getElem?_eq_getElem (by rw [rev_len]; exact hi)]; rfl
    rw [hr, rev_get l (k + 1) i hi]
    by_cases h1 : i = j
    · subst h1
      rw [List.getElem?_set_self (by rw [List.length_set, rev_len]; exact hi), rev_get l k k (by omega), if_neg (by omega), if_pos (by omega)]
      congr 3; omega
    · rw [List.getElem?_set_ne (fun e => h1 e.symm)]
      by_cases h2 : i = k
      · subst h2
        rw [List.getElem?_set_self (by rw [rev_len]; exact hi), rev_get l i j (by omega), if_neg (by omega), if_pos (by omega)]
        congr 3; omega
      · rw [List.getElem?_set_ne (fun e => h2 e.symm)]
        have hr2 : (revTo l k)[i]? = some (rd (revTo l k) (i : Int)) := by
          rw [rd_nat, List.getD_eq_getElem?_getD, List.getElem?_eq_getElem (by rw [rev_len]; exact hi)]; rfl
        rw [hr2, rev_get l k i hi]
        by_cases h3 : i < k ∨ 8 ≤ i + k
        · rw [if_pos h3, if_pos (by omega)]
        · rw [if_neg h3, if_neg (by omega)]
  · rw [List.getElem?_eq_none (by simp [rev_len]; omega), List.getElem?_eq_none (by rw [rev_len]; omega)]
theorem rev_zero (l : List Int) (hl : l.length = 8) : revTo l 0 = l := by
  apply List.ext_getElem?
  intro i
  by_cases hi : i < 8
  · have hr2 : (revTo l 0)[i]? = some (rd (revTo l 0) (i : Int)) := by
      rw [rd_nat, List.getD_eq_getElem?_getD, List.getElem?_eq_getElem (by rw [rev_len]; exact hi)]; rfl
    rw [hr2, rev_get l 0 i hi, if_neg (by omega), rd_nat, List.getD_eq_getElem?_getD, List.getElem?_eq_getElem (by omega)]; rfl
  · rw [List.getElem?_eq_none (by rw [rev_len]; omega), List.getElem?_eq_none (by omega)]
theorem rev_four (l : List Int) (hl : l.length = 8) : revTo l 4 = l.reverse := by
  apply List.ext_getElem?
  intro i
  by_cases hi : i < 8
  · have hr2 : (revTo l 4)[i]? = some (rd (revTo l 4) (i : Int)) := by
      rw [rd_nat, List.getD_eq_getElem?_getD, List.getElem?_eq_getElem (by rw [rev_len]; exact hi)]; rfl
    rw [hr2, rev_get l 4 i hi, if_pos (by omega), List.getElem?_reverse (by omega), rd_nat, List.getD_eq_getElem?_getD, hl, List.getElem?_eq_getElem (by omega)]
    simp
  · rw [List.getElem?_eq_none (by rw [rev_len]; omega), List.getElem?_eq_none (by simp; omega)]
set_option maxHeartbeats 4000000 in
set_option maxRecDepth 100000 in
theorem Reverse_calls (w : World) (b : Nat) (l : List Int) (hl : l.length = 8) (h : HoldsRow w b 74 (rowK .u8 l)) :
    Calls Try.prog 53 #[.slice (some ⟨b, 0, none⟩) 8 8] w fun en w' => en = .returned (.tuple #[]) ∧ HoldsRow w' b 74 (rowK .u8 l.reverse) ∧ Below b w w' ∧ ∀ k, k ≠ b → w'.heap[k]? = w.heap[k]? := by
  have H0 := Aside0.mk (show HoldsRow w b 74 (rowK .u8 (revTo l 0)) by rw [rev_zero l hl]; exact h)
  have HL := Aside0.mk hl
  clear h hl
  go_enter Try.func53, Try.ntmps53
  go_wp2_with fail
  go_loopw [2, 3] (fun i j wr => ∃ (k : Nat), k ≤ 4 ∧ i = .int .i64 (k : Nat) ∧ j = .int .i64 (7 - (k : Int)) ∧ Aside0 (HoldsRow wr b 74 (rowK .u8 (revTo l k))) ∧ Aside0 (Below b w wr ∧ ∀ q, q ≠ b → wr.heap[q]? = w.heap[q]?)) (fun i _ _ => 8 - (intOf i).toNat)
  case atStart => exact ⟨0, by omega, rfl, rfl, H0, ⟨Below.refl _ _, fun _ _ => rfl⟩⟩
  case round =>
    obtain ⟨k, hk, rfl, rfl, R, B⟩ := hrel
    by_cases hlt : k < 4
    · obtain ⟨j, hj⟩ : ∃ j, k + j = 7 := ⟨7 - k, by omega⟩
      rw [show (7 - (k : Int)) = (j : Int) by omega]
      have d1 : decide ((k : Int) < (j : Int)) = true := decide_eq_true (by omega)
      have d2 : decide (k < j) = true := decide_eq_true (by omega)
      have b0 := eq_true (show (0 : Int) ≤ (k : Int) by omega)
      have b1 := eq_true (show (k : Int) < 8 by omega)
      have b2 := eq_true (show (0 : Int) ≤ (j : Int) by omega)
      have b3 := eq_true (show (j : Int) < 8 by omega)
      have hc1 := R.out.cell (j := k) (rowK_get _ _ k (by rw [rev_len]; omega))
      have hc2 := R.out.cell (j := j) (rowK_get _ _ j (by rw [rev_len]; omega))
      have hf1 := R.out.free k
      have hf2 := R.out.free j
      have hne : k ≠ j := by omega
      have hne2 : j ≠ k := by omega
      go_wp2_with fail
      go_region
      go_wp2_with fail
      have h1 := (R.out.set k (.int .u8 (rd (revTo l k) (j : Int)))).set j (.int .u8 (rd (revTo l k) (k : Int)))
      rw [rowK_set, rowK_set, rev_step l k j hj (by omega)] at h1
      have hb := ((B.out.1.setCell (p := ⟨b, k, none⟩) (Nat.le_refl _) (.int .u8 (rd (revTo l k) (j : Int)))).setCell (p := ⟨b, j, none⟩) (Nat.le_refl _) (.int .u8 (rd (revTo l k) (k : Int))))
      refine ⟨⟨k + 1, by omega, by go_num, ?_, ⟨h1⟩, ⟨below_drew hb, fun q hq => ?_⟩⟩, by simp [intOf]; omega⟩
      · congr 1; omega
      · exact ((Below.heap_setCell _ ⟨b, j, none⟩ _ q hq).trans (Below.heap_setCell _ ⟨b, k, none⟩ _ q hq)).trans (B.out.2 q hq)
    · obtain rfl : k = 4 := by omega
      rw [show (7 - ((4 : Nat) : Int)) = 3 from rfl, show ((4 : Nat) : Int) = 4 from rfl]
      have R4 := Aside0.mk (show HoldsRow wr b 74 (rowK .u8 l.reverse) by rw [← rev_four l HL.out]; exact R.out)
      go_wp2_with fail
      exact Go.Great.bodyPost_end0 rfl rfl ⟨rfl, R4.out, B.out.1, B.out.2⟩
set_option maxHeartbeats 4000000 in
set_option maxRecDepth 100000 in
theorem turned_calls (w : World) (l : List Int) (hl : l.length = 8) :
    Calls Try.prog 36 #[.agg (rowK .u8 l)] w fun en w' => en = .returned (.agg (rowK .u8 l.reverse)) ∧ Below w.heap.size w w' := by
  have HL := Aside0.mk hl
  have hsz : (rowK .u8 l).size = 8 := by rw [rowK_size]; exact hl
  have hsz2 : (rowK .u8 l.reverse).size = 8 := by rw [rowK_size, List.length_reverse]; exact hl
  have HZ := Aside0.mk hsz
  have HZ2 := Aside0.mk hsz2
  clear hl hsz hsz2
  go_enter Try.func36, Try.ntmps36
  go_wp2_with fail
  obtain ⟨b1, hb1⟩ : ∃ b1, b1 = w.heap.size := ⟨_, rfl⟩
  obtain ⟨b2, hb2⟩ : ∃ b2, b2 = w.heap.size + 1 := ⟨_, rfl⟩
  obtain ⟨W1, hW1⟩ : ∃ W1 : World, W1 = (w.alloc (.cells (rowK .u8 l) 74)).alloc (.cells #[.int .u8 0, .int .u8 0, .int .u8 0, .int .u8 0, .int .u8 0, .int .u8 0, .int .u8 0, .int .u8 0] 74) := ⟨_, rfl⟩
  have P1 := Aside0.mk (show HoldsRow W1 b1 74 (rowK .u8 l) by rw [hW1, hb1]; exact (HoldsRow.new w _ _).alloc _)
  have P2 := Aside0.mk (show HoldsRow W1 b2 74 (rowK .u8 [0, 0, 0, 0, 0, 0, 0, 0]) by
    have e : b2 = (w.alloc (.cells (rowK .u8 l) 74)).heap.size := by rw [hb2, alloc_size]
    rw [hW1, e]; exact HoldsRow.new _ _ _)
  have B1 := Aside0.mk (show Below w.heap.size w W1 by rw [hW1]; exact below_alloc (below_alloc (Below.refl _ _) _) _)
  have HBB := Aside0.mk (show b1 = w.heap.size ∧ b2 = w.heap.size + 1 from ⟨hb1, hb2⟩)
  rw [← hW1, ← hb2, ← hb1]
  clear hW1 hb1 hb2
  ((with_reducible refine (Reverse_calls W1 b1 l HL.out P1.out).mono ?_))
  rintro en w2 ⟨rfl, h1, h2, h3⟩
  have R1 := Aside0.mk h1
  have R2 := Aside0.mk (hr_move P2.out (h3 b2 (by have := HBB.out; omega)))
  have B2 := Aside0.mk (B1.out.trans (h2.mono (by have := HBB.out; omega)))
  have HW := Aside0.mk (show w.heap.size ≤ b2 by have := HBB.out; omega)
  clear h1 h2 h3 P1 P2 B1
  go_wp2_with (first | (refine wpList_load_row rfl 74 (.tmp 1) rfl b1 rfl 74 (rowK .u8 l.reverse) (0, 0) _ R1.out Try.underlying74 rfl (by rw [HZ2.out]; kernel_rfl) ?_) | (refine wpList_store_row rfl 74 _ _ rfl b2 (rowK .u8 l.reverse) rfl rfl 74 (rowK .u8 [0, 0, 0, 0, 0, 0, 0, 0]) R2.out (by rw [HZ2.out]; kernel_rfl) (by rw [HZ2.out]; rfl) (rowK_one _ _) ?_))
  exact bodyPost_ret (results_cell_row (p := 2) (ty := 74) rfl _ _ b2 74 (rowK .u8 l.reverse) (0, 0) _ rfl (R2.out.row _) Try.underlying74 rfl (by rw [HZ2.out]; kernel_rfl)) rfl ⟨rfl, Go.Proofs.Ythnjkmjcacoajaa.Arr.below_setRow B2.out _ HW.out⟩
/-- each is a byte -/
def Bytes (l : List Int) : Prop := ∀ x ∈ l, 0 ≤ x ∧ x < 256
theorem Bytes.at_ {l : List Int} (h : Bytes l) (i : Nat) : 0 ≤ rd l (i : Int) ∧ rd l (i : Int) < 256 := by
  rw [rd_nat, List.getD_eq_getElem?_getD]
  cases hx : l[i]? with
  | none => simp
  | some x => exact h x (List.mem_of_getElem? hx)
/-- the number of the first j bytes -/
def valN (l : List Int) : Nat → Nat
  | 0 => 0
  | j + 1 => valN l j * 256 + (rd l (j : Int)).toNat
theorem val_lt {l : List Int} (h : Bytes l) : ∀ j, valN l j < 256 ^ j
  | 0 => by simp [valN]
  | j + 1 => by
    have h1 := val_lt h j
    have h2 := h.at_ j
    have h3 : (rd l (j : Int)).toNat < 256 := by omega
    show valN l j * 256 + _ < 256 ^ (j + 1)
    rw [Nat.pow_succ]
    generalize 256 ^ j = q at *
    omega
theorem val_or {l : List Int} (h : Bytes l) (j : Nat) (hj : j < 8) : bits .or .u64 (IntKind.u64.wrap ((valN l j : Int) * 256)) (rd l (j : Int)) = (valN l (j + 1) : Int) := by
  have h1 := val_lt h j
  have h2 := h.at_ j
  have h4 : 256 ^ j ≤ 256 ^ 7 := Nat.pow_le_pow_right (by decide) (by omega)
  have h5 : (256 : Nat) ^ 7 = 72057594037927936 := by decide
  rw [h5] at h4
  have h3 : (rd l (j : Int)).toNat < 256 := by omega
  rw [u64_small _ (by omega) (by omega)]
  have e1 : ((valN l j : Int) * 256) = ((valN l j * 2 ^ 8 : Nat) : Int) := by omega
  have e2 : rd l (j : Int) = ((rd l (j : Int)).toNat : Int) := by omega
  rw [e1, e2, or64 _ _ (by omega) (by omega), or_hi 8 _ _ (by omega)]
  show _ = ((valN l j * 256 + _ : Nat) : Int)
  omega
def stampC (v : Nat) : Array Value := #[.int .i64 ((v : Int) / 4294967296), .int .i64 ((v : Int) % 4294967296)]
theorem stamp_one (v : Nat) : (stampC v).all (·.oneCell') = true := by simp [stampC, Value.oneCell']
theorem and_lo (v : Nat) (hv : v < 18446744073709551616) : bits .and .u64 (v : Int) 4294967295 = ((v % 4294967296 : Nat) : Int) := by
  show IntKind.u64.wrap ((BitVec.ofInt 64 (v : Int) &&& BitVec.ofInt 64 4294967295).toNat : Int) = _
  have e : (BitVec.ofInt 64 4294967295).toNat = 2 ^ 32 - 1 := by decide
  rw [BitVec.toNat_and, ofInt_nat64 v hv, e, Nat.and_two_pow_sub_one_eq_mod]
  rw [u64_small _ (by omega) (by omega)]
theorem run_index_edge (w : World) (l : List Int) (hl : l.length = 8) (j : Nat) (hj : j < 8) : (Instr.index 74 (.agg (rowK .u8 l)) (.int .i64 (j : Int))).run Try.prog w = .ok (.int .u8 (rd l (j : Int))) w := by
  have h1 : (0 : Int) ≤ (j : Int) ∧ (j : Int) < 8 := by omega
  have h2 := rowK_get .u8 l j (by omega)
  simp [Instr.index, asIntOf, run_underlying Try.underlying74, h1, go_sem]
  rw [if_pos hj, h2]; rfl
set_option maxHeartbeats 4000000 in
set_option maxRecDepth 100000 in
theorem stamp_calls (w : World) (l : List Int) (hl : l.length = 8) (hb : Bytes l) :
    Calls Try.prog 64 #[.agg (rowK .u8 l)] w fun en w' => en = .returned (.agg (stampC (valN l 8))) ∧ Below w.heap.size w w' := by
  have HL := Aside0.mk hl
  have HB := Aside0.mk hb
  have hsz : (rowK .u8 l).size = 8 := by rw [rowK_size]; exact hl
  have HZ := Aside0.mk hsz
  have hvl : valN l 8 < 18446744073709551616 := by have := val_lt hb 8; have e : (256 : Nat) ^ 8 = 18446744073709551616 := by decide
                                                   omega
  have HVL := Aside0.mk hvl
  clear hl hsz hb hvl
  go_enter Try.func64, Try.ntmps64
  obtain ⟨b1, hb1⟩ : ∃ b1, b1 = w.heap.size := ⟨_, rfl⟩
  obtain ⟨W1, hW1⟩ : ∃ W1 : World, W1 = (w.alloc (.cells (rowK .u8 l) 74)).alloc (.cells #[.int .i64 0, .int .i64 0] 44) := ⟨_, rfl⟩
  have P1 := Aside0.mk (show HoldsRow W1 w.heap.size 74 (rowK .u8 l) by rw [hW1]; exact (HoldsRow.new w _ _).alloc _)
  have P1' := Aside0.mk (show HoldsRow ((w.alloc (.cells (rowK .u8 l) 74)).alloc (.cells #[.int .i64 0, .int .i64 0] 44)) w.heap.size 74 (rowK .u8 l) from (HoldsRow.new w _ _).alloc _)
  go_wp2_with (first | (refine wpList_load_row rfl 74 (.tmp 1) rfl w.heap.size rfl 74 (rowK .u8 l) (0, 0) _ P1'.out Try.underlying74 rfl (by rw [HZ.out]; kernel_rfl) ?_))
  have P2 := Aside0.mk (show HoldsRow W1 (w.heap.size + 1) 44 #[.int .i64 0, .int .i64 0] by
    have e : w.heap.size + 1 = (w.alloc (.cells (rowK .u8 l) 74)).heap.size := by rw [alloc_size]
    rw [hW1, e]; exact HoldsRow.new _ _ _)
  have B1 := Aside0.mk (show Below w.heap.size w W1 by rw [hW1]; exact below_alloc (below_alloc (Below.refl _ _) _) _)
  rw [← hW1]
  clear P1' P1 hW1 hb1
  go_loopw [3, 7] (fun v i wr => ∃ (j : Nat), j ≤ 8 ∧ v = .int .u64 (valN l j : Int) ∧ i = .int .i64 (j : Nat) ∧ wr = W1) (fun _ i _ => 8 - (intOf i).toNat)
  case atStart => exact ⟨0, by omega, rfl, rfl, rfl⟩
  case round =>
    obtain ⟨j, hj, rfl, rfl, rfl⟩ := hrel
    by_cases hlt : j < 8
    · have d1 : decide ((j : Int) < 8) = true := decide_eq_true (by omega)
      have b0 := eq_true (show (0 : Int) ≤ (j : Int) by omega)
      have b1 := eq_true (show (j : Int) < 8 by omega)
      have hidx := run_index_edge wr l HL.out j hlt
      have hx := HB.out.at_ j
      have ux := u64_small (rd l (j : Int)) hx.1 (by omega)
      have hor := val_or HB.out j hlt
      clear hx
      go_wp2_with fail
      exact ⟨⟨j + 1, by omega, by rw [← hor, Int.mul_comm], by go_num, by first | rfl | trivial⟩, by simp [intOf]; omega⟩
    · obtain rfl : j = 8 := by omega
      have d1 : decide (((8 : Nat) : Int) < 8) = false := rfl
      rw [show ((8 : Nat) : Int) = 8 from rfl]
      have hand := and_lo (valN l 8) HVL.out
      have hsz2 : (stampC (valN l 8)).size = 2 := rfl
      have huw : wrap64 ((valN l 8 : Int) / 4294967296) = (valN l 8 : Int) / 4294967296 := by unfold wrap64; have := HVL.out; omega
      have HW := Aside0.mk (show w.heap.size ≤ w.heap.size + 1 by omega)
      clear d1
      go_wp2_with (first | (refine wpList_store_row rfl 44 _ _ rfl (w.heap.size + 1) (stampC (valN l 8)) rfl rfl 44 #[.int .i64 0, .int .i64 0] P2.out (by rw [hsz2]; kernel_rfl) rfl (stamp_one _) ?_))
      exact bodyPost_ret (results_cell_row (p := 2) (ty := 44) rfl _ _ (w.heap.size + 1) 44 (stampC (valN l 8)) (0, 0) _ rfl (P2.out.row _) Try.underlying44 rfl (by rw [hsz2]; kernel_rfl)) rfl ⟨rfl, Go.Proofs.Ythnjkmjcacoajaa.Arr.below_setRow B1.out _ HW.out⟩
end Go.Proofs.Ythnjkmjcacoajaa.Ext

/- A sector's parts: walked. No condition beyond the row's own. -/
namespace Go.Proofs.Ythnjkmjcacoajaa.Ext
open Go Go.RowKit Go.Proofs.YthnjkmjcacoajaaW.PrintWords Go.Proofs.YthnjkmjcacoajaaW.PrintLast Go.Proofs.YthnjkmjcacoajaaW.PrintMore Go.Proofs.Ythnjkmjcacoajaa.Base Go.Proofs.Ythnjkmjcacoajaa.Arr
set_option linter.unusedVariables false
set_option linter.unusedSimpArgs false

def z64 : List Int := List.replicate 64 0
theorem z64_len : z64.length = 64 := by kernel_rfl
theorem zero_cell (W : World) : (zeroValue 78).run Try.prog W = .ok (.agg (rowK .u8 z64)) W := by kernel_rfl
theorem results_cell2 {fn : Func} {p q : Tmp} {ty : TypeId} (h : fn.results = #[.cell p ty, .tmp q]) (tmps : Array Value) (w : World) (g : Nat) (cs : Array Value)
    (hp : tmps.getD p undef = .pointer (some ⟨g, 0, none⟩)) (hv : (loadVar ty ⟨g, 0, none⟩).run Try.prog w = .ok (.agg cs) w) :
    (results fn tmps).run Try.prog w = .ok (.tuple #[.agg cs, tmps.getD q undef]) w := by
  have hp' : tmps[p]?.getD undef = .pointer (some ⟨g, 0, none⟩) := by simpa using hp
  simp [results, h, hp', asAddr, hv]
set_option maxHeartbeats 4000000 in
set_option maxRecDepth 100000 in
theorem parts_none (w : World) (A : Option Addr) (c : Nat) (n : Nat) (hn : n ≠ 64) (hm : n ≤ 9223372036854775807) :
    Calls Try.prog 63 #[.slice A n c] w fun e w' => e = .returned (.tuple #[.agg (rowK .u8 z64), .bool false]) ∧ Below w.heap.size w w' := by
  have hz := zero_cell
  have d0 : decide ((n : Int) = 64) = false := decide_eq_false (by omega)
  have d1 : ((n : Int) != 64) = true := by simp; omega
  have hsz : (rowK .u8 z64).size = 64 := by rw [rowK_size, z64_len]
  have HNEW := Aside0.mk (HoldsRow.new w 78 (rowK .u8 z64))
  go_enter Try.func63, Try.ntmps63
  go_wp2_with (first | (refine wpList_store_row rfl 78 _ _ rfl w.heap.size (rowK .u8 z64) rfl rfl 78 (rowK .u8 z64) HNEW.out (by rw [hsz]; kernel_rfl) rfl (rowK_one _ _) ?_))
  exact bodyPost_ret (results_cell2 (p := 2) (q := 3) (ty := 78) rfl _ _ w.heap.size (rowK .u8 z64) rfl (run_loadVar_row _ w.heap.size 78 78 (rowK .u8 z64) (0, 0) _ (HNEW.out.row _) Try.underlying78 rfl (by rw [hsz]; kernel_rfl))) rfl ⟨rfl, Go.Proofs.Ythnjkmjcacoajaa.Arr.below_setRow (below_alloc (Below.refl w.heap.size w) (.cells (rowK .u8 z64) 78)) _ (Nat.le_refl _)⟩
theorem nums_splice (k : IntKind) (a c : List Int) (off : Nat) : splice (nums k a) off (nums k c) = nums k (splice a off c) := by
  simp [splice, nums]
theorem take_cell {l : List Int} {n j : Nat} {v : Value} (h : (nums .u8 (l.take n))[j]? = some v) : (nums .u8 l)[j]? = some v := by
  unfold nums at *
  rw [List.map_take] at h
  rw [List.getElem?_take] at h
  split at h
  · exact h
  · exact absurd h (by simp)
theorem nums_one (k : IntKind) (l : List Int) : ∀ v ∈ nums k l, v.oneCell' = true := fun v hv => by
  unfold nums at hv
  obtain ⟨x, -, rfl⟩ := List.mem_map.1 hv
  rfl
theorem nums_get {k : IntKind} {l : List Int} {j : Nat} (h : j < l.length) : (nums k l)[j]? = some (.int k (rd l (j : Int))) := by
  unfold nums
  rw [List.getElem?_map, List.getElem?_eq_getElem h, rd_nat, List.getD_eq_getElem?_getD, List.getElem?_eq_getElem h]
  rfl
theorem C_cells {w : World} {ad : Addr} {n : Nat} {l : List Int} (h : Kd.C (Kd.int .u8) w (some ad) n l) (hn : 0 < n) : ∀ j v, (nums .u8 l)[j]? = some v → w.cell? (ad.add j) = some v := by
  obtain ⟨ad', e, hc⟩ := h.2.2 hn
  injection e with e
  subst e
  intro j v hv
  unfold nums at hv
  rw [List.getElem?_map] at hv
  obtain ⟨x, hx, rfl⟩ := Option.map_eq_some_iff.1 hv
  obtain ⟨cs, -, hcs, hcell⟩ := hc j x hx
  have : cs = [Value.int .u8 x] := hcs
  subst this
  have := hcell 0 _ rfl
  simpa [Kd.int, Kd.scalar] using this
theorem splice_get {α : Type} (L : List α) (off : Nat) (cs : List α) (h : off + cs.length ≤ L.length) (i : Nat) : (splice L off cs)[i]? = if i < off then L[i]? else if i < off + cs.length then cs[i - off]? else L[i]? := by
  unfold splice
  by_cases h1 : i < off
  · rw [if_pos h1, List.getElem?_append_left (by rw [List.length_take]; omega), List.getElem?_take_of_lt h1]
  · rw [if_neg h1, List.getElem?_append_right (by rw [List.length_take]; omega), List.length_take, Nat.min_eq_left (by omega)]
    by_cases h2 : i < off + cs.length
    · rw [if_pos h2, List.getElem?_append_left (by omega)]
    · rw [if_neg h2, List.getElem?_append_right (by omega), List.getElem?_drop]
      congr 1; omega
theorem parts_eq (b : List Int) (hb : b.length = 64) : splice (splice ((splice z64 0 (b.take 8)).set 8 (rd b 8)) 9 ((b.drop 9).take 47)) 56 (b.drop 56) = b := by
  have l0 : (b.take 8).length = 8 := by rw [List.length_take]; omega
  have l1 : ((b.drop 9).take 47).length = 47 := by rw [List.length_take, List.length_drop]; omega
  have l2 : (b.drop 56).length = 8 := by rw [List.length_drop]; omega
  have s0 : (splice z64 0 (b.take 8)).length = 64 := by rw [length_splice _ _ _ (by rw [l0, z64_len]; decide), z64_len]
  have s1 : ((splice z64 0 (b.take 8)).set 8 (rd b 8)).length = 64 := by rw [List.length_set, s0]
  have s2 : (splice ((splice z64 0 (b.take 8)).set 8 (rd b 8)) 9 ((b.drop 9).take 47)).length = 64 := by rw [length_splice _ _ _ (by rw [l1, s1]; decide), s1]
  apply List.ext_getElem?
  intro i
  rw [splice_get _ _ _ (by rw [l2, s2]; decide), splice_get _ _ _ (by rw [l1, s1]; decide), l1, l2]
  by_cases h1 : i < 9
  · rw [if_pos (by omega), if_pos h1]
    by_cases h2 : i = 8
    · subst h2
      rw [List.getElem?_set_self (by rw [s0]; decide), List.getElem?_eq_getElem (by omega)]
      show some (rd b ((8 : Nat) : Int)) = _
      rw [rd_nat, List.getD_eq_getElem?_getD, List.getElem?_eq_getElem (by omega)]; rfl
    · rw [List.getElem?_set_ne (fun e => h2 e.symm), splice_get _ _ _ (by rw [l0, z64_len]; decide), l0, if_neg (by omega), if_pos (by omega), List.getElem?_take_of_lt (by omega), Nat.sub_zero]
  · by_cases h2 : i < 56
    · rw [if_pos h2, if_neg h1, if_pos (by omega), List.getElem?_take_of_lt (by omega), List.getElem?_drop]
      congr 1; omega
    · rw [if_neg h2]
      by_cases h3 : i < 56 + 8
      · rw [if_pos h3, List.getElem?_drop]
        congr 1; omega
      · rw [if_neg h3, if_neg h1, if_neg (by omega), List.getElem?_eq_none (by rw [s1]; omega), List.getElem?_eq_none (by omega)]
theorem drop_cell {w W' : World} {ad : Addr} {b : List Int} (h : ∀ (W' : World), Below w.heap.size w W' → ∀ (j : Nat) (v : Value), (nums .u8 b)[j]? = some v → W'.cell? (ad.add j) = some v) (hb : Below w.heap.size w W') (n : Nat) {j : Nat} {v : Value} (hv : (nums .u8 (b.drop n))[j]? = some v) {o : Nat} (ho : o = ad.off + n) (hn : 0 < n) : W'.cell? ((⟨ad.block, o, none⟩ : Addr).add j) = some v := by
  have e : (⟨ad.block, o, none⟩ : Addr) = ad.add n := by
    subst ho
    unfold Addr.add
    rw [if_neg (by omega)]
  rw [e, add_add]
  refine h W' hb (n + j) v ?_
  unfold nums at hv ⊢
  rw [List.map_drop, List.getElem?_drop] at hv
  exact hv
set_option maxHeartbeats 4000000 in
set_option maxRecDepth 100000 in
theorem parts_calls (w : World) (A : Option Addr) (c : Nat) (b : List Int) (hr : Kd.C (Kd.int .u8) w A 64 b) (hc : 64 ≤ c) :
    Calls Try.prog 63 #[.slice A 64 c] w fun e w' => e = .returned (.tuple #[.agg (rowK .u8 b), .bool true]) ∧ Below w.heap.size w w' := by
  have hz := zero_cell
  have HR := Aside0.mk hr
  have HC := Aside0.mk hc
  have HNEW := Aside0.mk (HoldsRow.new w 78 (rowK .u8 z64))
  go_enter Try.func63, Try.ntmps63
  obtain ⟨ad, rfl, -⟩ := hr.2.2 (by omega)
  have hb64 : b.length = 64 := hr.1
  have B1 := Aside0.mk (below_alloc (Below.refl w.heap.size w) (.cells (rowK .u8 z64) 78))
  have x1 := eq_true (show (8 : Int) ≤ 64 by decide)
  have x2 := eq_false (show ¬ c = 8 by omega)
  have x3 := eq_false (show ¬ c - 8 = 1 by omega)
  have HCL := Aside0.mk (fun (W' : World) (hb : Below w.heap.size w W') => C_cells (Kd.C_below HR.out hb) (by omega))
  clear hr hc
  go_wp2_with ((refine wpList_copy_splice rfl (.tmp 11) (.tmp 12) 31 31 rfl 5 Try.underlying31 (by kernel_rfl) (some ⟨w.heap.size, 0, none⟩) (some ad) 8 8 64 c rfl rfl w.heap.size 0 (nums .u8 z64) 78 HNEW.out (nums .u8 (b.take 8)) ?n1 ?n2 ?n3 ?n4 w.heap.size w B1.out (Nat.le_refl _) ?_; (case n1 => rw [nums_length, List.length_take, hb64]; rfl); (case n2 => exact fun _ => ⟨rfl, ad, rfl, fun j v hv => HCL.out _ B1.out j v (take_cell hv)⟩); (case n3 => rw [nums_length, nums_length, z64_len, List.length_take]; omega); (case n4 => exact fun v hv => nums_one _ _ v hv); intro w2 hh2 hb2; rw [nums_splice] at hh2; have R2 := Aside0.mk (show HoldsRow w2 w.heap.size 78 (rowK .u8 (splice z64 0 (b.take 8))) from hh2.out); have B2 := Aside0.mk hb2; have k8 : w2.cell? ⟨ad.block, ad.off + 8, none⟩ = some (.int .u8 (rd b 8)) := HCL.out w2 hb2 8 _ (nums_get (by omega : 8 < b.length)); have c8 := R2.out.cell (j := 8) (rowK_get _ _ 8 (by rw [length_splice _ _ _ (by rw [z64_len, List.length_take]; omega), z64_len]; decide)); have f8 := R2.out.free 8; clear hh2 hb2; rw [nums_length, show (b.take 8).length = 8 by rw [List.length_take]; omega]))
  obtain ⟨W3, hW3⟩ : ∃ W3, W3 = w2.setCell ⟨w.heap.size, 8, none⟩ (.int .u8 (rd b 8)) := ⟨_, rfl⟩
  rw [← hW3]
  obtain ⟨cur3, hcur3⟩ : ∃ cur3, cur3 = (splice z64 0 (b.take 8)).set 8 (rd b 8) := ⟨_, rfl⟩
  have hl3 : cur3.length = 64 := by rw [hcur3, List.length_set, length_splice _ _ _ (by rw [z64_len, List.length_take]; omega), z64_len]
  have R3 := Aside0.mk (show HoldsRow W3.drew w.heap.size 78 (rowK .u8 cur3) by
    have := R2.out.set 8 (.int .u8 (rd b 8))
    rw [rowK_set] at this
    rw [hW3, hcur3]
    exact this)
  have B3 := Aside0.mk (show Below w.heap.size w W3.drew by rw [hW3]; exact below_drew (B2.out.setCell (p := ⟨w.heap.size, 8, none⟩) (Nat.le_refl _) _))
  have x4 := eq_false (show ¬ c - 8 - 1 = 47 by have := HC.out; omega)
  have x5 := eq_true (show (47 : Int) ≤ 55 by decide)
  have H3 := Aside0.mk hl3
  have HC3 := Aside0.mk hcur3
  have HB64 := Aside0.mk hb64
  clear k8 c8 f8 R2 B2 hW3 hl3 hcur3
  refine start_ (n := 9) (S := fun w' => True) (ds := []) #[false, false, false, false, false, false, false, false, false] (by kernel_rfl) rfl rfl (trivial) (fun hHeld => ?_)
  refine pure_ (i := 0) (N := some 21) (v := ?_) (a' := ?_) #[true, false, false, false, false, false, false, false, false] rfl rfl (by kernel_rfl) (fun _ _ _ h => h) (Or.inl ⟨by rfl, ?_⟩) ?_ ?_
  rotate_left
  · intro w'
    go_simp
    with_reducible rfl
  rotate_left
  · simp only [Act.put, List.setIfInBounds_toArray, List.set_cons_zero, List.set_cons_succ, i64_w, i32_w]
    rfl
  refine pure_ (i := 1) (N := some 22) (v := ?_) (a' := ?_) #[true, true, false, false, false, false, false, false, false] rfl rfl (by kernel_rfl) (fun _ _ _ h => h) (Or.inl ⟨by rfl, ?_⟩) ?_ ?_
  rotate_left
  · intro w'
    go_simp
    with_reducible rfl
  rotate_left
  · simp only [Act.put, List.setIfInBounds_toArray, List.set_cons_zero, List.set_cons_succ, i64_w, i32_w]
    rfl
  refine pure_ (i := 2) (N := some 23) (v := ?_) (a' := ?_) #[true, true, true, false, false, false, false, false, false] rfl rfl (by kernel_rfl) (fun _ _ _ h => h) (Or.inl ⟨by rfl, ?_⟩) ?_ ?_
  rotate_left
  · intro w'
    go_simp
    with_reducible rfl
  rotate_left
  · simp only [Act.put, List.setIfInBounds_toArray, List.set_cons_zero, List.set_cons_succ, i64_w, i32_w]
    rfl
  refine pure_ (i := 3) (N := some 24) (v := ?_) (a' := ?_) #[true, true, true, true, false, false, false, false, false] rfl rfl (by kernel_rfl) (fun _ _ _ h => h) (Or.inl ⟨by rfl, ?_⟩) ?_ ?_
  rotate_left
  · intro w'
    go_simp
    with_reducible rfl
  rotate_left
  · simp only [Act.put, List.setIfInBounds_toArray, List.set_cons_zero, List.set_cons_succ, i64_w, i32_w]
    rfl
  refine pure_ (i := 4) (N := some 25) (v := ?_) (a' := ?_) #[true, true, true, true, true, false, false, false, false] rfl rfl (by kernel_rfl) (fun _ _ _ h => h) (Or.inl ⟨by rfl, ?_⟩) ?_ ?_
  rotate_left
  · intro w'
    go_simp
    with_reducible rfl
  rotate_left
  · simp only [Act.put, List.setIfInBounds_toArray, List.set_cons_zero, List.set_cons_succ, i64_w, i32_w]
    rfl
  refine pure_ (i := 5) (N := some 26) (v := ?_) (a' := ?_) #[true, true, true, true, true, true, false, false, false] rfl rfl (by kernel_rfl) (fun _ _ _ h => h) (Or.inl ⟨by rfl, ?_⟩) ?_ ?_
  rotate_left
  · intro w'
    go_simp
    with_reducible rfl
  rotate_left
  · simp only [Act.put, List.setIfInBounds_toArray, List.set_cons_zero, List.set_cons_succ, i64_w, i32_w]
    rfl
  refine one_ (i := 6) (N := some 27) #[true, true, true, true, true, true, true, false, false] rfl rfl (by kernel_rfl) (by decide) (fun K hK => ?_)
  refine step_copy_splice rfl (.tmp 25) (.tmp 26) 31 31 rfl 5 Try.underlying31 (by kernel_rfl) (some ⟨w.heap.size, 9, none⟩) (some ⟨ad.block, ad.off + 8 + 1, none⟩) 47 47 55 (c - 8 - 1) (by rfl) (by rfl) w.heap.size 9 (nums .u8 cur3) 78 R3.out (nums .u8 ((b.drop 9).take 47)) ?c1 ?c2 ?c3 ?c4 w.heap.size w B3.out (Nat.le_refl _) ?_
  case c1 => rw [nums_length, List.length_take, List.length_drop, HB64.out]; rfl
  case c2 => exact fun _ => ⟨rfl, ⟨ad.block, ad.off + 8 + 1, none⟩, rfl, fun j v hv => drop_cell HCL.out B3.out 9 (take_cell hv) (by omega) (by decide)⟩
  case c3 => rw [nums_length, nums_length, H3.out, List.length_take]; omega
  case c4 => exact fun v hv => nums_one _ _ v hv
  intro w4 hh4 hb4
  rw [nums_splice] at hh4
  have R4 := Aside0.mk (show HoldsRow w4 w.heap.size 78 (rowK .u8 (splice cur3 9 ((b.drop 9).take 47))) from hh4.out)
  have B4 := Aside0.mk hb4
  clear hh4 hb4
  rw [nums_length, show ((b.drop 9).take 47).length = 47 by rw [List.length_take, List.length_drop]; omega]
  refine hK.out _ _ (trivial) (fun hHeld => ?_)
  clear hK K
  refine norm_ (a' := ?_) ?_ ?_
  rotate_left
  · show Act.put _ (some 27) _ = _
    simp only [Act.put, List.setIfInBounds_toArray, List.set_cons_zero, List.set_cons_succ, i64_w, i32_w]
    rfl
  refine pure_ (i := 7) (N := some 28) (v := ?_) (a' := ?_) #[true, true, true, true, true, true, true, true, false] rfl rfl (by kernel_rfl) (fun _ _ _ h => h) (Or.inl ⟨by rfl, ?_⟩) ?_ ?_
  rotate_left
  · intro w'
    go_simp
    with_reducible rfl
  rotate_left
  · simp only [Act.put, List.setIfInBounds_toArray, List.set_cons_zero, List.set_cons_succ, i64_w, i32_w]
    rfl
  refine one_ (i := 8) (N := some 29) #[true, true, true, true, true, true, true, true, true] rfl rfl (by kernel_rfl) (by decide) (fun K hK => ?_)
  refine step_copy_splice rfl (.tmp 22) (.tmp 28) 31 31 rfl 5 Try.underlying31 (by kernel_rfl) (some ⟨w.heap.size, 56, none⟩) (some ⟨ad.block, ad.off + 8 + 1 + 47, none⟩) 8 8 8 (c - 8 - 1 - 47) (by rfl) (by rfl) w.heap.size 56 (nums .u8 (splice cur3 9 ((b.drop 9).take 47))) 78 R4.out (nums .u8 (b.drop 56)) ?c1 ?c2 ?c3 ?c4 w.heap.size w B4.out (Nat.le_refl _) ?_
  case c1 => rw [nums_length, List.length_drop, HB64.out]; rfl
  case c2 => exact fun _ => ⟨rfl, ⟨ad.block, ad.off + 8 + 1 + 47, none⟩, rfl, fun j v hv => drop_cell HCL.out B4.out 56 hv (by omega) (by decide)⟩
  case c3 => rw [nums_length, nums_length, length_splice _ _ _ (by rw [H3.out, List.length_take]; omega), H3.out, List.length_drop]; omega
  case c4 => exact fun v hv => nums_one _ _ v hv
  intro w5 hh5 hb5
  rw [nums_splice] at hh5
  have R5 := Aside0.mk (show HoldsRow w5 w.heap.size 78 (rowK .u8 (splice (splice cur3 9 ((b.drop 9).take 47)) 56 (b.drop 56))) from hh5.out)
  have B5 := Aside0.mk hb5
  clear hh5 hb5
  refine hK.out _ _ (trivial) (fun hHeld => ?_)
  clear hK K
  refine norm_ (a' := ?_) ?_ ?_
  rotate_left
  · show Act.put _ (some 29) _ = _
    simp only [Act.put, List.setIfInBounds_toArray, List.set_cons_zero, List.set_cons_succ, i64_w, i32_w]
    rfl
  refine done_ (by kernel_rfl) ?_
  
  have R6 := Aside0.mk (show HoldsRow w5 w.heap.size 78 (rowK .u8 b) by
    have := R5.out
    rw [HC3.out, parts_eq b HB64.out] at this
    exact this)
  have hsz : (rowK .u8 b).size = 64 := by rw [rowK_size, HB64.out]
  clear R5 R4 R3 B3 B4 HCL HC3 H3
  go_wp2_with (first | (refine wpList_load_row rfl 78 (.tmp 2) rfl w.heap.size rfl 78 (rowK .u8 b) (0, 0) _ R6.out Try.underlying78 rfl (by rw [hsz]; kernel_rfl) ?_) | (refine wpList_store_row rfl 78 _ _ rfl w.heap.size (rowK .u8 b) rfl rfl 78 (rowK .u8 b) R6.out (by rw [hsz]; kernel_rfl) rfl (rowK_one _ _) ?_))
  exact bodyPost_ret (results_cell2 (p := 2) (q := 3) (ty := 78) rfl _ _ w.heap.size (rowK .u8 b) rfl (run_loadVar_row _ w.heap.size 78 78 (rowK .u8 b) (0, 0) _ (R6.out.row _) Try.underlying78 rfl (by rw [hsz]; kernel_rfl))) rfl ⟨rfl, Go.Proofs.Ythnjkmjcacoajaa.Arr.below_setRow B5.out _ (Nat.le_refl _)⟩
end Go.Proofs.Ythnjkmjcacoajaa.Ext

/- strip.Front, walked. No condition beyond the row's own; bytes are bytes. -/
namespace Go.Proofs.Ythnjkmjcacoajaa.Ext
open Go Go.RowKit Go.Proofs.YthnjkmjcacoajaaW.PrintWords Go.Proofs.YthnjkmjcacoajaaW.PrintLast Go.Proofs.YthnjkmjcacoajaaW.PrintMore Go.Proofs.Ythnjkmjcacoajaa.Base Go.Proofs.Ythnjkmjcacoajaa.Arr
set_option linter.unusedVariables false
set_option linter.unusedSimpArgs false

def s00 : Array Value := #[.int .i64 0, .int .i64 0]
theorem s00_one : s00.all (·.oneCell') = true := by simp [s00, Value.oneCell']
set_option maxHeartbeats 4000000 in
set_option maxRecDepth 100000 in
theorem Front_none (w : World) (A : Option Addr) (c : Nat) (n : Nat) (hn : n ≠ 64) (hm : n ≤ 9223372036854775807) :
    Calls Try.prog 56 #[.slice A n c] w fun e w' => e = .returned (.tuple #[.agg s00, .int .i64 2]) ∧ Below w.heap.size w w' := by
  have hz := zero_cell
  have HNM := Aside0.mk (show n ≠ 64 ∧ n ≤ 9223372036854775807 from ⟨hn, hm⟩)
  have hsz : (rowK .u8 z64).size = 64 := by rw [rowK_size, z64_len]
  clear hn hm
  go_enter Try.func56, Try.ntmps56
  go_wp2_with fail
  obtain ⟨W1, hW1⟩ : ∃ W1, W1 = w.alloc (.cells #[.int .i64 0, .int .i64 0] 44) := ⟨_, rfl⟩
  have P1 := Aside0.mk (show HoldsRow W1 w.heap.size 44 s00 by rw [hW1]; exact HoldsRow.new _ _ _)
  have B1 := Aside0.mk (show Below w.heap.size w W1 by rw [hW1]; exact below_alloc (Below.refl _ _) _)
  rw [← hW1]
  clear hW1
  ((with_reducible refine (parts_none W1 A c n HNM.out.1 HNM.out.2).mono ?_))
  rintro e w2 ⟨rfl, hb⟩
  have P2 := Aside0.mk (P1.out.below hb P1.out.lt)
  have B2 := Aside0.mk (B1.out.trans (hb.mono B1.out.size))
  have HNEW := Aside0.mk (HoldsRow.new w2 78 (rowK .u8 z64))
  obtain ⟨W3, hW3⟩ : ∃ W3, W3 = (w2.alloc (.cells (rowK .u8 z64) 78)).setRow w2.heap.size (rowK .u8 z64) := ⟨_, rfl⟩
  have hb3 : Below w2.heap.size w2 W3 := by rw [hW3]; exact Go.Proofs.Ythnjkmjcacoajaa.Arr.below_setRow (below_alloc (Below.refl w2.heap.size w2) (.cells (rowK .u8 z64) 78)) _ (Nat.le_refl _)
  have P3 := Aside0.mk (P2.out.below hb3 P2.out.lt)
  have B3 := Aside0.mk (B2.out.trans (hb3.mono B2.out.size))
  have HW3 := Aside0.mk hW3
  clear hb P1 B1 P2 B2 hb3 hW3
  go_wp2_with (first | (refine wpList_store_row rfl 78 _ _ rfl w2.heap.size (rowK .u8 z64) rfl rfl 78 (rowK .u8 z64) HNEW.out (by rw [hsz]; kernel_rfl) rfl (rowK_one _ _) ?_; rw [← HW3.out]) | (refine wpList_store_row rfl 44 _ _ rfl w.heap.size s00 rfl rfl 44 s00 P3.out (by kernel_rfl) rfl s00_one ?_))
  exact bodyPost_ret (results_cell2 (p := 2) (q := 3) (ty := 44) rfl _ _ w.heap.size s00 rfl (run_loadVar_row _ w.heap.size 44 44 s00 (0, 0) _ (P3.out.row _) Try.underlying44 rfl (by kernel_rfl))) rfl ⟨rfl, Go.Proofs.Ythnjkmjcacoajaa.Arr.below_setRow B3.out _ (Nat.le_refl _)⟩
theorem Bytes.take {l : List Int} (h : Bytes l) (n : Nat) : Bytes (l.take n) := fun x hx => h x (List.mem_of_mem_take hx)
set_option maxHeartbeats 4000000 in
set_option maxRecDepth 100000 in
theorem Front_calls (w : World) (A : Option Addr) (c : Nat) (b : List Int) (hr : Kd.C (Kd.int .u8) w A 64 b) (hc : 64 ≤ c) (hbb : Bytes b) :
    Calls Try.prog 56 #[.slice A 64 c] w fun e w' => e = .returned (.tuple #[.agg (stampC (valN (b.take 8) 8)), .int .i64 0]) ∧ Below w.heap.size w w' := by
  have hz := zero_cell
  have HR := Aside0.mk hr
  have HC := Aside0.mk hc
  have HB := Aside0.mk hbb
  have HB64 := Aside0.mk hr.1
  have hsz : (rowK .u8 b).size = 64 := by rw [rowK_size, hr.1]
  have hszz : (rowK .u8 z64).size = 64 := by rw [rowK_size, z64_len]
  have hsz2 : (stampC (valN (b.take 8) 8)).size = 2 := rfl
  clear hr hc hbb
  go_enter Try.func56, Try.ntmps56
  go_wp2_with fail
  obtain ⟨W1, hW1⟩ : ∃ W1, W1 = w.alloc (.cells #[.int .i64 0, .int .i64 0] 44) := ⟨_, rfl⟩
  have P1 := Aside0.mk (show HoldsRow W1 w.heap.size 44 s00 by rw [hW1]; exact HoldsRow.new _ _ _)
  have B1 := Aside0.mk (show Below w.heap.size w W1 by rw [hW1]; exact below_alloc (Below.refl _ _) _)
  rw [← hW1]
  clear hW1
  ((with_reducible refine (parts_calls W1 A c b (Kd.C_below HR.out B1.out) HC.out).mono ?_))
  rintro e w2 ⟨rfl, hb⟩
  have P2 := Aside0.mk (P1.out.below hb P1.out.lt)
  have B2 := Aside0.mk (B1.out.trans (hb.mono B1.out.size))
  have HNEW := Aside0.mk (HoldsRow.new w2 78 (rowK .u8 z64))
  obtain ⟨W3, hW3⟩ : ∃ W3, W3 = (w2.alloc (.cells (rowK .u8 z64) 78)).setRow w2.heap.size (rowK .u8 b) := ⟨_, rfl⟩
  have hb3 : Below w2.heap.size w2 W3 := by rw [hW3]; exact Go.Proofs.Ythnjkmjcacoajaa.Arr.below_setRow (below_alloc (Below.refl w2.heap.size w2) (.cells (rowK .u8 z64) 78)) _ (Nat.le_refl _)
  have P3 := Aside0.mk (P2.out.below hb3 P2.out.lt)
  have B3 := Aside0.mk (B2.out.trans (hb3.mono B2.out.size))
  have R3 := Aside0.mk (show HoldsRow W3 w2.heap.size 78 (rowK .u8 b) by rw [hW3]; exact HNEW.out.row _)
  have HW3 := Aside0.mk hW3
  have HCL := Aside0.mk (show ∀ j v, (nums .u8 (b.take 8))[j]? = some v → W3.cell? ((⟨w2.heap.size, 0, none⟩ : Addr).add j) = some v from fun j v hv => by
    have := R3.out.cell (j := j) (v := v) (by have := take_cell hv; unfold rowK; simpa using this)
    unfold Addr.add
    split
    · rename_i e; rw [e] at this; exact this
    · rw [Nat.zero_add]; exact this)
  clear hb P1 B1 P2 B2 hb3 hW3
  go_wp2_with (first | (refine wpList_store_row rfl 78 _ _ rfl w2.heap.size (rowK .u8 b) rfl rfl 78 (rowK .u8 z64) HNEW.out (by rw [hsz]; kernel_rfl) (by rw [hsz, hszz]) (rowK_one _ _) ?_; rw [← HW3.out]) | (refine wpList_load_at rfl 74 (.tmp 14) rfl ⟨w2.heap.size, 0, none⟩ rfl (nums .u8 (b.take 8)) _ HCL.out Try.underlying74 rfl (by rw [nums_length, List.length_take, HB64.out]; kernel_rfl) ?_))
  rw [nums_rowK]
  have hl8 : (b.take 8).length = 8 := by rw [List.length_take, HB64.out]; rfl
  have HB8 := HB.out.take 8
  ((with_reducible refine (stamp_calls W3 (b.take 8) hl8 HB8).mono ?_))
  rintro e w4 ⟨rfl, hb⟩
  have P4 := Aside0.mk (P3.out.below hb P3.out.lt)
  have B4 := Aside0.mk (B3.out.trans (hb.mono B3.out.size))
  clear hb P3 B3 R3 HW3 HCL HNEW
  go_wp2_with (first | (refine wpList_store_row rfl 44 _ _ rfl w.heap.size (stampC (valN (b.take 8) 8)) rfl rfl 44 s00 P4.out (by rw [hsz2]; kernel_rfl) rfl (stamp_one _) ?_))
  exact bodyPost_ret (results_cell2 (p := 2) (q := 3) (ty := 44) rfl _ _ w.heap.size (stampC (valN (b.take 8) 8)) rfl (run_loadVar_row _ w.heap.size 44 44 (stampC (valN (b.take 8) 8)) (0, 0) _ (P4.out.row _) Try.underlying44 rfl (by rw [hsz2]; kernel_rfl))) rfl ⟨rfl, Go.Proofs.Ythnjkmjcacoajaa.Arr.below_setRow B4.out _ (Nat.le_refl _)⟩
end Go.Proofs.Ythnjkmjcacoajaa.Ext

/- slices.Grow and slices.Concat, walked (under way). -/
namespace Go.Proofs.Ythnjkmjcacoajaa.Ext
open Go Go.RowKit Go.Proofs.YthnjkmjcacoajaaW.PrintWords Go.Proofs.YthnjkmjcacoajaaW.PrintLast Go.Proofs.YthnjkmjcacoajaaW.PrintMore Go.Proofs.Ythnjkmjcacoajaa.Base Go.Proofs.Ythnjkmjcacoajaa.Arr
set_option linter.unusedVariables false
set_option linter.unusedSimpArgs false

theorem zero_one (x : Value) (n : Nat) : Builtin.zeroCells #[x] n = (List.replicate n x).toArray := by
  apply Array.ext
  · simp [Builtin.zeroCells]
  · intro i h1 h2
    simp [Builtin.zeroCells, Nat.mod_one]
set_option maxHeartbeats 4000000 in
set_option maxRecDepth 100000 in
theorem Grow_calls (w : World) :
    Calls Try.prog 62 #[.slice none 0 0, .int .i64 64] w fun e w' => ∃ v, e = .returned v ∧ Kd.R (Kd.int .u8) 5 w' w.heap.size (fun _ => True) v [] ∧ Below w.heap.size w w' := by
  have hb : Try.t5.bytes = 1 := by kernel_rfl
  go_enter Try.func62, Try.ntmps62
  go_wp2_with fail
  have hcut : ∃ C : Nat, (Question.appendCap 64 0 5).cut (w.tape w.drawn (Question.appendCap 64 0 5)) = C ∧ 64 ≤ C ∧ C ≤ 9223372036854775807 := by
    refine ⟨_, rfl, ?_, ?_⟩
    · show 64 ≤ 64 + _ % _
      omega
    · show 64 + _ % (2 ^ 63 - 64) ≤ _
      have := Nat.mod_lt (w.tape w.drawn (Question.appendCap 64 0 5)) (show 0 < 2 ^ 63 - 64 by decide)
      omega
  obtain ⟨C, hC, hC1, hC2⟩ := hcut
  rw [hC]
  have e : Builtin.zeroCells #[Value.int IntKind.u8 0] 64 ++ Builtin.zeroCells #[Value.int IntKind.u8 0] (C - 64) = rowK .u8 (List.replicate C 0) := by
    rw [zero_one, zero_one]
    unfold rowK nums
    rw [List.map_replicate, List.append_toArray, List.replicate_append_replicate]
    congr 2; omega
  rw [e]
  go_ret
  refine ⟨_, rfl, ?_, below_drew (below_alloc (Below.refl _ _) _)⟩
  have h1 := (HoldsRow.new w 5 (rowK .u8 (List.replicate C 0))).own (base := w.heap.size) (Nat.le_refl _) (by rw [List.length_replicate]; exact hC2)
  have h2 := Kd.R_take (m := 0) h1 (Nat.zero_le _)
  rw [List.length_replicate] at h2
  exact Kd.R_drew h2
/-- how many bytes the first j rows have -/
def sumL (ls : List (List Int)) (j : Nat) : Nat := ((ls.take j).flatten).length
theorem sumL_succ (ls : List (List Int)) (j : Nat) (hj : j < ls.length) : sumL ls (j + 1) = sumL ls j + (ls.getD j []).length := by
  unfold sumL
  rw [List.take_add_one, List.getElem?_eq_getElem hj, List.flatten_append, List.length_append, List.getD_eq_getElem?_getD, List.getElem?_eq_getElem hj]
  simp
theorem flat_succ (ls : List (List Int)) (j : Nat) (hj : j < ls.length) : (ls.take (j + 1)).flatten = (ls.take j).flatten ++ ls.getD j [] := by
  rw [List.take_add_one, List.getElem?_eq_getElem hj, List.flatten_append, List.getD_eq_getElem?_getD, List.getElem?_eq_getElem hj]
  simp
theorem sumL_le (ls : List (List Int)) (j : Nat) : sumL ls j ≤ ls.flatten.length := by
  unfold sumL
  have h : ls.flatten = (ls.take j).flatten ++ (ls.drop j).flatten := by rw [← List.flatten_append, List.take_append_drop]
  rw [h, List.length_append]
  omega
theorem sumL_all (ls : List (List Int)) : sumL ls ls.length = ls.flatten.length := by unfold sumL; rw [List.take_length]
set_option maxHeartbeats 4000000 in
set_option maxRecDepth 100000 in
theorem Concat_calls (w : World) (A : Option Addr) (c : Nat) (ls : List (List Int)) (hr : (Kd.slice 5 (Kd.int .u8)).C w A ls.length ls) (hc : ls.length ≤ c) (h64 : ls.flatten.length = 64) :
    Calls Try.prog 54 #[.slice A ls.length c] w fun e w' => ∃ v, e = .returned v ∧ Kd.R (Kd.int .u8) 5 w' w.heap.size (fun _ => True) v ls.flatten ∧ Below w.heap.size w w' := by
  have HR := Aside0.mk hr
  have HC := Aside0.mk hc
  have H64 := Aside0.mk h64
  have HM := Aside0.mk hr.2.1
  clear hr hc h64
  go_enter Try.func54, Try.ntmps54
  go_wp2_with fail
  go_loopw [3, 11] (fun v i wr => ∃ (j : Nat), j ≤ ls.length ∧ v = .int .i64 (sumL ls j : Int) ∧ i = .int .i64 (j : Nat) ∧ w = wr) (fun _ i _ => ls.length - (intOf i).toNat)
  case atStart => exact ⟨0, by omega, rfl, rfl, rfl⟩
  case round =>
    obtain ⟨j, hj, rfl, rfl, rfl⟩ := hrel
    by_cases hlt : j < ls.length
    · obtain ⟨ad, cs, rfl, -, ⟨A5, c5, rfl, hl5, hr5⟩, hcell⟩ := Kd.C_get HR.out ([] : List Int) (j : Int) (by omega) (by omega)
      rw [Int.toNat_natCast] at hcell hl5 hr5
      have K : w.cell? (ad.add j) = some (.slice A5 (ls.getD j []).length c5) := by
        have h : w.cell? (ad.add (j * 1 + 0)) = some (.slice A5 (ls.getD j []).length c5) := hcell 0 _ rfl
        rw [Nat.mul_one] at h
        exact h
      clear hcell hr5
      have d1 : decide ((j : Int) < (ls.length : Int)) = true := decide_eq_true (by omega)
      have b0 := eq_true (show (0 : Int) ≤ (j : Int) by omega)
      have b1 := eq_true (show (j : Int) < (ls.length : Int) by omega)
      have hs := sumL_succ ls j hlt
      have hle := sumL_le ls (j + 1)
      obtain ⟨q, hq⟩ : ∃ q, q = sumL ls j := ⟨_, rfl⟩
      obtain ⟨m, hm⟩ : ∃ m, m = (ls.getD j []).length := ⟨_, rfl⟩
      rw [← hq, ← hm] at hs
      rw [← hm] at K hl5
      have hx1 := eq_false (show ¬ ((q : Int) + (m : Int) < 0) by omega)
      have hx0 : wrap64 ((q : Int) + (m : Int)) = (q : Int) + (m : Int) := by have := H64.out; unfold wrap64; omega
      have hx2 : wrap64 ((j : Int) + 1) = (j : Int) + 1 := by have := HM.out; unfold wrap64; omega
      have HS := Aside0.mk hs
      rw [← hq]
      clear hs hle hm hq
      go_wp2_with fail
      refine ⟨⟨j + 1, by omega, ?g1, ?g2, by first | rfl | trivial⟩, ?g4⟩
      case g1 => rw [hx0, HS.out, Int.natCast_add]
      case g2 => rw [hx2, Int.natCast_add]; rfl
      case g4 =>
        rw [hx2]
        show ls.length - ((j : Int) + 1).toNat < ls.length - (j : Int).toNat
        omega
    · obtain rfl : j = ls.length := by omega
      have d1 : decide ((ls.length : Int) < (ls.length : Int)) = false := decide_eq_false (by omega)
      rw [sumL_all, H64.out]
      clear hlt hj
      go_wp2_with (((with_reducible refine (Grow_calls w).mono ?_)); rintro e w1 ⟨v, rfl, ho, hb⟩; have R1 := Aside0.mk ho; have B1 := Aside0.mk hb; clear ho hb)
      go_loopw [6, 27] (fun v i wr => ∃ (j : Nat), j ≤ ls.length ∧ i = .int .i64 (j : Nat) ∧ Aside0 (Kd.R (Kd.int .u8) 5 wr w.heap.size (fun _ => True) v ((ls.take j).flatten)) ∧ Aside0 (Below w.heap.size w wr)) (fun _ i _ => ls.length - (intOf i).toNat)
      case atStart => exact ⟨0, by omega, rfl, R1, B1⟩
      case round =>
        obtain ⟨j, hj, rfl, R, B⟩ := hrel
        by_cases hlt : j < ls.length
        · obtain ⟨ad, cs, rfl, -, ⟨A5, c5, rfl, hl5, hr5⟩, hcell⟩ := Kd.C_get (Kd.C_below HR.out B.out) ([] : List Int) (j : Int) (by omega) (by omega)
          rw [Int.toNat_natCast] at hcell hl5 hr5
          have K : wr.cell? (ad.add j) = some (.slice A5 (ls.getD j []).length c5) := by
            have h : wr.cell? (ad.add (j * 1 + 0)) = some (.slice A5 (ls.getD j []).length c5) := hcell 0 _ rfl
            rw [Nat.mul_one] at h
            exact h
          clear hcell
          have d1 : decide ((j : Int) < (ls.length : Int)) = true := decide_eq_true (by omega)
          have b0 := eq_true (show (0 : Int) ≤ (j : Int) by omega)
          have b1 := eq_true (show (j : Int) < (ls.length : Int) by omega)
          have hs := sumL_succ ls j hlt
          have hle := sumL_le ls (j + 1)
          have HFL := Aside0.mk (flat_succ ls j hlt)
          obtain ⟨m, hm⟩ : ∃ m, m = (ls.getD j []).length := ⟨_, rfl⟩
          rw [← hm] at hs K hl5 hr5
          have HROW2 := Aside0.mk hr5
          clear hr5
          have HAL := Aside0.mk (show ((ls.take j).flatten.length + m) * 1 ≤ 140737488355328 by
            have := H64.out
            unfold sumL at hs hle
            omega)
          have hx2 : wrap64 ((j : Int) + 1) = (j : Int) + 1 := by have := HM.out; unfold wrap64; omega
          clear hs hle hm
          go_wp2_with (first | (at_builtin; refine Kd.R_append_rows (Kd.int .u8) (w0 := w) w.heap.size rfl (.tmp 31) (.tmp 32) 31 5 (.int .u8 0) 1 rfl Try.underlying31 (by kernel_rfl) rfl (by decide) (by decide) u6 ((ls.take j).flatten) (ls.getD j []) A5 m c5 (fun _ => True) (fun _ => False) rfl rfl R.out HROW2.out (fun _ _ h => h) (fun _ h => h.elim) (fun _ _ => trivial) B.out B.out.size HAL.out ?_; intro v1 w3 ho hb hg hat; rw [← HFL.out] at ho; have R3 := Aside0.mk ho; have B3 := Aside0.mk hb; clear ho hb hg hat))
          refine ⟨⟨j + 1, by omega, ?g1, R3, B3⟩, ?g4⟩
          case g1 => rw [hx2, Int.natCast_add]; rfl
          case g4 =>
            rw [hx2]
            show ls.length - ((j : Int) + 1).toNat < ls.length - (j : Int).toNat
            omega
        · obtain rfl : j = ls.length := by omega
          have d1 : decide ((ls.length : Int) < (ls.length : Int)) = false := decide_eq_false (by omega)
          have RF := Aside0.mk (show Kd.R (Kd.int .u8) 5 wr w.heap.size (fun _ => True) u6 ls.flatten by have := R.out; rw [List.take_length] at this; exact this)
          clear hlt hj
          go_wp2_with fail
          go_ret
          exact ⟨_, rfl, RF.out, B.out⟩
end Go.Proofs.Ythnjkmjcacoajaa.Ext

/- The bytes of strip's cell, walked. No condition beyond the row's own. -/
namespace Go.Proofs.Ythnjkmjcacoajaa.Ext
open Go Go.RowKit Go.Proofs.YthnjkmjcacoajaaW.PrintWords Go.Proofs.YthnjkmjcacoajaaW.PrintLast Go.Proofs.YthnjkmjcacoajaaW.PrintMore Go.Proofs.Ythnjkmjcacoajaa.Base Go.Proofs.Ythnjkmjcacoajaa.Arr
set_option linter.unusedVariables false
set_option linter.unusedSimpArgs false

/-- a part of a row that is held, as what is read -/
theorem hold_C {W : World} {g t : Nat} {b : List Int} (h : HoldsRow W g t (rowK .u8 b)) (off n : Nat) (hn : off + n ≤ b.length) (hm : b.length ≤ 9223372036854775807) : Kd.C (Kd.int .u8) W (some ⟨g, off, none⟩) n ((b.drop off).take n) := by
  refine ⟨by rw [List.length_take, List.length_drop]; omega, by omega, fun h0 => ⟨⟨g, off, none⟩, rfl, fun j x hx => ⟨[.int .u8 x], rfl, rfl, fun i u hu => ?_⟩⟩⟩
  have hi : i = 0 := by
    cases i with
    | zero => rfl
    | succ i => simp at hu
  subst hi
  have hu' : Value.int .u8 x = u := by simpa using hu
  subst hu'
  have hr := range_row h off n j (.int .u8 x) (by unfold nums; rw [List.getElem?_map, hx]; rfl)
  have e : ((⟨g, off, none⟩ : Addr).add (j * (Kd.int .u8).sz + 0)) = ⟨g, off + j, none⟩ := by
    show (⟨g, off, none⟩ : Addr).add (j * 1 + 0) = _
    rw [Nat.mul_one, Nat.add_zero]
    unfold Addr.add
    split
    · rename_i e; rw [e]; rfl
    · rfl
  rw [e]
  exact hr
/-- slices in a row that is held, as rows that are read -/
theorem slices_C {W : World} {g t : Nat} {vs : List Value} {ls : List (List Int)} (h : HoldsRow W g t vs.toArray) (hlen : vs.length = ls.length) (hm : ls.length ≤ 9223372036854775807)
    (hK : ∀ (j : Nat) (l : List Int), ls[j]? = some l → ∃ (A : Option Addr) (c : Nat), vs[j]? = some (Value.slice A l.length c) ∧ l.length ≤ c ∧ Kd.C (Kd.int .u8) W A l.length l) : (Kd.slice 5 (Kd.int .u8)).C W (some ⟨g, 0, none⟩) ls.length ls := by
  refine ⟨rfl, hm, fun h0 => ⟨⟨g, 0, none⟩, rfl, fun j l hl => ?_⟩⟩
  obtain ⟨A, c, hv, hle, hc⟩ := hK j l hl
  refine ⟨[.slice A l.length c], rfl, ⟨A, c, rfl, hle, hc⟩, fun i u hu => ?_⟩
  have hi : i = 0 := by
    cases i with
    | zero => rfl
    | succ i => simp at hu
  subst hi
  have hu' : Value.slice A l.length c = u := by simpa using hu
  subst hu'
  have hr := h.cell (j := j) (v := .slice A l.length c) (by simpa using hv)
  have e : ((⟨g, 0, none⟩ : Addr).add (j * (Kd.slice 5 (Kd.int .u8)).sz + 0)) = ⟨g, j, none⟩ := by
    show (⟨g, 0, none⟩ : Addr).add (j * 1 + 0) = _
    rw [Nat.mul_one, Nat.add_zero]
    unfold Addr.add
    split
    · rename_i e; rw [e]
    · rw [Nat.zero_add]
  rw [e]
  exact hr
def cutL (b : List Int) : List (List Int) := [b.take 8, [rd b 8], (b.drop 9).take 47, b.drop 56]
theorem cut_flat (b : List Int) (hb : b.length = 64) : (cutL b).flatten = b := by
  have e9 : b.drop 8 = rd b 8 :: b.drop 9 := by
    rw [List.drop_eq_getElem_cons (by omega : 8 < b.length)]
    congr 1
    show _ = rd b ((8 : Nat) : Int)
    rw [rd_nat, List.getD_eq_getElem?_getD, List.getElem?_eq_getElem (by omega)]; rfl
  have e56 : b.drop 9 = (b.drop 9).take 47 ++ b.drop 56 := by
    rw [show b.drop 56 = (b.drop 9).drop 47 by rw [List.drop_drop]]
    exact (List.take_append_drop 47 (b.drop 9)).symm
  show b.take 8 ++ ([rd b 8] ++ ((b.drop 9).take 47 ++ (b.drop 56 ++ []))) = b
  rw [List.append_nil, ← e56]
  show b.take 8 ++ (rd b 8 :: b.drop 9) = b
  rw [← e9, List.take_append_drop]
set_option maxHeartbeats 4000000 in
set_option maxRecDepth 100000 in
theorem bytes_calls (w : World) (b : List Int) (hb : b.length = 64) :
    Calls Try.prog 37 #[.agg (rowK .u8 b)] w fun e w' => ∃ v, e = .returned v ∧ Kd.R (Kd.int .u8) 5 w' w.heap.size (fun _ => True) v b ∧ Below w.heap.size w w' := by
  have HB := Aside0.mk hb
  obtain ⟨W1, hW1⟩ : ∃ W1, W1 = w.alloc (.cells (rowK .u8 b) 78) := ⟨_, rfl⟩
  obtain ⟨g, hg⟩ : ∃ g, g = w.heap.size := ⟨_, rfl⟩
  have P1 := Aside0.mk (show HoldsRow W1 g 78 (rowK .u8 b) by rw [hW1, hg]; exact HoldsRow.new _ _ _)
  have B1 := Aside0.mk (show Below w.heap.size w W1 by rw [hW1]; exact below_alloc (Below.refl _ _) _)
  have HG := Aside0.mk hg
  have HW1 := Aside0.mk hW1
  clear hb hg hW1
  go_enter Try.func37, Try.ntmps37
  go_wp2_with fail
  rw [← HW1.out, ← HG.out]
  have K8 : W1.drew.cell? ⟨g, 8, none⟩ = some (.int .u8 (rd b 8)) := P1.out.cell (rowK_get _ _ 8 (by have := HB.out; omega))
  obtain ⟨W2, hW2⟩ : ∃ W2, W2 = W1.drew.alloc (.cells #[.int .u8 (rd b 8)] 5) := ⟨_, rfl⟩
  obtain ⟨W3, hW3⟩ : ∃ W3, W3 = W2.alloc (.cells #[.slice (some ⟨g, 0, none⟩) 8 8, .slice (some ⟨W1.heap.size, 0, none⟩) 1 1, .slice (some ⟨g, 9, none⟩) 47 47, .slice (some ⟨g, 56, none⟩) 8 8] 31) := ⟨_, rfl⟩
  have P2 : HoldsRow W2 g 78 (rowK .u8 b) := by rw [hW2]; exact HoldsRow.alloc (show HoldsRow W1.drew g 78 (rowK .u8 b) from P1.out) _
  have Q2 : HoldsRow W2 W1.heap.size 5 (rowK .u8 [rd b 8]) := by rw [hW2]; exact HoldsRow.new W1.drew _ _
  have P3 : HoldsRow W3 g 78 (rowK .u8 b) := by rw [hW3]; exact HoldsRow.alloc P2 _
  have Q3 : HoldsRow W3 W1.heap.size 5 (rowK .u8 [rd b 8]) := by rw [hW3]; exact HoldsRow.alloc Q2 _
  have T3 : HoldsRow W3 W2.heap.size 31 [.slice (some ⟨g, 0, none⟩) 8 8, .slice (some ⟨W1.heap.size, 0, none⟩) 1 1, .slice (some ⟨g, 9, none⟩) 47 47, .slice (some ⟨g, 56, none⟩) 8 8].toArray := by rw [hW3]; exact HoldsRow.new _ _ _
  have hB3 : Below w.heap.size w W3 := by rw [hW3, hW2]; exact below_alloc (below_alloc (below_drew B1.out) _) _
  have HLS : (Kd.slice 5 (Kd.int .u8)).C W3 (some ⟨W2.heap.size, 0, none⟩) (cutL b).length (cutL b) := by
    have hb := HB.out
    refine slices_C T3 rfl (by show 4 ≤ _; omega) (fun j l hl => ?_)
    match j, hl with
    | 0, hl =>
      obtain rfl : b.take 8 = l := by simpa [cutL] using hl
      have e : (b.take 8).length = 8 := by rw [List.length_take]; omega
      have := hold_C P3 0 8 (by omega) (by omega)
      rw [List.drop_zero] at this
      rw [e]
      exact ⟨_, 8, rfl, by omega, this⟩
    | 1, hl =>
      obtain rfl : [rd b 8] = l := by simpa [cutL] using hl
      exact ⟨_, 1, rfl, by simp, hold_C Q3 0 1 (by simp) (by simp)⟩
    | 2, hl =>
      obtain rfl : (b.drop 9).take 47 = l := by simpa [cutL] using hl
      have e : ((b.drop 9).take 47).length = 47 := by rw [List.length_take, List.length_drop]; omega
      rw [e]
      exact ⟨_, 47, rfl, by omega, hold_C P3 9 47 (by omega) (by omega)⟩
    | 3, hl =>
      obtain rfl : b.drop 56 = l := by simpa [cutL] using hl
      have e : (b.drop 56).length = 8 := by rw [List.length_drop]; omega
      have := hold_C P3 56 8 (by omega) (by omega)
      rw [List.take_of_length_le (by omega)] at this
      rw [e]
      exact ⟨_, 8, rfl, by omega, this⟩
    | j + 4, hl => simp [cutL] at hl
  have HCALL := Aside0.mk (show Calls Try.prog 54 #[.slice (some ⟨W2.heap.size, 0, none⟩) 4 4] W3 fun e w' => ∃ v, e = .returned v ∧ Kd.R (Kd.int .u8) 5 w' W3.heap.size (fun _ => True) v b ∧ Below W3.heap.size W3 w' from by
    have h := Concat_calls W3 (some ⟨W2.heap.size, 0, none⟩) 4 (cutL b) HLS (Nat.le_refl _) (by rw [cut_flat b HB.out]; exact HB.out)
    rw [cut_flat b HB.out] at h
    exact h)
  have HB3 := Aside0.mk hB3
  have HW2 := Aside0.mk hW2
  have HW3 := Aside0.mk hW3
  clear P2 Q2 P3 Q3 T3 hB3 HLS hW2 hW3
  refine start_ (n := 12) (S := fun w' => w'.cell? ⟨g, 8, none⟩ = some (.int .u8 (rd b 8))) (ds := []) #[false, false, false, false, false, false, false, false, false, false, false, false] (by kernel_rfl) rfl rfl (K8) (fun hHeld => ?_)
  refine pure_ (i := 0) (N := some 3) (v := ?_) (a' := ?_) #[true, false, false, false, false, false, false, false, false, false, false, false] rfl rfl (by kernel_rfl) (fun _ _ _ h => h) (Or.inl ⟨by rfl, ?_⟩) ?_ ?_
  rotate_left
  · intro w'
    go_simp
    with_reducible rfl
  rotate_left
  · simp only [Act.put, List.setIfInBounds_toArray, List.set_cons_zero, List.set_cons_succ, i64_w, i32_w]
    rfl
  refine pure_ (i := 1) (N := some 4) (v := ?_) (a' := ?_) #[true, true, false, false, false, false, false, false, false, false, false, false] rfl rfl (by kernel_rfl) (fun _ _ _ h => h) (Or.inl ⟨by rfl, ?_⟩) ?_ ?_
  rotate_left
  · intro w'
    go_simp
    with_reducible rfl
  rotate_left
  · simp only [Act.put, List.setIfInBounds_toArray, List.set_cons_zero, List.set_cons_succ, i64_w, i32_w]
    rfl
  refine pure_ (i := 2) (N := some 5) (v := ?_) (a' := ?_) #[true, true, true, false, false, false, false, false, false, false, false, false] rfl rfl (by kernel_rfl) (fun _ _ _ h => h) (Or.inl ⟨by rfl, ?_⟩) ?_ ?_
  rotate_left
  · intro w'
    go_simp
    with_reducible rfl
  rotate_left
  · simp only [Act.put, List.setIfInBounds_toArray, List.set_cons_zero, List.set_cons_succ, i64_w, i32_w]
    rfl
  refine pure_ (i := 5) (N := some 8) (v := ?_) (a' := ?_) #[true, true, true, false, false, true, false, false, false, false, false, false] rfl rfl (by kernel_rfl) (fun _ _ _ h => h) (Or.inl ⟨by rfl, ?_⟩) ?_ ?_
  rotate_left
  · intro w'
    go_simp
    with_reducible rfl
  rotate_left
  · simp only [Act.put, List.setIfInBounds_toArray, List.set_cons_zero, List.set_cons_succ, i64_w, i32_w]
    rfl
  refine pure_ (i := 6) (N := some 9) (v := ?_) (a' := ?_) #[true, true, true, false, false, true, true, false, false, false, false, false] rfl rfl (by kernel_rfl) (fun _ _ _ h => h) (Or.inl ⟨by rfl, ?_⟩) ?_ ?_
  rotate_left
  · intro w'
    go_simp
    with_reducible rfl
  rotate_left
  · simp only [Act.put, List.setIfInBounds_toArray, List.set_cons_zero, List.set_cons_succ, i64_w, i32_w]
    rfl
  refine pure_ (i := 7) (N := some 10) (v := ?_) (a' := ?_) #[true, true, true, false, false, true, true, true, false, false, false, false] rfl rfl (by kernel_rfl) (fun _ _ _ h => h) (Or.inl ⟨by rfl, ?_⟩) ?_ ?_
  rotate_left
  · intro w'
    go_simp
    with_reducible rfl
  rotate_left
  · simp only [Act.put, List.setIfInBounds_toArray, List.set_cons_zero, List.set_cons_succ, i64_w, i32_w]
    rfl
  refine pure_ (i := 8) (N := some 11) (v := ?_) (a' := ?_) #[true, true, true, false, false, true, true, true, true, false, false, false] rfl rfl (by kernel_rfl) (fun _ _ _ h => h) (Or.inl ⟨by rfl, ?_⟩) ?_ ?_
  rotate_left
  · intro w'
    go_simp
    with_reducible rfl
  rotate_left
  · simp only [Act.put, List.setIfInBounds_toArray, List.set_cons_zero, List.set_cons_succ, i64_w, i32_w]
    rfl
  refine take_ (i := 3) (N := some 6) (v := ?_) (a' := ?_) #[true, true, true, true, false, true, true, true, true, false, false, false] rfl rfl (by kernel_rfl) (fun _ _ _ h => h) (Or.inl ⟨by rfl, ?_⟩) hHeld ?_ ?_
  rotate_left
  · intro w' s0
    go_simp
    with_reducible rfl
  rotate_left
  · simp only [Act.put, List.setIfInBounds_toArray, List.set_cons_zero, List.set_cons_succ, i64_w, i32_w]
    rfl
  refine one_ (i := 4) (N := some 7) #[true, true, true, true, true, true, true, true, true, false, false, false] rfl rfl (by kernel_rfl) (by decide) (fun K hK => ?_)
  refine value_ (w1 := W2) (v := .slice (some ⟨W1.heap.size, 0, none⟩) 1 1) (by rfl) rfl ?_ ?_
  · rw [HW2.out]
    go_simp
  refine hK.out _ _ ((by rw [HW2.out]; exact cell_alloc_old _ K8)) (fun hHeld => ?_)
  clear hK K
  refine norm_ (a' := ?_) ?_ ?_
  rotate_left
  · show Act.put _ (some 7) _ = _
    simp only [Act.put, List.setIfInBounds_toArray, List.set_cons_zero, List.set_cons_succ, i64_w, i32_w]
    rfl
  refine one_ (i := 9) (N := some 12) #[true, true, true, true, true, true, true, true, true, true, false, false] rfl rfl (by kernel_rfl) (by decide) (fun K hK => ?_)
  refine value_ (w1 := W3) (v := .slice (some ⟨W2.heap.size, 0, none⟩) 4 4) (by rfl) rfl ?_ ?_
  · rw [HW3.out]
    go_simp
  refine hK.out _ _ ((by rw [HW3.out, HW2.out]; exact cell_alloc_old _ (cell_alloc_old _ K8))) (fun hHeld => ?_)
  clear hK K
  refine norm_ (a' := ?_) ?_ ?_
  rotate_left
  · show Act.put _ (some 12) _ = _
    simp only [Act.put, List.setIfInBounds_toArray, List.set_cons_zero, List.set_cons_succ, i64_w, i32_w]
    rfl
  refine one_ (i := 10) (N := some 13) #[true, true, true, true, true, true, true, true, true, true, true, false] rfl rfl (by kernel_rfl) (by decide) (fun K hK => ?_)
  refine goes_ Try.func54 (by kernel_rfl) rfl #[.slice (some ⟨W2.heap.size, 0, none⟩) 4 4] (by rfl) rfl rfl (by simp only [List.map_toArray, List.map_cons, List.map_nil]; rfl) ?_
  with_reducible refine (HCALL.out).mono ?_
  rintro e w5 ⟨v5, rfl, ho, hb5⟩
  refine ⟨_, rfl, ?_⟩
  have R5 := Aside0.mk ho
  have B5 := Aside0.mk hb5
  clear ho hb5
  refine hK.out _ _ ((pw_cell_below B5.out (by rw [HW3.out, HW2.out]; exact cell_alloc_old _ (cell_alloc_old _ K8)))) (fun hHeld => ?_)
  clear hK K
  refine norm_ (a' := ?_) ?_ ?_
  rotate_left
  · show Act.put _ (some 13) _ = _
    simp only [Act.put, List.setIfInBounds_toArray, List.set_cons_zero, List.set_cons_succ, i64_w, i32_w]
    rfl
  refine pure_ (i := 11) (N := some 2) (v := ?_) (a' := ?_) #[true, true, true, true, true, true, true, true, true, true, true, true] rfl rfl (by kernel_rfl) (fun _ _ _ h => h) (Or.inl ⟨by rfl, ?_⟩) ?_ ?_
  rotate_left
  · intro w'
    go_simp
    with_reducible rfl
  rotate_left
  · simp only [Act.put, List.setIfInBounds_toArray, List.set_cons_zero, List.set_cons_succ, i64_w, i32_w]
    rfl
  refine done_ (by kernel_rfl) ?_
  
  go_wp2_with fail
  go_ret
  have HS : w.heap.size ≤ W3.heap.size := HB3.out.size
  exact ⟨_, rfl, Kd.R_lower R5.out HS, HB3.out.trans (B5.out.mono HS)⟩
end Go.Proofs.Ythnjkmjcacoajaa.Ext
end

section
/- slices.Chunk by 47: its iterator's contract. Condition: a row that lies somewhere. -/
namespace Go.Proofs.Ythnjkmjcacoajaa.Ext
open Go Go.RowKit Go.Proofs.YthnjkmjcacoajaaW.PrintWords Go.Proofs.YthnjkmjcacoajaaW.PrintLast Go.Proofs.YthnjkmjcacoajaaW.PrintMore Go.Proofs.Ythnjkmjcacoajaa.Base Go.Proofs.Ythnjkmjcacoajaa.Arr
set_option linter.unusedVariables false
set_option linter.unusedSimpArgs false
set_option maxRecDepth 100000
attribute [local go_sem] Oper.semAt_some

/-- how long piece k is -/
def pieceL (m k : Nat) : Nat := min 47 (m - 47 * k)
/-- how many pieces -/
def pieces (m : Nat) : Nat := (m + 46) / 47
/-- piece k, as a value -/
def pieceV (ad : Addr) (m k : Nat) : Value := .slice (some (ad.add (47 * k))) (pieceL m k) (pieceL m k)
/-- the two boxes lie as they lay -/
def KeepsTwo (B1 B2 : Nat) (W W' : World) : Prop := W'.heap[B1]? = W.heap[B1]? ∧ W'.heap[B2]? = W.heap[B2]?
def upto (m k : Nat) : List { k : Nat // k < pieces m } := (List.range (pieces m)).attach.take k |>.map fun x => ⟨x.1, List.mem_range.1 x.2⟩
theorem upto_succ (m k : Nat) (h : k < pieces m) : upto m (k + 1) = upto m k ++ [⟨k, h⟩] := by
  unfold upto
  rw [List.take_add_one, List.map_append]
  congr 1
  rw [List.getElem?_eq_getElem (by simpa using h)]
  simp
theorem upto_length (m k : Nat) (h : k ≤ pieces m) : (upto m k).length = k := by
  unfold upto
  simp [h]
set_option maxRecDepth 100000 in
set_option maxHeartbeats 4000000 in
theorem chunk1_in (n : Nat) (hn : 1 ≤ n) (l B1 B2 : Nat) (ad : Addr) (m cap : Nat) (h0m : 0 < m) (hmc : m ≤ cap) (hm : m ≤ 1000000000000) (J Jx : List { k : Nat // k < pieces m } → World → Prop)
    (hY : ∀ pre x W, J pre W → pre.length < pieces m → YieldAt Fence.wide (n - 1) Try.prog l #[pieceV ad m x.1] W fun e W' =>
      (e = .returned (.bool true) ∧ J (pre ++ [x]) W' ∧ KeepsTwo B1 B2 W W') ∨ (e = .returned (.bool false) ∧ Jx (pre ++ [x]) W'))
    (W : World) (h1 : HoldsRow W B1 31 #[.slice (some ad) m cap]) (h2 : HoldsRow W B2 3 #[.int .i64 47]) (hJd : ∀ pre W, J pre W → J pre W.drew) (h0 : J [] W) :
    CallsIn Fence.wide n Try.prog 52 #[.func (.yield l) #[] #[], .pointer (some ⟨B1, 0, none⟩), .pointer (some ⟨B2, 0, none⟩)] W fun e W' => (∃ v, e = .returned v) ∧
      ((∃ ys, ys = upto m (pieces m) ∧ J ys W') ∨ (∃ pre, (∃ k, k ≤ pieces m ∧ pre = upto m k) ∧ Jx pre W')) := by
  refine callsIn_of_wp Try.func52 rfl trivial ?_ rfl
  simp only [Try.ntmps52, List.size_toArray, List.length_cons, List.length_nil, Nat.reduceAdd, Nat.reduceSub, Array.replicate_succ, Array.replicate_zero, List.push_toArray, List.append_toArray, List.nil_append, List.cons_append]
  have HJD := Aside0.mk hJd
  clear hJd
  have H0M := Aside0.mk h0m
  have HMC := Aside0.mk hmc
  have HM := Aside0.mk hm
  have P1 := Aside0.mk h1
  have P2 := Aside0.mk h2
  clear h0m hmc hm h1 h2
  gi_wp2
  gi_loopw [4] (fun i wr => ∃ k q : Nat, k ≤ pieces m ∧ q = 47 * k ∧ i = .int .i64 (q : Nat) ∧ J (upto m k) wr ∧ Aside0 (HoldsRow wr B1 31 #[.slice (some ad) m cap]) ∧ Aside0 (HoldsRow wr B2 3 #[.int .i64 47]))
    (fun i _ => 47 * pieces m - (intOf i).toNat)
  case atStart => exact ⟨0, 0, Nat.zero_le _, rfl, rfl, h0, P1, P2⟩
  case round =>
    obtain ⟨k, q, hk, hq, rfl, hJs, Q1, Q2⟩ := hrel
    have c1 := Q1.out.cell (j := 0) rfl
    have c2 := Q2.out.cell (j := 0) rfl
    have HQ := Aside0.mk hq
    clear hq
    by_cases hlt : k < pieces m
    · obtain ⟨fn, tmps, assign, body, hy, hR⟩ := hY _ ⟨k, hlt⟩ wr.drew (HJD.out _ _ hJs) (by rw [upto_length m k hk]; exact hlt)
      obtain ⟨e, he⟩ : ∃ e, e = pieceL m k := ⟨_, rfl⟩
      have hqm : q < m := by have := HQ.out; unfold pieces at hlt; omega
      have hee : e = min 47 (m - q) := by rw [he, HQ.out]; rfl
      unfold pieceV at hy
      rw [← HQ.out, ← he] at hy
      have hmc := HMC.out
      have hmm := HM.out
      have d1 : decide ((q : Int) < (m : Int)) = true := decide_eq_true (by omega)
      have b0 := eq_true (show (0 : Int) ≤ (q : Int) by omega)
      have b1 := eq_true (show (q : Int) ≤ (m : Int) by omega)
      have b2 := eq_true (show (q : Int) ≤ (cap : Int) by omega)
      have b3 := eq_true (show q ≤ m by omega)
      have b4 := eq_true (show q ≤ cap by omega)
      have x0 : min (47 : Int) ((m - q : Nat) : Int) = (e : Int) := by rw [hee]; omega
      have he1 : 0 < e := by omega
      have he2 : q + e ≤ m := by omega
      clear hee he
      gi_wp2
      gi_region
      have x1 : ((q : Int) + (e : Int)).toNat = q + e := by omega
      have x4 : wrap64 ((q : Int) + (e : Int)) = (q : Int) + (e : Int) := by unfold wrap64; omega
      have x5 := eq_false (show ¬ cap = q by omega)
      have x6 := eq_true (show (0 : Int) ≤ (q : Int) + (e : Int) by omega)
      have x7 := eq_true (show q ≤ q + e by omega)
      have x8 := eq_false (show ¬ e = 0 by omega)
      have x9 := eq_true (show q + e ≤ cap by omega)
      have x2 := eq_true (show (q : Int) ≤ (q : Int) + (e : Int) by omega)
      have x3 := eq_true (show (q : Int) + (e : Int) ≤ (cap : Int) by omega)
      gi_wp2
      refine hR.mono ?_
      rintro e2 W3 (⟨rfl, hJ3, hk3⟩ | ⟨rfl, hJx3⟩)
      · have R1 := Aside0.mk (hr_move Q1.out hk3.1)
        have R2 := Aside0.mk (hr_move Q2.out hk3.2)
        have k2 := R2.out.cell (j := 0) rfl
        have y0 : wrap64 ((q : Int) + 47) = (q : Int) + 47 := by unfold wrap64; omega
        clear x1 x4 x5 x6 x7 x8 x9 x2 x3 c1 c2 hk3
        gi_wp2
        go_roundw
        case rel => exact ⟨k + 1, q + 47, by omega, by have := HQ.out; omega, rfl, by rw [upto_succ m k hlt]; exact hJ3, R1, R2⟩
        case measure =>
          show 47 * pieces m - ((q : Int) + 47).toNat < 47 * pieces m - (q : Int).toNat
          have := HQ.out
          omega
      · gi_wp2
        refine bodyPost_ret (results_none rfl _ _ _) rfl ?_
        exact ⟨⟨_, rfl⟩, .inr ⟨_, ⟨k + 1, by omega, (upto_succ m k hlt).symm⟩, hJx3⟩⟩
    · obtain rfl : k = pieces m := by omega
      have hqm : ¬ q < m := by have := HQ.out; unfold pieces at this; omega
      have d1 : decide ((q : Int) < (m : Int)) = false := decide_eq_false (by omega)
      gi_wp2
      go_end0
      exact ⟨⟨_, rfl⟩, .inl ⟨_, rfl, hJs⟩⟩
theorem drew_grown (W : World) : W.grownBy W.drew none := ⟨rfl, rfl, rfl, Nat.le_refl _, fun _ _ _ => rfl⟩
theorem chunk_stops (n : Nat) (hn : 1 ≤ n) (B1 B2 : Nat) (ad : Addr) (m cap : Nat) (h0m : 0 < m) (hmc : m ≤ cap) (hm : m ≤ 1000000000000) (w : World) (h1 : HoldsRow w B1 31 #[.slice (some ad) m cap]) (h2 : HoldsRow w B2 3 #[.int .i64 47]) :
    SeqStopsK Fence.wide n Try.prog 52 #[.pointer (some ⟨B1, 0, none⟩), .pointer (some ⟨B2, 0, none⟩)] (fun x : { k : Nat // k < pieces m } => #[pieceV ad m x.1]) (KeepsTwo B1 B2) (fun ys => ys = upto m (pieces m)) (fun _ => True) (pieces m) w :=
  fun l J Jx W hW hJ _ hY h0 => by
  refine (chunk1_in n hn l B1 B2 ad m cap h0m hmc hm J Jx hY W (h1.below hW h1.lt) (h2.below hW h2.lt) (fun pre W2 h => hJ _ _ _ none h (drew_grown W2) (fun r e => by cases e)) h0).mono ?_
  rintro e W' ⟨he, ⟨ys, rfl, hj⟩ | ⟨pre, _, hj⟩⟩
  · exact ⟨he, .inl ⟨_, rfl, hj⟩⟩
  · exact ⟨he, .inr ⟨_, trivial, hj⟩⟩
end Go.Proofs.Ythnjkmjcacoajaa.Ext

/- A region that draws its order, in a round of a range over a function: as outside of one (no defer; nothing lets out). No condition beyond these. -/
namespace Go.Proofs.Ythnjkmjcacoajaa.Round
open Go Go.Proofs.YthnjkmjcacoajaaW.PrintLast
set_option linter.unusedVariables false
section
variable {P : Program} {ops : Array Oper} {Q : Exit → Act → World → Prop} {md : Region.Mode}
theorem rows_round {n l : Nat} {row : String} {args : Array Value} {w : World} {R : Value → World → Prop} (h : Rows P row args w R) : RowsIn (Fence.wide.inRound l) n P row args w R := fun c cs _ =>
  let ⟨v, w', r, s⟩ := h c cs
  ⟨v, w', r, stepsIn_wide.2 s⟩
theorem oper_round {n l : Nat} {o : Oper} {a : Act} {w : World} {K : Act → World → Prop} (hd : ∀ c, o.op ≠ .defer c) (h : o.wp P a w K Q) : o.wpIn (Fence.wide.inRound l) n P a w K Q := by
  refine ⟨fun _ _ => trivial, ?_⟩
  rw [Oper.semAt_eq _ _ _ hd]
  unfold Oper.wp at h
  generalize (execOp a.eval o).run P w = r at *
  cases r with
  | ok x w' =>
    cases x <;> simp only [Oper.uponIn, Oper.upon] at h ⊢ <;>
      first
        | exact h
        | exact ⟨fun e => by simp [Fence.wide] at e, CallsIn.inRound l (callsIn_wide.2 h)⟩
        | exact ⟨fun e => by simp [Fence.wide] at e, rows_round h⟩
        | exact h.elim
  | halt x w' => cases x <;> simp only [Oper.uponIn, Oper.upon] at h ⊢ <;> exact h
theorem op_round {n l i : Nat} {a : Act} {w : World} {K K' : Act → World → Prop} (hd : ∀ o, ops[i]? = some o → ∀ c, o.op ≠ .defer c) (hQ : ¬ LetsOut Q) (hK : ∀ a w, K a w → K' a w) (h : wpOp P ops Q i K a w) : wpOpIn (Fence.wide.inRound l) n P ops Q i K' a w := by
  refine wpOpIn_mono hK ?_
  unfold wpOp at h
  unfold wpOpIn
  cases ho : ops[i]? with
  | none => rw [ho] at h; exact h
  | some o =>
    rw [ho] at h
    simp only at h ⊢
    split at h
    · rename_i hw
      rw [if_pos hw]
      rcases h with h | h
      · exact oper_round (hd o ho) h
      · exact absurd h.2 hQ
    · rename_i hw
      rw [if_neg hw]
      exact ⟨fun _ _ => trivial, h⟩
theorem any_round {n l : Nat} (hd : ∀ (i : Nat) o, ops[i]? = some o → ∀ c, o.op ≠ .defer c) (hQ : ¬ LetsOut Q) : ∀ (fuel : Nat) (li : Array Bool) (a : Act) (w : World), wpAny P md ops Q fuel li a w → wpAnyIn (Fence.wide.inRound l) n P md ops Q fuel li a w
  | 0, _, _, _, h => h
  | fuel + 1, li, a, w, h => ⟨h.1, fun i hi => op_round (hd i) hQ (fun a w h => any_round hd hQ fuel _ a w h) (h.2 i hi)⟩
theorem region_round {n l id : Nat} {a : Act} {w : World} (hd : ∀ (i : Nat) o, ops[i]? = some o → ∀ c, o.op ≠ .defer c) (hQ : ¬ LetsOut Q) (hm : P.follows .mixedOrders = true)
    (h : wpAny P .any ops Q ops.size (Array.replicate ops.size false) a { w with drawn := w.drawn + 1 }) : (Code.region id ops true).wpIn (Fence.wide.inRound l) n P Q a w :=
  wpIn_region_any hm (any_round hd hQ _ _ _ _ h)
def noDeferB (ops : Array Oper) : Bool := ops.all fun o => match o.op with | .defer _ => false | _ => true
theorem noDefer {ops : Array Oper} (h : noDeferB ops = true) (i : Nat) (o : Oper) (ho : ops[i]? = some o) : ∀ c, o.op ≠ .defer c := by
  intro c e
  obtain ⟨hi, rfl⟩ := Array.getElem?_eq_some_iff.1 ho
  have := Array.all_eq_true.1 h i hi
  rw [e] at this
  simp at this
variable {S : World → Prop} {ds : List Nat}
/-- as start_, in a round -/
theorem start_round {id n m r : Nat} {a : Act} {w : World} (l : Array Bool) (hm : P.follows .mixedOrders = true) (hn : ops.size = n) (hl : Array.replicate n false = l) (hS : S w.drew) (hd : noDeferB ops = true) (hQ : ¬ LetsOut Q)
    (h : S w.drew → wpAnyLast P .any ops Q S ds n l a w.drew) : (Code.region id ops true).wpIn (Fence.wide.inRound r) m P Q a w := by
  subst hn
  subst hl
  exact region_round (noDefer hd) hQ hm (wpAny_of_last _ _ _ _ (h hS))
end
section
variable {P : Program} {ops : Array Oper} {Q : Exit → Act → World → Prop} {o : Oper} {rest : List Oper} {a : Act} {w : World}
/-- one operation by its unfenced law, in a round -/
theorem wpListIn_of_step {l n : Nat} (hgd : o.guard = none) (hd : ∀ c, o.op ≠ .defer c) (h : ∀ K : Act → World → Prop, (∀ a w, wpListIn (Fence.wide.inRound l) n P ops Q rest a w → K a w) → if Region.wanted o (yielded ops a.tmps) = true then Oper.wp P o a w K Q else False) :
    wpListIn (Fence.wide.inRound l) n P ops Q (o :: rest) a w :=
  wpListIn_plain hgd fun K hK => oper_round hd (by have := h K hK; rwa [if_pos (by simp [Region.wanted, hgd])] at this)
end
end Go.Proofs.Ythnjkmjcacoajaa.Round

/- strip.Cells: what its loop keeps; its cells as lists. No condition. -/
namespace Go.Proofs.Ythnjkmjcacoajaa.Ext
open Go Go.RowKit Go.Proofs.YthnjkmjcacoajaaW.PrintWords Go.Proofs.YthnjkmjcacoajaaW.PrintLast Go.Proofs.YthnjkmjcacoajaaW.PrintMore Go.Proofs.Ythnjkmjcacoajaa.Base Go.Proofs.Ythnjkmjcacoajaa.Arr
set_option linter.unusedVariables false
set_option linter.unusedSimpArgs false
attribute [local go_sem] Oper.semAt_some

set_option maxRecDepth 100000 in
set_option maxHeartbeats 4000000 in
theorem Chunk_calls (w : World) (A : Option Addr) (m cap : Nat) :
    Calls Try.prog 34 #[.slice A m cap, .int .i64 47] w fun e w' => e = .returned (.func (.func 52) #[] #[.pointer (some ⟨w.heap.size, 0, none⟩), .pointer (some ⟨w.heap.size + 1, 0, none⟩)]) ∧ w' = (w.alloc (.cells #[.slice A m cap] 31)).alloc (.cells #[.int .i64 47] 3) := by
  go_enter Try.func34, Try.ntmps34
  go_wp2_with fail
  go_ret
  exact ⟨rfl, rfl⟩
def orF (first : Bool) (n : Nat) : Int := (if first then 128 else 0) + (n : Int)
def cellOf (g e : Nat) (first : Bool) (p : List Int) : List Int := edgeL (stampN g e) ++ (orF first p.length :: (p ++ List.replicate (47 - p.length) 0)) ++ (edgeL (stampN g e)).reverse
def pieceOf (b : List Int) (k : Nat) : List Int := (b.drop (47 * k)).take (pieceL b.length k)
def cellsOf (g e : Nat) (b : List Int) (ks : List { k : Nat // k < pieces b.length }) : List (List Int) := ks.mapIdx fun i k => cellOf g e (i == 0) (pieceOf b k.1)
theorem cellsOf_snoc (g e : Nat) (b : List Int) (ks : List { k : Nat // k < pieces b.length }) (k : { k : Nat // k < pieces b.length }) : cellsOf g e b (ks ++ [k]) = cellsOf g e b ks ++ [cellOf g e (ks.length == 0) (pieceOf b k.1)] := by
  unfold cellsOf
  rw [List.mapIdx_append]
  simp
theorem edgeL_len (v : Nat) : (edgeL v).length = 8 := by simp [edgeL]
theorem pieceL_le (m k : Nat) : pieceL m k ≤ 47 := by unfold pieceL; omega
theorem pieceOf_len (b : List Int) (k : Nat) : (pieceOf b k).length = pieceL b.length k := by
  unfold pieceOf pieceL
  rw [List.length_take, List.length_drop]
  omega
theorem cellOf_len (g e : Nat) (f : Bool) (p : List Int) (hp : p.length ≤ 47) : (cellOf g e f p).length = 64 := by
  unfold cellOf
  simp [edgeL_len]
  omega
def cell0 (E : List Int) (hd : Int) (p : List Int) : List Int := E ++ (hd :: (p ++ List.replicate (47 - p.length) 0)) ++ E.reverse
theorem cell0_get (E : List Int) (hd : Int) (p : List Int) (hE : E.length = 8) (hp : p.length ≤ 47) (k : Nat) : (cell0 E hd p)[k]? = if k < 8 then E[k]? else if k = 8 then some hd else if k < 56 then (p ++ List.replicate (47 - p.length) 0)[k - 9]? else E.reverse[k - 56]? := by
  unfold cell0
  by_cases h1 : k < 8
  · rw [if_pos h1, List.append_assoc, List.getElem?_append_left (by omega)]
  · rw [if_neg h1, List.append_assoc, List.getElem?_append_right (by omega), hE]
    by_cases h2 : k = 8
    · subst h2; simp
    · rw [if_neg h2, show k - 8 = (k - 9) + 1 by omega, List.cons_append, List.getElem?_cons_succ]
      by_cases h3 : k < 56
      · rw [if_pos h3, List.getElem?_append_left (by simp; omega)]
      · rw [if_neg h3, List.getElem?_append_right (by simp; omega)]
        congr 1
        simp
        omega
theorem rowK_get? (l : List Int) (k : Nat) : (rowK .u8 l)[k]? = (l[k]?).map (Value.int .u8) := by simp [rowK, nums]
theorem built_cell (E R : List Int) (hd : Int) (hE : E.length = 8) (hR : R = E.reverse) : Try.prog.built 78 [(0, .agg (rowK .u8 E)), (1, .int .u8 hd), (3, .agg (rowK .u8 R))] = some (rowK .u8 (cell0 E hd [])) := by
  have e : Try.prog.built 78 [(0, .agg (rowK .u8 E)), (1, .int .u8 hd), (3, .agg (rowK .u8 R))] = Instr.fill (#[(0, 8), (8, 1), (9, 47), (56, 8)][·]?) (rowK .u8 z64) [(0, .agg (rowK .u8 E)), (1, .int .u8 hd), (3, .agg (rowK .u8 R))] := by kernel_rfl
  have hz : (rowK .u8 z64).size = 64 := by rw [rowK_size, z64_len]
  rw [e]
  obtain ⟨c1, e1, s1, g1⟩ := fill_part (place := (#[(0, 8), (8, 1), (9, 47), (56, 8)][·]?)) (cells := rowK .u8 z64) (i := 0) (v := .agg (rowK .u8 E)) (rest := [(1, .int .u8 hd), (3, .agg (rowK .u8 R))]) (off := 0) (size := 8) rfl (by show (rowK .u8 E).size = 8; rw [rowK_size, hE]) (by rw [hz]; omega)
  obtain ⟨c2, e2, s2, g2⟩ := fill_part (place := (#[(0, 8), (8, 1), (9, 47), (56, 8)][·]?)) (cells := c1) (i := 1) (v := .int .u8 hd) (rest := [(3, .agg (rowK .u8 R))]) (off := 8) (size := 1) rfl rfl (by rw [s1, hz]; omega)
  obtain ⟨c3, e3, s3, g3⟩ := fill_part (place := (#[(0, 8), (8, 1), (9, 47), (56, 8)][·]?)) (cells := c2) (i := 3) (v := .agg (rowK .u8 R)) (rest := []) (off := 56) (size := 8) rfl (by show (rowK .u8 R).size = 8; rw [rowK_size, hR, List.length_reverse, hE]) (by rw [s2, s1, hz]; omega)
  refine (e1.trans (e2.trans e3)).trans ?_
  refine congrArg some ?_
  apply Array.ext_getElem?
  intro k
  rw [g3 k, g2 k, g1 k, rowK_get? (cell0 E hd []) k, cell0_get E hd [] hE (by simp)]
  show (if 56 ≤ k ∧ k < 56 + 8 then (rowK .u8 R)[k - 56]? else if 8 ≤ k ∧ k < 8 + 1 then #[Value.int .u8 hd][k - 8]? else if 0 ≤ k ∧ k < 0 + 8 then (rowK .u8 E)[k - 0]? else (rowK .u8 z64)[k]?) = _
  by_cases h1 : k < 8
  · rw [if_neg (by omega), if_neg (by omega), if_pos (by omega), if_pos h1, rowK_get?, Nat.sub_zero]
  · rw [if_neg h1]
    by_cases h2 : k = 8
    · subst h2; simp
    · rw [if_neg h2]
      by_cases h3 : k < 56
      · rw [if_neg (by omega), if_neg (by omega), if_neg (by omega), if_pos h3, rowK_get?]
        refine congrArg (Option.map (Value.int .u8)) ?_
        unfold z64
        rw [List.nil_append, List.getElem?_replicate, List.getElem?_replicate, if_pos (by omega), if_pos (by simp; omega)]
      · rw [if_neg h3]
        by_cases h4 : k < 64
        · rw [if_pos (by omega), rowK_get?, hR]
        · rw [if_neg (by omega), if_neg (by omega), if_neg (by omega), rowK_get?, List.getElem?_eq_none (by rw [z64_len]; omega), List.getElem?_eq_none (by rw [List.length_reverse, hE]; omega)]
/-- a piece is put into a cell whose data are noughts -/
theorem cell_splice (E : List Int) (hd : Int) (p : List Int) (hE : E.length = 8) (hp : p.length ≤ 47) : splice (cell0 E hd []) 9 p = cell0 E hd p := by
  have hl : (cell0 E hd []).length = 64 := by unfold cell0; simp [hE]
  apply List.ext_getElem?
  intro k
  rw [splice_get _ _ _ (by rw [hl]; omega), cell0_get E hd p hE hp, cell0_get E hd [] hE (by simp)]
  by_cases h1 : k < 8
  · rw [if_pos (by omega), if_pos h1, if_pos h1]
  · rw [if_neg h1, if_neg h1]
    by_cases h2 : k = 8
    · subst h2; simp
    · rw [if_neg h2, if_neg h2, if_neg (by omega)]
      by_cases h3 : k < 56
      · rw [if_pos h3, if_pos h3]
        by_cases h4 : k < 9 + p.length
        · rw [if_pos h4, List.getElem?_append_left (by omega)]
        · rw [if_neg h4, List.nil_append, List.getElem?_append_right (by omega), List.getElem?_replicate, List.getElem?_replicate, if_pos (by simp; omega), if_pos (by omega)]
      · rw [if_neg (by omega), if_neg h3, if_neg h3]
theorem or128 : ∀ n : Nat, n < 48 → bits .or .u8 128 (n : Int) = 128 + (n : Int) := by decide +kernel
theorem or0 : ∀ n : Nat, n < 48 → bits .or .u8 0 (n : Int) = (n : Int) := by decide +kernel
theorem or_flag (f : Bool) (n : Nat) (hn : n ≤ 47) : bits .or .u8 (if f then 128 else 0) (n : Int) = orF f n := by
  cases f
  · show bits .or .u8 0 (n : Int) = 0 + (n : Int)
    rw [or0 n (by omega), Int.zero_add]
  · exact or128 n (by omega)
theorem C_cut {w : World} {ad : Addr} {m : Nat} {b : List Int} (h : Kd.C (Kd.int .u8) w (some ad) m b) (q n : Nat) (hn : q + n ≤ m) : Kd.C (Kd.int .u8) w (some (ad.add q)) n ((b.drop q).take n) := by
  refine ⟨by rw [List.length_take, List.length_drop, h.1]; omega, by have := h.2.1; omega, fun h0 => ⟨_, rfl, fun j x hx => ⟨[.int .u8 x], rfl, rfl, fun i u hu => ?_⟩⟩⟩
  have hi : i = 0 := by
    cases i with
    | zero => rfl
    | succ i => simp at hu
  subst hi
  have hu' : Value.int .u8 x = u := by simpa using hu
  subst hu'
  rw [List.getElem?_take] at hx
  split at hx
  · rw [List.getElem?_drop] at hx
    have := C_cells h (by omega) (q + j) (.int .u8 x) (by unfold nums; rw [List.getElem?_map, hx]; rfl)
    show w.cell? ((ad.add q).add (j * 1 + 0)) = _
    rw [add_add, Nat.mul_one, Nat.add_zero]
    exact this
  · cases hx
/-- what lies between two rounds -/
structure CI (S O Fl base g e : Nat) (b : List Int) (w : World) (pre : List { k : Nat // k < pieces b.length }) (W : World) : Prop where
  out : ∃ v, HoldsRow W O 37 #[v] ∧ Kd.S (Kd.slice 5 (Kd.int .u8)) 31 W base (fun _ => True) v (cellsOf g e b pre)
  flag : HoldsRow W Fl 5 #[.int .u8 (if pre.length == 0 then 128 else 0)]
  st : HoldsRow W S 44 #[.int .i64 (g : Int), .int .i64 (e : Int)]
  bel : Below w.heap.size w W
  big : base ≤ W.heap.size
theorem row_turn {W W' : World} {row : Option Nat} {B b : Nat} {t : TypeId} {cs : Array Value} (h : HoldsRow W b t cs) (hg : W.grownBy W' row) (hr : ∀ r, row = some r → B ≤ r ∧ ∃ o : Obj, W.heap[r]? = some o ∧ o.isCells = false) : HoldsRow W' b t cs := by
  refine hr_move h (hg.block b h.lt (fun e => ?_))
  obtain ⟨_, o, ho, hc⟩ := hr b e.symm
  rw [show W.heap[b]? = _ from h] at ho
  cases ho
  cases hc
theorem R_turn {α : Type} {d : Kd α} {t base : Nat} {ok : Nat → Prop} {v : Value} {xs : List α} {W W' : World} {row : Option Nat} {B : Nat} (h : d.R t W base ok v xs) (hg : W.grownBy W' row) (hr : ∀ r, row = some r → B ≤ r ∧ ∃ o : Obj, W.heap[r]? = some o ∧ o.isCells = false) : d.R t W' base ok v xs := by
  refine Kd.R_mono (Kd.R_step (Kd.R_bound h) (fun k hk hlt => hg.block k hlt (fun e => ?_))) (fun k hk => hk.1)
  obtain ⟨_, _, _, q, _, cells, hc⟩ := hk
  obtain ⟨_, o, ho, hcc⟩ := hr k e.symm
  rw [hc] at ho
  cases ho
  cases hcc
theorem S_turn {α : Type} {d : Kd α} {t base : Nat} {ok : Nat → Prop} {v : Value} {xs : List α} {W W' : World} {row : Option Nat} {B : Nat} (h : Kd.S d t W base ok v xs) (hg : W.grownBy W' row) (hr : ∀ r, row = some r → B ≤ r ∧ ∃ o : Obj, W.heap[r]? = some o ∧ o.isCells = false) : Kd.S d t W' base ok v xs := by
  obtain ⟨f, h⟩ := h
  exact ⟨f, R_turn h hg hr⟩
theorem CI.own {S O Fl base g e : Nat} {b : List Int} {w : World} {B : Nat} (hB : w.heap.size ≤ B) : OwnFrom B (CI S O Fl base g e b w) := fun s W W' row hs hg hr => by
  obtain ⟨⟨v, h1, h2⟩, h3, h4, h5, h6⟩ := hs
  exact ⟨⟨v, row_turn h1 hg hr, S_turn h2 hg hr⟩, row_turn h3 hg hr, row_turn h4 hg hr, ownFrom_below (β := Unit) (Nat.le_refl _) hB () W W' row h5 hg hr, Nat.le_trans h6 hg.size⟩
theorem set_row_all {W : World} {b : Nat} {t : TypeId} {cs cs' : Array Value} (h : HoldsRow W b t cs) (hl : cs'.size = cs.size) : HoldsRow (W.setCells b 0 cs'.toList) b t cs' := by
  obtain ⟨cur, h1, h2, h3⟩ := setCells_row cs'.toList 0 W cs h (by simp; omega)
  have : cur = cs' := by
    apply Array.toList_inj.1
    rw [h3]
    simp [hl]
  rw [← this]
  rw [← this] at h1
  exact h1
theorem keeps_below {W W' : World} (h : Below W.heap.size W W') : KeepsOthers W W' := ⟨h.size, fun k o hk _ => (h.block k (Array.getElem?_eq_some_iff.1 hk).1).trans hk⟩
end Go.Proofs.Ythnjkmjcacoajaa.Ext

/- strip.Cells, walked. Condition: a row of a million million bytes at most. -/
namespace Go.Proofs.Ythnjkmjcacoajaa.Ext
open Go Go.RowKit Go.Proofs.YthnjkmjcacoajaaW.PrintWords Go.Proofs.YthnjkmjcacoajaaW.PrintLast Go.Proofs.YthnjkmjcacoajaaW.PrintMore Go.Proofs.Ythnjkmjcacoajaa.Base Go.Proofs.Ythnjkmjcacoajaa.Arr
set_option linter.unusedVariables false
set_option linter.unusedSimpArgs false
attribute [local go_sem] Oper.semAt_some

theorem new_cell {B : Nat} {W cur : World} (hbc : Below B W cur) (hB : B ≤ W.heap.size) : HoldsRow (cur.alloc (.cells (rowK .u8 z64) 78)) cur.heap.size 78 (rowK .u8 z64) ∧ W.heap.size ≤ cur.heap.size ∧ Below B W (cur.alloc (.cells (rowK .u8 z64) 78)) :=
  ⟨HoldsRow.new _ _ _, hbc.size, hbc.trans ((below_alloc (Below.refl _ _) _).mono (Nat.le_trans hB hbc.size))⟩
theorem keep_cell {B s : Nat} {W cur wc : World} {cs : Array Value} (h : HoldsRow cur s 78 cs ∧ W.heap.size ≤ s ∧ Below B W cur) (hB : B ≤ W.heap.size) (hb : Below cur.heap.size cur wc) : HoldsRow wc s 78 cs ∧ W.heap.size ≤ s ∧ Below B W wc :=
  ⟨h.1.below hb h.1.lt, h.2.1, h.2.2.trans (hb.mono (Nat.le_trans hB h.2.2.size))⟩
theorem cells_few (g e : Nat) (b : List Int) (pre : List { k : Nat // k < pieces b.length }) (h1 : pre.length < pieces b.length) (h2 : b.length ≤ 1000000000000) : ((cellsOf g e b pre).length + 1) * 24 ≤ 140737488355328 := by
  have h3 : (cellsOf g e b pre).length = pre.length := by unfold cellsOf; rw [List.length_mapIdx]
  have h4 : pieces b.length ≤ 30000000000 := by unfold pieces; omega
  omega
set_option maxRecDepth 100000 in
set_option maxHeartbeats 4000000 in
theorem Cells_calls (w : World) (ad : Addr) (cap : Nat) (b : List Int) (g e : Nat) (hr : Kd.C (Kd.int .u8) w (some ad) b.length b) (h0m : 0 < b.length) (hmc : b.length ≤ cap) (hm : b.length ≤ 1000000000000) (hg0 : 0 < g) (hg : g < 4294967296) (he : e < 4294967296) :
    Calls Try.prog 19 #[.agg #[.int .i64 (g : Int), .int .i64 (e : Int)], .slice (some ad) b.length cap] w fun en w' => ∃ v, en = .returned (.tuple #[v, .int .i64 0]) ∧ Kd.S (Kd.slice 5 (Kd.int .u8)) 31 w' w.heap.size (fun _ => True) v (cellsOf g e b (upto b.length (pieces b.length))) ∧ Below w.heap.size w w' := by
  refine (callsIn_wide (n := 9)).1 ?_
  refine callsIn_of_wp_marks Try.func19 rfl trivial ?_ rfl
  simp only [Try.ntmps19, List.size_toArray, List.length_cons, List.length_nil, Nat.reduceAdd, Nat.reduceSub, Array.replicate_succ, Array.replicate_zero, List.push_toArray, List.append_toArray, List.nil_append, List.cons_append]
  have HR := Aside0.mk hr
  have HM := Aside0.mk (And.intro h0m (And.intro hmc hm))
  have HG := Aside0.mk (And.intro hg0 (And.intro hg he))
  have HLB := Aside0.mk hr.1
  have d1 : decide ((g : Int) < 1) = false := decide_eq_false (by omega)
  have d2 : decide ((4294967295 : Int) < (g : Int)) = false := decide_eq_false (by omega)
  have d3 : decide ((e : Int) < 0) = false := decide_eq_false (by omega)
  have d4 : decide ((4294967295 : Int) < (e : Int)) = false := decide_eq_false (by omega)
  have d5 : decide ((b.length : Int) = 0) = false := decide_eq_false (by omega)
  have d6 := eq_false (show ¬ b.length = 0 by omega)
  have d7 : ((b.length : Int) == 0) = false := by rw [beq_eq_false_iff_ne]; omega
  have d8 := eq_false (show ¬ b = [] by intro h; rw [h] at h0m; exact absurd h0m (by decide))
  clear hr h0m hmc hm hg0 hg he
  gi_wp2_with (refine ⟨trivial, ?_⟩; gi_at_call 34; refine (callsIn_wide.2 (Chunk_calls _ (some ad) b.length cap)).mono ?_; rintro e3 w3 ⟨rfl, rfl⟩)
  clear d1 d2 d3 d4 d5 d6 d7 d8
  obtain ⟨W0, hW0⟩ : ∃ W0, W0 = (((((w.alloc (.cells #[.int .i64 (g : Int), .int .i64 (e : Int)] 44)).alloc (.cells #[.slice none 0 0] 37)).alloc (.cells #[.int .u8 128] 5)).alloc (.cells #[.slice (some ad) b.length cap] 31)).alloc (.cells #[.int .i64 47] 3)) := ⟨_, rfl⟩
  rw [← hW0]
  have hsz : W0.heap.size = w.heap.size + 1 + 1 + 1 + 1 + 1 := by rw [hW0]; simp
  have hB0 : Below w.heap.size w W0 := by rw [hW0]; exact below_alloc (below_alloc (below_alloc (below_alloc (below_alloc (Below.refl _ _) _) _) _) _) _
  have hS0 : HoldsRow W0 w.heap.size 44 #[.int .i64 (g : Int), .int .i64 (e : Int)] := by
    rw [hW0]; exact ((((HoldsRow.new w _ _).alloc _).alloc _).alloc _).alloc _
  have hO0 : HoldsRow W0 (w.heap.size + 1) 37 #[.slice none 0 0] := by
    have := ((((HoldsRow.new (w.alloc (.cells #[.int .i64 (g : Int), .int .i64 (e : Int)] 44)) 37 #[.slice none 0 0]).alloc (.cells #[.int .u8 128] 5)).alloc (.cells #[.slice (some ad) b.length cap] 31)).alloc (.cells #[.int .i64 47] 3))
    rw [alloc_size] at this
    rw [hW0]; exact this
  have hF0 : HoldsRow W0 (w.heap.size + 1 + 1) 5 #[.int .u8 128] := by
    have := (((HoldsRow.new ((w.alloc (.cells #[.int .i64 (g : Int), .int .i64 (e : Int)] 44)).alloc (.cells #[.slice none 0 0] 37)) 5 #[.int .u8 128]).alloc (.cells #[.slice (some ad) b.length cap] 31)).alloc (.cells #[.int .i64 47] 3))
    rw [alloc_size, alloc_size] at this
    rw [hW0]; exact this
  have hB10 : HoldsRow W0 (w.heap.size + 1 + 1 + 1) 31 #[.slice (some ad) b.length cap] := by
    have := ((HoldsRow.new (((w.alloc (.cells #[.int .i64 (g : Int), .int .i64 (e : Int)] 44)).alloc (.cells #[.slice none 0 0] 37)).alloc (.cells #[.int .u8 128] 5)) 31 #[.slice (some ad) b.length cap]).alloc (.cells #[.int .i64 47] 3))
    rw [alloc_size, alloc_size, alloc_size] at this
    rw [hW0]; exact this
  have hB20 : HoldsRow W0 (w.heap.size + 1 + 1 + 1 + 1) 3 #[.int .i64 47] := by
    have := (HoldsRow.new ((((w.alloc (.cells #[.int .i64 (g : Int), .int .i64 (e : Int)] 44)).alloc (.cells #[.slice none 0 0] 37)).alloc (.cells #[.int .u8 128] 5)).alloc (.cells #[.slice (some ad) b.length cap] 31)) 3 #[.int .i64 47])
    rw [alloc_size, alloc_size, alloc_size, alloc_size] at this
    rw [hW0]; exact this
  obtain ⟨S, hS⟩ : ∃ S, S = w.heap.size := ⟨_, rfl⟩
  rw [← hS] at hsz hS0 hO0 hF0 hB10 hB20 ⊢
  obtain ⟨O, hO⟩ : ∃ O, O = S + 1 := ⟨_, rfl⟩
  rw [← hO] at hsz hO0 hF0 hB10 hB20 ⊢
  obtain ⟨Fl, hFl⟩ : ∃ Fl, Fl = O + 1 := ⟨_, rfl⟩
  rw [← hFl] at hsz hF0 hB10 hB20 ⊢
  obtain ⟨B1, hB1⟩ : ∃ B1, B1 = Fl + 1 := ⟨_, rfl⟩
  rw [← hB1] at hsz hB10 hB20 ⊢
  obtain ⟨B2, hB2⟩ : ∃ B2, B2 = B1 + 1 := ⟨_, rfl⟩
  rw [← hB2] at hsz hB20 ⊢
  clear hW0
  have HSS := Aside0.mk (show S = w.heap.size ∧ O = S + 1 ∧ Fl = O + 1 ∧ B1 = Fl + 1 ∧ B2 = B1 + 1 ∧ W0.heap.size = B2 + 1 from ⟨hS, hO, hFl, hB1, hB2, hsz⟩)
  have hle : w.heap.size ≤ W0.heap.size := by omega
  have hl1 : B1 < W0.heap.size := by omega
  have hl2 : B2 < W0.heap.size := by omega
  clear hS hO hFl hB1 hB2 hsz
  refine wpIn_rangeFunc_ownF (F := Fence.wide) rfl (show 1 ≤ 9 by decide) (gf := 52) (lb := #[.pointer (some ⟨B1, 0, none⟩), .pointer (some ⟨B2, 0, none⟩)]) rfl trivial (enters_of Try.func52 (by kernel_rfl) rfl)
    (chunk_stops (9 - 1) (by decide) B1 B2 ad b.length cap HM.out.1 HM.out.2.1 HM.out.2.2 W0 hB10 hB20) (fun h k => ⟨k.1.trans h.1, k.2.trans h.2⟩) (fun W l o o' hl h _ _ => ⟨World.putObj_heap_other (by omega), World.putObj_heap_other (by omega)⟩) (Below.refl _ _) (fun _ => rfl)
    (fun pre W => CI S O Fl W0.heap.size g e b w pre W) (fun _ _ _ => False) (CI.own hle) (fun _ _ _ _ _ hs _ _ => hs) ⟨⟨.slice none 0 0, hO0, Kd.S_nil _ _ _ _ _⟩, hF0, hS0, hB0, Nat.le_refl _⟩ (fun x => Act.mk #[Value.agg #[Value.int IntKind.i64 ↑g, Value.int IntKind.i64 ↑e], Value.slice (some ad) b.length cap,
          Value.pointer (some { block := S, off := 0 }), undef, Value.slice none 0 0, Value.int IntKind.i64 0,
          Value.pointer (some { block := O, off := 0 }),
          Value.pointer (some { block := Fl, off := 0 }), pieceV ad b.length x.1, undef,
          Value.pointer (some { block := S, off := 0 }), Value.int IntKind.i64 ↑g, Value.bool false,
          Value.bool false, Value.pointer (some { block := S, off := 0 }), Value.int IntKind.i64 ↑g,
          Value.bool false, Value.bool false, Value.bool false, Value.pointer (some { block := S, off := 1 }),
          Value.int IntKind.i64 ↑e, Value.bool false, Value.bool false, Value.bool false,
          Value.pointer (some { block := S, off := 1 }), Value.int IntKind.i64 ↑e, Value.bool false,
          Value.bool false, Value.slice (some ad) b.length cap, Value.int IntKind.i64 ↑b.length, Value.bool false,
          Value.slice (some ad) b.length cap,
          Value.func (Fn.func 52) #[]
            #[Value.pointer (some { block := B1, off := 0 }),
              Value.pointer (some { block := B2, off := 0 })],
          pieceV ad b.length x.1, undef, undef, undef, undef, undef, undef, undef, undef, undef, undef, undef, undef, undef, undef,
          undef, undef, undef, undef, undef, undef, undef] []) ?assign ?body ?done ?stop
  case assign =>
    intro l x W K hK
    gi_wp2
    exact hK
  case body =>
    rintro l pre x W hI hpre
    obtain ⟨⟨v, h1, h2⟩, h3, h4, h5, hbs⟩ := hI
    obtain ⟨A9, c9, rfl⟩ := Kd.S_slice h2
    have H1 := Aside0.mk h1
    have H2 := Aside0.mk h2
    have H3 := Aside0.mk h3
    have H4 := Aside0.mk h4
    have H5 := Aside0.mk h5
    obtain ⟨fl, hfl⟩ : ∃ fl : Int, fl = if (pre.length == 0) = true then 128 else 0 := ⟨_, rfl⟩
    rw [← hfl] at h3
    have K0 : W.drew.cell? ⟨S, 0, none⟩ = some (.int .i64 (g : Int)) := h4.cell rfl
    have K1 : W.drew.cell? ⟨S, 1, none⟩ = some (.int .i64 (e : Int)) := h4.cell rfl
    have K2 : W.drew.cell? ⟨Fl, 0, none⟩ = some (.int .u8 fl) := h3.cell rfl
    obtain ⟨p, hp⟩ : ∃ p, p = pieceOf b x.1 := ⟨_, rfl⟩
    obtain ⟨n, hn⟩ : ∃ n, n = pieceL b.length x.1 := ⟨_, rfl⟩
    have hn47 : n ≤ 47 := by rw [hn]; exact pieceL_le _ _
    have hpl : p.length = n := by rw [hp, hn]; exact pieceOf_len _ _
    obtain ⟨hd, hhd⟩ : ∃ hd, hd = orF (pre.length == 0) n := ⟨_, rfl⟩
    have hor : bits .or .u8 fl (n : Int) = hd := by rw [hfl, hhd]; exact or_flag _ n hn47
    have hcv : IntKind.u8.wrap (n : Int) = (n : Int) := by
      simp only [IntKind.wrap]
      simp [IntKind.bits, IntKind.signed]
      omega
    obtain ⟨E, hE⟩ : ∃ E, E = edgeL (stampN g e) := ⟨_, rfl⟩
    have hEl : E.length = 8 := by rw [hE]; exact edgeL_len _
    have HEL := Aside0.mk hEl
    have HEC := Aside0.mk (show ∀ W1, Calls Try.prog 35 #[.agg #[.int .i64 (g : Int), .int .i64 (e : Int)]] W1 fun en w' => en = .returned (.agg (rowK .u8 E)) ∧ Below W1.heap.size W1 w' from fun W1 => by rw [hE]; exact edge_calls W1 g e HG.out.2.1 HG.out.2.2)
    have HBU := Aside0.mk (built_cell E E.reverse hd hEl rfl)
    have HC0 := Aside0.mk (show (rowK .u8 (cell0 E hd [])).size = 64 by rw [rowK_size]; unfold cell0; simp [hEl])
    have hz64 := Aside0.mk (show (rowK .u8 z64).size = 64 by rw [rowK_size, z64_len])
    have hbc : Below W.heap.size W W.drew := below_drew (Below.refl _ _)
    have hww : W.heap.size ≤ W.heap.size := Nat.le_refl _
    have HX := Aside0.mk (show pieceV ad b.length x.1 = .slice (some (ad.add (47 * x.1))) n n by rw [hn]; rfl)
    rw [HX.out]
    have HFL := Aside0.mk hfl
    have HPN := Aside0.mk (And.intro hp (And.intro hn (And.intro hhd hE)))
    have HPL := Aside0.mk hpl
    clear h1 h2 h3 h4 h5 hfl hp hn hhd hE hpl hEl
    gi_wp2
    refine Go.Proofs.Ythnjkmjcacoajaa.Round.start_round (n := 13) (S := fun w' => w'.cell? ⟨S, 0, none⟩ = some (.int .i64 (g : Int)) ∧ w'.cell? ⟨S, 1, none⟩ = some (.int .i64 (e : Int)) ∧ w'.cell? ⟨Fl, 0, none⟩ = some (.int .u8 fl)) (ds := [12]) #[false, false, false, false, false, false, false, false, false, false, false, false, false] (by kernel_rfl) rfl rfl ⟨K0, K1, K2⟩ (by kernel_rfl) (fun h => by obtain ⟨_, _, h⟩ := h; exact h) (fun hHeld => ?_)
    refine pure_ (i := 3) (N := some 37) (v := ?_) (a' := ?_) #[false, false, false, true, false, false, false, false, false, false, false, false, false] rfl rfl (by kernel_rfl) (fun _ _ _ h => h) (Or.inl ⟨by rfl, ?_⟩) ?_ ?_
    rotate_left
    · intro w'
      go_simp
      with_reducible rfl
    rotate_left
    · simp only [Act.put, List.setIfInBounds_toArray, List.set_cons_zero, List.set_cons_succ, i64_w, i32_w]
      rfl
    refine pure_ (i := 4) (N := some 38) (v := ?_) (a' := ?_) #[false, false, false, true, true, false, false, false, false, false, false, false, false] rfl rfl (by kernel_rfl) (fun _ _ _ h => h) (Or.inl ⟨by rfl, ?_⟩) ?_ ?_
    rotate_left
    · intro w'
      go_simp
      with_reducible rfl
    rotate_left
    · simp only [Act.put, List.setIfInBounds_toArray, List.set_cons_zero, List.set_cons_succ, i64_w, i32_w]
      rfl
    refine pure_ (i := 5) (N := some 39) (v := ?_) (a' := ?_) #[false, false, false, true, true, true, false, false, false, false, false, false, false] rfl rfl (by kernel_rfl) (fun _ _ _ h => h) (Or.inl ⟨by rfl, ?_⟩) ?_ ?_
    rotate_left
    · intro w'
      go_simp
      with_reducible rfl
    rotate_left
    · simp only [Act.put, List.setIfInBounds_toArray, List.set_cons_zero, List.set_cons_succ, i64_w, i32_w]
      rfl
    refine take_ (i := 0) (N := some 34) (v := ?_) (a' := ?_) #[true, false, false, true, true, true, false, false, false, false, false, false, false] rfl rfl (by kernel_rfl) (fun _ _ _ h => h) (Or.inl ⟨by rfl, ?_⟩) hHeld ?_ ?_
    rotate_left
    · rintro w' ⟨s0, s1, s2⟩
      go_simp
      with_reducible rfl
    rotate_left
    · simp only [Act.put, List.setIfInBounds_toArray, List.set_cons_zero, List.set_cons_succ, i64_w, i32_w]
      rfl
    refine take_ (i := 2) (N := some 36) (v := ?_) (a' := ?_) #[true, false, true, true, true, true, false, false, false, false, false, false, false] rfl rfl (by kernel_rfl) (fun _ _ _ h => h) (Or.inl ⟨by rfl, ?_⟩) hHeld ?_ ?_
    rotate_left
    · rintro w' ⟨s0, s1, s2⟩
      go_simp
      with_reducible rfl
    rotate_left
    · simp only [Act.put, List.setIfInBounds_toArray, List.set_cons_zero, List.set_cons_succ, i64_w, i32_w]
      rfl
    refine pure_ (i := 6) (N := some 40) (v := ?_) (a' := ?_) #[true, false, true, true, true, true, true, false, false, false, false, false, false] rfl rfl (by kernel_rfl) (fun _ _ _ h => h) (Or.inl ⟨by rfl, ?_⟩) ?_ ?_
    rotate_left
    · intro w'
      go_simp
      with_reducible rfl
    rotate_left
    · simp only [Act.put, List.setIfInBounds_toArray, List.set_cons_zero, List.set_cons_succ, i64_w, i32_w]
      rfl
    refine take_ (i := 7) (N := some 41) (v := ?_) (a' := ?_) #[true, false, true, true, true, true, true, true, false, false, false, false, false] rfl rfl (by kernel_rfl) (fun _ _ _ h => h) (Or.inl ⟨by rfl, ?_⟩) hHeld ?_ ?_
    rotate_left
    · rintro w' ⟨s0, s1, s2⟩
      go_simp
      with_reducible rfl
    rotate_left
    · simp only [Act.put, List.setIfInBounds_toArray, List.set_cons_zero, List.set_cons_succ, i64_w, i32_w]
      rfl
    refine join_ (σ := Nat) 1 #[true, true, true, true, true, true, true, true, true, true, true, true, false] (fun s => [(35, .agg (rowK .u8 E)), (42, .agg (rowK .u8 E)), (43, .agg (rowK .u8 E.reverse)), (44, .agg (rowK .u8 (cell0 E hd []))), (9, .pointer (some ⟨s, 0, none⟩))]) (fun s w' => HoldsRow w' s 78 (rowK .u8 z64) ∧ W.heap.size ≤ s ∧ Below W.heap.size W w') ?_ ?_
    rotate_left
    · intro hCont
      refine two_ (i := 1) (j := 11) (Ni := some 35) (Nj := some 9) #[true, true, true, true, true, true, true, true, false, false, false, false, false] #[true, false, true, true, true, true, true, true, false, false, false, true, false] rfl rfl rfl rfl (by kernel_rfl) (by decide) (by decide) (fun K hK => ?_) (fun K hK => ?_)
      · skip
        refine goes_ Try.func35 (by kernel_rfl) rfl #[.agg #[.int .i64 (g : Int), .int .i64 (e : Int)]] (by rfl) rfl rfl (by simp only [List.map_toArray, List.map_cons, List.map_nil]; rfl) ?_
        with_reducible refine (HEC.out _).mono ?_
        rintro e1 wc ⟨rfl, hb⟩
        refine ⟨_, rfl, ?_⟩
        have hbc := hbc.trans (hb.mono hbc.size)
        refine hK.out _ _ ⟨pw_cell_below hbc K0, pw_cell_below hbc K1, pw_cell_below hbc K2⟩ (fun hHeld => ?_)
        clear hK K
        refine norm_ (a' := ?_) ?_ ?_
        rotate_left
        · show Act.put _ (some 35) _ = _
          simp only [Act.put, List.setIfInBounds_toArray, List.set_cons_zero, List.set_cons_succ, i64_w, i32_w]
          rfl
        refine two_ (i := 8) (j := 11) (Ni := some 42) (Nj := some 9) #[true, true, true, true, true, true, true, true, true, false, false, false, false] #[true, true, true, true, true, true, true, true, false, false, false, true, false] rfl rfl rfl rfl (by kernel_rfl) (by decide) (by decide) (fun K hK => ?_) (fun K hK => ?_)
        · skip
          refine goes_ Try.func35 (by kernel_rfl) rfl #[.agg #[.int .i64 (g : Int), .int .i64 (e : Int)]] (by rfl) rfl rfl (by simp only [List.map_toArray, List.map_cons, List.map_nil]; rfl) ?_
          with_reducible refine (HEC.out _).mono ?_
          rintro e1 wc ⟨rfl, hb⟩
          refine ⟨_, rfl, ?_⟩
          have hbc := hbc.trans (hb.mono hbc.size)
          refine hK.out _ _ ⟨pw_cell_below hbc K0, pw_cell_below hbc K1, pw_cell_below hbc K2⟩ (fun hHeld => ?_)
          clear hK K
          refine norm_ (a' := ?_) ?_ ?_
          rotate_left
          · show Act.put _ (some 42) _ = _
            simp only [Act.put, List.setIfInBounds_toArray, List.set_cons_zero, List.set_cons_succ, i64_w, i32_w]
            rfl
          refine two_ (i := 9) (j := 11) (Ni := some 43) (Nj := some 9) #[true, true, true, true, true, true, true, true, true, true, false, false, false] #[true, true, true, true, true, true, true, true, true, false, false, true, false] rfl rfl rfl rfl (by kernel_rfl) (by decide) (by decide) (fun K hK => ?_) (fun K hK => ?_)
          · skip
            refine goes_ Try.func36 (by kernel_rfl) rfl #[.agg (rowK .u8 E)] (by rfl) rfl rfl (by simp only [List.map_toArray, List.map_cons, List.map_nil]; rfl) ?_
            with_reducible refine (turned_calls _ E HEL.out).mono ?_
            rintro e1 wc ⟨rfl, hb⟩
            refine ⟨_, rfl, ?_⟩
            have hbc := hbc.trans (hb.mono hbc.size)
            refine hK.out _ _ ⟨pw_cell_below hbc K0, pw_cell_below hbc K1, pw_cell_below hbc K2⟩ (fun hHeld => ?_)
            clear hK K
            refine norm_ (a' := ?_) ?_ ?_
            rotate_left
            · show Act.put _ (some 43) _ = _
              simp only [Act.put, List.setIfInBounds_toArray, List.set_cons_zero, List.set_cons_succ, i64_w, i32_w]
              rfl
            refine pure_ (i := 10) (N := some 44) (v := ?_) (a' := ?_) #[true, true, true, true, true, true, true, true, true, true, true, false, false] rfl rfl (by kernel_rfl) (fun _ _ _ h => h) (Or.inl ⟨by rfl, ?_⟩) ?_ ?_
            rotate_left
            · intro w'
              refine exec_built 78 #[(0, .tmp 35), (1, .tmp 40), (3, .tmp 43)] ?_ [(0, .agg (rowK .u8 E)), (1, .int .u8 hd), (3, .agg (rowK .u8 E.reverse))] ?_ (rowK .u8 (cell0 E hd [])) HBU.out
              · rfl
              · simp only [List.map_toArray, List.map_cons, List.map_nil]
                rfl
            rotate_left
            · simp only [Act.put, List.setIfInBounds_toArray, List.set_cons_zero, List.set_cons_succ, i64_w, i32_w]
              rfl
            refine one_ (i := 11) (N := some 9) #[true, true, true, true, true, true, true, true, true, true, true, true, false] rfl rfl (by kernel_rfl) (by decide) (fun K hK => ?_)
            refine value_ (w1 := ?_) (v := ?_) (by rfl) rfl ?_ ?_
            rotate_left 2
            · refine exec_alloc 78 ?_ _ zero_cell
              rfl
            have hal := new_cell hbc hww
            refine hK.out _ _ ⟨pw_cell_below hal.2.2 K0, pw_cell_below hal.2.2 K1, pw_cell_below hal.2.2 K2⟩ (fun hHeld => ?_)
            clear hK K
            refine norm_ (a' := ?_) ?_ ?_
            rotate_left
            · show Act.put _ (some 9) _ = _
              simp only [Act.put, List.setIfInBounds_toArray, List.set_cons_zero, List.set_cons_succ, i64_w, i32_w]
              rfl
            exact norm_ (by simp only [putAll, Act.put, List.setIfInBounds_toArray, List.set_cons_zero, List.set_cons_succ]) (hCont _ _ hal)
          · skip
            refine value_ (w1 := ?_) (v := ?_) (by rfl) rfl ?_ ?_
            rotate_left 2
            · refine exec_alloc 78 ?_ _ zero_cell
              rfl
            have hal := new_cell hbc hww
            refine hK.out _ _ ⟨pw_cell_below hal.2.2 K0, pw_cell_below hal.2.2 K1, pw_cell_below hal.2.2 K2⟩ (fun hHeld => ?_)
            clear hK K
            refine norm_ (a' := ?_) ?_ ?_
            rotate_left
            · show Act.put _ (some 9) _ = _
              simp only [Act.put, List.setIfInBounds_toArray, List.set_cons_zero, List.set_cons_succ, i64_w, i32_w]
              rfl
            refine one_ (i := 9) (N := some 43) #[true, true, true, true, true, true, true, true, true, true, false, true, false] rfl rfl (by kernel_rfl) (by decide) (fun K hK => ?_)
            refine goes_ Try.func36 (by kernel_rfl) rfl #[.agg (rowK .u8 E)] (by rfl) rfl rfl (by simp only [List.map_toArray, List.map_cons, List.map_nil]; rfl) ?_
            with_reducible refine (turned_calls _ E HEL.out).mono ?_
            rintro e1 wc ⟨rfl, hb⟩
            refine ⟨_, rfl, ?_⟩
            have hal := keep_cell hal hww hb
            refine hK.out _ _ ⟨pw_cell_below hal.2.2 K0, pw_cell_below hal.2.2 K1, pw_cell_below hal.2.2 K2⟩ (fun hHeld => ?_)
            clear hK K
            refine norm_ (a' := ?_) ?_ ?_
            rotate_left
            · show Act.put _ (some 43) _ = _
              simp only [Act.put, List.setIfInBounds_toArray, List.set_cons_zero, List.set_cons_succ, i64_w, i32_w]
              rfl
            refine pure_ (i := 10) (N := some 44) (v := ?_) (a' := ?_) #[true, true, true, true, true, true, true, true, true, true, true, true, false] rfl rfl (by kernel_rfl) (fun _ _ _ h => h) (Or.inl ⟨by rfl, ?_⟩) ?_ ?_
            rotate_left
            · intro w'
              refine exec_built 78 #[(0, .tmp 35), (1, .tmp 40), (3, .tmp 43)] ?_ [(0, .agg (rowK .u8 E)), (1, .int .u8 hd), (3, .agg (rowK .u8 E.reverse))] ?_ (rowK .u8 (cell0 E hd [])) HBU.out
              · rfl
              · simp only [List.map_toArray, List.map_cons, List.map_nil]
                rfl
            rotate_left
            · simp only [Act.put, List.setIfInBounds_toArray, List.set_cons_zero, List.set_cons_succ, i64_w, i32_w]
              rfl
            exact norm_ (by simp only [putAll, Act.put, List.setIfInBounds_toArray, List.set_cons_zero, List.set_cons_succ]) (hCont _ _ hal)
        · skip
          refine value_ (w1 := ?_) (v := ?_) (by rfl) rfl ?_ ?_
          rotate_left 2
          · refine exec_alloc 78 ?_ _ zero_cell
            rfl
          have hal := new_cell hbc hww
          refine hK.out _ _ ⟨pw_cell_below hal.2.2 K0, pw_cell_below hal.2.2 K1, pw_cell_below hal.2.2 K2⟩ (fun hHeld => ?_)
          clear hK K
          refine norm_ (a' := ?_) ?_ ?_
          rotate_left
          · show Act.put _ (some 9) _ = _
            simp only [Act.put, List.setIfInBounds_toArray, List.set_cons_zero, List.set_cons_succ, i64_w, i32_w]
            rfl
          refine one_ (i := 8) (N := some 42) #[true, true, true, true, true, true, true, true, true, false, false, true, false] rfl rfl (by kernel_rfl) (by decide) (fun K hK => ?_)
          refine goes_ Try.func35 (by kernel_rfl) rfl #[.agg #[.int .i64 (g : Int), .int .i64 (e : Int)]] (by rfl) rfl rfl (by simp only [List.map_toArray, List.map_cons, List.map_nil]; rfl) ?_
          with_reducible refine (HEC.out _).mono ?_
          rintro e1 wc ⟨rfl, hb⟩
          refine ⟨_, rfl, ?_⟩
          have hal := keep_cell hal hww hb
          refine hK.out _ _ ⟨pw_cell_below hal.2.2 K0, pw_cell_below hal.2.2 K1, pw_cell_below hal.2.2 K2⟩ (fun hHeld => ?_)
          clear hK K
          refine norm_ (a' := ?_) ?_ ?_
          rotate_left
          · show Act.put _ (some 42) _ = _
            simp only [Act.put, List.setIfInBounds_toArray, List.set_cons_zero, List.set_cons_succ, i64_w, i32_w]
            rfl
          refine one_ (i := 9) (N := some 43) #[true, true, true, true, true, true, true, true, true, true, false, true, false] rfl rfl (by kernel_rfl) (by decide) (fun K hK => ?_)
          refine goes_ Try.func36 (by kernel_rfl) rfl #[.agg (rowK .u8 E)] (by rfl) rfl rfl (by simp only [List.map_toArray, List.map_cons, List.map_nil]; rfl) ?_
          with_reducible refine (turned_calls _ E HEL.out).mono ?_
          rintro e1 wc ⟨rfl, hb⟩
          refine ⟨_, rfl, ?_⟩
          have hal := keep_cell hal hww hb
          refine hK.out _ _ ⟨pw_cell_below hal.2.2 K0, pw_cell_below hal.2.2 K1, pw_cell_below hal.2.2 K2⟩ (fun hHeld => ?_)
          clear hK K
          refine norm_ (a' := ?_) ?_ ?_
          rotate_left
          · show Act.put _ (some 43) _ = _
            simp only [Act.put, List.setIfInBounds_toArray, List.set_cons_zero, List.set_cons_succ, i64_w, i32_w]
            rfl
          refine pure_ (i := 10) (N := some 44) (v := ?_) (a' := ?_) #[true, true, true, true, true, true, true, true, true, true, true, true, false] rfl rfl (by kernel_rfl) (fun _ _ _ h => h) (Or.inl ⟨by rfl, ?_⟩) ?_ ?_
          rotate_left
          · intro w'
            refine exec_built 78 #[(0, .tmp 35), (1, .tmp 40), (3, .tmp 43)] ?_ [(0, .agg (rowK .u8 E)), (1, .int .u8 hd), (3, .agg (rowK .u8 E.reverse))] ?_ (rowK .u8 (cell0 E hd [])) HBU.out
            · rfl
            · simp only [List.map_toArray, List.map_cons, List.map_nil]
              rfl
          rotate_left
          · simp only [Act.put, List.setIfInBounds_toArray, List.set_cons_zero, List.set_cons_succ, i64_w, i32_w]
            rfl
          exact norm_ (by simp only [putAll, Act.put, List.setIfInBounds_toArray, List.set_cons_zero, List.set_cons_succ]) (hCont _ _ hal)
      · skip
        refine value_ (w1 := ?_) (v := ?_) (by rfl) rfl ?_ ?_
        rotate_left 2
        · refine exec_alloc 78 ?_ _ zero_cell
          rfl
        have hal := new_cell hbc hww
        refine hK.out _ _ ⟨pw_cell_below hal.2.2 K0, pw_cell_below hal.2.2 K1, pw_cell_below hal.2.2 K2⟩ (fun hHeld => ?_)
        clear hK K
        refine norm_ (a' := ?_) ?_ ?_
        rotate_left
        · show Act.put _ (some 9) _ = _
          simp only [Act.put, List.setIfInBounds_toArray, List.set_cons_zero, List.set_cons_succ, i64_w, i32_w]
          rfl
        refine one_ (i := 1) (N := some 35) #[true, true, true, true, true, true, true, true, false, false, false, true, false] rfl rfl (by kernel_rfl) (by decide) (fun K hK => ?_)
        refine goes_ Try.func35 (by kernel_rfl) rfl #[.agg #[.int .i64 (g : Int), .int .i64 (e : Int)]] (by rfl) rfl rfl (by simp only [List.map_toArray, List.map_cons, List.map_nil]; rfl) ?_
        with_reducible refine (HEC.out _).mono ?_
        rintro e1 wc ⟨rfl, hb⟩
        refine ⟨_, rfl, ?_⟩
        have hal := keep_cell hal hww hb
        refine hK.out _ _ ⟨pw_cell_below hal.2.2 K0, pw_cell_below hal.2.2 K1, pw_cell_below hal.2.2 K2⟩ (fun hHeld => ?_)
        clear hK K
        refine norm_ (a' := ?_) ?_ ?_
        rotate_left
        · show Act.put _ (some 35) _ = _
          simp only [Act.put, List.setIfInBounds_toArray, List.set_cons_zero, List.set_cons_succ, i64_w, i32_w]
          rfl
        refine one_ (i := 8) (N := some 42) #[true, true, true, true, true, true, true, true, true, false, false, true, false] rfl rfl (by kernel_rfl) (by decide) (fun K hK => ?_)
        refine goes_ Try.func35 (by kernel_rfl) rfl #[.agg #[.int .i64 (g : Int), .int .i64 (e : Int)]] (by rfl) rfl rfl (by simp only [List.map_toArray, List.map_cons, List.map_nil]; rfl) ?_
        with_reducible refine (HEC.out _).mono ?_
        rintro e1 wc ⟨rfl, hb⟩
        refine ⟨_, rfl, ?_⟩
        have hal := keep_cell hal hww hb
        refine hK.out _ _ ⟨pw_cell_below hal.2.2 K0, pw_cell_below hal.2.2 K1, pw_cell_below hal.2.2 K2⟩ (fun hHeld => ?_)
        clear hK K
        refine norm_ (a' := ?_) ?_ ?_
        rotate_left
        · show Act.put _ (some 42) _ = _
          simp only [Act.put, List.setIfInBounds_toArray, List.set_cons_zero, List.set_cons_succ, i64_w, i32_w]
          rfl
        refine one_ (i := 9) (N := some 43) #[true, true, true, true, true, true, true, true, true, true, false, true, false] rfl rfl (by kernel_rfl) (by decide) (fun K hK => ?_)
        refine goes_ Try.func36 (by kernel_rfl) rfl #[.agg (rowK .u8 E)] (by rfl) rfl rfl (by simp only [List.map_toArray, List.map_cons, List.map_nil]; rfl) ?_
        with_reducible refine (turned_calls _ E HEL.out).mono ?_
        rintro e1 wc ⟨rfl, hb⟩
        refine ⟨_, rfl, ?_⟩
        have hal := keep_cell hal hww hb
        refine hK.out _ _ ⟨pw_cell_below hal.2.2 K0, pw_cell_below hal.2.2 K1, pw_cell_below hal.2.2 K2⟩ (fun hHeld => ?_)
        clear hK K
        refine norm_ (a' := ?_) ?_ ?_
        rotate_left
        · show Act.put _ (some 43) _ = _
          simp only [Act.put, List.setIfInBounds_toArray, List.set_cons_zero, List.set_cons_succ, i64_w, i32_w]
          rfl
        refine pure_ (i := 10) (N := some 44) (v := ?_) (a' := ?_) #[true, true, true, true, true, true, true, true, true, true, true, true, false] rfl rfl (by kernel_rfl) (fun _ _ _ h => h) (Or.inl ⟨by rfl, ?_⟩) ?_ ?_
        rotate_left
        · intro w'
          refine exec_built 78 #[(0, .tmp 35), (1, .tmp 40), (3, .tmp 43)] ?_ [(0, .agg (rowK .u8 E)), (1, .int .u8 hd), (3, .agg (rowK .u8 E.reverse))] ?_ (rowK .u8 (cell0 E hd [])) HBU.out
          · rfl
          · simp only [List.map_toArray, List.map_cons, List.map_nil]
            rfl
        rotate_left
        · simp only [Act.put, List.setIfInBounds_toArray, List.set_cons_zero, List.set_cons_succ, i64_w, i32_w]
          rfl
        exact norm_ (by simp only [putAll, Act.put, List.setIfInBounds_toArray, List.set_cons_zero, List.set_cons_succ]) (hCont _ _ hal)
    rintro s9 w5 ⟨hcell, hs9, hb5⟩
    have hHeld : w5.cell? ⟨S, 0, none⟩ = some (.int .i64 (g : Int)) ∧ w5.cell? ⟨S, 1, none⟩ = some (.int .i64 (e : Int)) ∧ w5.cell? ⟨Fl, 0, none⟩ = some (.int .u8 fl) := ⟨pw_cell_below hb5 K0, pw_cell_below hb5 K1, pw_cell_below hb5 K2⟩
    refine norm_ (a' := ?_) ?_ ?_
    rotate_left
    · simp only [putAll, Act.put, List.setIfInBounds_toArray, List.set_cons_zero, List.set_cons_succ]
      rfl
    refine last_ (i := 12) (N := none) #[true, true, true, true, true, true, true, true, true, true, true, true, true] rfl rfl (by kernel_rfl) (by decide) (fun K hK => ?_)
    refine skip_ (w1 := w5.setCells s9 0 (rowK .u8 (cell0 E hd [])).toList) (by rfl) rfl ?_ ?_
    · refine exec_store_mid 78 (.tmp 9) (.tmp 44) ?_ s9 0 (rowK .u8 (cell0 E hd [])) ?_ ?_ (there_row hcell 0 _ (by rw [HC0.out, hz64.out]; decide)) (by rw [HC0.out]; kernel_rfl) (rowK_one _ _)
      · rfl
      · rfl
      · rfl
    refine hK.out _ _ ?_
    clear hK K
    refine done_ (by kernel_rfl) ?_
    
    have hrow6 : HoldsRow (w5.setCells s9 0 (rowK .u8 (cell0 E hd [])).toList) s9 78 (rowK .u8 (cell0 E hd [])) := set_row_all hcell (by rw [HC0.out, hz64.out])
    have hb6 : Below W.heap.size W (w5.setCells s9 0 (rowK .u8 (cell0 E hd [])).toList) := sets_below hb5 hs9 _
    obtain ⟨w6, hw6⟩ : ∃ w6, w6 = w5.setCells s9 0 (rowK .u8 (cell0 E hd [])).toList := ⟨_, rfl⟩
    rw [← hw6] at hrow6 hb6 ⊢
    have R6 := Aside0.mk hrow6
    have B6 := Aside0.mk hb6
    have HS9 := Aside0.mk hs9
    have HPC := Aside0.mk (show Kd.C (Kd.int .u8) w6 (some (ad.add (47 * x.1))) n p by
      have h1 := Kd.C_below HR.out (H5.out.trans (hb6.mono H5.out.size))
      have h2 := C_cut h1 (47 * x.1) n (by have := HPN.out.2.1; unfold pieceL at this; have hx := x.2; unfold pieces at hx; omega)
      rw [HPN.out.1, HPN.out.2.1]
      rw [HPN.out.2.1] at h2
      exact h2)
    clear hHeld hcell hs9 hb5 hrow6 hb6 hw6 hbc hor hcv K0 K1 K2
    gi_wp2_with (refine Go.Proofs.Ythnjkmjcacoajaa.Round.wpListIn_of_step rfl (by simp) (fun K hK => ?_); refine step_copy_splice rfl (.tmp 46) (.tmp 47) 31 31 rfl 5 Try.underlying31 (by kernel_rfl) (some ⟨s9, 9, none⟩) (some (ad.add (47 * x.1))) 47 47 n n rfl rfl s9 9 (nums .u8 (cell0 E hd [])) 78 R6.out (nums .u8 p) ?n1 ?n2 ?n3 ?n4 W.heap.size W B6.out HS9.out ?_; (case n1 => rw [nums_length, HPL.out]; exact (Nat.min_eq_left hn47).symm); (case n2 => exact fun h0 => ⟨rfl, _, rfl, C_cells HPC.out (by rw [nums_length, HPL.out] at h0; exact h0)⟩); (case n3 => rw [nums_length, nums_length, HPL.out]; have := HC0.out; rw [rowK_size] at this; omega); (case n4 => exact fun v hv => nums_one _ _ v hv); intro w7 hh7 hb7; rw [nums_splice, cell_splice E hd p HEL.out (by rw [HPL.out]; exact hn47)] at hh7; have R7 := Aside0.mk (show HoldsRow w7 s9 78 (rowK .u8 (cell0 E hd p)) from hh7.out); have B7 := Aside0.mk hb7; clear hh7 hb7 R6 B6 HPC; rw [nums_length, HPL.out]; refine hK _ _ ?_; clear hK)
    simp only [Act.put, goInt, List.setIfInBounds_toArray, List.set_cons_zero, List.set_cons_succ]
    clear hHeld
    have HK := Aside0.mk (And.intro hn47 (And.intro hle (And.intro hl1 (And.intro hl2 (And.intro hpre hbs)))))
    obtain ⟨c1, hc1⟩ : ∃ c1, c1 = cell0 E hd p := ⟨_, rfl⟩
    have HC1 := Aside0.mk hc1
    have hc1l : c1.length = 64 := by rw [hc1, HPN.out.2.2.2]; have := HPL.out; unfold cell0; simp [edgeL_len]; omega
    have HL1 := Aside0.mk hc1l
    rw [← hc1] at R7
    have M0 : w7.drew.cell? ⟨O, 0, none⟩ = some (.slice A9 (cellsOf g e b pre).length c9) := (H1.out.below B7.out H1.out.lt).cell rfl
    have M1 : w7.drew.rangeAt s9 0 (nums .u8 c1) := by
      have := range_row R7.out 0 64
      rw [List.drop_zero, List.take_of_length_le (by omega)] at this
      exact this
    have M2 : w7.drew.frozen? ⟨O, 0, none⟩ = false := (H1.out.below B7.out H1.out.lt).free 0
    have hbc : Below W.heap.size W w7.drew := below_drew B7.out
    have HSZ := Aside0.mk (show W0.heap.size ≤ w7.heap.size ∧ W.heap.size ≤ w7.heap.size from ⟨Nat.le_trans hbs B7.out.size, B7.out.size⟩)
    have HNE := Aside0.mk (show ∀ k, k < W0.heap.size → ¬ (Value.slice A9 (cellsOf g e b pre).length c9).ownBlock = some k from fun k hk h => by have := Kd.S_base H2.out k h; omega)
    clear hc1 hc1l
    refine Go.Proofs.Ythnjkmjcacoajaa.Round.start_round (n := 6) (S := fun w' => w'.cell? ⟨O, 0, none⟩ = some (.slice A9 (cellsOf g e b pre).length c9) ∧ w'.rangeAt s9 0 (nums .u8 c1)) (ds := [4, 5]) #[false, false, false, false, false, false] (by kernel_rfl) rfl rfl ⟨M0, M1⟩ (by kernel_rfl) (fun h => by obtain ⟨_, _, h⟩ := h; exact h) (fun hHeld => ?_)
    refine take_ (i := 0) (N := some 49) (v := ?_) (a' := ?_) #[true, false, false, false, false, false] rfl rfl (by kernel_rfl) (fun _ _ _ h => h) (Or.inl ⟨by rfl, ?_⟩) hHeld ?_ ?_
    rotate_left
    · rintro w' ⟨s0, s1⟩
      go_simp
      with_reducible rfl
    rotate_left
    · simp only [Act.put, List.setIfInBounds_toArray, List.set_cons_zero, List.set_cons_succ, i64_w, i32_w]
      rfl
    refine take_ (i := 1) (N := some 50) (v := ?_) (a' := ?_) #[true, true, false, false, false, false] rfl rfl (by kernel_rfl) (fun _ _ _ h => h) (Or.inl ⟨by rfl, ?_⟩) hHeld ?_ ?_
    rotate_left
    · rintro w' ⟨s0, s1⟩
      refine exec_load_mid 78 (.tmp 9) ?_ s9 0 ?_ (nums .u8 c1) _ s1 Try.underlying78 rfl (by rw [nums_length, HL1.out]; kernel_rfl)
      · rfl
      · rfl
    rotate_left
    · simp only [Act.put, List.setIfInBounds_toArray, List.set_cons_zero, List.set_cons_succ, i64_w, i32_w]
      rfl
    refine one_ (i := 2) (N := some 51) #[true, true, true, false, false, false] rfl rfl (by kernel_rfl) (by decide) (fun K hK => ?_)
    refine goes_ Try.func37 (by kernel_rfl) rfl #[.agg (rowK .u8 c1)] (by rfl) rfl rfl (by simp only [List.map_toArray, List.map_cons, List.map_nil]; rfl) ?_
    with_reducible refine (bytes_calls _ c1 HL1.out).mono ?_
    rintro e3 w8 ⟨v8, rfl, ho8, hb8⟩
    refine ⟨_, rfl, ?_⟩
    have N1 := (show w8.rangeAt s9 0 (nums .u8 c1) from fun j v hv => pw_cell_below hb8 (M1 j v hv))
    have B8 := Aside0.mk (hbc.trans (hb8.mono hbc.size))
    have R8 := Aside0.mk ho8
    have BD := Aside0.mk hb8
    obtain ⟨A8, c8, rfl⟩ := Kd.R_slice ho8
    clear ho8 hb8 hbc
    rw [HL1.out] at R8 ⊢
    refine hK.out _ _ ⟨pw_cell_below B8.out (H1.out.cell rfl), N1⟩ (fun hHeld => ?_)
    clear hK K
    refine norm_ (a' := ?_) ?_ ?_
    rotate_left
    · show Act.put _ (some 51) _ = _
      simp only [Act.put, List.setIfInBounds_toArray, List.set_cons_zero, List.set_cons_succ, i64_w, i32_w]
      rfl
    refine one_ (i := 3) (N := some 52) #[true, true, true, true, false, false] rfl rfl (by kernel_rfl) (by decide) (fun K hK => ?_)
    refine value_ (w1 := w8.alloc (.cells #[.slice A8 64 c8] 31)) (v := .slice (some ⟨w8.heap.size, 0, none⟩) 1 1) (by rfl) rfl ?_ ?_
    · go_simp
    refine hK.out _ _ ⟨cell_alloc_old _ (pw_cell_below B8.out (H1.out.cell rfl)), World.rangeAt_alloc N1 _⟩ (fun hHeld => ?_)
    clear hK K
    refine norm_ (a' := ?_) ?_ ?_
    rotate_left
    · show Act.put _ (some 52) _ = _
      simp only [Act.put, List.setIfInBounds_toArray, List.set_cons_zero, List.set_cons_succ, i64_w, i32_w]
      rfl
    refine last_ (i := 4) (N := some 53) #[true, true, true, true, true, false] rfl rfl (by kernel_rfl) (by decide) (fun K hK => ?_)
    refine Kd.S_append_step (Kd.slice 5 (Kd.int .u8)) (w0 := w8) (W := w8) W0.heap.size (by rfl) (.tmp 49) (.tmp 52) 37 31 (.slice none 0 0) 24 ?a1 Try.underlying37 (by kernel_rfl) rfl (by decide) (by decide) (.slice A9 (cellsOf g e b pre).length c9) (cellsOf g e b pre) c1 [.slice A8 64 c8] (fun _ => True) (fun k => w7.heap.size ≤ k) ?a2 ?a3 ?a4 ?a5 (fun _ _ => trivial) (Kd.S_mono (Kd.S_below (Kd.S_bound H2.out) B8.out) (fun k hk => ⟨trivial, fun h => by have := hk.2.2.1; have := HSZ.out.2; omega⟩)) (Below.refl _ _) ?a6 ?a7 ?_
    case a1 => rfl
    case a2 => rfl
    case a3 => rfl
    case a4 => exact ⟨_, rfl, Kd.R_lower (Kd.R_mono (Kd.R_bound R8.out) (fun k h => h.2.1)) HSZ.out.1⟩
    case a5 => exact fun k hk => ⟨trivial, fun e => by have := Kd.S_lt H2.out k e.symm; have := HSZ.out.2; omega⟩
    case a6 => exact Nat.le_trans HSZ.out.1 BD.out.size
    case a7 => exact cells_few g e b pre HK.out.2.2.2.2.1 HM.out.2.2
    intro v1 w9 ho hb9 hg9 hat
    have B9 := Aside0.mk hb9
    have G9 := Aside0.mk hg9
    have R9 := Aside0.mk ho
    have HO9 := Aside0.mk (hr_move (H1.out.below B8.out H1.out.lt) (hg9.block O (Nat.lt_of_lt_of_le H1.out.lt B8.out.size) (fun h => HNE.out O (by have := HSS.out; omega) h.symm)))
    have Q0 := HO9.out.cell (j := 0) (v := .slice A9 (cellsOf g e b pre).length c9) rfl
    have Q1 := HO9.out.free 0
    obtain ⟨A10, c10, rfl⟩ := Kd.S_slice ho
    clear ho hb9 hg9 hat
    refine hK.out _ _ ?_
    clear hK K
    refine norm_ (a' := ?_) ?_ ?_
    rotate_left
    · show Act.put _ (some 53) _ = _
      simp only [Act.put, List.setIfInBounds_toArray, List.set_cons_zero, List.set_cons_succ, i64_w, i32_w]
      rfl
    refine last_ (i := 5) (N := none) #[true, true, true, true, true, true] rfl rfl (by kernel_rfl) (by decide) (fun K hK => ?_)
    refine skip_ (w1 := ?_) (by rfl) rfl ?_ ?_
    rotate_left
    · go_simp
      rfl
    refine hK.out _ _ ?_
    clear hK K
    refine done_ (by kernel_rfl) ?_
    
    obtain ⟨w10, hw10⟩ : ∃ w10, w10 = w9.setCell ⟨O, 0, none⟩ (.slice A10 ((cellsOf g e b pre).length + 1) c10) := ⟨_, rfl⟩
    rw [← hw10]
    have hsz := HSS.out
    have hOF : O ≠ Fl := by omega
    have HF9 : HoldsRow w9 Fl 5 #[.int .u8 (if (pre.length == 0) = true then 128 else 0)] := hr_move (H3.out.below B8.out H3.out.lt) (G9.out.block Fl (Nat.lt_of_lt_of_le H3.out.lt B8.out.size) (fun h => HNE.out Fl (by omega) h.symm))
    have HF10 : HoldsRow w10 Fl 5 #[.int .u8 (if (pre.length == 0) = true then 128 else 0)] := by rw [hw10]; exact hr_move HF9 (Below.heap_setCell w9 ⟨O, 0, none⟩ _ Fl (fun e => hOF e.symm))
    have N0 := HF10.cell (j := 0) rfl
    have N1 := HF10.free 0
    have HF := Aside0.mk HF10
    have HW10 := Aside0.mk hw10
    clear hHeld HF9 HF10 hw10 hsz hOF Q0 Q1 M0 M1 M2
    gi_wp2
    have hsz := HSS.out
    have hne9 : ∀ k, k < W0.heap.size → k ≠ O → k ≠ Fl → (w10.setCell ⟨Fl, 0, none⟩ (.int .u8 0)).heap[k]? = W.heap[k]? := fun k hk h1 h2 => by
      rw [Below.heap_setCell w10 ⟨Fl, 0, none⟩ _ k h2, HW10.out, Below.heap_setCell w9 ⟨O, 0, none⟩ _ k h1]
      exact (G9.out.block k (Nat.lt_of_lt_of_le hk (Nat.le_trans hbs B8.out.size)) (fun h => HNE.out k hk h.symm)).trans (B8.out.block k (Nat.lt_of_lt_of_le hk hbs))
    have hcut : cellsOf g e b pre ++ [c1] = cellsOf g e b (pre ++ [x]) := by
      rw [cellsOf_snoc, HC1.out, HPN.out.2.2.2, HPN.out.2.2.1]
      unfold cellOf cell0
      rw [HPN.out.1, pieceOf_len, HPN.out.2.1]
    have R9' := R9.out
    have hko : KeepsOthers w9 (w10.setCell ⟨Fl, 0, none⟩ (.int .u8 0)) := by rw [HW10.out]; exact (KeepsOthers.setCell w9 ⟨O, 0, none⟩ (.slice A10 ((cellsOf g e b pre).length + 1) c10)).trans (KeepsOthers.setCell _ ⟨Fl, 0, none⟩ (.int .u8 0))
    rw [hcut] at R9'
    refine ⟨((keeps_below B8.out).trans (KeepsOthers.of_grownBy G9.out (fun j o hj ho => ?_))).trans hko, ⟨hne9 B1 hl1 (by omega) (by omega), hne9 B2 hl2 (by omega) (by omega)⟩, ⟨⟨.slice A10 ((cellsOf g e b pre).length + 1) c10, ?_, ?_⟩, ?_, hr_move H4.out (hne9 S (by omega) (by omega) (by omega)), ?_, ?_⟩⟩
    · obtain ⟨cells, hc⟩ := Kd.S_typed (Kd.S_below H2.out B8.out) j hj
      rw [hc] at ho
      cases ho
      rfl
    · have h1 := (HO9.out.set 0 (.slice A10 ((cellsOf g e b pre).length + 1) c10))
      rw [← HW10.out] at h1
      exact hr_move h1 (Below.heap_setCell w10 ⟨Fl, 0, none⟩ _ O (show O ≠ Fl by omega))
    · have h2 := Kd.S_mono (ok' := fun _ => True) (Kd.S_step (w1 := w10.setCell ⟨Fl, 0, none⟩ (.int .u8 0)) (Kd.S_bound R9') (fun k hk _ => by
        rw [Below.heap_setCell w10 ⟨Fl, 0, none⟩ _ k (show k ≠ Fl by have := hk.2.1; omega), HW10.out, Below.heap_setCell w9 ⟨O, 0, none⟩ _ k (show k ≠ O by have := hk.2.1; omega)])) (fun _ _ => trivial)
      rw [show (cellsOf g e b (pre ++ [x])).length = (cellsOf g e b pre).length + 1 by rw [← hcut, List.length_append]; rfl] at h2
      exact h2
    · have h3 := (HF.out.set 0 (.int .u8 0))
      have h4 : ((pre ++ [x]).length == 0) = false := by simp
      rw [h4]
      exact h3
    · have h5 := H5.out.trans (B8.out.mono H5.out.size)
      have h6 : Below w.heap.size w w9 := h5.grown G9.out h5.size (fun k h => by have := Kd.S_base H2.out k h; omega)
      have h7 : Below w.heap.size w w10 := by rw [HW10.out]; exact h6.setCell (p := ⟨O, 0, none⟩) (by show w.heap.size ≤ O; omega) _
      exact h7.setCell (p := ⟨Fl, 0, none⟩) (by show w.heap.size ≤ Fl; omega) _
    · have h8 : w8.heap.size ≤ w9.heap.size := G9.out.size
      have h9 : W.heap.size ≤ w8.heap.size := B8.out.size
      have h10 : w9.heap.size ≤ w10.heap.size := by rw [HW10.out]; exact (KeepsOthers.setCell w9 _ _).size
      have h11 := (KeepsOthers.setCell w10 ⟨Fl, 0, none⟩ (.int .u8 0)).size
      omega
  case done =>
    rintro D ys W hD rfl hI hK
    obtain ⟨⟨v, h1, h2⟩, -, -, h5, -⟩ := hI
    obtain ⟨A9, c9, rfl⟩ := Kd.S_slice h2
    have hc := h1.cell (j := 0) rfl
    have H2 := Aside0.mk h2
    have H5 := Aside0.mk h5
    clear h1 h2 h5
    gi_wp2
    refine ⟨by simp, .inl ⟨_, _, rfl, run_takeDeferred hK, ?_⟩⟩
    refine ⟨_, results_tmp2 rfl _ _ _, ⟨_, rfl, ?_, ?_⟩⟩
    · exact Kd.S_lower (S_turn (B := 0) H2.out (grownBy_putObj' _ D (.deferred none)) (fun r e => by cases e; exact ⟨Nat.zero_le _, _, hK, rfl⟩)) hle
    · exact H5.out.trans (belowK_b (w := w) (Nat.le_refl _) W D _ _ (by omega) hK rfl rfl)
  case stop =>
    rintro D c pre W _ _ h _
    exact h.elim
end Go.Proofs.Ythnjkmjcacoajaa.Ext
end
