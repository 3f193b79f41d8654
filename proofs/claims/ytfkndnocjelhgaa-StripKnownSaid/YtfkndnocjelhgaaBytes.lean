import Derived.Great.BuildSlice
import Derived.WalkSpells
import Derived.Deep.MidRow
import Derived.Laws.CopyOwn
import Derived.Test.YtfkndnocjelhgaaArr
import Derived.Test.YtfkndnocjelhgaaBase1
import Derived.Test.YtfkndnocjelhgaaBase5
import Derived.Great.Walk
/- Arrays in the middle of a block: an operation's load and store; rows of bytes cut. No condition. (Out of tpl3's XMid.) -/
namespace Go.Proofs.Ytfkndnocjelhgaa.Ext
open Go Go.RowKit Go.Proofs.YtfkndnocjelhgaaW.PrintWords Go.Proofs.YtfkndnocjelhgaaW.PrintLast Go.Proofs.YtfkndnocjelhgaaW.PrintMore Go.Proofs.Ytfkndnocjelhgaa.Base Go.Proofs.Ytfkndnocjelhgaa.Arr
set_option linter.unusedVariables false
set_option linter.unusedSimpArgs false

theorem exec_load_mid {P : Program} {o : Oper} {a : Act} {w : World} (ty : TypeId) (x : Operand) (ho : o.op = .load ty x) (b q : Nat) (hx : a.eval x = .pointer (some ⟨b, q, none⟩)) (cs : List Value) (d : TypeDesc) (hc : w.rangeAt b q cs)
    (hu : P.underlying ty = some d) (hd : d.isRow = true) (hi : (P.info? ty).map (·.size) = some cs.length) : (execOp a.eval o).run P w = .ok (.value (.agg cs.toArray)) w := by
  unfold execOp
  simp only [ho, hx, Instr.loadAt, Instr.sureAddr, Sem.run_bind, Sem.run_pure, Result.andThen_ok, run_loadVar_mid w b q ty cs d hc hu hd hi]
theorem exec_store_mid {P : Program} {o : Oper} {a : Act} {w : World} (ty : TypeId) (x y : Operand) (ho : o.op = .store ty x y) (b q : Nat) (cells : Array Value) (hx : a.eval x = .pointer (some ⟨b, q, none⟩)) (hy : a.eval y = .agg cells)
    (ht : w.there b q cells.size) (hi : (P.info? ty).map (·.size) = some cells.size) (h1 : cells.all (·.oneCell') = true) : (execOp a.eval o).run P w = .ok .skip (w.setCells b q cells.toList) := by
  unfold execOp
  simp only [ho, hx, hy, Instr.storeAt, Instr.sureAddr, Sem.run_bind, Sem.run_pure, Result.andThen_ok, run_storeVar_mid w b q ty cells ht hi h1]
theorem cell_alloc_old {W : World} {a : Addr} {v : Value} (o : Obj) (h : W.cell? a = some v) : (W.alloc o).cell? a = some v := pw_cell_below (below_alloc (Below.refl _ W) o) h
theorem exec_alloc {P : Program} {o : Oper} {a : Act} {w : World} (ty : TypeId) (ho : o.op = .alloc ty) (cs : Array Value) (hz : ∀ W, (zeroValue ty).run P W = .ok (.agg cs) W) :
    (execOp a.eval o).run P w = .ok (.value (.pointer (some ⟨w.heap.size, 0, none⟩))) (w.alloc (.cells cs ty)) := by
  unfold execOp
  simp only [ho]
  unfold Instr.alloc
  simp [hz, go_sem, Result.andThen]
theorem run_one_slice {P : Program} (w : World) (t e : TypeId) (n : Nat) (cs : Array Value) (hu : P.underlying t = some (.slice e)) (hinfo : (P.info? e).map (fun i => (i.zero.isSome, i.size)) = some (true, n)) (hn : 0 < n) (hs : n ≤ 16777216) (hcs : cs.size = n) :
    (Instr.buildSlice t 1 #[(0, .agg cs)]).run P w = .ok (.slice (some ⟨w.heap.size, 0, none⟩) 1 1) (w.alloc (.cells cs e)) := by
  obtain ⟨ie, hie, hz⟩ := Option.map_eq_some_iff.1 hinfo
  obtain ⟨hz1, hz2⟩ := Prod.mk.inj hz
  obtain ⟨z, hzz⟩ := Option.isSome_iff_exists.1 hz1
  refine run_buildSlice w t e 1 _ cs ie z hu hie hzz (by rw [hz2]; omega) (by rw [hz2]; omega) ?_
  have := Great.fill_whole (s := n) hn [.agg cs] ((Array.range (1 * n)).map (z.cells[· % z.cells.size]!)) (fun v hv => by rw [List.mem_singleton.1 hv]; exact hcs) (by simp)
  rw [hz2]
  have e2 : (Value.agg cs).cells = cs := rfl
  simpa [e2] using this
theorem wpList_one_slice {P : Program} {ops : Array Oper} {rest : List Oper} {o : Oper} {a : Act} {w : World} {Q : Exit → Act → World → Prop} (hgd : o.guard = none) (t e : TypeId) (x : Operand) (ho : o.op = .buildSlice t 1 #[(0, x)]) (n : Nat) (cs : Array Value) (hx : a.eval x = .agg cs)
    (hu : P.underlying t = some (.slice e)) (hinfo : (P.info? e).map (fun i => (i.zero.isSome, i.size)) = some (true, n)) (hn : 0 < n) (hs : n ≤ 16777216) (hcs : cs.size = n)
    (h : wpList P ops Q rest (a.put o.dst (.slice (some ⟨w.heap.size, 0, none⟩) 1 1)) (w.alloc (.cells cs e))) : wpList P ops Q (o :: rest) a w := by
  refine wpList_plain hgd fun _ hK => ?_
  unfold Oper.wp execOp
  simp only [ho, Sem.run_bind, List.map_toArray, List.map_cons, List.map_nil, hx, run_one_slice w t e n cs hu hinfo hn hs hcs, Result.andThen_ok]
  exact hK _ _ h
theorem fill_part {place : Nat → Option (Nat × Nat)} {cells : Array Value} {i : Nat} {v : Value} {rest : List (Nat × Value)} {off size : Nat} (hp : place i = some (off, size)) (hs : v.cells.size = size) (hfit : off + size ≤ cells.size) :
    ∃ cells', Instr.fill place cells ((i, v) :: rest) = Instr.fill place cells' rest ∧ cells'.size = cells.size ∧ ∀ k, cells'[k]? = if off ≤ k ∧ k < off + size then v.cells[k - off]? else cells[k]? := by
  refine ⟨v.cells.zipIdx.foldl (fun cs (c, j) => cs.setIfInBounds (off + j) c) cells, ?_, ?_, ?_⟩
  · rw [Instr.fill, hp]
    simp [hs, show ¬ cells.size < off + size by omega]
  all_goals
    have h := Great.foldl_set off v.cells.toList 0 cells
    have e : v.cells.zipIdx.foldl (fun cs (x : Value × Nat) => cs.setIfInBounds (off + x.2) x.1) cells = (v.cells.toList.zipIdx 0).foldl (fun cs (x : Value × Nat) => cs.setIfInBounds (off + x.2) x.1) cells := by
      rw [← Array.foldl_toList, Array.toList_zipIdx]
  · exact (congrArg Array.size e).trans h.1
  · intro k
    refine (congrArg (·[k]?) e).trans ?_
    rw [h.2 k]
    simp only [Nat.add_zero, Array.length_toList, hs, Array.getElem?_toList]
    by_cases hk : off ≤ k ∧ k < off + size
    · rw [if_pos hk, if_pos ⟨hk.1, hk.2, by omega⟩]
    · rw [if_neg hk, if_neg (fun q => hk ⟨q.1, q.2.1⟩)]
/-- a load of a whole array at any address -/
theorem wpList_load_at {P : Program} {w : World} {ops : Array Oper} {rest : List Oper} {o : Oper} {a : Act} {Q : Exit → Act → World → Prop} (hgd : o.guard = none) (ty : TypeId) (x : Operand) (ho : o.op = .load ty x) (ad : Addr) (hx : a.eval x = .pointer (some ad)) (cs : List Value) (d : TypeDesc)
    (hc : ∀ j v, cs[j]? = some v → w.cell? (ad.add j) = some v) (hu : P.underlying ty = some d) (hd : d.isRow = true) (hi : (P.info? ty).map (·.size) = some cs.length)
    (h : wpList P ops Q rest (a.put o.dst (.agg cs.toArray)) w) : wpList P ops Q (o :: rest) a w := by
  have hl : (loadCells ad cs.length).run P w = .ok cs.toArray w := run_loadCells_list (P := P) w ad cs hc
  refine wpList_plain hgd fun _ hK => ?_
  obtain ⟨i, hq, hs⟩ := Option.map_eq_some_iff.1 hi
  have hagg : (isAgg ty).run P w = .ok true w := by
    unfold isAgg
    rw [Sem.run_bind, run_underlying hu w]
    cases d <;> simp_all
  have hlv : (loadVar ty ad).run P w = .ok (.agg cs.toArray) w := by simp [loadVar, Sem.run_bind, hagg, sizeOf, typeInfo, hq, hs, hl]
  unfold Oper.wp execOp
  simp only [ho, hx, Instr.loadAt, Instr.sureAddr, Sem.run_bind, Sem.run_pure, Result.andThen_ok, hlv]
  exact hK _ _ h
theorem exec_built {P : Program} {o : Oper} {a : Act} {w : World} (t : TypeId) (parts : Array (Nat × Operand)) (ho : o.op = .build t parts) (vals : List (Nat × Value)) (hv : (parts.map fun (i, x) => (i, a.eval x)).toList = vals) (cells : Array Value) (h : P.built t vals = some cells) :
    (execOp a.eval o).run P w = .ok (.value (.agg cells)) w := by
  unfold execOp
  simp only [ho, Sem.run_bind, run_build w t _ cells (by rw [hv]; exact h), Result.andThen_ok]
  rfl
theorem exec_one_slice {P : Program} {o : Oper} {a : Act} {w : World} (t e : TypeId) (x : Operand) (ho : o.op = .buildSlice t 1 #[(0, x)]) (n : Nat) (cs : Array Value) (hx : a.eval x = .agg cs)
    (hu : P.underlying t = some (.slice e)) (hinfo : (P.info? e).map (fun i => (i.zero.isSome, i.size)) = some (true, n)) (hn : 0 < n) (hs : n ≤ 16777216) (hcs : cs.size = n) :
    (execOp a.eval o).run P w = .ok (.value (.slice (some ⟨w.heap.size, 0, none⟩) 1 1)) (w.alloc (.cells cs e)) := by
  unfold execOp
  simp only [ho, Sem.run_bind, List.map_toArray, List.map_cons, List.map_nil, hx, run_one_slice w t e n cs hu hinfo hn hs hcs, Result.andThen_ok]
  rfl
theorem nums_rowK (l : List Int) : (nums .u8 l).toArray = rowK .u8 l := rfl
theorem nums_len (l : List Int) : (nums .u8 l).length = l.length := by simp [nums]
theorem range_row {W : World} {b : Nat} {t : TypeId} {f : List Int} (h : HoldsRow W b t (rowK .u8 f)) (q n : Nat) : W.rangeAt b q (nums .u8 ((f.drop q).take n)) := fun j v hv => by
  refine h.cell ?_
  unfold nums at hv
  rw [List.getElem?_map] at hv
  obtain ⟨x, hx, rfl⟩ := Option.map_eq_some_iff.1 hv
  rw [List.getElem?_take] at hx
  split at hx
  · rw [List.getElem?_drop] at hx
    simp [rowK, nums, hx]
  · cases hx
theorem there_row {W : World} {b : Nat} {t : TypeId} {cs : Array Value} (h : HoldsRow W b t cs) (q n : Nat) (hn : q + n ≤ cs.size) : W.there b q n := fun j hj => by
  refine ⟨?_, h.free (q + j)⟩
  have : q + j < cs.size := by omega
  rw [h.cell (j := q + j) (v := cs[q + j]) (Array.getElem?_eq_getElem this)]
  rfl
theorem sets_far {W : World} {b q : Nat} {vs : List Value} {k : Nat} (hk : k ≠ b) : (W.setCells b q vs).heap[k]? = W.heap[k]? := setCells_far vs q k hk
theorem sets_below {base : Nat} {w W : World} {b q : Nat} (h : Below base w W) (hb : base ≤ b) (vs : List Value) : Below base w (W.setCells b q vs) := by
  obtain ⟨s1, s2, s3, s4⟩ := setCells_same b vs q W
  exact h.trans ⟨s1, s2, s3, by rw [s4]; exact Nat.le_refl _, fun k hk => setCells_far vs q k (by omega)⟩
theorem sets_kept {w W : World} {S : Nat → Prop} {b q : Nat} (h : Kept w W S) (hb : S b ∨ w.heap.size ≤ b) (vs : List Value) : Kept w (W.setCells b q vs) S :=
  h.then_ (S2 := fun k => k = b) ⟨by rw [(setCells_same b vs q W).2.2.2]; exact Nat.le_refl _, fun k _ hn => setCells_far vs q k hn⟩ (fun k hk => by rw [hk]; exact hb)
theorem sets_size {W : World} {b q : Nat} (vs : List Value) : (W.setCells b q vs).heap.size = W.heap.size := (setCells_same b vs q W).2.2.2
theorem sets_all_far {W : World} {b q : Nat} {vs : List Value} : ∀ k, k ≠ b → (W.drew.setCells b q vs).heap[k]? = W.heap[k]? := fun k hk => setCells_far vs q k hk
end Go.Proofs.Ytfkndnocjelhgaa.Ext

/- The stamps of strip, as bytes and back, walked. Condition: a stamp of two numbers of 32 bits. -/
namespace Go.Proofs.Ytfkndnocjelhgaa.Ext
open Go Go.RowKit Go.Proofs.YtfkndnocjelhgaaW.PrintWords Go.Proofs.YtfkndnocjelhgaaW.PrintLast Go.Proofs.YtfkndnocjelhgaaW.PrintMore Go.Proofs.Ytfkndnocjelhgaa.Base Go.Proofs.Ytfkndnocjelhgaa.Arr
set_option linter.unusedVariables false
set_option linter.unusedSimpArgs false

theorem hr_move {W W1 : World} {b : Nat} {t : TypeId} {cs : Array Value} (h : HoldsRow W b t cs) (hm : W1.heap[b]? = W.heap[b]?) : HoldsRow W1 b t cs := hm.trans h
theorem u64_small (n : Int) (h0 : 0 ≤ n) (h : n < 18446744073709551616) : IntKind.u64.wrap n = n := by
  simp only [IntKind.wrap]
  simp [IntKind.bits, IntKind.signed]
  omega
theorem ofInt_nat64 (n : Nat) (h : n < 18446744073709551616) : (BitVec.ofInt 64 (n : Int)).toNat = n := by
  rw [BitVec.toNat_ofInt]
  omega
theorem or64 (a b : Nat) (ha : a < 18446744073709551616) (hb : b < 18446744073709551616) : bits .or .u64 (a : Int) (b : Int) = ((a ||| b : Nat) : Int) := by
  show IntKind.u64.wrap ((BitVec.ofInt 64 (a : Int) ||| BitVec.ofInt 64 (b : Int)).toNat : Int) = _
  have h := (BitVec.ofInt 64 (a : Int) ||| BitVec.ofInt 64 (b : Int)).isLt
  rw [u64_small _ (by omega) (by omega), BitVec.toNat_or, ofInt_nat64 a ha, ofInt_nat64 b hb]
theorem or_hi (k a b : Nat) (hb : b < 2 ^ k) : (a * 2 ^ k) ||| b = a * 2 ^ k + b := by
  rw [← Nat.shiftLeft_eq, Nat.shiftLeft_add_eq_or_of_lt hb]
theorem shr_nat (k : IntKind) (v e : Nat) (he : e ≤ k.bits) : shr k (v : Int) (e : Int) = ((v / 2 ^ e : Nat) : Int) := by
  unfold shr
  simp only [Int.toNat_natCast]
  rw [Nat.min_eq_left he]
  simp
theorem alloc_size (w : World) (o : Obj) : (w.alloc o).heap.size = w.heap.size + 1 := by
  show (w.heap.push o).size = _
  exact Array.size_push _
/-- a stamp's number -/
def stampN (g e : Nat) : Nat := g * 4294967296 + e
def edgeB (v i : Nat) : Int := (v : Int) / 2 ^ (8 * (7 - i)) % 256
/-- its bytes -/
def edgeL (v : Nat) : List Int := (List.range 8).map (edgeB v)
theorem stamp_or (g e : Nat) (hg : g < 4294967296) (he : e < 4294967296) : bits .or .u64 (IntKind.u64.wrap ((g : Int) * 4294967296)) (e : Int) = (stampN g e : Int) := by
  rw [u64_small _ (by omega) (by omega)]
  have : ((g : Int) * 4294967296) = ((g * 2 ^ 32 : Nat) : Int) := by omega
  rw [this, or64 _ _ (by omega) (by omega), or_hi 32 g e (by omega)]
  unfold stampN
  omega
def edgeTo (v n : Nat) : List Int := (List.range 8).map fun i => if i < n then edgeB v i else 0
theorem edge_set (v n : Nat) (hn : n < 8) : (edgeTo v n).set n (edgeB v n) = edgeTo v (n + 1) := by
  apply List.ext_getElem?
  intro i
  unfold edgeTo
  by_cases h : i = n
  · subst h
    rw [List.getElem?_set_self (by simpa using hn)]
    simp [List.getElem?_map, List.getElem?_range hn]
  · rw [List.getElem?_set_ne (fun e => h e.symm)]
    simp only [List.getElem?_map]
    by_cases hi : i < 8
    · rw [List.getElem?_range hi]
      simp only [Option.map_some]
      by_cases h2 : i < n
      · rw [if_pos h2, if_pos (by omega)]
      · rw [if_neg h2, if_neg (by omega)]
    · rw [List.getElem?_eq_none (by simp; omega)]; rfl
theorem edge_zero (v : Nat) : edgeTo v 0 = [0, 0, 0, 0, 0, 0, 0, 0] := rfl
theorem edge_eight (v : Nat) : edgeTo v 8 = edgeL v := rfl
theorem edge_len (v n : Nat) : (edgeTo v n).length = 8 := by simp [edgeTo]
set_option maxHeartbeats 4000000 in
set_option maxRecDepth 100000 in
theorem edge_calls (w : World) (g e : Nat) (hg : g < 4294967296) (he : e < 4294967296) :
    Calls Try.prog 32 #[.agg #[.int .i64 (g : Int), .int .i64 (e : Int)]] w fun en w' => en = .returned (.agg (rowK .u8 (edgeL (stampN g e)))) ∧ Below w.heap.size w w' := by
  have HV := Aside0.mk (stamp_or g e hg he)
  have HG := Aside0.mk hg
  have HE := Aside0.mk he
  have hvl : stampN g e < 18446744073709551616 := by unfold stampN; omega
  have HVL := Aside0.mk hvl
  have ug := u64_small (g : Int) (by omega) (by omega)
  have ue := u64_small (e : Int) (by omega) (by omega)
  clear hg he hvl
  go_enter Try.func32, Try.ntmps32
  go_wp2_with fail
  rw [HV.out]
  obtain ⟨b2, hb2⟩ : ∃ b2, b2 = w.heap.size + 1 := ⟨_, rfl⟩
  have HB2 := Aside0.mk hb2
  rw [← hb2]
  clear hb2
  go_loopw [13] (fun i wr => ∃ (j : Nat), j ≤ 8 ∧ i = .int .i64 (j : Nat) ∧ Aside0 (HoldsRow wr b2 71 (rowK .u8 (edgeTo (stampN g e) j))) ∧ Aside0 (Below w.heap.size w wr)) (fun i _ => 8 - (intOf i).toNat)
  case atStart =>
    refine ⟨0, by omega, rfl, ⟨?_⟩, ⟨below_alloc (below_alloc (Below.refl _ _) _) _⟩⟩
    have e : b2 = (w.alloc (.cells #[.int .i64 (g : Int), .int .i64 (e : Int)] 23)).heap.size := by rw [HB2.out, alloc_size]
    rw [e]
    exact HoldsRow.new _ _ _
  case round =>
    obtain ⟨j, hj, rfl, R, B⟩ := hrel
    by_cases hlt : j < 8
    · have d1 : decide ((j : Int) < 8) = true := decide_eq_true (by omega)
      have b0 := eq_true (show (0 : Int) ≤ (j : Int) by omega)
      have b1 := eq_true (show (j : Int) < 8 by omega)
      have hc := R.out.cell (j := j) (rowK_get _ _ j (by rw [edge_len]; exact hlt))
      have hf := R.out.free j
      go_wp2_with fail
      have h1 := R.out.set j (.int .u8 (edgeB (stampN g e) j))
      rw [rowK_set, edge_set _ _ hlt] at h1
      refine ⟨⟨j + 1, by omega, by go_num, ⟨h1⟩, ⟨B.out.setCell (show w.heap.size ≤ b2 by have := HB2.out; omega) _⟩⟩, by simp [intOf]; omega⟩
    · obtain rfl : j = 8 := by omega
      have d1 : decide (((8 : Nat) : Int) < 8) = false := rfl
      rw [show ((8 : Nat) : Int) = 8 from rfl]
      have R8 := Aside0.mk (show HoldsRow wr b2 71 (rowK .u8 (edgeL (stampN g e))) from R.out)
      have hsz : (rowK .u8 (edgeL (stampN g e))).size = 8 := by rw [rowK_size]; rfl
      have HBW := Aside0.mk (show w.heap.size ≤ b2 by have := HB2.out; omega)
      clear d1 R
      go_wp2_with (first | (refine wpList_load_row rfl 71 (.tmp 2) rfl b2 rfl 71 (rowK .u8 (edgeL (stampN g e))) (0, 0) _ R8.out Try.underlying71 rfl (by rw [hsz]; kernel_rfl) ?_) | (refine wpList_store_row rfl 71 _ _ rfl b2 (rowK .u8 (edgeL (stampN g e))) rfl rfl 71 (rowK .u8 (edgeL (stampN g e))) R8.out (by rw [hsz]; kernel_rfl) rfl (rowK_one _ _) ?_))
      exact bodyPost_ret (results_cell_row (p := 2) (ty := 71) rfl _ _ b2 71 (rowK .u8 (edgeL (stampN g e))) (0, 0) _ rfl (R8.out.row _) Try.underlying71 rfl (by rw [hsz]; kernel_rfl)) rfl ⟨rfl, Go.Proofs.Ytfkndnocjelhgaa.Arr.below_setRow B.out _ HBW.out⟩
end Go.Proofs.Ytfkndnocjelhgaa.Ext

/- slices.Reverse of eight bytes; an edge turned. No condition. -/
namespace Go.Proofs.Ytfkndnocjelhgaa.Ext
open Go Go.RowKit Go.Proofs.YtfkndnocjelhgaaW.PrintWords Go.Proofs.YtfkndnocjelhgaaW.PrintLast Go.Proofs.YtfkndnocjelhgaaW.PrintMore Go.Proofs.Ytfkndnocjelhgaa.Base Go.Proofs.Ytfkndnocjelhgaa.Arr
set_option linter.unusedVariables false
set_option linter.unusedSimpArgs false

/-- the first k and the last k of eight are turned -/
def revTo (l : List Int) (k : Nat) : List Int := (List.range 8).map fun i => if i < k ∨ 8 ≤ i + k then rd l ((7 - i : Nat) : Int) else rd l (i : Int)
theorem rev_len (l : List Int) (k : Nat) : (revTo l k).length = 8 := by simp [revTo]
theorem rev_get (l : List Int) (k i : Nat) (hi : i < 8) : rd (revTo l k) (i : Int) = if i < k ∨ 8 ≤ i + k then rd l ((7 - i : Nat) : Int) else rd l (i : Int) := by
  unfold revTo
  show (List.map _ _).getD (i : Int).toNat 0 = _
  rw [Int.toNat_natCast, List.getD_eq_getElem?_getD, List.getElem?_map, List.getElem?_range hi]
  rfl
theorem rd_nat (l : List Int) (i : Nat) : rd l (i : Int) = l.getD i 0 := by unfold rd; rw [Int.toNat_natCast]
theorem rev_step (l : List Int) (k j : Nat) (hk : k + j = 7) (hlt : k < j) : ((revTo l k).set k (rd (revTo l k) (j : Int))).set j (rd (revTo l k) (k : Int)) = revTo l (k + 1) := by
  apply List.ext_getElem?
  intro i
  by_cases hi : i < 8
  · have hr : (revTo l (k + 1))[i]? = some (rd (revTo l (k + 1)) (i : Int)) := by
      rw [rd_nat, List.getD_eq_getElem?_getD, List.getElem?_eq_getElem (by rw [rev_len]; exact hi)]; rfl
    rw [hr, rev_get l (k + 1) i hi]
    by_cases h1 : i = j
    · subst h1
      rw [List.getElem?_set_self (by rw [List.length_set, rev_len]; exact hi), rev_get l k k (by omega), if_neg (by omega), if_pos (by omega)]
      congr 3; omega
    · rw [List.getElem?_set_ne (fun e => h1 e.symm)]
      by_cases h2 : i = k
      · subst h2
        rw [List.getElem?_set_self (by rw [rev_len]; exact hi), rev_get l i j (by omega), if_neg (by omega), if_pos (by omega)]
        congr 3; omega
      · rw [List.getElem?_set_ne (fun e => h2 e.symm)]
        have hr2 : (revTo l k)[i]? = some (rd (revTo l k) (i : Int)) := by
          rw [rd_nat, List.getD_eq_getElem?_getD, List.getElem?_eq_getElem (by rw [rev_len]; exact hi)]; rfl
        rw [hr2, rev_get l k i hi]
        by_cases h3 : i < k ∨ 8 ≤ i + k
        · rw [if_pos h3, if_pos (by omega)]
        · rw [if_neg h3, if_neg (by omega)]
  · rw [List.getElem?_eq_none (by simp [rev_len]; omega), List.getElem?_eq_none (by rw [rev_len]; omega)]
theorem rev_zero (l : List Int) (hl : l.length = 8) : revTo l 0 = l := by
  apply List.ext_getElem?
  intro i
  by_cases hi : i < 8
  · have hr2 : (revTo l 0)[i]? = some (rd (revTo l 0) (i : Int)) := by
      rw [rd_nat, List.getD_eq_getElem?_getD, List.getElem?_eq_getElem (by rw [rev_len]; exact hi)]; rfl
    rw [hr2, rev_get l 0 i hi, if_neg (by omega), rd_nat, List.getD_eq_getElem?_getD, List.getElem?_eq_getElem (by omega)]; rfl
  · rw [List.getElem?_eq_none (by rw [rev_len]; omega), List.getElem?_eq_none (by omega)]
theorem rev_four (l : List Int) (hl : l.length = 8) : revTo l 4 = l.reverse := by
  apply List.ext_getElem?
  intro i
  by_cases hi : i < 8
  · have hr2 : (revTo l 4)[i]? = some (rd (revTo l 4) (i : Int)) := by
      rw [rd_nat, List.getD_eq_getElem?_getD, List.getElem?_eq_getElem (by rw [rev_len]; exact hi)]; rfl
    rw [hr2, rev_get l 4 i hi, if_pos (by omega), List.getElem?_reverse (by omega), rd_nat, List.getD_eq_getElem?_getD, hl, List.getElem?_eq_getElem (by omega)]
    simp
  · rw [List.getElem?_eq_none (by rw [rev_len]; omega), List.getElem?_eq_none (by simp; omega)]
set_option maxHeartbeats 4000000 in
set_option maxRecDepth 100000 in
theorem Reverse_calls (w : World) (b : Nat) (l : List Int) (hl : l.length = 8) (h : HoldsRow w b 71 (rowK .u8 l)) :
    Calls Try.prog 41 #[.slice (some ⟨b, 0, none⟩) 8 8] w fun en w' => en = .returned (.tuple #[]) ∧ HoldsRow w' b 71 (rowK .u8 l.reverse) ∧ Below b w w' ∧ ∀ k, k ≠ b → w'.heap[k]? = w.heap[k]? := by
  have H0 := Aside0.mk (show HoldsRow w b 71 (rowK .u8 (revTo l 0)) by rw [rev_zero l hl]; exact h)
  have HL := Aside0.mk hl
  clear h hl
  go_enter Try.func41, Try.ntmps41
  go_wp2_with fail
  go_loopw [2, 3] (fun i j wr => ∃ (k : Nat), k ≤ 4 ∧ i = .int .i64 (k : Nat) ∧ j = .int .i64 (7 - (k : Int)) ∧ Aside0 (HoldsRow wr b 71 (rowK .u8 (revTo l k))) ∧ Aside0 (Below b w wr ∧ ∀ q, q ≠ b → wr.heap[q]? = w.heap[q]?)) (fun i _ _ => 8 - (intOf i).toNat)
  case atStart => exact ⟨0, by omega, rfl, rfl, H0, ⟨Below.refl _ _, fun _ _ => rfl⟩⟩
  case round =>
    obtain ⟨k, hk, rfl, rfl, R, B⟩ := hrel
    by_cases hlt : k < 4
    · obtain ⟨j, hj⟩ : ∃ j, k + j = 7 := ⟨7 - k, by omega⟩
      rw [show (7 - (k : Int)) = (j : Int) by omega]
      have d1 : decide ((k : Int) < (j : Int)) = true := decide_eq_true (by omega)
      have d2 : decide (k < j) = true := decide_eq_true (by omega)
      have b0 := eq_true (show (0 : Int) ≤ (k : Int) by omega)
      have b1 := eq_true (show (k : Int) < 8 by omega)
      have b2 := eq_true (show (0 : Int) ≤ (j : Int) by omega)
      have b3 := eq_true (show (j : Int) < 8 by omega)
      have hc1 := R.out.cell (j := k) (rowK_get _ _ k (by rw [rev_len]; omega))
      have hc2 := R.out.cell (j := j) (rowK_get _ _ j (by rw [rev_len]; omega))
      have hf1 := R.out.free k
      have hf2 := R.out.free j
      have hne : k ≠ j := by omega
      have hne2 : j ≠ k := by omega
      go_wp2_with fail
      go_region
      go_wp2_with fail
      have h1 := (R.out.set k (.int .u8 (rd (revTo l k) (j : Int)))).set j (.int .u8 (rd (revTo l k) (k : Int)))
      rw [rowK_set, rowK_set, rev_step l k j hj (by omega)] at h1
      have hb := ((B.out.1.setCell (p := ⟨b, k, none⟩) (Nat.le_refl _) (.int .u8 (rd (revTo l k) (j : Int)))).setCell (p := ⟨b, j, none⟩) (Nat.le_refl _) (.int .u8 (rd (revTo l k) (k : Int))))
      refine ⟨⟨k + 1, by omega, by go_num, ?_, ⟨h1⟩, ⟨below_drew hb, fun q hq => ?_⟩⟩, by simp [intOf]; omega⟩
      · congr 1; omega
      · exact ((Below.heap_setCell _ ⟨b, j, none⟩ _ q hq).trans (Below.heap_setCell _ ⟨b, k, none⟩ _ q hq)).trans (B.out.2 q hq)
    · obtain rfl : k = 4 := by omega
      rw [show (7 - ((4 : Nat) : Int)) = 3 from rfl, show ((4 : Nat) : Int) = 4 from rfl]
      have R4 := Aside0.mk (show HoldsRow wr b 71 (rowK .u8 l.reverse) by rw [← rev_four l HL.out]; exact R.out)
      go_wp2_with fail
      exact Go.Great.bodyPost_end0 rfl rfl ⟨rfl, R4.out, B.out.1, B.out.2⟩
set_option maxHeartbeats 4000000 in
set_option maxRecDepth 100000 in
theorem turned_calls (w : World) (l : List Int) (hl : l.length = 8) :
    Calls Try.prog 33 #[.agg (rowK .u8 l)] w fun en w' => en = .returned (.agg (rowK .u8 l.reverse)) ∧ Below w.heap.size w w' := by
  have HL := Aside0.mk hl
  have hsz : (rowK .u8 l).size = 8 := by rw [rowK_size]; exact hl
  have hsz2 : (rowK .u8 l.reverse).size = 8 := by rw [rowK_size, List.length_reverse]; exact hl
  have HZ := Aside0.mk hsz
  have HZ2 := Aside0.mk hsz2
  clear hl hsz hsz2
  go_enter Try.func33, Try.ntmps33
  go_wp2_with fail
  obtain ⟨b1, hb1⟩ : ∃ b1, b1 = w.heap.size := ⟨_, rfl⟩
  obtain ⟨b2, hb2⟩ : ∃ b2, b2 = w.heap.size + 1 := ⟨_, rfl⟩
  obtain ⟨W1, hW1⟩ : ∃ W1 : World, W1 = (w.alloc (.cells (rowK .u8 l) 71)).alloc (.cells #[.int .u8 0, .int .u8 0, .int .u8 0, .int .u8 0, .int .u8 0, .int .u8 0, .int .u8 0, .int .u8 0] 71) := ⟨_, rfl⟩
  have P1 := Aside0.mk (show HoldsRow W1 b1 71 (rowK .u8 l) by rw [hW1, hb1]; exact (HoldsRow.new w _ _).alloc _)
  have P2 := Aside0.mk (show HoldsRow W1 b2 71 (rowK .u8 [0, 0, 0, 0, 0, 0, 0, 0]) by
    have e : b2 = (w.alloc (.cells (rowK .u8 l) 71)).heap.size := by rw [hb2, alloc_size]
    rw [hW1, e]; exact HoldsRow.new _ _ _)
  have B1 := Aside0.mk (show Below w.heap.size w W1 by rw [hW1]; exact below_alloc (below_alloc (Below.refl _ _) _) _)
  have HBB := Aside0.mk (show b1 = w.heap.size ∧ b2 = w.heap.size + 1 from ⟨hb1, hb2⟩)
  rw [← hW1, ← hb2, ← hb1]
  clear hW1 hb1 hb2
  ((with_reducible refine (Reverse_calls W1 b1 l HL.out P1.out).mono ?_))
  rintro en w2 ⟨rfl, h1, h2, h3⟩
  have R1 := Aside0.mk h1
  have R2 := Aside0.mk (hr_move P2.out (h3 b2 (by have := HBB.out; omega)))
  have B2 := Aside0.mk (B1.out.trans (h2.mono (by have := HBB.out; omega)))
  have HW := Aside0.mk (show w.heap.size ≤ b2 by have := HBB.out; omega)
  clear h1 h2 h3 P1 P2 B1
  go_wp2_with (first | (refine wpList_load_row rfl 71 (.tmp 1) rfl b1 rfl 71 (rowK .u8 l.reverse) (0, 0) _ R1.out Try.underlying71 rfl (by rw [HZ2.out]; kernel_rfl) ?_) | (refine wpList_store_row rfl 71 _ _ rfl b2 (rowK .u8 l.reverse) rfl rfl 71 (rowK .u8 [0, 0, 0, 0, 0, 0, 0, 0]) R2.out (by rw [HZ2.out]; kernel_rfl) (by rw [HZ2.out]; rfl) (rowK_one _ _) ?_))
  exact bodyPost_ret (results_cell_row (p := 2) (ty := 71) rfl _ _ b2 71 (rowK .u8 l.reverse) (0, 0) _ rfl (R2.out.row _) Try.underlying71 rfl (by rw [HZ2.out]; kernel_rfl)) rfl ⟨rfl, Go.Proofs.Ytfkndnocjelhgaa.Arr.below_setRow B2.out _ HW.out⟩
/-- each is a byte -/
def Bytes (l : List Int) : Prop := ∀ x ∈ l, 0 ≤ x ∧ x < 256
theorem Bytes.at_ {l : List Int} (h : Bytes l) (i : Nat) : 0 ≤ rd l (i : Int) ∧ rd l (i : Int) < 256 := by
  rw [rd_nat, List.getD_eq_getElem?_getD]
  cases hx : l[i]? with
  | none => simp
  | some x => exact h x (List.mem_of_getElem? hx)
/-- the number of the first j bytes -/
def valN (l : List Int) : Nat → Nat
  | 0 => 0
  | j + 1 => valN l j * 256 + (rd l (j : Int)).toNat
theorem val_lt {l : List Int} (h : Bytes l) : ∀ j, valN l j < 256 ^ j
  | 0 => by simp [valN]
  | j + 1 => by
    have h1 := val_lt h j
    have h2 := h.at_ j
    have h3 : (rd l (j : Int)).toNat < 256 := by omega
    show valN l j * 256 + _ < 256 ^ (j + 1)
    rw [Nat.pow_succ]
    generalize 256 ^ j = q at *
    omega
theorem val_or {l : List Int} (h : Bytes l) (j : Nat) (hj : j < 8) : bits .or .u64 (IntKind.u64.wrap ((valN l j : Int) * 256)) (rd l (j : Int)) = (valN l (j + 1) : Int) := by
  have h1 := val_lt h j
  have h2 := h.at_ j
  have h4 : 256 ^ j ≤ 256 ^ 7 := Nat.pow_le_pow_right (by decide) (by omega)
  have h5 : (256 : Nat) ^ 7 = 72057594037927936 := by decide
  rw [h5] at h4
  have h3 : (rd l (j : Int)).toNat < 256 := by omega
  rw [u64_small _ (by omega) (by omega)]
  have e1 : ((valN l j : Int) * 256) = ((valN l j * 2 ^ 8 : Nat) : Int) := by omega
  have e2 : rd l (j : Int) = ((rd l (j : Int)).toNat : Int) := by omega
  rw [e1, e2, or64 _ _ (by omega) (by omega), or_hi 8 _ _ (by omega)]
  show _ = ((valN l j * 256 + _ : Nat) : Int)
  omega
def stampC (v : Nat) : Array Value := #[.int .i64 ((v : Int) / 4294967296), .int .i64 ((v : Int) % 4294967296)]
theorem stamp_one (v : Nat) : (stampC v).all (·.oneCell') = true := by simp [stampC, Value.oneCell']
theorem and_lo (v : Nat) (hv : v < 18446744073709551616) : bits .and .u64 (v : Int) 4294967295 = ((v % 4294967296 : Nat) : Int) := by
  show IntKind.u64.wrap ((BitVec.ofInt 64 (v : Int) &&& BitVec.ofInt 64 4294967295).toNat : Int) = _
  have e : (BitVec.ofInt 64 4294967295).toNat = 2 ^ 32 - 1 := by decide
  rw [BitVec.toNat_and, ofInt_nat64 v hv, e, Nat.and_two_pow_sub_one_eq_mod]
  rw [u64_small _ (by omega) (by omega)]
theorem run_index_edge (w : World) (l : List Int) (hl : l.length = 8) (j : Nat) (hj : j < 8) : (Instr.index 71 (.agg (rowK .u8 l)) (.int .i64 (j : Int))).run Try.prog w = .ok (.int .u8 (rd l (j : Int))) w := by
  have h1 : (0 : Int) ≤ (j : Int) ∧ (j : Int) < 8 := by omega
  have h2 := rowK_get .u8 l j (by omega)
  simp [Instr.index, asIntOf, run_underlying Try.underlying71, h1, go_sem]
  rw [if_pos hj, h2]; rfl
set_option maxHeartbeats 4000000 in
set_option maxRecDepth 100000 in
theorem stamp_calls (w : World) (l : List Int) (hl : l.length = 8) (hb : Bytes l) :
    Calls Try.prog 38 #[.agg (rowK .u8 l)] w fun en w' => en = .returned (.agg (stampC (valN l 8))) ∧ Below w.heap.size w w' := by
  have HL := Aside0.mk hl
  have HB := Aside0.mk hb
  have hsz : (rowK .u8 l).size = 8 := by rw [rowK_size]; exact hl
  have HZ := Aside0.mk hsz
  have hvl : valN l 8 < 18446744073709551616 := by have := val_lt hb 8; have e : (256 : Nat) ^ 8 = 18446744073709551616 := by decide
                                                   omega
  have HVL := Aside0.mk hvl
  clear hl hsz hb hvl
  go_enter Try.func38, Try.ntmps38
  obtain ⟨b1, hb1⟩ : ∃ b1, b1 = w.heap.size := ⟨_, rfl⟩
  obtain ⟨W1, hW1⟩ : ∃ W1 : World, W1 = (w.alloc (.cells (rowK .u8 l) 71)).alloc (.cells #[.int .i64 0, .int .i64 0] 23) := ⟨_, rfl⟩
  have P1 := Aside0.mk (show HoldsRow W1 w.heap.size 71 (rowK .u8 l) by rw [hW1]; exact (HoldsRow.new w _ _).alloc _)
  have P1' := Aside0.mk (show HoldsRow ((w.alloc (.cells (rowK .u8 l) 71)).alloc (.cells #[.int .i64 0, .int .i64 0] 23)) w.heap.size 71 (rowK .u8 l) from (HoldsRow.new w _ _).alloc _)
  go_wp2_with (first | (refine wpList_load_row rfl 71 (.tmp 1) rfl w.heap.size rfl 71 (rowK .u8 l) (0, 0) _ P1'.out Try.underlying71 rfl (by rw [HZ.out]; kernel_rfl) ?_))
  have P2 := Aside0.mk (show HoldsRow W1 (w.heap.size + 1) 23 #[.int .i64 0, .int .i64 0] by
    have e : w.heap.size + 1 = (w.alloc (.cells (rowK .u8 l) 71)).heap.size := by rw [alloc_size]
    rw [hW1, e]; exact HoldsRow.new _ _ _)
  have B1 := Aside0.mk (show Below w.heap.size w W1 by rw [hW1]; exact below_alloc (below_alloc (Below.refl _ _) _) _)
  rw [← hW1]
  clear P1' P1 hW1 hb1
  go_loopw [3, 7] (fun v i wr => ∃ (j : Nat), j ≤ 8 ∧ v = .int .u64 (valN l j : Int) ∧ i = .int .i64 (j : Nat) ∧ wr = W1) (fun _ i _ => 8 - (intOf i).toNat)
  case atStart => exact ⟨0, by omega, rfl, rfl, rfl⟩
  case round =>
    obtain ⟨j, hj, rfl, rfl, rfl⟩ := hrel
    by_cases hlt : j < 8
    · have d1 : decide ((j : Int) < 8) = true := decide_eq_true (by omega)
      have b0 := eq_true (show (0 : Int) ≤ (j : Int) by omega)
      have b1 := eq_true (show (j : Int) < 8 by omega)
      have hidx := run_index_edge wr l HL.out j hlt
      have hx := HB.out.at_ j
      have ux := u64_small (rd l (j : Int)) hx.1 (by omega)
      have hor := val_or HB.out j hlt
      clear hx
      go_wp2_with fail
      exact ⟨⟨j + 1, by omega, by rw [← hor, Int.mul_comm], by go_num, by first | rfl | trivial⟩, by simp [intOf]; omega⟩
    · obtain rfl : j = 8 := by omega
      have d1 : decide (((8 : Nat) : Int) < 8) = false := rfl
      rw [show ((8 : Nat) : Int) = 8 from rfl]
      have hand := and_lo (valN l 8) HVL.out
      have hsz2 : (stampC (valN l 8)).size = 2 := rfl
      have huw : wrap64 ((valN l 8 : Int) / 4294967296) = (valN l 8 : Int) / 4294967296 := by unfold wrap64; have := HVL.out; omega
      have HW := Aside0.mk (show w.heap.size ≤ w.heap.size + 1 by omega)
      clear d1
      go_wp2_with (first | (refine wpList_store_row rfl 23 _ _ rfl (w.heap.size + 1) (stampC (valN l 8)) rfl rfl 23 #[.int .i64 0, .int .i64 0] P2.out (by rw [hsz2]; kernel_rfl) rfl (stamp_one _) ?_))
      exact bodyPost_ret (results_cell_row (p := 2) (ty := 23) rfl _ _ (w.heap.size + 1) 23 (stampC (valN l 8)) (0, 0) _ rfl (P2.out.row _) Try.underlying23 rfl (by rw [hsz2]; kernel_rfl)) rfl ⟨rfl, Go.Proofs.Ytfkndnocjelhgaa.Arr.below_setRow B1.out _ HW.out⟩
end Go.Proofs.Ytfkndnocjelhgaa.Ext

/- A sector's parts: walked. No condition beyond the row's own. -/
namespace Go.Proofs.Ytfkndnocjelhgaa.Ext
open Go Go.RowKit Go.Proofs.YtfkndnocjelhgaaW.PrintWords Go.Proofs.YtfkndnocjelhgaaW.PrintLast Go.Proofs.YtfkndnocjelhgaaW.PrintMore Go.Proofs.Ytfkndnocjelhgaa.Base Go.Proofs.Ytfkndnocjelhgaa.Arr
set_option linter.unusedVariables false
set_option linter.unusedSimpArgs false

def z64 : List Int := List.replicate 64 0
theorem z64_len : z64.length = 64 := by kernel_rfl
theorem zero_cell (W : World) : (zeroValue 75).run Try.prog W = .ok (.agg (rowK .u8 z64)) W := by kernel_rfl
theorem results_cell2 {fn : Func} {p q : Tmp} {ty : TypeId} (h : fn.results = #[.cell p ty, .tmp q]) (tmps : Array Value) (w : World) (g : Nat) (cs : Array Value)
    (hp : tmps.getD p undef = .pointer (some ⟨g, 0, none⟩)) (hv : (loadVar ty ⟨g, 0, none⟩).run Try.prog w = .ok (.agg cs) w) :
    (results fn tmps).run Try.prog w = .ok (.tuple #[.agg cs, tmps.getD q undef]) w := by
  have hp' : tmps[p]?.getD undef = .pointer (some ⟨g, 0, none⟩) := by simpa using hp
  simp [results, h, hp', asAddr, hv]
set_option maxHeartbeats 4000000 in
set_option maxRecDepth 100000 in
theorem parts_none (w : World) (A : Option Addr) (c : Nat) (n : Nat) (hn : n ≠ 64) (hm : n ≤ 9223372036854775807) :
    Calls Try.prog 37 #[.slice A n c] w fun e w' => e = .returned (.tuple #[.agg (rowK .u8 z64), .bool false]) ∧ Below w.heap.size w w' := by
  have hz := zero_cell
  have d0 : decide ((n : Int) = 64) = false := decide_eq_false (by omega)
  have d1 : ((n : Int) != 64) = true := by simp; omega
  have hsz : (rowK .u8 z64).size = 64 := by rw [rowK_size, z64_len]
  have HNEW := Aside0.mk (HoldsRow.new w 75 (rowK .u8 z64))
  go_enter Try.func37, Try.ntmps37
  go_wp2_with (first | (refine wpList_store_row rfl 75 _ _ rfl w.heap.size (rowK .u8 z64) rfl rfl 75 (rowK .u8 z64) HNEW.out (by rw [hsz]; kernel_rfl) rfl (rowK_one _ _) ?_))
  exact bodyPost_ret (results_cell2 (p := 2) (q := 3) (ty := 75) rfl _ _ w.heap.size (rowK .u8 z64) rfl (run_loadVar_row _ w.heap.size 75 75 (rowK .u8 z64) (0, 0) _ (HNEW.out.row _) Try.underlying75 rfl (by rw [hsz]; kernel_rfl))) rfl ⟨rfl, Go.Proofs.Ytfkndnocjelhgaa.Arr.below_setRow (below_alloc (Below.refl w.heap.size w) (.cells (rowK .u8 z64) 75)) _ (Nat.le_refl _)⟩
theorem nums_splice (k : IntKind) (a c : List Int) (off : Nat) : splice (nums k a) off (nums k c) = nums k (splice a off c) := by
  simp [splice, nums]
theorem take_cell {l : List Int} {n j : Nat} {v : Value} (h : (nums .u8 (l.take n))[j]? = some v) : (nums .u8 l)[j]? = some v := by
  unfold nums at *
  rw [List.map_take] at h
  rw [List.getElem?_take] at h
  split at h
  · exact h
  · exact absurd h (by simp)
theorem nums_one (k : IntKind) (l : List Int) : ∀ v ∈ nums k l, v.oneCell' = true := fun v hv => by
  unfold nums at hv
  obtain ⟨x, -, rfl⟩ := List.mem_map.1 hv
  rfl
theorem nums_get {k : IntKind} {l : List Int} {j : Nat} (h : j < l.length) : (nums k l)[j]? = some (.int k (rd l (j : Int))) := by
  unfold nums
  rw [List.getElem?_map, List.getElem?_eq_getElem h, rd_nat, List.getD_eq_getElem?_getD, List.getElem?_eq_getElem h]
  rfl
theorem C_cells {w : World} {ad : Addr} {n : Nat} {l : List Int} (h : Kd.C (Kd.int .u8) w (some ad) n l) (hn : 0 < n) : ∀ j v, (nums .u8 l)[j]? = some v → w.cell? (ad.add j) = some v := by
  obtain ⟨ad', e, hc⟩ := h.2.2 hn
  injection e with e
  subst e
  intro j v hv
  unfold nums at hv
  rw [List.getElem?_map] at hv
  obtain ⟨x, hx, rfl⟩ := Option.map_eq_some_iff.1 hv
  obtain ⟨cs, -, hcs, hcell⟩ := hc j x hx
  have : cs = [Value.int .u8 x] := hcs
  subst this
  have := hcell 0 _ rfl
  simpa [Kd.int, Kd.scalar] using this
theorem splice_get {α : Type} (L : List α) (off : Nat) (cs : List α) (h : off + cs.length ≤ L.length) (i : Nat) : (splice L off cs)[i]? = if i < off then L[i]? else if i < off + cs.length then cs[i - off]? else L[i]? := by
  unfold splice
  by_cases h1 : i < off
  · rw [if_pos h1, List.getElem?_append_left (by rw [List.length_take]; omega), List.getElem?_take_of_lt h1]
  · rw [if_neg h1, List.getElem?_append_right (by rw [List.length_take]; omega), List.length_take, Nat.min_eq_left (by omega)]
    by_cases h2 : i < off + cs.length
    · rw [if_pos h2, List.getElem?_append_left (by omega)]
    · rw [if_neg h2, List.getElem?_append_right (by omega), List.getElem?_drop]
      congr 1; omega
theorem parts_eq (b : List Int) (hb : b.length = 64) : splice (splice ((splice z64 0 (b.take 8)).set 8 (rd b 8)) 9 ((b.drop 9).take 47)) 56 (b.drop 56) = b := by
  have l0 : (b.take 8).length = 8 := by rw [List.length_take]; omega
  have l1 : ((b.drop 9).take 47).length = 47 := by rw [List.length_take, List.length_drop]; omega
  have l2 : (b.drop 56).length = 8 := by rw [List.length_drop]; omega
  have s0 : (splice z64 0 (b.take 8)).length = 64 := by rw [length_splice _ _ _ (by rw [l0, z64_len]; decide), z64_len]
  have s1 : ((splice z64 0 (b.take 8)).set 8 (rd b 8)).length = 64 := by rw [List.length_set, s0]
  have s2 : (splice ((splice z64 0 (b.take 8)).set 8 (rd b 8)) 9 ((b.drop 9).take 47)).length = 64 := by rw [length_splice _ _ _ (by rw [l1, s1]; decide), s1]
  apply List.ext_getElem?
  intro i
  rw [splice_get _ _ _ (by rw [l2, s2]; decide), splice_get _ _ _ (by rw [l1, s1]; decide), l1, l2]
  by_cases h1 : i < 9
  · rw [if_pos (by omega), if_pos h1]
    by_cases h2 : i = 8
    · subst h2
      rw [List.getElem?_set_self (by rw [s0]; decide), List.getElem?_eq_getElem (by omega)]
      show some (rd b ((8 : Nat) : Int)) = _
      rw [rd_nat, List.getD_eq_getElem?_getD, List.getElem?_eq_getElem (by omega)]; rfl
    · rw [List.getElem?_set_ne (fun e => h2 e.symm), splice_get _ _ _ (by rw [l0, z64_len]; decide), l0, if_neg (by omega), if_pos (by omega), List.getElem?_take_of_lt (by omega), Nat.sub_zero]
  · by_cases h2 : i < 56
    · rw [if_pos h2, if_neg h1, if_pos (by omega), List.getElem?_take_of_lt (by omega), List.getElem?_drop]
      congr 1; omega
    · rw [if_neg h2]
      by_cases h3 : i < 56 + 8
      · rw [if_pos h3, List.getElem?_drop]
        congr 1; omega
      · rw [if_neg h3, if_neg h1, if_neg (by omega), List.getElem?_eq_none (by rw [s1]; omega), List.getElem?_eq_none (by omega)]
theorem drop_cell {w W' : World} {ad : Addr} {b : List Int} (h : ∀ (W' : World), Below w.heap.size w W' → ∀ (j : Nat) (v : Value), (nums .u8 b)[j]? = some v → W'.cell? (ad.add j) = some v) (hb : Below w.heap.size w W') (n : Nat) {j : Nat} {v : Value} (hv : (nums .u8 (b.drop n))[j]? = some v) {o : Nat} (ho : o = ad.off + n) (hn : 0 < n) : W'.cell? ((⟨ad.block, o, none⟩ : Addr).add j) = some v := by
  have e : (⟨ad.block, o, none⟩ : Addr) = ad.add n := by
    subst ho
    unfold Addr.add
    rw [if_neg (by omega)]
  rw [e, add_add]
  refine h W' hb (n + j) v ?_
  unfold nums at hv ⊢
  rw [List.map_drop, List.getElem?_drop] at hv
  exact hv
set_option maxHeartbeats 4000000 in
set_option maxRecDepth 100000 in
theorem parts_calls (w : World) (A : Option Addr) (c : Nat) (b : List Int) (hr : Kd.C (Kd.int .u8) w A 64 b) (hc : 64 ≤ c) :
    Calls Try.prog 37 #[.slice A 64 c] w fun e w' => e = .returned (.tuple #[.agg (rowK .u8 b), .bool true]) ∧ Below w.heap.size w w' := by
  have hz := zero_cell
  have HR := Aside0.mk hr
  have HC := Aside0.mk hc
  have HNEW := Aside0.mk (HoldsRow.new w 75 (rowK .u8 z64))
  go_enter Try.func37, Try.ntmps37
  obtain ⟨ad, rfl, -⟩ := hr.2.2 (by omega)
  have hb64 : b.length = 64 := hr.1
  have B1 := Aside0.mk (below_alloc (Below.refl w.heap.size w) (.cells (rowK .u8 z64) 75))
  have x1 := eq_true (show (8 : Int) ≤ 64 by decide)
  have x2 := eq_false (show ¬ c = 8 by omega)
  have x3 := eq_false (show ¬ c - 8 = 1 by omega)
  have HCL := Aside0.mk (fun (W' : World) (hb : Below w.heap.size w W') => C_cells (Kd.C_below HR.out hb) (by omega))
  clear hr hc
  go_wp2_with ((refine wpList_copy_splice rfl (.tmp 11) (.tmp 12) 24 24 rfl 5 Try.underlying24 (by kernel_rfl) (some ⟨w.heap.size, 0, none⟩) (some ad) 8 8 64 c rfl rfl w.heap.size 0 (nums .u8 z64) 75 HNEW.out (nums .u8 (b.take 8)) ?n1 ?n2 ?n3 ?n4 w.heap.size w B1.out (Nat.le_refl _) ?_; (case n1 => rw [nums_length, List.length_take, hb64]; rfl); (case n2 => exact fun _ => ⟨rfl, ad, rfl, fun j v hv => HCL.out _ B1.out j v (take_cell hv)⟩); (case n3 => rw [nums_length, nums_length, z64_len, List.length_take]; omega); (case n4 => exact fun v hv => nums_one _ _ v hv); intro w2 hh2 hb2; rw [nums_splice] at hh2; have R2 := Aside0.mk (show HoldsRow w2 w.heap.size 75 (rowK .u8 (splice z64 0 (b.take 8))) from hh2.out); have B2 := Aside0.mk hb2; have k8 : w2.cell? ⟨ad.block, ad.off + 8, none⟩ = some (.int .u8 (rd b 8)) := HCL.out w2 hb2 8 _ (nums_get (by omega : 8 < b.length)); have c8 := R2.out.cell (j := 8) (rowK_get _ _ 8 (by rw [length_splice _ _ _ (by rw [z64_len, List.length_take]; omega), z64_len]; decide)); have f8 := R2.out.free 8; clear hh2 hb2; rw [nums_length, show (b.take 8).length = 8 by rw [List.length_take]; omega]))
  obtain ⟨W3, hW3⟩ : ∃ W3, W3 = w2.setCell ⟨w.heap.size, 8, none⟩ (.int .u8 (rd b 8)) := ⟨_, rfl⟩
  rw [← hW3]
  obtain ⟨cur3, hcur3⟩ : ∃ cur3, cur3 = (splice z64 0 (b.take 8)).set 8 (rd b 8) := ⟨_, rfl⟩
  have hl3 : cur3.length = 64 := by rw [hcur3, List.length_set, length_splice _ _ _ (by rw [z64_len, List.length_take]; omega), z64_len]
  have R3 := Aside0.mk (show HoldsRow W3.drew w.heap.size 75 (rowK .u8 cur3) by
    have := R2.out.set 8 (.int .u8 (rd b 8))
    rw [rowK_set] at this
    rw [hW3, hcur3]
    exact this)
  have B3 := Aside0.mk (show Below w.heap.size w W3.drew by rw [hW3]; exact below_drew (B2.out.setCell (p := ⟨w.heap.size, 8, none⟩) (Nat.le_refl _) _))
  have x4 := eq_false (show ¬ c - 8 - 1 = 47 by have := HC.out; omega)
  have x5 := eq_true (show (47 : Int) ≤ 55 by decide)
  have H3 := Aside0.mk hl3
  have HC3 := Aside0.mk hcur3
  have HB64 := Aside0.mk hb64
  clear k8 c8 f8 R2 B2 hW3 hl3 hcur3
  refine start_ (n := 9) (S := fun w' => True) (ds := []) #[false, false, false, false, false, false, false, false, false] (by kernel_rfl) rfl rfl (trivial) (fun hHeld => ?_)
  refine pure_ (i := 0) (N := some 21) (v := ?_) (a' := ?_) #[true, false, false, false, false, false, false, false, false] rfl rfl (by kernel_rfl) (fun _ _ _ h => h) (Or.inl ⟨by rfl, ?_⟩) ?_ ?_
  rotate_left
  · intro w'
    go_simp
    with_reducible rfl
  rotate_left
  · simp only [Act.put, List.setIfInBounds_toArray, List.set_cons_zero, List.set_cons_succ, i64_w, i32_w]
    rfl
  refine pure_ (i := 1) (N := some 22) (v := ?_) (a' := ?_) #[true, true, false, false, false, false, false, false, false] rfl rfl (by kernel_rfl) (fun _ _ _ h => h) (Or.inl ⟨by rfl, ?_⟩) ?_ ?_
  rotate_left
  · intro w'
    go_simp
    with_reducible rfl
  rotate_left
  · simp only [Act.put, List.setIfInBounds_toArray, List.set_cons_zero, List.set_cons_succ, i64_w, i32_w]
    rfl
  refine pure_ (i := 2) (N := some 23) (v := ?_) (a' := ?_) #[true, true, true, false, false, false, false, false, false] rfl rfl (by kernel_rfl) (fun _ _ _ h => h) (Or.inl ⟨by rfl, ?_⟩) ?_ ?_
  rotate_left
  · intro w'
    go_simp
    with_reducible rfl
  rotate_left
  · simp only [Act.put, List.setIfInBounds_toArray, List.set_cons_zero, List.set_cons_succ, i64_w, i32_w]
    rfl
  refine pure_ (i := 3) (N := some 24) (v := ?_) (a' := ?_) #[true, true, true, true, false, false, false, false, false] rfl rfl (by kernel_rfl) (fun _ _ _ h => h) (Or.inl ⟨by rfl, ?_⟩) ?_ ?_
  rotate_left
  · intro w'
    go_simp
    with_reducible rfl
  rotate_left
  · simp only [Act.put, List.setIfInBounds_toArray, List.set_cons_zero, List.set_cons_succ, i64_w, i32_w]
    rfl
  refine pure_ (i := 4) (N := some 25) (v := ?_) (a' := ?_) #[true, true, true, true, true, false, false, false, false] rfl rfl (by kernel_rfl) (fun _ _ _ h => h) (Or.inl ⟨by rfl, ?_⟩) ?_ ?_
  rotate_left
  · intro w'
    go_simp
    with_reducible rfl
  rotate_left
  · simp only [Act.put, List.setIfInBounds_toArray, List.set_cons_zero, List.set_cons_succ, i64_w, i32_w]
    rfl
  refine pure_ (i := 5) (N := some 26) (v := ?_) (a' := ?_) #[true, true, true, true, true, true, false, false, false] rfl rfl (by kernel_rfl) (fun _ _ _ h => h) (Or.inl ⟨by rfl, ?_⟩) ?_ ?_
  rotate_left
  · intro w'
    go_simp
    with_reducible rfl
  rotate_left
  · simp only [Act.put, List.setIfInBounds_toArray, List.set_cons_zero, List.set_cons_succ, i64_w, i32_w]
    rfl
  refine one_ (i := 6) (N := some 27) #[true, true, true, true, true, true, true, false, false] rfl rfl (by kernel_rfl) (by decide) (fun K hK => ?_)
  refine step_copy_splice rfl (.tmp 25) (.tmp 26) 24 24 rfl 5 Try.underlying24 (by kernel_rfl) (some ⟨w.heap.size, 9, none⟩) (some ⟨ad.block, ad.off + 8 + 1, none⟩) 47 47 55 (c - 8 - 1) (by rfl) (by rfl) w.heap.size 9 (nums .u8 cur3) 75 R3.out (nums .u8 ((b.drop 9).take 47)) ?c1 ?c2 ?c3 ?c4 w.heap.size w B3.out (Nat.le_refl _) ?_
  case c1 => rw [nums_length, List.length_take, List.length_drop, HB64.out]; rfl
  case c2 => exact fun _ => ⟨rfl, ⟨ad.block, ad.off + 8 + 1, none⟩, rfl, fun j v hv => drop_cell HCL.out B3.out 9 (take_cell hv) (by omega) (by decide)⟩
  case c3 => rw [nums_length, nums_length, H3.out, List.length_take]; omega
  case c4 => exact fun v hv => nums_one _ _ v hv
  intro w4 hh4 hb4
  rw [nums_splice] at hh4
  have R4 := Aside0.mk (show HoldsRow w4 w.heap.size 75 (rowK .u8 (splice cur3 9 ((b.drop 9).take 47))) from hh4.out)
  have B4 := Aside0.mk hb4
  clear hh4 hb4
  rw [nums_length, show ((b.drop 9).take 47).length = 47 by rw [List.length_take, List.length_drop]; omega]
  refine hK.out _ _ (trivial) (fun hHeld => ?_)
  clear hK K
  refine norm_ (a' := ?_) ?_ ?_
  rotate_left
  · show Act.put _ (some 27) _ = _
    simp only [Act.put, List.setIfInBounds_toArray, List.set_cons_zero, List.set_cons_succ, i64_w, i32_w]
    rfl
  refine pure_ (i := 7) (N := some 28) (v := ?_) (a' := ?_) #[true, true, true, true, true, true, true, true, false] rfl rfl (by kernel_rfl) (fun _ _ _ h => h) (Or.inl ⟨by rfl, ?_⟩) ?_ ?_
  rotate_left
  · intro w'
    go_simp
    with_reducible rfl
  rotate_left
  · simp only [Act.put, List.setIfInBounds_toArray, List.set_cons_zero, List.set_cons_succ, i64_w, i32_w]
    rfl
  refine one_ (i := 8) (N := some 29) #[true, true, true, true, true, true, true, true, true] rfl rfl (by kernel_rfl) (by decide) (fun K hK => ?_)
  refine step_copy_splice rfl (.tmp 22) (.tmp 28) 24 24 rfl 5 Try.underlying24 (by kernel_rfl) (some ⟨w.heap.size, 56, none⟩) (some ⟨ad.block, ad.off + 8 + 1 + 47, none⟩) 8 8 8 (c - 8 - 1 - 47) (by rfl) (by rfl) w.heap.size 56 (nums .u8 (splice cur3 9 ((b.drop 9).take 47))) 75 R4.out (nums .u8 (b.drop 56)) ?c1 ?c2 ?c3 ?c4 w.heap.size w B4.out (Nat.le_refl _) ?_
  case c1 => rw [nums_length, List.length_drop, HB64.out]; rfl
  case c2 => exact fun _ => ⟨rfl, ⟨ad.block, ad.off + 8 + 1 + 47, none⟩, rfl, fun j v hv => drop_cell HCL.out B4.out 56 hv (by omega) (by decide)⟩
  case c3 => rw [nums_length, nums_length, length_splice _ _ _ (by rw [H3.out, List.length_take]; omega), H3.out, List.length_drop]; omega
  case c4 => exact fun v hv => nums_one _ _ v hv
  intro w5 hh5 hb5
  rw [nums_splice] at hh5
  have R5 := Aside0.mk (show HoldsRow w5 w.heap.size 75 (rowK .u8 (splice (splice cur3 9 ((b.drop 9).take 47)) 56 (b.drop 56))) from hh5.out)
  have B5 := Aside0.mk hb5
  clear hh5 hb5
  refine hK.out _ _ (trivial) (fun hHeld => ?_)
  clear hK K
  refine norm_ (a' := ?_) ?_ ?_
  rotate_left
  · show Act.put _ (some 29) _ = _
    simp only [Act.put, List.setIfInBounds_toArray, List.set_cons_zero, List.set_cons_succ, i64_w, i32_w]
    rfl
  refine done_ (by kernel_rfl) ?_
  
  have R6 := Aside0.mk (show HoldsRow w5 w.heap.size 75 (rowK .u8 b) by
    have := R5.out
    rw [HC3.out, parts_eq b HB64.out] at this
    exact this)
  have hsz : (rowK .u8 b).size = 64 := by rw [rowK_size, HB64.out]
  clear R5 R4 R3 B3 B4 HCL HC3 H3
  go_wp2_with (first | (refine wpList_load_row rfl 75 (.tmp 2) rfl w.heap.size rfl 75 (rowK .u8 b) (0, 0) _ R6.out Try.underlying75 rfl (by rw [hsz]; kernel_rfl) ?_) | (refine wpList_store_row rfl 75 _ _ rfl w.heap.size (rowK .u8 b) rfl rfl 75 (rowK .u8 b) R6.out (by rw [hsz]; kernel_rfl) rfl (rowK_one _ _) ?_))
  exact bodyPost_ret (results_cell2 (p := 2) (q := 3) (ty := 75) rfl _ _ w.heap.size (rowK .u8 b) rfl (run_loadVar_row _ w.heap.size 75 75 (rowK .u8 b) (0, 0) _ (R6.out.row _) Try.underlying75 rfl (by rw [hsz]; kernel_rfl))) rfl ⟨rfl, Go.Proofs.Ytfkndnocjelhgaa.Arr.below_setRow B5.out _ (Nat.le_refl _)⟩
end Go.Proofs.Ytfkndnocjelhgaa.Ext

/- strip.Front, walked. No condition beyond the row's own; bytes are bytes. -/
namespace Go.Proofs.Ytfkndnocjelhgaa.Ext
open Go Go.RowKit Go.Proofs.YtfkndnocjelhgaaW.PrintWords Go.Proofs.YtfkndnocjelhgaaW.PrintLast Go.Proofs.YtfkndnocjelhgaaW.PrintMore Go.Proofs.Ytfkndnocjelhgaa.Base Go.Proofs.Ytfkndnocjelhgaa.Arr
set_option linter.unusedVariables false
set_option linter.unusedSimpArgs false

def s00 : Array Value := #[.int .i64 0, .int .i64 0]
theorem s00_one : s00.all (·.oneCell') = true := by simp [s00, Value.oneCell']
set_option maxHeartbeats 4000000 in
set_option maxRecDepth 100000 in
theorem Front_none (w : World) (A : Option Addr) (c : Nat) (n : Nat) (hn : n ≠ 64) (hm : n ≤ 9223372036854775807) :
    Calls Try.prog 21 #[.slice A n c] w fun e w' => e = .returned (.tuple #[.agg s00, .int .i64 2]) ∧ Below w.heap.size w w' := by
  have hz := zero_cell
  have HNM := Aside0.mk (show n ≠ 64 ∧ n ≤ 9223372036854775807 from ⟨hn, hm⟩)
  have hsz : (rowK .u8 z64).size = 64 := by rw [rowK_size, z64_len]
  clear hn hm
  go_enter Try.func21, Try.ntmps21
  go_wp2_with fail
  obtain ⟨W1, hW1⟩ : ∃ W1, W1 = w.alloc (.cells #[.int .i64 0, .int .i64 0] 23) := ⟨_, rfl⟩
  have P1 := Aside0.mk (show HoldsRow W1 w.heap.size 23 s00 by rw [hW1]; exact HoldsRow.new _ _ _)
  have B1 := Aside0.mk (show Below w.heap.size w W1 by rw [hW1]; exact below_alloc (Below.refl _ _) _)
  rw [← hW1]
  clear hW1
  ((with_reducible refine (parts_none W1 A c n HNM.out.1 HNM.out.2).mono ?_))
  rintro e w2 ⟨rfl, hb⟩
  have P2 := Aside0.mk (P1.out.below hb P1.out.lt)
  have B2 := Aside0.mk (B1.out.trans (hb.mono B1.out.size))
  have HNEW := Aside0.mk (HoldsRow.new w2 75 (rowK .u8 z64))
  obtain ⟨W3, hW3⟩ : ∃ W3, W3 = (w2.alloc (.cells (rowK .u8 z64) 75)).setRow w2.heap.size (rowK .u8 z64) := ⟨_, rfl⟩
  have hb3 : Below w2.heap.size w2 W3 := by rw [hW3]; exact Go.Proofs.Ytfkndnocjelhgaa.Arr.below_setRow (below_alloc (Below.refl w2.heap.size w2) (.cells (rowK .u8 z64) 75)) _ (Nat.le_refl _)
  have P3 := Aside0.mk (P2.out.below hb3 P2.out.lt)
  have B3 := Aside0.mk (B2.out.trans (hb3.mono B2.out.size))
  have HW3 := Aside0.mk hW3
  clear hb P1 B1 P2 B2 hb3 hW3
  go_wp2_with (first | (refine wpList_store_row rfl 75 _ _ rfl w2.heap.size (rowK .u8 z64) rfl rfl 75 (rowK .u8 z64) HNEW.out (by rw [hsz]; kernel_rfl) rfl (rowK_one _ _) ?_; rw [← HW3.out]) | (refine wpList_store_row rfl 23 _ _ rfl w.heap.size s00 rfl rfl 23 s00 P3.out (by kernel_rfl) rfl s00_one ?_))
  exact bodyPost_ret (results_cell2 (p := 2) (q := 3) (ty := 23) rfl _ _ w.heap.size s00 rfl (run_loadVar_row _ w.heap.size 23 23 s00 (0, 0) _ (P3.out.row _) Try.underlying23 rfl (by kernel_rfl))) rfl ⟨rfl, Go.Proofs.Ytfkndnocjelhgaa.Arr.below_setRow B3.out _ (Nat.le_refl _)⟩
theorem Bytes.take {l : List Int} (h : Bytes l) (n : Nat) : Bytes (l.take n) := fun x hx => h x (List.mem_of_mem_take hx)
set_option maxHeartbeats 4000000 in
set_option maxRecDepth 100000 in
theorem Front_calls (w : World) (A : Option Addr) (c : Nat) (b : List Int) (hr : Kd.C (Kd.int .u8) w A 64 b) (hc : 64 ≤ c) (hbb : Bytes b) :
    Calls Try.prog 21 #[.slice A 64 c] w fun e w' => e = .returned (.tuple #[.agg (stampC (valN (b.take 8) 8)), .int .i64 0]) ∧ Below w.heap.size w w' := by
  have hz := zero_cell
  have HR := Aside0.mk hr
  have HC := Aside0.mk hc
  have HB := Aside0.mk hbb
  have HB64 := Aside0.mk hr.1
  have hsz : (rowK .u8 b).size = 64 := by rw [rowK_size, hr.1]
  have hszz : (rowK .u8 z64).size = 64 := by rw [rowK_size, z64_len]
  have hsz2 : (stampC (valN (b.take 8) 8)).size = 2 := rfl
  clear hr hc hbb
  go_enter Try.func21, Try.ntmps21
  go_wp2_with fail
  obtain ⟨W1, hW1⟩ : ∃ W1, W1 = w.alloc (.cells #[.int .i64 0, .int .i64 0] 23) := ⟨_, rfl⟩
  have P1 := Aside0.mk (show HoldsRow W1 w.heap.size 23 s00 by rw [hW1]; exact HoldsRow.new _ _ _)
  have B1 := Aside0.mk (show Below w.heap.size w W1 by rw [hW1]; exact below_alloc (Below.refl _ _) _)
  rw [← hW1]
  clear hW1
  ((with_reducible refine (parts_calls W1 A c b (Kd.C_below HR.out B1.out) HC.out).mono ?_))
  rintro e w2 ⟨rfl, hb⟩
  have P2 := Aside0.mk (P1.out.below hb P1.out.lt)
  have B2 := Aside0.mk (B1.out.trans (hb.mono B1.out.size))
  have HNEW := Aside0.mk (HoldsRow.new w2 75 (rowK .u8 z64))
  obtain ⟨W3, hW3⟩ : ∃ W3, W3 = (w2.alloc (.cells (rowK .u8 z64) 75)).setRow w2.heap.size (rowK .u8 b) := ⟨_, rfl⟩
  have hb3 : Below w2.heap.size w2 W3 := by rw [hW3]; exact Go.Proofs.Ytfkndnocjelhgaa.Arr.below_setRow (below_alloc (Below.refl w2.heap.size w2) (.cells (rowK .u8 z64) 75)) _ (Nat.le_refl _)
  have P3 := Aside0.mk (P2.out.below hb3 P2.out.lt)
  have B3 := Aside0.mk (B2.out.trans (hb3.mono B2.out.size))
  have R3 := Aside0.mk (show HoldsRow W3 w2.heap.size 75 (rowK .u8 b) by rw [hW3]; exact HNEW.out.row _)
  have HW3 := Aside0.mk hW3
  have HCL := Aside0.mk (show ∀ j v, (nums .u8 (b.take 8))[j]? = some v → W3.cell? ((⟨w2.heap.size, 0, none⟩ : Addr).add j) = some v from fun j v hv => by
    have := R3.out.cell (j := j) (v := v) (by have := take_cell hv; unfold rowK; simpa using this)
    unfold Addr.add
    split
    · rename_i e; rw [e] at this; exact this
    · rw [Nat.zero_add]; exact this)
  clear hb P1 B1 P2 B2 hb3 hW3
  go_wp2_with (first | (refine wpList_store_row rfl 75 _ _ rfl w2.heap.size (rowK .u8 b) rfl rfl 75 (rowK .u8 z64) HNEW.out (by rw [hsz]; kernel_rfl) (by rw [hsz, hszz]) (rowK_one _ _) ?_; rw [← HW3.out]) | (refine wpList_load_at rfl 71 (.tmp 14) rfl ⟨w2.heap.size, 0, none⟩ rfl (nums .u8 (b.take 8)) _ HCL.out Try.underlying71 rfl (by rw [nums_length, List.length_take, HB64.out]; kernel_rfl) ?_))
  rw [nums_rowK]
  have hl8 : (b.take 8).length = 8 := by rw [List.length_take, HB64.out]; rfl
  have HB8 := HB.out.take 8
  ((with_reducible refine (stamp_calls W3 (b.take 8) hl8 HB8).mono ?_))
  rintro e w4 ⟨rfl, hb⟩
  have P4 := Aside0.mk (P3.out.below hb P3.out.lt)
  have B4 := Aside0.mk (B3.out.trans (hb.mono B3.out.size))
  clear hb P3 B3 R3 HW3 HCL HNEW
  go_wp2_with (first | (refine wpList_store_row rfl 23 _ _ rfl w.heap.size (stampC (valN (b.take 8) 8)) rfl rfl 23 s00 P4.out (by rw [hsz2]; kernel_rfl) rfl (stamp_one _) ?_))
  exact bodyPost_ret (results_cell2 (p := 2) (q := 3) (ty := 23) rfl _ _ w.heap.size (stampC (valN (b.take 8) 8)) rfl (run_loadVar_row _ w.heap.size 23 23 (stampC (valN (b.take 8) 8)) (0, 0) _ (P4.out.row _) Try.underlying23 rfl (by rw [hsz2]; kernel_rfl))) rfl ⟨rfl, Go.Proofs.Ytfkndnocjelhgaa.Arr.below_setRow B4.out _ (Nat.le_refl _)⟩
end Go.Proofs.Ytfkndnocjelhgaa.Ext

/- slices.Grow and slices.Concat, walked (under way). -/
namespace Go.Proofs.Ytfkndnocjelhgaa.Ext
open Go Go.RowKit Go.Proofs.YtfkndnocjelhgaaW.PrintWords Go.Proofs.YtfkndnocjelhgaaW.PrintLast Go.Proofs.YtfkndnocjelhgaaW.PrintMore Go.Proofs.Ytfkndnocjelhgaa.Base Go.Proofs.Ytfkndnocjelhgaa.Arr
set_option linter.unusedVariables false
set_option linter.unusedSimpArgs false

theorem zero_one (x : Value) (n : Nat) : Builtin.zeroCells #[x] n = (List.replicate n x).toArray := by
  apply Array.ext
  · simp [Builtin.zeroCells]
  · intro i h1 h2
    simp [Builtin.zeroCells, Nat.mod_one]
set_option maxHeartbeats 4000000 in
set_option maxRecDepth 100000 in
theorem Grow_calls (w : World) :
    Calls Try.prog 43 #[.slice none 0 0, .int .i64 64] w fun e w' => ∃ v, e = .returned v ∧ Kd.R (Kd.int .u8) 5 w' w.heap.size (fun _ => True) v [] ∧ Below w.heap.size w w' := by
  have hb : Try.t5.bytes = 1 := by kernel_rfl
  go_enter Try.func43, Try.ntmps43
  go_wp2_with fail
  have hcut : ∃ C : Nat, (Question.appendCap 64 0 5).cut (w.tape w.drawn (Question.appendCap 64 0 5)) = C ∧ 64 ≤ C ∧ C ≤ 9223372036854775807 := by
    refine ⟨_, rfl, ?_, ?_⟩
    · show 64 ≤ 64 + _ % _
      omega
    · show 64 + _ % (2 ^ 63 - 64) ≤ _
      have := Nat.mod_lt (w.tape w.drawn (Question.appendCap 64 0 5)) (show 0 < 2 ^ 63 - 64 by decide)
      omega
  obtain ⟨C, hC, hC1, hC2⟩ := hcut
  rw [hC]
  have e : Builtin.zeroCells #[Value.int IntKind.u8 0] 64 ++ Builtin.zeroCells #[Value.int IntKind.u8 0] (C - 64) = rowK .u8 (List.replicate C 0) := by
    rw [zero_one, zero_one]
    unfold rowK nums
    rw [List.map_replicate, List.append_toArray, List.replicate_append_replicate]
    congr 2; omega
  rw [e]
  go_ret
  refine ⟨_, rfl, ?_, below_drew (below_alloc (Below.refl _ _) _)⟩
  have h1 := (HoldsRow.new w 5 (rowK .u8 (List.replicate C 0))).own (base := w.heap.size) (Nat.le_refl _) (by rw [List.length_replicate]; exact hC2)
  have h2 := Kd.R_take (m := 0) h1 (Nat.zero_le _)
  rw [List.length_replicate] at h2
  exact Kd.R_drew h2
/-- how many bytes the first j rows have -/
def sumL (ls : List (List Int)) (j : Nat) : Nat := ((ls.take j).flatten).length
theorem sumL_succ (ls : List (List Int)) (j : Nat) (hj : j < ls.length) : sumL ls (j + 1) = sumL ls j + (ls.getD j []).length := by
  unfold sumL
  rw [List.take_add_one, List.getElem?_eq_getElem hj, List.flatten_append, List.length_append, List.getD_eq_getElem?_getD, List.getElem?_eq_getElem hj]
  simp
theorem flat_succ (ls : List (List Int)) (j : Nat) (hj : j < ls.length) : (ls.take (j + 1)).flatten = (ls.take j).flatten ++ ls.getD j [] := by
  rw [List.take_add_one, List.getElem?_eq_getElem hj, List.flatten_append, List.getD_eq_getElem?_getD, List.getElem?_eq_getElem hj]
  simp
theorem sumL_le (ls : List (List Int)) (j : Nat) : sumL ls j ≤ ls.flatten.length := by
  unfold sumL
  have h : ls.flatten = (ls.take j).flatten ++ (ls.drop j).flatten := by rw [← List.flatten_append, List.take_append_drop]
  rw [h, List.length_append]
  omega
theorem sumL_all (ls : List (List Int)) : sumL ls ls.length = ls.flatten.length := by unfold sumL; rw [List.take_length]
set_option maxHeartbeats 4000000 in
set_option maxRecDepth 100000 in
theorem Concat_calls (w : World) (A : Option Addr) (c : Nat) (ls : List (List Int)) (hr : (Kd.slice 5 (Kd.int .u8)).C w A ls.length ls) (hc : ls.length ≤ c) (h64 : ls.flatten.length = 64) :
    Calls Try.prog 42 #[.slice A ls.length c] w fun e w' => ∃ v, e = .returned v ∧ Kd.R (Kd.int .u8) 5 w' w.heap.size (fun _ => True) v ls.flatten ∧ Below w.heap.size w w' := by
  have HR := Aside0.mk hr
  have HC := Aside0.mk hc
  have H64 := Aside0.mk h64
  have HM := Aside0.mk hr.2.1
  clear hr hc h64
  go_enter Try.func42, Try.ntmps42
  go_wp2_with fail
  go_loopw [3, 11] (fun v i wr => ∃ (j : Nat), j ≤ ls.length ∧ v = .int .i64 (sumL ls j : Int) ∧ i = .int .i64 (j : Nat) ∧ w = wr) (fun _ i _ => ls.length - (intOf i).toNat)
  case atStart => exact ⟨0, by omega, rfl, rfl, rfl⟩
  case round =>
    obtain ⟨j, hj, rfl, rfl, rfl⟩ := hrel
    by_cases hlt : j < ls.length
    · obtain ⟨ad, cs, rfl, -, ⟨A5, c5, rfl, hl5, hr5⟩, hcell⟩ := Kd.C_get HR.out ([] : List Int) (j : Int) (by omega) (by omega)
      rw [Int.toNat_natCast] at hcell hl5 hr5
      have K : w.cell? (ad.add j) = some (.slice A5 (ls.getD j []).length c5) := by
        have h : w.cell? (ad.add (j * 1 + 0)) = some (.slice A5 (ls.getD j []).length c5) := hcell 0 _ rfl
        rw [Nat.mul_one] at h
        exact h
      clear hcell hr5
      have d1 : decide ((j : Int) < (ls.length : Int)) = true := decide_eq_true (by omega)
      have b0 := eq_true (show (0 : Int) ≤ (j : Int) by omega)
      have b1 := eq_true (show (j : Int) < (ls.length : Int) by omega)
      have hs := sumL_succ ls j hlt
      have hle := sumL_le ls (j + 1)
      obtain ⟨q, hq⟩ : ∃ q, q = sumL ls j := ⟨_, rfl⟩
      obtain ⟨m, hm⟩ : ∃ m, m = (ls.getD j []).length := ⟨_, rfl⟩
      rw [← hq, ← hm] at hs
      rw [← hm] at K hl5
      have hx1 := eq_false (show ¬ ((q : Int) + (m : Int) < 0) by omega)
      have hx0 : wrap64 ((q : Int) + (m : Int)) = (q : Int) + (m : Int) := by have := H64.out; unfold wrap64; omega
      have hx2 : wrap64 ((j : Int) + 1) = (j : Int) + 1 := by have := HM.out; unfold wrap64; omega
      have HS := Aside0.mk hs
      rw [← hq]
      clear hs hle hm hq
      go_wp2_with fail
      refine ⟨⟨j + 1, by omega, ?g1, ?g2, by first | rfl | trivial⟩, ?g4⟩
      case g1 => rw [hx0, HS.out, Int.natCast_add]
      case g2 => rw [hx2, Int.natCast_add]; rfl
      case g4 =>
        rw [hx2]
        show ls.length - ((j : Int) + 1).toNat < ls.length - (j : Int).toNat
        omega
    · obtain rfl : j = ls.length := by omega
      have d1 : decide ((ls.length : Int) < (ls.length : Int)) = false := decide_eq_false (by omega)
      rw [sumL_all, H64.out]
      clear hlt hj
      go_wp2_with (((with_reducible refine (Grow_calls w).mono ?_)); rintro e w1 ⟨v, rfl, ho, hb⟩; have R1 := Aside0.mk ho; have B1 := Aside0.mk hb; clear ho hb)
      go_loopw [6, 27] (fun v i wr => ∃ (j : Nat), j ≤ ls.length ∧ i = .int .i64 (j : Nat) ∧ Aside0 (Kd.R (Kd.int .u8) 5 wr w.heap.size (fun _ => True) v ((ls.take j).flatten)) ∧ Aside0 (Below w.heap.size w wr)) (fun _ i _ => ls.length - (intOf i).toNat)
      case atStart => exact ⟨0, by omega, rfl, R1, B1⟩
      case round =>
        obtain ⟨j, hj, rfl, R, B⟩ := hrel
        by_cases hlt : j < ls.length
        · obtain ⟨ad, cs, rfl, -, ⟨A5, c5, rfl, hl5, hr5⟩, hcell⟩ := Kd.C_get (Kd.C_below HR.out B.out) ([] : List Int) (j : Int) (by omega) (by omega)
          rw [Int.toNat_natCast] at hcell hl5 hr5
          have K : wr.cell? (ad.add j) = some (.slice A5 (ls.getD j []).length c5) := by
            have h : wr.cell? (ad.add (j * 1 + 0)) = some (.slice A5 (ls.getD j []).length c5) := hcell 0 _ rfl
            rw [Nat.mul_one] at h
            exact h
          clear hcell
          have d1 : decide ((j : Int) < (ls.length : Int)) = true := decide_eq_true (by omega)
          have b0 := eq_true (show (0 : Int) ≤ (j : Int) by omega)
          have b1 := eq_true (show (j : Int) < (ls.length : Int) by omega)
          have hs := sumL_succ ls j hlt
          have hle := sumL_le ls (j + 1)
          have HFL := Aside0.mk (flat_succ ls j hlt)
          obtain ⟨m, hm⟩ : ∃ m, m = (ls.getD j []).length := ⟨_, rfl⟩
          rw [← hm] at hs K hl5 hr5
          have HROW2 := Aside0.mk hr5
          clear hr5
          have HAL := Aside0.mk (show ((ls.take j).flatten.length + m) * 1 ≤ 140737488355328 by
            have := H64.out
            unfold sumL at hs hle
            omega)
          have hx2 : wrap64 ((j : Int) + 1) = (j : Int) + 1 := by have := HM.out; unfold wrap64; omega
          clear hs hle hm
          go_wp2_with (first | (at_builtin; refine Kd.R_append_rows (Kd.int .u8) (w0 := w) w.heap.size rfl (.tmp 31) (.tmp 32) 24 5 (.int .u8 0) 1 rfl Try.underlying24 (by kernel_rfl) rfl (by decide) (by decide) u6 ((ls.take j).flatten) (ls.getD j []) A5 m c5 (fun _ => True) (fun _ => False) rfl rfl R.out HROW2.out (fun _ _ h => h) (fun _ h => h.elim) (fun _ _ => trivial) B.out B.out.size HAL.out ?_; intro v1 w3 ho hb hg hat; rw [← HFL.out] at ho; have R3 := Aside0.mk ho; have B3 := Aside0.mk hb; clear ho hb hg hat))
          refine ⟨⟨j + 1, by omega, ?g1, R3, B3⟩, ?g4⟩
          case g1 => rw [hx2, Int.natCast_add]; rfl
          case g4 =>
            rw [hx2]
            show ls.length - ((j : Int) + 1).toNat < ls.length - (j : Int).toNat
            omega
        · obtain rfl : j = ls.length := by omega
          have d1 : decide ((ls.length : Int) < (ls.length : Int)) = false := decide_eq_false (by omega)
          have RF := Aside0.mk (show Kd.R (Kd.int .u8) 5 wr w.heap.size (fun _ => True) u6 ls.flatten by have := R.out; rw [List.take_length] at this; exact this)
          clear hlt hj
          go_wp2_with fail
          go_ret
          exact ⟨_, rfl, RF.out, B.out⟩
end Go.Proofs.Ytfkndnocjelhgaa.Ext

/- The bytes of strip's cell, walked. No condition beyond the row's own. -/
namespace Go.Proofs.Ytfkndnocjelhgaa.Ext
open Go Go.RowKit Go.Proofs.YtfkndnocjelhgaaW.PrintWords Go.Proofs.YtfkndnocjelhgaaW.PrintLast Go.Proofs.YtfkndnocjelhgaaW.PrintMore Go.Proofs.Ytfkndnocjelhgaa.Base Go.Proofs.Ytfkndnocjelhgaa.Arr
set_option linter.unusedVariables false
set_option linter.unusedSimpArgs false

/-- a part of a row that is held, as what is read -/
theorem hold_C {W : World} {g t : Nat} {b : List Int} (h : HoldsRow W g t (rowK .u8 b)) (off n : Nat) (hn : off + n ≤ b.length) (hm : b.length ≤ 9223372036854775807) : Kd.C (Kd.int .u8) W (some ⟨g, off, none⟩) n ((b.drop off).take n) := by
  refine ⟨by rw [List.length_take, List.length_drop]; omega, by omega, fun h0 => ⟨⟨g, off, none⟩, rfl, fun j x hx => ⟨[.int .u8 x], rfl, rfl, fun i u hu => ?_⟩⟩⟩
  have hi : i = 0 := by
    cases i with
    | zero => rfl
    | succ i => simp at hu
  subst hi
  have hu' : Value.int .u8 x = u := by simpa using hu
  subst hu'
  have hr := range_row h off n j (.int .u8 x) (by unfold nums; rw [List.getElem?_map, hx]; rfl)
  have e : ((⟨g, off, none⟩ : Addr).add (j * (Kd.int .u8).sz + 0)) = ⟨g, off + j, none⟩ := by
    show (⟨g, off, none⟩ : Addr).add (j * 1 + 0) = _
    rw [Nat.mul_one, Nat.add_zero]
    unfold Addr.add
    split
    · rename_i e; rw [e]; rfl
    · rfl
  rw [e]
  exact hr
/-- slices in a row that is held, as rows that are read -/
theorem slices_C {W : World} {g t : Nat} {vs : List Value} {ls : List (List Int)} (h : HoldsRow W g t vs.toArray) (hlen : vs.length = ls.length) (hm : ls.length ≤ 9223372036854775807)
    (hK : ∀ (j : Nat) (l : List Int), ls[j]? = some l → ∃ (A : Option Addr) (c : Nat), vs[j]? = some (Value.slice A l.length c) ∧ l.length ≤ c ∧ Kd.C (Kd.int .u8) W A l.length l) : (Kd.slice 5 (Kd.int .u8)).C W (some ⟨g, 0, none⟩) ls.length ls := by
  refine ⟨rfl, hm, fun h0 => ⟨⟨g, 0, none⟩, rfl, fun j l hl => ?_⟩⟩
  obtain ⟨A, c, hv, hle, hc⟩ := hK j l hl
  refine ⟨[.slice A l.length c], rfl, ⟨A, c, rfl, hle, hc⟩, fun i u hu => ?_⟩
  have hi : i = 0 := by
    cases i with
    | zero => rfl
    | succ i => simp at hu
  subst hi
  have hu' : Value.slice A l.length c = u := by simpa using hu
  subst hu'
  have hr := h.cell (j := j) (v := .slice A l.length c) (by simpa using hv)
  have e : ((⟨g, 0, none⟩ : Addr).add (j * (Kd.slice 5 (Kd.int .u8)).sz + 0)) = ⟨g, j, none⟩ := by
    show (⟨g, 0, none⟩ : Addr).add (j * 1 + 0) = _
    rw [Nat.mul_one, Nat.add_zero]
    unfold Addr.add
    split
    · rename_i e; rw [e]
    · rw [Nat.zero_add]
  rw [e]
  exact hr
def cutL (b : List Int) : List (List Int) := [b.take 8, [rd b 8], (b.drop 9).take 47, b.drop 56]
theorem cut_flat (b : List Int) (hb : b.length = 64) : (cutL b).flatten = b := by
  have e9 : b.drop 8 = rd b 8 :: b.drop 9 := by
    rw [List.drop_eq_getElem_cons (by omega : 8 < b.length)]
    congr 1
    show _ = rd b ((8 : Nat) : Int)
    rw [rd_nat, List.getD_eq_getElem?_getD, List.getElem?_eq_getElem (by omega)]; rfl
  have e56 : b.drop 9 = (b.drop 9).take 47 ++ b.drop 56 := by
    rw [show b.drop 56 = (b.drop 9).drop 47 by rw [List.drop_drop]]
    exact (List.take_append_drop 47 (b.drop 9)).symm
  show b.take 8 ++ ([rd b 8] ++ ((b.drop 9).take 47 ++ (b.drop 56 ++ []))) = b
  rw [List.append_nil, ← e56]
  show b.take 8 ++ (rd b 8 :: b.drop 9) = b
  rw [← e9, List.take_append_drop]
set_option maxHeartbeats 4000000 in
set_option maxRecDepth 100000 in
theorem bytes_calls (w : World) (b : List Int) (hb : b.length = 64) :
    Calls Try.prog 34 #[.agg (rowK .u8 b)] w fun e w' => ∃ v, e = .returned v ∧ Kd.R (Kd.int .u8) 5 w' w.heap.size (fun _ => True) v b ∧ Below w.heap.size w w' := by
  have HB := Aside0.mk hb
  obtain ⟨W1, hW1⟩ : ∃ W1, W1 = w.alloc (.cells (rowK .u8 b) 75) := ⟨_, rfl⟩
  obtain ⟨g, hg⟩ : ∃ g, g = w.heap.size := ⟨_, rfl⟩
  have P1 := Aside0.mk (show HoldsRow W1 g 75 (rowK .u8 b) by rw [hW1, hg]; exact HoldsRow.new _ _ _)
  have B1 := Aside0.mk (show Below w.heap.size w W1 by rw [hW1]; exact below_alloc (Below.refl _ _) _)
  have HG := Aside0.mk hg
  have HW1 := Aside0.mk hW1
  clear hb hg hW1
  go_enter Try.func34, Try.ntmps34
  go_wp2_with fail
  rw [← HW1.out, ← HG.out]
  have K8 : W1.drew.cell? ⟨g, 8, none⟩ = some (.int .u8 (rd b 8)) := P1.out.cell (rowK_get _ _ 8 (by have := HB.out; omega))
  obtain ⟨W2, hW2⟩ : ∃ W2, W2 = W1.drew.alloc (.cells #[.int .u8 (rd b 8)] 5) := ⟨_, rfl⟩
  obtain ⟨W3, hW3⟩ : ∃ W3, W3 = W2.alloc (.cells #[.slice (some ⟨g, 0, none⟩) 8 8, .slice (some ⟨W1.heap.size, 0, none⟩) 1 1, .slice (some ⟨g, 9, none⟩) 47 47, .slice (some ⟨g, 56, none⟩) 8 8] 24) := ⟨_, rfl⟩
  have P2 : HoldsRow W2 g 75 (rowK .u8 b) := by rw [hW2]; exact HoldsRow.alloc (show HoldsRow W1.drew g 75 (rowK .u8 b) from P1.out) _
  have Q2 : HoldsRow W2 W1.heap.size 5 (rowK .u8 [rd b 8]) := by rw [hW2]; exact HoldsRow.new W1.drew _ _
  have P3 : HoldsRow W3 g 75 (rowK .u8 b) := by rw [hW3]; exact HoldsRow.alloc P2 _
  have Q3 : HoldsRow W3 W1.heap.size 5 (rowK .u8 [rd b 8]) := by rw [hW3]; exact HoldsRow.alloc Q2 _
  have T3 : HoldsRow W3 W2.heap.size 24 [.slice (some ⟨g, 0, none⟩) 8 8, .slice (some ⟨W1.heap.size, 0, none⟩) 1 1, .slice (some ⟨g, 9, none⟩) 47 47, .slice (some ⟨g, 56, none⟩) 8 8].toArray := by rw [hW3]; exact HoldsRow.new _ _ _
  have hB3 : Below w.heap.size w W3 := by rw [hW3, hW2]; exact below_alloc (below_alloc (below_drew B1.out) _) _
  have HLS : (Kd.slice 5 (Kd.int .u8)).C W3 (some ⟨W2.heap.size, 0, none⟩) (cutL b).length (cutL b) := by
    have hb := HB.out
    refine slices_C T3 rfl (by show 4 ≤ _; omega) (fun j l hl => ?_)
    match j, hl with
    | 0, hl =>
      obtain rfl : b.take 8 = l := by simpa [cutL] using hl
      have e : (b.take 8).length = 8 := by rw [List.length_take]; omega
      have := hold_C P3 0 8 (by omega) (by omega)
      rw [List.drop_zero] at this
      rw [e]
      exact ⟨_, 8, rfl, by omega, this⟩
    | 1, hl =>
      obtain rfl : [rd b 8] = l := by simpa [cutL] using hl
      exact ⟨_, 1, rfl, by simp, hold_C Q3 0 1 (by simp) (by simp)⟩
    | 2, hl =>
      obtain rfl : (b.drop 9).take 47 = l := by simpa [cutL] using hl
      have e : ((b.drop 9).take 47).length = 47 := by rw [List.length_take, List.length_drop]; omega
      rw [e]
      exact ⟨_, 47, rfl, by omega, hold_C P3 9 47 (by omega) (by omega)⟩
    | 3, hl =>
      obtain rfl : b.drop 56 = l := by simpa [cutL] using hl
      have e : (b.drop 56).length = 8 := by rw [List.length_drop]; omega
      have := hold_C P3 56 8 (by omega) (by omega)
      rw [List.take_of_length_le (by omega)] at this
      rw [e]
      exact ⟨_, 8, rfl, by omega, this⟩
    | j + 4, hl => simp [cutL] at hl
  have HCALL := Aside0.mk (show Calls Try.prog 42 #[.slice (some ⟨W2.heap.size, 0, none⟩) 4 4] W3 fun e w' => ∃ v, e = .returned v ∧ Kd.R (Kd.int .u8) 5 w' W3.heap.size (fun _ => True) v b ∧ Below W3.heap.size W3 w' from by
    have h := Concat_calls W3 (some ⟨W2.heap.size, 0, none⟩) 4 (cutL b) HLS (Nat.le_refl _) (by rw [cut_flat b HB.out]; exact HB.out)
    rw [cut_flat b HB.out] at h
    exact h)
  have HB3 := Aside0.mk hB3
  have HW2 := Aside0.mk hW2
  have HW3 := Aside0.mk hW3
  clear P2 Q2 P3 Q3 T3 hB3 HLS hW2 hW3
  refine start_ (n := 12) (S := fun w' => w'.cell? ⟨g, 8, none⟩ = some (.int .u8 (rd b 8))) (ds := []) #[false, false, false, false, false, false, false, false, false, false, false, false] (by kernel_rfl) rfl rfl (K8) (fun hHeld => ?_)
  refine pure_ (i := 0) (N := some 3) (v := ?_) (a' := ?_) #[true, false, false, false, false, false, false, false, false, false, false, false] rfl rfl (by kernel_rfl) (fun _ _ _ h => h) (Or.inl ⟨by rfl, ?_⟩) ?_ ?_
  rotate_left
  · intro w'
    go_simp
    with_reducible rfl
  rotate_left
  · simp only [Act.put, List.setIfInBounds_toArray, List.set_cons_zero, List.set_cons_succ, i64_w, i32_w]
    rfl
  refine pure_ (i := 1) (N := some 4) (v := ?_) (a' := ?_) #[true, true, false, false, false, false, false, false, false, false, false, false] rfl rfl (by kernel_rfl) (fun _ _ _ h => h) (Or.inl ⟨by rfl, ?_⟩) ?_ ?_
  rotate_left
  · intro w'
    go_simp
    with_reducible rfl
  rotate_left
  · simp only [Act.put, List.setIfInBounds_toArray, List.set_cons_zero, List.set_cons_succ, i64_w, i32_w]
    rfl
  refine pure_ (i := 2) (N := some 5) (v := ?_) (a' := ?_) #[true, true, true, false, false, false, false, false, false, false, false, false] rfl rfl (by kernel_rfl) (fun _ _ _ h => h) (Or.inl ⟨by rfl, ?_⟩) ?_ ?_
  rotate_left
  · intro w'
    go_simp
    with_reducible rfl
  rotate_left
  · simp only [Act.put, List.setIfInBounds_toArray, List.set_cons_zero, List.set_cons_succ, i64_w, i32_w]
    rfl
  refine pure_ (i := 5) (N := some 8) (v := ?_) (a' := ?_) #[true, true, true, false, false, true, false, false, false, false, false, false] rfl rfl (by kernel_rfl) (fun _ _ _ h => h) (Or.inl ⟨by rfl, ?_⟩) ?_ ?_
  rotate_left
  · intro w'
    go_simp
    with_reducible rfl
  rotate_left
  · simp only [Act.put, List.setIfInBounds_toArray, List.set_cons_zero, List.set_cons_succ, i64_w, i32_w]
    rfl
  refine pure_ (i := 6) (N := some 9) (v := ?_) (a' := ?_) #[true, true, true, false, false, true, true, false, false, false, false, false] rfl rfl (by kernel_rfl) (fun _ _ _ h => h) (Or.inl ⟨by rfl, ?_⟩) ?_ ?_
  rotate_left
  · intro w'
    go_simp
    with_reducible rfl
  rotate_left
  · simp only [Act.put, List.setIfInBounds_toArray, List.set_cons_zero, List.set_cons_succ, i64_w, i32_w]
    rfl
  refine pure_ (i := 7) (N := some 10) (v := ?_) (a' := ?_) #[true, true, true, false, false, true, true, true, false, false, false, false] rfl rfl (by kernel_rfl) (fun _ _ _ h => h) (Or.inl ⟨by rfl, ?_⟩) ?_ ?_
  rotate_left
  · intro w'
    go_simp
    with_reducible rfl
  rotate_left
  · simp only [Act.put, List.setIfInBounds_toArray, List.set_cons_zero, List.set_cons_succ, i64_w, i32_w]
    rfl
  refine pure_ (i := 8) (N := some 11) (v := ?_) (a' := ?_) #[true, true, true, false, false, true, true, true, true, false, false, false] rfl rfl (by kernel_rfl) (fun _ _ _ h => h) (Or.inl ⟨by rfl, ?_⟩) ?_ ?_
  rotate_left
  · intro w'
    go_simp
    with_reducible rfl
  rotate_left
  · simp only [Act.put, List.setIfInBounds_toArray, List.set_cons_zero, List.set_cons_succ, i64_w, i32_w]
    rfl
  refine take_ (i := 3) (N := some 6) (v := ?_) (a' := ?_) #[true, true, true, true, false, true, true, true, true, false, false, false] rfl rfl (by kernel_rfl) (fun _ _ _ h => h) (Or.inl ⟨by rfl, ?_⟩) hHeld ?_ ?_
  rotate_left
  · intro w' s0
    go_simp
    with_reducible rfl
  rotate_left
  · simp only [Act.put, List.setIfInBounds_toArray, List.set_cons_zero, List.set_cons_succ, i64_w, i32_w]
    rfl
  refine one_ (i := 4) (N := some 7) #[true, true, true, true, true, true, true, true, true, false, false, false] rfl rfl (by kernel_rfl) (by decide) (fun K hK => ?_)
  refine value_ (w1 := W2) (v := .slice (some ⟨W1.heap.size, 0, none⟩) 1 1) (by rfl) rfl ?_ ?_
  · rw [HW2.out]
    go_simp
  refine hK.out _ _ ((by rw [HW2.out]; exact cell_alloc_old _ K8)) (fun hHeld => ?_)
  clear hK K
  refine norm_ (a' := ?_) ?_ ?_
  rotate_left
  · show Act.put _ (some 7) _ = _
    simp only [Act.put, List.setIfInBounds_toArray, List.set_cons_zero, List.set_cons_succ, i64_w, i32_w]
    rfl
  refine one_ (i := 9) (N := some 12) #[true, true, true, true, true, true, true, true, true, true, false, false] rfl rfl (by kernel_rfl) (by decide) (fun K hK => ?_)
  refine value_ (w1 := W3) (v := .slice (some ⟨W2.heap.size, 0, none⟩) 4 4) (by rfl) rfl ?_ ?_
  · rw [HW3.out]
    go_simp
  refine hK.out _ _ ((by rw [HW3.out, HW2.out]; exact cell_alloc_old _ (cell_alloc_old _ K8))) (fun hHeld => ?_)
  clear hK K
  refine norm_ (a' := ?_) ?_ ?_
  rotate_left
  · show Act.put _ (some 12) _ = _
    simp only [Act.put, List.setIfInBounds_toArray, List.set_cons_zero, List.set_cons_succ, i64_w, i32_w]
    rfl
  refine one_ (i := 10) (N := some 13) #[true, true, true, true, true, true, true, true, true, true, true, false] rfl rfl (by kernel_rfl) (by decide) (fun K hK => ?_)
  refine goes_ Try.func42 (by kernel_rfl) rfl #[.slice (some ⟨W2.heap.size, 0, none⟩) 4 4] (by rfl) rfl rfl (by simp only [List.map_toArray, List.map_cons, List.map_nil]; rfl) ?_
  with_reducible refine (HCALL.out).mono ?_
  rintro e w5 ⟨v5, rfl, ho, hb5⟩
  refine ⟨_, rfl, ?_⟩
  have R5 := Aside0.mk ho
  have B5 := Aside0.mk hb5
  clear ho hb5
  refine hK.out _ _ ((pw_cell_below B5.out (by rw [HW3.out, HW2.out]; exact cell_alloc_old _ (cell_alloc_old _ K8)))) (fun hHeld => ?_)
  clear hK K
  refine norm_ (a' := ?_) ?_ ?_
  rotate_left
  · show Act.put _ (some 13) _ = _
    simp only [Act.put, List.setIfInBounds_toArray, List.set_cons_zero, List.set_cons_succ, i64_w, i32_w]
    rfl
  refine pure_ (i := 11) (N := some 2) (v := ?_) (a' := ?_) #[true, true, true, true, true, true, true, true, true, true, true, true] rfl rfl (by kernel_rfl) (fun _ _ _ h => h) (Or.inl ⟨by rfl, ?_⟩) ?_ ?_
  rotate_left
  · intro w'
    go_simp
    with_reducible rfl
  rotate_left
  · simp only [Act.put, List.setIfInBounds_toArray, List.set_cons_zero, List.set_cons_succ, i64_w, i32_w]
    rfl
  refine done_ (by kernel_rfl) ?_
  
  go_wp2_with fail
  go_ret
  have HS : w.heap.size ≤ W3.heap.size := HB3.out.size
  exact ⟨_, rfl, Kd.R_lower R5.out HS, HB3.out.trans (B5.out.mono HS)⟩
end Go.Proofs.Ytfkndnocjelhgaa.Ext
