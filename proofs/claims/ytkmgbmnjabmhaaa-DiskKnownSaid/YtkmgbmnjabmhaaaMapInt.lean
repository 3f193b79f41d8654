/- A map keyed by ints, as a Lean function of its keys: lookup with ok, store, clear. No condition. -/
import Derived.Maps.Own
import Derived.ChangeMaps5
import Derived.Test.YtkmgbmnjabmhaaaArr
namespace Go.Proofs.Ytkmgbmnjabmhaaa.Ext
open Go Go.ChangeMaps Go.RowKit Go.Proofs.YtkmgbmnjabmhaaaW.PrintWords Go.Proofs.Ytkmgbmnjabmhaaa.Arr
set_option linter.unusedVariables false
set_option linter.unusedSimpArgs false

/-- where a key stands, and what it has -/
def keyIs (k : Int) (v : Value) : Bool := match v with
  | .int .i64 q => k == q
  | _ => false
def at_ (k : Int) : List MapEntry → Nat → Option (Nat × Value)
  | [], _ => none
  | e :: es, i => if keyIs k e.key = true then some (i, e.val) else at_ k es (i + 1)
def fit (es : List MapEntry) : Prop := ∀ e ∈ es, ∃ q : Int, e.key = .int .i64 q
/-- block m is a map that has just what F says -/
def MapIs (W : World) (m : Nat) (F : Int → Option Value) : Prop := ∃ es clock, W.heap[m]? = some (.map es clock) ∧ fit es.toList ∧ ∀ k, (at_ k es.toList 0).map (·.2) = F k
theorem findNow_int (k : Int) : ∀ (es : List MapEntry) (i : Nat), fit es → Instr.findNow (.int .i64) (.int .i64 k) es i = some (at_ k es i)
  | [], i, _ => rfl
  | e :: es, i, h => by
    obtain ⟨q, hq⟩ := h e (by simp)
    have ih := findNow_int k es (i + 1) (fun x hx => h x (by simp [hx]))
    unfold Instr.findNow at_
    rw [hq]
    simp only [Instr.sameNow, if_true, keyIs]
    rcases Bool.eq_false_or_eq_true (k == q) with c | c
    · simp [c]
    · simp [c, ih]
theorem MapIs.move {W W1 : World} {m : Nat} {F : Int → Option Value} (h : MapIs W m F) (hm : W1.heap[m]? = W.heap[m]?) : MapIs W1 m F := by
  obtain ⟨es, c, h1, h2, h3⟩ := h
  exact ⟨es, c, hm.trans h1, h2, h3⟩
theorem MapIs.lt {W : World} {m : Nat} {F : Int → Option Value} (h : MapIs W m F) : m < W.heap.size := by
  obtain ⟨es, c, h1, _⟩ := h
  exact blk_lt h1
theorem MapIs.new (W : World) : MapIs (W.alloc (.map #[] 0)) W.heap.size (fun _ => none) := ⟨#[], 0, heap_alloc_new _ _, by intro e he; simp at he, fun k => rfl⟩
section
variable {P : Program} {W : World} {m : Nat} {F : Int → Option Value} {T K E : TypeId}
theorem run_lookup_is (h : MapIs W m F) (hT : P.underlying T = some (.map K E)) (hK : P.underlying K = some (.int .i64)) {z : Value} (hz : ∀ w, (zeroValue E).run P w = .ok z w) (k : Int) :
    (Instr.lookup T (.map (some m)) (.int .i64 k) true).run P W = .ok (.tuple #[(F k).getD z, .bool (F k).isSome]) W := by
  obtain ⟨es, c, h1, h2, h3⟩ := h
  have hf := findNow_int k es.toList 0 h2
  have h3k := h3 k
  have hck : ∀ b W, (Instr.checkKey b 10000 K (.int .i64 k)).run P W = .ok () W := fun b W => by
    rw [show (10000 : Nat) = 9999 + 1 from rfl, Instr.checkKey]
    simp [run_underlying hK]
  have hfk : (Instr.findKey K (.int .i64 k) es.toList).run P W = .ok (at_ k es.toList 0) W := by simp [Instr.findKey, run_underlying hK, hf]
  cases ha : at_ k es.toList 0 with
  | none =>
    rw [ha] at h3k hfk
    rw [← h3k]
    simp [Instr.lookup, run_underlying hT, MapKept.run_getObj_map h1, hck, hfk, hz, Result.andThen]
  | some q =>
    rw [ha] at h3k hfk
    rw [← h3k]
    simp [Instr.lookup, run_underlying hT, MapKept.run_getObj_map h1, hck, hfk, hz, Result.andThen]
theorem at_push (k q : Int) (v : Value) (b : Nat) : ∀ (es : List MapEntry) (i : Nat), at_ k es i = none ∨ ∃ j u, at_ k es i = some (j, u) := fun es i => by
  cases h : at_ k es i with
  | none => exact .inl rfl
  | some q => exact .inr ⟨_, _, rfl⟩
theorem at_append (k : Int) (e : MapEntry) : ∀ (es : List MapEntry) (i : Nat), at_ k (es ++ [e]) i = (at_ k es i).or (if keyIs k e.key = true then some (i + es.length, e.val) else none)
  | [], i => by simp [at_]
  | x :: es, i => by
    rw [List.cons_append, at_, at_]
    split
    · rfl
    · rw [at_append k e es (i + 1)]
      simp [Nat.add_assoc, Nat.add_comm 1]
theorem at_modify (k q : Int) (v : Value) : ∀ (es : List MapEntry) (i j : Nat) (u : Value), fit es → at_ q es i = some (j, u) → (at_ k (es.modify (j - i) fun e => { e with key := .int .i64 q, val := v }) i).map (·.2) = if k = q then some v else (at_ k es i).map (·.2)
  | [], i, j, u, _, h => by simp [at_] at h
  | x :: es, i, j, u, hf, h => by
    obtain ⟨y, hy⟩ := hf x (by simp)
    rw [at_] at h
    split at h
    · rename_i hk
      have h := Option.some.inj h
      obtain ⟨rfl, rfl⟩ := Prod.mk.inj h
      have hqy : q = y := by rw [hy] at hk; simpa [keyIs] using hk
      subst hqy
      rw [Nat.sub_self]
      simp only [List.modify_zero_cons, at_, hy, keyIs]
      by_cases c : k = q
      · simp [c]
      · simp [c]
    · rename_i hk
      have hle : i + 1 ≤ j := by
        have : ∀ (es : List MapEntry) (i j : Nat) (u : Value), at_ q es i = some (j, u) → i ≤ j := by
          intro es
          induction es with
          | nil => intro i j u h; simp [at_] at h
          | cons x es ih =>
            intro i j u h
            rw [at_] at h
            split at h
            · have h := Option.some.inj h
              obtain ⟨rfl, _⟩ := Prod.mk.inj h
              exact Nat.le_refl _
            · have := ih _ _ _ h; omega
        exact this es (i + 1) j u h
      have ih := at_modify k q v es (i + 1) j u (fun e he => hf e (by simp [he])) h
      rw [show j - i = (j - (i + 1)) + 1 by omega, List.modify_succ_cons, at_, at_]
      have hqy : q ≠ y := fun e => hk (by rw [hy]; simp [keyIs, e])
      by_cases c : k = y
      · have hkx : keyIs k x.key = true := by rw [hy]; simp [keyIs, c]
        have hkq : ¬ k = q := fun e => hqy (e.symm.trans c)
        simp [hkx, hkq]
      · have hkx : keyIs k x.key = false := by rw [hy]; simpa [keyIs] using c
        rw [hkx]
        exact ih
theorem fit_push {es : List MapEntry} (h : fit es) (q : Int) (v : Value) (c : Nat) : fit (es ++ [{ key := .int .i64 q, val := v, born := c }]) := fun e he => by
  rcases List.mem_append.1 he with he | he
  · exact h e he
  · rw [List.mem_singleton.1 he]; exact ⟨q, rfl⟩
theorem fit_modify {es : List MapEntry} (h : fit es) (j : Nat) (q : Int) (v : Value) : fit (es.modify j fun e => { e with key := .int .i64 q, val := v }) := fun e he => by
  obtain ⟨n, hn⟩ := List.mem_iff_getElem?.1 he
  rw [List.getElem?_modify] at hn
  cases hx : es[n]? with
  | none => rw [hx] at hn; simp at hn
  | some x =>
    rw [hx] at hn
    simp only [Option.map_eq_map, Option.map_some, Option.some.injEq] at hn
    split at hn
    · rw [← hn]; exact ⟨q, rfl⟩
    · rw [← hn]; exact h x (List.mem_of_getElem? hx)
/-- a store -/
theorem run_update_is (h : MapIs W m F) (hT : P.underlying T = some (.map K E)) (hK : P.underlying K = some (.int .i64)) (q : Int) (v : Value) :
    ∃ W1, (Instr.mapUpdate T (.map (some m)) (.int .i64 q) v).run P W = .ok () W1 ∧ MapIs W1 m (fun k => if k = q then some v else F k) ∧ W.grownBy W1 (some m) ∧ W1.heap.size = W.heap.size := by
  obtain ⟨es, c, h1, h2, h3⟩ := h
  have hf := findNow_int q es.toList 0 h2
  have hck : ∀ b W, (Instr.checkKey b 10000 K (.int .i64 q)).run P W = .ok () W := fun b W => by
    rw [show (10000 : Nat) = 9999 + 1 from rfl, Instr.checkKey]
    simp [run_underlying hK]
  have hfk : (Instr.findKey K (.int .i64 q) es.toList).run P W = .ok (at_ q es.toList 0) W := by simp [Instr.findKey, run_underlying hK, hf]
  have hgr : ∀ o, W.grownBy (setBlock W m o) (some m) := fun o => ⟨rfl, rfl, rfl, by simp [setBlock], fun k hk hne => (heap_setBlock_other h1 o (fun e => hne (by rw [e]))).trans rfl⟩
  cases ha : at_ q es.toList 0 with
  | none =>
    rw [ha] at hfk
    refine ⟨setBlock W m (.map (es.push { key := .int .i64 q, val := v, born := c }) (c + 1)), ?_, ⟨_, _, heap_setBlock_same h1 _, by rw [Array.toList_push]; exact fit_push h2 q v c, fun k => ?_⟩, hgr _, by simp [setBlock]⟩
    · simp [Instr.mapUpdate, run_underlying hT, MapKept.run_getObj_map h1, hck, hfk, MapKept.run_setObj_map _ h1, Result.andThen, setBlock]
    · rw [Array.toList_push, at_append]
      by_cases e : k = q
      · subst e
        rw [ha]
        simp [keyIs]
      · show _ = if k = q then some v else F k
        rw [if_neg e, ← h3 k]
        have : keyIs k (Value.int .i64 q) = false := by simpa [keyIs] using e
        simp [this]
  | some x =>
    obtain ⟨j, u⟩ := x
    rw [ha] at hfk
    obtain ⟨e0, he0, hk0⟩ : ∃ e0, es[j]? = some e0 ∧ e0.key = .int .i64 q := by
      have : ∀ (es : List MapEntry) (i j : Nat) (u : Value), fit es → at_ q es i = some (j, u) → i ≤ j ∧ ∃ e0, es[j - i]? = some e0 ∧ e0.key = .int .i64 q := by
        intro es
        induction es with
        | nil => intro i j u _ h; simp [at_] at h
        | cons x es ih =>
          intro i j u hf h
          rw [at_] at h
          split at h
          · rename_i hk
            have h := Option.some.inj h
            obtain ⟨rfl, _⟩ := Prod.mk.inj h
            obtain ⟨y, hy⟩ := hf x (by simp)
            exact ⟨Nat.le_refl _, x, by simp, by rw [hy] at hk ⊢; simp only [keyIs, beq_iff_eq] at hk; rw [hk]⟩
          · obtain ⟨h1, e0, h2, h3⟩ := ih _ _ _ (fun e he => hf e (by simp [he])) h
            refine ⟨by omega, e0, ?_, h3⟩
            rw [show j - i = (j - (i + 1)) + 1 by omega, List.getElem?_cons_succ]
            exact h2
      obtain ⟨_, e0, h4, h5⟩ := this es.toList 0 j u h2 ha
      exact ⟨e0, by simpa using h4, h5⟩
    have hks : ∀ W : World, (Instr.keyThatStays (.int .i64 q) (.int .i64 q)).run P W = .ok (.int .i64 q) W := fun W => by simp [Instr.keyThatStays, Instr.sameBits]
    have hmod := fun k => at_modify k q v es.toList 0 j u h2 ha
    refine ⟨setBlock W m (.map (es.modify j fun e => { e with key := .int .i64 q, val := v }) c), ?_, ⟨_, _, heap_setBlock_same h1 _, by rw [Array.toList_modify]; exact fit_modify h2 j q v, fun k => ?_⟩, hgr _, by simp [setBlock]⟩
    · simp [Instr.mapUpdate, run_underlying hT, MapKept.run_getObj_map h1, hck, hfk, he0, hk0, hks, MapKept.run_setObj_map _ h1, Result.andThen, setBlock]
    · rw [Array.toList_modify]
      have := hmod k
      rw [Nat.sub_zero] at this
      rw [this, h3 k]
/-- clear -/
theorem run_clear_is (h : MapIs W m F) (hT : P.underlying T = some (.map K E)) (ty : TypeId) :
    ∃ W1, (Builtin.clear_ #[T] ty #[.map (some m)]).run P W = .ok (.tuple #[]) W1 ∧ MapIs W1 m (fun _ => none) ∧ W.grownBy W1 (some m) ∧ W1.heap.size = W.heap.size := by
  obtain ⟨es, c, h1, h2, h3⟩ := h
  have hgr : ∀ o, W.grownBy (setBlock W m o) (some m) := fun o => ⟨rfl, rfl, rfl, by simp [setBlock], fun k hk hne => (heap_setBlock_other h1 o (fun e => hne (by rw [e]))).trans rfl⟩
  refine ⟨setBlock W m (.map #[] c), ?_, ⟨_, _, heap_setBlock_same h1 _, by intro e he; simp at he, fun k => rfl⟩, hgr _, by simp [setBlock]⟩
  simp [Builtin.clear_, run_underlying hT, MapKept.run_getObj_map h1, MapKept.run_setObj_map _ h1, Result.andThen, setBlock]
theorem exec_update {o : Oper} {a : Act} {W1 : World} (T : TypeId) (x k v : Operand) (ho : o.op = .mapUpdate T x k v) (m : Nat) (q : Int) (u : Value) (hx : a.eval x = .map (some m)) (hk : a.eval k = .int .i64 q) (hv : a.eval v = u)
    (hrun : (Instr.mapUpdate T (.map (some m)) (.int .i64 q) u).run P W = .ok () W1) : (execOp a.eval o).run P W = .ok .skip W1 := by
  unfold execOp
  simp only [ho, hx, hk, hv, Sem.run_bind, hrun, Result.andThen_ok]
  rfl
/-- clear, at a list of operations -/
theorem wpList_clear_is {ops : Array Oper} {rest : List Oper} {o : Oper} {a : Act} {Q : Exit → Act → World → Prop} (hgd : o.guard = none) (x : Operand) (T : TypeId)
    (ho : o.op = .call { callee := .builtin .clear, args := #[x], argTypes := #[T] }) (K E : TypeId) (hT : P.underlying T = some (.map K E)) (m : Nat) (hx : a.eval x = .map (some m)) (F : Int → Option Value) (h : MapIs W m F)
    (k : ∀ W1, MapIs W1 m (fun _ => none) → W.grownBy W1 (some m) → W1.heap.size = W.heap.size → wpList P ops Q rest (a.put o.dst (.tuple #[])) W1) : wpList P ops Q (o :: rest) a W := by
  obtain ⟨W1, hrun, h1, h2, h3⟩ := run_clear_is (P := P) (K := K) (E := E) h hT o.type
  refine wpList_plain hgd fun _ hK => ?_
  unfold Oper.wp execOp
  simp only [ho, resolve, invoke, builtin, Sem.run_bind, Sem.run_pure, Result.andThen_ok, List.map_toArray, List.map_cons, List.map_nil, hx, hrun]
  exact hK _ _ (k W1 h1 h2 h3)
end
end Go.Proofs.Ytkmgbmnjabmhaaa.Ext
