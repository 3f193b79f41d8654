import Derived.Maps.Own
import Derived.ChangeMaps5
import Derived.Test.YthnjkmjcacoajaaKJournalKeeps2
import Derived.Deep.MidRow
import Derived.Test.YthnjkmjcacoajaaKJournalKeeps23
import Derived.WalkSpells
import Derived.Great.BuildSlice
section
/- A map keyed by ints, as a Lean function of its keys: lookup with ok, store, clear. No condition. -/
namespace Go.Proofs.Ythnjkmjcacoajaa.Dk
open Go Go.ChangeMaps Go.RowKit Go.Proofs.YthnjkmjcacoajaaW.PrintWords Go.Proofs.Ythnjkmjcacoajaa.Arr
set_option linter.unusedVariables false
set_option linter.unusedSimpArgs false

/-- where a key stands, and what it has -/
def keyIs (k : Int) (v : Value) : Bool := match v with
  | .int .i64 q => k == q
  | _ => false
def at_ (k : Int) : List MapEntry → Nat → Option (Nat × Value)
  | [], _ => none
  | e :: es, i => if keyIs k e.key = true then some (i, e.val) else at_ k es (i + 1)
def fit (es : List MapEntry) : Prop := ∀ e ∈ es, ∃ q : Int, e.key = .int .i64 q
/-- block m is a map that has just what F says -/
def MapIs (W : World) (m : Nat) (F : Int → Option Value) : Prop := ∃ es clock, W.heap[m]? = some (.map es clock) ∧ fit es.toList ∧ ∀ k, (at_ k es.toList 0).map (·.2) = F k
theorem findNow_int (k : Int) : ∀ (es : List MapEntry) (i : Nat), fit es → Instr.findNow (.int .i64) (.int .i64 k) es i = some (at_ k es i)
  | [], i, _ => rfl
  | e :: es, i, h => by
    obtain ⟨q, hq⟩ := h e (by simp)
    have ih := findNow_int k es (i + 1) (fun x hx => h x (by simp [hx]))
    unfold Instr.findNow at_
    rw [hq]
    simp only [Instr.sameNow, if_true, keyIs]
    rcases Bool.eq_false_or_eq_true (k == q) with c | c
    · simp [c]
    · simp [c, ih]
theorem MapIs.move {W W1 : World} {m : Nat} {F : Int → Option Value} (h : MapIs W m F) (hm : W1.heap[m]? = W.heap[m]?) : MapIs W1 m F := by
  obtain ⟨es, c, h1, h2, h3⟩ := h
  exact ⟨es, c, hm.trans h1, h2, h3⟩
theorem MapIs.lt {W : World} {m : Nat} {F : Int → Option Value} (h : MapIs W m F) : m < W.heap.size := by
  obtain ⟨es, c, h1, _⟩ := h
  exact blk_lt h1
theorem MapIs.new (W : World) : MapIs (W.alloc (.map #[] 0)) W.heap.size (fun _ => none) := ⟨#[], 0, heap_alloc_new _ _, by intro e he; simp at he, fun k => rfl⟩
section
variable {P : Program} {W : World} {m : Nat} {F : Int → Option Value} {T K E : TypeId}
theorem run_lookup_is (h : MapIs W m F) (hT : P.underlying T = some (.map K E)) (hK : P.underlying K = some (.int .i64)) {z : Value} (hz : ∀ w, (zeroValue E).run P w = .ok z w) (k : Int) :
    (Instr.lookup T (.map (some m)) (.int .i64 k) true).run P W = .ok (.tuple #[(F k).getD z, .bool (F k).isSome]) W := by
  obtain ⟨es, c, h1, h2, h3⟩ := h
  have hf := findNow_int k es.toList 0 h2
  have h3k := h3 k
  have hck : ∀ b W, (Instr.checkKey b 10000 K (.int .i64 k)).run P W = .ok () W := fun b W => by
    rw [show (10000 : Nat) = 9999 + 1 from rfl, Instr.checkKey]
    simp [run_underlying hK]
  have hfk : (Instr.findKey K (.int .i64 k) es.toList).run P W = .ok (at_ k es.toList 0) W := by simp [Instr.findKey, run_underlying hK, hf]
  cases ha : at_ k es.toList 0 with
  | none =>
    rw [ha] at h3k hfk
    rw [← h3k]
    simp [Instr.lookup, run_underlying hT, MapKept.run_getObj_map h1, hck, hfk, hz, Result.andThen]
  | some q =>
    rw [ha] at h3k hfk
    rw [← h3k]
    simp [Instr.lookup, run_underlying hT, MapKept.run_getObj_map h1, hck, hfk, hz, Result.andThen]
theorem at_append (k : Int) (e : MapEntry) : ∀ (es : List MapEntry) (i : Nat), at_ k (es ++ [e]) i = (at_ k es i).or (if keyIs k e.key = true then some (i + es.length, e.val) else none)
  | [], i => by simp [at_]
  | x :: es, i => by
    rw [List.cons_append, at_, at_]
    split
    · rfl
    · rw [at_append k e es (i + 1)]
      simp [Nat.add_assoc, Nat.add_comm 1]
theorem at_modify (k q : Int) (v : Value) : ∀ (es : List MapEntry) (i j : Nat) (u : Value), fit es → at_ q es i = some (j, u) → (at_ k (es.modify (j - i) fun e => { e with key := .int .i64 q, val := v }) i).map (·.2) = if k = q then some v else (at_ k es i).map (·.2)
  | [], i, j, u, _, h => by simp [at_] at h
  | x :: es, i, j, u, hf, h => by
    obtain ⟨y, hy⟩ := hf x (by simp)
    rw [at_] at h
    split at h
    · rename_i hk
      have h := Option.some.inj h
      obtain ⟨rfl, rfl⟩ := Prod.mk.inj h
      have hqy : q = y := by rw [hy] at hk; simpa [keyIs] using hk
      subst hqy
      rw [Nat.sub_self]
      simp only [List.modify_zero_cons, at_, hy, keyIs]
      by_cases c : k = q
      · simp [c]
      · simp [c]
    · rename_i hk
      have hle : i + 1 ≤ j := by
        have : ∀ (es : List MapEntry) (i j : Nat) (u : Value), at_ q es i = some (j, u) → i ≤ j := by
          intro es
          induction es with
          | nil => intro i j u h; simp [at_] at h
          | cons x es ih =>
            intro i j u h
            rw [at_] at h
            split at h
            · have h := Option.some.inj h
              obtain ⟨rfl, _⟩ := Prod.mk.inj h
              exact Nat.le_refl _
            · have := ih _ _ _ h; omega
        exact this es (i + 1) j u h
      have ih := at_modify k q v es (i + 1) j u (fun e he => hf e (by simp [he])) h
      rw [show j - i = (j - (i + 1)) + 1 by omega, List.modify_succ_cons, at_, at_]
      have hqy : q ≠ y := fun e => hk (by rw [hy]; simp [keyIs, e])
      by_cases c : k = y
      · have hkx : keyIs k x.key = true := by rw [hy]; simp [keyIs, c]
        have hkq : ¬ k = q := fun e => hqy (e.symm.trans c)
        simp [hkx, hkq]
      · have hkx : keyIs k x.key = false := by rw [hy]; simpa [keyIs] using c
        rw [hkx]
        exact ih
theorem fit_push {es : List MapEntry} (h : fit es) (q : Int) (v : Value) (c : Nat) : fit (es ++ [{ key := .int .i64 q, val := v, born := c }]) := fun e he => by
  rcases List.mem_append.1 he with he | he
  · exact h e he
  · rw [List.mem_singleton.1 he]; exact ⟨q, rfl⟩
theorem fit_modify {es : List MapEntry} (h : fit es) (j : Nat) (q : Int) (v : Value) : fit (es.modify j fun e => { e with key := .int .i64 q, val := v }) := fun e he => by
  obtain ⟨n, hn⟩ := List.mem_iff_getElem?.1 he
  rw [List.getElem?_modify] at hn
  cases hx : es[n]? with
  | none => rw [hx] at hn; simp at hn
  | some x =>
    rw [hx] at hn
    simp only [Option.map_eq_map, Option.map_some, Option.some.injEq] at hn
    split at hn
    · rw [← hn]; exact ⟨q, rfl⟩
    · rw [← hn]; exact h x (List.mem_of_getElem? hx)
/-- a store -/
theorem run_update_is (h : MapIs W m F) (hT : P.underlying T = some (.map K E)) (hK : P.underlying K = some (.int .i64)) (q : Int) (v : Value) :
    ∃ W1, (Instr.mapUpdate T (.map (some m)) (.int .i64 q) v).run P W = .ok () W1 ∧ MapIs W1 m (fun k => if k = q then some v else F k) ∧ W.grownBy W1 (some m) ∧ W1.heap.size = W.heap.size := by
  obtain ⟨es, c, h1, h2, h3⟩ := h
  have hf := findNow_int q es.toList 0 h2
  have hck : ∀ b W, (Instr.checkKey b 10000 K (.int .i64 q)).run P W = .ok () W := fun b W => by
    rw [show (10000 : Nat) = 9999 + 1 from rfl, Instr.checkKey]
    simp [run_underlying hK]
  have hfk : (Instr.findKey K (.int .i64 q) es.toList).run P W = .ok (at_ q es.toList 0) W := by simp [Instr.findKey, run_underlying hK, hf]
  have hgr : ∀ o, W.grownBy (setBlock W m o) (some m) := fun o => ⟨rfl, rfl, rfl, by simp [setBlock], fun k hk hne => (heap_setBlock_other h1 o (fun e => hne (by rw [e]))).trans rfl⟩
  cases ha : at_ q es.toList 0 with
  | none =>
    rw [ha] at hfk
    refine ⟨setBlock W m (.map (es.push { key := .int .i64 q, val := v, born := c }) (c + 1)), ?_, ⟨_, _, heap_setBlock_same h1 _, by rw [Array.toList_push]; exact fit_push h2 q v c, fun k => ?_⟩, hgr _, by simp [setBlock]⟩
    · simp [Instr.mapUpdate, run_underlying hT, MapKept.run_getObj_map h1, hck, hfk, MapKept.run_setObj_map _ h1, Result.andThen, setBlock]
    · rw [Array.toList_push, at_append]
      by_cases e : k = q
      · subst e
        rw [ha]
        simp [keyIs]
      · show _ = if k = q then some v else F k
        rw [if_neg e, ← h3 k]
        have : keyIs k (Value.int .i64 q) = false := by simpa [keyIs] using e
        simp [this]
  | some x =>
    obtain ⟨j, u⟩ := x
    rw [ha] at hfk
    obtain ⟨e0, he0, hk0⟩ : ∃ e0, es[j]? = some e0 ∧ e0.key = .int .i64 q := by
      have : ∀ (es : List MapEntry) (i j : Nat) (u : Value), fit es → at_ q es i = some (j, u) → i ≤ j ∧ ∃ e0, es[j - i]? = some e0 ∧ e0.key = .int .i64 q := by
        intro es
        induction es with
        | nil => intro i j u _ h; simp [at_] at h
        | cons x es ih =>
          intro i j u hf h
          rw [at_] at h
          split at h
          · rename_i hk
            have h := Option.some.inj h
            obtain ⟨rfl, _⟩ := Prod.mk.inj h
            obtain ⟨y, hy⟩ := hf x (by simp)
            exact ⟨Nat.le_refl _, x, by simp, by rw [hy] at hk ⊢; simp only [keyIs, beq_iff_eq] at hk; rw [hk]⟩
          · obtain ⟨h1, e0, h2, h3⟩ := ih _ _ _ (fun e he => hf e (by simp [he])) h
            refine ⟨by omega, e0, ?_, h3⟩
            rw [show j - i = (j - (i + 1)) + 1 by omega, List.getElem?_cons_succ]
            exact h2
      obtain ⟨_, e0, h4, h5⟩ := this es.toList 0 j u h2 ha
      exact ⟨e0, by simpa using h4, h5⟩
    have hks : ∀ W : World, (Instr.keyThatStays (.int .i64 q) (.int .i64 q)).run P W = .ok (.int .i64 q) W := fun W => by simp [Instr.keyThatStays, Instr.sameBits]
    have hmod := fun k => at_modify k q v es.toList 0 j u h2 ha
    refine ⟨setBlock W m (.map (es.modify j fun e => { e with key := .int .i64 q, val := v }) c), ?_, ⟨_, _, heap_setBlock_same h1 _, by rw [Array.toList_modify]; exact fit_modify h2 j q v, fun k => ?_⟩, hgr _, by simp [setBlock]⟩
    · simp [Instr.mapUpdate, run_underlying hT, MapKept.run_getObj_map h1, hck, hfk, he0, hk0, hks, MapKept.run_setObj_map _ h1, Result.andThen, setBlock]
    · rw [Array.toList_modify]
      have := hmod k
      rw [Nat.sub_zero] at this
      rw [this, h3 k]
/-- clear -/
theorem run_clear_is (h : MapIs W m F) (hT : P.underlying T = some (.map K E)) (ty : TypeId) :
    ∃ W1, (Builtin.clear_ #[T] ty #[.map (some m)]).run P W = .ok (.tuple #[]) W1 ∧ MapIs W1 m (fun _ => none) ∧ W.grownBy W1 (some m) ∧ W1.heap.size = W.heap.size := by
  obtain ⟨es, c, h1, h2, h3⟩ := h
  have hgr : ∀ o, W.grownBy (setBlock W m o) (some m) := fun o => ⟨rfl, rfl, rfl, by simp [setBlock], fun k hk hne => (heap_setBlock_other h1 o (fun e => hne (by rw [e]))).trans rfl⟩
  refine ⟨setBlock W m (.map #[] c), ?_, ⟨_, _, heap_setBlock_same h1 _, by intro e he; simp at he, fun k => rfl⟩, hgr _, by simp [setBlock]⟩
  simp [Builtin.clear_, run_underlying hT, MapKept.run_getObj_map h1, MapKept.run_setObj_map _ h1, Result.andThen, setBlock]
theorem exec_update {o : Oper} {a : Act} {W1 : World} (T : TypeId) (x k v : Operand) (ho : o.op = .mapUpdate T x k v) (m : Nat) (q : Int) (u : Value) (hx : a.eval x = .map (some m)) (hk : a.eval k = .int .i64 q) (hv : a.eval v = u)
    (hrun : (Instr.mapUpdate T (.map (some m)) (.int .i64 q) u).run P W = .ok () W1) : (execOp a.eval o).run P W = .ok .skip W1 := by
  unfold execOp
  simp only [ho, hx, hk, hv, Sem.run_bind, hrun, Result.andThen_ok]
  rfl
end
end Go.Proofs.Ythnjkmjcacoajaa.Dk
end

section
/- What a disk is in memory. No condition. -/
namespace Go.Proofs.Ythnjkmjcacoajaa.Dk
open Go Go.RowKit Go.Proofs.YthnjkmjcacoajaaW.PrintWords Go.Proofs.YthnjkmjcacoajaaW.PrintLast Go.Proofs.YthnjkmjcacoajaaW.PrintMore Go.Proofs.Ythnjkmjcacoajaa.Base Go.Proofs.Ythnjkmjcacoajaa.Arr
set_option linter.unusedVariables false
set_option linter.unusedSimpArgs false

/-- what a disk has: how many sectors; their bytes, one behind the other; what waits; whether the power went; when it is to go -/
structure DS where
  n : Nat
  stays : List Int
  waits : List (Int × List Int)
  dead : Bool
  plan : Option (Int × Int × Int)
def secOf (f : List Int) (i : Nat) : List Int := (f.drop (i * 64)).take 64
def putSec (f : List Int) (i : Nat) (s : List Int) : List Int := f.take (i * 64) ++ s ++ f.drop (i * 64 + 64)
theorem secOf_len {f : List Int} {i n : Nat} (hf : f.length = n * 64) (hi : i < n) : (secOf f i).length = 64 := by
  unfold secOf
  rw [List.length_take, List.length_drop]
  omega
theorem putSec_len {f : List Int} {i n : Nat} {s : List Int} (hf : f.length = n * 64) (hi : i < n) (hs : s.length = 64) : (putSec f i s).length = n * 64 := by
  unfold putSec
  rw [List.length_append, List.length_append, List.length_take, List.length_drop]
  omega
theorem secOf_put {f : List Int} {i j n : Nat} {s : List Int} (hf : f.length = n * 64) (hi : i < n) (hj : j < n) (hs : s.length = 64) : secOf (putSec f i s) j = if j = i then s else secOf f j := by
  apply List.ext_getElem?
  intro q
  unfold secOf putSec
  by_cases hq : q < 64
  · rw [List.getElem?_take_of_lt hq, List.getElem?_drop]
    by_cases e : j = i
    · subst e
      rw [if_pos rfl, List.append_assoc, List.getElem?_append_right (by rw [List.length_take]; omega), List.length_take, List.getElem?_append_left (by omega)]
      congr 1
      omega
    · rw [if_neg e, List.getElem?_take_of_lt hq, List.getElem?_drop]
      by_cases hlt : j < i
      · rw [List.append_assoc, List.getElem?_append_left (by rw [List.length_take]; omega), List.getElem?_take_of_lt (by omega)]
      · rw [List.getElem?_append_right (by rw [List.length_append, List.length_take]; omega), List.length_append, List.length_take, List.getElem?_drop]
        congr 1
        omega
  · rw [List.getElem?_eq_none (by rw [List.length_take]; omega)]
    by_cases e : j = i
    · rw [if_pos e, List.getElem?_eq_none (by omega)]
    · rw [if_neg e, List.getElem?_eq_none (by rw [List.length_take]; omega)]
/-- a write that waits: 65 cells -/
def wrK : Kd (Int × List Int) where
  sz := 65
  E := []
  K := fun _ x cs => cs = Value.int .i64 x.1 :: nums .u8 x.2 ∧ x.2.length = 64
  M := fun _ _ _ x cs => cs = Value.int .i64 x.1 :: nums .u8 x.2 ∧ x.2.length = 64
  K_len := by
    rintro w x cs ⟨rfl, h⟩
    simp [nums, h]
  K_one := by
    rintro w x cs ⟨rfl, h⟩ u hu
    rcases List.mem_cons.1 hu with rfl | hu
    · rfl
    · unfold nums at hu
      obtain ⟨y, _, rfl⟩ := List.mem_map.1 hu
      rfl
  K_below := fun _ h => h
  K_of_M := fun h => h
  M_mono := fun _ h => h
  M_bound := fun h => h
  M_move := fun _ h => h
  M_lower := fun _ h => h
def lastW (l : List (Int × List Int)) (k : Int) : Option (List Int) := l.foldl (fun a p => if p.1 = k then some p.2 else a) none
theorem lastW_snoc (l : List (Int × List Int)) (p : Int × List Int) (k : Int) : lastW (l ++ [p]) k = if p.1 = k then some p.2 else lastW l k := by
  unfold lastW
  rw [List.foldl_append]
  rfl
def seenF (l : List (Int × List Int)) (k : Int) : Option Value := (lastW l k).map fun s => .agg (rowK .u8 s)
def PlanIs (W : World) (base : Nat) (ok : Nat → Prop) (pp : Option Addr) : Option (Int × Int × Int) → Prop
  | none => pp = none
  | some (l, b, c) => ∃ pb, pp = some ⟨pb, 0, none⟩ ∧ HoldsRow W pb 99 #[.int .i64 l, .int .u64 b, .int .i64 c] ∧ ok pb ∧ base ≤ pb ∧ l ≤ 9223372036854775807
def Good (s : DS) : Prop := 1 ≤ s.n ∧ s.n ≤ 512 ∧ s.stays.length = s.n * 64 ∧ ∀ p ∈ s.waits, 0 ≤ p.1 ∧ p.1 < s.n ∧ p.2.length = 64
/-- the struct's cells -/
def dcells (gs m n : Nat) (vw : Value) (dead : Bool) (pp : Option Addr) : Array Value := #[.slice (some ⟨gs, 0, none⟩) n n, .map (some m), vw, .bool dead, .pointer pp]
def DiskIs (W : World) (base : Nat) (ok : Nat → Prop) (g : Nat) (s : DS) : Prop :=
  ∃ (gs m : Nat) (vw : Value) (pp : Option Addr), HoldsRow W g 62 (dcells gs m s.n vw s.dead pp) ∧ HoldsRow W gs 82 (rowK .u8 s.stays) ∧ MapIs W m (seenF s.waits) ∧ Kd.R wrK 84 W base ok vw s.waits ∧ PlanIs W base ok pp s.plan ∧ (ok g ∧ ok gs ∧ ok m) ∧ (base ≤ g ∧ base ≤ gs ∧ base ≤ m) ∧ Good s
theorem hr_move {W W1 : World} {b : Nat} {t : TypeId} {cs : Array Value} (h : HoldsRow W b t cs) (hm : W1.heap[b]? = W.heap[b]?) : HoldsRow W1 b t cs := hm.trans h
theorem PlanIs.move {W W1 : World} {base : Nat} {ok : Nat → Prop} {pp : Option Addr} {p : Option (Int × Int × Int)} (h : PlanIs W base ok pp p) (hm : ∀ k, ok k → k < W.heap.size → W1.heap[k]? = W.heap[k]?) : PlanIs W1 base ok pp p := by
  cases p with
  | none => exact h
  | some q =>
    obtain ⟨l, b, c⟩ := q
    obtain ⟨pb, e, hr, h1, h2⟩ := h
    exact ⟨pb, e, hr_move hr (hm pb h1 hr.lt), h1, h2⟩
theorem PlanIs.mono {W : World} {base : Nat} {ok ok' : Nat → Prop} {pp : Option Addr} {p : Option (Int × Int × Int)} (h : PlanIs W base ok pp p) (hm : ∀ k, ok k → k < W.heap.size → ok' k) : PlanIs W base ok' pp p := by
  cases p with
  | none => exact h
  | some q =>
    obtain ⟨l, b, c⟩ := q
    obtain ⟨pb, e, hr, h1, h2⟩ := h
    exact ⟨pb, e, hr, hm pb h1 hr.lt, h2⟩
theorem DiskIs.move {W W1 : World} {base : Nat} {ok : Nat → Prop} {g : Nat} {s : DS} (h : DiskIs W base ok g s) (hm : ∀ k, ok k → k < W.heap.size → W1.heap[k]? = W.heap[k]?) : DiskIs W1 base ok g s := by
  obtain ⟨gs, m, vw, pp, h1, h2, h3, h4, h5, ⟨o1, o2, o3⟩, hb, hG⟩ := h
  exact ⟨gs, m, vw, pp, hr_move h1 (hm g o1 h1.lt), hr_move h2 (hm gs o2 h2.lt), h3.move (hm m o3 h3.lt), Kd.R_step h4 hm, h5.move hm, ⟨o1, o2, o3⟩, hb, hG⟩
theorem DiskIs.mono {W : World} {base : Nat} {ok ok' : Nat → Prop} {g : Nat} {s : DS} (h : DiskIs W base ok g s) (hm : ∀ k, ok k → k < W.heap.size → ok' k) : DiskIs W base ok' g s := by
  obtain ⟨gs, m, vw, pp, h1, h2, h3, h4, h5, ⟨o1, o2, o3⟩, hb, hG⟩ := h
  exact ⟨gs, m, vw, pp, h1, h2, h3, Kd.R_mono (Kd.R_bound h4) (fun k hk => hm k hk.1 hk.2.2.1), h5.mono hm, ⟨hm g o1 h1.lt, hm gs o2 h2.lt, hm m o3 h3.lt⟩, hb, hG⟩
theorem DiskIs.below {W W1 : World} {base : Nat} {ok : Nat → Prop} {g : Nat} {s : DS} (h : DiskIs W base ok g s) (hb : Below W.heap.size W W1) : DiskIs W1 base ok g s := h.move (fun k _ hk => hb.block k hk)
/-- what a call does to a disk: all else lies as it lay -/
def DiskTo (w w' : World) (base : Nat) (ok : Nat → Prop) (g : Nat) (s : DS) : Prop :=
  Below base w w' ∧ Kept w w' ok ∧ ∃ ok' : Nat → Prop, (∀ k, ok' k → (ok k ∨ w.heap.size ≤ k) ∧ k < w'.heap.size) ∧ DiskIs w' base ok' g s
theorem DiskTo.same {w : World} {base : Nat} {ok : Nat → Prop} {g : Nat} {s : DS} (h : DiskIs w base ok g s) : DiskTo w w base ok g s :=
  ⟨Below.refl _ _, Kept.refl _ _, fun k => ok k ∧ k < w.heap.size, fun k hk => ⟨.inl hk.1, hk.2⟩, h.mono (fun k h1 h2 => ⟨h1, h2⟩)⟩
theorem DiskTo.trans {w w1 w2 : World} {base : Nat} {ok ok1 : Nat → Prop} {g : Nat} {s : DS} (hb : Below base w w1) (hk : Kept w w1 ok) (hsub : ∀ k, ok1 k → ok k ∨ w.heap.size ≤ k) (h : DiskTo w1 w2 base ok1 g s) : DiskTo w w2 base ok g s := by
  obtain ⟨h1, h2, ok2, h3, h4⟩ := h
  refine ⟨hb.trans h1, hk.then_ h2 hsub, ok2, fun k hk2 => ⟨?_, (h3 k hk2).2⟩, h4⟩
  rcases (h3 k hk2).1 with h5 | h5
  · exact hsub k h5
  · exact .inr (Nat.le_trans hk.1 h5)
end Go.Proofs.Ythnjkmjcacoajaa.Dk
end

section
/- may, there, Dead, Waits, Size, Boot, Fail of a disk, walked. No condition. -/
namespace Go.Proofs.Ythnjkmjcacoajaa.Dk
open Go Go.RowKit Go.Proofs.YthnjkmjcacoajaaW.PrintWords Go.Proofs.YthnjkmjcacoajaaW.PrintLast Go.Proofs.YthnjkmjcacoajaaW.PrintMore Go.Proofs.Ythnjkmjcacoajaa.Base Go.Proofs.Ythnjkmjcacoajaa.Arr
set_option linter.unusedVariables false
set_option linter.unusedSimpArgs false

theorem dcell {W : World} {g gs m n : Nat} {vw : Value} {dead : Bool} {pp : Option Addr} (h : HoldsRow W g 62 (dcells gs m n vw dead pp)) :
    W.cell? ⟨g, 0, none⟩ = some (.slice (some ⟨gs, 0, none⟩) n n) ∧ W.cell? ⟨g, 1, none⟩ = some (.map (some m)) ∧ W.cell? ⟨g, 2, none⟩ = some vw ∧ W.cell? ⟨g, 3, none⟩ = some (.bool dead) ∧ W.cell? ⟨g, 4, none⟩ = some (.pointer pp) :=
  ⟨h.cell rfl, h.cell rfl, h.cell rfl, h.cell rfl, h.cell rfl⟩
def mayE (s : DS) : Int := if s.dead = true then 30 else 0
set_option maxHeartbeats 2000000 in
set_option maxRecDepth 100000 in
theorem may_calls (w : World) (base : Nat) (ok : Nat → Prop) (g : Nat) (s : DS) (h : DiskIs w base ok g s) :
    Calls Try.prog 32 #[.pointer (some ⟨g, 0, none⟩)] w fun e w' => e = .returned (.int .i64 (mayE s)) ∧ w = w' := by
  obtain ⟨gs, m, vw, pp, h1, -, -, -, -, -, -, -⟩ := h
  obtain ⟨k0, -, -, k3, -⟩ := dcell h1
  unfold mayE
  have hn := fun (W : World) => Lib.run_eql_slice_nil (P := Try.prog) W 57 82 (some ⟨gs, 0, none⟩) s.n s.n 0 0 Try.underlying57
  rw [Option.isNone_some] at hn
  generalize s.dead = dd at *
  clear h1
  cases dd
  all_goals
    go_enter Try.func32, Try.ntmps32
    go_wp2_with fail
    go_ret
    exact ⟨rfl, rfl⟩
def thereE (s : DS) (at_ : Int) : Int := if s.dead = true then 30 else if at_ < 0 then 9 else if (s.n : Int) ≤ at_ then 9 else 0
set_option maxHeartbeats 2000000 in
set_option maxRecDepth 100000 in
theorem there_calls (w : World) (base : Nat) (ok : Nat → Prop) (g : Nat) (s : DS) (h : DiskIs w base ok g s) (at_ : Int) :
    Calls Try.prog 38 #[.pointer (some ⟨g, 0, none⟩), .int .i64 at_] w fun e w' => e = .returned (.int .i64 (thereE s at_)) ∧ w = w' := by
  have HD := Aside0.mk h
  obtain ⟨gs, m, vw, pp, h1, -, -, -, -, -, -, -⟩ := h
  obtain ⟨k0, -, -, -, -⟩ := dcell h1
  clear h1
  by_cases hd : s.dead = true
  · have hm : mayE s = 30 := by unfold mayE; rw [if_pos hd]
    have ht : thereE s at_ = 30 := by unfold thereE; rw [if_pos hd]
    have HM := Aside0.mk hm
    have HT := Aside0.mk ht
    clear hm ht hd
    go_enter Try.func38, Try.ntmps38
    go_wp2_with fail
    refine (may_calls w base ok g s HD.out).mono ?_
    rintro e w1 ⟨rfl, rfl⟩
    rw [HM.out]
    go_wp2_with fail
    go_ret
    exact ⟨by rw [HT.out]; rfl, rfl⟩
  · have hm : mayE s = 0 := by unfold mayE; rw [if_neg hd]
    have HM := Aside0.mk hm
    have hcase : (thereE s at_ = 9 ∧ decide (at_ < 0) = true) ∨ (thereE s at_ = 9 ∧ decide (at_ < 0) = false ∧ decide ((s.n : Int) ≤ at_) = true) ∨ (thereE s at_ = 0 ∧ decide (at_ < 0) = false ∧ decide ((s.n : Int) ≤ at_) = false) := by
      unfold thereE
      rw [if_neg hd]
      by_cases h1 : at_ < 0
      · exact .inl ⟨if_pos h1, decide_eq_true h1⟩
      · rw [if_neg h1]
        by_cases h2 : (s.n : Int) ≤ at_
        · exact .inr (.inl ⟨if_pos h2, decide_eq_false h1, decide_eq_true h2⟩)
        · exact .inr (.inr ⟨if_neg h2, decide_eq_false h1, decide_eq_false h2⟩)
    clear hm hd
    rcases hcase with ⟨ht, d1⟩ | ⟨ht, d1, d2⟩ | ⟨ht, d1, d2⟩
    all_goals
      have HT := Aside0.mk ht
      clear ht
      go_enter Try.func38, Try.ntmps38
      go_wp2_with fail
      refine (may_calls w base ok g s HD.out).mono ?_
      rintro e w1 ⟨rfl, rfl⟩
      rw [HM.out]
      go_wp2_with fail
      go_ret
      exact ⟨by rw [HT.out]; rfl, rfl⟩
set_option maxHeartbeats 2000000 in
set_option maxRecDepth 100000 in
theorem Dead_calls (w : World) (base : Nat) (ok : Nat → Prop) (g : Nat) (s : DS) (h : DiskIs w base ok g s) :
    Calls Try.prog 41 #[.pointer (some ⟨g, 0, none⟩)] w fun e w' => e = .returned (.bool s.dead) ∧ w = w' := by
  have hm : mayE s = if s.dead = true then 30 else 0 := rfl
  have HD := Aside0.mk h
  have hc : (mayE s == 30) = s.dead := by
    rw [hm]
    cases s.dead <;> rfl
  have HC := Aside0.mk hc
  clear hm hc h
  go_enter Try.func41, Try.ntmps41
  go_wp2_with fail
  refine (may_calls w base ok g s HD.out).mono ?_
  rintro e w1 ⟨rfl, rfl⟩
  have hc := HC.out
  generalize mayE s = q at *
  go_wp2_with fail
  go_ret
  exact ⟨rfl, rfl⟩
/-- the struct's cells, one set -/
theorem dcells_dead (gs m n : Nat) (vw : Value) (dead d' : Bool) (pp : Option Addr) : (dcells gs m n vw dead pp).setIfInBounds 3 (.bool d') = dcells gs m n vw d' pp := rfl
theorem dcells_plan (gs m n : Nat) (vw : Value) (dead : Bool) (pp p' : Option Addr) : (dcells gs m n vw dead pp).setIfInBounds 4 (.pointer p') = dcells gs m n vw dead p' := rfl
theorem dcells_waits (gs m n : Nat) (vw v' : Value) (dead : Bool) (pp : Option Addr) : (dcells gs m n vw dead pp).setIfInBounds 2 v' = dcells gs m n v' dead pp := rfl
/-- blocks of unlike kinds are two -/
theorem ne_kind {W : World} {a b : Nat} {t t' : TypeId} {cs cs' : Array Value} (h : HoldsRow W a t cs) (h' : HoldsRow W b t' cs') (hne : t ≠ t') : a ≠ b := by
  rintro rfl
  have := h.symm.trans h'
  injection this with e
  injection e with _ e2
  exact hne e2
theorem ne_map {W : World} {a b : Nat} {t : TypeId} {cs : Array Value} {F : Int → Option Value} (h : HoldsRow W a t cs) (h' : MapIs W b F) : a ≠ b := by
  rintro rfl
  obtain ⟨es, c, h1, _⟩ := h'
  have := h.symm.trans h1
  simp at this
theorem ne_own {W : World} {g : Nat} {t e base : Nat} {cs : Array Value} {α : Type} {d : Kd α} {ok : Nat → Prop} {v : Value} {xs : List α} (h : HoldsRow W g t cs) (h' : d.R e W base ok v xs) (hne : t ≠ e) : some g ≠ v.ownBlock := fun he => by
  obtain ⟨cells, hc⟩ := Kd.R_typed h' g he.symm
  have := h.symm.trans hc
  injection this with e
  injection e with _ e2
  exact hne e2
/-- where a cell of the struct is set, all else of a disk lies as it lay -/
theorem rest_set {W : World} {base : Nat} {ok : Nat → Prop} {g gs m n : Nat} {vw0 vw : Value} {dead : Bool} {pp0 pp : Option Addr} {f : List Int} {F : Int → Option Value} {xs : List (Int × List Int)} {q : Option (Int × Int × Int)} (h1 : HoldsRow W g 62 (dcells gs m n vw0 dead pp0)) (h2 : HoldsRow W gs 82 (rowK .u8 f)) (h3 : MapIs W m F) (h4 : Kd.R wrK 84 W base ok vw xs) (h5 : PlanIs W base ok pp q) (j : Nat) (u : Value) :
    HoldsRow (W.setCell ⟨g, j, none⟩ u) gs 82 (rowK .u8 f) ∧ MapIs (W.setCell ⟨g, j, none⟩ u) m F ∧ Kd.R wrK 84 (W.setCell ⟨g, j, none⟩ u) base ok vw xs ∧ PlanIs (W.setCell ⟨g, j, none⟩ u) base ok pp q := by
  have hfar : ∀ k, k ≠ g → (W.setCell ⟨g, j, none⟩ u).heap[k]? = W.heap[k]? := fun k hk => Below.heap_setCell W ⟨g, j, none⟩ u k hk
  refine ⟨hr_move h2 (hfar gs (ne_kind h2 h1 (by decide))), h3.move (hfar m (fun e => ne_map h1 h3 e.symm)), ?_, ?_⟩
  · have hne := ne_own h1 h4 (by decide)
    refine Kd.R_mono (Kd.R_move (Kd.R_bound h4) (fun k hk => hfar k (fun e => ?_))) (fun k hk => hk.1)
    obtain ⟨_, _, _, q, hq, cells, hc⟩ := hk
    have hq' : q = 84 := by simpa [wrK] using hq
    subst e
    have := h1.symm.trans hc
    injection this with e1
    injection e1 with _ e2
    rw [hq'] at e2
    exact absurd e2 (by decide)
  · cases q with
    | none => exact h5
    | some q =>
      obtain ⟨l, b, c⟩ := q
      obtain ⟨pb, e, hr, h6, h7⟩ := h5
      exact ⟨pb, e, hr_move hr (hfar pb (ne_kind hr h1 (by decide))), h6, h7⟩
/-- a cell of the struct set: the world and what is kept -/
theorem to_set {W : World} {base : Nat} {ok : Nat → Prop} {g j : Nat} {u : Value} (hg : ok g) (hb : base ≤ g) : Below base W (W.setCell ⟨g, j, none⟩ u) ∧ Kept W (W.setCell ⟨g, j, none⟩ u) ok :=
  ⟨(Below.refl base W).setCell (show base ≤ (⟨g, j, none⟩ : Addr).block from hb) u, (Kept.refl W ok).setCell (p := ⟨g, j, none⟩) (.inl hg) u⟩
set_option maxHeartbeats 2000000 in
set_option maxRecDepth 100000 in
theorem Boot_calls (w : World) (base : Nat) (ok : Nat → Prop) (g : Nat) (s : DS) (h : DiskIs w base ok g s) :
    Calls Try.prog 18 #[.pointer (some ⟨g, 0, none⟩)] w fun e w' => e = .returned (.int .i64 0) ∧ DiskTo w w' base ok g { s with dead := false, plan := none } := by
  have HD := Aside0.mk h
  have hc : (mayE s == 1) = false := by unfold mayE; split <;> rfl
  have HC := Aside0.mk hc
  clear hc
  obtain ⟨gs, m, vw, pp, h1, h2, h3, h4, h5, ⟨o1, o2, o3⟩, ⟨b1, b2, b3⟩, hG⟩ := h
  have k3 := h1.cell (j := 3) (v := .bool s.dead) rfl
  have k4 := h1.cell (j := 4) (v := .pointer pp) rfl
  have z3 := h1.free 3
  have z4 := h1.free 4
  obtain ⟨r2, r3, r4, r5⟩ := rest_set h1 h2 h3 h4 h5 3 (.bool false)
  have r1 := h1.set 3 (.bool false)
  rw [dcells_dead] at r1
  obtain ⟨q2, q3, q4, q5⟩ := rest_set r1 r2 r3 r4 r5 4 (.pointer none)
  have q1 := r1.set 4 (.pointer none)
  rw [dcells_plan] at q1
  have hb1 := (to_set (W := w) (j := 3) (u := .bool false) o1 b1)
  have hb2 := (to_set (W := w.setCell ⟨g, 3, none⟩ (.bool false)) (j := 4) (u := .pointer none) o1 b1)
  have HF := Aside0.mk (show DiskTo w ((w.setCell ⟨g, 3, none⟩ (.bool false)).setCell ⟨g, 4, none⟩ (.pointer none)) base ok g { s with dead := false, plan := none } from
    DiskTo.trans (hb1.1.trans hb2.1) (hb1.2.then_ hb2.2 (fun k hk => .inl hk)) (fun k hk => .inl hk) (DiskTo.same ⟨gs, m, vw, none, q1, q2, q3, q4, rfl, ⟨o1, o2, o3⟩, ⟨b1, b2, b3⟩, hG⟩))
  clear h1 h2 h3 h4 h5 r1 r2 r3 r4 r5 q1 q2 q3 q4 q5 hb1 hb2 o1 o2 o3 hG
  go_enter Try.func18, Try.ntmps18
  go_wp2_with fail
  refine (may_calls w base ok g s HD.out).mono ?_
  rintro e w1 ⟨rfl, rfl⟩
  have hc := HC.out
  generalize mayE s = q at *
  go_wp2_with fail
  go_ret
  exact ⟨rfl, HF.out⟩
/-- when it is to go: as Fail says -/
def failP (n bits cut : Int) : Option (Int × Int × Int) := if n < 0 then none else some (n, bits, cut)
set_option maxHeartbeats 2000000 in
set_option maxRecDepth 100000 in
theorem Fail_calls (w : World) (base : Nat) (ok : Nat → Prop) (g : Nat) (s : DS) (h : DiskIs w base ok g s) (hbw : base ≤ w.heap.size) (hd : s.dead = false) (n bits cut : Int) (hnm : n ≤ 9223372036854775807) :
    Calls Try.prog 46 #[.pointer (some ⟨g, 0, none⟩), .int .i64 n, .int .u64 bits, .int .i64 cut] w fun e w' => e = .returned (.int .i64 0) ∧ DiskTo w w' base ok g { s with plan := failP n bits cut } := by
  have HD := Aside0.mk h
  have hm : mayE s = 0 := by unfold mayE; rw [hd]; rfl
  have HM := Aside0.mk hm
  clear hm hd
  have hba := below_alloc (Below.refl w.heap.size w) (.cells #[.int .i64 n, .int .u64 bits, .int .i64 cut] 99)
  have hnew := HoldsRow.new w 99 #[.int .i64 n, .int .u64 bits, .int .i64 cut]
  have h0 := (h.below hba).mono (ok' := fun k => ok k ∨ w.heap.size ≤ k) (fun k hk _ => .inl hk)
  have hk0 : Kept w (w.alloc (.cells #[.int .i64 n, .int .u64 bits, .int .i64 cut] 99)) ok := (Kept.refl w ok).alloc _
  have hb0 : Below base w (w.alloc (.cells #[.int .i64 n, .int .u64 bits, .int .i64 cut] 99)) := (Below.refl base w).alloc hbw _
  obtain ⟨gs, m, vw, pp, h1, h2, h3, h4, h5, ⟨o1, o2, o3⟩, ⟨b1, b2, b3⟩, hG⟩ := h0
  obtain ⟨W, hW⟩ : ∃ W : World, W = w.alloc (.cells #[.int .i64 n, .int .u64 bits, .int .i64 cut] 99) := ⟨_, rfl⟩
  rw [← hW] at hnew hk0 hb0 h1 h2 h3 h4 h5
  have k4 := h1.cell (j := 4) (v := .pointer pp) rfl
  have z4 := h1.free 4
  obtain ⟨r2, r3, r4, r5⟩ := rest_set h1 h2 h3 h4 h5 4 (.pointer (some ⟨w.heap.size, 0, none⟩))
  have r1 := h1.set 4 (.pointer (some ⟨w.heap.size, 0, none⟩))
  rw [dcells_plan] at r1
  have hb1 := (to_set (ok := fun k => ok k ∨ w.heap.size ≤ k) (W := W) (j := 4) (u := .pointer (some ⟨w.heap.size, 0, none⟩)) o1 b1)
  have hpl : HoldsRow (W.setCell ⟨g, 4, none⟩ (.pointer (some ⟨w.heap.size, 0, none⟩))) w.heap.size 99 #[.int .i64 n, .int .u64 bits, .int .i64 cut] := hnew.set_other _ _ (ne_kind hnew h1 (by decide))
  have F1 : DiskTo w (W.setCell ⟨g, 4, none⟩ (.pointer (some ⟨w.heap.size, 0, none⟩))) base ok g { s with plan := some (n, bits, cut) } :=
    DiskTo.trans (hb0.trans hb1.1) (hk0.then_ hb1.2 (fun k hk => hk)) (fun k hk => hk) (DiskTo.same ⟨gs, m, vw, some ⟨w.heap.size, 0, none⟩, r1, r2, r3, r4, ⟨w.heap.size, rfl, hpl, .inr (Nat.le_refl _), hbw, hnm⟩, ⟨o1, o2, o3⟩, ⟨b1, b2, b3⟩, hG⟩)
  obtain ⟨q2, q3, q4, q5⟩ := rest_set (q := some (n, bits, cut)) (pp := some ⟨w.heap.size, 0, none⟩) r1 r2 r3 r4 ⟨w.heap.size, rfl, hpl, .inr (Nat.le_refl _), hbw, hnm⟩ 4 (.pointer none)
  have q1 := r1.set 4 (.pointer none)
  rw [dcells_plan] at q1
  have hb2 := (to_set (ok := fun k => ok k ∨ w.heap.size ≤ k) (W := W.setCell ⟨g, 4, none⟩ (.pointer (some ⟨w.heap.size, 0, none⟩))) (j := 4) (u := .pointer none) o1 b1)
  have F2 : DiskTo w ((W.setCell ⟨g, 4, none⟩ (.pointer (some ⟨w.heap.size, 0, none⟩))).setCell ⟨g, 4, none⟩ (.pointer none)) base ok g { s with plan := none } :=
    DiskTo.trans (hb0.trans (hb1.1.trans hb2.1)) ((hk0.then_ hb1.2 (fun k hk => hk)).then_ hb2.2 (fun k hk => hk)) (fun k hk => hk) (DiskTo.same ⟨gs, m, vw, none, q1, q2, q3, q4, rfl, ⟨o1, o2, o3⟩, ⟨b1, b2, b3⟩, hG⟩)
  have HF1 := Aside0.mk F1
  have HF2 := Aside0.mk F2
  have k4' := r1.cell (j := 4) (v := .pointer (some ⟨w.heap.size, 0, none⟩)) rfl
  have z4' := r1.free 4
  clear F1 F2 h1 h2 h3 h4 h5 r1 r2 r3 r4 r5 q1 q2 q3 q4 q5 hb1 hb2 hb0 hk0 hba hnew hpl h hG
  by_cases hn : n < 0
  · have hp : failP n bits cut = none := if_pos hn
    have HP := Aside0.mk hp
    have d1 : decide (n < 0) = true := decide_eq_true hn
    clear hp hn
    subst hW
    go_enter Try.func46, Try.ntmps46
    go_wp2_with fail
    refine (may_calls w base ok g s HD.out).mono ?_
    rintro e w1 ⟨rfl, rfl⟩
    rw [HM.out]
    go_wp2_with fail
    go_ret
    exact ⟨rfl, by rw [HP.out]; exact HF2.out⟩
  · have hp : failP n bits cut = some (n, bits, cut) := if_neg hn
    have HP := Aside0.mk hp
    have d1 : decide (n < 0) = false := decide_eq_false hn
    clear hp hn
    subst hW
    go_enter Try.func46, Try.ntmps46
    go_wp2_with fail
    refine (may_calls w base ok g s HD.out).mono ?_
    rintro e w1 ⟨rfl, rfl⟩
    rw [HM.out]
    go_wp2_with fail
    go_ret
    exact ⟨rfl, by rw [HP.out]; exact HF1.out⟩
end Go.Proofs.Ythnjkmjcacoajaa.Dk
end

section
/- Arrays in the middle of a block: an operation's load and store; rows of bytes cut by sectors. No condition. -/
namespace Go.Proofs.Ythnjkmjcacoajaa.Dk
open Go Go.RowKit Go.Proofs.YthnjkmjcacoajaaW.PrintWords Go.Proofs.YthnjkmjcacoajaaW.PrintLast Go.Proofs.YthnjkmjcacoajaaW.PrintMore Go.Proofs.Ythnjkmjcacoajaa.Base Go.Proofs.Ythnjkmjcacoajaa.Arr
set_option linter.unusedVariables false
set_option linter.unusedSimpArgs false

theorem exec_load_mid {P : Program} {o : Oper} {a : Act} {w : World} (ty : TypeId) (x : Operand) (ho : o.op = .load ty x) (b q : Nat) (hx : a.eval x = .pointer (some ⟨b, q, none⟩)) (cs : List Value) (d : TypeDesc) (hc : w.rangeAt b q cs)
    (hu : P.underlying ty = some d) (hd : d.isRow = true) (hi : (P.info? ty).map (·.size) = some cs.length) : (execOp a.eval o).run P w = .ok (.value (.agg cs.toArray)) w := by
  unfold execOp
  simp only [ho, hx, Instr.loadAt, Instr.sureAddr, Sem.run_bind, Sem.run_pure, Result.andThen_ok, run_loadVar_mid w b q ty cs d hc hu hd hi]
theorem exec_store_mid {P : Program} {o : Oper} {a : Act} {w : World} (ty : TypeId) (x y : Operand) (ho : o.op = .store ty x y) (b q : Nat) (cells : Array Value) (hx : a.eval x = .pointer (some ⟨b, q, none⟩)) (hy : a.eval y = .agg cells)
    (ht : w.there b q cells.size) (hi : (P.info? ty).map (·.size) = some cells.size) (h1 : cells.all (·.oneCell') = true) : (execOp a.eval o).run P w = .ok .skip (w.setCells b q cells.toList) := by
  unfold execOp
  simp only [ho, hx, hy, Instr.storeAt, Instr.sureAddr, Sem.run_bind, Sem.run_pure, Result.andThen_ok, run_storeVar_mid w b q ty cells ht hi h1]
theorem cell_alloc_old {W : World} {a : Addr} {v : Value} (o : Obj) (h : W.cell? a = some v) : (W.alloc o).cell? a = some v := pw_cell_below (below_alloc (Below.refl _ W) o) h
theorem exec_alloc {P : Program} {o : Oper} {a : Act} {w : World} (ty : TypeId) (ho : o.op = .alloc ty) (cs : Array Value) (hz : ∀ W, (zeroValue ty).run P W = .ok (.agg cs) W) :
    (execOp a.eval o).run P w = .ok (.value (.pointer (some ⟨w.heap.size, 0, none⟩))) (w.alloc (.cells cs ty)) := by
  unfold execOp
  simp only [ho]
  unfold Instr.alloc
  simp [hz, go_sem, Result.andThen]
theorem run_one_slice {P : Program} (w : World) (t e : TypeId) (n : Nat) (cs : Array Value) (hu : P.underlying t = some (.slice e)) (hinfo : (P.info? e).map (fun i => (i.zero.isSome, i.size)) = some (true, n)) (hn : 0 < n) (hs : n ≤ 16777216) (hcs : cs.size = n) :
    (Instr.buildSlice t 1 #[(0, .agg cs)]).run P w = .ok (.slice (some ⟨w.heap.size, 0, none⟩) 1 1) (w.alloc (.cells cs e)) := by
  obtain ⟨ie, hie, hz⟩ := Option.map_eq_some_iff.1 hinfo
  obtain ⟨hz1, hz2⟩ := Prod.mk.inj hz
  obtain ⟨z, hzz⟩ := Option.isSome_iff_exists.1 hz1
  refine run_buildSlice w t e 1 _ cs ie z hu hie hzz (by rw [hz2]; omega) (by rw [hz2]; omega) ?_
  have := Great.fill_whole (s := n) hn [.agg cs] ((Array.range (1 * n)).map (z.cells[· % z.cells.size]!)) (fun v hv => by rw [List.mem_singleton.1 hv]; exact hcs) (by simp)
  rw [hz2]
  have e2 : (Value.agg cs).cells = cs := rfl
  simpa [e2] using this
theorem wpList_one_slice {P : Program} {ops : Array Oper} {rest : List Oper} {o : Oper} {a : Act} {w : World} {Q : Exit → Act → World → Prop} (hgd : o.guard = none) (t e : TypeId) (x : Operand) (ho : o.op = .buildSlice t 1 #[(0, x)]) (n : Nat) (cs : Array Value) (hx : a.eval x = .agg cs)
    (hu : P.underlying t = some (.slice e)) (hinfo : (P.info? e).map (fun i => (i.zero.isSome, i.size)) = some (true, n)) (hn : 0 < n) (hs : n ≤ 16777216) (hcs : cs.size = n)
    (h : wpList P ops Q rest (a.put o.dst (.slice (some ⟨w.heap.size, 0, none⟩) 1 1)) (w.alloc (.cells cs e))) : wpList P ops Q (o :: rest) a w := by
  refine wpList_plain hgd fun _ hK => ?_
  unfold Oper.wp execOp
  simp only [ho, Sem.run_bind, List.map_toArray, List.map_cons, List.map_nil, hx, run_one_slice w t e n cs hu hinfo hn hs hcs, Result.andThen_ok]
  exact hK _ _ h
theorem fill_part {place : Nat → Option (Nat × Nat)} {cells : Array Value} {i : Nat} {v : Value} {rest : List (Nat × Value)} {off size : Nat} (hp : place i = some (off, size)) (hs : v.cells.size = size) (hfit : off + size ≤ cells.size) :
    ∃ cells', Instr.fill place cells ((i, v) :: rest) = Instr.fill place cells' rest ∧ cells'.size = cells.size ∧ ∀ k, cells'[k]? = if off ≤ k ∧ k < off + size then v.cells[k - off]? else cells[k]? := by
  refine ⟨v.cells.zipIdx.foldl (fun cs (c, j) => cs.setIfInBounds (off + j) c) cells, ?_, ?_, ?_⟩
  · rw [Instr.fill, hp]
    simp [hs, show ¬ cells.size < off + size by omega]
  all_goals
    have h := Great.foldl_set off v.cells.toList 0 cells
    have e : v.cells.zipIdx.foldl (fun cs (x : Value × Nat) => cs.setIfInBounds (off + x.2) x.1) cells = (v.cells.toList.zipIdx 0).foldl (fun cs (x : Value × Nat) => cs.setIfInBounds (off + x.2) x.1) cells := by
      rw [← Array.foldl_toList, Array.toList_zipIdx]
  · exact (congrArg Array.size e).trans h.1
  · intro k
    refine (congrArg (·[k]?) e).trans ?_
    rw [h.2 k]
    simp only [Nat.add_zero, Array.length_toList, hs, Array.getElem?_toList]
    by_cases hk : off ≤ k ∧ k < off + size
    · rw [if_pos hk, if_pos ⟨hk.1, hk.2, by omega⟩]
    · rw [if_neg hk, if_neg (fun q => hk ⟨q.1, q.2.1⟩)]
/-- a load of a whole array at any address -/
theorem wpList_load_at {P : Program} {w : World} {ops : Array Oper} {rest : List Oper} {o : Oper} {a : Act} {Q : Exit → Act → World → Prop} (hgd : o.guard = none) (ty : TypeId) (x : Operand) (ho : o.op = .load ty x) (ad : Addr) (hx : a.eval x = .pointer (some ad)) (cs : List Value) (d : TypeDesc)
    (hc : ∀ j v, cs[j]? = some v → w.cell? (ad.add j) = some v) (hu : P.underlying ty = some d) (hd : d.isRow = true) (hi : (P.info? ty).map (·.size) = some cs.length)
    (h : wpList P ops Q rest (a.put o.dst (.agg cs.toArray)) w) : wpList P ops Q (o :: rest) a w := by
  have hl : (loadCells ad cs.length).run P w = .ok cs.toArray w := run_loadCells_list (P := P) w ad cs hc
  refine wpList_plain hgd fun _ hK => ?_
  obtain ⟨i, hq, hs⟩ := Option.map_eq_some_iff.1 hi
  have hagg : (isAgg ty).run P w = .ok true w := by
    unfold isAgg
    rw [Sem.run_bind, run_underlying hu w]
    cases d <;> simp_all
  have hlv : (loadVar ty ad).run P w = .ok (.agg cs.toArray) w := by simp [loadVar, Sem.run_bind, hagg, sizeOf, typeInfo, hq, hs, hl]
  unfold Oper.wp execOp
  simp only [ho, hx, Instr.loadAt, Instr.sureAddr, Sem.run_bind, Sem.run_pure, Result.andThen_ok, hlv]
  exact hK _ _ h
theorem exec_built {P : Program} {o : Oper} {a : Act} {w : World} (t : TypeId) (parts : Array (Nat × Operand)) (ho : o.op = .build t parts) (vals : List (Nat × Value)) (hv : (parts.map fun (i, x) => (i, a.eval x)).toList = vals) (cells : Array Value) (h : P.built t vals = some cells) :
    (execOp a.eval o).run P w = .ok (.value (.agg cells)) w := by
  unfold execOp
  simp only [ho, Sem.run_bind, run_build w t _ cells (by rw [hv]; exact h), Result.andThen_ok]
  rfl
theorem exec_one_slice {P : Program} {o : Oper} {a : Act} {w : World} (t e : TypeId) (x : Operand) (ho : o.op = .buildSlice t 1 #[(0, x)]) (n : Nat) (cs : Array Value) (hx : a.eval x = .agg cs)
    (hu : P.underlying t = some (.slice e)) (hinfo : (P.info? e).map (fun i => (i.zero.isSome, i.size)) = some (true, n)) (hn : 0 < n) (hs : n ≤ 16777216) (hcs : cs.size = n) :
    (execOp a.eval o).run P w = .ok (.value (.slice (some ⟨w.heap.size, 0, none⟩) 1 1)) (w.alloc (.cells cs e)) := by
  unfold execOp
  simp only [ho, Sem.run_bind, List.map_toArray, List.map_cons, List.map_nil, hx, run_one_slice w t e n cs hu hinfo hn hs hcs, Result.andThen_ok]
  rfl
theorem nums_rowK (l : List Int) : (nums .u8 l).toArray = rowK .u8 l := rfl
theorem nums_len (l : List Int) : (nums .u8 l).length = l.length := by simp [nums]
theorem range_row {W : World} {b : Nat} {t : TypeId} {f : List Int} (h : HoldsRow W b t (rowK .u8 f)) (q n : Nat) : W.rangeAt b q (nums .u8 ((f.drop q).take n)) := fun j v hv => by
  refine h.cell ?_
  unfold nums at hv
  rw [List.getElem?_map] at hv
  obtain ⟨x, hx, rfl⟩ := Option.map_eq_some_iff.1 hv
  rw [List.getElem?_take] at hx
  split at hx
  · rw [List.getElem?_drop] at hx
    simp [rowK, nums, hx]
  · cases hx
theorem there_row {W : World} {b : Nat} {t : TypeId} {cs : Array Value} (h : HoldsRow W b t cs) (q n : Nat) (hn : q + n ≤ cs.size) : W.there b q n := fun j hj => by
  refine ⟨?_, h.free (q + j)⟩
  have : q + j < cs.size := by omega
  rw [h.cell (j := q + j) (v := cs[q + j]) (Array.getElem?_eq_getElem this)]
  rfl
theorem sec_set {W : World} {b : Nat} {t : TypeId} {f : List Int} {i n : Nat} {s : List Int} (h : HoldsRow W b t (rowK .u8 f)) (hf : f.length = n * 64) (hi : i < n) (hs : s.length = 64) : HoldsRow (W.setCells b (i * 64) (nums .u8 s)) b t (rowK .u8 (putSec f i s)) := by
  obtain ⟨cur, h1, h2, h3⟩ := setCells_row (nums .u8 s) (i * 64) W (rowK .u8 f) h (by rw [nums_len, rowK_size]; omega)
  have : cur = rowK .u8 (putSec f i s) := by
    apply Array.toList_inj.1
    rw [h3, nums_len, hs]
    simp [rowK, nums, putSec]
  rw [← this]
  exact h1
theorem sets_far {W : World} {b q : Nat} {vs : List Value} {k : Nat} (hk : k ≠ b) : (W.setCells b q vs).heap[k]? = W.heap[k]? := setCells_far vs q k hk
theorem sets_below {base : Nat} {w W : World} {b q : Nat} (h : Below base w W) (hb : base ≤ b) (vs : List Value) : Below base w (W.setCells b q vs) := by
  obtain ⟨s1, s2, s3, s4⟩ := setCells_same b vs q W
  exact h.trans ⟨s1, s2, s3, by rw [s4]; exact Nat.le_refl _, fun k hk => setCells_far vs q k (by omega)⟩
theorem sets_kept {w W : World} {S : Nat → Prop} {b q : Nat} (h : Kept w W S) (hb : S b ∨ w.heap.size ≤ b) (vs : List Value) : Kept w (W.setCells b q vs) S :=
  h.then_ (S2 := fun k => k = b) ⟨by rw [(setCells_same b vs q W).2.2.2]; exact Nat.le_refl _, fun k _ hn => setCells_far vs q k hn⟩ (fun k hk => by rw [hk]; exact hb)
theorem sets_all_far {W : World} {b q : Nat} {vs : List Value} : ∀ k, k ≠ b → (W.drew.setCells b q vs).heap[k]? = W.heap[k]? := fun k hk => setCells_far vs q k hk
/-- rows of writes, and plans, where one block of another kind is turned -/
theorem wr_move {W W1 : World} {b base : Nat} {t : TypeId} {cs : Array Value} {ok : Nat → Prop} {v : Value} {xs : List (Int × List Int)} (h : Kd.R wrK 84 W base ok v xs) (hb : HoldsRow W b t cs) (ht : t ≠ 84) (hm : ∀ k, k ≠ b → W1.heap[k]? = W.heap[k]?) : Kd.R wrK 84 W1 base ok v xs := by
  refine Kd.R_mono (Kd.R_move (Kd.R_bound h) (fun k hk => hm k (fun e => ?_))) (fun k hk => hk.1)
  obtain ⟨_, _, _, q, hq, cells, hc⟩ := hk
  have hq' : q = 84 := by simpa [wrK] using hq
  subst e
  have := hb.symm.trans hc
  injection this with e1
  injection e1 with _ e2
  rw [hq'] at e2
  exact ht e2
theorem plan_move {W W1 : World} {b base : Nat} {t : TypeId} {cs : Array Value} {ok : Nat → Prop} {pp : Option Addr} {p : Option (Int × Int × Int)} (h : PlanIs W base ok pp p) (hb : HoldsRow W b t cs) (ht : t ≠ 99) (hm : ∀ k, k ≠ b → W1.heap[k]? = W.heap[k]?) : PlanIs W1 base ok pp p := by
  cases p with
  | none => exact h
  | some q =>
    obtain ⟨l, bb, c⟩ := q
    obtain ⟨pb, e, hr, h6, h7⟩ := h
    exact ⟨pb, e, hr_move hr (hm pb (ne_kind hr hb (fun e => ht e.symm))), h6, h7⟩
/-- where the row of writes has grown, all else of a disk lies as it lay -/
theorem rest_grown {W W1 : World} {base : Nat} {ok : Nat → Prop} {g gs m n : Nat} {vw : Value} {dead : Bool} {pp : Option Addr} {f : List Int} {F : Int → Option Value} {q : Option (Int × Int × Int)} {xs : List (Int × List Int)} (h1 : HoldsRow W g 62 (dcells gs m n vw dead pp)) (h2 : HoldsRow W gs 82 (rowK .u8 f)) (h3 : MapIs W m F) (h4 : Kd.R wrK 84 W base ok vw xs) (h5 : PlanIs W base ok pp q) (hg : W.grownBy W1 vw.ownBlock) :
    HoldsRow W1 g 62 (dcells gs m n vw dead pp) ∧ HoldsRow W1 gs 82 (rowK .u8 f) ∧ MapIs W1 m F ∧ PlanIs W1 base ok pp q := by
  refine ⟨hr_move h1 (hg.block g h1.lt (ne_own h1 h4 (by decide))), hr_move h2 (hg.block gs h2.lt (ne_own h2 h4 (by decide))), h3.move (hg.block m h3.lt (fun he => ?_)), ?_⟩
  · obtain ⟨cells, hc⟩ := Kd.R_typed h4 m he.symm
    obtain ⟨es, c, e1, _⟩ := h3
    have := e1.symm.trans hc
    simp at this
  · cases q with
    | none => exact h5
    | some q =>
      obtain ⟨l, b, c⟩ := q
      obtain ⟨pb, e, hr, h6, h7⟩ := h5
      exact ⟨pb, e, hr_move hr (hg.block pb hr.lt (ne_own hr h4 (by decide))), h6, h7⟩
/-- where the map is turned, all else of a disk lies as it lay -/
theorem rest_map {W W1 : World} {base : Nat} {ok : Nat → Prop} {g gs m n : Nat} {vw : Value} {dead : Bool} {pp : Option Addr} {f : List Int} {F : Int → Option Value} {q : Option (Int × Int × Int)} {xs : List (Int × List Int)} (h1 : HoldsRow W g 62 (dcells gs m n vw dead pp)) (h2 : HoldsRow W gs 82 (rowK .u8 f)) (h3 : MapIs W m F) (h4 : Kd.R wrK 84 W base ok vw xs) (h5 : PlanIs W base ok pp q) (hg : W.grownBy W1 (some m)) :
    HoldsRow W1 g 62 (dcells gs m n vw dead pp) ∧ HoldsRow W1 gs 82 (rowK .u8 f) ∧ Kd.R wrK 84 W1 base ok vw xs ∧ PlanIs W1 base ok pp q := by
  refine ⟨hr_move h1 (hg.block g h1.lt (fun e => ne_map h1 h3 (by injection e))), hr_move h2 (hg.block gs h2.lt (fun e => ne_map h2 h3 (by injection e))), ?_, ?_⟩
  · refine Kd.R_mono (Kd.R_move (Kd.R_bound h4) (fun k hk => hg.block k hk.2.2.1 (fun e => ?_))) (fun k hk => hk.1)
    obtain ⟨_, _, _, q, hq, cells, hc⟩ := hk
    have e' : k = m := by injection e
    subst e'
    obtain ⟨es, c, e1, _⟩ := h3
    have := e1.symm.trans hc
    simp at this
  · cases q with
    | none => exact h5
    | some q =>
      obtain ⟨l, b, c⟩ := q
      obtain ⟨pb, e, hr, h6, h7⟩ := h5
      exact ⟨pb, e, hr_move hr (hg.block pb hr.lt (fun e => ne_map hr h3 (by injection e))), h6, h7⟩
end Go.Proofs.Ythnjkmjcacoajaa.Dk
end

section
/- settle of a disk, walked. Condition: the writes are of its sectors. -/
namespace Go.Proofs.Ythnjkmjcacoajaa.Dk
open Go Go.RowKit Go.Proofs.YthnjkmjcacoajaaW.PrintWords Go.Proofs.YthnjkmjcacoajaaW.PrintLast Go.Proofs.YthnjkmjcacoajaaW.PrintMore Go.Proofs.Ythnjkmjcacoajaa.Base Go.Proofs.Ythnjkmjcacoajaa.Arr
set_option linter.unusedVariables false
set_option linter.unusedSimpArgs false

def lay (f : List Int) (l : List (Int × List Int)) : List Int := l.foldl (fun f p => putSec f p.1.toNat p.2) f
theorem lay_snoc (f : List Int) (l : List (Int × List Int)) (p : Int × List Int) : lay f (l ++ [p]) = putSec (lay f l) p.1.toNat p.2 := by unfold lay; rw [List.foldl_append]; rfl
/-- an empty write -/
def z65 : Array Value := (Value.int .i64 0 :: nums .u8 (List.replicate 64 0)).toArray
theorem z65_size : z65.size = 65 := by kernel_rfl
theorem zero_write (W : World) : (zeroValue 84).run Try.prog W = .ok (.agg z65) W := by kernel_rfl
def z64 : List Int := List.replicate 64 0
theorem z64_len : z64.length = 64 := by kernel_rfl
theorem zero_sector (W : World) : (zeroValue 82).run Try.prog W = .ok (.agg (rowK .u8 z64)) W := by kernel_rfl
def Fits (n : Nat) (l : List (Int × List Int)) : Prop := ∀ p ∈ l, 0 ≤ p.1 ∧ p.1 < n ∧ p.2.length = 64
theorem lay_len {f : List Int} {n : Nat} (hf : f.length = n * 64) : ∀ (l : List (Int × List Int)), Fits n l → (lay f l).length = n * 64 := by
  intro l
  induction l generalizing f with
  | nil => intro _; exact hf
  | cons p l ih =>
    intro h
    have hp := h p (by simp)
    exact ih (putSec_len hf (by omega) hp.2.2) (fun q hq => h q (by simp [hq]))
/-- a write's 65 cells -/
def wcells (p : Int × List Int) : Array Value := (Value.int .i64 p.1 :: nums .u8 p.2).toArray
theorem wcells_size {p : Int × List Int} (h : p.2.length = 64) : (wcells p).size = 65 := by simp [wcells, nums, h]
set_option maxHeartbeats 4000000 in
set_option maxRecDepth 100000 in
theorem settle_calls (w : World) (base : Nat) (ok okl : Nat → Prop) (g : Nat) (s : DS) (h : DiskIs w base ok g s) (hbw : base ≤ w.heap.size) (vl : Value) (L : List (Int × List Int)) (hl : Kd.R wrK 84 w base okl vl L) (hL : Fits s.n L) :
    Calls Try.prog 40 #[.pointer (some ⟨g, 0, none⟩), vl] w fun e w' => e = .returned (.tuple #[]) ∧ DiskTo w w' base ok g { s with stays := lay s.stays L, waits := [] } := by
  obtain ⟨gs, m, vw, pp, h1, h2, h3, h4, h5, ⟨o1, o2, o3⟩, ⟨b1, b2, b3⟩, hG⟩ := h
  obtain ⟨A, c, rfl⟩ := Kd.R_slice hl
  have HG := Aside0.mk hG
  have HO := Aside0.mk (And.intro o1 (And.intro o2 o3))
  have HBS := Aside0.mk (And.intro b1 (And.intro b2 b3))
  have HL := Aside0.mk hL
  have H1 := Aside0.mk h1
  have H2 := Aside0.mk h2
  have H3 := Aside0.mk h3
  have H4 := Aside0.mk h4
  have H5 := Aside0.mk h5
  have H6 := Aside0.mk hl
  have HBW := Aside0.mk hbw
  have hmx : L.length ≤ 9223372036854775807 := Kd.C_max (Kd.R_reads' hl).2.2
  clear h1 h2 h3 h4 h5 hl hG o1 o2 o3 b1 b2 b3 hL hbw
  go_enter Try.func40, Try.ntmps40
  go_wp2_with fail
  go_loopw [8] (fun i wr => ∃ j : Nat, j ≤ L.length ∧ i = .int .i64 (j : Nat) ∧ Aside0 (HoldsRow wr g 62 (dcells gs m s.n vw s.dead pp)) ∧ Aside0 (HoldsRow wr gs 82 (rowK .u8 (lay s.stays (L.take j)))) ∧ Aside0 (MapIs wr m (seenF s.waits)) ∧ Aside0 (PlanIs wr base ok pp s.plan) ∧ Aside0 (Kd.R wrK 84 wr base okl (.slice A L.length c) L) ∧ Aside0 (Below base w wr ∧ Kept w wr ok)) (fun i _ => L.length - (intOf i).toNat)
  case atStart => exact ⟨0, by omega, rfl, H1, H2, H3, H5, H6, ⟨Below.refl _ _, Kept.refl _ _⟩⟩
  case round =>
    obtain ⟨j, hj, rfl, R1, R2, R3, R5, R6, RB⟩ := hrel
    clear H1 H2 H3 H4 H5 H6
    by_cases hlt : j < L.length
    · have d1 : decide ((j : Int) < (L.length : Int)) = true := decide_eq_true (by omega)
      have d2 : decide (j < L.length) = true := decide_eq_true hlt
      obtain ⟨gl, cap, e, -, -, -⟩ := Kd.R_form R6.out (by omega)
      injection e with e1 _ e3
      subst e1
      obtain ⟨cs, -, ⟨hcs, h64⟩, hcell, -⟩ := Kd.R_elem R6.out ((0, []) : Int × List Int) (j : Int) (by omega) (by omega)
      rw [Int.toNat_natCast] at hcs h64 hcell
      have hp := HL.out (L.getD j (0, [])) (by rw [List.getD_eq_getElem?_getD, List.getElem?_eq_getElem hlt]; exact List.getElem_mem _)
      have htk : L.take (j + 1) = L.take j ++ [L.getD j (0, [])] := by rw [List.take_succ_eq_append_getElem hlt, List.getD_eq_getElem?_getD, List.getElem?_eq_getElem hlt]; rfl
      generalize L.getD j (0, []) = p at *
      obtain ⟨at_, sec⟩ := p
      simp only at hcs h64 hp
      have hrng : wr.rangeAt gl (j * 65) cs := fun q u hu => by have := hcell q u hu; exact this
      have hcl : cs.length = 65 := by rw [hcs]; simp [nums, h64]
      have HTK := Aside0.mk htk
      have HP := Aside0.mk hp
      have HRNG := Aside0.mk hrng
      have HCL := Aside0.mk hcl
      have HCS := Aside0.mk hcs
      have b0 := eq_true (show (0 : Int) ≤ (j : Int) by omega)
      have b1 := eq_true (show (j : Int) < (L.length : Int) by omega)
      clear htk hp hrng hcl hcs hcell h64 e3
      have hz := zero_write
      have HOLD := Aside0.mk (z65_size.trans (by rw [List.size_toArray, HCL.out]) : z65.size = cs.toArray.size)
      have hnew := HoldsRow.new wr 84 z65
      have HNEW := Aside0.mk hnew
      have hrow := hnew.row cs.toArray
      obtain ⟨W, hW⟩ : ∃ W : World, W = (wr.alloc (.cells z65 84)).setRow wr.heap.size cs.toArray := ⟨_, rfl⟩
      rw [← hW] at hrow
      have HWW := Aside0.mk hW
      have hfar : ∀ k, k < wr.heap.size → W.heap[k]? = wr.heap[k]? := fun k hk => by rw [hW]; exact (setRow_other _ _ k _ (by omega)).trans (Go.heap_alloc_old wr _ hk)
      have hsz : W.heap.size = wr.heap.size + 1 := by rw [hW]; simp [World.setRow]
      have HROW := Aside0.mk hrow
      have HFAR := Aside0.mk hfar
      have HSZ := Aside0.mk hsz
      clear hW hnew hrow hfar hsz
      go_wp2_with (first | (refine wpList_load_mid rfl 84 (.tmp 10) rfl gl (j * 65) rfl cs _ HRNG.out Try.underlying84 rfl (by rw [HCL.out]; kernel_rfl) ?_) | (refine wpList_store_row rfl 84 (.tmp 5) (.tmp 11) rfl wr.heap.size cs.toArray rfl rfl 84 z65 HNEW.out (by rw [List.size_toArray, HCL.out]; kernel_rfl) HOLD.out (all_oneCell_toArray (by rw [HCS.out]; exact fun u hu => wrK.K_one (w := wr) (x := (at_, sec)) ⟨rfl, HP.out.2.2⟩ u hu)) ?_; rw [← HWW.out]))
      obtain ⟨b5, hb5⟩ : ∃ b, b = wr.heap.size := ⟨_, rfl⟩
      have HB5 := Aside0.mk hb5
      have hrow := HROW.out
      rw [← hb5] at hrow ⊢
      have hbelow : Below wr.heap.size wr W := by rw [HWW.out]; exact below_setRow (b := wr.heap.size) (below_alloc (Below.refl _ _) _) _ (Nat.le_refl _)
      clear hb5 hz b0 b1 HNEW HWW HOLD HRNG HROW
      have hfarR : ∀ k, k < wr.heap.size → W.heap[k]? = wr.heap[k]? := HFAR.out
      have S1 := Aside0.mk (hr_move R1.out (hfarR _ R1.out.lt))
      have S2 := Aside0.mk (hr_move R2.out (hfarR _ R2.out.lt))
      have S3 := Aside0.mk (R3.out.move (hfarR _ R3.out.lt))
      have S5 := Aside0.mk (R5.out.move (fun k _ hk => hfarR k hk))
      have S6 := Aside0.mk (Kd.R_step R6.out (fun k _ hk => hfarR k hk))
      have hbw2 : base ≤ wr.heap.size := Nat.le_trans HBW.out RB.out.2.1
      have SB := Aside0.mk (And.intro (RB.out.1.trans (hbelow.mono hbw2)) (RB.out.2.below hbelow))
      clear R1 R2 R3 R5 R6 RB hfarR HFAR
      have K0 : W.cell? ⟨g, 0, none⟩ = some (.slice (some ⟨gs, 0, none⟩) s.n s.n) := S1.out.cell rfl
      have K1 : W.cell? ⟨b5, 0, none⟩ = some (.int .i64 at_) := hrow.cell (by rw [HCS.out]; rfl)
      have K2 : W.rangeAt b5 1 (nums .u8 sec) := fun q u hu => hrow.cell (by rw [HCS.out]; rw [Nat.add_comm]; simpa using hu)
      have HP64 := Aside0.mk HP.out.2.2
      obtain ⟨ai, hai⟩ := Int.eq_ofNat_of_zero_le HP.out.1
      subst hai
      have hai := HP.out.2.1
      have x0 := eq_true (show ai < s.n by omega)
      have hsl : (lay s.stays (L.take j)).length = s.n * 64 := lay_len HG.out.2.2.1 _ (fun q hq => HL.out q (List.mem_of_mem_take hq))
      have HSL := Aside0.mk hsl
      have HTHERE := Aside0.mk (show W.drew.there gs (ai * 64) (rowK .u8 sec).size from there_row (W := W.drew) S2.out _ _ (by rw [rowK_size, rowK_size, hsl, HP64.out]; omega))
      clear hai hsl hrow
      go_wp2_with fail
      refine start_ (n := 10) (S := fun w' => w'.cell? ⟨g, 0, none⟩ = some (.slice (some ⟨gs, 0, none⟩) s.n s.n) ∧ w'.cell? ⟨b5, 0, none⟩ = some (.int .i64 (ai : Nat)) ∧ w'.rangeAt b5 1 (nums .u8 sec)) (ds := [9]) #[false, false, false, false, false, false, false, false, false, false] (by kernel_rfl) rfl rfl ⟨K0, K1, K2⟩ (fun hHeld => ?_)
      refine pure_ (i := 0) (N := some 12) (v := ?_) (a' := ?_) #[true, false, false, false, false, false, false, false, false, false] rfl rfl (by kernel_rfl) (fun _ _ _ h => h) (Or.inl ⟨by rfl, ?_⟩) ?_ ?_
      rotate_left
      · intro w'
        go_simp
        with_reducible rfl
      rotate_left
      · simp only [Act.put, List.setIfInBounds_toArray, List.set_cons_zero, List.set_cons_succ, i64_w, i32_w]
        rfl
      refine pure_ (i := 1) (N := some 13) (v := ?_) (a' := ?_) #[true, true, false, false, false, false, false, false, false, false] rfl rfl (by kernel_rfl) (fun _ _ _ h => h) (Or.inl ⟨by rfl, ?_⟩) ?_ ?_
      rotate_left
      · intro w'
        go_simp
        with_reducible rfl
      rotate_left
      · simp only [Act.put, List.setIfInBounds_toArray, List.set_cons_zero, List.set_cons_succ, i64_w, i32_w]
        rfl
      refine pure_ (i := 2) (N := some 14) (v := ?_) (a' := ?_) #[true, true, true, false, false, false, false, false, false, false] rfl rfl (by kernel_rfl) (fun _ _ _ h => h) (Or.inl ⟨by rfl, ?_⟩) ?_ ?_
      rotate_left
      · intro w'
        go_simp
        with_reducible rfl
      rotate_left
      · simp only [Act.put, List.setIfInBounds_toArray, List.set_cons_zero, List.set_cons_succ, i64_w, i32_w]
        rfl
      refine pure_ (i := 4) (N := some 16) (v := ?_) (a' := ?_) #[true, true, true, false, true, false, false, false, false, false] rfl rfl (by kernel_rfl) (fun _ _ _ h => h) (Or.inl ⟨by rfl, ?_⟩) ?_ ?_
      rotate_left
      · intro w'
        go_simp
        with_reducible rfl
      rotate_left
      · simp only [Act.put, List.setIfInBounds_toArray, List.set_cons_zero, List.set_cons_succ, i64_w, i32_w]
        rfl
      refine pure_ (i := 6) (N := some 18) (v := ?_) (a' := ?_) #[true, true, true, false, true, false, true, false, false, false] rfl rfl (by kernel_rfl) (fun _ _ _ h => h) (Or.inl ⟨by rfl, ?_⟩) ?_ ?_
      rotate_left
      · intro w'
        go_simp
        with_reducible rfl
      rotate_left
      · simp only [Act.put, List.setIfInBounds_toArray, List.set_cons_zero, List.set_cons_succ, i64_w, i32_w]
        rfl
      refine take_ (i := 3) (N := some 15) (v := ?_) (a' := ?_) #[true, true, true, true, true, false, true, false, false, false] rfl rfl (by kernel_rfl) (fun _ _ _ h => h) (Or.inl ⟨by rfl, ?_⟩) hHeld ?_ ?_
      rotate_left
      · rintro w' ⟨s0, s1, s2⟩
        go_simp
        with_reducible rfl
      rotate_left
      · simp only [Act.put, List.setIfInBounds_toArray, List.set_cons_zero, List.set_cons_succ, i64_w, i32_w]
        rfl
      refine take_ (i := 5) (N := some 17) (v := ?_) (a' := ?_) #[true, true, true, true, true, true, true, false, false, false] rfl rfl (by kernel_rfl) (fun _ _ _ h => h) (Or.inl ⟨by rfl, ?_⟩) hHeld ?_ ?_
      rotate_left
      · rintro w' ⟨s0, s1, s2⟩
        go_simp
        with_reducible rfl
      rotate_left
      · simp only [Act.put, List.setIfInBounds_toArray, List.set_cons_zero, List.set_cons_succ, i64_w, i32_w]
        rfl
      refine take_ (i := 7) (N := some 19) (v := ?_) (a' := ?_) #[true, true, true, true, true, true, true, true, false, false] rfl rfl (by kernel_rfl) (fun _ _ _ h => h) (Or.inl ⟨by rfl, ?_⟩) hHeld ?_ ?_
      rotate_left
      · rintro w' ⟨s0, s1, s2⟩
        refine exec_load_mid 82 (.tmp 18) ?_ b5 1 ?_ (nums .u8 sec) _ s2 Try.underlying82 rfl (by rw [nums_len, HP64.out]; kernel_rfl)
        · rfl
        · rfl
      rotate_left
      · simp only [Act.put, List.setIfInBounds_toArray, List.set_cons_zero, List.set_cons_succ, i64_w, i32_w]
        rfl
      refine pure_ (i := 8) (N := some 20) (v := ?_) (a' := ?_) #[true, true, true, true, true, true, true, true, true, false] rfl rfl (by kernel_rfl) (fun _ _ _ h => h) (Or.inl ⟨by rfl, ?_⟩) ?_ ?_
      rotate_left
      · intro w'
        go_simp
        with_reducible rfl
      rotate_left
      · simp only [Act.put, List.setIfInBounds_toArray, List.set_cons_zero, List.set_cons_succ, i64_w, i32_w]
        rfl
      refine last_ (i := 9) (N := none) #[true, true, true, true, true, true, true, true, true, true] rfl rfl (by kernel_rfl) (by decide) (fun K hK => ?_)
      refine skip_ (w1 := _) (by rfl) rfl (exec_store_mid 82 (.tmp 20) (.tmp 19) rfl gs (ai * 64) (rowK .u8 sec) (by rfl) (by rfl) HTHERE.out (by rw [rowK_size, HP64.out]; kernel_rfl) (rowK_one _ _)) ?_
      refine hK.out _ _ ?_
      clear hK K
      refine done_ (by kernel_rfl) ?_
      have hs2 := sec_set (W := W.drew) (b := gs) (t := 82) (i := ai) (n := s.n) (s := sec) S2.out HSL.out (by have := HP.out.2.1; omega) HP64.out
      have hfr : ∀ k, k ≠ gs → (W.drew.setCells gs (ai * 64) (rowK .u8 sec).toList).heap[k]? = W.heap[k]? := sets_all_far
      have e2 : lay s.stays (L.take (j + 1)) = putSec (lay s.stays (L.take j)) ai sec := by rw [HTK.out, lay_snoc]; rfl
      have T1 := Aside0.mk (hr_move S1.out (hfr g (ne_kind S1.out S2.out (by decide))))
      have T2 := Aside0.mk (show HoldsRow (W.drew.setCells gs (ai * 64) (rowK .u8 sec).toList) gs 82 (rowK .u8 (lay s.stays (L.take (j + 1)))) by rw [e2]; exact hs2)
      have T3 := Aside0.mk (S3.out.move (hfr m (fun e => ne_map (W := W) (by rw [← e] at S2; exact S2.out) S3.out rfl)))
      have T5 := Aside0.mk (plan_move S5.out S2.out (by decide) hfr)
      have T6 := Aside0.mk (wr_move S6.out S2.out (by decide) hfr)
      have TB := Aside0.mk (And.intro (sets_below (q := ai * 64) (below_drew SB.out.1) HBS.out.2.1 (rowK .u8 sec).toList) (sets_kept (q := ai * 64) (Kept.drew SB.out.2) (.inl HO.out.2.1) (rowK .u8 sec).toList))
      clear hs2 hfr e2 S1 S2 S3 S5 S6 SB
      go_wp2_with fail
      go_roundw
      case rel => exact ⟨j + 1, by omega, by go_num, T1, T2, T3, T5, T6, TB⟩
      case measure => simp [intOf]; omega
    · obtain rfl : j = L.length := by omega
      have d1 : decide ((L.length : Int) < (L.length : Int)) = false := decide_eq_false (by omega)
      have d2 : decide (L.length < L.length) = false := decide_eq_false (by omega)
      have hl1 : (lay s.stays (L.take L.length)) = lay s.stays L := by rw [List.take_length]
      rw [hl1] at R2
      have K0 : wr.cell? ⟨g, 1, none⟩ = some (.map (some m)) := R1.out.cell rfl
      clear hl1 hmx
      obtain ⟨W1, hrun, hmap, hgr, hsz⟩ := run_clear_is (P := Try.prog) (T := 58) (K := 3) (E := 82) R3.out Try.underlying58 0
      have hgm : some g ≠ some m := fun e => ne_map R1.out R3.out (by injection e)
      have hgsm : some gs ≠ some m := fun e => ne_map R2.out R3.out (by injection e)
      have T1 : HoldsRow W1 g 62 (dcells gs m s.n vw s.dead pp) := hr_move R1.out (hgr.block g R1.out.lt hgm)
      have T2 : HoldsRow W1 gs 82 (rowK .u8 (lay s.stays L)) := hr_move R2.out (hgr.block gs R2.out.lt hgsm)
      have T5 : PlanIs W1 base ok pp s.plan := by
        cases hp : s.plan with
        | none => have := R5.out; rw [hp] at this; exact this
        | some q =>
          obtain ⟨l, b, c⟩ := q
          have := R5.out
          rw [hp] at this
          obtain ⟨pb, e, hr, h6, h7⟩ := this
          exact ⟨pb, e, hr_move hr (hgr.block pb hr.lt (fun e => ne_map hr R3.out (by injection e))), h6, h7⟩
      have hb1 : Below base w W1 := RB.out.1.grown hgr (Nat.le_trans HBW.out RB.out.2.1) (fun k hk => by injection hk with hk; rw [← hk]; exact HBS.out.2.2)
      have hk1 : Kept w W1 ok := Kept.of_grown hgr RB.out.2 (fun k hk => by injection hk with hk; rw [← hk]; exact .inl HO.out.2.2)
      have hset := to_set (W := W1) (base := base) (ok := ok) (j := 2) (u := .slice none 0 0) HO.out.1 HBS.out.1
      obtain ⟨q2, q3, q4, q5⟩ := rest_set (W := W1) (base := base) (ok := ok) (vw0 := vw) (vw := .slice none 0 0) (xs := []) T1 T2 hmap (Kd.R_nil _ _ _ _ _) T5 2 (.slice none 0 0)
      have q1 := T1.set 2 (.slice none 0 0)
      rw [dcells_waits] at q1
      have HF := Aside0.mk (show DiskTo w (W1.setCell ⟨g, 2, none⟩ (.slice none 0 0)) base ok g { s with stays := lay s.stays L, waits := [] } from
        DiskTo.trans (hb1.trans hset.1) (hk1.then_ hset.2 (fun k hk => .inl hk)) (fun k hk => .inl hk) (DiskTo.same ⟨gs, m, .slice none 0 0, pp, q1, q2, q3, q4, q5, HO.out, HBS.out, HG.out.1, HG.out.2.1, lay_len HG.out.2.2.1 L HL.out, fun p hp => by simp at hp⟩))
      have K2 : W1.cell? ⟨g, 2, none⟩ = some vw := T1.cell rfl
      have z2 := T1.free 2
      clear hmap hgr hsz hgm hgsm T1 T2 T5 hb1 hk1 hset q1 q2 q3 q4 q5 R1 R2 R3 R5 R6 RB
      go_wp2_with fail
      go_end0
      exact ⟨rfl, HF.out⟩
end Go.Proofs.Ythnjkmjcacoajaa.Dk
end
