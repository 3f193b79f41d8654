/- Blocks of cells that hold a whole array: small laws. No condition. -/
import Derived.Test.YtijhhnclhgfnlaaProg
import Derived.Below
import Derived.WalkKit
import Derived.Laws.Rows
import Derived.Test.YtijhhnclhgfnlaaWWords
namespace Go.Proofs.Ytijhhnclhgfnlaa.Arr
open Go.RowKit Go.Proofs.YtijhhnclhgfnlaaW.PrintWords
set_option linter.unusedVariables false
set_option linter.unusedSimpArgs false
/-- the world: the block holds this row -/
def HoldsRow (w : World) (b : Nat) (t : TypeId) (cs : Array Value) : Prop := w.heap[b]? = some (.cells cs t (0, 0))
theorem HoldsRow.cell {w : World} {b : Nat} {t : TypeId} {cs : Array Value} (h : HoldsRow w b t cs) {j : Nat} {v : Value} (hv : cs[j]? = some v) : w.cell? ⟨b, j, none⟩ = some v := by
  rw [cell_of_row w b j cs t (0, 0) h]; exact hv
theorem HoldsRow.free {w : World} {b : Nat} {t : TypeId} {cs : Array Value} (h : HoldsRow w b t cs) (j : Nat) : w.frozen? ⟨b, j, none⟩ = false := frozen_of_row w b j cs t h
theorem HoldsRow.set {w : World} {b : Nat} {t : TypeId} {cs : Array Value} (h : HoldsRow w b t cs) (j : Nat) (v : Value) : HoldsRow (w.setCell ⟨b, j, none⟩ v) b t (cs.setIfInBounds j v) := heap_setCell_same w b j cs t v h
theorem HoldsRow.below {w w' : World} {b B : Nat} {t : TypeId} {cs : Array Value} (h : HoldsRow w b t cs) (hb : Below B w w') (hlt : b < B) : HoldsRow w' b t cs := (hb.block b hlt).trans h
theorem HoldsRow.lt {w : World} {b : Nat} {t : TypeId} {cs : Array Value} (h : HoldsRow w b t cs) : b < w.heap.size := by
  unfold HoldsRow at h
  exact (Array.getElem?_eq_some_iff.1 h).1

theorem HoldsRow.new (w : World) (t : TypeId) (cs : Array Value) : HoldsRow (w.alloc (.cells cs t)) w.heap.size t cs := heap_alloc_new _ _
theorem HoldsRow.row {w : World} {b : Nat} {t : TypeId} {cs : Array Value} (h : HoldsRow w b t cs) (cs' : Array Value) : HoldsRow (w.setRow b cs') b t cs' := by
  unfold HoldsRow at *
  exact setRow_heap w b cs cs' t (0, 0) h
theorem below_setRow {B b : Nat} {w w' : World} (h : Below B w w') (cs : Array Value) (hb : B ≤ b) : Below B w (w'.setRow b cs) :=
  ⟨h.os, h.tape, h.output, by simpa using h.size, fun i hi => (setRow_other w' b i cs (by omega)).trans (h.block i hi)⟩
theorem HoldsRow.row_other {w : World} {b b' : Nat} {t : TypeId} {cs : Array Value} (h : HoldsRow w b t cs) (cs' : Array Value) (hne : b ≠ b') : HoldsRow (w.setRow b' cs') b t cs := by
  unfold HoldsRow at *
  rw [setRow_other w b' b cs' (by omega)]
  exact h
theorem HoldsRow.alloc {w : World} {b : Nat} {t : TypeId} {cs : Array Value} (h : HoldsRow w b t cs) (o : Obj) : HoldsRow (w.alloc o) b t cs := (Go.heap_alloc_old w o h.lt).trans h
theorem HoldsRow.drewN {w : World} {b : Nat} {t : TypeId} {cs : Array Value} (h : HoldsRow w b t cs) (n : Nat) : HoldsRow (w.drewN n) b t cs := h
theorem HoldsRow.set_other {w : World} {b : Nat} {t : TypeId} {cs : Array Value} (h : HoldsRow w b t cs) (a : Addr) (v : Value) (hne : b ≠ a.block) : HoldsRow (w.setCell a v) b t cs := (heap_setCell_other w a b v hne).trans h
/-- a load of a whole row, as one operation -/
theorem exec_load_row {P : Program} {o : Oper} {a : Act} {w : World} (ty : TypeId) (x : Operand) (ho : o.op = .load ty x) (g : Nat) (hx : a.eval x = .pointer (some ⟨g, 0, none⟩)) (t : TypeId) (cs : Array Value) (d : TypeDesc)
    (hg : HoldsRow w g t cs) (hu : P.underlying ty = some d) (hd : (match d with | .struct _ | .array _ _ => true | _ => false) = true) (hi : (P.info? ty).map (·.size) = some cs.size) :
    (execOp a.eval o).run P w = .ok (.value (.agg cs)) w := by
  unfold execOp
  simp only [ho, hx, Instr.loadAt, Instr.sureAddr, Sem.run_bind, Sem.run_pure, Result.andThen_ok, run_loadVar_row w g t ty cs (0, 0) d hg hu hd hi]
end Go.Proofs.Ytijhhnclhgfnlaa.Arr
