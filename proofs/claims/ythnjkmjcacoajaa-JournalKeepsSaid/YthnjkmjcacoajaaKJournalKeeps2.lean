import Derived.Test.YthnjkmjcacoajaaProg
import Derived.Below
import Derived.WalkKit
import Derived.Laws.Rows
import Derived.Test.YthnjkmjcacoajaaKJournalKeeps1
/- Blocks of cells that hold a whole array: small laws. No condition. -/
namespace Go.Proofs.Ythnjkmjcacoajaa.Arr
open Go.RowKit Go.Proofs.YthnjkmjcacoajaaW.PrintWords
set_option linter.unusedVariables false
set_option linter.unusedSimpArgs false
/-- the world: the block holds this row -/
def HoldsRow (w : World) (b : Nat) (t : TypeId) (cs : Array Value) : Prop := w.heap[b]? = some (.cells cs t (0, 0))
theorem HoldsRow.cell {w : World} {b : Nat} {t : TypeId} {cs : Array Value} (h : HoldsRow w b t cs) {j : Nat} {v : Value} (hv : cs[j]? = some v) : w.cell? ⟨b, j, none⟩ = some v := by
  rw [cell_of_row w b j cs t (0, 0) h]; exact hv
theorem HoldsRow.free {w : World} {b : Nat} {t : TypeId} {cs : Array Value} (h : HoldsRow w b t cs) (j : Nat) : w.frozen? ⟨b, j, none⟩ = false := frozen_of_row w b j cs t h
theorem HoldsRow.set {w : World} {b : Nat} {t : TypeId} {cs : Array Value} (h : HoldsRow w b t cs) (j : Nat) (v : Value) : HoldsRow (w.setCell ⟨b, j, none⟩ v) b t (cs.setIfInBounds j v) := heap_setCell_same w b j cs t v h
theorem HoldsRow.below {w w' : World} {b B : Nat} {t : TypeId} {cs : Array Value} (h : HoldsRow w b t cs) (hb : Below B w w') (hlt : b < B) : HoldsRow w' b t cs := (hb.block b hlt).trans h
theorem HoldsRow.lt {w : World} {b : Nat} {t : TypeId} {cs : Array Value} (h : HoldsRow w b t cs) : b < w.heap.size := by
  unfold HoldsRow at h
  exact (Array.getElem?_eq_some_iff.1 h).1

theorem HoldsRow.new (w : World) (t : TypeId) (cs : Array Value) : HoldsRow (w.alloc (.cells cs t)) w.heap.size t cs := heap_alloc_new _ _
theorem HoldsRow.row {w : World} {b : Nat} {t : TypeId} {cs : Array Value} (h : HoldsRow w b t cs) (cs' : Array Value) : HoldsRow (w.setRow b cs') b t cs' := by
  unfold HoldsRow at *
  exact setRow_heap w b cs cs' t (0, 0) h
theorem below_setRow {B b : Nat} {w w' : World} (h : Below B w w') (cs : Array Value) (hb : B ≤ b) : Below B w (w'.setRow b cs) :=
  ⟨h.os, h.tape, h.output, by simpa using h.size, fun i hi => (setRow_other w' b i cs (by omega)).trans (h.block i hi)⟩
theorem HoldsRow.row_other {w : World} {b b' : Nat} {t : TypeId} {cs : Array Value} (h : HoldsRow w b t cs) (cs' : Array Value) (hne : b ≠ b') : HoldsRow (w.setRow b' cs') b t cs := by
  unfold HoldsRow at *
  rw [setRow_other w b' b cs' (by omega)]
  exact h
theorem HoldsRow.alloc {w : World} {b : Nat} {t : TypeId} {cs : Array Value} (h : HoldsRow w b t cs) (o : Obj) : HoldsRow (w.alloc o) b t cs := (Go.heap_alloc_old w o h.lt).trans h
theorem HoldsRow.drewN {w : World} {b : Nat} {t : TypeId} {cs : Array Value} (h : HoldsRow w b t cs) (n : Nat) : HoldsRow (w.drewN n) b t cs := h
theorem HoldsRow.set_other {w : World} {b : Nat} {t : TypeId} {cs : Array Value} (h : HoldsRow w b t cs) (a : Addr) (v : Value) (hne : b ≠ a.block) : HoldsRow (w.setCell a v) b t cs := (heap_setCell_other w a b v hne).trans h
/-- a load of a whole row, as one operation -/
theorem exec_load_row {P : Program} {o : Oper} {a : Act} {w : World} (ty : TypeId) (x : Operand) (ho : o.op = .load ty x) (g : Nat) (hx : a.eval x = .pointer (some ⟨g, 0, none⟩)) (t : TypeId) (cs : Array Value) (d : TypeDesc)
    (hg : HoldsRow w g t cs) (hu : P.underlying ty = some d) (hd : (match d with | .struct _ | .array _ _ => true | _ => false) = true) (hi : (P.info? ty).map (·.size) = some cs.size) :
    (execOp a.eval o).run P w = .ok (.value (.agg cs)) w := by
  unfold execOp
  simp only [ho, hx, Instr.loadAt, Instr.sureAddr, Sem.run_bind, Sem.run_pure, Result.andThen_ok, run_loadVar_row w g t ty cs (0, 0) d hg hu hd hi]
/-- a row of whole numbers of one kind -/
def rowK (k : IntKind) (L : List Int) : Array Value := (nums k L).toArray
theorem rowK_size (k : IntKind) (L : List Int) : (rowK k L).size = L.length := by simp [rowK, nums]
theorem rowK_get (k : IntKind) (L : List Int) (i : Nat) (h : i < L.length) : (rowK k L)[i]? = some (.int k (rd L i)) := by simp [rowK, nums, rd, h]
theorem rowK_set (k : IntKind) (L : List Int) (i : Nat) (v : Int) : (rowK k L).setIfInBounds i (.int k v) = rowK k (L.set i v) := by
  simp [rowK, nums, List.map_set]
theorem rowK_one (k : IntKind) (L : List Int) : (rowK k L).all (·.oneCell') = true := by
  rw [Array.all_eq_true_iff_forall_mem]
  intro x hx
  simp [rowK, nums] at hx
  obtain ⟨y, _, rfl⟩ := hx
  rfl
theorem rowK_made (k : IntKind) (m : Nat) : madeCells #[.int k 0] m = rowK k (List.replicate m 0) := by
  apply Array.ext
  · simp [rowK, nums, madeCells]
  · intro i h1 h2
    simp [rowK, nums, madeCells, Nat.mod_one]
/-- a whole row is owned by the slice over it -/
theorem HoldsRow.own {w : World} {b base : Nat} {e : TypeId} {k : IntKind} {L : List Int} (h : HoldsRow w b e (rowK k L)) (hb : base ≤ b) (hm : L.length ≤ 9223372036854775807) :
    Kd.R (Kd.int k) e w base (fun _ => True) (.slice (some ⟨b, 0, none⟩) L.length L.length) L := by
  refine Kd.R_of_own (w := w) (base := base) ?_ (fun _ _ => trivial)
  refine ⟨by simp [encs], .inr ⟨b, L.length, rowK k L, rfl, hb, h, Nat.le_refl _, by simpa [maxLen] using hm, by simp [rowK, nums], ?_⟩⟩
  simp only [Nat.mul_one]
  rw [List.take_of_length_le (by simp [rowK, nums])]
  simp [rowK, nums, encs]
/-- a row that is read, from its element m on -/
theorem C_drop {w : World} {k : IntKind} {ad : Addr} {l : List Int} (h : Kd.C (Kd.int k) w (some ad) l.length l) (m : Nat) : Kd.C (Kd.int k) w (some (ad.add m)) (l.drop m).length (l.drop m) := by
  refine Kd.C_of_reads (d := (0 : Int)) (h1 := fun _ => rfl) ?_
  have hm := Kd.C_max h
  refine ⟨rfl, by simp; omega, fun _ => ⟨_, rfl, fun j hj => ?_⟩⟩
  simp only [List.length_drop] at hj
  obtain ⟨ad', e, hc⟩ := Kd.at_int h ((m + j : Nat) : Int) (by omega) (by omega)
  cases e
  rw [Int.toNat_natCast] at hc
  rw [Addr.add_add]
  rw [hc]
  unfold rd
  rw [Int.toNat_natCast]
  simp [List.getD_eq_getElem?_getD]
theorem C_take {w : World} {k : IntKind} {ad : Addr} {l : List Int} (h : Kd.C (Kd.int k) w (some ad) l.length l) (m : Nat) : Kd.C (Kd.int k) w (some ad) (l.take m).length (l.take m) := by
  refine Kd.C_of_reads (d := (0 : Int)) (h1 := fun _ => rfl) ?_
  have hm := Kd.C_max h
  refine ⟨rfl, by simp; omega, fun _ => ⟨_, rfl, fun j hj => ?_⟩⟩
  simp only [List.length_take] at hj
  obtain ⟨ad', e, hc⟩ := Kd.at_int h (j : Int) (by omega) (by omega)
  cases e
  rw [Int.toNat_natCast] at hc
  rw [hc]
  simp [rd, List.getD_eq_getElem?_getD, List.getElem?_take, show j < m by omega]
theorem C_empty {w : World} {k : IntKind} (A : Option Addr) : Kd.C (Kd.int k) w A ([] : List Int).length [] :=
  Kd.C_of_reads (d := (0 : Int)) (h1 := fun _ => rfl) ⟨rfl, by simp, fun h => absurd h (by simp)⟩
end Go.Proofs.Ythnjkmjcacoajaa.Arr

