/- '==' of two edges and of two cells: of their bytes. Condition: bytes are bytes. -/
import Derived.DeepKeys
import Derived.Lib.SliceRun
import Derived.Test.YtfkndnocjelhgaaCells
namespace Go.Proofs.Ytfkndnocjelhgaa.Ext
open Go Go.RowKit Go.Proofs.YtfkndnocjelhgaaW.PrintWords Go.Proofs.YtfkndnocjelhgaaW.PrintLast Go.Proofs.YtfkndnocjelhgaaW.PrintMore Go.Proofs.Ytfkndnocjelhgaa.Base Go.Proofs.Ytfkndnocjelhgaa.Arr
set_option linter.unusedVariables false
set_option linter.unusedSimpArgs false

theorem mapM_range {β : Type} (f : Nat → Option β) (g : List β) : (∀ i x, g[i]? = some x → f i = some x) → (List.range g.length).mapM f = some g := by
  have h : ∀ n, n ≤ g.length → (∀ i x, g[i]? = some x → f i = some x) → (List.range n).mapM f = some (g.take n) := by
    intro n
    induction n with
    | zero => intro _ _; simp
    | succ n ih =>
      intro hn hf
      rw [List.range_succ, List.mapM_append, ih (by omega) hf]
      have hx := hf n _ (List.getElem?_eq_getElem (by omega : n < g.length))
      rw [List.take_add_one, List.getElem?_eq_getElem (by omega : n < g.length)]
      simp [hx]
  intro hf
  have := h g.length (Nat.le_refl _) hf
  rw [List.take_length] at this
  exact this
def litB (x : Int) : Lit := .int .u8 x
theorem litB_inj {l l' : List Int} : l.map litB = l'.map litB ↔ l = l' := by
  constructor
  · intro h
    induction l generalizing l' with
    | nil => cases l' with
      | nil => rfl
      | cons y ys => simp at h
    | cons x xs ih => cases l' with
      | nil => simp at h
      | cons y ys =>
        rw [List.map_cons, List.map_cons, List.cons.injEq] at h
        obtain ⟨h1, h2⟩ := h
        have : x = y := by unfold litB at h1; cases h1; rfl
        rw [this, ih h2]
  · intro h; rw [h]
theorem lit_u8 (D : Nat) (x : Int) (h : 0 ≤ x ∧ x < 256) : Try.prog.keyLits (D + 1) 5 [.int .u8 x] = some [litB x] := by
  have hw : (Lit.int .u8 x).wf = true := by
    simp [Lit.wf, IntKind.min, IntKind.max, IntKind.signed, IntKind.bits]
    omega
  unfold Program.keyLits
  rw [Try.underlying5]
  simp [hw, litB]
theorem cellsOf_u8 : Try.prog.cellsOf 5 = 1 := by kernel_rfl
theorem cellsOf_edge : Try.prog.cellsOf 71 = 8 := by kernel_rfl
theorem cellsOf_data : Try.prog.cellsOf 73 = 47 := by kernel_rfl
theorem cellsOf_cell : Try.prog.cellsOf 75 = 64 := by kernel_rfl
theorem lits_arr (D : Nat) (t : TypeId) (n : Nat) (hu : Try.prog.underlying t = some (.array n 5)) (hc : Try.prog.cellsOf t = n) (l : List Int) (hl : l.length = n) (hb : Bytes l) : Try.prog.keyLits (D + 1 + 1) t (nums .u8 l) = some (l.map litB) := by
  unfold Program.keyLits
  rw [hu]
  simp only [nums_length, hc, hl, if_true, cellsOf_u8]
  have hm : (List.range n).mapM (fun i => Try.prog.keyLits (D + 1) 5 (((nums .u8 l).drop (i * 1)).take 1)) = some (l.map fun x => [litB x]) := by
    have := mapM_range (fun i => Try.prog.keyLits (D + 1) 5 (((nums .u8 l).drop (i * 1)).take 1)) (l.map fun x => [litB x]) (fun i x hx => by
      rw [List.getElem?_map] at hx
      obtain ⟨y, hy, rfl⟩ := Option.map_eq_some_iff.1 hx
      have hlt : i < l.length := (List.getElem?_eq_some_iff.1 hy).1
      have e : ((nums .u8 l).drop (i * 1)).take 1 = [.int .u8 y] := by
        rw [Nat.mul_one, List.drop_eq_getElem_cons (by rw [nums_length]; exact hlt)]
        have : (nums .u8 l)[i]? = some (.int .u8 y) := by unfold nums; rw [List.getElem?_map, hy]; rfl
        rw [List.getElem?_eq_getElem (by rw [nums_length]; exact hlt)] at this
        injection this with this
        rw [this]; rfl
      show Try.prog.keyLits (D + 1) 5 (((nums .u8 l).drop (i * 1)).take 1) = _
      rw [e]
      exact lit_u8 D y (hb y (List.mem_of_getElem? hy)))
    rw [List.length_map, hl] at this
    exact this
  rw [hm]
  show some (l.map fun x => [litB x]).flatten = _
  congr 1
  clear hm hl hb
  induction l with
  | nil => rfl
  | cons x xs ih => rw [List.map_cons, List.flatten_cons, ih]; rfl
theorem lits_cell (l : List Int) (hl : l.length = 64) (hb : Bytes l) : Try.prog.keyLits 3 75 (nums .u8 l) = some ((l.take 8 ++ (l.drop 8).take 1 ++ (l.drop 9).take 47 ++ l.drop 56).map litB) := by
  have h0 : Try.prog.keyLits 2 71 (nums .u8 (l.take 8)) = some ((l.take 8).map litB) := lits_arr 0 _ 8 Try.underlying71 cellsOf_edge _ (by rw [List.length_take]; omega) (hb.take 8)
  have hd : ∀ n, Bytes (l.drop n) := fun n x hx => hb x (List.mem_of_mem_drop hx)
  have h1 : Try.prog.keyLits 2 5 (nums .u8 ((l.drop 8).take 1)) = some (((l.drop 8).take 1).map litB) := by
    rw [List.drop_eq_getElem_cons (by omega : 8 < l.length)]
    show Try.prog.keyLits 2 5 [.int .u8 l[8]] = some [litB l[8]]
    exact lit_u8 1 _ (hb _ (List.getElem_mem _))
  have h2 : Try.prog.keyLits 2 73 (nums .u8 ((l.drop 9).take 47)) = some (((l.drop 9).take 47).map litB) := lits_arr 0 _ 47 Try.underlying73 cellsOf_data _ (by rw [List.length_take, List.length_drop]; omega) (Bytes.take (hd 9) 47)
  have h3 : Try.prog.keyLits 2 71 (nums .u8 (l.drop 56)) = some ((l.drop 56).map litB) := lits_arr 0 _ 8 Try.underlying71 cellsOf_edge _ (by rw [List.length_drop]; omega) (hd 56)
  have e : ∀ a n : Nat, ((nums .u8 l).drop a).take n = nums .u8 ((l.drop a).take n) := fun a n => by unfold nums; rw [List.map_take, List.map_drop]
  unfold Program.keyLits
  rw [Try.underlying75]
  simp only [nums_length, hl, cellsOf_cell]
  rw [if_pos ⟨trivial, by kernel_rfl⟩]
  show Option.map List.flatten (List.mapM _ [_, _, _, _]) = _
  simp only [List.mapM_cons, List.mapM_nil, cellsOf_edge, cellsOf_u8, cellsOf_data, e, List.drop_zero, h0, h1, h2]
  rw [List.take_of_length_le (by rw [List.length_drop]; omega : (l.drop 56).length ≤ 8), h3]
  simp
theorem edge_eq (l l' : List Int) (hl : l.length = 8) (hl' : l'.length = 8) (hb : Bytes l) (hb' : Bytes l') (w : World) : (Op.equalIn 10000 71 (.agg (rowK .u8 l)) (.agg (rowK .u8 l'))).run Try.prog w = .ok (decide (l = l')) w := by
  have hf : ∀ q : List Int, q.length = 8 → (Value.agg (rowK .u8 q)).formed Try.prog 71 = true := fun q hq => by
    simp [Value.formed, Try.underlying71, cellsOf_edge, rowK_size, hq]
  obtain ⟨r, h1, h2⟩ := run_equalIn_deep (P := Try.prog) 9998 2 71 (by kernel_rfl) w 2 2 (.agg (rowK .u8 l)) (.agg (rowK .u8 l')) (l.map litB) (l'.map litB) (hf l hl) (hf l' hl') (lits_arr 0 _ 8 Try.underlying71 cellsOf_edge l hl hb) (lits_arr 0 _ 8 Try.underlying71 cellsOf_edge l' hl' hb')
  rw [h1]
  rw [litB_inj] at h2
  congr 1
  by_cases h : l = l'
  · rw [decide_eq_true h, h2.2 h]
  · rw [decide_eq_false h]
    cases r with
    | false => rfl
    | true => exact absurd (h2.1 rfl) h
theorem cell_eq (l l' : List Int) (hl : l.length = 64) (hl' : l'.length = 64) (hb : Bytes l) (hb' : Bytes l') (w : World) : (Op.equalIn 10000 75 (.agg (rowK .u8 l)) (.agg (rowK .u8 l'))).run Try.prog w = .ok (decide (l = l')) w := by
  have hf : ∀ q : List Int, q.length = 64 → (Value.agg (rowK .u8 q)).formed Try.prog 75 = true := fun q hq => by
    simp [Value.formed, Try.underlying75, cellsOf_cell, rowK_size, hq]
  have hj : ∀ q : List Int, q.length = 64 → q.take 8 ++ (q.drop 8).take 1 ++ (q.drop 9).take 47 ++ q.drop 56 = q := fun q hq => by
    have e1 : q.drop 8 = (q.drop 8).take 1 ++ q.drop 9 := by
      rw [show q.drop 9 = (q.drop 8).drop 1 by rw [List.drop_drop]]; exact (List.take_append_drop 1 _).symm
    have e2 : q.drop 9 = (q.drop 9).take 47 ++ q.drop 56 := by
      rw [show q.drop 56 = (q.drop 9).drop 47 by rw [List.drop_drop]]; exact (List.take_append_drop 47 _).symm
    rw [List.append_assoc, ← e2, List.append_assoc, ← e1, List.take_append_drop]
  have hc : ∀ q : List Int, q.length = 64 → Bytes q → Try.prog.keyLits 3 75 (nums .u8 q) = some (q.map litB) := fun q hq hbq => by rw [lits_cell q hq hbq, hj q hq]
  obtain ⟨r, h1, h2⟩ := run_equalIn_deep (P := Try.prog) 9997 3 75 (by kernel_rfl) w 3 3 (.agg (rowK .u8 l)) (.agg (rowK .u8 l')) (l.map litB) (l'.map litB) (hf l hl) (hf l' hl') (hc l hl hb) (hc l' hl' hb')
  rw [h1]
  rw [litB_inj] at h2
  congr 1
  by_cases h : l = l'
  · rw [decide_eq_true h, h2.2 h]
  · rw [decide_eq_false h]
    cases r with
    | false => rfl
    | true => exact absurd (h2.1 rfl) h
end Go.Proofs.Ytfkndnocjelhgaa.Ext
