import Derived.DeepKeys
import Derived.Lib.SliceRun
import Derived.Test.YthnjkmjcacoajaaKJournalKeeps24
section
/- '==' of two edges and of two cells: of their bytes. Condition: bytes are bytes. -/
namespace Go.Proofs.Ythnjkmjcacoajaa.Ext
open Go Go.RowKit Go.Proofs.YthnjkmjcacoajaaW.PrintWords Go.Proofs.YthnjkmjcacoajaaW.PrintLast Go.Proofs.YthnjkmjcacoajaaW.PrintMore Go.Proofs.Ythnjkmjcacoajaa.Base Go.Proofs.Ythnjkmjcacoajaa.Arr
set_option linter.unusedVariables false
set_option maxRecDepth 10000
set_option linter.unusedSimpArgs false

theorem mapM_range {β : Type} (f : Nat → Option β) (g : List β) : (∀ i x, g[i]? = some x → f i = some x) → (List.range g.length).mapM f = some g := by
  have h : ∀ n, n ≤ g.length → (∀ i x, g[i]? = some x → f i = some x) → (List.range n).mapM f = some (g.take n) := by
    intro n
    induction n with
    | zero => intro _ _; simp
    | succ n ih =>
      intro hn hf
      rw [List.range_succ, List.mapM_append, ih (by omega) hf]
      have hx := hf n _ (List.getElem?_eq_getElem (by omega : n < g.length))
      rw [List.take_add_one, List.getElem?_eq_getElem (by omega : n < g.length)]
      simp [hx]
  intro hf
  have := h g.length (Nat.le_refl _) hf
  rw [List.take_length] at this
  exact this
def litB (x : Int) : Lit := .int .u8 x
theorem litB_inj {l l' : List Int} : l.map litB = l'.map litB ↔ l = l' := by
  constructor
  · intro h
    induction l generalizing l' with
    | nil => cases l' with
      | nil => rfl
      | cons y ys => simp at h
    | cons x xs ih => cases l' with
      | nil => simp at h
      | cons y ys =>
        rw [List.map_cons, List.map_cons, List.cons.injEq] at h
        obtain ⟨h1, h2⟩ := h
        have : x = y := by unfold litB at h1; cases h1; rfl
        rw [this, ih h2]
  · intro h; rw [h]
theorem lit_u8 (D : Nat) (x : Int) (h : 0 ≤ x ∧ x < 256) : Try.prog.keyLits (D + 1) 5 [.int .u8 x] = some [litB x] := by
  have hw : (Lit.int .u8 x).wf = true := by
    simp [Lit.wf, IntKind.min, IntKind.max, IntKind.signed, IntKind.bits]
    omega
  unfold Program.keyLits
  rw [Try.underlying5]
  simp [hw, litB]
theorem cellsOf_u8 : Try.prog.cellsOf 5 = 1 := by kernel_rfl
theorem cellsOf_edge : Try.prog.cellsOf 74 = 8 := by kernel_rfl
theorem cellsOf_data : Try.prog.cellsOf 76 = 47 := by kernel_rfl
theorem cellsOf_cell : Try.prog.cellsOf 78 = 64 := by kernel_rfl
theorem lits_arr (D : Nat) (t : TypeId) (n : Nat) (hu : Try.prog.underlying t = some (.array n 5)) (hc : Try.prog.cellsOf t = n) (l : List Int) (hl : l.length = n) (hb : Bytes l) : Try.prog.keyLits (D + 1 + 1) t (nums .u8 l) = some (l.map litB) := by
  unfold Program.keyLits
  rw [hu]
  simp only [nums_length, hc, hl, if_true, cellsOf_u8]
  have hm : (List.range n).mapM (fun i => Try.prog.keyLits (D + 1) 5 (((nums .u8 l).drop (i * 1)).take 1)) = some (l.map fun x => [litB x]) := by
    have := mapM_range (fun i => Try.prog.keyLits (D + 1) 5 (((nums .u8 l).drop (i * 1)).take 1)) (l.map fun x => [litB x]) (fun i x hx => by
      rw [List.getElem?_map] at hx
      obtain ⟨y, hy, rfl⟩ := Option.map_eq_some_iff.1 hx
      have hlt : i < l.length := (List.getElem?_eq_some_iff.1 hy).1
      have e : ((nums .u8 l).drop (i * 1)).take 1 = [.int .u8 y] := by
        rw [Nat.mul_one, List.drop_eq_getElem_cons (by rw [nums_length]; exact hlt)]
        have : (nums .u8 l)[i]? = some (.int .u8 y) := by unfold nums; rw [List.getElem?_map, hy]; rfl
        rw [List.getElem?_eq_getElem (by rw [nums_length]; exact hlt)] at this
        injection this with this
        rw [this]; rfl
      show Try.prog.keyLits (D + 1) 5 (((nums .u8 l).drop (i * 1)).take 1) = _
      rw [e]
      exact lit_u8 D y (hb y (List.mem_of_getElem? hy)))
    rw [List.length_map, hl] at this
    exact this
  rw [hm]
  show some (l.map fun x => [litB x]).flatten = _
  congr 1
  clear hm hl hb
  induction l with
  | nil => rfl
  | cons x xs ih => rw [List.map_cons, List.flatten_cons, ih]; rfl
theorem lits_cell (l : List Int) (hl : l.length = 64) (hb : Bytes l) : Try.prog.keyLits 3 78 (nums .u8 l) = some ((l.take 8 ++ (l.drop 8).take 1 ++ (l.drop 9).take 47 ++ l.drop 56).map litB) := by
  have h0 : Try.prog.keyLits 2 74 (nums .u8 (l.take 8)) = some ((l.take 8).map litB) := lits_arr 0 _ 8 Try.underlying74 cellsOf_edge _ (by rw [List.length_take]; omega) (hb.take 8)
  have hd : ∀ n, Bytes (l.drop n) := fun n x hx => hb x (List.mem_of_mem_drop hx)
  have h1 : Try.prog.keyLits 2 5 (nums .u8 ((l.drop 8).take 1)) = some (((l.drop 8).take 1).map litB) := by
    rw [List.drop_eq_getElem_cons (by omega : 8 < l.length)]
    show Try.prog.keyLits 2 5 [.int .u8 l[8]] = some [litB l[8]]
    exact lit_u8 1 _ (hb _ (List.getElem_mem _))
  have h2 : Try.prog.keyLits 2 76 (nums .u8 ((l.drop 9).take 47)) = some (((l.drop 9).take 47).map litB) := lits_arr 0 _ 47 Try.underlying76 cellsOf_data _ (by rw [List.length_take, List.length_drop]; omega) (Bytes.take (hd 9) 47)
  have h3 : Try.prog.keyLits 2 74 (nums .u8 (l.drop 56)) = some ((l.drop 56).map litB) := lits_arr 0 _ 8 Try.underlying74 cellsOf_edge _ (by rw [List.length_drop]; omega) (hd 56)
  have e : ∀ a n : Nat, ((nums .u8 l).drop a).take n = nums .u8 ((l.drop a).take n) := fun a n => by unfold nums; rw [List.map_take, List.map_drop]
  unfold Program.keyLits
  rw [Try.underlying78]
  simp only [nums_length, hl, cellsOf_cell]
  rw [if_pos ⟨trivial, by kernel_rfl⟩]
  show Option.map List.flatten (List.mapM _ [_, _, _, _]) = _
  simp only [List.mapM_cons, List.mapM_nil, cellsOf_edge, cellsOf_u8, cellsOf_data, e, List.drop_zero, h0, h1, h2]
  rw [List.take_of_length_le (by rw [List.length_drop]; omega : (l.drop 56).length ≤ 8), h3]
  simp
theorem edge_eq (l l' : List Int) (hl : l.length = 8) (hl' : l'.length = 8) (hb : Bytes l) (hb' : Bytes l') (w : World) : (Op.equalIn 10000 74 (.agg (rowK .u8 l)) (.agg (rowK .u8 l'))).run Try.prog w = .ok (decide (l = l')) w := by
  have hf : ∀ q : List Int, q.length = 8 → (Value.agg (rowK .u8 q)).formed Try.prog 74 = true := fun q hq => by
    simp [Value.formed, Try.underlying74, cellsOf_edge, rowK_size, hq]
  obtain ⟨r, h1, h2⟩ := run_equalIn_deep (P := Try.prog) 9998 2 74 (by kernel_rfl) w 2 2 (.agg (rowK .u8 l)) (.agg (rowK .u8 l')) (l.map litB) (l'.map litB) (hf l hl) (hf l' hl') (lits_arr 0 _ 8 Try.underlying74 cellsOf_edge l hl hb) (lits_arr 0 _ 8 Try.underlying74 cellsOf_edge l' hl' hb')
  rw [h1]
  rw [litB_inj] at h2
  congr 1
  by_cases h : l = l'
  · rw [decide_eq_true h, h2.2 h]
  · rw [decide_eq_false h]
    cases r with
    | false => rfl
    | true => exact absurd (h2.1 rfl) h
theorem cell_eq (l l' : List Int) (hl : l.length = 64) (hl' : l'.length = 64) (hb : Bytes l) (hb' : Bytes l') (w : World) : (Op.equalIn 10000 78 (.agg (rowK .u8 l)) (.agg (rowK .u8 l'))).run Try.prog w = .ok (decide (l = l')) w := by
  have hf : ∀ q : List Int, q.length = 64 → (Value.agg (rowK .u8 q)).formed Try.prog 78 = true := fun q hq => by
    simp [Value.formed, Try.underlying78, cellsOf_cell, rowK_size, hq]
  have hj : ∀ q : List Int, q.length = 64 → q.take 8 ++ (q.drop 8).take 1 ++ (q.drop 9).take 47 ++ q.drop 56 = q := fun q hq => by
    have e1 : q.drop 8 = (q.drop 8).take 1 ++ q.drop 9 := by
      rw [show q.drop 9 = (q.drop 8).drop 1 by rw [List.drop_drop]]; exact (List.take_append_drop 1 _).symm
    have e2 : q.drop 9 = (q.drop 9).take 47 ++ q.drop 56 := by
      rw [show q.drop 56 = (q.drop 9).drop 47 by rw [List.drop_drop]]; exact (List.take_append_drop 47 _).symm
    rw [List.append_assoc, ← e2, List.append_assoc, ← e1, List.take_append_drop]
  have hc : ∀ q : List Int, q.length = 64 → Bytes q → Try.prog.keyLits 3 78 (nums .u8 q) = some (q.map litB) := fun q hq hbq => by rw [lits_cell q hq hbq, hj q hq]
  obtain ⟨r, h1, h2⟩ := run_equalIn_deep (P := Try.prog) 9997 3 78 (by kernel_rfl) w 3 3 (.agg (rowK .u8 l)) (.agg (rowK .u8 l')) (l.map litB) (l'.map litB) (hf l hl) (hf l' hl') (hc l hl hb) (hc l' hl' hb')
  rw [h1]
  rw [litB_inj] at h2
  congr 1
  by_cases h : l = l'
  · rw [decide_eq_true h, h2.2 h]
  · rw [decide_eq_false h]
    cases r with
    | false => rfl
    | true => exact absurd (h2.1 rfl) h
end Go.Proofs.Ythnjkmjcacoajaa.Ext
end

section
/- strip.Read, walked. Condition: bytes are bytes. -/
namespace Go.Proofs.Ythnjkmjcacoajaa.Ext
open Go Go.RowKit Go.Proofs.YthnjkmjcacoajaaW.PrintWords Go.Proofs.YthnjkmjcacoajaaW.PrintLast Go.Proofs.YthnjkmjcacoajaaW.PrintMore Go.Proofs.Ythnjkmjcacoajaa.Base Go.Proofs.Ythnjkmjcacoajaa.Arr
set_option linter.unusedVariables false
set_option maxRecDepth 10000
set_option linter.unusedSimpArgs false

theorem results_cell4 {fn : Func} {p q r s : Tmp} {ty : TypeId} (h : fn.results = #[.cell p ty, .tmp q, .tmp r, .tmp s]) (tmps : Array Value) (w : World) (g : Nat) (cs : Array Value)
    (hp : tmps.getD p undef = .pointer (some ⟨g, 0, none⟩)) (hv : (loadVar ty ⟨g, 0, none⟩).run Try.prog w = .ok (.agg cs) w) :
    (results fn tmps).run Try.prog w = .ok (.tuple #[.agg cs, tmps.getD q undef, tmps.getD r undef, tmps.getD s undef]) w := by
  have hp' : tmps[p]?.getD undef = .pointer (some ⟨g, 0, none⟩) := by simpa using hp
  simp [results, h, hp', asAddr, hv]
theorem wpList_clear_mid {P : Program} {W : World} {ops : Array Oper} {rest : List Oper} {o : Oper} {a : Act} {Q : Exit → Act → World → Prop} (hgd : o.guard = none) (x : Operand) (T E : TypeId)
    (ho : o.op = .call { callee := .builtin .clear, args := #[x], argTypes := #[T] }) (hT : P.underlying T = some (.slice E)) (z : Value) (hv : ∀ w, (zeroValue E).run P w = .ok z w) (hz : z.cells = #[z]) (h1 : z.oneCell' = true) (b q n c : Nat) (hx : a.eval x = .slice (some ⟨b, q, none⟩) n c)
    (t : TypeId) (cs : Array Value) (h : HoldsRow W b t cs) (hq : q + n ≤ cs.size)
    (k : wpList P ops Q rest (a.put o.dst (.tuple #[])) (W.setCells b q (List.replicate n z))) : wpList P ops Q (o :: rest) a W := by
  refine wpList_plain hgd fun _ hK => ?_
  unfold Oper.wp execOp
  by_cases hn : n = 0
  · subst hn
    have hrun : (Builtin.clear_ #[T] o.type #[.slice (some ⟨b, q, none⟩) 0 c]).run P W = .ok (.tuple #[]) W := by simp [Builtin.clear_, run_underlying hT]
    simp only [ho, resolve, invoke, builtin, Sem.run_bind, Sem.run_pure, Result.andThen_ok, List.map_toArray, List.map_cons, List.map_nil, hx, hrun]
    exact hK _ _ k
  · have hrun := Go.Lib.run_clear_slice (P := P) W T E o.type z hT hv hz h1 b q n c (by omega) (fun j hj => (there_row h q n hq j hj).1) (fun j hj => (there_row h q n hq j hj).2)
    simp only [ho, resolve, invoke, builtin, Sem.run_bind, Sem.run_pure, Result.andThen_ok, List.map_toArray, List.map_cons, List.map_nil, hx, hrun]
    exact hK _ _ k
/-- the length that a cell's head tells -/
def headN (b : List Int) : Nat := (rd b 8).toNat % 128
theorem andNot128 : ∀ n : Nat, n < 256 → bits .andNot .u8 (n : Int) 128 = ((n % 128 : Nat) : Int) := by decide +kernel
theorem and128 : ∀ n : Nat, n < 256 → (bits .and .u8 (n : Int) 128 != 0) = decide (128 ≤ n) := by decide +kernel
set_option maxHeartbeats 4000000 in
set_option maxRecDepth 100000 in
theorem Read_none (w : World) (A : Option Addr) (c : Nat) (n : Nat) (hn : n ≠ 64) (hm : n ≤ 9223372036854775807) :
    Calls Try.prog 57 #[.slice A n c] w fun e w' => e = .returned (.tuple #[.agg s00, .bool false, .slice none 0 0, .int .i64 2]) ∧ Below w.heap.size w w' := by
  have hz := zero_cell
  have HNM := Aside0.mk (show n ≠ 64 ∧ n ≤ 9223372036854775807 from ⟨hn, hm⟩)
  have hsz : (rowK .u8 z64).size = 64 := by rw [rowK_size, z64_len]
  clear hn hm
  go_enter Try.func57, Try.ntmps57
  go_wp2_with fail
  obtain ⟨W1, hW1⟩ : ∃ W1, W1 = w.alloc (.cells #[.int .i64 0, .int .i64 0] 44) := ⟨_, rfl⟩
  have P1 := Aside0.mk (show HoldsRow W1 w.heap.size 44 s00 by rw [hW1]; exact HoldsRow.new _ _ _)
  have B1 := Aside0.mk (show Below w.heap.size w W1 by rw [hW1]; exact below_alloc (Below.refl _ _) _)
  rw [← hW1]
  clear hW1
  ((with_reducible refine (parts_none W1 A c n HNM.out.1 HNM.out.2).mono ?_))
  rintro e w2 ⟨rfl, hb⟩
  have P2 := Aside0.mk (P1.out.below hb P1.out.lt)
  have B2 := Aside0.mk (B1.out.trans (hb.mono B1.out.size))
  have HNEW := Aside0.mk (HoldsRow.new w2 78 (rowK .u8 z64))
  obtain ⟨W3, hW3⟩ : ∃ W3, W3 = (w2.alloc (.cells (rowK .u8 z64) 78)).setRow w2.heap.size (rowK .u8 z64) := ⟨_, rfl⟩
  have hb3 : Below w2.heap.size w2 W3 := by rw [hW3]; exact Go.Proofs.Ythnjkmjcacoajaa.Arr.below_setRow (below_alloc (Below.refl w2.heap.size w2) (.cells (rowK .u8 z64) 78)) _ (Nat.le_refl _)
  have P3 := Aside0.mk (P2.out.below hb3 P2.out.lt)
  have B3 := Aside0.mk (B2.out.trans (hb3.mono B2.out.size))
  have HW3 := Aside0.mk hW3
  clear hb P1 B1 P2 B2 hb3 hW3
  go_wp2_with (first | (refine wpList_store_row rfl 78 _ _ rfl w2.heap.size (rowK .u8 z64) rfl rfl 78 (rowK .u8 z64) HNEW.out (by rw [hsz]; kernel_rfl) rfl (rowK_one _ _) ?_; rw [← HW3.out]) | (refine wpList_store_row rfl 44 _ _ rfl w.heap.size s00 rfl rfl 44 s00 P3.out (by kernel_rfl) rfl s00_one ?_))
  exact bodyPost_ret (results_cell4 (p := 2) (q := 3) (r := 4) (s := 5) (ty := 44) rfl _ _ w.heap.size s00 rfl (run_loadVar_row _ w.heap.size 44 44 s00 (0, 0) _ (P3.out.row _) Try.underlying44 rfl (by kernel_rfl))) rfl ⟨rfl, Go.Proofs.Ythnjkmjcacoajaa.Arr.below_setRow B3.out _ (Nat.le_refl _)⟩
/-- the code that a cell answers -/
def backOK (b : List Int) : Prop := b.take 8 = (b.drop 56).reverse
instance (b : List Int) : Decidable (backOK b) := by unfold backOK; infer_instance
def zerosOK (b : List Int) : Prop := splice b (9 + headN b) (List.replicate (47 - headN b) 0) = b
instance (b : List Int) : Decidable (zerosOK b) := by unfold zerosOK; infer_instance
def stampV (b : List Int) : Nat := valN (b.take 8) 8
def readC (b : List Int) : Int := if ¬ backOK b then 3 else if stampV b / 4294967296 = 0 ∨ headN b < 1 ∨ 47 < headN b then 4 else if ¬ zerosOK b then 4 else 0
/-- what a whole cell answers -/
def ReadPost (b : List Int) (w : World) (e : Ending) (w' : World) : Prop :=
  (readC b ≠ 0 → e = .returned (.tuple #[.agg s00, .bool false, .slice none 0 0, .int .i64 (readC b)])) ∧
  (readC b = 0 → ∃ gb, e = .returned (.tuple #[.agg (stampC (stampV b)), .bool (decide (128 ≤ (rd b 8).toNat)), .slice (some ⟨gb, 9, none⟩) (headN b) (headN b), .int .i64 0]) ∧ HoldsRow w' gb 78 (rowK .u8 b) ∧ w.heap.size ≤ gb) ∧ Below w.heap.size w w'
theorem run_cut_data (W : World) (g n : Nat) (hn : n ≤ 47) : ∃ q, (Instr.sliceAt 76 (.pointer (some ⟨g, 9, none⟩)) (some (.int .i64 (n : Int))) none none).run Try.prog W = .ok (.slice (some ⟨g, q, none⟩) (47 - n) (47 - n)) W ∧ q + (47 - n) ≤ 64 ∧ (n < 47 → q = 9 + n) := by
  by_cases h : n = 47
  · subst h
    refine ⟨9, ?_, by decide, fun h => absurd h (by decide)⟩
    have b0 := eq_true (show (0 : Int) ≤ 47 by decide)
    go_simp
  · refine ⟨9 + n, ?_, by omega, fun _ => rfl⟩
    have b0 := eq_true (show (0 : Int) ≤ (n : Int) by omega)
    have b1 := eq_true (show (n : Int) ≤ 47 by omega)
    have b2 := eq_false (show ¬ 47 = n by omega)
    have b3 := eq_false h
    have b4 := eq_true (show n ≤ 47 from hn)
    have b5 := eq_false (show ¬ 47 - n = 0 by omega)
    go_simp
theorem clear_row {W : World} {g : Nat} {t : TypeId} {b : List Int} {n q : Nat} (h : HoldsRow W g t (rowK .u8 b)) (hb : b.length = 64) (hn : n ≤ 47) (hq : n < 47 → q = 9 + n) : HoldsRow (W.setCells g q (List.replicate (47 - n) (.int .u8 0))) g t (rowK .u8 (splice b (9 + n) (List.replicate (47 - n) 0))) := by
  by_cases h47 : n = 47
  · subst h47
    have e : splice b (9 + 47) (List.replicate (47 - 47) (0 : Int)) = b := by
      unfold splice
      simp
    rw [e]
    exact h
  · obtain rfl := hq (by omega)
    obtain ⟨cur, h1, h2, h3⟩ := setCells_row (List.replicate (47 - n) (.int .u8 0)) (9 + n) W _ h (by rw [rowK_size, List.length_replicate]; omega)
    have e : cur = rowK .u8 (splice b (9 + n) (List.replicate (47 - n) 0)) := by
      apply Array.toList_inj.1
      rw [h3]
      unfold rowK
      rw [← nums_splice]
      simp [splice, nums]
    rw [← e]
    exact h1
set_option maxHeartbeats 4000000 in
set_option maxRecDepth 100000 in
theorem Read_calls (w : World) (A : Option Addr) (c : Nat) (b : List Int) (hr : Kd.C (Kd.int .u8) w A 64 b) (hc : 64 ≤ c) (hbb : Bytes b) :
    Calls Try.prog 57 #[.slice A 64 c] w (ReadPost b w) := by
  have hz := zero_cell
  have HR := Aside0.mk hr
  have HC := Aside0.mk hc
  have HB := Aside0.mk hbb
  have HB64 := Aside0.mk hr.1
  have hsz : (rowK .u8 b).size = 64 := by rw [rowK_size, hr.1]
  have hszz : (rowK .u8 z64).size = 64 := by rw [rowK_size, z64_len]
  have hsz2 : (stampC (stampV b)).size = 2 := rfl
  clear hr hc hbb
  go_enter Try.func57, Try.ntmps57
  go_wp2_with fail
  obtain ⟨W1, hW1⟩ : ∃ W1, W1 = w.alloc (.cells #[.int .i64 0, .int .i64 0] 44) := ⟨_, rfl⟩
  obtain ⟨S, hS⟩ : ∃ S, S = w.heap.size := ⟨_, rfl⟩
  have P1 := Aside0.mk (show HoldsRow W1 S 44 s00 by rw [hW1, hS]; exact HoldsRow.new _ _ _)
  have B1 := Aside0.mk (show Below w.heap.size w W1 by rw [hW1]; exact below_alloc (Below.refl _ _) _)
  rw [← hW1, ← hS]
  have HS := Aside0.mk hS
  clear hW1 hS
  ((with_reducible refine (parts_calls W1 A c b (Kd.C_below HR.out B1.out) HC.out).mono ?_))
  rintro e w2 ⟨rfl, hb⟩
  have P2 := Aside0.mk (P1.out.below hb P1.out.lt)
  have B2 := Aside0.mk (B1.out.trans (hb.mono B1.out.size))
  have HNEW := Aside0.mk (HoldsRow.new w2 78 (rowK .u8 z64))
  obtain ⟨W3, hW3⟩ : ∃ W3, W3 = (w2.alloc (.cells (rowK .u8 z64) 78)).setRow w2.heap.size (rowK .u8 b) := ⟨_, rfl⟩
  have hb3 : Below w2.heap.size w2 W3 := by rw [hW3]; exact Go.Proofs.Ythnjkmjcacoajaa.Arr.below_setRow (below_alloc (Below.refl w2.heap.size w2) (.cells (rowK .u8 z64) 78)) _ (Nat.le_refl _)
  have P3 := Aside0.mk (P2.out.below hb3 P2.out.lt)
  have B3 := Aside0.mk (B2.out.trans (hb3.mono B2.out.size))
  have R3 := Aside0.mk (show HoldsRow W3 w2.heap.size 78 (rowK .u8 b) by rw [hW3]; exact HNEW.out.row _)
  have HW3 := Aside0.mk hW3
  have HSG := Aside0.mk (show w.heap.size ≤ w2.heap.size ∧ S < w2.heap.size from ⟨B2.out.size, P2.out.lt⟩)
  clear hb P1 B1 P2 B2 hb3 hW3
  go_wp2_with (first | (refine wpList_store_row rfl 78 _ _ rfl w2.heap.size (rowK .u8 b) rfl rfl 78 (rowK .u8 z64) HNEW.out (by rw [hsz]; kernel_rfl) (by rw [hsz, hszz]) (rowK_one _ _) ?_; rw [← HW3.out]))
  obtain ⟨gc, hgc⟩ : ∃ gc, gc = w2.heap.size := ⟨_, rfl⟩
  rw [← hgc] at R3 HSG ⊢
  clear hgc
  have L0 : W3.drew.rangeAt gc 0 (nums .u8 (b.take 8)) := by have := range_row R3.out 0 8; rw [List.drop_zero] at this; exact this
  have L1 : W3.drew.rangeAt gc 56 (nums .u8 (b.drop 56)) := by have := range_row R3.out 56 8; rw [List.take_of_length_le (by rw [List.length_drop, HB64.out]; decide)] at this; exact this
  have l8 := Aside0.mk (show (b.take 8).length = 8 by rw [List.length_take, HB64.out]; rfl)
  have lb8 := Aside0.mk (show (b.drop 56).length = 8 by rw [List.length_drop, HB64.out])
  have BD : Bytes (b.drop 56) := fun x hx => HB.out x (List.mem_of_mem_drop hx)
  have BR : Bytes (b.drop 56).reverse := fun x hx => BD x (List.mem_reverse.1 hx)
  have heq : ∀ W : World, (Op.equalIn 10000 74 (.agg (nums .u8 (b.take 8)).toArray) (.agg (rowK .u8 (b.drop 56).reverse))).run Try.prog W = .ok (decide (b.take 8 = (b.drop 56).reverse)) W := fun W => edge_eq _ _ l8.out (by rw [List.length_reverse]; exact lb8.out) (HB.out.take 8) BR W
  clear BD BR
  refine start_ (n := 6) (S := fun w' => w'.rangeAt gc 0 (nums .u8 (b.take 8)) ∧ w'.rangeAt gc 56 (nums .u8 (b.drop 56))) (ds := []) #[false, false, false, false, false, false] (by kernel_rfl) rfl rfl ⟨L0, L1⟩ (fun hHeld => ?_)
  refine pure_ (i := 0) (N := some 18) (v := ?_) (a' := ?_) #[true, false, false, false, false, false] rfl rfl (by kernel_rfl) (fun _ _ _ h => h) (Or.inl ⟨by rfl, ?_⟩) ?_ ?_
  rotate_left
  · intro w'
    go_simp
    with_reducible rfl
  rotate_left
  · simp only [Act.put, List.setIfInBounds_toArray, List.set_cons_zero, List.set_cons_succ, i64_w, i32_w]
    rfl
  refine pure_ (i := 2) (N := some 20) (v := ?_) (a' := ?_) #[true, false, true, false, false, false] rfl rfl (by kernel_rfl) (fun _ _ _ h => h) (Or.inl ⟨by rfl, ?_⟩) ?_ ?_
  rotate_left
  · intro w'
    go_simp
    with_reducible rfl
  rotate_left
  · simp only [Act.put, List.setIfInBounds_toArray, List.set_cons_zero, List.set_cons_succ, i64_w, i32_w]
    rfl
  refine take_ (i := 1) (N := some 19) (v := ?_) (a' := ?_) #[true, true, true, false, false, false] rfl rfl (by kernel_rfl) (fun _ _ _ h => h) (Or.inl ⟨by rfl, ?_⟩) hHeld ?_ ?_
  rotate_left
  · rintro w' ⟨s0, s1⟩
    refine exec_load_mid 74 (.tmp 18) ?_ gc 0 ?_ (nums .u8 (b.take 8)) _ s0 Try.underlying74 rfl (by rw [nums_length, l8.out]; kernel_rfl)
    · rfl
    · rfl
  rotate_left
  · simp only [Act.put, List.setIfInBounds_toArray, List.set_cons_zero, List.set_cons_succ, i64_w, i32_w]
    rfl
  refine take_ (i := 3) (N := some 21) (v := ?_) (a' := ?_) #[true, true, true, true, false, false] rfl rfl (by kernel_rfl) (fun _ _ _ h => h) (Or.inl ⟨by rfl, ?_⟩) hHeld ?_ ?_
  rotate_left
  · rintro w' ⟨s0, s1⟩
    refine exec_load_mid 74 (.tmp 20) ?_ gc 56 ?_ (nums .u8 (b.drop 56)) _ s1 Try.underlying74 rfl (by rw [nums_length, lb8.out]; kernel_rfl)
    · rfl
    · rfl
  rotate_left
  · simp only [Act.put, List.setIfInBounds_toArray, List.set_cons_zero, List.set_cons_succ, i64_w, i32_w]
    rfl
  refine one_ (i := 4) (N := some 22) #[true, true, true, true, true, false] rfl rfl (by kernel_rfl) (by decide) (fun K hK => ?_)
  refine goes_ Try.func36 (by kernel_rfl) rfl #[.agg (rowK .u8 (b.drop 56))] (by rfl) rfl rfl (by simp only [List.map_toArray, List.map_cons, List.map_nil]; rfl) ?_
  with_reducible refine (turned_calls _ (b.drop 56) lb8.out).mono ?_
  rintro e4 w4 ⟨rfl, hb4⟩
  refine ⟨_, rfl, ?_⟩
  have B4 := Aside0.mk (show Below W3.heap.size W3 w4 from (below_drew (Below.refl _ _)).trans hb4)
  refine hK.out _ _ ⟨(fun j v hv => pw_cell_below B4.out (L0 j v hv)), (fun j v hv => pw_cell_below B4.out (L1 j v hv))⟩ (fun hHeld => ?_)
  clear hK K
  refine norm_ (a' := ?_) ?_ ?_
  rotate_left
  · show Act.put _ (some 22) _ = _
    simp only [Act.put, List.setIfInBounds_toArray, List.set_cons_zero, List.set_cons_succ, i64_w, i32_w]
    rfl
  refine pure_ (i := 5) (N := some 23) (v := ?_) (a' := ?_) #[true, true, true, true, true, true] rfl rfl (by kernel_rfl) (fun _ _ _ h => h) (Or.inl ⟨by rfl, ?_⟩) ?_ ?_
  rotate_left
  · intro w'
    go_simp
    with_reducible rfl
  rotate_left
  · simp only [Act.put, List.setIfInBounds_toArray, List.set_cons_zero, List.set_cons_succ, i64_w, i32_w]
    rfl
  refine done_ (by kernel_rfl) ?_
  
  clear hHeld heq hb4 L0 L1
  have P4 := Aside0.mk (P3.out.below B4.out P3.out.lt)
  have B40 := Aside0.mk (B3.out.trans (B4.out.mono B3.out.size))
  have R4 := Aside0.mk (R3.out.below B4.out R3.out.lt)
  have HWS := Aside0.mk (show w.heap.size ≤ S from Nat.le_of_eq HS.out.symm)
  clear P3 B3 R3 HNEW HW3 B4
  by_cases hback : b.take 8 = (b.drop 56).reverse
  case neg =>
    have HC3 := Aside0.mk (show readC b = 3 by unfold readC; rw [if_pos (show ¬ backOK b from hback)])
    rw [decide_eq_false hback]
    go_wp2_with (refine wpList_store_row rfl 44 _ _ rfl S s00 rfl rfl 44 s00 P4.out (by kernel_rfl) rfl s00_one ?_)
    refine bodyPost_ret (results_cell4 (p := 2) (q := 3) (r := 4) (s := 5) (ty := 44) rfl _ _ S s00 rfl (run_loadVar_row _ S 44 44 s00 (0, 0) _ (P4.out.row _) Try.underlying44 rfl (by kernel_rfl))) rfl ⟨fun _ => by rw [HC3.out]; rfl, fun h => by rw [HC3.out] at h; exact absurd h (by decide), Go.Proofs.Ythnjkmjcacoajaa.Arr.below_setRow B40.out _ HWS.out⟩
  have HBACK := Aside0.mk hback
  rw [decide_eq_true hback]
  have hx := HB.out.at_ 8
  obtain ⟨hd, hhd⟩ : ∃ hd : Nat, rd b ((8 : Nat) : Int) = (hd : Int) := ⟨(rd b ((8 : Nat) : Int)).toNat, by omega⟩
  have hd256 : hd < 256 := by omega
  have HHD := Aside0.mk (show (rd b 8).toNat = hd by rw [show rd b 8 = rd b ((8 : Nat) : Int) from rfl, hhd]; rfl)
  have hnd := andNot128 hd hd256
  have hand := and128 hd hd256
  obtain ⟨n, hn⟩ : ∃ n, n = hd % 128 := ⟨_, rfl⟩
  rw [← hn] at hnd
  have HN := Aside0.mk (show headN b = n by unfold headN; rw [HHD.out, hn])
  have hnw : IntKind.i64.wrap (n : Int) = (n : Int) := IntWalk.i64_in _ (by omega)
  have hn128 : n < 128 := by omega
  have C8 : w4.cell? ⟨gc, 8, none⟩ = some (.int .u8 (hd : Int)) := by
    have := R4.out.cell (rowK_get .u8 b 8 (by have := HB64.out; omega))
    rw [hhd] at this
    exact this
  have CL := Aside0.mk (show ∀ j v, (nums .u8 (b.take 8))[j]? = some v → w4.cell? ((⟨gc, 0, none⟩ : Addr).add j) = some v from fun j v hv => by
    have := R4.out.cell (j := j) (v := v) (by have := take_cell hv; unfold rowK; simpa using this)
    unfold Addr.add
    split
    · rename_i e; rw [e] at this; exact this
    · rw [Nat.zero_add]; exact this)
  clear hx hhd hn hback
  go_wp2_with (first | (refine wpList_load_at rfl 74 (.tmp 29) rfl ⟨gc, 0, none⟩ rfl (nums .u8 (b.take 8)) _ CL.out Try.underlying74 rfl (by rw [nums_length, l8.out]; kernel_rfl) ?_))
  rw [nums_rowK]
  ((with_reducible refine (stamp_calls w4 (b.take 8) l8.out (HB.out.take 8)).mono ?_))
  rintro e w5 ⟨rfl, hb⟩
  have P5 := Aside0.mk (P4.out.below hb P4.out.lt)
  have B5 := Aside0.mk (B40.out.trans (hb.mono B40.out.size))
  have R5 := Aside0.mk (R4.out.below hb R4.out.lt)
  obtain ⟨W6, hW6⟩ : ∃ W6, W6 = w5.setRow S (stampC (stampV b)) := ⟨_, rfl⟩
  have P6 := Aside0.mk (show HoldsRow W6 S 44 (stampC (stampV b)) by rw [hW6]; exact P5.out.row _)
  have B6 := Aside0.mk (show Below w.heap.size w W6 by rw [hW6]; exact Go.Proofs.Ythnjkmjcacoajaa.Arr.below_setRow B5.out _ HWS.out)
  have R6 := Aside0.mk (show HoldsRow W6 gc 78 (rowK .u8 b) by
    rw [hW6]
    exact hr_move R5.out ((Go.Proofs.Ythnjkmjcacoajaa.Arr.below_setRow (B := S) (Below.refl S w5) (stampC (stampV b)) (Nat.le_refl _)) |> fun _ => setRow_other w5 S gc _ (by have := HSG.out.2; omega)))
  have HW6 := Aside0.mk hW6
  have hvs : valN (b.take 8) 8 = stampV b := rfl
  obtain ⟨G, hG⟩ : ∃ G, G = stampV b / 4294967296 := ⟨_, rfl⟩
  have S0 : W6.cell? ⟨S, 0, none⟩ = some (.int .i64 (G : Int)) := by rw [hG]; exact P6.out.cell rfl
  have S1 : W6.cell? ⟨S, 1, none⟩ = some (.int .i64 ((stampV b : Int) % 4294967296)) := P6.out.cell rfl
  have HGV := Aside0.mk hG
  have C86 : W6.cell? ⟨gc, 8, none⟩ = some (.int .u8 (hd : Int)) := by
    have h1 := R4.out.cell (j := 8) (v := .int .u8 (hd : Int)) (by
      have h2 := C8
      have h3 : (rowK .u8 b)[8]? = some (.int .u8 (rd b ((8 : Nat) : Int))) := rowK_get .u8 b 8 (by have := HB64.out; omega)
      have h4 := R4.out.cell h3
      rw [h4] at h2
      rw [h3]; exact h2)
    have h5 : (rowK .u8 b)[8]? = some (.int .u8 (rd b ((8 : Nat) : Int))) := rowK_get .u8 b 8 (by have := HB64.out; omega)
    have h6 := R6.out.cell h5
    have h7 := R4.out.cell h5
    rw [C8] at h7
    rw [h6, ← h7]
  rw [hvs]
  clear hb hW6 hG P4 B40 R4 CL C8 hvs
  by_cases hbad : G = 0 ∨ n < 1 ∨ 47 < n
  case pos =>
    have HC4 := Aside0.mk (show readC b = 4 by unfold readC; rw [if_neg (show ¬ ¬ backOK b from fun h => h HBACK.out), if_pos (by rw [HN.out, ← HGV.out]; exact hbad)])
    have hfin : ∀ W, Below w.heap.size w W → ReadPost b w (.returned (.tuple #[.agg s00, .bool false, .slice none 0 0, .int .i64 4])) (W.setRow S s00) := fun W h => ⟨fun _ => by rw [HC4.out], fun h => by rw [HC4.out] at h; exact absurd h (by decide), Go.Proofs.Ythnjkmjcacoajaa.Arr.below_setRow h _ HWS.out⟩
    have HFIN := Aside0.mk hfin
    have hq1 : G = 0 ∨ (G ≠ 0 ∧ n < 1) ∨ (G ≠ 0 ∧ ¬ n < 1 ∧ 47 < n) := by omega
    clear hfin hbad
    rcases hq1 with h0 | ⟨h0, h1⟩ | ⟨h0, h1, h2⟩
    · subst h0
      go_wp2_with (first | (refine wpList_store_row rfl 44 (.tmp 2) (.tmp 31) rfl S (stampC (stampV b)) rfl rfl 44 s00 P5.out (by rw [hsz2]; kernel_rfl) rfl (stamp_one _) ?_; rw [← HW6.out]) | (refine wpList_store_row rfl 44 _ _ rfl S s00 rfl rfl 44 (stampC (stampV b)) P6.out (by kernel_rfl) rfl s00_one ?_))
      exact bodyPost_ret (results_cell4 (p := 2) (q := 3) (r := 4) (s := 5) (ty := 44) rfl _ _ S s00 rfl (run_loadVar_row _ S 44 44 s00 (0, 0) _ (P6.out.row _) Try.underlying44 rfl (by kernel_rfl))) rfl (HFIN.out _ B6.out)
    · have d0 : ((G : Int) == 0) = false := by rw [beq_eq_false_iff_ne]; omega
      have d00 := eq_false (show ¬ (G : Int) = 0 by omega)
      have d01 := eq_false h0
      obtain rfl : n = 0 := by omega
      go_wp2_with (first | (refine wpList_store_row rfl 44 (.tmp 2) (.tmp 31) rfl S (stampC (stampV b)) rfl rfl 44 s00 P5.out (by rw [hsz2]; kernel_rfl) rfl (stamp_one _) ?_; rw [← HW6.out]) | (refine wpList_store_row rfl 44 _ _ rfl S s00 rfl rfl 44 (stampC (stampV b)) P6.out (by kernel_rfl) rfl s00_one ?_))
      exact bodyPost_ret (results_cell4 (p := 2) (q := 3) (r := 4) (s := 5) (ty := 44) rfl _ _ S s00 rfl (run_loadVar_row _ S 44 44 s00 (0, 0) _ (P6.out.row _) Try.underlying44 rfl (by kernel_rfl))) rfl (HFIN.out _ B6.out)
    · have d0 : ((G : Int) == 0) = false := by rw [beq_eq_false_iff_ne]; omega
      have d00 := eq_false (show ¬ (G : Int) = 0 by omega)
      have d01 := eq_false h0
      have d1 : decide ((n : Int) < 1) = false := decide_eq_false (by omega)
      have d2 : decide ((47 : Int) < (n : Int)) = true := decide_eq_true (by omega)
      have d3 := eq_false h1
      have d4 := eq_true h2
      go_wp2_with (first | (refine wpList_store_row rfl 44 (.tmp 2) (.tmp 31) rfl S (stampC (stampV b)) rfl rfl 44 s00 P5.out (by rw [hsz2]; kernel_rfl) rfl (stamp_one _) ?_; rw [← HW6.out]) | (refine wpList_store_row rfl 44 _ _ rfl S s00 rfl rfl 44 (stampC (stampV b)) P6.out (by kernel_rfl) rfl s00_one ?_))
      exact bodyPost_ret (results_cell4 (p := 2) (q := 3) (r := 4) (s := 5) (ty := 44) rfl _ _ S s00 rfl (run_loadVar_row _ S 44 44 s00 (0, 0) _ (P6.out.row _) Try.underlying44 rfl (by kernel_rfl))) rfl (HFIN.out _ B6.out)
  case neg =>
    have d0 : ((G : Int) == 0) = false := by rw [beq_eq_false_iff_ne]; omega
    have d00 := eq_false (show ¬ (G : Int) = 0 by omega)
    have d01 := eq_false (show ¬ G = 0 by omega)
    have d1 : decide ((n : Int) < 1) = false := decide_eq_false (by omega)
    have d2 : decide ((47 : Int) < (n : Int)) = false := decide_eq_false (by omega)
    have d3 := eq_false (show ¬ n < 1 by omega)
    have d4 := eq_false (show ¬ 47 < n by omega)
    have hn0 : 0 < n := by omega
    have hn47 : n ≤ 47 := by omega
    have HBAD := Aside0.mk hbad
    have HNEW := Aside0.mk (HoldsRow.new W6 78 (rowK .u8 z64))
    obtain ⟨W7, hW7⟩ : ∃ W7, W7 = (W6.alloc (.cells (rowK .u8 z64) 78)).setRow W6.heap.size (rowK .u8 b) := ⟨_, rfl⟩
    have hb7 : Below W6.heap.size W6 W7 := by rw [hW7]; exact Go.Proofs.Ythnjkmjcacoajaa.Arr.below_setRow (below_alloc (Below.refl W6.heap.size W6) (.cells (rowK .u8 z64) 78)) _ (Nat.le_refl _)
    have P7 := Aside0.mk (P6.out.below hb7 P6.out.lt)
    have B7 := Aside0.mk (B6.out.trans (hb7.mono B6.out.size))
    have R7 := Aside0.mk (R6.out.below hb7 R6.out.lt)
    obtain ⟨g9, hg9⟩ : ∃ g9, g9 = W6.heap.size := ⟨_, rfl⟩
    have HW7 := Aside0.mk hW7
    have HGP := Aside0.mk (show w.heap.size ≤ g9 ∧ gc < g9 ∧ S < g9 by rw [hg9]; exact ⟨B6.out.size, R6.out.lt, P6.out.lt⟩)
    have Q7 := Aside0.mk (show HoldsRow W7 g9 78 (rowK .u8 b) by rw [hW7, hg9]; exact HNEW.out.row _)
    have HG9 := Aside0.mk hg9
    obtain ⟨q, hcut, hq, hq2⟩ := run_cut_data W7 g9 n hn47
    have hcut' := hcut
    rw [hg9] at hcut'
    obtain ⟨W8, hW8⟩ : ∃ W8, W8 = W7.setCells g9 q (List.replicate (47 - n) (.int .u8 0)) := ⟨_, rfl⟩
    obtain ⟨cur, hcur⟩ : ∃ cur, cur = splice b (9 + n) (List.replicate (47 - n) 0) := ⟨_, rfl⟩
    have Q8 := Aside0.mk (show HoldsRow W8 g9 78 (rowK .u8 cur) by rw [hW8, hcur]; exact clear_row Q7.out HB64.out hn47 hq2)
    have P8 := Aside0.mk (show HoldsRow W8 S 44 (stampC (stampV b)) by rw [hW8]; exact hr_move P7.out (sets_far (by have := HGP.out.2.2; omega)))
    have R8 := Aside0.mk (show HoldsRow W8 gc 78 (rowK .u8 b) by rw [hW8]; exact hr_move R7.out (sets_far (by have := HGP.out.2.1; omega)))
    have B8 := Aside0.mk (show Below w.heap.size w W8 by rw [hW8]; exact sets_below B7.out HGP.out.1 _)
    have hcl : cur.length = 64 := by rw [hcur, length_splice _ _ _ (by rw [List.length_replicate, HB64.out]; omega)]; exact HB64.out
    have hcb : Bytes cur := fun x hx => by
      rw [hcur] at hx
      unfold splice at hx
      rcases List.mem_append.1 hx with h | h
      · exact HB.out x (List.mem_of_mem_take h)
      · rcases List.mem_append.1 h with h | h
        · rw [List.eq_of_mem_replicate h]; decide
        · exact HB.out x (List.mem_of_mem_drop h)
    have heq : ∀ W : World, (Op.equalIn 10000 78 (.agg (rowK .u8 cur)) (.agg (rowK .u8 b))).run Try.prog W = .ok (decide (cur = b)) W := fun W => cell_eq _ _ hcl HB64.out hcb HB.out W
    have HW8 := Aside0.mk (show W8 = W7.setCells W6.heap.size q (List.replicate (47 - n) (.int .u8 0)) by rw [hW8, hg9])
    have HCUR := Aside0.mk hcur
    have Q7' := Aside0.mk (show HoldsRow W7 W6.heap.size 78 (rowK .u8 b) by rw [← hg9]; exact Q7.out)
    have Q8' := Aside0.mk (show HoldsRow W8 W6.heap.size 78 (rowK .u8 cur) by rw [← hg9]; exact Q8.out)
    have hszc : (rowK .u8 cur).size = 64 := by rw [rowK_size, hcl]
    clear hbad hb7 hW7 hW8 hcur hcl hcb hg9 hcut hq2
    by_cases hzero : cur = b
    case neg =>
      have HC4 := Aside0.mk (show readC b = 4 by
        unfold readC
        rw [if_neg (show ¬ ¬ backOK b from fun h => h HBACK.out), if_neg (by rw [HN.out, ← HGV.out]; exact HBAD.out), if_pos (show ¬ zerosOK b by unfold zerosOK; rw [HN.out, ← HCUR.out]; exact hzero)])
      rw [decide_eq_false hzero] at heq
      go_wp2_with (first | (refine wpList_store_row rfl 44 (.tmp 2) (.tmp 31) rfl S (stampC (stampV b)) rfl rfl 44 s00 P5.out (by rw [hsz2]; kernel_rfl) rfl (stamp_one _) ?_; rw [← HW6.out]) | (refine wpList_load_row rfl 78 (.tmp 6) rfl gc rfl 78 (rowK .u8 b) (0, 0) _ R6.out Try.underlying78 rfl (by rw [hsz]; kernel_rfl) ?_) | (refine wpList_store_row rfl 78 _ _ rfl W6.heap.size (rowK .u8 b) rfl rfl 78 (rowK .u8 z64) HNEW.out (by rw [hsz]; kernel_rfl) (by rw [hsz, hszz]) (rowK_one _ _) ?_; rw [← HW7.out]) | (refine wpList_clear_mid rfl (.tmp 47) 31 5 rfl Try.underlying31 (.int .u8 0) (fun W => by kernel_rfl) rfl rfl W6.heap.size q (47 - n) (47 - n) rfl 78 (rowK .u8 b) Q7'.out (by rw [hsz]; exact hq) ?_; rw [← HW8.out]) | (refine wpList_load_row rfl 78 (.tmp 9) rfl W6.heap.size rfl 78 (rowK .u8 cur) (0, 0) _ Q8'.out Try.underlying78 rfl (by rw [hszc]; kernel_rfl) ?_) | (refine wpList_load_row rfl 78 (.tmp 6) rfl gc rfl 78 (rowK .u8 b) (0, 0) _ R8.out Try.underlying78 rfl (by rw [hsz]; kernel_rfl) ?_) | (refine wpList_store_row rfl 44 (.tmp 2) (.tmp 51) rfl S s00 rfl rfl 44 (stampC (stampV b)) P8.out (by kernel_rfl) rfl s00_one ?_))
      exact bodyPost_ret (results_cell4 (p := 2) (q := 3) (r := 4) (s := 5) (ty := 44) rfl _ _ S s00 rfl (run_loadVar_row _ S 44 44 s00 (0, 0) _ (P8.out.row _) Try.underlying44 rfl (by kernel_rfl))) rfl ⟨fun _ => by rw [HC4.out]; rfl, fun h => by rw [HC4.out] at h; exact absurd h (by decide), Go.Proofs.Ythnjkmjcacoajaa.Arr.below_setRow B8.out _ HWS.out⟩
    have HC0 := Aside0.mk (show readC b = 0 by
      unfold readC
      rw [if_neg (show ¬ ¬ backOK b from fun h => h HBACK.out), if_neg (by rw [HN.out, ← HGV.out]; exact HBAD.out), if_neg (show ¬ ¬ zerosOK b from fun h => h (by unfold zerosOK; rw [HN.out, ← HCUR.out]; exact hzero))])
    rw [decide_eq_true hzero] at heq
    clear hzero
    go_wp2_with (first | (refine wpList_store_row rfl 44 (.tmp 2) (.tmp 31) rfl S (stampC (stampV b)) rfl rfl 44 s00 P5.out (by rw [hsz2]; kernel_rfl) rfl (stamp_one _) ?_; rw [← HW6.out]) | (refine wpList_load_row rfl 78 (.tmp 6) rfl gc rfl 78 (rowK .u8 b) (0, 0) _ R6.out Try.underlying78 rfl (by rw [hsz]; kernel_rfl) ?_) | (refine wpList_store_row rfl 78 _ _ rfl W6.heap.size (rowK .u8 b) rfl rfl 78 (rowK .u8 z64) HNEW.out (by rw [hsz]; kernel_rfl) (by rw [hsz, hszz]) (rowK_one _ _) ?_; rw [← HW7.out]) | (refine wpList_clear_mid rfl (.tmp 47) 31 5 rfl Try.underlying31 (.int .u8 0) (fun W => by kernel_rfl) rfl rfl W6.heap.size q (47 - n) (47 - n) rfl 78 (rowK .u8 b) Q7'.out (by rw [hsz]; exact hq) ?_; rw [← HW8.out]) | (refine wpList_load_row rfl 78 (.tmp 9) rfl W6.heap.size rfl 78 (rowK .u8 cur) (0, 0) _ Q8'.out Try.underlying78 rfl (by rw [hszc]; kernel_rfl) ?_) | (refine wpList_load_row rfl 78 (.tmp 6) rfl gc rfl 78 (rowK .u8 b) (0, 0) _ R8.out Try.underlying78 rfl (by rw [hsz]; kernel_rfl) ?_))
    have T0 : W8.drew.cell? ⟨S, 0, none⟩ = some (.int .i64 ((stampV b : Int) / 4294967296)) := P8.out.cell rfl
    have T1 : W8.drew.cell? ⟨S, 1, none⟩ = some (.int .i64 ((stampV b : Int) % 4294967296)) := P8.out.cell rfl
    have T8 : W8.drew.cell? ⟨gc, 8, none⟩ = some (.int .u8 (hd : Int)) := by
      have h5 : (rowK .u8 b)[8]? = some (.int .u8 (rd b ((8 : Nat) : Int))) := rowK_get .u8 b 8 (by have := HB64.out; omega)
      have h6 := R8.out.cell h5
      have h7 := R6.out.cell h5
      rw [C86] at h7
      exact h6.trans h7.symm
    have e0 := eq_true (show (0 : Int) ≤ (n : Int) by omega)
    have e1 := eq_true (show (n : Int) ≤ 47 by omega)
    have e2 := eq_true (show n ≤ 47 by omega)
    have HH8 := Aside0.mk (show (rowK .u8 b)[8]? = some (.int .u8 (hd : Int)) by
      have h5 : (rowK .u8 b)[8]? = some (.int .u8 (rd b ((8 : Nat) : Int))) := rowK_get .u8 b 8 (by have := HB64.out; omega)
      have h7 := R6.out.cell h5
      rw [C86] at h7
      rw [h5]; exact h7.symm)
    clear S0 S1 C86 heq
    refine start_ (n := 13) (S := fun w' => w'.cell? ⟨S, 0, none⟩ = some (.int .i64 ((stampV b : Int) / 4294967296)) ∧ w'.cell? ⟨S, 1, none⟩ = some (.int .i64 ((stampV b : Int) % 4294967296)) ∧ w'.cell? ⟨gc, 8, none⟩ = some (.int .u8 (hd : Int))) (ds := []) #[false, false, false, false, false, false, false, false, false, false, false, false, false] (by kernel_rfl) rfl rfl ⟨T0, T1, T8⟩ (fun hHeld => ?_)
    refine pure_ (i := 1) (N := some 53) (v := ?_) (a' := ?_) #[false, true, false, false, false, false, false, false, false, false, false, false, false] rfl rfl (by kernel_rfl) (fun _ _ _ h => h) (Or.inl ⟨by rfl, ?_⟩) ?_ ?_
    rotate_left
    · intro w'
      go_simp
      with_reducible rfl
    rotate_left
    · simp only [Act.put, List.setIfInBounds_toArray, List.set_cons_zero, List.set_cons_succ, i64_w, i32_w]
      rfl
    refine pure_ (i := 5) (N := some 57) (v := ?_) (a' := ?_) #[false, true, false, false, false, true, false, false, false, false, false, false, false] rfl rfl (by kernel_rfl) (fun _ _ _ h => h) (Or.inl ⟨by rfl, ?_⟩) ?_ ?_
    rotate_left
    · intro w'
      go_simp
      with_reducible rfl
    rotate_left
    · simp only [Act.put, List.setIfInBounds_toArray, List.set_cons_zero, List.set_cons_succ, i64_w, i32_w]
      rfl
    refine pure_ (i := 6) (N := some 58) (v := ?_) (a' := ?_) #[false, true, false, false, false, true, true, false, false, false, false, false, false] rfl rfl (by kernel_rfl) (fun _ _ _ h => h) (Or.inl ⟨by rfl, ?_⟩) ?_ ?_
    rotate_left
    · intro w'
      go_simp
      with_reducible rfl
    rotate_left
    · simp only [Act.put, List.setIfInBounds_toArray, List.set_cons_zero, List.set_cons_succ, i64_w, i32_w]
      rfl
    refine pure_ (i := 7) (N := some 59) (v := ?_) (a' := ?_) #[false, true, false, false, false, true, true, true, false, false, false, false, false] rfl rfl (by kernel_rfl) (fun _ _ _ h => h) (Or.inl ⟨by rfl, ?_⟩) ?_ ?_
    rotate_left
    · intro w'
      go_simp
      with_reducible rfl
    rotate_left
    · simp only [Act.put, List.setIfInBounds_toArray, List.set_cons_zero, List.set_cons_succ, i64_w, i32_w]
      rfl
    refine pure_ (i := 8) (N := some 60) (v := ?_) (a' := ?_) #[false, true, false, false, false, true, true, true, true, false, false, false, false] rfl rfl (by kernel_rfl) (fun _ _ _ h => h) (Or.inl ⟨by rfl, ?_⟩) ?_ ?_
    rotate_left
    · intro w'
      go_simp
      with_reducible rfl
    rotate_left
    · simp only [Act.put, List.setIfInBounds_toArray, List.set_cons_zero, List.set_cons_succ, i64_w, i32_w]
      rfl
    refine take_ (i := 0) (N := some 52) (v := ?_) (a' := ?_) #[true, true, false, false, false, true, true, true, true, false, false, false, false] rfl rfl (by kernel_rfl) (fun _ _ _ h => h) (Or.inl ⟨by rfl, ?_⟩) hHeld ?_ ?_
    rotate_left
    · rintro w' ⟨s0, s1, s2⟩
      go_simp
      with_reducible rfl
    rotate_left
    · simp only [Act.put, List.setIfInBounds_toArray, List.set_cons_zero, List.set_cons_succ, i64_w, i32_w]
      rfl
    refine take_ (i := 2) (N := some 54) (v := ?_) (a' := ?_) #[true, true, true, false, false, true, true, true, true, false, false, false, false] rfl rfl (by kernel_rfl) (fun _ _ _ h => h) (Or.inl ⟨by rfl, ?_⟩) hHeld ?_ ?_
    rotate_left
    · rintro w' ⟨s0, s1, s2⟩
      go_simp
      with_reducible rfl
    rotate_left
    · simp only [Act.put, List.setIfInBounds_toArray, List.set_cons_zero, List.set_cons_succ, i64_w, i32_w]
      rfl
    refine pure_ (i := 3) (N := some 55) (v := ?_) (a' := ?_) #[true, true, true, true, false, true, true, true, true, false, false, false, false] rfl rfl (by kernel_rfl) (fun _ _ _ h => h) (Or.inl ⟨by rfl, ?_⟩) ?_ ?_
    rotate_left
    · intro w'
      go_simp
      with_reducible rfl
    rotate_left
    · simp only [Act.put, List.setIfInBounds_toArray, List.set_cons_zero, List.set_cons_succ, i64_w, i32_w]
      rfl
    refine pure_ (i := 4) (N := some 56) (v := ?_) (a' := ?_) #[true, true, true, true, true, true, true, true, true, false, false, false, false] rfl rfl (by kernel_rfl) (fun _ _ _ h => h) (Or.inl ⟨by rfl, ?_⟩) ?_ ?_
    rotate_left
    · intro w'
      go_simp
      with_reducible rfl
    rotate_left
    · simp only [Act.put, List.setIfInBounds_toArray, List.set_cons_zero, List.set_cons_succ, i64_w, i32_w]
      rfl
    refine one_ (i := 9) (N := none) #[true, true, true, true, true, true, true, true, true, true, false, false, false] rfl rfl (by kernel_rfl) (by decide) (fun K hK => ?_)
    refine skip_ (w1 := W8.drew.setCells S 0 (stampC (stampV b)).toList) (by rfl) rfl ?_ ?_
    · refine exec_store_mid 44 (.tmp 2) (.tmp 52) ?_ S 0 (stampC (stampV b)) ?_ ?_ (there_row (show HoldsRow W8.drew S 44 (stampC (stampV b)) from P8.out) 0 _ (by rw [hsz2]; decide)) (by rw [hsz2]; kernel_rfl) (stamp_one _)
      · rfl
      · rfl
      · rfl
    have U9 : HoldsRow (W8.drew.setCells S 0 (stampC (stampV b)).toList) S 44 (stampC (stampV b)) := set_row_all (show HoldsRow W8.drew S 44 (stampC (stampV b)) from P8.out) rfl
    have V9 : HoldsRow (W8.drew.setCells S 0 (stampC (stampV b)).toList) gc 78 (rowK .u8 b) := hr_move R8.out (sets_all_far _ (by have := HSG.out.2; omega))
    refine hK.out _ _ ⟨(U9.cell rfl), (U9.cell rfl), (V9.cell HH8.out)⟩ (fun hHeld => ?_)
    clear hK K
    refine pure_ (i := 10) (N := some 3) (v := ?_) (a' := ?_) #[true, true, true, true, true, true, true, true, true, true, true, false, false] rfl rfl (by kernel_rfl) (fun _ _ _ h => h) (Or.inl ⟨by rfl, ?_⟩) ?_ ?_
    rotate_left
    · intro w'
      go_simp
      with_reducible rfl
    rotate_left
    · simp only [Act.put, List.setIfInBounds_toArray, List.set_cons_zero, List.set_cons_succ, i64_w, i32_w]
      rfl
    refine pure_ (i := 11) (N := some 4) (v := ?_) (a' := ?_) #[true, true, true, true, true, true, true, true, true, true, true, true, false] rfl rfl (by kernel_rfl) (fun _ _ _ h => h) (Or.inl ⟨by rfl, ?_⟩) ?_ ?_
    rotate_left
    · intro w'
      go_simp
      with_reducible rfl
    rotate_left
    · simp only [Act.put, List.setIfInBounds_toArray, List.set_cons_zero, List.set_cons_succ, i64_w, i32_w]
      rfl
    refine pure_ (i := 12) (N := some 5) (v := ?_) (a' := ?_) #[true, true, true, true, true, true, true, true, true, true, true, true, true] rfl rfl (by kernel_rfl) (fun _ _ _ h => h) (Or.inl ⟨by rfl, ?_⟩) ?_ ?_
    rotate_left
    · intro w'
      go_simp
      with_reducible rfl
    rotate_left
    · simp only [Act.put, List.setIfInBounds_toArray, List.set_cons_zero, List.set_cons_succ, i64_w, i32_w]
      rfl
    refine done_ (by kernel_rfl) ?_
    
    obtain ⟨W9, hW9⟩ : ∃ W9, W9 = W8.drew.setCells S 0 (stampC (stampV b)).toList := ⟨_, rfl⟩
    have B9 := Aside0.mk (show Below w.heap.size w W9 by rw [hW9]; exact sets_below (below_drew B8.out) HWS.out _)
    rw [← hW9] at U9 V9 ⊢
    have U := Aside0.mk U9
    have V := Aside0.mk V9
    clear hW9 U9 V9 hHeld T0 T1 T8
    go_wp2_with fail
    exact bodyPost_ret (results_cell4 (p := 2) (q := 3) (r := 4) (s := 5) (ty := 44) rfl _ _ S (stampC (stampV b)) rfl (run_loadVar_row _ S 44 44 (stampC (stampV b)) (0, 0) _ U.out Try.underlying44 rfl (by rw [hsz2]; kernel_rfl))) rfl ⟨fun h => absurd HC0.out h, fun _ => ⟨gc, by rw [HN.out, HHD.out]; rfl, V.out, HSG.out.1⟩, B9.out⟩
end Go.Proofs.Ythnjkmjcacoajaa.Ext
end

section
/- strip.Cells and strip.Front, as the printed texts speak of a function. Condition: a million million bytes at most; bytes are bytes. -/
namespace Go.Proofs.Ythnjkmjcacoajaa.Ext
open Go Go.RowKit Go.Proofs.YthnjkmjcacoajaaW.PrintWords Go.Proofs.YthnjkmjcacoajaaW.PrintLast Go.Proofs.YthnjkmjcacoajaaW.PrintMore Go.Proofs.Ythnjkmjcacoajaa.Base Go.Proofs.Ythnjkmjcacoajaa.Arr
set_option linter.unusedVariables false
set_option maxRecDepth 10000
set_option linter.unusedSimpArgs false

def goodS (g e : Int) : Prop := 1 ≤ g ∧ g < 4294967296 ∧ 0 ≤ e ∧ e < 4294967296
instance (g e : Int) : Decidable (goodS g e) := by unfold goodS; infer_instance
set_option maxHeartbeats 4000000 in
set_option maxRecDepth 100000 in
theorem Cells_bad (w : World) (A : Option Addr) (m c : Nat) (g e : Int) (h : ¬ goodS g e) :
    Calls Try.prog 19 #[.agg #[.int .i64 g, .int .i64 e], .slice A m c] w fun en w' => en = .returned (.tuple #[.slice none 0 0, .int .i64 9]) ∧ Below w.heap.size w w' := by
  have hq : g < 1 ∨ (¬ g < 1 ∧ 4294967295 < g) ∨ (¬ g < 1 ∧ ¬ 4294967295 < g ∧ e < 0) ∨ (¬ g < 1 ∧ ¬ 4294967295 < g ∧ ¬ e < 0 ∧ 4294967295 < e) := by unfold goodS at h; omega
  clear h
  rcases hq with h0 | ⟨h0, h1⟩ | ⟨h0, h1, h2⟩ | ⟨h0, h1, h2, h3⟩
  · have d0 : decide (g < 1) = true := decide_eq_true h0
    have d00 := eq_true h0
    go_enter Try.func19, Try.ntmps19
    go_wp2_with fail
    go_ret2
    exact ⟨rfl, below_alloc (Below.refl _ _) _⟩
  · have d0 : decide (g < 1) = false := decide_eq_false h0
    have d1 : decide (4294967295 < g) = true := decide_eq_true h1
    have d00 := eq_false h0
    have d01 := eq_true h1
    go_enter Try.func19, Try.ntmps19
    go_wp2_with fail
    go_ret2
    exact ⟨rfl, below_alloc (Below.refl _ _) _⟩
  · have d0 : decide (g < 1) = false := decide_eq_false h0
    have d1 : decide (4294967295 < g) = false := decide_eq_false h1
    have d2 : decide (e < 0) = true := decide_eq_true h2
    have d00 := eq_false h0
    have d01 := eq_false h1
    have d02 := eq_true h2
    go_enter Try.func19, Try.ntmps19
    go_wp2_with fail
    go_ret2
    exact ⟨rfl, below_alloc (Below.refl _ _) _⟩
  · have d0 : decide (g < 1) = false := decide_eq_false h0
    have d1 : decide (4294967295 < g) = false := decide_eq_false h1
    have d2 : decide (e < 0) = false := decide_eq_false h2
    have d3 : decide (4294967295 < e) = true := decide_eq_true h3
    have d00 := eq_false h0
    have d01 := eq_false h1
    have d02 := eq_false h2
    have d03 := eq_true h3
    go_enter Try.func19, Try.ntmps19
    go_wp2_with fail
    go_ret2
    exact ⟨rfl, below_alloc (Below.refl _ _) _⟩
set_option maxHeartbeats 4000000 in
set_option maxRecDepth 100000 in
theorem Cells_empty (w : World) (A : Option Addr) (c : Nat) (g e : Int) (h : goodS g e) :
    Calls Try.prog 19 #[.agg #[.int .i64 g, .int .i64 e], .slice A 0 c] w fun en w' => en = .returned (.tuple #[.slice none 0 0, .int .i64 2]) ∧ Below w.heap.size w w' := by
  unfold goodS at h
  have d0 : decide (g < 1) = false := decide_eq_false (by omega)
  have d1 : decide (4294967295 < g) = false := decide_eq_false (by omega)
  have d2 : decide (e < 0) = false := decide_eq_false (by omega)
  have d3 : decide (4294967295 < e) = false := decide_eq_false (by omega)
  have d00 := eq_false (show ¬ g < 1 by omega)
  have d01 := eq_false (show ¬ 4294967295 < g by omega)
  have d02 := eq_false (show ¬ e < 0 by omega)
  have d03 := eq_false (show ¬ 4294967295 < e by omega)
  clear h
  go_enter Try.func19, Try.ntmps19
  go_wp2_with fail
  go_ret2
  exact ⟨rfl, below_alloc (Below.refl _ _) _⟩
/-- a run's cells -/
def runCells (g e : Nat) (b : List Int) : List (List Int) := cellsOf g e b (upto b.length (pieces b.length))
def strip_Cells.f (a0_0 a0_1 : Int) (l1 : List Int) : Option (List (List Int) × Int) :=
  if ¬ goodS a0_0 a0_1 then some ([], 9) else if l1.length = 0 then some ([], 2) else if l1.length ≤ 1000000000000 then some (runCells a0_0.toNat a0_1.toNat l1, 0) else none
theorem strip_Cells.calls (a0_0 a0_1 : Int) (A1 : Option Addr) (c1 : Nat) (l1 : List Int) (r1 : List (List Int)) (r2 : Int) (w : World) (hr1 : Kd.C (Kd.int .u8) w A1 l1.length l1) (hc1 : l1.length ≤ c1) (h : strip_Cells.f a0_0 a0_1 l1 = some (r1, r2)) :
    Calls Try.prog 19 #[.agg #[.int .i64 a0_0, .int .i64 a0_1], .slice A1 l1.length c1] w fun e w' => ∃ v0_ : Value, e = .returned (.tuple #[v0_, .int .i64 r2]) ∧ Kd.S (Kd.slice 5 (Kd.int .u8)) 31 w' w.heap.size (fun _ => True) v0_ r1 ∧ Below w.heap.size w w' := by
  unfold strip_Cells.f at h
  by_cases hg : goodS a0_0 a0_1
  · rw [if_neg (fun k => k hg)] at h
    by_cases h0 : l1.length = 0
    · rw [if_pos h0] at h
      cases h
      rw [h0]
      exact (Cells_empty w A1 c1 a0_0 a0_1 hg).mono (by rintro e w' ⟨rfl, hb⟩; exact ⟨_, rfl, Kd.S_nil _ _ _ _ _, hb⟩)
    · rw [if_neg h0] at h
      split at h
      · rename_i hm
        cases h
        obtain ⟨ad, rfl, -⟩ := hr1.2.2 (by omega)
        obtain ⟨g1, g2, g3, g4⟩ := hg
        obtain ⟨g, rfl⟩ : ∃ g : Nat, a0_0 = (g : Int) := ⟨a0_0.toNat, by omega⟩
        obtain ⟨e, rfl⟩ : ∃ e : Nat, a0_1 = (e : Int) := ⟨a0_1.toNat, by omega⟩
        exact Cells_calls w ad c1 l1 g e hr1 (by omega) hc1 hm (by omega) (by omega) (by omega)
      · cases h
  · rw [if_pos hg] at h
    cases h
    exact (Cells_bad w A1 l1.length c1 a0_0 a0_1 hg).mono (by rintro e w' ⟨rfl, hb⟩; exact ⟨_, rfl, Kd.S_nil _ _ _ _ _, hb⟩)
def bytesB (l : List Int) : Bool := l.all fun x => decide (0 ≤ x ∧ x < 256)
theorem bytes_of {l : List Int} (h : bytesB l = true) : Bytes l := fun x hx => by
  have := List.all_eq_true.1 h x hx
  simpa using this
theorem bytes_to {l : List Int} (h : Bytes l) : bytesB l = true := List.all_eq_true.2 fun x hx => by simpa using h x hx
def strip_Front.f (l0 : List Int) : Option (Int × Int × Int) :=
  if l0.length = 64 then (if bytesB l0 = true then some ((stampV l0 : Int) / 4294967296, (stampV l0 : Int) % 4294967296, 0) else none) else some (0, 0, 2)
theorem strip_Front.calls (A0 : Option Addr) (c0 : Nat) (l0 : List Int) (r1 r2 r3 : Int) (w : World) (hr0 : Kd.C (Kd.int .u8) w A0 l0.length l0) (hc0 : l0.length ≤ c0) (h : strip_Front.f l0 = some (r1, r2, r3)) :
    Calls Try.prog 56 #[.slice A0 l0.length c0] w fun e w' => e = .returned (.tuple #[.agg #[.int .i64 r1, .int .i64 r2], .int .i64 r3]) ∧ Below w.heap.size w w' := by
  unfold strip_Front.f at h
  split at h
  · rename_i hl
    split at h
    · rename_i hb
      cases h
      rw [hl] at hr0 hc0 ⊢
      exact Front_calls w A0 c0 l0 hr0 hc0 (bytes_of hb)
    · cases h
  · rename_i hl
    cases h
    exact Front_none w A0 c0 l0.length hl hr0.2.1
end Go.Proofs.Ythnjkmjcacoajaa.Ext
end

section
/- What a cell of a run is read as. Plain lists; condition: a stamp of two numbers of 32 bits; bytes are bytes. -/
namespace Go.Proofs.Ythnjkmjcacoajaa.Ext
open Go Go.RowKit Go.Proofs.YthnjkmjcacoajaaW.PrintWords Go.Proofs.YthnjkmjcacoajaaW.PrintLast Go.Proofs.YthnjkmjcacoajaaW.PrintMore Go.Proofs.Ythnjkmjcacoajaa.Base Go.Proofs.Ythnjkmjcacoajaa.Arr
set_option linter.unusedVariables false
set_option maxRecDepth 10000
set_option linter.unusedSimpArgs false

theorem edge_rd (v j : Nat) (hj : j < 8) : rd (edgeL v) (j : Int) = edgeB v j := by
  rw [rd_nat]
  unfold edgeL
  rw [List.getD_eq_getElem?_getD, List.getElem?_map, List.getElem?_range hj]
  rfl
theorem edgeB_nat (v j : Nat) : edgeB v j = ((v / 2 ^ (8 * (7 - j)) % 256 : Nat) : Int) := by
  unfold edgeB
  rw [Int.natCast_emod, Int.natCast_ediv, Int.natCast_pow]
  rfl
theorem val_edge_to (v : Nat) (hv : v < 2 ^ 64) : ∀ j, j ≤ 8 → valN (edgeL v) j = v / 2 ^ (8 * (8 - j))
  | 0, _ => by
    show 0 = v / 2 ^ 64
    rw [Nat.div_eq_of_lt hv]
  | j + 1, hj => by
    show valN (edgeL v) j * 256 + (rd (edgeL v) (j : Int)).toNat = _
    rw [val_edge_to v hv j (by omega), edge_rd v j (by omega), edgeB_nat, Int.toNat_natCast]
    have e1 : 8 * (8 - j) = 8 * (7 - j) + 8 := by omega
    have e2 : 8 * (8 - (j + 1)) = 8 * (7 - j) := by omega
    rw [e1, e2, Nat.pow_add, ← Nat.div_div_eq_div_mul]
    generalize v / 2 ^ (8 * (7 - j)) = q
    omega
theorem val_edge (v : Nat) (hv : v < 2 ^ 64) : valN (edgeL v) 8 = v := by
  rw [val_edge_to v hv 8 (Nat.le_refl _)]
  simp
theorem edge_bytes (v : Nat) : Bytes (edgeL v) := fun x hx => by
  unfold edgeL at hx
  obtain ⟨j, hj, rfl⟩ := List.mem_map.1 hx
  rw [edgeB_nat]
  omega
theorem Bytes.app {l l' : List Int} (h : Bytes l) (h' : Bytes l') : Bytes (l ++ l') := fun x hx => (List.mem_append.1 hx).elim (h x) (h' x)
theorem Bytes.zeros (n : Nat) : Bytes (List.replicate n 0) := fun x hx => by rw [List.eq_of_mem_replicate hx]; decide
theorem Bytes.rev {l : List Int} (h : Bytes l) : Bytes l.reverse := fun x hx => h x (List.mem_reverse.1 hx)
theorem Bytes.drop {l : List Int} (h : Bytes l) (n : Nat) : Bytes (l.drop n) := fun x hx => h x (List.mem_of_mem_drop hx)
theorem stampN_lt (g e : Nat) (hg : g < 4294967296) (he : e < 4294967296) : stampN g e < 2 ^ 64 := by unfold stampN; omega
theorem orF_byte (f : Bool) (n : Nat) (hn : n ≤ 47) : 0 ≤ orF f n ∧ orF f n < 256 := by
  unfold orF
  cases f <;> simp <;> omega
theorem cellOf_bytes (g e : Nat) (f : Bool) (p : List Int) (hp : p.length ≤ 47) (hb : Bytes p) : Bytes (cellOf g e f p) := by
  unfold cellOf
  refine ((edge_bytes _).app (fun x hx => ?_)).app (edge_bytes _).rev
  rcases List.mem_cons.1 hx with h | h
  · rw [h]; exact orF_byte f _ hp
  · exact hb.app (Bytes.zeros _) x h
theorem cellOf_eq (g e : Nat) (f : Bool) (p : List Int) : cellOf g e f p = cell0 (edgeL (stampN g e)) (orF f p.length) p := rfl
theorem cell0_take (E : List Int) (hd : Int) (p : List Int) (hE : E.length = 8) : (cell0 E hd p).take 8 = E := by
  unfold cell0
  rw [List.append_assoc, List.take_append_of_le_length (by omega), List.take_of_length_le (by omega)]
theorem cell0_back (E : List Int) (hd : Int) (p : List Int) (hE : E.length = 8) (hp : p.length ≤ 47) : (cell0 E hd p).drop 56 = E.reverse := by
  unfold cell0
  rw [List.drop_append_of_le_length (by simp [hE]; omega), List.drop_eq_nil_of_le (by simp [hE]; omega), List.nil_append]
theorem cell0_head (E : List Int) (hd : Int) (p : List Int) (hE : E.length = 8) (hp : p.length ≤ 47) : rd (cell0 E hd p) 8 = hd := by
  show rd (cell0 E hd p) ((8 : Nat) : Int) = hd
  rw [rd_nat, List.getD_eq_getElem?_getD, cell0_get E hd p hE hp]
  rfl
theorem cell0_data (E : List Int) (hd : Int) (p : List Int) (hE : E.length = 8) (hp : p.length ≤ 47) : ((cell0 E hd p).drop 9).take 47 = p ++ List.replicate (47 - p.length) 0 := by
  apply List.ext_getElem?
  intro k
  rw [List.getElem?_take]
  by_cases hk : k < 47
  · rw [if_pos hk, List.getElem?_drop, cell0_get E hd p hE hp, if_neg (by omega), if_neg (by omega), if_pos (by omega)]
    congr 1; omega
  · rw [if_neg hk, List.getElem?_eq_none (by simp; omega)]
theorem cell0_piece (E : List Int) (hd : Int) (p : List Int) (hE : E.length = 8) (hp : p.length ≤ 47) : ((cell0 E hd p).drop 9).take p.length = p := by
  have h := congrArg (List.take p.length) (cell0_data E hd p hE hp)
  rw [List.take_take, Nat.min_eq_left (by omega), List.take_append_of_le_length (Nat.le_refl _), List.take_length] at h
  exact h
theorem head_n (f : Bool) (n : Nat) (hn : n ≤ 47) : (orF f n).toNat % 128 = n ∧ (128 ≤ (orF f n).toNat ↔ f = true) := by
  unfold orF
  cases f <;> simp <;> omega
theorem front_cell (g e : Nat) (f : Bool) (p : List Int) (hg : g < 4294967296) (he : e < 4294967296) : stampV (cellOf g e f p) = stampN g e := by
  unfold stampV
  rw [cellOf_eq, cell0_take _ _ _ (edgeL_len _), val_edge _ (stampN_lt g e hg he)]
theorem stampN_div (g e : Nat) (he : e < 4294967296) : stampN g e / 4294967296 = g := by unfold stampN; omega
theorem stampN_mod (g e : Nat) (he : e < 4294967296) : stampN g e % 4294967296 = e := by unfold stampN; omega
theorem read_cell (g e : Nat) (f : Bool) (p : List Int) (hg0 : 0 < g) (hg : g < 4294967296) (he : e < 4294967296) (hp0 : 0 < p.length) (hp : p.length ≤ 47) :
    readC (cellOf g e f p) = 0 ∧ headN (cellOf g e f p) = p.length ∧ (128 ≤ (rd (cellOf g e f p) 8).toNat ↔ f = true) := by
  have hE := edgeL_len (stampN g e)
  have hh : headN (cellOf g e f p) = p.length := by
    unfold headN
    rw [cellOf_eq, cell0_head _ _ _ hE hp]
    exact (head_n f p.length hp).1
  refine ⟨?_, hh, ?_⟩
  · unfold readC
    rw [if_neg (show ¬ ¬ backOK (cellOf g e f p) from fun h => h ?_), if_neg ?_, if_neg (show ¬ ¬ zerosOK (cellOf g e f p) from fun h => h ?_)]
    · unfold zerosOK
      rw [hh]
      have hl := cellOf_len g e f p hp
      apply List.ext_getElem?
      intro k
      rw [splice_get _ _ _ (by rw [List.length_replicate, hl]; omega), List.length_replicate, cellOf_eq, cell0_get _ _ _ hE hp]
      by_cases h1 : k < 9 + p.length
      · rw [if_pos h1]
      · rw [if_neg h1]
        by_cases h2 : k < 56
        · rw [if_pos (by omega), if_neg (by omega), if_neg (by omega), if_pos h2, List.getElem?_append_right (by omega), List.getElem?_replicate, List.getElem?_replicate, if_pos (by omega), if_pos (by omega)]
        · rw [if_neg (by omega)]
    · rw [front_cell g e f p hg he, stampN_div g e he, hh]
      omega
    · unfold backOK
      rw [cellOf_eq, cell0_take _ _ _ hE, cell0_back _ _ _ hE hp, List.reverse_reverse]
  · rw [cellOf_eq, cell0_head _ _ _ hE hp]
    exact (head_n f p.length hp).2
theorem data_cell (g e : Nat) (f : Bool) (p : List Int) (hp : p.length ≤ 47) : ((cellOf g e f p).drop 9).take p.length = p := by
  rw [cellOf_eq]
  exact cell0_piece _ _ _ (edgeL_len _) hp
theorem run_one (g e : Nat) (b : List Int) (h0 : 0 < b.length) (h1 : b.length ≤ 47) : runCells g e b = [cellOf g e true b] := by
  have hp : pieces b.length = 1 := by unfold pieces; omega
  have hu : upto b.length (pieces b.length) = [⟨0, by omega⟩] := by
    have h := upto_succ b.length 0 (by omega)
    rw [show upto b.length 0 = [] from rfl] at h
    have e : upto b.length (pieces b.length) = upto b.length (0 + 1) := congrArg (upto b.length) hp
    rw [e, h]
    rfl
  unfold runCells
  rw [hu]
  unfold cellsOf
  have hpc : pieceOf b 0 = b := by
    unfold pieceOf pieceL
    rw [Nat.mul_zero, List.drop_zero, Nat.sub_zero, List.take_of_length_le (by omega)]
  simp [hpc]
end Go.Proofs.Ythnjkmjcacoajaa.Ext
end

section
/- Small plain laws that many texts of this chapter need; strip.Read with the document's result. No condition beyond those that are stated. -/
namespace Go.Proofs.Ythnjkmjcacoajaa.Ext
open Go Go.RowKit Go.Proofs.YthnjkmjcacoajaaW.PrintWords Go.Proofs.YthnjkmjcacoajaaW.PrintLast Go.Proofs.YthnjkmjcacoajaaW.PrintMore Go.Proofs.Ythnjkmjcacoajaa.Base Go.Proofs.Ythnjkmjcacoajaa.Arr
set_option linter.unusedVariables false
set_option maxRecDepth 10000
set_option linter.unusedSimpArgs false

theorem runCells_rows (g e : Nat) (b : List Int) : ∀ r ∈ runCells g e b, r.length ≤ 64 := fun r hr => by
  unfold runCells cellsOf at hr
  obtain ⟨i, hi, rfl⟩ := List.mem_mapIdx.1 hr
  exact Nat.le_of_eq (cellOf_len _ _ _ _ (by rw [pieceOf_len]; exact pieceL_le _ _))
theorem runCells_len (g e : Nat) (b : List Int) : (runCells g e b).length = pieces b.length := by
  unfold runCells cellsOf
  rw [List.length_mapIdx, upto_length _ _ (Nat.le_refl _)]
theorem eqd_l0 (l l' : List Int) (hl : l.length ≤ 9223372036854775807) (he : l.length = l'.length) : ∀ n j q : Nat, j + n = l.length → encoreref00_EqBytes.l0 (q + n + 1) l l' (j : Int) = some (decide (l.drop j = l'.drop j))
  | 0, j, q, h => by
    rw [encoreref00_EqBytes.l0, if_neg (by omega), List.drop_eq_nil_of_le (by omega), List.drop_eq_nil_of_le (by omega)]
    rfl
  | n + 1, j, q, h => by
    have ih := eqd_l0 l l' hl he n (j + 1) q (by omega)
    show encoreref00_EqBytes.l0 (q + n + 1 + 1) l l' (j : Int) = _
    generalize q + n + 1 = F at *
    have hw : wrap64 ((j : Int) + 1) = ((j + 1 : Nat) : Int) := by unfold wrap64; omega
    rw [encoreref00_EqBytes.l0, if_pos (by omega), if_pos (by omega), if_pos (by omega), hw, ih]
    have e1 : l.drop j = rd l (j : Int) :: l.drop (j + 1) := by
      rw [List.drop_eq_getElem_cons (by omega : j < l.length), rd_nat, List.getD_eq_getElem?_getD, List.getElem?_eq_getElem (by omega)]; rfl
    have e2 : l'.drop j = rd l' (j : Int) :: l'.drop (j + 1) := by
      rw [List.drop_eq_getElem_cons (by omega : j < l'.length), rd_nat, List.getD_eq_getElem?_getD, List.getElem?_eq_getElem (by omega)]; rfl
    rw [e1, e2]
    by_cases h1 : rd l (j : Int) = rd l' (j : Int)
    · rw [if_pos h1, h1]
      congr 1
      by_cases h2 : l.drop (j + 1) = l'.drop (j + 1)
      · rw [decide_eq_true h2, decide_eq_true (by rw [h2])]
      · rw [decide_eq_false h2, decide_eq_false (fun h => h2 (List.cons.inj h).2)]
    · rw [if_neg h1, decide_eq_false (fun h => h1 (List.cons.inj h).1)]
theorem eq_dec (l l' : List Int) (hl : l.length ≤ 9223372036854775807) (k : Nat) (hk : l.length + 1 ≤ k) : encoreref00_EqBytes.f k l l' = some (decide (l = l')) := by
  unfold encoreref00_EqBytes.f
  by_cases he : l.length = l'.length
  · rw [if_pos (by omega)]
    obtain ⟨q, rfl⟩ : ∃ q, k = q + l.length + 1 := ⟨k - l.length - 1, by omega⟩
    have := eqd_l0 l l' hl he l.length 0 q (by omega)
    rw [List.drop_zero, List.drop_zero] at this
    exact this
  · rw [if_neg (by omega), decide_eq_false (fun h => he (by rw [h]))]
/-- what a cell answers, as the document's result -/
def readT (b : List Int) : Int × Int × Bool × List Int × Int :=
  if b.length ≠ 64 then (0, 0, false, [], 2) else if readC b ≠ 0 then (0, 0, false, [], readC b) else ((stampV b : Int) / 4294967296, (stampV b : Int) % 4294967296, decide (128 ≤ (rd b 8).toNat), (b.drop 9).take (headN b), 0)
/-- a cell's data as Read hands them out: amid a new block -/
def DataAt (W : World) (base : Nat) (v : Value) (l : List Int) : Prop :=
  (v = .slice none 0 0 ∧ l = []) ∨ ∃ (gb : Nat) (b : List Int), v = .slice (some ⟨gb, 9, none⟩) l.length l.length ∧ HoldsRow W gb 78 (rowK .u8 b) ∧ base ≤ gb ∧ b.length = 64 ∧ l = (b.drop 9).take l.length ∧ l.length ≤ 47
theorem DataAt.below {W W' : World} {base : Nat} {v : Value} {l : List Int} (h : DataAt W base v l) (hb : Below W.heap.size W W') : DataAt W' base v l := by
  rcases h with h | ⟨gb, b, h1, h2, h3⟩
  · exact .inl h
  · exact .inr ⟨gb, b, h1, h2.below hb h2.lt, h3⟩
theorem DataAt.form {W : World} {base : Nat} {v : Value} {l : List Int} (h : DataAt W base v l) : ∃ A, v = .slice A l.length l.length ∧ Kd.C (Kd.int .u8) W A l.length l := by
  rcases h with ⟨h, rfl⟩ | ⟨gb, b, h1, h2, h3, h4, h5, h6⟩
  · exact ⟨none, h, Kd.C_nil _ _⟩
  · refine ⟨_, h1, ?_⟩
    have := hold_C h2 9 l.length (by omega) (by omega)
    rw [← h5] at this
    exact this
theorem Read_T (w : World) (A : Option Addr) (c : Nat) (b : List Int) (hr : Kd.C (Kd.int .u8) w A b.length b) (hc : b.length ≤ c) (hb : Bytes b) :
    Calls Try.prog 57 #[.slice A b.length c] w fun e w' => ∃ v3, e = .returned (.tuple #[.agg #[.int .i64 (readT b).1, .int .i64 (readT b).2.1], .bool (readT b).2.2.1, v3, .int .i64 (readT b).2.2.2.2]) ∧ DataAt w' w.heap.size v3 (readT b).2.2.2.1 ∧ Below w.heap.size w w' := by
  unfold readT
  by_cases hl : b.length = 64
  · rw [if_neg (fun h => h hl)]
    rw [hl] at hr hc ⊢
    refine (Read_calls w A c b hr hc hb).mono ?_
    rintro e w' ⟨h1, h2, h3⟩
    by_cases h0 : readC b = 0
    · rw [if_neg (fun h => h h0)]
      obtain ⟨gb, he, hh, hg⟩ := h2 h0
      have hn : headN b ≤ 47 := by
        unfold readC at h0
        split at h0
        · cases h0
        · split at h0
          · cases h0
          · rename_i hh2; omega
      have hlen : ((b.drop 9).take (headN b)).length = headN b := by rw [List.length_take, List.length_drop]; omega
      refine ⟨_, he, .inr ⟨gb, b, by rw [hlen], hh, hg, hl, by rw [hlen], by rw [hlen]; exact hn⟩, h3⟩
    · rw [if_pos h0]
      exact ⟨_, h1 h0, .inl ⟨rfl, rfl⟩, h3⟩
  · rw [if_pos hl]
    refine (Read_none w A c b.length hl hr.2.1).mono ?_
    rintro e w' ⟨he, h3⟩
    exact ⟨_, he, .inl ⟨rfl, rfl⟩, h3⟩
theorem readT_err (b : List Int) : (readT b).2.2.2.1.length ≤ 47 := by
  unfold readT
  split
  · simp
  · split
    · simp
    · rename_i h1 h2
      show ((b.drop 9).take (headN b)).length ≤ 47
      rw [List.length_take]
      have h0 : readC b = 0 := Classical.not_not.1 h2
      unfold readC at h0
      split at h0
      · cases h0
      · split at h0
        · cases h0
        · rename_i hh2; omega
end Go.Proofs.Ythnjkmjcacoajaa.Ext
end

section
/- strip.Scan, walked. Condition: a million cells at most; bytes are bytes. -/
namespace Go.Proofs.Ythnjkmjcacoajaa.Ext
open Go Go.RowKit Go.Proofs.YthnjkmjcacoajaaW.PrintWords Go.Proofs.YthnjkmjcacoajaaW.PrintLast Go.Proofs.YthnjkmjcacoajaaW.PrintMore Go.Proofs.Ythnjkmjcacoajaa.Base Go.Proofs.Ythnjkmjcacoajaa.Arr
set_option linter.unusedVariables false
set_option maxRecDepth 10000
set_option linter.unusedSimpArgs false

/-- the last run made longer -/
def appLast (l : List (List Int)) (d : List Int) : List (List Int) := l.set (l.length - 1) (l.getD (l.length - 1) [] ++ d)
structure Sc where
  runs : List (List Int)
  epoch : Int
  first : Bool
def badS (g : Int) (st : Sc) (t : Int × Int × Bool × List Int × Int) : Prop := t.2.2.2.2 ≠ 0 ∨ t.1 ≠ g ∨ t.2.1 < st.epoch ∨ (t.2.2.1 = false ∧ (st.first = true ∨ t.2.1 ≠ st.epoch))
instance (g : Int) (st : Sc) (t : Int × Int × Bool × List Int × Int) : Decidable (badS g st t) := by unfold badS; infer_instance
def nextS (st : Sc) (t : Int × Int × Bool × List Int × Int) : Sc := ⟨appLast (if t.2.2.1 = true then st.runs ++ [[]] else st.runs) t.2.2.2.1, t.2.1, false⟩
def scanR (g : Int) : List (List Int) → Sc → List (List Int) × Int
  | [], st => (st.runs, 0)
  | c :: cs, st => if badS g st (readT c) then (st.runs, 0) else ((scanR g cs (nextS st (readT c))).1, (scanR g cs (nextS st (readT c))).2 + 1)
theorem scanR_cons (g : Int) (c : List Int) (cs : List (List Int)) (st : Sc) : scanR g (c :: cs) st = if badS g st (readT c) then (st.runs, 0) else ((scanR g cs (nextS st (readT c))).1, (scanR g cs (nextS st (readT c))).2 + 1) := rfl
theorem appLast_len (l : List (List Int)) (d : List Int) : (appLast l d).length = l.length := by unfold appLast; rw [List.length_set]
theorem appLast_bound (l : List (List Int)) (d : List Int) (n m : Nat) (hl : ∀ r ∈ l, r.length ≤ n) (hd : d.length ≤ m) : ∀ r ∈ appLast l d, r.length ≤ n + m := fun r hr => by
  unfold appLast at hr
  rcases List.mem_or_eq_of_mem_set hr with h | h
  · exact Nat.le_trans (hl r h) (Nat.le_add_right _ _)
  · rw [h, List.length_append]
    have : (l.getD (l.length - 1) []).length ≤ n := by
      rw [List.getD_eq_getElem?_getD]
      cases hq : l[l.length - 1]? with
      | none => exact Nat.zero_le _
      | some q => exact hl q (List.mem_of_getElem? hq)
    omega
/-- between two rounds: j cells count so far -/
structure ScI (g : Int) (l : List (List Int)) (st0 : Sc) (j : Nat) (st : Sc) : Prop where
  eq : scanR g l st0 = ((scanR g (l.drop j) st).1, (scanR g (l.drop j) st).2 + (j : Int))
  first : st.first = (j == 0)
  ne : j ≠ 0 → st.runs ≠ []
  len : st.runs.length ≤ j
  row : ∀ r ∈ st.runs, r.length ≤ 47 * j
theorem ScI.start (g : Int) (l : List (List Int)) (e : Int) : ScI g l ⟨[], e, true⟩ 0 ⟨[], e, true⟩ := ⟨by rw [List.drop_zero]; simp, rfl, fun h => absurd rfl h, Nat.le_refl _, fun r hr => by simp at hr⟩
theorem ScI.next {g : Int} {l : List (List Int)} {st0 st : Sc} {j : Nat} (h : ScI g l st0 j st) (hj : j < l.length) (hb : ¬ badS g st (readT (l.getD j []))) : ScI g l st0 (j + 1) (nextS st (readT (l.getD j []))) := by
  have hc : l.drop j = l.getD j [] :: l.drop (j + 1) := by
    rw [List.drop_eq_getElem_cons hj, List.getD_eq_getElem?_getD, List.getElem?_eq_getElem hj]; rfl
  have hbg : st.runs = [] → (readT (l.getD j [])).2.2.1 = true := by
    intro he
    have hj0 : j = 0 := by
      by_cases h0 : j = 0
      · exact h0
      · exact absurd he (h.ne h0)
    have hf : st.first = true := by rw [h.first, hj0]; rfl
    cases hq : (readT (l.getD j [])).2.2.1 with
    | true => rfl
    | false => exact absurd (show badS g st (readT (l.getD j [])) from .inr (.inr (.inr ⟨hq, .inl hf⟩))) hb
  refine ⟨?_, by show false = (j + 1 == 0); simp, fun _ => ?_, ?_, ?_⟩
  · rw [h.eq, hc, scanR_cons, if_neg hb]
    simp only [Int.natCast_add, Prod.mk.injEq, true_and]
    omega
  · intro he
    have hl0 : (nextS st (readT (l.getD j []))).runs.length = 0 := by rw [he]; rfl
    unfold nextS at hl0
    rw [appLast_len] at hl0
    split at hl0
    · simp at hl0
    · rename_i hq
      exact hq (hbg (List.eq_nil_of_length_eq_zero hl0))
  · unfold nextS
    rw [appLast_len]
    have := h.len
    split
    · simp; omega
    · omega
  · unfold nextS
    have hd := readT_err (l.getD j [])
    have h1 := appLast_bound (if (readT (l.getD j [])).2.2.1 = true then st.runs ++ [[]] else st.runs) (readT (l.getD j [])).2.2.2.1 (47 * j) 47 (fun r hr => by
      split at hr
      · rcases List.mem_append.1 hr with hq | hq
        · exact h.row r hq
        · rw [List.mem_singleton.1 hq]; exact Nat.zero_le _
      · exact h.row r hr) hd
    intro r hr
    have := h1 r hr
    omega
theorem ScI.stop {g : Int} {l : List (List Int)} {st0 st : Sc} {j : Nat} (h : ScI g l st0 j st) (hj : j < l.length) (hb : badS g st (readT (l.getD j []))) : scanR g l st0 = (st.runs, (j : Int)) := by
  have hc : l.drop j = l.getD j [] :: l.drop (j + 1) := by
    rw [List.drop_eq_getElem_cons hj, List.getD_eq_getElem?_getD, List.getElem?_eq_getElem hj]; rfl
  rw [h.eq, hc, scanR_cons, if_pos hb]
  simp
theorem ScI.done {g : Int} {l : List (List Int)} {st0 st : Sc} (h : ScI g l st0 l.length st) : scanR g l st0 = (st.runs, (l.length : Int)) := by
  rw [h.eq, List.drop_length]
  simp [scanR]
/-- the last run, lent for an append -/
theorem last_elem {W : World} {base : Nat} {A : Option Addr} {n c : Nat} {xs : List (List Int)} (h : Kd.S (Kd.slice 5 (Kd.int .u8)) 31 W base (fun _ => True) (.slice A n c) xs) (hn : n = xs.length) (h0 : 0 < n) :
    ∃ (gl : Nat) (A2 : Option Addr) (c2 : Nat) (oki : Nat → Prop), A = some ⟨gl, 0, none⟩ ∧ base ≤ gl ∧ gl < W.heap.size ∧ W.cell? ⟨gl, n - 1, none⟩ = some (.slice A2 (xs.getD (n - 1) []).length c2) ∧ W.frozen? ⟨gl, n - 1, none⟩ = false ∧
      Kd.R (Kd.int .u8) 5 W base oki (.slice A2 (xs.getD (n - 1) []).length c2) (xs.getD (n - 1) []) ∧ (∀ k, oki k → k ≠ gl) ∧ Kd.H (Kd.slice 5 (Kd.int .u8)) 31 W base (fun _ => True) (.slice (some ⟨gl, 0, none⟩) n c) xs ((n - 1 : Nat) : Int) oki [.slice A2 (xs.getD (n - 1) []).length c2] := by
  subst hn
  obtain ⟨gl, cap, hv, hb, hlt, -⟩ := Kd.S_form h h0
  injection hv with h1 h2 h3
  subst h1; subst h3
  obtain ⟨oki, cs, -, hM, hcc, hfr, hok, hH⟩ := Kd.S_elem h ([] : List Int) ((xs.length - 1 : Nat) : Int) (by omega) (by omega)
  rw [Int.toNat_natCast] at hM hcc hfr
  obtain ⟨v, rfl, hr⟩ := hM
  obtain ⟨A2, c2, rfl⟩ := Kd.R_slice hr
  have hc0 := hcc 0 _ rfl
  have hf0 := hfr 0
  have e : (xs.length - 1) * (Kd.slice 5 (Kd.int .u8)).sz + 0 = xs.length - 1 := by show (xs.length - 1) * 1 + 0 = _; omega
  rw [e] at hc0 hf0
  exact ⟨gl, A2, c2, oki, rfl, hb, hlt, hc0, hf0, hr, fun k hk => (hok k hk).2, hH⟩
/-- the run that was made longer, put back -/
theorem last_back {W w1 : World} {base gl n c : Nat} {A2 : Option Addr} {c2 : Nat} {oki : Nat → Prop} {xs : List (List Int)} {x d : List Int} {v1 : Value} (hH : Kd.H (Kd.slice 5 (Kd.int .u8)) 31 W base (fun _ => True) (.slice (some ⟨gl, 0, none⟩) n c) xs ((n - 1 : Nat) : Int) oki [.slice A2 x.length c2]) (h0 : 0 < n) (hx : x = xs.getD (n - 1) []) (hn : n = xs.length)
    (hR : Kd.R (Kd.int .u8) 5 W base oki (.slice A2 x.length c2) x) (hg : W.grownBy w1 (Value.slice A2 x.length c2).ownBlock) (ho : Kd.R (Kd.int .u8) 5 w1 base (fun k => oki k ∨ W.heap.size ≤ k) v1 (x ++ d)) :
    Kd.S (Kd.slice 5 (Kd.int .u8)) 31 (w1.setCell ⟨gl, n - 1, none⟩ v1) base (fun _ => True) (.slice (some ⟨gl, 0, none⟩) n c) (appLast xs d) := by
  have h1 := Kd.H_grown (Kd.H_widen hH) hg (fun k hk => .inl (hR.1 k hk))
  have h2 := (Kd.S_seg0 h1 (by omega) (by omega) (seg := [v1]) (j := 0) (x' := x ++ d) (okp := fun k => oki k ∨ W.heap.size ≤ k) (by show 0 + 1 ≤ 1; omega) ⟨v1, rfl, ho⟩ (fun k hk => hk.imp id (fun h => ⟨trivial, h⟩))).1
  have e : (((n - 1 : Nat) : Int).toNat * (Kd.slice 5 (Kd.int .u8)).sz + 0) = n - 1 := by rw [Int.toNat_natCast]; show (n - 1) * 1 + 0 = _; omega
  rw [e] at h2
  unfold appLast
  rw [← hn, ← hx]
  rw [Int.toNat_natCast] at h2
  exact h2
end Go.Proofs.Ythnjkmjcacoajaa.Ext
end

section
/- strip.Scan, walked. Condition: a million cells at most; bytes are bytes. -/
namespace Go.Proofs.Ythnjkmjcacoajaa.Ext
open Go Go.RowKit Go.Proofs.YthnjkmjcacoajaaW.PrintWords Go.Proofs.YthnjkmjcacoajaaW.PrintLast Go.Proofs.YthnjkmjcacoajaaW.PrintMore Go.Proofs.Ythnjkmjcacoajaa.Base Go.Proofs.Ythnjkmjcacoajaa.Arr
set_option linter.unusedVariables false
set_option maxRecDepth 10000
set_option linter.unusedSimpArgs false

theorem cell_move {W W1 : World} {b o : Nat} (h : W1.heap[b]? = W.heap[b]?) : W1.cell? ⟨b, o, none⟩ = W.cell? ⟨b, o, none⟩ := by simp [World.cell?, h]
theorem frozen_move {W W1 : World} {b o : Nat} (h : W1.heap[b]? = W.heap[b]?) : W1.frozen? ⟨b, o, none⟩ = W.frozen? ⟨b, o, none⟩ := by simp [World.frozen?, h]
theorem row_typed {W w5 : World} {b T e : Nat} {cs : Array Value} {v : Value} (hb : HoldsRow W b T cs) (hg : W.grownBy w5 v.ownBlock) (ht : ∀ k, v.ownBlock = some k → ∃ cells, W.heap[k]? = some (.cells cells e (0, 0))) (hT : T ≠ e) : HoldsRow w5 b T cs := by
  refine hr_move hb (hg.block b hb.lt (fun h => ?_))
  obtain ⟨cells, hc⟩ := ht b h.symm
  rw [show W.heap[b]? = _ from hb] at hc
  injection hc with hc
  injection hc with _ h2 _
  exact hT h2
theorem DataAt.grown {W w5 : World} {base : Nat} {u v : Value} {l : List Int} (h : DataAt W base v l) (hg : W.grownBy w5 u.ownBlock) (ht : ∀ k, u.ownBlock = some k → ∃ cells, W.heap[k]? = some (.cells cells 31 (0, 0))) : DataAt w5 base v l := by
  rcases h with h | ⟨gb, b, h1, h2, h3⟩
  · exact .inl h
  · exact .inr ⟨gb, b, h1, row_typed h2 hg ht (by decide), h3⟩
theorem DataAt.rows {W : World} {base : Nat} {A : Option Addr} {l : List Int} (h : DataAt W base (.slice A l.length l.length) l) : Kd.C (Kd.int .u8) W A l.length l := by
  obtain ⟨A', e, hc⟩ := h.form
  injection e with e _ _
  subst e
  exact hc
/-- what a cell's data, put behind the last run, leave -/
theorem scan_back {W w6 : World} {base gl Sb g9 : Nat} {c2 : Nat} {A6 : Option Addr} {c6 : Nat} {oki : Nat → Prop} {xs : List (List Int)} {x d : List Int} {v6 : Value} {T : Nat} {cs9 csb : Array Value} (hT : T ≠ 5) (hT2 : T ≠ 31)
    (hS : Kd.S (Kd.slice 5 (Kd.int .u8)) 31 W base (fun _ => True) (.slice (some ⟨gl, 0, none⟩) xs.length c2) xs)
    (hH : Kd.H (Kd.slice 5 (Kd.int .u8)) 31 W base (fun _ => True) (.slice (some ⟨gl, 0, none⟩) xs.length c2) xs ((xs.length - 1 : Nat) : Int) oki [.slice A6 x.length c6]) (h0 : 0 < xs.length) (hx : x = xs.getD (xs.length - 1) [])
    (hR : Kd.R (Kd.int .u8) 5 W base oki (.slice A6 x.length c6) x) (hok : ∀ k, oki k → k ≠ gl) (hg : W.grownBy w6 (Value.slice A6 x.length c6).ownBlock) (ho : Kd.R (Kd.int .u8) 5 w6 base (fun k => oki k ∨ W.heap.size ≤ k) v6 (x ++ d))
    (hSb : Sb < base) (hP : HoldsRow W Sb T csb) (hQ : HoldsRow W g9 T cs9) (hcell : W.cell? ⟨gl, xs.length - 1, none⟩ = some (.slice A6 x.length c6)) (hfro : W.frozen? ⟨gl, xs.length - 1, none⟩ = false) :
    Kd.S (Kd.slice 5 (Kd.int .u8)) 31 (w6.setCell ⟨gl, xs.length - 1, none⟩ v6) base (fun _ => True) (.slice (some ⟨gl, 0, none⟩) xs.length c2) (appLast xs d) ∧ HoldsRow (w6.setCell ⟨gl, xs.length - 1, none⟩ v6) Sb T csb ∧ HoldsRow (w6.setCell ⟨gl, xs.length - 1, none⟩ v6) g9 T cs9 ∧
      w6.cell? ⟨gl, xs.length - 1, none⟩ = some (.slice A6 x.length c6) ∧ w6.frozen? ⟨gl, xs.length - 1, none⟩ = false := by
  have hgl : base ≤ gl := Kd.S_base hS gl (by simp [Value.ownBlock])
  have hglt : gl < W.heap.size := Kd.S_lt hS gl (by simp [Value.ownBlock])
  obtain ⟨cl, hcl⟩ := Kd.S_typed hS gl (by simp [Value.ownBlock])
  have hne : ∀ b cs, HoldsRow W b T cs → b ≠ gl ∧ some b ≠ (Value.slice A6 x.length c6).ownBlock := by
    intro b cs hb
    refine ⟨fun e => ?_, fun e => ?_⟩
    · subst e
      rw [show W.heap[b]? = _ from hb] at hcl
      injection hcl with hcl
      injection hcl with _ h2 _
      exact hT2 h2
    · obtain ⟨cells, hc⟩ := Kd.R_typed hR b e.symm
      rw [show W.heap[b]? = _ from hb] at hc
      injection hc with hc
      injection hc with _ h2 _
      exact hT h2
  have hmv : ∀ b cs, HoldsRow W b T cs → HoldsRow (w6.setCell ⟨gl, xs.length - 1, none⟩ v6) b T cs := fun b cs hb => hr_move hb ((Below.heap_setCell w6 ⟨gl, xs.length - 1, none⟩ v6 b (hne b cs hb).1).trans (hg.block b hb.lt (hne b cs hb).2))
  have hb6 : w6.heap[gl]? = W.heap[gl]? := hg.block gl hglt (fun e => hok gl (hR.1 gl e.symm) rfl)
  exact ⟨last_back hH h0 hx rfl hR hg ho, hmv _ _ hP, hmv _ _ hQ, (cell_move hb6).trans hcell, (frozen_move hb6).trans hfro⟩
set_option maxHeartbeats 4000000 in
set_option maxRecDepth 100000 in
theorem Scan_calls (w : World) (A : Option Addr) (c : Nat) (l : List (List Int)) (g e : Int) (hr : (Kd.slice 5 (Kd.int .u8)).C w A l.length l) (hc : l.length ≤ c) (hb : ∀ r ∈ l, Bytes r) (hl : l.length ≤ 1000000) :
    Calls Try.prog 58 #[.slice A l.length c, .agg #[.int .i64 g, .int .i64 e]] w fun en w' => ∃ v, en = .returned (.tuple #[v, .int .i64 (scanR g l ⟨[], e, true⟩).2]) ∧ Kd.S (Kd.slice 5 (Kd.int .u8)) 31 w' w.heap.size (fun _ => True) v (scanR g l ⟨[], e, true⟩).1 ∧ Below w.heap.size w w' := by
  have HR := Aside0.mk hr
  have HC := Aside0.mk hc
  have HBY := Aside0.mk hb
  have HL := Aside0.mk hl
  clear hr hc hb hl
  obtain ⟨W1, hW1⟩ : ∃ W1, W1 = w.alloc (.cells #[.int .i64 g, .int .i64 e] 44) := ⟨_, rfl⟩
  obtain ⟨Sb, hSb⟩ : ∃ Sb, Sb = w.heap.size := ⟨_, rfl⟩
  have P1 := Aside0.mk (show HoldsRow W1 Sb 44 #[.int .i64 g, .int .i64 e] by rw [hW1, hSb]; exact HoldsRow.new _ _ _)
  have B1 := Aside0.mk (show Below w.heap.size w W1 by rw [hW1]; exact below_alloc (Below.refl _ _) _)
  have HSB := Aside0.mk (show Sb = w.heap.size ∧ W1.heap.size = Sb + 1 by rw [hW1, hSb]; exact ⟨rfl, alloc_size _ _⟩)
  have HW1 := Aside0.mk (show W1 = w.alloc (.cells #[.int .i64 g, .int .i64 e] 44) from hW1)
  have HSB' := Aside0.mk hSb
  clear hW1 hSb
  go_enter Try.func58, Try.ntmps58
  go_wp2_with fail
  rw [← HW1.out, ← HSB'.out]
  go_loopw [4, 5, 6, 17] (fun v n f i wr => ∃ (j : Nat) (st : Sc) (av : Option Addr) (cv : Nat), j ≤ l.length ∧ v = .slice av st.runs.length cv ∧ n = .int .i64 (j : Nat) ∧ f = .bool (j == 0) ∧ i = .int .i64 (j : Nat) ∧ Aside0 (ScI g l ⟨[], e, true⟩ j st) ∧ Aside0 (Kd.S (Kd.slice 5 (Kd.int .u8)) 31 wr W1.heap.size (fun _ => True) (.slice av st.runs.length cv) st.runs) ∧ Aside0 (HoldsRow wr Sb 44 #[.int .i64 g, .int .i64 st.epoch]) ∧ Aside0 (Below w.heap.size w wr ∧ W1.heap.size ≤ wr.heap.size)) (fun _ _ _ i _ => l.length - (intOf i).toNat)
  case atStart => exact ⟨0, ⟨[], e, true⟩, none, 0, by omega, rfl, rfl, rfl, rfl, ⟨ScI.start g l e⟩, ⟨Kd.S_nil _ _ _ _ _⟩, P1, ⟨B1.out, Nat.le_refl _⟩⟩
  case round =>
    obtain ⟨j, st, av, cv, hj, rfl, rfl, rfl, rfl, I, R, P, B⟩ := hrel
    clear P1 B1
    by_cases hlt : j < l.length
    · obtain ⟨ad, cs, rfl, -, ⟨A5, c5, rfl, hl5, hr5⟩, hcell⟩ := Kd.C_get (Kd.C_below HR.out B.out.1) ([] : List Int) (j : Int) (by omega) (by omega)
      rw [Int.toNat_natCast] at hcell hl5 hr5
      have K : wr.cell? (ad.add j) = some (.slice A5 (l.getD j []).length c5) := by
        have h : wr.cell? (ad.add (j * 1 + 0)) = some (.slice A5 (l.getD j []).length c5) := hcell 0 _ rfl
        rw [Nat.mul_one] at h
        exact h
      have hby : Bytes (l.getD j []) := by
        rw [List.getD_eq_getElem?_getD, List.getElem?_eq_getElem hlt]
        exact HBY.out _ (List.getElem_mem _)
      have hread := Read_T wr A5 c5 (l.getD j []) hr5 hl5 hby
      have hstop := fun h => I.out.stop hlt h
      have hnext := fun h => I.out.next hlt h
      have hdl := readT_err (l.getD j [])
      obtain ⟨m, hm⟩ : ∃ m, m = (l.getD j []).length := ⟨_, rfl⟩
      rw [← hm] at K hread
      obtain ⟨s1, s2, bg, dat, er, hT⟩ : ∃ s1 s2 bg dat er, readT (l.getD j []) = (s1, s2, bg, dat, er) := ⟨_, _, _, _, _, rfl⟩
      rw [hT] at hread hstop hnext hdl
      have HST := Aside0.mk hstop
      have HNX := Aside0.mk hnext
      have HDL := Aside0.mk (show dat.length ≤ 47 from hdl)
      have HRD := Aside0.mk hread
      have d1 : decide ((j : Int) < (l.length : Int)) = true := decide_eq_true (by omega)
      have b0 := eq_true (show (0 : Int) ≤ (j : Int) by omega)
      have b1 := eq_true (show (j : Int) < (l.length : Int) by omega)
      clear hcell hl5 hr5 hby hread hstop hnext hdl hm hT
      go_wp2_with fail
      refine HRD.out.mono ?_
      rintro e3 w3 ⟨v3, rfl, hD, hb3⟩
      obtain ⟨A3, hv3, -⟩ := hD.form
      have hD' : DataAt w3 wr.heap.size v3 dat := hD
      subst hv3
      have R3 := Aside0.mk (Kd.S_below R.out hb3)
      have P3 := Aside0.mk (P.out.below hb3 P.out.lt)
      have B3 := Aside0.mk (And.intro (B.out.1.trans (hb3.mono B.out.1.size)) (Nat.le_trans B.out.2 hb3.size))
      obtain ⟨g9, hg9⟩ : ∃ g9, g9 = w3.heap.size := ⟨_, rfl⟩
      obtain ⟨W4, hW4⟩ : ∃ W4, W4 = (w3.alloc (.cells #[.int .i64 0, .int .i64 0] 44)).setRow w3.heap.size #[.int .i64 s1, .int .i64 s2] := ⟨_, rfl⟩
      have HNEW := Aside0.mk (show HoldsRow (w3.alloc (.cells #[.int .i64 0, .int .i64 0] 44)) w3.heap.size 44 s00 from HoldsRow.new _ _ _)
      have hb4 : Below w3.heap.size w3 W4 := by rw [hW4]; exact Go.Proofs.Ythnjkmjcacoajaa.Arr.below_setRow (below_alloc (Below.refl w3.heap.size w3) _) _ (Nat.le_refl _)
      have Q4 := Aside0.mk (show HoldsRow W4 g9 44 #[.int .i64 s1, .int .i64 s2] by rw [hW4, hg9]; exact HNEW.out.row _)
      have R4 := Aside0.mk (Kd.S_below R3.out hb4)
      have P4 := Aside0.mk (P3.out.below hb4 P3.out.lt)
      have D4 := Aside0.mk (DataAt.below hD' hb4)
      have B4 := Aside0.mk (And.intro (B3.out.1.trans (hb4.mono B3.out.1.size)) (Nat.le_trans B3.out.2 hb4.size))
      have HG9 := Aside0.mk hg9
      have HW4 := Aside0.mk hW4
      have HGG := Aside0.mk (show W1.heap.size ≤ g9 by rw [hg9]; exact B3.out.2)
      have K0 : W4.cell? ⟨w3.heap.size, 0, none⟩ = some (.int .i64 s1) := by rw [← hg9]; exact Q4.out.cell rfl
      have K1 : W4.cell? ⟨w3.heap.size, 1, none⟩ = some (.int .i64 s2) := by rw [← hg9]; exact Q4.out.cell rfl
      have K2 : W4.cell? ⟨Sb, 0, none⟩ = some (.int .i64 g) := P4.out.cell rfl
      have K3 : W4.cell? ⟨Sb, 1, none⟩ = some (.int .i64 st.epoch) := P4.out.cell rfl
      have hsz2 : (#[Value.int .i64 s1, Value.int .i64 s2] : Array Value).size = 2 := rfl
      clear hD hD' hb3 hb4 hW4 hg9 R3 P3 B3 R P B K
      by_cases her : er = 0
      case neg =>
        have e0 : (er == 0) = false := beq_eq_false_iff_ne.2 her
        have e1 : (er != 0) = true := bne_iff_ne.2 her
        have hs := Aside0.mk (HST.out (.inl her))
        go_wp2_with (refine wpList_store_row rfl 44 (.tmp 9) (.tmp 24) rfl w3.heap.size #[.int .i64 s1, .int .i64 s2] rfl rfl 44 s00 HNEW.out (by kernel_rfl) rfl (by simp [Value.oneCell']) ?_; rw [← HW4.out])
        go_ret2
        exact ⟨_, by rw [hs.out] <;> rfl, by rw [hs.out]; exact Kd.S_lower R4.out (by have := HSB.out; omega), B4.out.1⟩
      subst her
      by_cases hs1 : s1 = g
      case neg =>
        have e0 : (s1 == g) = false := beq_eq_false_iff_ne.2 hs1
        have e1 : (s1 != g) = true := bne_iff_ne.2 hs1
        have hs := Aside0.mk (HST.out (.inr (.inl hs1)))
        go_wp2_with (refine wpList_store_row rfl 44 (.tmp 9) (.tmp 24) rfl w3.heap.size #[.int .i64 s1, .int .i64 s2] rfl rfl 44 s00 HNEW.out (by kernel_rfl) rfl (by simp [Value.oneCell']) ?_; rw [← HW4.out])
        go_ret2
        exact ⟨_, by rw [hs.out] <;> rfl, by rw [hs.out]; exact Kd.S_lower R4.out (by have := HSB.out; omega), B4.out.1⟩
      subst hs1
      by_cases hs2 : s2 < st.epoch
      case pos =>
        have e0 : decide (s2 < st.epoch) = true := decide_eq_true hs2
        have hs := Aside0.mk (HST.out (.inr (.inr (.inl hs2))))
        go_wp2_with (refine wpList_store_row rfl 44 (.tmp 9) (.tmp 24) rfl w3.heap.size #[.int .i64 s1, .int .i64 s2] rfl rfl 44 s00 HNEW.out (by kernel_rfl) rfl (by simp [Value.oneCell']) ?_; rw [← HW4.out])
        go_ret2
        exact ⟨_, by rw [hs.out] <;> rfl, by rw [hs.out]; exact Kd.S_lower R4.out (by have := HSB.out; omega), B4.out.1⟩
      have e0 : decide (s2 < st.epoch) = false := decide_eq_false hs2
      cases bg with
      | true =>
        have hnb : ¬ badS s1 st (s1, s2, true, dat, 0) := by
          rintro (h | h | h | ⟨h, -⟩)
          · exact h rfl
          · exact h rfl
          · exact hs2 h
          · exact absurd (show true = false from h) (by decide)
        obtain ⟨xs, hxs⟩ : ∃ xs, xs = st.runs ++ [[]] := ⟨_, rfl⟩
        have HN := Aside0.mk (HNX.out hnb)
        have hns : nextS st (s1, s2, true, dat, 0) = ⟨appLast xs dat, s2, false⟩ := by rw [hxs]; rfl
        rw [hns] at HN
        have hxl : xs.length = st.runs.length + 1 := by rw [hxs]; simp
        have HXL := Aside0.mk (show xs.length ≤ j + 1 by have := I.out.len; omega)
        have hpos : 0 < xs.length := by omega
        have HXROW := Aside0.mk (show (xs.getD (xs.length - 1) []).length ≤ 47 * l.length by
          rw [hxs, List.getD_eq_getElem?_getD]
          cases hq : (st.runs ++ [[]])[(st.runs ++ [[]]).length - 1]? with
          | none => exact Nat.zero_le _
          | some q =>
            rcases List.mem_append.1 (List.mem_of_getElem? hq) with h | h
            · exact Nat.le_trans (I.out.row q h) (Nat.mul_le_mul_left _ hj)
            · rw [List.mem_singleton.1 h]; exact Nat.zero_le _)
        have HRL := Aside0.mk I.out.len
        have HXS := Aside0.mk hxs
        have HXLEN := Aside0.mk hxl
        have HPOS0 := Aside0.mk hpos
        have PQ4 := Aside0.mk (show HoldsRow W4 w3.heap.size 44 #[.int .i64 s1, .int .i64 s2] by rw [← HG9.out]; exact Q4.out)
        clear hns hxs hxl hpos hnb
        go_wp2_with (first | (refine wpList_store_row rfl 44 (.tmp 9) (.tmp 24) rfl w3.heap.size #[.int .i64 s1, .int .i64 s2] rfl rfl 44 s00 HNEW.out (by kernel_rfl) rfl (by simp [Value.oneCell']) ?_; rw [← HW4.out]) | (at_builtin; refine Kd.S_append (Kd.slice 5 (Kd.int .u8)) (w0 := W4) (W := W4) W1.heap.size rfl (.tmp 61) (.tmp 62) 37 31 (.slice none 0 0) 24 rfl Try.underlying37 (by kernel_rfl) rfl (by decide) (by decide) (.slice av st.runs.length cv) st.runs [] [.slice none 0 0] (fun _ => True) (fun _ => False) rfl rfl ⟨_, rfl, Kd.R_nil _ _ _ _ _⟩ (fun _ h => h.elim) (fun _ _ => trivial) (Kd.S_mono R4.out (fun _ _ => ⟨trivial, fun h => h⟩)) (Below.refl _ _) B4.out.2 ?aM ?_; (case aM => have := HRL.out; have := HL.out; omega); intro v5 w5 ho5 hb5 hg5 hat5; rw [← HXS.out] at ho5; obtain ⟨ax, cx, e5⟩ := Kd.S_slice ho5; subst e5; have RT := Aside0.mk ho5; have hgr : ∀ b T cs, T ≠ 31 → HoldsRow W4 b T cs → HoldsRow w5 b T cs := (fun b T cs hT hb => row_typed hb hg5 (Kd.S_typed R4.out) hT); have PT := Aside0.mk (hgr _ _ _ (by decide) P4.out); have QT := Aside0.mk (hgr _ _ _ (by decide) PQ4.out); have DT := Aside0.mk (D4.out.grown hg5 (Kd.S_typed R4.out)); have BT := Aside0.mk (show Below w.heap.size w w5 ∧ W1.heap.size ≤ w5.heap.size from ⟨B4.out.1.grown hg5 B4.out.1.size (fun k h => by have := Kd.S_base R4.out k h; have := HSB.out; omega), Nat.le_trans B4.out.2 hg5.size⟩); have hpos := HPOS0.out; clear hgr ho5 hb5 hg5 hat5; obtain ⟨gl, A6, c6, oki, hax, hgb, hgl, hcell, hfro, hrow, hokg, hH⟩ := last_elem RT.out rfl hpos; subst hax; obtain ⟨x, hx⟩ : ∃ x, x = xs.getD (xs.length - 1) [] := ⟨_, rfl⟩; rw [← hx] at hcell hrow hH; have f1 := eq_true (show (0 : Int) ≤ ((xs.length - 1 : Nat) : Int) by omega); have f2 := eq_true (show ((xs.length - 1 : Nat) : Int) < (xs.length : Int) by omega); have f3 : wrap64 ((xs.length : Int) - 1) = ((xs.length - 1 : Nat) : Int) := (by have := HXL.out; have := HL.out; unfold wrap64; omega); have HROW := Aside0.mk hrow; have HHH := Aside0.mk hH; have HOKG := Aside0.mk hokg; have HX := Aside0.mk hx; have HCE := Aside0.mk hcell; have HFR := Aside0.mk hfro; have HPOS := Aside0.mk hpos; have HXB := Aside0.mk (show x.length ≤ 47 * l.length by rw [hx]; exact HXROW.out); clear hrow hH hokg hx hgb hgl; first | rw [← HXLEN.out] | skip) | (at_builtin; refine Kd.R_append_rows (Kd.int .u8) (w0 := w5) (W := w5) W1.heap.size rfl (.tmp 72) (.tmp 73) 31 5 (.int .u8 0) 1 rfl Try.underlying31 (by kernel_rfl) rfl (by decide) (by decide) (.slice A6 x.length c6) x dat A3 dat.length dat.length (fun k => oki k ∨ w5.heap.size ≤ k) (fun _ => False) rfl rfl (Kd.R_mono HROW.out (fun k hk => .inl hk)) DT.out.rows (fun _ _ h => h) (fun _ h => h.elim) (fun k hk => .inr hk) (Below.refl _ _) BT.out.2 ?aL ?_; (case aL => have := HXB.out; have := HL.out; have := HDL.out; have : 47 * l.length ≤ 47 * 1000000 := Nat.mul_le_mul_left _ HL.out; omega); intro v6 w6 ho hb6 hg6 hat; obtain ⟨h8, h9, h10, h11, h12⟩ := scan_back (T := 44) (by decide) (by decide) RT.out HHH.out HPOS.out HX.out HROW.out HOKG.out hg6 ho (by have := HSB.out; omega) PT.out QT.out HCE.out HFR.out; have G6 := Aside0.mk hg6; have BB6 := Aside0.mk hb6; have HOB := Aside0.mk (show ∀ k, (Value.slice A6 x.length c6).ownBlock = some k → W1.heap.size ≤ k from fun k hk => Kd.R_base HROW.out k hk); obtain ⟨A7, c7, e7⟩ := Kd.R_slice ho; subst e7; obtain ⟨q7, hq7⟩ : ∃ q7, q7 = (x ++ dat).length := ⟨_, rfl⟩; rw [← hq7] at h8 h9 h10 ⊢; have R8 := Aside0.mk h8; have P8 := Aside0.mk h9; have Q8 := Aside0.mk h10; clear h8 h9 h10 ho hb6 hg6 hat hq7) | (refine wpList_load_row rfl 44 (.tmp 9) rfl w3.heap.size rfl 44 #[.int .i64 s1, .int .i64 s2] (0, 0) _ (show HoldsRow _ w3.heap.size 44 #[.int .i64 s1, .int .i64 s2] from Q8.out) Try.underlying44 rfl (by kernel_rfl) ?_) | (refine wpList_store_row rfl 44 (.tmp 3) (.tmp 76) rfl Sb #[.int .i64 s1, .int .i64 s2] rfl rfl 44 #[.int .i64 s1, .int .i64 st.epoch] P8.out (by kernel_rfl) rfl (by simp [Value.oneCell']) ?_))
        have hw1 : wrap64 ((j : Int) + 1) = ((j + 1 : Nat) : Int) := by have := HL.out; unfold wrap64; omega
        have hgl := Kd.S_base R8.out gl (by simp [Value.ownBlock])
        have hSbw := HSB.out
        obtain ⟨W7, hW7⟩ : ∃ W7, W7 = w6.setCell ⟨gl, xs.length - 1, none⟩ (.slice A7 q7 c7) := ⟨_, rfl⟩
        have h6 : Below w.heap.size w w6 := BT.out.1.grown G6.out BT.out.1.size (fun k h => by have := HOB.out k h; omega)
        have h7 : Below w.heap.size w W7 := by rw [hW7]; exact h6.setCell (p := ⟨gl, xs.length - 1, none⟩) (show w.heap.size ≤ gl by omega) _
        have hs7 : W1.heap.size ≤ W7.heap.size := by
          have h1 := BT.out.2
          have h2 := G6.out.size
          have h3 : w6.heap.size ≤ W7.heap.size := by rw [hW7]; exact (KeepsOthers.setCell w6 _ _).size
          omega
        rw [← hW7] at R8 P8 ⊢
        have h8 := Go.Proofs.Ythnjkmjcacoajaa.Arr.below_setRow (B := w.heap.size) (b := Sb) h7 #[.int .i64 s1, .int .i64 s2] (by omega)
        have hs8 := (Go.Proofs.Ythnjkmjcacoajaa.Arr.below_setRow (B := Sb) (b := Sb) (Below.refl Sb W7) #[.int .i64 s1, .int .i64 s2] (Nat.le_refl _)).size
        refine ⟨⟨j + 1, ⟨appLast xs dat, s2, false⟩, some ⟨gl, 0, none⟩, cx, by omega, by rw [show (Sc.mk (appLast xs dat) s2 false).runs = appLast xs dat from rfl, appLast_len], by rw [hw1], by simp, by rw [hw1], HN, ⟨?_⟩, ⟨?_⟩, ⟨h8, Nat.le_trans hs7 hs8⟩⟩, ?_⟩
        · show Kd.S (Kd.slice 5 (Kd.int .u8)) 31 _ W1.heap.size (fun _ => True) (.slice (some ⟨gl, 0, none⟩) (appLast xs dat).length cx) (appLast xs dat)
          rw [appLast_len]
          exact Kd.S_mono (Kd.S_step (Kd.S_bound R8.out) (fun k hk _ => setRow_other W7 Sb k _ (by have := hk.2.1; omega))) (fun _ _ => trivial)
        · exact P8.out.row _
        · rw [hw1]
          show l.length - ((j + 1 : Nat) : Int).toNat < l.length - (j : Int).toNat
          omega
      | false =>
        by_cases hj0 : j = 0
        · subst hj0
          have e1 : ((0 : Nat) == 0) = true := rfl
          have hs := Aside0.mk (HST.out (.inr (.inr (.inr ⟨rfl, .inl (I.out.first.trans e1)⟩))))
          go_wp2_with (refine wpList_store_row rfl 44 (.tmp 9) (.tmp 24) rfl w3.heap.size #[.int .i64 s1, .int .i64 s2] rfl rfl 44 s00 HNEW.out (by kernel_rfl) rfl (by simp [Value.oneCell']) ?_; rw [← HW4.out])
          go_ret2
          exact ⟨_, by rw [hs.out] <;> rfl, by rw [hs.out]; exact Kd.S_lower R4.out (by have := HSB.out; omega), B4.out.1⟩
        have e1 : (j == 0) = false := by simpa using hj0
        by_cases hs3 : s2 = st.epoch
        case neg =>
          have e2 : (s2 == st.epoch) = false := beq_eq_false_iff_ne.2 hs3
          have hs := Aside0.mk (HST.out (.inr (.inr (.inr ⟨rfl, .inr hs3⟩))))
          go_wp2_with (refine wpList_store_row rfl 44 (.tmp 9) (.tmp 24) rfl w3.heap.size #[.int .i64 s1, .int .i64 s2] rfl rfl 44 s00 HNEW.out (by kernel_rfl) rfl (by simp [Value.oneCell']) ?_; rw [← HW4.out])
          go_ret2
          exact ⟨_, by rw [hs.out] <;> rfl, by rw [hs.out]; exact Kd.S_lower R4.out (by have := HSB.out; omega), B4.out.1⟩
        have e2 : (s2 == st.epoch) = true := by rw [hs3]; exact beq_self_eq_true _
        have hnb : ¬ badS s1 st (s1, s2, false, dat, 0) := by
          rintro (h | h | h | ⟨-, h | h⟩)
          · exact h rfl
          · exact h rfl
          · exact hs2 h
          · rw [I.out.first, e1] at h; exact absurd h (by decide)
          · exact h hs3
        obtain ⟨xs, hxs⟩ : ∃ xs, xs = st.runs := ⟨_, rfl⟩
        have HN := Aside0.mk (HNX.out hnb)
        have hns : nextS st (s1, s2, false, dat, 0) = ⟨appLast xs dat, s2, false⟩ := by rw [hxs]; rfl
        rw [hns] at HN
        have HXL := Aside0.mk (show xs.length ≤ j + 1 by rw [hxs]; have := I.out.len; omega)
        have hpos : 0 < xs.length := by rw [hxs]; exact List.length_pos_iff.2 (I.out.ne hj0)
        have HXROW := Aside0.mk (show (xs.getD (xs.length - 1) []).length ≤ 47 * l.length by
          rw [hxs, List.getD_eq_getElem?_getD]
          cases hq : st.runs[st.runs.length - 1]? with
          | none => exact Nat.zero_le _
          | some q => exact Nat.le_trans (I.out.row q (List.mem_of_getElem? hq)) (Nat.mul_le_mul_left _ hj))
        have RT := Aside0.mk (show Kd.S (Kd.slice 5 (Kd.int .u8)) 31 W4 W1.heap.size (fun _ => True) (.slice av xs.length cv) xs by rw [hxs]; exact R4.out)
        rw [← hxs]
        have PT := P4
        have QT := Aside0.mk (show HoldsRow W4 w3.heap.size 44 #[.int .i64 s1, .int .i64 s2] by rw [← HG9.out]; exact Q4.out)
        have DT := D4
        have BT := B4
        have HEP := Aside0.mk hs3
        clear hns hxs P4 Q4 D4 B4 R4 hs3
        obtain ⟨gl, A6, c6, oki, hax, hgb, hgl, hcell, hfro, hrow, hokg, hH⟩ := last_elem RT.out rfl hpos
        subst hax
        obtain ⟨x, hx⟩ : ∃ x, x = xs.getD (xs.length - 1) [] := ⟨_, rfl⟩
        rw [← hx] at hcell hrow hH
        have f1 := eq_true (show (0 : Int) ≤ ((xs.length - 1 : Nat) : Int) by omega)
        have f2 := eq_true (show ((xs.length - 1 : Nat) : Int) < (xs.length : Int) by omega)
        have f3 : wrap64 ((xs.length : Int) - 1) = ((xs.length - 1 : Nat) : Int) := by have := HXL.out; have := HL.out; unfold wrap64; omega
        have HROW := Aside0.mk hrow
        have HHH := Aside0.mk hH
        have HOKG := Aside0.mk hokg
        have HX := Aside0.mk hx
        have HCE := Aside0.mk hcell
        have HFR := Aside0.mk hfro
        have HPOS := Aside0.mk hpos
        have HXB := Aside0.mk (show x.length ≤ 47 * l.length by rw [hx]; exact HXROW.out)
        clear hrow hH hokg hx hgb hgl
        go_wp2_with (first | (refine wpList_store_row rfl 44 (.tmp 9) (.tmp 24) rfl w3.heap.size #[.int .i64 s1, .int .i64 s2] rfl rfl 44 s00 HNEW.out (by kernel_rfl) rfl (by simp [Value.oneCell']) ?_; rw [← HW4.out]) | (at_builtin; refine Kd.R_append_rows (Kd.int .u8) (w0 := W4) (W := W4) W1.heap.size rfl (.tmp 72) (.tmp 73) 31 5 (.int .u8 0) 1 rfl Try.underlying31 (by kernel_rfl) rfl (by decide) (by decide) (.slice A6 x.length c6) x dat A3 dat.length dat.length (fun k => oki k ∨ W4.heap.size ≤ k) (fun _ => False) rfl rfl (Kd.R_mono HROW.out (fun k hk => .inl hk)) DT.out.rows (fun _ _ h => h) (fun _ h => h.elim) (fun k hk => .inr hk) (Below.refl _ _) BT.out.2 ?aL ?_; (case aL => have := HXB.out; have := HL.out; have := HDL.out; have : 47 * l.length ≤ 47 * 1000000 := Nat.mul_le_mul_left _ HL.out; omega); intro v6 w6 ho hb6 hg6 hat; obtain ⟨h8, h9, h10, h11, h12⟩ := scan_back (T := 44) (by decide) (by decide) RT.out HHH.out HPOS.out HX.out HROW.out HOKG.out hg6 ho (by have := HSB.out; omega) PT.out QT.out HCE.out HFR.out; have G6 := Aside0.mk hg6; have BB6 := Aside0.mk hb6; have HOB := Aside0.mk (show ∀ k, (Value.slice A6 x.length c6).ownBlock = some k → W1.heap.size ≤ k from fun k hk => Kd.R_base HROW.out k hk); obtain ⟨A7, c7, e7⟩ := Kd.R_slice ho; subst e7; obtain ⟨q7, hq7⟩ : ∃ q7, q7 = (x ++ dat).length := ⟨_, rfl⟩; rw [← hq7] at h8 h9 h10 ⊢; have R8 := Aside0.mk h8; have P8 := Aside0.mk h9; have Q8 := Aside0.mk h10; clear h8 h9 h10 ho hb6 hg6 hat hq7) | (refine wpList_load_row rfl 44 (.tmp 9) rfl w3.heap.size rfl 44 #[.int .i64 s1, .int .i64 s2] (0, 0) _ (show HoldsRow _ w3.heap.size 44 #[.int .i64 s1, .int .i64 s2] from Q8.out) Try.underlying44 rfl (by kernel_rfl) ?_) | (refine wpList_store_row rfl 44 (.tmp 3) (.tmp 76) rfl Sb #[.int .i64 s1, .int .i64 s2] rfl rfl 44 #[.int .i64 s1, .int .i64 st.epoch] P8.out (by kernel_rfl) rfl (by simp [Value.oneCell']) ?_))
        have hw1 : wrap64 ((j : Int) + 1) = ((j + 1 : Nat) : Int) := by have := HL.out; unfold wrap64; omega
        have hgl := Kd.S_base R8.out gl (by simp [Value.ownBlock])
        have hSbw := HSB.out
        obtain ⟨W7, hW7⟩ : ∃ W7, W7 = w6.setCell ⟨gl, xs.length - 1, none⟩ (.slice A7 q7 c7) := ⟨_, rfl⟩
        have h6 : Below w.heap.size w w6 := BT.out.1.grown G6.out BT.out.1.size (fun k h => by have := HOB.out k h; omega)
        have h7 : Below w.heap.size w W7 := by rw [hW7]; exact h6.setCell (p := ⟨gl, xs.length - 1, none⟩) (show w.heap.size ≤ gl by omega) _
        have hs7 : W1.heap.size ≤ W7.heap.size := by
          have h1 := BT.out.2
          have h2 := G6.out.size
          have h3 : w6.heap.size ≤ W7.heap.size := by rw [hW7]; exact (KeepsOthers.setCell w6 _ _).size
          omega
        rw [← hW7] at R8 P8 ⊢
        have h8 := Go.Proofs.Ythnjkmjcacoajaa.Arr.below_setRow (B := w.heap.size) (b := Sb) h7 #[.int .i64 s1, .int .i64 s2] (by omega)
        have hs8 := (Go.Proofs.Ythnjkmjcacoajaa.Arr.below_setRow (B := Sb) (b := Sb) (Below.refl Sb W7) #[.int .i64 s1, .int .i64 s2] (Nat.le_refl _)).size
        refine ⟨⟨j + 1, ⟨appLast xs dat, s2, false⟩, some ⟨gl, 0, none⟩, cv, by omega, by rw [show (Sc.mk (appLast xs dat) s2 false).runs = appLast xs dat from rfl, appLast_len], by rw [hw1], by simp, by rw [hw1], HN, ⟨?_⟩, ⟨?_⟩, ⟨h8, Nat.le_trans hs7 hs8⟩⟩, ?_⟩
        · show Kd.S (Kd.slice 5 (Kd.int .u8)) 31 _ W1.heap.size (fun _ => True) (.slice (some ⟨gl, 0, none⟩) (appLast xs dat).length cv) (appLast xs dat)
          rw [appLast_len]
          exact Kd.S_mono (Kd.S_step (Kd.S_bound R8.out) (fun k hk _ => setRow_other W7 Sb k _ (by have := hk.2.1; omega))) (fun _ _ => trivial)
        · exact P8.out.row _
        · rw [hw1]
          show l.length - ((j + 1 : Nat) : Int).toNat < l.length - (j : Int).toNat
          omega
    · obtain rfl : j = l.length := by omega
      have d1 : decide ((l.length : Int) < (l.length : Int)) = false := decide_eq_false (by omega)
      have hd := Aside0.mk I.out.done
      clear hlt
      go_wp2_with fail
      go_ret2
      exact ⟨_, by rw [hd.out] <;> rfl, by rw [hd.out]; exact Kd.S_lower R.out (by have := HSB.out; omega), B.out.1⟩
end Go.Proofs.Ythnjkmjcacoajaa.Ext
end

section
/- Both Scans, as the printed texts speak of a function. Condition: a million cells at most; bytes are bytes. -/
namespace Go.Proofs.Ythnjkmjcacoajaa.Ext
open Go Go.RowKit Go.Proofs.YthnjkmjcacoajaaW.PrintWords Go.Proofs.YthnjkmjcacoajaaW.PrintLast Go.Proofs.YthnjkmjcacoajaaW.PrintMore Go.Proofs.Ythnjkmjcacoajaa.Base Go.Proofs.Ythnjkmjcacoajaa.Arr
set_option linter.unusedVariables false
set_option maxRecDepth 10000
set_option linter.unusedSimpArgs false

def rowsB (l : List (List Int)) : Bool := l.all bytesB
theorem rows_of {l : List (List Int)} (h : rowsB l = true) : ∀ r ∈ l, Bytes r := fun r hr => bytes_of (List.all_eq_true.1 h r hr)
theorem rows_to {l : List (List Int)} (h : ∀ r ∈ l, Bytes r) : rowsB l = true := List.all_eq_true.2 fun r hr => bytes_to (h r hr)
def strip_Scan.f (l0 : List (List Int)) (a1_0 a1_1 : Int) : Option (List (List Int) × Int) := if rowsB l0 = true ∧ l0.length ≤ 1000000 then some (scanR a1_0 l0 ⟨[], a1_1, true⟩) else none
theorem strip_Scan.calls (A0 : Option Addr) (c0 : Nat) (l0 : List (List Int)) (a1_0 a1_1 : Int) (r1 : List (List Int)) (r2 : Int) (w : World) (hr0 : Kd.C (Kd.slice 5 (Kd.int .u8)) w A0 l0.length l0) (hc0 : l0.length ≤ c0) (h : strip_Scan.f l0 a1_0 a1_1 = some (r1, r2)) :
    Calls Try.prog 58 #[.slice A0 l0.length c0, .agg #[.int .i64 a1_0, .int .i64 a1_1]] w fun e w' => ∃ v0_ : Value, e = .returned (.tuple #[v0_, .int .i64 r2]) ∧ Kd.S (Kd.slice 5 (Kd.int .u8)) 31 w' w.heap.size (fun _ => True) v0_ r1 ∧ Below w.heap.size w w' := by
  unfold strip_Scan.f at h
  split at h
  · rename_i hh
    have hq := Option.some.inj h
    have := Scan_calls w A0 c0 l0 a1_0 a1_1 hr0 hc0 (rows_of hh.1) hh.2
    rw [hq] at this
    exact this
  · cases h
end Go.Proofs.Ythnjkmjcacoajaa.Ext
end

section
/- What Scan makes of runs one behind the other: plain law. No condition. -/
namespace Go.Proofs.Ythnjkmjcacoajaa.Ext
open Go Go.RowKit Go.Proofs.YthnjkmjcacoajaaW.PrintWords Go.Proofs.YthnjkmjcacoajaaW.PrintLast Go.Proofs.YthnjkmjcacoajaaW.PrintMore Go.Proofs.Ythnjkmjcacoajaa.Base Go.Proofs.Ythnjkmjcacoajaa.Arr
set_option linter.unusedVariables false
set_option maxRecDepth 10000
set_option linter.unusedSimpArgs false

/-- all of these cells count -/
def okS (g : Int) : List (List Int) → Sc → Prop
  | [], _ => True
  | c :: cs, st => ¬ badS g st (readT c) ∧ okS g cs (nextS st (readT c))
/-- the state behind cells -/
def runS : List (List Int) → Sc → Sc
  | [], st => st
  | c :: cs, st => runS cs (nextS st (readT c))
theorem runS_app (A B : List (List Int)) : ∀ st, runS (A ++ B) st = runS B (runS A st) := by
  induction A with
  | nil => intro st; rfl
  | cons c cs ih => intro st; exact ih _
theorem okS_app (g : Int) (A B : List (List Int)) : ∀ st, okS g (A ++ B) st ↔ okS g A st ∧ okS g B (runS A st) := by
  induction A with
  | nil => intro st; exact ⟨fun h => ⟨trivial, h⟩, fun h => h.2⟩
  | cons c cs ih =>
    intro st
    show (_ ∧ okS g (cs ++ B) _) ↔ (_ ∧ okS g cs _) ∧ okS g B _
    rw [ih]
    exact ⟨fun h => ⟨⟨h.1, h.2.1⟩, h.2.2⟩, fun h => ⟨h.1.1, h.1.2, h.2⟩⟩
theorem scan_app (g : Int) (A B : List (List Int)) : ∀ st, okS g A st → scanR g (A ++ B) st = ((scanR g B (runS A st)).1, (scanR g B (runS A st)).2 + (A.length : Int)) := by
  induction A with
  | nil => intro st _; simp [runS]
  | cons c cs ih =>
    intro st h
    obtain ⟨h1, h2⟩ := h
    have e := ih _ h2
    rw [List.cons_append, scanR_cons, if_neg h1, e]
    show (_, _) = ((scanR g B (runS cs (nextS st (readT c)))).1, _)
    rw [List.length_cons]
    congr 1
    show _ = (scanR g B (runS cs (nextS st (readT c)))).2 + _
    rw [Int.natCast_add]
    simp only []
    omega
theorem scan_ok (g : Int) (A : List (List Int)) (st : Sc) (h : okS g A st) : scanR g A st = ((runS A st).runs, (A.length : Int)) := by
  have e := scan_app g A [] st h
  rw [List.append_nil] at e
  rw [e]
  simp [scanR]
theorem scan_stop (g : Int) (A : List (List Int)) (c : List Int) (B : List (List Int)) (st : Sc) (h : okS g A st) (hb : badS g (runS A st) (readT c)) : scanR g (A ++ c :: B) st = ((runS A st).runs, (A.length : Int)) := by
  rw [scan_app g A (c :: B) st h, scanR_cons, if_pos hb]
  simp
/-- the zero cell does not count -/
theorem z64_bad (g : Int) (st : Sc) : badS g st (readT (List.replicate 64 0)) := by
  left
  show (readT (List.replicate 64 0)).2.2.2.2 ≠ 0
  decide +kernel
theorem scan_z (g : Int) (st : Sc) (n : Nat) : scanR g (List.replicate n (List.replicate 64 0)) st = (st.runs, 0) := by
  cases n with
  | zero => rfl
  | succ n => rw [List.replicate_succ, scanR_cons, if_pos (z64_bad g st)]

/-- what a run's own cell answers -/
theorem readT_cell (g e : Nat) (f : Bool) (p : List Int) (hg0 : 0 < g) (hg : g < 4294967296) (he : e < 4294967296) (hp0 : 0 < p.length) (hp : p.length ≤ 47) :
    readT (cellOf g e f p) = ((g : Int), (e : Int), f, p, 0) := by
  obtain ⟨h1, h2, h3⟩ := read_cell g e f p hg0 hg he hp0 hp
  unfold readT
  rw [if_neg (fun h => h (cellOf_len g e f p hp)), if_neg (fun h => h h1), h2, data_cell g e f p hp, front_cell g e f p hg he]
  have e1 := stampN_div g e he
  have e2 := stampN_mod g e he
  have e3 : ((stampN g e : Int) / 4294967296) = (g : Int) := by omega
  have e4 : ((stampN g e : Int) % 4294967296) = (e : Int) := by omega
  rw [e3, e4]
  have e5 : decide (128 ≤ (rd (cellOf g e f p) 8).toNat) = f := by
    cases f with
    | true => exact decide_eq_true (h3.2 rfl)
    | false => exact decide_eq_false (fun h => by have := h3.1 h; cases this)
  rw [e5]
/-- a run's cells, from the j-th on -/
def tailC (g e : Nat) (b : List Int) : Nat → Nat → List (List Int)
  | 0, _ => []
  | n + 1, j => cellOf g e (j == 0) (pieceOf b j) :: tailC g e b n (j + 1)
theorem tailC_snoc (g e : Nat) (b : List Int) : ∀ n j, tailC g e b (n + 1) j = tailC g e b n j ++ [cellOf g e (j + n == 0) (pieceOf b (j + n))]
  | 0, j => rfl
  | n + 1, j => by
    show _ :: tailC g e b (n + 1) (j + 1) = (_ :: tailC g e b n (j + 1)) ++ _
    rw [tailC_snoc g e b n (j + 1), List.cons_append, show j + 1 + n = j + (n + 1) by omega]
theorem cells_tail (g e : Nat) (b : List Int) : ∀ n, n ≤ pieces b.length → cellsOf g e b (upto b.length n) = tailC g e b n 0
  | 0, _ => rfl
  | n + 1, h => by
    rw [upto_succ b.length n (by omega), cellsOf_snoc, cells_tail g e b n (by omega), tailC_snoc, upto_length _ _ (by omega), Nat.zero_add]
theorem run_tail (g e : Nat) (b : List Int) : runCells g e b = tailC g e b (pieces b.length) 0 := cells_tail g e b _ (Nat.le_refl _)
theorem tailC_len (g e : Nat) (b : List Int) : ∀ n j, (tailC g e b n j).length = n
  | 0, _ => rfl
  | n + 1, j => by show (tailC g e b n (j + 1)).length + 1 = _; rw [tailC_len]
theorem appLast_snoc (l : List (List Int)) (x d : List Int) : appLast (l ++ [x]) d = l ++ [x ++ d] := by
  unfold appLast
  rw [List.length_append, List.length_singleton, Nat.add_sub_cancel]
  rw [List.getD_eq_getElem?_getD, List.getElem?_append_right (Nat.le_refl _), Nat.sub_self]
  show (l ++ [x]).set l.length (x ++ d) = _
  rw [List.set_append_right _ _ (Nat.le_refl _), Nat.sub_self]
  rfl
theorem take_piece (b : List Int) (j : Nat) : b.take (47 * j) ++ pieceOf b j = b.take (47 * (j + 1)) := by
  unfold pieceOf
  rw [show 47 * (j + 1) = 47 * j + 47 by omega, List.take_add]
  congr 1
  unfold pieceL
  apply List.ext_getElem?
  intro k
  rw [List.getElem?_take, List.getElem?_take, List.getElem?_drop]
  by_cases h : k < 47
  · rw [if_pos h]
    by_cases h2 : k < min 47 (b.length - 47 * j)
    · rw [if_pos h2]
    · rw [if_neg h2, List.getElem?_eq_none (by omega)]
  · rw [if_neg h, if_neg (by omega)]
/-- the pieces behind the first, scanned -/
theorem scan_tail (g e : Nat) (b : List Int) (hg0 : 0 < g) (hg : g < 4294967296) (he : e < 4294967296) (rs : List (List Int)) : ∀ n j, 0 < j → j + n = pieces b.length →
    okS (g : Int) (tailC g e b n j) ⟨rs ++ [b.take (47 * j)], (e : Int), false⟩ ∧ runS (tailC g e b n j) ⟨rs ++ [b.take (47 * j)], (e : Int), false⟩ = ⟨rs ++ [b], (e : Int), false⟩
  | 0, j, hj, h => by
    refine ⟨trivial, ?_⟩
    show (⟨rs ++ [b.take (47 * j)], (e : Int), false⟩ : Sc) = _
    rw [List.take_of_length_le (by unfold pieces at h; omega)]
  | n + 1, j, hj, h => by
    have hpl := pieceOf_len b j
    have hR := readT_cell g e (j == 0) (pieceOf b j) hg0 hg he (by rw [hpl]; unfold pieceL; unfold pieces at h; omega) (by rw [hpl]; exact pieceL_le _ _)
    have hj0 : (j == 0) = false := by simp; omega
    rw [hj0] at hR
    have hN : nextS ⟨rs ++ [b.take (47 * j)], (e : Int), false⟩ (readT (cellOf g e (j == 0) (pieceOf b j))) = ⟨rs ++ [b.take (47 * (j + 1))], (e : Int), false⟩ := by
      rw [hj0, hR]
      unfold nextS
      simp only [Bool.false_eq_true, if_false]
      rw [appLast_snoc, take_piece]
    obtain ⟨i1, i2⟩ := scan_tail g e b hg0 hg he rs n (j + 1) (by omega) (by omega)
    refine ⟨⟨?_, ?_⟩, ?_⟩
    · rw [hj0, hR]
      rintro (h | h | h | ⟨_, h | h⟩)
      · exact h rfl
      · exact h rfl
      · exact Int.lt_irrefl _ h
      · cases h
      · exact h rfl
    · rw [hN]; exact i1
    · show runS _ (nextS _ _) = _
      rw [hN]; exact i2
theorem scan_run (g e : Nat) (b : List Int) (hg0 : 0 < g) (hg : g < 4294967296) (he : e < 4294967296) (hb : 0 < b.length) (st : Sc) (hs : st.epoch ≤ (e : Int)) :
    okS (g : Int) (runCells g e b) st ∧ runS (runCells g e b) st = ⟨st.runs ++ [b], (e : Int), false⟩ := by
  obtain ⟨n, hn⟩ : ∃ n, pieces b.length = n + 1 := ⟨pieces b.length - 1, by unfold pieces; omega⟩
  rw [run_tail, hn]
  have hpl := pieceOf_len b 0
  have hR := readT_cell g e true (pieceOf b 0) hg0 hg he (by rw [hpl]; unfold pieceL; omega) (by rw [hpl]; exact pieceL_le _ _)
  have hN : nextS st (readT (cellOf g e true (pieceOf b 0))) = ⟨st.runs ++ [b.take (47 * 1)], (e : Int), false⟩ := by
    rw [hR]
    unfold nextS
    simp only [if_true]
    rw [appLast_snoc]
    have := take_piece b 0
    rw [Nat.mul_zero, List.take_zero] at this
    rw [this]
  obtain ⟨i1, i2⟩ := scan_tail g e b hg0 hg he st.runs n 1 (by omega) (by omega)
  refine ⟨⟨?_, ?_⟩, ?_⟩
  · show ¬ badS (g : Int) st (readT (cellOf g e true (pieceOf b 0)))
    rw [hR]
    rintro (h | h | h | ⟨h, _⟩)
    · exact h rfl
    · exact h rfl
    · exact absurd h (by show ¬ (e : Int) < st.epoch; omega)
    · cases h
  · show okS (g : Int) _ (nextS st (readT (cellOf g e true (pieceOf b 0))))
    rw [hN]; exact i1
  · show runS _ (nextS st (readT (cellOf g e true (pieceOf b 0)))) = _
    rw [hN]; exact i2
end Go.Proofs.Ythnjkmjcacoajaa.Ext
end
