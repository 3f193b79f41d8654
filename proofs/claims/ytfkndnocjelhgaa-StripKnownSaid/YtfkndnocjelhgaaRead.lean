/- strip.Read, walked. Condition: bytes are bytes. -/
import Derived.Test.YtfkndnocjelhgaaEq
namespace Go.Proofs.Ytfkndnocjelhgaa.Ext
open Go Go.RowKit Go.Proofs.YtfkndnocjelhgaaW.PrintWords Go.Proofs.YtfkndnocjelhgaaW.PrintLast Go.Proofs.YtfkndnocjelhgaaW.PrintMore Go.Proofs.Ytfkndnocjelhgaa.Base Go.Proofs.Ytfkndnocjelhgaa.Arr
set_option linter.unusedVariables false
set_option linter.unusedSimpArgs false

theorem results_cell4 {fn : Func} {p q r s : Tmp} {ty : TypeId} (h : fn.results = #[.cell p ty, .tmp q, .tmp r, .tmp s]) (tmps : Array Value) (w : World) (g : Nat) (cs : Array Value)
    (hp : tmps.getD p undef = .pointer (some ⟨g, 0, none⟩)) (hv : (loadVar ty ⟨g, 0, none⟩).run Try.prog w = .ok (.agg cs) w) :
    (results fn tmps).run Try.prog w = .ok (.tuple #[.agg cs, tmps.getD q undef, tmps.getD r undef, tmps.getD s undef]) w := by
  have hp' : tmps[p]?.getD undef = .pointer (some ⟨g, 0, none⟩) := by simpa using hp
  simp [results, h, hp', asAddr, hv]
theorem wpList_clear_mid {P : Program} {W : World} {ops : Array Oper} {rest : List Oper} {o : Oper} {a : Act} {Q : Exit → Act → World → Prop} (hgd : o.guard = none) (x : Operand) (T E : TypeId)
    (ho : o.op = .call { callee := .builtin .clear, args := #[x], argTypes := #[T] }) (hT : P.underlying T = some (.slice E)) (z : Value) (hv : ∀ w, (zeroValue E).run P w = .ok z w) (hz : z.cells = #[z]) (h1 : z.oneCell' = true) (b q n c : Nat) (hx : a.eval x = .slice (some ⟨b, q, none⟩) n c)
    (t : TypeId) (cs : Array Value) (h : HoldsRow W b t cs) (hq : q + n ≤ cs.size)
    (k : wpList P ops Q rest (a.put o.dst (.tuple #[])) (W.setCells b q (List.replicate n z))) : wpList P ops Q (o :: rest) a W := by
  refine wpList_plain hgd fun _ hK => ?_
  unfold Oper.wp execOp
  by_cases hn : n = 0
  · subst hn
    have hrun : (Builtin.clear_ #[T] o.type #[.slice (some ⟨b, q, none⟩) 0 c]).run P W = .ok (.tuple #[]) W := by simp [Builtin.clear_, run_underlying hT]
    simp only [ho, resolve, invoke, builtin, Sem.run_bind, Sem.run_pure, Result.andThen_ok, List.map_toArray, List.map_cons, List.map_nil, hx, hrun]
    exact hK _ _ k
  · have hrun := Go.Lib.run_clear_slice (P := P) W T E o.type z hT hv hz h1 b q n c (by omega) (fun j hj => (there_row h q n hq j hj).1) (fun j hj => (there_row h q n hq j hj).2)
    simp only [ho, resolve, invoke, builtin, Sem.run_bind, Sem.run_pure, Result.andThen_ok, List.map_toArray, List.map_cons, List.map_nil, hx, hrun]
    exact hK _ _ k
/-- the length that a cell's head tells -/
def headN (b : List Int) : Nat := (rd b 8).toNat % 128
theorem andNot128 : ∀ n : Nat, n < 256 → bits .andNot .u8 (n : Int) 128 = ((n % 128 : Nat) : Int) := by decide +kernel
theorem and128 : ∀ n : Nat, n < 256 → (bits .and .u8 (n : Int) 128 != 0) = decide (128 ≤ n) := by decide +kernel
set_option maxHeartbeats 4000000 in
set_option maxRecDepth 100000 in
theorem Read_none (w : World) (A : Option Addr) (c : Nat) (n : Nat) (hn : n ≠ 64) (hm : n ≤ 9223372036854775807) :
    Calls Try.prog 23 #[.slice A n c] w fun e w' => e = .returned (.tuple #[.agg s00, .bool false, .slice none 0 0, .int .i64 2]) ∧ Below w.heap.size w w' := by
  have hz := zero_cell
  have HNM := Aside0.mk (show n ≠ 64 ∧ n ≤ 9223372036854775807 from ⟨hn, hm⟩)
  have hsz : (rowK .u8 z64).size = 64 := by rw [rowK_size, z64_len]
  clear hn hm
  go_enter Try.func23, Try.ntmps23
  go_wp2_with fail
  obtain ⟨W1, hW1⟩ : ∃ W1, W1 = w.alloc (.cells #[.int .i64 0, .int .i64 0] 23) := ⟨_, rfl⟩
  have P1 := Aside0.mk (show HoldsRow W1 w.heap.size 23 s00 by rw [hW1]; exact HoldsRow.new _ _ _)
  have B1 := Aside0.mk (show Below w.heap.size w W1 by rw [hW1]; exact below_alloc (Below.refl _ _) _)
  rw [← hW1]
  clear hW1
  ((with_reducible refine (parts_none W1 A c n HNM.out.1 HNM.out.2).mono ?_))
  rintro e w2 ⟨rfl, hb⟩
  have P2 := Aside0.mk (P1.out.below hb P1.out.lt)
  have B2 := Aside0.mk (B1.out.trans (hb.mono B1.out.size))
  have HNEW := Aside0.mk (HoldsRow.new w2 75 (rowK .u8 z64))
  obtain ⟨W3, hW3⟩ : ∃ W3, W3 = (w2.alloc (.cells (rowK .u8 z64) 75)).setRow w2.heap.size (rowK .u8 z64) := ⟨_, rfl⟩
  have hb3 : Below w2.heap.size w2 W3 := by rw [hW3]; exact Go.Proofs.Ytfkndnocjelhgaa.Arr.below_setRow (below_alloc (Below.refl w2.heap.size w2) (.cells (rowK .u8 z64) 75)) _ (Nat.le_refl _)
  have P3 := Aside0.mk (P2.out.below hb3 P2.out.lt)
  have B3 := Aside0.mk (B2.out.trans (hb3.mono B2.out.size))
  have HW3 := Aside0.mk hW3
  clear hb P1 B1 P2 B2 hb3 hW3
  go_wp2_with (first | (refine wpList_store_row rfl 75 _ _ rfl w2.heap.size (rowK .u8 z64) rfl rfl 75 (rowK .u8 z64) HNEW.out (by rw [hsz]; kernel_rfl) rfl (rowK_one _ _) ?_; rw [← HW3.out]) | (refine wpList_store_row rfl 23 _ _ rfl w.heap.size s00 rfl rfl 23 s00 P3.out (by kernel_rfl) rfl s00_one ?_))
  exact bodyPost_ret (results_cell4 (p := 2) (q := 3) (r := 4) (s := 5) (ty := 23) rfl _ _ w.heap.size s00 rfl (run_loadVar_row _ w.heap.size 23 23 s00 (0, 0) _ (P3.out.row _) Try.underlying23 rfl (by kernel_rfl))) rfl ⟨rfl, Go.Proofs.Ytfkndnocjelhgaa.Arr.below_setRow B3.out _ (Nat.le_refl _)⟩
/-- the code that a cell answers -/
def backOK (b : List Int) : Prop := b.take 8 = (b.drop 56).reverse
instance (b : List Int) : Decidable (backOK b) := by unfold backOK; infer_instance
def zerosOK (b : List Int) : Prop := splice b (9 + headN b) (List.replicate (47 - headN b) 0) = b
instance (b : List Int) : Decidable (zerosOK b) := by unfold zerosOK; infer_instance
def stampV (b : List Int) : Nat := valN (b.take 8) 8
def readC (b : List Int) : Int := if ¬ backOK b then 3 else if stampV b / 4294967296 = 0 ∨ headN b < 1 ∨ 47 < headN b then 4 else if ¬ zerosOK b then 4 else 0
/-- what a whole cell answers -/
def ReadPost (b : List Int) (w : World) (e : Ending) (w' : World) : Prop :=
  (readC b ≠ 0 → e = .returned (.tuple #[.agg s00, .bool false, .slice none 0 0, .int .i64 (readC b)])) ∧
  (readC b = 0 → ∃ gb, e = .returned (.tuple #[.agg (stampC (stampV b)), .bool (decide (128 ≤ (rd b 8).toNat)), .slice (some ⟨gb, 9, none⟩) (headN b) (headN b), .int .i64 0]) ∧ HoldsRow w' gb 75 (rowK .u8 b) ∧ w.heap.size ≤ gb) ∧ Below w.heap.size w w'
theorem run_cut_data (W : World) (g n : Nat) (hn : n ≤ 47) : ∃ q, (Instr.sliceAt 73 (.pointer (some ⟨g, 9, none⟩)) (some (.int .i64 (n : Int))) none none).run Try.prog W = .ok (.slice (some ⟨g, q, none⟩) (47 - n) (47 - n)) W ∧ q + (47 - n) ≤ 64 ∧ (n < 47 → q = 9 + n) := by
  by_cases h : n = 47
  · subst h
    refine ⟨9, ?_, by decide, fun h => absurd h (by decide)⟩
    have b0 := eq_true (show (0 : Int) ≤ 47 by decide)
    go_simp
  · refine ⟨9 + n, ?_, by omega, fun _ => rfl⟩
    have b0 := eq_true (show (0 : Int) ≤ (n : Int) by omega)
    have b1 := eq_true (show (n : Int) ≤ 47 by omega)
    have b2 := eq_false (show ¬ 47 = n by omega)
    have b3 := eq_false h
    have b4 := eq_true (show n ≤ 47 from hn)
    have b5 := eq_false (show ¬ 47 - n = 0 by omega)
    go_simp
theorem clear_row {W : World} {g : Nat} {t : TypeId} {b : List Int} {n q : Nat} (h : HoldsRow W g t (rowK .u8 b)) (hb : b.length = 64) (hn : n ≤ 47) (hq : n < 47 → q = 9 + n) : HoldsRow (W.setCells g q (List.replicate (47 - n) (.int .u8 0))) g t (rowK .u8 (splice b (9 + n) (List.replicate (47 - n) 0))) := by
  by_cases h47 : n = 47
  · subst h47
    have e : splice b (9 + 47) (List.replicate (47 - 47) (0 : Int)) = b := by
      unfold splice
      simp
    rw [e]
    exact h
  · obtain rfl := hq (by omega)
    obtain ⟨cur, h1, h2, h3⟩ := setCells_row (List.replicate (47 - n) (.int .u8 0)) (9 + n) W _ h (by rw [rowK_size, List.length_replicate]; omega)
    have e : cur = rowK .u8 (splice b (9 + n) (List.replicate (47 - n) 0)) := by
      apply Array.toList_inj.1
      rw [h3]
      unfold rowK
      rw [← nums_splice]
      simp [splice, nums]
    rw [← e]
    exact h1
set_option maxHeartbeats 4000000 in
set_option maxRecDepth 100000 in
theorem Read_calls (w : World) (A : Option Addr) (c : Nat) (b : List Int) (hr : Kd.C (Kd.int .u8) w A 64 b) (hc : 64 ≤ c) (hbb : Bytes b) :
    Calls Try.prog 23 #[.slice A 64 c] w (ReadPost b w) := by
  have hz := zero_cell
  have HR := Aside0.mk hr
  have HC := Aside0.mk hc
  have HB := Aside0.mk hbb
  have HB64 := Aside0.mk hr.1
  have hsz : (rowK .u8 b).size = 64 := by rw [rowK_size, hr.1]
  have hszz : (rowK .u8 z64).size = 64 := by rw [rowK_size, z64_len]
  have hsz2 : (stampC (stampV b)).size = 2 := rfl
  clear hr hc hbb
  go_enter Try.func23, Try.ntmps23
  go_wp2_with fail
  obtain ⟨W1, hW1⟩ : ∃ W1, W1 = w.alloc (.cells #[.int .i64 0, .int .i64 0] 23) := ⟨_, rfl⟩
  obtain ⟨S, hS⟩ : ∃ S, S = w.heap.size := ⟨_, rfl⟩
  have P1 := Aside0.mk (show HoldsRow W1 S 23 s00 by rw [hW1, hS]; exact HoldsRow.new _ _ _)
  have B1 := Aside0.mk (show Below w.heap.size w W1 by rw [hW1]; exact below_alloc (Below.refl _ _) _)
  rw [← hW1, ← hS]
  have HS := Aside0.mk hS
  clear hW1 hS
  ((with_reducible refine (parts_calls W1 A c b (Kd.C_below HR.out B1.out) HC.out).mono ?_))
  rintro e w2 ⟨rfl, hb⟩
  have P2 := Aside0.mk (P1.out.below hb P1.out.lt)
  have B2 := Aside0.mk (B1.out.trans (hb.mono B1.out.size))
  have HNEW := Aside0.mk (HoldsRow.new w2 75 (rowK .u8 z64))
  obtain ⟨W3, hW3⟩ : ∃ W3, W3 = (w2.alloc (.cells (rowK .u8 z64) 75)).setRow w2.heap.size (rowK .u8 b) := ⟨_, rfl⟩
  have hb3 : Below w2.heap.size w2 W3 := by rw [hW3]; exact Go.Proofs.Ytfkndnocjelhgaa.Arr.below_setRow (below_alloc (Below.refl w2.heap.size w2) (.cells (rowK .u8 z64) 75)) _ (Nat.le_refl _)
  have P3 := Aside0.mk (P2.out.below hb3 P2.out.lt)
  have B3 := Aside0.mk (B2.out.trans (hb3.mono B2.out.size))
  have R3 := Aside0.mk (show HoldsRow W3 w2.heap.size 75 (rowK .u8 b) by rw [hW3]; exact HNEW.out.row _)
  have HW3 := Aside0.mk hW3
  have HSG := Aside0.mk (show w.heap.size ≤ w2.heap.size ∧ S < w2.heap.size from ⟨B2.out.size, P2.out.lt⟩)
  clear hb P1 B1 P2 B2 hb3 hW3
  go_wp2_with (first | (refine wpList_store_row rfl 75 _ _ rfl w2.heap.size (rowK .u8 b) rfl rfl 75 (rowK .u8 z64) HNEW.out (by rw [hsz]; kernel_rfl) (by rw [hsz, hszz]) (rowK_one _ _) ?_; rw [← HW3.out]))
  obtain ⟨gc, hgc⟩ : ∃ gc, gc = w2.heap.size := ⟨_, rfl⟩
  rw [← hgc] at R3 HSG ⊢
  clear hgc
  have L0 : W3.drew.rangeAt gc 0 (nums .u8 (b.take 8)) := by have := range_row R3.out 0 8; rw [List.drop_zero] at this; exact this
  have L1 : W3.drew.rangeAt gc 56 (nums .u8 (b.drop 56)) := by have := range_row R3.out 56 8; rw [List.take_of_length_le (by rw [List.length_drop, HB64.out]; decide)] at this; exact this
  have l8 := Aside0.mk (show (b.take 8).length = 8 by rw [List.length_take, HB64.out]; rfl)
  have lb8 := Aside0.mk (show (b.drop 56).length = 8 by rw [List.length_drop, HB64.out])
  have BD : Bytes (b.drop 56) := fun x hx => HB.out x (List.mem_of_mem_drop hx)
  have BR : Bytes (b.drop 56).reverse := fun x hx => BD x (List.mem_reverse.1 hx)
  have heq : ∀ W : World, (Op.equalIn 10000 71 (.agg (nums .u8 (b.take 8)).toArray) (.agg (rowK .u8 (b.drop 56).reverse))).run Try.prog W = .ok (decide (b.take 8 = (b.drop 56).reverse)) W := fun W => edge_eq _ _ l8.out (by rw [List.length_reverse]; exact lb8.out) (HB.out.take 8) BR W
  clear BD BR
  refine start_ (n := 6) (S := fun w' => w'.rangeAt gc 0 (nums .u8 (b.take 8)) ∧ w'.rangeAt gc 56 (nums .u8 (b.drop 56))) (ds := []) #[false, false, false, false, false, false] (by kernel_rfl) rfl rfl ⟨L0, L1⟩ (fun hHeld => ?_)
  refine pure_ (i := 0) (N := some 18) (v := ?_) (a' := ?_) #[true, false, false, false, false, false] rfl rfl (by kernel_rfl) (fun _ _ _ h => h) (Or.inl ⟨by rfl, ?_⟩) ?_ ?_
  rotate_left
  · intro w'
    go_simp
    with_reducible rfl
  rotate_left
  · simp only [Act.put, List.setIfInBounds_toArray, List.set_cons_zero, List.set_cons_succ, i64_w, i32_w]
    rfl
  refine pure_ (i := 2) (N := some 20) (v := ?_) (a' := ?_) #[true, false, true, false, false, false] rfl rfl (by kernel_rfl) (fun _ _ _ h => h) (Or.inl ⟨by rfl, ?_⟩) ?_ ?_
  rotate_left
  · intro w'
    go_simp
    with_reducible rfl
  rotate_left
  · simp only [Act.put, List.setIfInBounds_toArray, List.set_cons_zero, List.set_cons_succ, i64_w, i32_w]
    rfl
  refine take_ (i := 1) (N := some 19) (v := ?_) (a' := ?_) #[true, true, true, false, false, false] rfl rfl (by kernel_rfl) (fun _ _ _ h => h) (Or.inl ⟨by rfl, ?_⟩) hHeld ?_ ?_
  rotate_left
  · rintro w' ⟨s0, s1⟩
    refine exec_load_mid 71 (.tmp 18) ?_ gc 0 ?_ (nums .u8 (b.take 8)) _ s0 Try.underlying71 rfl (by rw [nums_length, l8.out]; kernel_rfl)
    · rfl
    · rfl
  rotate_left
  · simp only [Act.put, List.setIfInBounds_toArray, List.set_cons_zero, List.set_cons_succ, i64_w, i32_w]
    rfl
  refine take_ (i := 3) (N := some 21) (v := ?_) (a' := ?_) #[true, true, true, true, false, false] rfl rfl (by kernel_rfl) (fun _ _ _ h => h) (Or.inl ⟨by rfl, ?_⟩) hHeld ?_ ?_
  rotate_left
  · rintro w' ⟨s0, s1⟩
    refine exec_load_mid 71 (.tmp 20) ?_ gc 56 ?_ (nums .u8 (b.drop 56)) _ s1 Try.underlying71 rfl (by rw [nums_length, lb8.out]; kernel_rfl)
    · rfl
    · rfl
  rotate_left
  · simp only [Act.put, List.setIfInBounds_toArray, List.set_cons_zero, List.set_cons_succ, i64_w, i32_w]
    rfl
  refine one_ (i := 4) (N := some 22) #[true, true, true, true, true, false] rfl rfl (by kernel_rfl) (by decide) (fun K hK => ?_)
  refine goes_ Try.func33 (by kernel_rfl) rfl #[.agg (rowK .u8 (b.drop 56))] (by rfl) rfl rfl (by simp only [List.map_toArray, List.map_cons, List.map_nil]; rfl) ?_
  with_reducible refine (turned_calls _ (b.drop 56) lb8.out).mono ?_
  rintro e4 w4 ⟨rfl, hb4⟩
  refine ⟨_, rfl, ?_⟩
  have B4 := Aside0.mk (show Below W3.heap.size W3 w4 from (below_drew (Below.refl _ _)).trans hb4)
  refine hK.out _ _ ⟨(fun j v hv => pw_cell_below B4.out (L0 j v hv)), (fun j v hv => pw_cell_below B4.out (L1 j v hv))⟩ (fun hHeld => ?_)
  clear hK K
  refine norm_ (a' := ?_) ?_ ?_
  rotate_left
  · show Act.put _ (some 22) _ = _
    simp only [Act.put, List.setIfInBounds_toArray, List.set_cons_zero, List.set_cons_succ, i64_w, i32_w]
    rfl
  refine pure_ (i := 5) (N := some 23) (v := ?_) (a' := ?_) #[true, true, true, true, true, true] rfl rfl (by kernel_rfl) (fun _ _ _ h => h) (Or.inl ⟨by rfl, ?_⟩) ?_ ?_
  rotate_left
  · intro w'
    go_simp
    with_reducible rfl
  rotate_left
  · simp only [Act.put, List.setIfInBounds_toArray, List.set_cons_zero, List.set_cons_succ, i64_w, i32_w]
    rfl
  refine done_ (by kernel_rfl) ?_
  
  clear hHeld heq hb4 L0 L1
  have P4 := Aside0.mk (P3.out.below B4.out P3.out.lt)
  have B40 := Aside0.mk (B3.out.trans (B4.out.mono B3.out.size))
  have R4 := Aside0.mk (R3.out.below B4.out R3.out.lt)
  have HWS := Aside0.mk (show w.heap.size ≤ S from Nat.le_of_eq HS.out.symm)
  clear P3 B3 R3 HNEW HW3 B4
  by_cases hback : b.take 8 = (b.drop 56).reverse
  case neg =>
    have HC3 := Aside0.mk (show readC b = 3 by unfold readC; rw [if_pos (show ¬ backOK b from hback)])
    rw [decide_eq_false hback]
    go_wp2_with (refine wpList_store_row rfl 23 _ _ rfl S s00 rfl rfl 23 s00 P4.out (by kernel_rfl) rfl s00_one ?_)
    refine bodyPost_ret (results_cell4 (p := 2) (q := 3) (r := 4) (s := 5) (ty := 23) rfl _ _ S s00 rfl (run_loadVar_row _ S 23 23 s00 (0, 0) _ (P4.out.row _) Try.underlying23 rfl (by kernel_rfl))) rfl ⟨fun _ => by rw [HC3.out]; rfl, fun h => by rw [HC3.out] at h; exact absurd h (by decide), Go.Proofs.Ytfkndnocjelhgaa.Arr.below_setRow B40.out _ HWS.out⟩
  have HBACK := Aside0.mk hback
  rw [decide_eq_true hback]
  have hx := HB.out.at_ 8
  obtain ⟨hd, hhd⟩ : ∃ hd : Nat, rd b ((8 : Nat) : Int) = (hd : Int) := ⟨(rd b ((8 : Nat) : Int)).toNat, by omega⟩
  have hd256 : hd < 256 := by omega
  have HHD := Aside0.mk (show (rd b 8).toNat = hd by rw [show rd b 8 = rd b ((8 : Nat) : Int) from rfl, hhd]; rfl)
  have hnd := andNot128 hd hd256
  have hand := and128 hd hd256
  obtain ⟨n, hn⟩ : ∃ n, n = hd % 128 := ⟨_, rfl⟩
  rw [← hn] at hnd
  have HN := Aside0.mk (show headN b = n by unfold headN; rw [HHD.out, hn])
  have hnw : IntKind.i64.wrap (n : Int) = (n : Int) := IntWalk.i64_in _ (by omega)
  have hn128 : n < 128 := by omega
  have C8 : w4.cell? ⟨gc, 8, none⟩ = some (.int .u8 (hd : Int)) := by
    have := R4.out.cell (rowK_get .u8 b 8 (by have := HB64.out; omega))
    rw [hhd] at this
    exact this
  have CL := Aside0.mk (show ∀ j v, (nums .u8 (b.take 8))[j]? = some v → w4.cell? ((⟨gc, 0, none⟩ : Addr).add j) = some v from fun j v hv => by
    have := R4.out.cell (j := j) (v := v) (by have := take_cell hv; unfold rowK; simpa using this)
    unfold Addr.add
    split
    · rename_i e; rw [e] at this; exact this
    · rw [Nat.zero_add]; exact this)
  clear hx hhd hn hback
  go_wp2_with (first | (refine wpList_load_at rfl 71 (.tmp 29) rfl ⟨gc, 0, none⟩ rfl (nums .u8 (b.take 8)) _ CL.out Try.underlying71 rfl (by rw [nums_length, l8.out]; kernel_rfl) ?_))
  rw [nums_rowK]
  ((with_reducible refine (stamp_calls w4 (b.take 8) l8.out (HB.out.take 8)).mono ?_))
  rintro e w5 ⟨rfl, hb⟩
  have P5 := Aside0.mk (P4.out.below hb P4.out.lt)
  have B5 := Aside0.mk (B40.out.trans (hb.mono B40.out.size))
  have R5 := Aside0.mk (R4.out.below hb R4.out.lt)
  obtain ⟨W6, hW6⟩ : ∃ W6, W6 = w5.setRow S (stampC (stampV b)) := ⟨_, rfl⟩
  have P6 := Aside0.mk (show HoldsRow W6 S 23 (stampC (stampV b)) by rw [hW6]; exact P5.out.row _)
  have B6 := Aside0.mk (show Below w.heap.size w W6 by rw [hW6]; exact Go.Proofs.Ytfkndnocjelhgaa.Arr.below_setRow B5.out _ HWS.out)
  have R6 := Aside0.mk (show HoldsRow W6 gc 75 (rowK .u8 b) by
    rw [hW6]
    exact hr_move R5.out ((Go.Proofs.Ytfkndnocjelhgaa.Arr.below_setRow (B := S) (Below.refl S w5) (stampC (stampV b)) (Nat.le_refl _)) |> fun _ => setRow_other w5 S gc _ (by have := HSG.out.2; omega)))
  have HW6 := Aside0.mk hW6
  have hvs : valN (b.take 8) 8 = stampV b := rfl
  obtain ⟨G, hG⟩ : ∃ G, G = stampV b / 4294967296 := ⟨_, rfl⟩
  have S0 : W6.cell? ⟨S, 0, none⟩ = some (.int .i64 (G : Int)) := by rw [hG]; exact P6.out.cell rfl
  have S1 : W6.cell? ⟨S, 1, none⟩ = some (.int .i64 ((stampV b : Int) % 4294967296)) := P6.out.cell rfl
  have HGV := Aside0.mk hG
  have C86 : W6.cell? ⟨gc, 8, none⟩ = some (.int .u8 (hd : Int)) := by
    have h1 := R4.out.cell (j := 8) (v := .int .u8 (hd : Int)) (by
      have h2 := C8
      have h3 : (rowK .u8 b)[8]? = some (.int .u8 (rd b ((8 : Nat) : Int))) := rowK_get .u8 b 8 (by have := HB64.out; omega)
      have h4 := R4.out.cell h3
      rw [h4] at h2
      rw [h3]; exact h2)
    have h5 : (rowK .u8 b)[8]? = some (.int .u8 (rd b ((8 : Nat) : Int))) := rowK_get .u8 b 8 (by have := HB64.out; omega)
    have h6 := R6.out.cell h5
    have h7 := R4.out.cell h5
    rw [C8] at h7
    rw [h6, ← h7]
  rw [hvs]
  clear hb hW6 hG P4 B40 R4 CL C8 hvs
  by_cases hbad : G = 0 ∨ n < 1 ∨ 47 < n
  case pos =>
    have HC4 := Aside0.mk (show readC b = 4 by unfold readC; rw [if_neg (show ¬ ¬ backOK b from fun h => h HBACK.out), if_pos (by rw [HN.out, ← HGV.out]; exact hbad)])
    have hfin : ∀ W, Below w.heap.size w W → ReadPost b w (.returned (.tuple #[.agg s00, .bool false, .slice none 0 0, .int .i64 4])) (W.setRow S s00) := fun W h => ⟨fun _ => by rw [HC4.out], fun h => by rw [HC4.out] at h; exact absurd h (by decide), Go.Proofs.Ytfkndnocjelhgaa.Arr.below_setRow h _ HWS.out⟩
    have HFIN := Aside0.mk hfin
    have hq1 : G = 0 ∨ (G ≠ 0 ∧ n < 1) ∨ (G ≠ 0 ∧ ¬ n < 1 ∧ 47 < n) := by omega
    clear hfin hbad
    rcases hq1 with h0 | ⟨h0, h1⟩ | ⟨h0, h1, h2⟩
    · subst h0
      go_wp2_with (first | (refine wpList_store_row rfl 23 (.tmp 2) (.tmp 31) rfl S (stampC (stampV b)) rfl rfl 23 s00 P5.out (by rw [hsz2]; kernel_rfl) rfl (stamp_one _) ?_; rw [← HW6.out]) | (refine wpList_store_row rfl 23 _ _ rfl S s00 rfl rfl 23 (stampC (stampV b)) P6.out (by kernel_rfl) rfl s00_one ?_))
      exact bodyPost_ret (results_cell4 (p := 2) (q := 3) (r := 4) (s := 5) (ty := 23) rfl _ _ S s00 rfl (run_loadVar_row _ S 23 23 s00 (0, 0) _ (P6.out.row _) Try.underlying23 rfl (by kernel_rfl))) rfl (HFIN.out _ B6.out)
    · have d0 : ((G : Int) == 0) = false := by rw [beq_eq_false_iff_ne]; omega
      have d00 := eq_false (show ¬ (G : Int) = 0 by omega)
      have d01 := eq_false h0
      obtain rfl : n = 0 := by omega
      go_wp2_with (first | (refine wpList_store_row rfl 23 (.tmp 2) (.tmp 31) rfl S (stampC (stampV b)) rfl rfl 23 s00 P5.out (by rw [hsz2]; kernel_rfl) rfl (stamp_one _) ?_; rw [← HW6.out]) | (refine wpList_store_row rfl 23 _ _ rfl S s00 rfl rfl 23 (stampC (stampV b)) P6.out (by kernel_rfl) rfl s00_one ?_))
      exact bodyPost_ret (results_cell4 (p := 2) (q := 3) (r := 4) (s := 5) (ty := 23) rfl _ _ S s00 rfl (run_loadVar_row _ S 23 23 s00 (0, 0) _ (P6.out.row _) Try.underlying23 rfl (by kernel_rfl))) rfl (HFIN.out _ B6.out)
    · have d0 : ((G : Int) == 0) = false := by rw [beq_eq_false_iff_ne]; omega
      have d00 := eq_false (show ¬ (G : Int) = 0 by omega)
      have d01 := eq_false h0
      have d1 : decide ((n : Int) < 1) = false := decide_eq_false (by omega)
      have d2 : decide ((47 : Int) < (n : Int)) = true := decide_eq_true (by omega)
      have d3 := eq_false h1
      have d4 := eq_true h2
      go_wp2_with (first | (refine wpList_store_row rfl 23 (.tmp 2) (.tmp 31) rfl S (stampC (stampV b)) rfl rfl 23 s00 P5.out (by rw [hsz2]; kernel_rfl) rfl (stamp_one _) ?_; rw [← HW6.out]) | (refine wpList_store_row rfl 23 _ _ rfl S s00 rfl rfl 23 (stampC (stampV b)) P6.out (by kernel_rfl) rfl s00_one ?_))
      exact bodyPost_ret (results_cell4 (p := 2) (q := 3) (r := 4) (s := 5) (ty := 23) rfl _ _ S s00 rfl (run_loadVar_row _ S 23 23 s00 (0, 0) _ (P6.out.row _) Try.underlying23 rfl (by kernel_rfl))) rfl (HFIN.out _ B6.out)
  case neg =>
    have d0 : ((G : Int) == 0) = false := by rw [beq_eq_false_iff_ne]; omega
    have d00 := eq_false (show ¬ (G : Int) = 0 by omega)
    have d01 := eq_false (show ¬ G = 0 by omega)
    have d1 : decide ((n : Int) < 1) = false := decide_eq_false (by omega)
    have d2 : decide ((47 : Int) < (n : Int)) = false := decide_eq_false (by omega)
    have d3 := eq_false (show ¬ n < 1 by omega)
    have d4 := eq_false (show ¬ 47 < n by omega)
    have hn0 : 0 < n := by omega
    have hn47 : n ≤ 47 := by omega
    have HBAD := Aside0.mk hbad
    have HNEW := Aside0.mk (HoldsRow.new W6 75 (rowK .u8 z64))
    obtain ⟨W7, hW7⟩ : ∃ W7, W7 = (W6.alloc (.cells (rowK .u8 z64) 75)).setRow W6.heap.size (rowK .u8 b) := ⟨_, rfl⟩
    have hb7 : Below W6.heap.size W6 W7 := by rw [hW7]; exact Go.Proofs.Ytfkndnocjelhgaa.Arr.below_setRow (below_alloc (Below.refl W6.heap.size W6) (.cells (rowK .u8 z64) 75)) _ (Nat.le_refl _)
    have P7 := Aside0.mk (P6.out.below hb7 P6.out.lt)
    have B7 := Aside0.mk (B6.out.trans (hb7.mono B6.out.size))
    have R7 := Aside0.mk (R6.out.below hb7 R6.out.lt)
    obtain ⟨g9, hg9⟩ : ∃ g9, g9 = W6.heap.size := ⟨_, rfl⟩
    have HW7 := Aside0.mk hW7
    have HGP := Aside0.mk (show w.heap.size ≤ g9 ∧ gc < g9 ∧ S < g9 by rw [hg9]; exact ⟨B6.out.size, R6.out.lt, P6.out.lt⟩)
    have Q7 := Aside0.mk (show HoldsRow W7 g9 75 (rowK .u8 b) by rw [hW7, hg9]; exact HNEW.out.row _)
    have HG9 := Aside0.mk hg9
    obtain ⟨q, hcut, hq, hq2⟩ := run_cut_data W7 g9 n hn47
    have hcut' := hcut
    rw [hg9] at hcut'
    obtain ⟨W8, hW8⟩ : ∃ W8, W8 = W7.setCells g9 q (List.replicate (47 - n) (.int .u8 0)) := ⟨_, rfl⟩
    obtain ⟨cur, hcur⟩ : ∃ cur, cur = splice b (9 + n) (List.replicate (47 - n) 0) := ⟨_, rfl⟩
    have Q8 := Aside0.mk (show HoldsRow W8 g9 75 (rowK .u8 cur) by rw [hW8, hcur]; exact clear_row Q7.out HB64.out hn47 hq2)
    have P8 := Aside0.mk (show HoldsRow W8 S 23 (stampC (stampV b)) by rw [hW8]; exact hr_move P7.out (sets_far (by have := HGP.out.2.2; omega)))
    have R8 := Aside0.mk (show HoldsRow W8 gc 75 (rowK .u8 b) by rw [hW8]; exact hr_move R7.out (sets_far (by have := HGP.out.2.1; omega)))
    have B8 := Aside0.mk (show Below w.heap.size w W8 by rw [hW8]; exact sets_below B7.out HGP.out.1 _)
    have hcl : cur.length = 64 := by rw [hcur, length_splice _ _ _ (by rw [List.length_replicate, HB64.out]; omega)]; exact HB64.out
    have hcb : Bytes cur := fun x hx => by
      rw [hcur] at hx
      unfold splice at hx
      rcases List.mem_append.1 hx with h | h
      · exact HB.out x (List.mem_of_mem_take h)
      · rcases List.mem_append.1 h with h | h
        · rw [List.eq_of_mem_replicate h]; decide
        · exact HB.out x (List.mem_of_mem_drop h)
    have heq : ∀ W : World, (Op.equalIn 10000 75 (.agg (rowK .u8 cur)) (.agg (rowK .u8 b))).run Try.prog W = .ok (decide (cur = b)) W := fun W => cell_eq _ _ hcl HB64.out hcb HB.out W
    have HW8 := Aside0.mk (show W8 = W7.setCells W6.heap.size q (List.replicate (47 - n) (.int .u8 0)) by rw [hW8, hg9])
    have HCUR := Aside0.mk hcur
    have Q7' := Aside0.mk (show HoldsRow W7 W6.heap.size 75 (rowK .u8 b) by rw [← hg9]; exact Q7.out)
    have Q8' := Aside0.mk (show HoldsRow W8 W6.heap.size 75 (rowK .u8 cur) by rw [← hg9]; exact Q8.out)
    have hszc : (rowK .u8 cur).size = 64 := by rw [rowK_size, hcl]
    clear hbad hb7 hW7 hW8 hcur hcl hcb hg9 hcut hq2
    by_cases hzero : cur = b
    case neg =>
      have HC4 := Aside0.mk (show readC b = 4 by
        unfold readC
        rw [if_neg (show ¬ ¬ backOK b from fun h => h HBACK.out), if_neg (by rw [HN.out, ← HGV.out]; exact HBAD.out), if_pos (show ¬ zerosOK b by unfold zerosOK; rw [HN.out, ← HCUR.out]; exact hzero)])
      rw [decide_eq_false hzero] at heq
      go_wp2_with (first | (refine wpList_store_row rfl 23 (.tmp 2) (.tmp 31) rfl S (stampC (stampV b)) rfl rfl 23 s00 P5.out (by rw [hsz2]; kernel_rfl) rfl (stamp_one _) ?_; rw [← HW6.out]) | (refine wpList_load_row rfl 75 (.tmp 6) rfl gc rfl 75 (rowK .u8 b) (0, 0) _ R6.out Try.underlying75 rfl (by rw [hsz]; kernel_rfl) ?_) | (refine wpList_store_row rfl 75 _ _ rfl W6.heap.size (rowK .u8 b) rfl rfl 75 (rowK .u8 z64) HNEW.out (by rw [hsz]; kernel_rfl) (by rw [hsz, hszz]) (rowK_one _ _) ?_; rw [← HW7.out]) | (refine wpList_clear_mid rfl (.tmp 47) 24 5 rfl Try.underlying24 (.int .u8 0) (fun W => by kernel_rfl) rfl rfl W6.heap.size q (47 - n) (47 - n) rfl 75 (rowK .u8 b) Q7'.out (by rw [hsz]; exact hq) ?_; rw [← HW8.out]) | (refine wpList_load_row rfl 75 (.tmp 9) rfl W6.heap.size rfl 75 (rowK .u8 cur) (0, 0) _ Q8'.out Try.underlying75 rfl (by rw [hszc]; kernel_rfl) ?_) | (refine wpList_load_row rfl 75 (.tmp 6) rfl gc rfl 75 (rowK .u8 b) (0, 0) _ R8.out Try.underlying75 rfl (by rw [hsz]; kernel_rfl) ?_) | (refine wpList_store_row rfl 23 (.tmp 2) (.tmp 51) rfl S s00 rfl rfl 23 (stampC (stampV b)) P8.out (by kernel_rfl) rfl s00_one ?_))
      exact bodyPost_ret (results_cell4 (p := 2) (q := 3) (r := 4) (s := 5) (ty := 23) rfl _ _ S s00 rfl (run_loadVar_row _ S 23 23 s00 (0, 0) _ (P8.out.row _) Try.underlying23 rfl (by kernel_rfl))) rfl ⟨fun _ => by rw [HC4.out]; rfl, fun h => by rw [HC4.out] at h; exact absurd h (by decide), Go.Proofs.Ytfkndnocjelhgaa.Arr.below_setRow B8.out _ HWS.out⟩
    have HC0 := Aside0.mk (show readC b = 0 by
      unfold readC
      rw [if_neg (show ¬ ¬ backOK b from fun h => h HBACK.out), if_neg (by rw [HN.out, ← HGV.out]; exact HBAD.out), if_neg (show ¬ ¬ zerosOK b from fun h => h (by unfold zerosOK; rw [HN.out, ← HCUR.out]; exact hzero))])
    rw [decide_eq_true hzero] at heq
    clear hzero
    go_wp2_with (first | (refine wpList_store_row rfl 23 (.tmp 2) (.tmp 31) rfl S (stampC (stampV b)) rfl rfl 23 s00 P5.out (by rw [hsz2]; kernel_rfl) rfl (stamp_one _) ?_; rw [← HW6.out]) | (refine wpList_load_row rfl 75 (.tmp 6) rfl gc rfl 75 (rowK .u8 b) (0, 0) _ R6.out Try.underlying75 rfl (by rw [hsz]; kernel_rfl) ?_) | (refine wpList_store_row rfl 75 _ _ rfl W6.heap.size (rowK .u8 b) rfl rfl 75 (rowK .u8 z64) HNEW.out (by rw [hsz]; kernel_rfl) (by rw [hsz, hszz]) (rowK_one _ _) ?_; rw [← HW7.out]) | (refine wpList_clear_mid rfl (.tmp 47) 24 5 rfl Try.underlying24 (.int .u8 0) (fun W => by kernel_rfl) rfl rfl W6.heap.size q (47 - n) (47 - n) rfl 75 (rowK .u8 b) Q7'.out (by rw [hsz]; exact hq) ?_; rw [← HW8.out]) | (refine wpList_load_row rfl 75 (.tmp 9) rfl W6.heap.size rfl 75 (rowK .u8 cur) (0, 0) _ Q8'.out Try.underlying75 rfl (by rw [hszc]; kernel_rfl) ?_) | (refine wpList_load_row rfl 75 (.tmp 6) rfl gc rfl 75 (rowK .u8 b) (0, 0) _ R8.out Try.underlying75 rfl (by rw [hsz]; kernel_rfl) ?_))
    have T0 : W8.drew.cell? ⟨S, 0, none⟩ = some (.int .i64 ((stampV b : Int) / 4294967296)) := P8.out.cell rfl
    have T1 : W8.drew.cell? ⟨S, 1, none⟩ = some (.int .i64 ((stampV b : Int) % 4294967296)) := P8.out.cell rfl
    have T8 : W8.drew.cell? ⟨gc, 8, none⟩ = some (.int .u8 (hd : Int)) := by
      have h5 : (rowK .u8 b)[8]? = some (.int .u8 (rd b ((8 : Nat) : Int))) := rowK_get .u8 b 8 (by have := HB64.out; omega)
      have h6 := R8.out.cell h5
      have h7 := R6.out.cell h5
      rw [C86] at h7
      exact h6.trans h7.symm
    have e0 := eq_true (show (0 : Int) ≤ (n : Int) by omega)
    have e1 := eq_true (show (n : Int) ≤ 47 by omega)
    have e2 := eq_true (show n ≤ 47 by omega)
    have HH8 := Aside0.mk (show (rowK .u8 b)[8]? = some (.int .u8 (hd : Int)) by
      have h5 : (rowK .u8 b)[8]? = some (.int .u8 (rd b ((8 : Nat) : Int))) := rowK_get .u8 b 8 (by have := HB64.out; omega)
      have h7 := R6.out.cell h5
      rw [C86] at h7
      rw [h5]; exact h7.symm)
    clear S0 S1 C86 heq
    refine start_ (n := 13) (S := fun w' => w'.cell? ⟨S, 0, none⟩ = some (.int .i64 ((stampV b : Int) / 4294967296)) ∧ w'.cell? ⟨S, 1, none⟩ = some (.int .i64 ((stampV b : Int) % 4294967296)) ∧ w'.cell? ⟨gc, 8, none⟩ = some (.int .u8 (hd : Int))) (ds := []) #[false, false, false, false, false, false, false, false, false, false, false, false, false] (by kernel_rfl) rfl rfl ⟨T0, T1, T8⟩ (fun hHeld => ?_)
    refine pure_ (i := 1) (N := some 53) (v := ?_) (a' := ?_) #[false, true, false, false, false, false, false, false, false, false, false, false, false] rfl rfl (by kernel_rfl) (fun _ _ _ h => h) (Or.inl ⟨by rfl, ?_⟩) ?_ ?_
    rotate_left
    · intro w'
      go_simp
      with_reducible rfl
    rotate_left
    · simp only [Act.put, List.setIfInBounds_toArray, List.set_cons_zero, List.set_cons_succ, i64_w, i32_w]
      rfl
    refine pure_ (i := 5) (N := some 57) (v := ?_) (a' := ?_) #[false, true, false, false, false, true, false, false, false, false, false, false, false] rfl rfl (by kernel_rfl) (fun _ _ _ h => h) (Or.inl ⟨by rfl, ?_⟩) ?_ ?_
    rotate_left
    · intro w'
      go_simp
      with_reducible rfl
    rotate_left
    · simp only [Act.put, List.setIfInBounds_toArray, List.set_cons_zero, List.set_cons_succ, i64_w, i32_w]
      rfl
    refine pure_ (i := 6) (N := some 58) (v := ?_) (a' := ?_) #[false, true, false, false, false, true, true, false, false, false, false, false, false] rfl rfl (by kernel_rfl) (fun _ _ _ h => h) (Or.inl ⟨by rfl, ?_⟩) ?_ ?_
    rotate_left
    · intro w'
      go_simp
      with_reducible rfl
    rotate_left
    · simp only [Act.put, List.setIfInBounds_toArray, List.set_cons_zero, List.set_cons_succ, i64_w, i32_w]
      rfl
    refine pure_ (i := 7) (N := some 59) (v := ?_) (a' := ?_) #[false, true, false, false, false, true, true, true, false, false, false, false, false] rfl rfl (by kernel_rfl) (fun _ _ _ h => h) (Or.inl ⟨by rfl, ?_⟩) ?_ ?_
    rotate_left
    · intro w'
      go_simp
      with_reducible rfl
    rotate_left
    · simp only [Act.put, List.setIfInBounds_toArray, List.set_cons_zero, List.set_cons_succ, i64_w, i32_w]
      rfl
    refine pure_ (i := 8) (N := some 60) (v := ?_) (a' := ?_) #[false, true, false, false, false, true, true, true, true, false, false, false, false] rfl rfl (by kernel_rfl) (fun _ _ _ h => h) (Or.inl ⟨by rfl, ?_⟩) ?_ ?_
    rotate_left
    · intro w'
      go_simp
      with_reducible rfl
    rotate_left
    · simp only [Act.put, List.setIfInBounds_toArray, List.set_cons_zero, List.set_cons_succ, i64_w, i32_w]
      rfl
    refine take_ (i := 0) (N := some 52) (v := ?_) (a' := ?_) #[true, true, false, false, false, true, true, true, true, false, false, false, false] rfl rfl (by kernel_rfl) (fun _ _ _ h => h) (Or.inl ⟨by rfl, ?_⟩) hHeld ?_ ?_
    rotate_left
    · rintro w' ⟨s0, s1, s2⟩
      go_simp
      with_reducible rfl
    rotate_left
    · simp only [Act.put, List.setIfInBounds_toArray, List.set_cons_zero, List.set_cons_succ, i64_w, i32_w]
      rfl
    refine take_ (i := 2) (N := some 54) (v := ?_) (a' := ?_) #[true, true, true, false, false, true, true, true, true, false, false, false, false] rfl rfl (by kernel_rfl) (fun _ _ _ h => h) (Or.inl ⟨by rfl, ?_⟩) hHeld ?_ ?_
    rotate_left
    · rintro w' ⟨s0, s1, s2⟩
      go_simp
      with_reducible rfl
    rotate_left
    · simp only [Act.put, List.setIfInBounds_toArray, List.set_cons_zero, List.set_cons_succ, i64_w, i32_w]
      rfl
    refine pure_ (i := 3) (N := some 55) (v := ?_) (a' := ?_) #[true, true, true, true, false, true, true, true, true, false, false, false, false] rfl rfl (by kernel_rfl) (fun _ _ _ h => h) (Or.inl ⟨by rfl, ?_⟩) ?_ ?_
    rotate_left
    · intro w'
      go_simp
      with_reducible rfl
    rotate_left
    · simp only [Act.put, List.setIfInBounds_toArray, List.set_cons_zero, List.set_cons_succ, i64_w, i32_w]
      rfl
    refine pure_ (i := 4) (N := some 56) (v := ?_) (a' := ?_) #[true, true, true, true, true, true, true, true, true, false, false, false, false] rfl rfl (by kernel_rfl) (fun _ _ _ h => h) (Or.inl ⟨by rfl, ?_⟩) ?_ ?_
    rotate_left
    · intro w'
      go_simp
      with_reducible rfl
    rotate_left
    · simp only [Act.put, List.setIfInBounds_toArray, List.set_cons_zero, List.set_cons_succ, i64_w, i32_w]
      rfl
    refine one_ (i := 9) (N := none) #[true, true, true, true, true, true, true, true, true, true, false, false, false] rfl rfl (by kernel_rfl) (by decide) (fun K hK => ?_)
    refine skip_ (w1 := W8.drew.setCells S 0 (stampC (stampV b)).toList) (by rfl) rfl ?_ ?_
    · refine exec_store_mid 23 (.tmp 2) (.tmp 52) ?_ S 0 (stampC (stampV b)) ?_ ?_ (there_row (show HoldsRow W8.drew S 23 (stampC (stampV b)) from P8.out) 0 _ (by rw [hsz2]; decide)) (by rw [hsz2]; kernel_rfl) (stamp_one _)
      · rfl
      · rfl
      · rfl
    have U9 : HoldsRow (W8.drew.setCells S 0 (stampC (stampV b)).toList) S 23 (stampC (stampV b)) := set_row_all (show HoldsRow W8.drew S 23 (stampC (stampV b)) from P8.out) rfl
    have V9 : HoldsRow (W8.drew.setCells S 0 (stampC (stampV b)).toList) gc 75 (rowK .u8 b) := hr_move R8.out (sets_all_far _ (by have := HSG.out.2; omega))
    refine hK.out _ _ ⟨(U9.cell rfl), (U9.cell rfl), (V9.cell HH8.out)⟩ (fun hHeld => ?_)
    clear hK K
    refine pure_ (i := 10) (N := some 3) (v := ?_) (a' := ?_) #[true, true, true, true, true, true, true, true, true, true, true, false, false] rfl rfl (by kernel_rfl) (fun _ _ _ h => h) (Or.inl ⟨by rfl, ?_⟩) ?_ ?_
    rotate_left
    · intro w'
      go_simp
      with_reducible rfl
    rotate_left
    · simp only [Act.put, List.setIfInBounds_toArray, List.set_cons_zero, List.set_cons_succ, i64_w, i32_w]
      rfl
    refine pure_ (i := 11) (N := some 4) (v := ?_) (a' := ?_) #[true, true, true, true, true, true, true, true, true, true, true, true, false] rfl rfl (by kernel_rfl) (fun _ _ _ h => h) (Or.inl ⟨by rfl, ?_⟩) ?_ ?_
    rotate_left
    · intro w'
      go_simp
      with_reducible rfl
    rotate_left
    · simp only [Act.put, List.setIfInBounds_toArray, List.set_cons_zero, List.set_cons_succ, i64_w, i32_w]
      rfl
    refine pure_ (i := 12) (N := some 5) (v := ?_) (a' := ?_) #[true, true, true, true, true, true, true, true, true, true, true, true, true] rfl rfl (by kernel_rfl) (fun _ _ _ h => h) (Or.inl ⟨by rfl, ?_⟩) ?_ ?_
    rotate_left
    · intro w'
      go_simp
      with_reducible rfl
    rotate_left
    · simp only [Act.put, List.setIfInBounds_toArray, List.set_cons_zero, List.set_cons_succ, i64_w, i32_w]
      rfl
    refine done_ (by kernel_rfl) ?_
    
    obtain ⟨W9, hW9⟩ : ∃ W9, W9 = W8.drew.setCells S 0 (stampC (stampV b)).toList := ⟨_, rfl⟩
    have B9 := Aside0.mk (show Below w.heap.size w W9 by rw [hW9]; exact sets_below (below_drew B8.out) HWS.out _)
    rw [← hW9] at U9 V9 ⊢
    have U := Aside0.mk U9
    have V := Aside0.mk V9
    clear hW9 U9 V9 hHeld T0 T1 T8
    go_wp2_with fail
    exact bodyPost_ret (results_cell4 (p := 2) (q := 3) (r := 4) (s := 5) (ty := 23) rfl _ _ S (stampC (stampV b)) rfl (run_loadVar_row _ S 23 23 (stampC (stampV b)) (0, 0) _ U.out Try.underlying23 rfl (by rw [hsz2]; kernel_rfl))) rfl ⟨fun h => absurd HC0.out h, fun _ => ⟨gc, by rw [HN.out, HHD.out]; rfl, V.out, HSG.out.1⟩, B9.out⟩
end Go.Proofs.Ytfkndnocjelhgaa.Ext
