/- A sector's parts: walked. No condition beyond the row's own. -/
import Derived.Laws.CopyOwn
import Derived.Test.YtfkndnocjelhgaaStripB
namespace Go.Proofs.Ytfkndnocjelhgaa.Ext
open Go Go.RowKit Go.Proofs.YtfkndnocjelhgaaW.PrintWords Go.Proofs.YtfkndnocjelhgaaW.PrintLast Go.Proofs.YtfkndnocjelhgaaW.PrintMore Go.Proofs.Ytfkndnocjelhgaa.Base Go.Proofs.Ytfkndnocjelhgaa.Arr
set_option linter.unusedVariables false
set_option linter.unusedSimpArgs false

def z64 : List Int := List.replicate 64 0
theorem z64_len : z64.length = 64 := by kernel_rfl
theorem zero_cell (W : World) : (zeroValue 75).run Try.prog W = .ok (.agg (rowK .u8 z64)) W := by kernel_rfl
theorem results_cell2 {fn : Func} {p q : Tmp} {ty : TypeId} (h : fn.results = #[.cell p ty, .tmp q]) (tmps : Array Value) (w : World) (g : Nat) (cs : Array Value)
    (hp : tmps.getD p undef = .pointer (some ⟨g, 0, none⟩)) (hv : (loadVar ty ⟨g, 0, none⟩).run Try.prog w = .ok (.agg cs) w) :
    (results fn tmps).run Try.prog w = .ok (.tuple #[.agg cs, tmps.getD q undef]) w := by
  have hp' : tmps[p]?.getD undef = .pointer (some ⟨g, 0, none⟩) := by simpa using hp
  simp [results, h, hp', asAddr, hv]
set_option maxHeartbeats 4000000 in
set_option maxRecDepth 100000 in
theorem parts_none (w : World) (A : Option Addr) (c : Nat) (n : Nat) (hn : n ≠ 64) (hm : n ≤ 9223372036854775807) :
    Calls Try.prog 37 #[.slice A n c] w fun e w' => e = .returned (.tuple #[.agg (rowK .u8 z64), .bool false]) ∧ Below w.heap.size w w' := by
  have hz := zero_cell
  have d0 : decide ((n : Int) = 64) = false := decide_eq_false (by omega)
  have d1 : ((n : Int) != 64) = true := by simp; omega
  have hsz : (rowK .u8 z64).size = 64 := by rw [rowK_size, z64_len]
  have HNEW := Aside0.mk (HoldsRow.new w 75 (rowK .u8 z64))
  go_enter Try.func37, Try.ntmps37
  go_wp2_with (first | (refine wpList_store_row rfl 75 _ _ rfl w.heap.size (rowK .u8 z64) rfl rfl 75 (rowK .u8 z64) HNEW.out (by rw [hsz]; kernel_rfl) rfl (rowK_one _ _) ?_))
  exact bodyPost_ret (results_cell2 (p := 2) (q := 3) (ty := 75) rfl _ _ w.heap.size (rowK .u8 z64) rfl (run_loadVar_row _ w.heap.size 75 75 (rowK .u8 z64) (0, 0) _ (HNEW.out.row _) Try.underlying75 rfl (by rw [hsz]; kernel_rfl))) rfl ⟨rfl, Go.Proofs.Ytfkndnocjelhgaa.Arr.below_setRow (below_alloc (Below.refl w.heap.size w) (.cells (rowK .u8 z64) 75)) _ (Nat.le_refl _)⟩
theorem nums_splice (k : IntKind) (a c : List Int) (off : Nat) : splice (nums k a) off (nums k c) = nums k (splice a off c) := by
  simp [splice, nums]
theorem take_cell {l : List Int} {n j : Nat} {v : Value} (h : (nums .u8 (l.take n))[j]? = some v) : (nums .u8 l)[j]? = some v := by
  unfold nums at *
  rw [List.map_take] at h
  rw [List.getElem?_take] at h
  split at h
  · exact h
  · exact absurd h (by simp)
theorem nums_one (k : IntKind) (l : List Int) : ∀ v ∈ nums k l, v.oneCell' = true := fun v hv => by
  unfold nums at hv
  obtain ⟨x, -, rfl⟩ := List.mem_map.1 hv
  rfl
theorem nums_get {k : IntKind} {l : List Int} {j : Nat} (h : j < l.length) : (nums k l)[j]? = some (.int k (rd l (j : Int))) := by
  unfold nums
  rw [List.getElem?_map, List.getElem?_eq_getElem h, rd_nat, List.getD_eq_getElem?_getD, List.getElem?_eq_getElem h]
  rfl
theorem C_cells {w : World} {ad : Addr} {n : Nat} {l : List Int} (h : Kd.C (Kd.int .u8) w (some ad) n l) (hn : 0 < n) : ∀ j v, (nums .u8 l)[j]? = some v → w.cell? (ad.add j) = some v := by
  obtain ⟨ad', e, hc⟩ := h.2.2 hn
  injection e with e
  subst e
  intro j v hv
  unfold nums at hv
  rw [List.getElem?_map] at hv
  obtain ⟨x, hx, rfl⟩ := Option.map_eq_some_iff.1 hv
  obtain ⟨cs, -, hcs, hcell⟩ := hc j x hx
  have : cs = [Value.int .u8 x] := hcs
  subst this
  have := hcell 0 _ rfl
  simpa [Kd.int, Kd.scalar] using this
theorem splice_get {α : Type} (L : List α) (off : Nat) (cs : List α) (h : off + cs.length ≤ L.length) (i : Nat) : (splice L off cs)[i]? = if i < off then L[i]? else if i < off + cs.length then cs[i - off]? else L[i]? := by
  unfold splice
  by_cases h1 : i < off
  · rw [if_pos h1, List.getElem?_append_left (by rw [List.length_take]; omega), List.getElem?_take_of_lt h1]
  · rw [if_neg h1, List.getElem?_append_right (by rw [List.length_take]; omega), List.length_take, Nat.min_eq_left (by omega)]
    by_cases h2 : i < off + cs.length
    · rw [if_pos h2, List.getElem?_append_left (by omega)]
    · rw [if_neg h2, List.getElem?_append_right (by omega), List.getElem?_drop]
      congr 1; omega
theorem parts_eq (b : List Int) (hb : b.length = 64) : splice (splice ((splice z64 0 (b.take 8)).set 8 (rd b 8)) 9 ((b.drop 9).take 47)) 56 (b.drop 56) = b := by
  have l0 : (b.take 8).length = 8 := by rw [List.length_take]; omega
  have l1 : ((b.drop 9).take 47).length = 47 := by rw [List.length_take, List.length_drop]; omega
  have l2 : (b.drop 56).length = 8 := by rw [List.length_drop]; omega
  have s0 : (splice z64 0 (b.take 8)).length = 64 := by rw [length_splice _ _ _ (by rw [l0, z64_len]; decide), z64_len]
  have s1 : ((splice z64 0 (b.take 8)).set 8 (rd b 8)).length = 64 := by rw [List.length_set, s0]
  have s2 : (splice ((splice z64 0 (b.take 8)).set 8 (rd b 8)) 9 ((b.drop 9).take 47)).length = 64 := by rw [length_splice _ _ _ (by rw [l1, s1]; decide), s1]
  apply List.ext_getElem?
  intro i
  rw [splice_get _ _ _ (by rw [l2, s2]; decide), splice_get _ _ _ (by rw [l1, s1]; decide), l1, l2]
  by_cases h1 : i < 9
  · rw [if_pos (by omega), if_pos h1]
    by_cases h2 : i = 8
    · subst h2
      rw [List.getElem?_set_self (by rw [s0]; decide), List.getElem?_eq_getElem (by omega)]
      show some (rd b ((8 : Nat) : Int)) = _
      rw [rd_nat, List.getD_eq_getElem?_getD, List.getElem?_eq_getElem (by omega)]; rfl
    · rw [List.getElem?_set_ne (fun e => h2 e.symm), splice_get _ _ _ (by rw [l0, z64_len]; decide), l0, if_neg (by omega), if_pos (by omega), List.getElem?_take_of_lt (by omega), Nat.sub_zero]
  · by_cases h2 : i < 56
    · rw [if_pos h2, if_neg h1, if_pos (by omega), List.getElem?_take_of_lt (by omega), List.getElem?_drop]
      congr 1; omega
    · rw [if_neg h2]
      by_cases h3 : i < 56 + 8
      · rw [if_pos h3, List.getElem?_drop]
        congr 1; omega
      · rw [if_neg h3, if_neg h1, if_neg (by omega), List.getElem?_eq_none (by rw [s1]; omega), List.getElem?_eq_none (by omega)]
theorem drop_cell {w W' : World} {ad : Addr} {b : List Int} (h : ∀ (W' : World), Below w.heap.size w W' → ∀ (j : Nat) (v : Value), (nums .u8 b)[j]? = some v → W'.cell? (ad.add j) = some v) (hb : Below w.heap.size w W') (n : Nat) {j : Nat} {v : Value} (hv : (nums .u8 (b.drop n))[j]? = some v) {o : Nat} (ho : o = ad.off + n) (hn : 0 < n) : W'.cell? ((⟨ad.block, o, none⟩ : Addr).add j) = some v := by
  have e : (⟨ad.block, o, none⟩ : Addr) = ad.add n := by
    subst ho
    unfold Addr.add
    rw [if_neg (by omega)]
  rw [e, add_add]
  refine h W' hb (n + j) v ?_
  unfold nums at hv ⊢
  rw [List.map_drop, List.getElem?_drop] at hv
  exact hv
set_option maxHeartbeats 4000000 in
set_option maxRecDepth 100000 in
theorem parts_calls (w : World) (A : Option Addr) (c : Nat) (b : List Int) (hr : Kd.C (Kd.int .u8) w A 64 b) (hc : 64 ≤ c) :
    Calls Try.prog 37 #[.slice A 64 c] w fun e w' => e = .returned (.tuple #[.agg (rowK .u8 b), .bool true]) ∧ Below w.heap.size w w' := by
  have hz := zero_cell
  have HR := Aside0.mk hr
  have HC := Aside0.mk hc
  have HNEW := Aside0.mk (HoldsRow.new w 75 (rowK .u8 z64))
  go_enter Try.func37, Try.ntmps37
  obtain ⟨ad, rfl, -⟩ := hr.2.2 (by omega)
  have hb64 : b.length = 64 := hr.1
  have B1 := Aside0.mk (below_alloc (Below.refl w.heap.size w) (.cells (rowK .u8 z64) 75))
  have x1 := eq_true (show (8 : Int) ≤ 64 by decide)
  have x2 := eq_false (show ¬ c = 8 by omega)
  have x3 := eq_false (show ¬ c - 8 = 1 by omega)
  have HCL := Aside0.mk (fun (W' : World) (hb : Below w.heap.size w W') => C_cells (Kd.C_below HR.out hb) (by omega))
  clear hr hc
  go_wp2_with ((refine wpList_copy_splice rfl (.tmp 11) (.tmp 12) 24 24 rfl 5 Try.underlying24 (by kernel_rfl) (some ⟨w.heap.size, 0, none⟩) (some ad) 8 8 64 c rfl rfl w.heap.size 0 (nums .u8 z64) 75 HNEW.out (nums .u8 (b.take 8)) ?n1 ?n2 ?n3 ?n4 w.heap.size w B1.out (Nat.le_refl _) ?_; (case n1 => rw [nums_length, List.length_take, hb64]; rfl); (case n2 => exact fun _ => ⟨rfl, ad, rfl, fun j v hv => HCL.out _ B1.out j v (take_cell hv)⟩); (case n3 => rw [nums_length, nums_length, z64_len, List.length_take]; omega); (case n4 => exact fun v hv => nums_one _ _ v hv); intro w2 hh2 hb2; rw [nums_splice] at hh2; have R2 := Aside0.mk (show HoldsRow w2 w.heap.size 75 (rowK .u8 (splice z64 0 (b.take 8))) from hh2.out); have B2 := Aside0.mk hb2; have k8 : w2.cell? ⟨ad.block, ad.off + 8, none⟩ = some (.int .u8 (rd b 8)) := HCL.out w2 hb2 8 _ (nums_get (by omega : 8 < b.length)); have c8 := R2.out.cell (j := 8) (rowK_get _ _ 8 (by rw [length_splice _ _ _ (by rw [z64_len, List.length_take]; omega), z64_len]; decide)); have f8 := R2.out.free 8; clear hh2 hb2; rw [nums_length, show (b.take 8).length = 8 by rw [List.length_take]; omega]))
  obtain ⟨W3, hW3⟩ : ∃ W3, W3 = w2.setCell ⟨w.heap.size, 8, none⟩ (.int .u8 (rd b 8)) := ⟨_, rfl⟩
  rw [← hW3]
  obtain ⟨cur3, hcur3⟩ : ∃ cur3, cur3 = (splice z64 0 (b.take 8)).set 8 (rd b 8) := ⟨_, rfl⟩
  have hl3 : cur3.length = 64 := by rw [hcur3, List.length_set, length_splice _ _ _ (by rw [z64_len, List.length_take]; omega), z64_len]
  have R3 := Aside0.mk (show HoldsRow W3.drew w.heap.size 75 (rowK .u8 cur3) by
    have := R2.out.set 8 (.int .u8 (rd b 8))
    rw [rowK_set] at this
    rw [hW3, hcur3]
    exact this)
  have B3 := Aside0.mk (show Below w.heap.size w W3.drew by rw [hW3]; exact below_drew (B2.out.setCell (p := ⟨w.heap.size, 8, none⟩) (Nat.le_refl _) _))
  have x4 := eq_false (show ¬ c - 8 - 1 = 47 by have := HC.out; omega)
  have x5 := eq_true (show (47 : Int) ≤ 55 by decide)
  have H3 := Aside0.mk hl3
  have HC3 := Aside0.mk hcur3
  have HB64 := Aside0.mk hb64
  clear k8 c8 f8 R2 B2 hW3 hl3 hcur3
  refine start_ (n := 9) (S := fun w' => True) (ds := []) #[false, false, false, false, false, false, false, false, false] (by kernel_rfl) rfl rfl (trivial) (fun hHeld => ?_)
  refine pure_ (i := 0) (N := some 21) (v := ?_) (a' := ?_) #[true, false, false, false, false, false, false, false, false] rfl rfl (by kernel_rfl) (fun _ _ _ h => h) (Or.inl ⟨by rfl, ?_⟩) ?_ ?_
  rotate_left
  · intro w'
    go_simp
    with_reducible rfl
  rotate_left
  · simp only [Act.put, List.setIfInBounds_toArray, List.set_cons_zero, List.set_cons_succ, i64_w, i32_w]
    rfl
  refine pure_ (i := 1) (N := some 22) (v := ?_) (a' := ?_) #[true, true, false, false, false, false, false, false, false] rfl rfl (by kernel_rfl) (fun _ _ _ h => h) (Or.inl ⟨by rfl, ?_⟩) ?_ ?_
  rotate_left
  · intro w'
    go_simp
    with_reducible rfl
  rotate_left
  · simp only [Act.put, List.setIfInBounds_toArray, List.set_cons_zero, List.set_cons_succ, i64_w, i32_w]
    rfl
  refine pure_ (i := 2) (N := some 23) (v := ?_) (a' := ?_) #[true, true, true, false, false, false, false, false, false] rfl rfl (by kernel_rfl) (fun _ _ _ h => h) (Or.inl ⟨by rfl, ?_⟩) ?_ ?_
  rotate_left
  · intro w'
    go_simp
    with_reducible rfl
  rotate_left
  · simp only [Act.put, List.setIfInBounds_toArray, List.set_cons_zero, List.set_cons_succ, i64_w, i32_w]
    rfl
  refine pure_ (i := 3) (N := some 24) (v := ?_) (a' := ?_) #[true, true, true, true, false, false, false, false, false] rfl rfl (by kernel_rfl) (fun _ _ _ h => h) (Or.inl ⟨by rfl, ?_⟩) ?_ ?_
  rotate_left
  · intro w'
    go_simp
    with_reducible rfl
  rotate_left
  · simp only [Act.put, List.setIfInBounds_toArray, List.set_cons_zero, List.set_cons_succ, i64_w, i32_w]
    rfl
  refine pure_ (i := 4) (N := some 25) (v := ?_) (a' := ?_) #[true, true, true, true, true, false, false, false, false] rfl rfl (by kernel_rfl) (fun _ _ _ h => h) (Or.inl ⟨by rfl, ?_⟩) ?_ ?_
  rotate_left
  · intro w'
    go_simp
    with_reducible rfl
  rotate_left
  · simp only [Act.put, List.setIfInBounds_toArray, List.set_cons_zero, List.set_cons_succ, i64_w, i32_w]
    rfl
  refine pure_ (i := 5) (N := some 26) (v := ?_) (a' := ?_) #[true, true, true, true, true, true, false, false, false] rfl rfl (by kernel_rfl) (fun _ _ _ h => h) (Or.inl ⟨by rfl, ?_⟩) ?_ ?_
  rotate_left
  · intro w'
    go_simp
    with_reducible rfl
  rotate_left
  · simp only [Act.put, List.setIfInBounds_toArray, List.set_cons_zero, List.set_cons_succ, i64_w, i32_w]
    rfl
  refine one_ (i := 6) (N := some 27) #[true, true, true, true, true, true, true, false, false] rfl rfl (by kernel_rfl) (by decide) (fun K hK => ?_)
  refine step_copy_splice rfl (.tmp 25) (.tmp 26) 24 24 rfl 5 Try.underlying24 (by kernel_rfl) (some ⟨w.heap.size, 9, none⟩) (some ⟨ad.block, ad.off + 8 + 1, none⟩) 47 47 55 (c - 8 - 1) (by rfl) (by rfl) w.heap.size 9 (nums .u8 cur3) 75 R3.out (nums .u8 ((b.drop 9).take 47)) ?c1 ?c2 ?c3 ?c4 w.heap.size w B3.out (Nat.le_refl _) ?_
  case c1 => rw [nums_length, List.length_take, List.length_drop, HB64.out]; rfl
  case c2 => exact fun _ => ⟨rfl, ⟨ad.block, ad.off + 8 + 1, none⟩, rfl, fun j v hv => drop_cell HCL.out B3.out 9 (take_cell hv) (by omega) (by decide)⟩
  case c3 => rw [nums_length, nums_length, H3.out, List.length_take]; omega
  case c4 => exact fun v hv => nums_one _ _ v hv
  intro w4 hh4 hb4
  rw [nums_splice] at hh4
  have R4 := Aside0.mk (show HoldsRow w4 w.heap.size 75 (rowK .u8 (splice cur3 9 ((b.drop 9).take 47))) from hh4.out)
  have B4 := Aside0.mk hb4
  clear hh4 hb4
  rw [nums_length, show ((b.drop 9).take 47).length = 47 by rw [List.length_take, List.length_drop]; omega]
  refine hK.out _ _ (trivial) (fun hHeld => ?_)
  clear hK K
  refine norm_ (a' := ?_) ?_ ?_
  rotate_left
  · show Act.put _ (some 27) _ = _
    simp only [Act.put, List.setIfInBounds_toArray, List.set_cons_zero, List.set_cons_succ, i64_w, i32_w]
    rfl
  refine pure_ (i := 7) (N := some 28) (v := ?_) (a' := ?_) #[true, true, true, true, true, true, true, true, false] rfl rfl (by kernel_rfl) (fun _ _ _ h => h) (Or.inl ⟨by rfl, ?_⟩) ?_ ?_
  rotate_left
  · intro w'
    go_simp
    with_reducible rfl
  rotate_left
  · simp only [Act.put, List.setIfInBounds_toArray, List.set_cons_zero, List.set_cons_succ, i64_w, i32_w]
    rfl
  refine one_ (i := 8) (N := some 29) #[true, true, true, true, true, true, true, true, true] rfl rfl (by kernel_rfl) (by decide) (fun K hK => ?_)
  refine step_copy_splice rfl (.tmp 22) (.tmp 28) 24 24 rfl 5 Try.underlying24 (by kernel_rfl) (some ⟨w.heap.size, 56, none⟩) (some ⟨ad.block, ad.off + 8 + 1 + 47, none⟩) 8 8 8 (c - 8 - 1 - 47) (by rfl) (by rfl) w.heap.size 56 (nums .u8 (splice cur3 9 ((b.drop 9).take 47))) 75 R4.out (nums .u8 (b.drop 56)) ?c1 ?c2 ?c3 ?c4 w.heap.size w B4.out (Nat.le_refl _) ?_
  case c1 => rw [nums_length, List.length_drop, HB64.out]; rfl
  case c2 => exact fun _ => ⟨rfl, ⟨ad.block, ad.off + 8 + 1 + 47, none⟩, rfl, fun j v hv => drop_cell HCL.out B4.out 56 hv (by omega) (by decide)⟩
  case c3 => rw [nums_length, nums_length, length_splice _ _ _ (by rw [H3.out, List.length_take]; omega), H3.out, List.length_drop]; omega
  case c4 => exact fun v hv => nums_one _ _ v hv
  intro w5 hh5 hb5
  rw [nums_splice] at hh5
  have R5 := Aside0.mk (show HoldsRow w5 w.heap.size 75 (rowK .u8 (splice (splice cur3 9 ((b.drop 9).take 47)) 56 (b.drop 56))) from hh5.out)
  have B5 := Aside0.mk hb5
  clear hh5 hb5
  refine hK.out _ _ (trivial) (fun hHeld => ?_)
  clear hK K
  refine norm_ (a' := ?_) ?_ ?_
  rotate_left
  · show Act.put _ (some 29) _ = _
    simp only [Act.put, List.setIfInBounds_toArray, List.set_cons_zero, List.set_cons_succ, i64_w, i32_w]
    rfl
  refine done_ (by kernel_rfl) ?_
  
  have R6 := Aside0.mk (show HoldsRow w5 w.heap.size 75 (rowK .u8 b) by
    have := R5.out
    rw [HC3.out, parts_eq b HB64.out] at this
    exact this)
  have hsz : (rowK .u8 b).size = 64 := by rw [rowK_size, HB64.out]
  clear R5 R4 R3 B3 B4 HCL HC3 H3
  go_wp2_with (first | (refine wpList_load_row rfl 75 (.tmp 2) rfl w.heap.size rfl 75 (rowK .u8 b) (0, 0) _ R6.out Try.underlying75 rfl (by rw [hsz]; kernel_rfl) ?_) | (refine wpList_store_row rfl 75 _ _ rfl w.heap.size (rowK .u8 b) rfl rfl 75 (rowK .u8 b) R6.out (by rw [hsz]; kernel_rfl) rfl (rowK_one _ _) ?_))
  exact bodyPost_ret (results_cell2 (p := 2) (q := 3) (ty := 75) rfl _ _ w.heap.size (rowK .u8 b) rfl (run_loadVar_row _ w.heap.size 75 75 (rowK .u8 b) (0, 0) _ (R6.out.row _) Try.underlying75 rfl (by rw [hsz]; kernel_rfl))) rfl ⟨rfl, Go.Proofs.Ytfkndnocjelhgaa.Arr.below_setRow B5.out _ (Nat.le_refl _)⟩
end Go.Proofs.Ytfkndnocjelhgaa.Ext
