/- encorelaw05.StripKnown, walked: the laws of the layer by their contracts. No condition. -/
import Derived.Deep.Slices
import Derived.Test.YtfkndnocjelhgaaStripScansW
import Derived.Test.YtfkndnocjelhgaaMany
namespace Go.Proofs.Ytfkndnocjelhgaa.Ext
open Go Go.RowKit Go.Proofs.YtfkndnocjelhgaaW.PrintWords Go.Proofs.YtfkndnocjelhgaaW.PrintLast Go.Proofs.YtfkndnocjelhgaaW.PrintMore Go.Proofs.Ytfkndnocjelhgaa.Base Go.Proofs.Ytfkndnocjelhgaa.Arr
set_option linter.unusedVariables false
set_option linter.unusedSimpArgs false

def stampsL : List Value := [.int .i64 0, .int .i64 0, .int .i64 1, .int .i64 0, .int .i64 (-1), .int .i64 0, .int .i64 4294967295, .int .i64 4294967295, .int .i64 4294967296, .int .i64 0, .int .i64 1, .int .i64 4294967296, .int .i64 1, .int .i64 (-1)]
theorem stamps_cell {W : World} {S : Nat} (h : HoldsRow W S 23 stampsL.toArray) (j : Nat) (hj : j < 7) : ∃ g e : Int, W.cell? ⟨S, j * 2, none⟩ = some (.int .i64 g) ∧ W.cell? ⟨S, j * 2 + 1, none⟩ = some (.int .i64 e) := by
  obtain rfl | rfl | rfl | rfl | rfl | rfl | rfl : j = 0 ∨ j = 1 ∨ j = 2 ∨ j = 3 ∨ j = 4 ∨ j = 5 ∨ j = 6 := by omega
  all_goals exact ⟨_, _, h.cell rfl, h.cell rfl⟩
theorem make_94 (j : Nat) (hj : j < 7) (W : World) : (Instr.makeSlice 24 (.int .i64 ((94 + j : Nat) : Int)) (.int .i64 ((94 + j : Nat) : Int))).run Try.prog W = .ok (.slice (some ⟨W.heap.size, 0, none⟩) (94 + j) (94 + j)) (W.alloc (.cells (rowK .u8 (List.replicate (94 + j) 0)) 5)) := by
  obtain rfl | rfl | rfl | rfl | rfl | rfl | rfl : j = 0 ∨ j = 1 ∨ j = 2 ∨ j = 3 ∨ j = 4 ∨ j = 5 ∨ j = 6 := by omega
  all_goals kernel_rfl
theorem add_zero_off (g j : Nat) : (⟨g, 0, none⟩ : Addr).add j = ⟨g, j, none⟩ := by
  unfold Addr.add
  split
  · rename_i h; rw [h]
  · simp
/-- a value that is a row of bytes -/
def Cel (W : World) (v : Value) (x : List Int) : Prop := ∃ A c, v = .slice A x.length c ∧ x.length ≤ c ∧ Kd.C (Kd.int .u8) W A x.length x
theorem Cel.below {W W' : World} {v : Value} {x : List Int} (h : Cel W v x) (hb : Below W.heap.size W W') : Cel W' v x := by
  obtain ⟨A, c, h1, h2, h3⟩ := h
  exact ⟨A, c, h1, h2, Kd.C_below h3 hb⟩
theorem Cel.nil (W : World) : Cel W (.slice none 0 0) [] := ⟨none, 0, rfl, Nat.le_refl _, Kd.C_nil _ _⟩
theorem Cel.oneCell {W : World} {v : Value} {x : List Int} (h : Cel W v x) : v.oneCell' = true := by
  obtain ⟨A, c, rfl, -, -⟩ := h
  rfl
def Cels (W : World) : List Value → List (List Int) → Prop
  | [], [] => True
  | v :: vs, x :: xs => Cel W v x ∧ Cels W vs xs
  | _, _ => False
theorem Cels.get {W : World} : ∀ {vs : List Value} {l : List (List Int)}, Cels W vs l → ∀ (j : Nat) (x : List Int), l[j]? = some x → ∃ v, vs[j]? = some v ∧ Cel W v x
  | [], [], _, j, x, hx => by simp at hx
  | [], _ :: _, h, _, _, _ => h.elim
  | _ :: _, [], h, _, _, _ => h.elim
  | v :: vs, y :: ys, h, 0, x, hx => by
    obtain rfl := Option.some.inj hx
    exact ⟨v, rfl, h.1⟩
  | v :: vs, y :: ys, h, j + 1, x, hx => Cels.get h.2 j x hx
theorem rows_C {W : World} {g t : Nat} {vs : List Value} {l : List (List Int)} (h : HoldsRow W g t vs.toArray) (hv : Cels W vs l) (hl : l.length ≤ 9223372036854775807) : Kd.C (Kd.slice 5 (Kd.int .u8)) W (some ⟨g, 0, none⟩) l.length l := by
  refine ⟨rfl, hl, fun _ => ⟨⟨g, 0, none⟩, rfl, fun j p hj => ?_⟩⟩
  obtain ⟨v, hvj, A, c, rfl, hle, hc⟩ := Cels.get hv j p hj
  refine ⟨[.slice A p.length c], rfl, ⟨A, c, rfl, hle, hc⟩, fun i u hu => ?_⟩
  rcases i with _ | i
  · obtain rfl := Option.some.inj hu
    rw [show j * (Kd.slice 5 (Kd.int .u8)).sz + 0 = j from Nat.mul_one j, add_zero_off]
    exact h.cell (by simpa using hvj)
  · simp at hu
/-- what a run's cells are, when they have been read only -/
theorem row_cells {W : World} {base : Nat} {ok : Nat → Prop} {v : Value} {l : List (List Int)} (h : Kd.S (Kd.slice 5 (Kd.int .u8)) 24 W base ok v l) (hp : 0 < l.length) :
    ∃ g cap, v = .slice (some ⟨g, 0, none⟩) l.length cap ∧ ∀ j (_ : j < l.length), ∃ u, W.cell? ⟨g, j, none⟩ = some u ∧ Cel W u (l.getD j []) := by
  obtain ⟨g, cap, rfl, -, -, -⟩ := Kd.S_form h hp
  refine ⟨g, cap, rfl, fun j hj => ?_⟩
  obtain ⟨cs, -, ⟨u, rfl, hr⟩, hc⟩ := Kd.S_get h ([] : List Int) (j : Int) (by omega) (by omega)
  rw [Int.toNat_natCast] at hr hc
  have h0 := hc 0 u rfl
  rw [show j * (Kd.slice 5 (Kd.int .u8)).sz + 0 = j from Nat.mul_one j, add_zero_off] at h0
  obtain ⟨A, c, rfl⟩ := Kd.R_slice hr
  have hrd := Kd.R_reads' hr
  exact ⟨_, h0, A, c, rfl, hrd.2.1, hrd.2.2⟩
def z95 : List Int := List.replicate 95 0
theorem make95 (W : World) : (Instr.makeSlice 24 (.int .i64 95) (.int .i64 95)).run Try.prog W = .ok (.slice (some ⟨W.heap.size, 0, none⟩) 95 95) (W.alloc (.cells (rowK .u8 z95) 5)) := by kernel_rfl
def ka0 : List Int := cellOf 2 4 true (List.replicate 47 0)
def ka1 : List Int := cellOf 2 4 false (List.replicate 47 0)
def ka2 : List Int := cellOf 2 4 false [0]
def kb0 : List Int := cellOf 2 6 true [9]
def kc0 : List Int := cellOf 3 6 true [9]
def kp0 : List Int := kb0.set 8 1
theorem cells_ka : strip_Cells.f 2 4 z95 = some ([ka0, ka1, ka2], 0) := by decide +kernel
theorem cells_kb : strip_Cells.f 2 6 [9] = some ([kb0], 0) := by decide +kernel
theorem cells_kc : strip_Cells.f 3 6 [9] = some ([kc0], 0) := by decide +kernel
theorem kb_len : kb0.length = 64 := by decide +kernel
theorem kb_bytes : Bytes kb0 := bytes_of (by decide +kernel)
def kRows : List (List (List Int)) := [[ka0, ka1, ka2, kb0], [ka1, ka2], [kb0, ka0], [ka0, kp0], [ka0, kc0], [ka0, [], ka1], [kb0, kb0, kp0], [ka0, ka2, ka1, ka0]]
theorem kRows_ok : ∀ l ∈ kRows, rowsB l = true ∧ sizedB l = true := by decide +kernel
--DEFS0
def kVal (ga capa gb capb gc capc gp cp na0 la0 na1 la1 na2 la2 cb nc0 lc0 : Nat) (Aa0 Aa1 Aa2 Ab Ac0 : Option Addr) (i : Nat) : Value := ([.slice (some ⟨ga, 0, none⟩) 3 capa, .pointer (some ⟨ga, 0, none⟩), .slice Aa0 na0 la0, .slice (some ⟨ga, 0, none⟩) 3 capa, .pointer (some ⟨ga, 1, none⟩), .slice Aa1 na1 la1, .slice (some ⟨ga, 0, none⟩) 3 capa, .pointer (some ⟨ga, 2, none⟩), .slice Aa2 na2 la2, .slice (some ⟨gb, 0, none⟩) 1 capb, .pointer (some ⟨gb, 0, none⟩), .slice Ab 64 cb, undef, .slice (some ⟨ga, 0, none⟩) 3 capa, .pointer (some ⟨ga, 1, none⟩), .slice Aa1 na1 la1, .slice (some ⟨ga, 0, none⟩) 3 capa, .pointer (some ⟨ga, 2, none⟩), .slice Aa2 na2 la2, undef, .slice (some ⟨gb, 0, none⟩) 1 capb, .pointer (some ⟨gb, 0, none⟩), .slice Ab 64 cb, .slice (some ⟨ga, 0, none⟩) 3 capa, .pointer (some ⟨ga, 0, none⟩), .slice Aa0 na0 la0, undef, .slice (some ⟨ga, 0, none⟩) 3 capa, .pointer (some ⟨ga, 0, none⟩), .slice Aa0 na0 la0, .slice (some ⟨gp, 0, none⟩) 64 cp, undef, .slice (some ⟨ga, 0, none⟩) 3 capa, .pointer (some ⟨ga, 0, none⟩), .slice Aa0 na0 la0, .slice (some ⟨gc, 0, none⟩) 1 capc, .pointer (some ⟨gc, 0, none⟩), .slice Ac0 nc0 lc0, undef, .slice (some ⟨ga, 0, none⟩) 3 capa, .pointer (some ⟨ga, 0, none⟩), .slice Aa0 na0 la0, .slice (some ⟨ga, 0, none⟩) 3 capa, .pointer (some ⟨ga, 1, none⟩), .slice Aa1 na1 la1, undef, .slice (some ⟨gb, 0, none⟩) 1 capb, .pointer (some ⟨gb, 0, none⟩), .slice Ab 64 cb, .slice (some ⟨gb, 0, none⟩) 1 capb, .pointer (some ⟨gb, 0, none⟩), .slice Ab 64 cb, .slice (some ⟨gp, 0, none⟩) 64 cp, undef, .slice (some ⟨ga, 0, none⟩) 3 capa, .pointer (some ⟨ga, 0, none⟩), .slice Aa0 na0 la0, .slice (some ⟨ga, 0, none⟩) 3 capa, .pointer (some ⟨ga, 2, none⟩), .slice Aa2 na2 la2, .slice (some ⟨ga, 0, none⟩) 3 capa, .pointer (some ⟨ga, 1, none⟩), .slice Aa1 na1 la1, .slice (some ⟨ga, 0, none⟩) 3 capa, .pointer (some ⟨ga, 0, none⟩), .slice Aa0 na0 la0, undef, undef, undef] : List Value).getD i undef
def kRow (ga capa gb capb gc capc gp cp na0 la0 na1 la1 na2 la2 cb nc0 lc0 : Nat) (Aa0 Aa1 Aa2 Ab Ac0 : Option Addr) (i : Nat) : List Value := ([[], [], [], [], [], [], [], [], [], [], [], [], [.slice Aa0 na0 la0, .slice Aa1 na1 la1, .slice Aa2 na2 la2, .slice Ab 64 cb], [], [], [], [], [], [], [.slice Aa1 na1 la1, .slice Aa2 na2 la2], [], [], [], [], [], [], [.slice Ab 64 cb, .slice Aa0 na0 la0], [], [], [], [], [.slice Aa0 na0 la0, .slice (some ⟨gp, 0, none⟩) 64 cp], [], [], [], [], [], [], [.slice Aa0 na0 la0, .slice Ac0 nc0 lc0], [], [], [], [], [], [], [.slice Aa0 na0 la0, .slice none 0 0, .slice Aa1 na1 la1], [], [], [], [], [], [], [], [.slice Ab 64 cb, .slice Ab 64 cb, .slice (some ⟨gp, 0, none⟩) 64 cp], [], [], [], [], [], [], [], [], [], [], [], [], [.slice Aa0 na0 la0, .slice Aa2 na2 la2, .slice Aa1 na1 la1, .slice Aa0 na0 la0], [], []] : List (List Value)).getD i []
def kT (i : Nat) : Tmp := ([98, 99, 100, 101, 102, 103, 104, 105, 106, 107, 108, 109, 110, 111, 112, 113, 114, 115, 116, 117, 118, 119, 120, 121, 122, 123, 124, 125, 126, 127, 128, 129, 130, 131, 132, 133, 134, 135, 136, 137, 138, 139, 140, 141, 142, 143, 144, 145, 146, 147, 148, 149, 150, 151, 152, 153, 154, 155, 156, 157, 158, 159, 160, 161, 162, 163, 164, 165, 10] : List Nat).getD i 0
def kKind (i : Nat) : Nat := ([0, 0, 0, 0, 0, 0, 0, 0, 0, 0, 0, 0, 1, 0, 0, 0, 0, 0, 0, 1, 0, 0, 0, 0, 0, 0, 1, 0, 0, 0, 0, 1, 0, 0, 0, 0, 0, 0, 1, 0, 0, 0, 0, 0, 0, 1, 0, 0, 0, 0, 0, 0, 0, 1, 0, 0, 0, 0, 0, 0, 0, 0, 0, 0, 0, 0, 1, 2, 2] : List Nat).getD i 0
/-- the block of the rows, and each row's own -/
def kX (R : Nat → List Value) (w : World) (gx : Nat) : Prop := ∃ f12 f19 f26 f31 f38 f45 f53 f66 : Nat, HoldsRow w gx 26 #[.slice (some ⟨f12, 0, none⟩) 4 4, .slice (some ⟨f19, 0, none⟩) 2 2, .slice (some ⟨f26, 0, none⟩) 2 2, .slice (some ⟨f31, 0, none⟩) 2 2, .slice (some ⟨f38, 0, none⟩) 2 2, .slice (some ⟨f45, 0, none⟩) 3 3, .slice (some ⟨f53, 0, none⟩) 3 3, .slice (some ⟨f66, 0, none⟩) 4 4] ∧ HoldsRow w f12 24 (R 12).toArray ∧ HoldsRow w f19 24 (R 19).toArray ∧ HoldsRow w f26 24 (R 26).toArray ∧ HoldsRow w f31 24 (R 31).toArray ∧ HoldsRow w f38 24 (R 38).toArray ∧ HoldsRow w f45 24 (R 45).toArray ∧ HoldsRow w f53 24 (R 53).toArray ∧ HoldsRow w f66 24 (R 66).toArray
def kRowAt (L : List Value) (w : World) (v : Value) : Prop := ∃ f : Nat, v = .slice (some ⟨f, 0, none⟩) L.length L.length ∧ HoldsRow w f 24 L.toArray
def kAll (R : Nat → List Value) (w : World) (v : Value) : Prop := ∃ gx : Nat, v = .slice (some ⟨gx, 0, none⟩) 8 8 ∧ kX R w gx
def kG (V : Nat → Value) (R : Nat → List Value) (i : Nat) (w : World) (v : Value) : Prop := if kKind i = 0 then v = V i else if kKind i = 1 then kRowAt (R i) w v else kAll R w v
section
variable {V : Nat → Value} {R : Nat → List Value} {i : Nat} {w : World} {v : Value}
theorem kG_val (hk : kKind i = 0) (h : kG V R i w v) : v = V i := by unfold kG at h; rw [if_pos hk] at h; exact h
theorem kG_of (hk : kKind i = 0) (h : v = V i) : kG V R i w v := by unfold kG; rw [if_pos hk]; exact h
theorem kG_row (hk : kKind i = 1) (h : kG V R i w v) : kRowAt (R i) w v := by unfold kG at h; rw [if_neg (by rw [hk]; decide), if_pos hk] at h; exact h
theorem kG_of_row (hk : kKind i = 1) (h : kRowAt (R i) w v) : kG V R i w v := by unfold kG; rw [if_neg (by rw [hk]; decide), if_pos hk]; exact h
theorem kG_all (hk : kKind i = 2) (h : kG V R i w v) : kAll R w v := by unfold kG at h; rw [if_neg (by rw [hk]; decide), if_neg (by rw [hk]; decide)] at h; exact h
theorem kG_of_all (hk : kKind i = 2) (h : kAll R w v) : kG V R i w v := by unfold kG; rw [if_neg (by rw [hk]; decide), if_neg (by rw [hk]; decide)]; exact h
end
theorem exec_lit {P : Program} {o : Oper} {a : Act} {w : World} (t e : TypeId) (len : Nat) (parts : Array (Nat × Operand)) (ho : o.op = .buildSlice t len parts) (L vs : List Value) (hL : L = vs) (hv : (parts.map fun (i, x) => (i, a.eval x)).toList = (vs.zipIdx 0).map fun x => (x.2, x.1)) (z : Value)
    (hu : P.underlying t = some (.slice e)) (hinfo : (P.info? e).map (fun i => (i.zero, i.size)) = some (some z, 1)) (hl : (decide (0 < len) && decide (len ≤ 1000) && decide (vs.length = len)) = true) (h1 : ∀ v ∈ vs, v.cells = #[v]) :
    (execOp a.eval o).run P w = .ok (.value (.slice (some ⟨w.heap.size, 0, none⟩) len len)) (w.alloc (.cells L.toArray e)) := by
  subst hL
  obtain ⟨ie, hie, he⟩ := Option.map_eq_some_iff.1 hinfo
  injection he with h2 h3
  simp only [Bool.and_eq_true, decide_eq_true_eq] at hl
  unfold execOp
  simp only [ho, Sem.run_bind, run_buildSlice w t e len _ L.toArray ie z hu hie h2 (by rw [h3]; omega) (by rw [h3]; omega) (by rw [hv, h3]; exact Great.fill_flat L _ h1 (by simp; omega)), Result.andThen_ok]
  rfl
theorem kX.below {R : Nat → List Value} {w w' : World} {gx : Nat} (h : kX R w gx) (hb : Below w.heap.size w w') : kX R w' gx := by
  obtain ⟨f12, f19, f26, f31, f38, f45, f53, f66, h0, h12, h19, h26, h31, h38, h45, h53, h66⟩ := h
  exact ⟨f12, f19, f26, f31, f38, f45, f53, f66, h0.below hb h0.lt, h12.below hb h12.lt, h19.below hb h19.lt, h26.below hb h26.lt, h31.below hb h31.lt, h38.below hb h38.lt, h45.below hb h45.lt, h53.below hb h53.lt, h66.below hb h66.lt⟩
theorem kG_below {V : Nat → Value} {R : Nat → List Value} {w w' : World} (hb : Below w.heap.size w w') (i : Nat) (v : Value) (h : kG V R i w v) : kG V R i w' v := by
  unfold kG at h ⊢
  split at h
  · rename_i h0; rw [if_pos h0]; exact h
  · rename_i h0
    rw [if_neg h0]
    split at h
    · rename_i h1
      rw [if_pos h1]
      obtain ⟨f, e, h⟩ := h
      exact ⟨f, e, h.below hb h.lt⟩
    · rename_i h1
      rw [if_neg h1]
      obtain ⟨f, e, h⟩ := h
      exact ⟨f, e, h.below hb⟩
theorem lit_of (a : Act) (n : Nat) (h : a.tmps.size = n) (hd : a.defers = []) : a = ⟨((List.range n).map fun s => a.tmps.getD s undef).toArray, []⟩ := by
  obtain ⟨⟨l⟩, d⟩ := a
  have hl : l.length = n := h
  have hd2 : d = [] := hd
  subst hd2
  have e : (List.range n).map (fun s => (⟨l⟩ : Array Value).getD s undef) = l := by
    refine List.ext_getElem (by rw [List.length_map, List.length_range, hl]) fun i h1 h2 => ?_
    rw [List.getElem_map, List.getElem_range, Array.getD_eq_getD_getElem?, List.getElem?_toArray, List.getElem?_eq_getElem h2]
    rfl
  show (⟨⟨l⟩, []⟩ : Act) = ⟨⟨(List.range n).map fun s => (⟨l⟩ : Array Value).getD s undef⟩, []⟩
  rw [e]
set_option maxRecDepth 100000 in
theorem lit_act (a : Act) (h : a.tmps.size = 249) (hd : a.defers = []) : ∃ y : Nat → Value, (∀ s, a.eval (.tmp s) = y s) ∧ a = ⟨(y 0 :: y 1 :: y 2 :: y 3 :: y 4 :: y 5 :: y 6 :: y 7 :: y 8 :: y 9 :: y 10 :: y 11 :: y 12 :: y 13 :: y 14 :: y 15 :: y 16 :: y 17 :: y 18 :: y 19 :: y 20 :: y 21 :: y 22 :: y 23 :: y 24 :: y 25 :: y 26 :: y 27 :: y 28 :: y 29 :: y 30 :: y 31 :: y 32 :: y 33 :: y 34 :: y 35 :: y 36 :: y 37 :: y 38 :: y 39 :: y 40 :: y 41 :: y 42 :: y 43 :: y 44 :: y 45 :: y 46 :: y 47 :: y 48 :: y 49 :: y 50 :: y 51 :: y 52 :: y 53 :: y 54 :: y 55 :: y 56 :: y 57 :: y 58 :: y 59 :: y 60 :: y 61 :: y 62 :: y 63 :: y 64 :: y 65 :: y 66 :: y 67 :: y 68 :: y 69 :: y 70 :: y 71 :: y 72 :: y 73 :: y 74 :: y 75 :: y 76 :: y 77 :: y 78 :: y 79 :: y 80 :: y 81 :: y 82 :: y 83 :: y 84 :: y 85 :: y 86 :: y 87 :: y 88 :: y 89 :: y 90 :: y 91 :: y 92 :: y 93 :: y 94 :: y 95 :: y 96 :: y 97 :: y 98 :: y 99 :: y 100 :: y 101 :: y 102 :: y 103 :: y 104 :: y 105 :: y 106 :: y 107 :: y 108 :: y 109 :: y 110 :: y 111 :: y 112 :: y 113 :: y 114 :: y 115 :: y 116 :: y 117 :: y 118 :: y 119 :: y 120 :: y 121 :: y 122 :: y 123 :: y 124 :: y 125 :: y 126 :: y 127 :: y 128 :: y 129 :: y 130 :: y 131 :: y 132 :: y 133 :: y 134 :: y 135 :: y 136 :: y 137 :: y 138 :: y 139 :: y 140 :: y 141 :: y 142 :: y 143 :: y 144 :: y 145 :: y 146 :: y 147 :: y 148 :: y 149 :: y 150 :: y 151 :: y 152 :: y 153 :: y 154 :: y 155 :: y 156 :: y 157 :: y 158 :: y 159 :: y 160 :: y 161 :: y 162 :: y 163 :: y 164 :: y 165 :: y 166 :: y 167 :: y 168 :: y 169 :: y 170 :: y 171 :: y 172 :: y 173 :: y 174 :: y 175 :: y 176 :: y 177 :: y 178 :: y 179 :: y 180 :: y 181 :: y 182 :: y 183 :: y 184 :: y 185 :: y 186 :: y 187 :: y 188 :: y 189 :: y 190 :: y 191 :: y 192 :: y 193 :: y 194 :: y 195 :: y 196 :: y 197 :: y 198 :: y 199 :: y 200 :: y 201 :: y 202 :: y 203 :: y 204 :: y 205 :: y 206 :: y 207 :: y 208 :: y 209 :: y 210 :: y 211 :: y 212 :: y 213 :: y 214 :: y 215 :: y 216 :: y 217 :: y 218 :: y 219 :: y 220 :: y 221 :: y 222 :: y 223 :: y 224 :: y 225 :: y 226 :: y 227 :: y 228 :: y 229 :: y 230 :: y 231 :: y 232 :: y 233 :: y 234 :: y 235 :: y 236 :: y 237 :: y 238 :: y 239 :: y 240 :: y 241 :: y 242 :: y 243 :: y 244 :: y 245 :: y 246 :: y 247 :: y 248 :: []).toArray, []⟩ := by
  refine ⟨fun s => a.tmps.getD s undef, fun s => rfl, (lit_of a 249 h hd).trans ?_⟩
  kernel_rfl
--DEFS1
/-- the rows that are scanned, as the block says them -/
def KRow (W : World) (g : Nat) : Prop := ∀ i l, kRows[i]? = some l → ∃ A, W.cell? ⟨g, i, none⟩ = some (.slice A l.length l.length) ∧ Kd.C (Kd.slice 5 (Kd.int .u8)) W A l.length l
theorem KRow.below {W W' : World} {g : Nat} (h : KRow W g) (hb : Below W.heap.size W W') : KRow W' g := fun i l hl => by
  obtain ⟨A, h1, h2⟩ := h i l hl
  exact ⟨A, pw_cell_below hb h1, Kd.C_below h2 hb⟩
theorem cells_k (g e : Int) (A : Option Addr) (n : Nat) (l : List Int) (a : Int) (w : World) (hn : n = l.length) (hr : Kd.C (Kd.int .u8) w A l.length l) :
    Calls Try.prog 3 #[.agg #[.int .i64 g, .int .i64 e], .slice A n n, .int .i64 a] w fun e w' => e = .returned (.bool true) ∧ Below w.heap.size w w' := by
  subst hn
  exact encorelaw05_StripCells.calls g e A l.length l a true w hr (Nat.le_refl _) rfl
theorem scans_k (g e : Int) (A : Option Addr) (l : List (List Int)) (w : World) (hr : Kd.C (Kd.slice 5 (Kd.int .u8)) w A l.length l) (hb : rowsB l = true ∧ sizedB l = true) :
    Calls Try.prog 7 #[.slice A l.length l.length, .agg #[.int .i64 g, .int .i64 e]] w fun e w' => e = .returned (.bool true) ∧ Below w.heap.size w w' :=
  encorelaw05_StripScans.calls A l.length l g e true w hr (Nat.le_refl _) (if_pos hb)
theorem reads_k (A : Option Addr) (n c : Nat) (l : List Int) (w : World) (hn : l.length = n) (hr : Kd.C (Kd.int .u8) w A n l) (hc : n ≤ c) (hb : Bytes l) (hl : n < 140737488355328) :
    Calls Try.prog 4 #[.slice A n c] w fun e w' => e = .returned (.bool true) ∧ Below w.heap.size w w' := by
  subst hn
  exact encorelaw05_StripReads.calls A c l true w hr hc (if_pos ⟨bytes_to hb, hl⟩)
/-- what stands through the loops -/
def KS (w0 : World) (gx gb : Nat) (Ab : Option Addr) (cb : Nat) (W : World) : Prop := KRow W gx ∧ W.cell? ⟨gb, 0, none⟩ = some (.slice Ab 64 cb) ∧ Kd.C (Kd.int .u8) W Ab 64 kb0 ∧ Below w0.heap.size w0 W
theorem KS.step {w0 W W' : World} {gx gb cb : Nat} {Ab : Option Addr} (h : KS w0 gx gb Ab cb W) (hb : Below W.heap.size W W') : KS w0 gx gb Ab cb W' :=
  ⟨h.1.below hb, pw_cell_below hb h.2.1, Kd.C_below h.2.2.1 hb, h.2.2.2.trans (hb.mono h.2.2.2.size)⟩
theorem xor_ok : ∀ k : Nat, k < 64 → 0 ≤ bits BinOp.xor .u8 (rdOf 0 kb0 (k : Int)) 193 ∧ bits BinOp.xor .u8 (rdOf 0 kb0 (k : Int)) 193 < 256 := by decide +kernel
theorem Bytes.set {l : List Int} (h : Bytes l) (i : Nat) {x : Int} (hx : 0 ≤ x ∧ x < 256) : Bytes (l.set i x) := fun y hy => by
  rcases List.mem_or_eq_of_mem_set hy with h1 | h1
  · exact h y h1
  · rw [h1]; exact hx
def z65 : List Int := List.replicate 65 0
theorem make65 (W : World) : (Instr.makeSlice 24 (.int .i64 65) (.int .i64 65)).run Try.prog W = .ok (.slice (some ⟨W.heap.size, 0, none⟩) 65 65) (W.alloc (.cells (rowK .u8 z65) 5)) := by kernel_rfl
theorem kRows_len : kRows.length = 8 := rfl
set_option maxHeartbeats 400000000 in
set_option maxRecDepth 100000 in
theorem known_calls (w : World) : Calls Try.prog 10 #[] w fun en w' => en = .returned (.bool true) ∧ Below w.heap.size w w' := by
  obtain ⟨W1, hW1⟩ : ∃ W1, W1 = w.alloc (.cells #[.int .i64 0, .int .i64 0, .int .i64 1, .int .i64 0, .int .i64 (-1), .int .i64 0, .int .i64 4294967295, .int .i64 4294967295, .int .i64 4294967296, .int .i64 0, .int .i64 1, .int .i64 4294967296, .int .i64 1, .int .i64 (-1)] 23) := ⟨_, rfl⟩
  obtain ⟨S, hS⟩ : ∃ S, S = w.heap.size := ⟨_, rfl⟩
  have P1 := Aside0.mk (show HoldsRow W1 S 23 stampsL.toArray by rw [hW1, hS]; exact HoldsRow.new _ _ _)
  have B1 := Aside0.mk (show Below w.heap.size w W1 by rw [hW1]; exact below_alloc (Below.refl _ _) _)
  have HW1 := Aside0.mk hW1
  have HS := Aside0.mk hS
  clear hW1 hS
  go_enter Try.func10, Try.ntmps10
  go_wp2_with fail
  rw [← HW1.out, ← HS.out]
  go_loopw [2] (fun i wr => ∃ (j : Nat), j ≤ 7 ∧ i = .int .i64 (j : Nat) ∧ Aside0 (HoldsRow wr S 23 stampsL.toArray) ∧ Aside0 (Below w.heap.size w wr)) (fun i _ => 7 - (intOf i).toNat)
  case atStart => exact ⟨0, by omega, rfl, P1, B1⟩
  case round =>
    obtain ⟨j, hj, rfl, P, B⟩ := hrel
    clear P1 B1 HW1 W1
    by_cases hlt : j < 7
    · obtain ⟨g, e, m0, m1⟩ := stamps_cell P.out j hlt
      have d1 : decide ((j : Int) < 7) = true := decide_eq_true (by omega)
      have b0 := eq_true (show (0 : Int) ≤ (j : Int) by omega)
      have b1 := eq_true (show (j : Int) < 7 by omega)
      have hj1 : wrap64 ((j : Int) + 1) = ((j + 1 : Nat) : Int) := by unfold wrap64; omega
      have hw1 : wrap64 ((j : Int) - 2) = (j : Int) - 2 := by unfold wrap64; omega
      have hw2 : wrap64 (46 + (j : Int)) = 46 + (j : Int) := by unfold wrap64; omega
      have hw3 : wrap64 (94 + (j : Int)) = ((94 + j : Nat) : Int) := by unfold wrap64; omega
      have hmk := make_94 j hlt
      rw [← hw3] at hmk
      have HMK := Aside0.mk hmk
      clear hmk hw1 hw2 hw3
      obtain ⟨W2, hW2⟩ : ∃ W2, W2 = wr.drew.alloc (.cells #[.int .u8 1, .int .u8 2] 5) := ⟨_, rfl⟩
      have B2 := Aside0.mk (show Below w.heap.size w W2 by rw [hW2]; exact below_alloc (below_drew B.out) _)
      have hb2 : Below wr.heap.size wr W2 := by rw [hW2]; exact below_alloc (below_drew (Below.refl wr.heap.size wr)) _
      have P2 := Aside0.mk (P.out.below hb2 P.out.lt)
      have C2 := Aside0.mk (show Kd.C (Kd.int .u8) W2 (some ⟨wr.heap.size, 0, none⟩) ([1, 2] : List Int).length [1, 2] by rw [hW2]; exact new_C wr.drew [1, 2] (by decide))
      have HW2 := Aside0.mk hW2
      have n0 := pw_cell_below hb2 m0
      have n1 := pw_cell_below hb2 m1
      clear hW2 hb2
      go_wp2_with fail
      refine start_ (n := 30) (S := fun w' => w'.cell? ⟨S, j * 2, none⟩ = some (.int .i64 g) ∧ w'.cell? ⟨S, j * 2 + 1, none⟩ = some (.int .i64 e)) (ds := []) #[false, false, false, false, false, false, false, false, false, false, false, false, false, false, false, false, false, false, false, false, false, false, false, false, false, false, false, false, false, false] (by kernel_rfl) rfl rfl ⟨m0, m1⟩ (fun hHeld => ?_)
      refine pure_ (i := 0) (N := some 31) (v := ?_) (a' := ?_) #[true, false, false, false, false, false, false, false, false, false, false, false, false, false, false, false, false, false, false, false, false, false, false, false, false, false, false, false, false, false] rfl rfl (by kernel_rfl) (fun _ _ _ h => h) (Or.inl ⟨by rfl, ?_⟩) ?_ ?_
      rotate_left
      · intro w'
        go_simp
        with_reducible rfl
      rotate_left
      · simp only [Act.put, List.setIfInBounds_toArray, List.set_cons_zero, List.set_cons_succ, i64_w, i32_w]
        rfl
      refine pure_ (i := 1) (N := some 32) (v := ?_) (a' := ?_) #[true, true, false, false, false, false, false, false, false, false, false, false, false, false, false, false, false, false, false, false, false, false, false, false, false, false, false, false, false, false] rfl rfl (by kernel_rfl) (fun _ _ _ h => h) (Or.inl ⟨by rfl, ?_⟩) ?_ ?_
      rotate_left
      · intro w'
        go_simp
        with_reducible rfl
      rotate_left
      · simp only [Act.put, List.setIfInBounds_toArray, List.set_cons_zero, List.set_cons_succ, i64_w, i32_w]
        rfl
      refine pure_ (i := 2) (N := some 33) (v := ?_) (a' := ?_) #[true, true, true, false, false, false, false, false, false, false, false, false, false, false, false, false, false, false, false, false, false, false, false, false, false, false, false, false, false, false] rfl rfl (by kernel_rfl) (fun _ _ _ h => h) (Or.inl ⟨by rfl, ?_⟩) ?_ ?_
      rotate_left
      · intro w'
        go_simp
        with_reducible rfl
      rotate_left
      · simp only [Act.put, List.setIfInBounds_toArray, List.set_cons_zero, List.set_cons_succ, i64_w, i32_w]
        rfl
      refine pure_ (i := 5) (N := some 36) (v := ?_) (a' := ?_) #[true, true, true, false, false, true, false, false, false, false, false, false, false, false, false, false, false, false, false, false, false, false, false, false, false, false, false, false, false, false] rfl rfl (by kernel_rfl) (fun _ _ _ h => h) (Or.inl ⟨by rfl, ?_⟩) ?_ ?_
      rotate_left
      · intro w'
        go_simp
        with_reducible rfl
      rotate_left
      · simp only [Act.put, List.setIfInBounds_toArray, List.set_cons_zero, List.set_cons_succ, i64_w, i32_w]
        rfl
      refine pure_ (i := 6) (N := some 37) (v := ?_) (a' := ?_) #[true, true, true, false, false, true, true, false, false, false, false, false, false, false, false, false, false, false, false, false, false, false, false, false, false, false, false, false, false, false] rfl rfl (by kernel_rfl) (fun _ _ _ h => h) (Or.inl ⟨by rfl, ?_⟩) ?_ ?_
      rotate_left
      · intro w'
        go_simp
        with_reducible rfl
      rotate_left
      · simp only [Act.put, List.setIfInBounds_toArray, List.set_cons_zero, List.set_cons_succ, i64_w, i32_w]
        rfl
      refine take_ (i := 3) (N := some 34) (v := ?_) (a' := ?_) #[true, true, true, true, false, true, true, false, false, false, false, false, false, false, false, false, false, false, false, false, false, false, false, false, false, false, false, false, false, false] rfl rfl (by kernel_rfl) (fun _ _ _ h => h) (Or.inl ⟨by rfl, ?_⟩) hHeld ?_ ?_
      rotate_left
      · rintro w' ⟨s0, s1⟩
        go_simp
        with_reducible rfl
      rotate_left
      · simp only [Act.put, List.setIfInBounds_toArray, List.set_cons_zero, List.set_cons_succ, i64_w, i32_w]
        rfl
      refine one_ (i := 4) (N := some 35) #[true, true, true, true, true, true, true, false, false, false, false, false, false, false, false, false, false, false, false, false, false, false, false, false, false, false, false, false, false, false] rfl rfl (by kernel_rfl) (by decide) (fun K hK => ?_)
      refine value_ (w1 := W2) (v := .slice (some ⟨wr.heap.size, 0, none⟩) 2 2) (by rfl) rfl ?_ ?_
      · rw [HW2.out]
        go_simp
      refine hK.out _ _ ⟨n0, n1⟩ (fun hHeld => ?_)
      clear hK K
      refine norm_ (a' := ?_) ?_ ?_
      rotate_left
      · show Act.put _ (some 35) _ = _
        simp only [Act.put, List.setIfInBounds_toArray, List.set_cons_zero, List.set_cons_succ, i64_w, i32_w]
        rfl
      refine one_ (i := 7) (N := some 38) #[true, true, true, true, true, true, true, true, false, false, false, false, false, false, false, false, false, false, false, false, false, false, false, false, false, false, false, false, false, false] rfl rfl (by kernel_rfl) (by decide) (fun K hK => ?_)
      refine goes_ Try.func3 (by kernel_rfl) rfl #[.agg #[.int .i64 g, .int .i64 e], .slice (some ⟨wr.heap.size, 0, none⟩) 2 2, .int .i64 (wrap64 ((j : Int) - 2))] (by rfl) rfl rfl (by simp only [List.map_toArray, List.map_cons, List.map_nil]; rfl) ?_
      with_reducible refine (cells_k g e (some ⟨wr.heap.size, 0, none⟩) 2 [1, 2] (wrap64 ((j : Int) - 2)) W2 rfl C2.out).mono ?_
      rintro en w3 ⟨rfl, hb3⟩
      refine ⟨_, rfl, ?_⟩
      have B3 := Aside0.mk (B2.out.trans (hb3.mono B2.out.size))
      have P3 := Aside0.mk (P2.out.below hb3 P2.out.lt)
      have n03 := pw_cell_below hb3 n0
      have n13 := pw_cell_below hb3 n1
      clear hb3
      refine hK.out _ _ ⟨n03, n13⟩ (fun hHeld => ?_)
      clear hK K
      refine norm_ (a' := ?_) ?_ ?_
      rotate_left
      · show Act.put _ (some 38) _ = _
        simp only [Act.put, List.setIfInBounds_toArray, List.set_cons_zero, List.set_cons_succ, i64_w, i32_w]
        rfl
      refine pure_ (i := 8) (N := some 39) (v := ?_) (a' := ?_) #[true, true, true, true, true, true, true, true, true, false, false, false, false, false, false, false, false, false, false, false, false, false, false, false, false, false, false, false, false, false] rfl rfl (by kernel_rfl) (fun _ _ _ h => h) (Or.inl ⟨by rfl, ?_⟩) ?_ ?_
      rotate_left
      · intro w'
        go_simp
        with_reducible rfl
      rotate_left
      · simp only [Act.put, List.setIfInBounds_toArray, List.set_cons_zero, List.set_cons_succ, i64_w, i32_w]
        rfl
      refine pure_ (i := 9) (N := some 40) (v := ?_) (a' := ?_) #[true, true, true, true, true, true, true, true, true, true, false, false, false, false, false, false, false, false, false, false, false, false, false, false, false, false, false, false, false, false] rfl rfl (by kernel_rfl) (fun _ _ _ h => h) (Or.inl ⟨by rfl, ?_⟩) ?_ ?_
      rotate_left
      · intro w'
        go_simp
        with_reducible rfl
      rotate_left
      · simp only [Act.put, List.setIfInBounds_toArray, List.set_cons_zero, List.set_cons_succ, i64_w, i32_w]
        rfl
      refine pure_ (i := 10) (N := some 41) (v := ?_) (a' := ?_) #[true, true, true, true, true, true, true, true, true, true, true, false, false, false, false, false, false, false, false, false, false, false, false, false, false, false, false, false, false, false] rfl rfl (by kernel_rfl) (fun _ _ _ h => h) (Or.inl ⟨by rfl, ?_⟩) ?_ ?_
      rotate_left
      · intro w'
        go_simp
        with_reducible rfl
      rotate_left
      · simp only [Act.put, List.setIfInBounds_toArray, List.set_cons_zero, List.set_cons_succ, i64_w, i32_w]
        rfl
      refine pure_ (i := 11) (N := some 42) (v := ?_) (a' := ?_) #[true, true, true, true, true, true, true, true, true, true, true, true, false, false, false, false, false, false, false, false, false, false, false, false, false, false, false, false, false, false] rfl rfl (by kernel_rfl) (fun _ _ _ h => h) (Or.inl ⟨by rfl, ?_⟩) ?_ ?_
      rotate_left
      · intro w'
        go_simp
        with_reducible rfl
      rotate_left
      · simp only [Act.put, List.setIfInBounds_toArray, List.set_cons_zero, List.set_cons_succ, i64_w, i32_w]
        rfl
      refine pure_ (i := 12) (N := some 43) (v := ?_) (a' := ?_) #[true, true, true, true, true, true, true, true, true, true, true, true, true, false, false, false, false, false, false, false, false, false, false, false, false, false, false, false, false, false] rfl rfl (by kernel_rfl) (fun _ _ _ h => h) (Or.inl ⟨by rfl, ?_⟩) ?_ ?_
      rotate_left
      · intro w'
        go_simp
        with_reducible rfl
      rotate_left
      · simp only [Act.put, List.setIfInBounds_toArray, List.set_cons_zero, List.set_cons_succ, i64_w, i32_w]
        rfl
      refine pure_ (i := 14) (N := some 45) (v := ?_) (a' := ?_) #[true, true, true, true, true, true, true, true, true, true, true, true, true, false, true, false, false, false, false, false, false, false, false, false, false, false, false, false, false, false] rfl rfl (by kernel_rfl) (fun _ _ _ h => h) (Or.inl ⟨by rfl, ?_⟩) ?_ ?_
      rotate_left
      · intro w'
        go_simp
        with_reducible rfl
      rotate_left
      · simp only [Act.put, List.setIfInBounds_toArray, List.set_cons_zero, List.set_cons_succ, i64_w, i32_w]
        rfl
      refine pure_ (i := 15) (N := some 46) (v := ?_) (a' := ?_) #[true, true, true, true, true, true, true, true, true, true, true, true, true, false, true, true, false, false, false, false, false, false, false, false, false, false, false, false, false, false] rfl rfl (by kernel_rfl) (fun _ _ _ h => h) (Or.inl ⟨by rfl, ?_⟩) ?_ ?_
      rotate_left
      · intro w'
        go_simp
        with_reducible rfl
      rotate_left
      · simp only [Act.put, List.setIfInBounds_toArray, List.set_cons_zero, List.set_cons_succ, i64_w, i32_w]
        rfl
      refine take_ (i := 13) (N := some 44) (v := ?_) (a' := ?_) #[true, true, true, true, true, true, true, true, true, true, true, true, true, true, true, true, false, false, false, false, false, false, false, false, false, false, false, false, false, false] rfl rfl (by kernel_rfl) (fun _ _ _ h => h) (Or.inl ⟨by rfl, ?_⟩) hHeld ?_ ?_
      rotate_left
      · rintro w' ⟨s0, s1⟩
        go_simp
        with_reducible rfl
      rotate_left
      · simp only [Act.put, List.setIfInBounds_toArray, List.set_cons_zero, List.set_cons_succ, i64_w, i32_w]
        rfl
      refine one_ (i := 16) (N := some 47) #[true, true, true, true, true, true, true, true, true, true, true, true, true, true, true, true, true, false, false, false, false, false, false, false, false, false, false, false, false, false] rfl rfl (by kernel_rfl) (by decide) (fun K hK => ?_)
      refine goes_ Try.func3 (by kernel_rfl) rfl #[.agg #[.int .i64 g, .int .i64 e], .slice none 0 0, .int .i64 (wrap64 (46 + (j : Int)))] (by rfl) rfl rfl (by simp only [List.map_toArray, List.map_cons, List.map_nil]; rfl) ?_
      with_reducible refine (cells_k g e none 0 [] (wrap64 (46 + (j : Int))) w3 rfl (Kd.C_nil _ _)).mono ?_
      rintro en w4 ⟨rfl, hb4⟩
      refine ⟨_, rfl, ?_⟩
      have B4 := Aside0.mk (B3.out.trans (hb4.mono B3.out.size))
      have P4 := Aside0.mk (P3.out.below hb4 P3.out.lt)
      have n04 := pw_cell_below hb4 n03
      have n14 := pw_cell_below hb4 n13
      clear hb4
      obtain ⟨W5, hW5⟩ : ∃ W5, W5 = w4.alloc (.cells (rowK .u8 (List.replicate (94 + j) 0)) 5) := ⟨_, rfl⟩
      have hb5 : Below w4.heap.size w4 W5 := by rw [hW5]; exact below_alloc (Below.refl _ _) _
      have B5 := Aside0.mk (B4.out.trans (hb5.mono B4.out.size))
      have P5 := Aside0.mk (P4.out.below hb5 P4.out.lt)
      have n05 := pw_cell_below hb5 n04
      have n15 := pw_cell_below hb5 n14
      have HW5 := Aside0.mk hW5
      have C5 := Aside0.mk (show Kd.C (Kd.int .u8) W5 (some ⟨w4.heap.size, 0, none⟩) (List.replicate (94 + j) (0 : Int)).length (List.replicate (94 + j) 0) by rw [hW5]; exact new_C w4 (List.replicate (94 + j) 0) (by rw [List.length_replicate]; omega))
      clear hb5 hW5
      refine hK.out _ _ ⟨n04, n14⟩ (fun hHeld => ?_)
      clear hK K
      refine norm_ (a' := ?_) ?_ ?_
      rotate_left
      · show Act.put _ (some 47) _ = _
        simp only [Act.put, List.setIfInBounds_toArray, List.set_cons_zero, List.set_cons_succ, i64_w, i32_w]
        rfl
      refine pure_ (i := 17) (N := some 48) (v := ?_) (a' := ?_) #[true, true, true, true, true, true, true, true, true, true, true, true, true, true, true, true, true, true, false, false, false, false, false, false, false, false, false, false, false, false] rfl rfl (by kernel_rfl) (fun _ _ _ h => h) (Or.inl ⟨by rfl, ?_⟩) ?_ ?_
      rotate_left
      · intro w'
        go_simp
        with_reducible rfl
      rotate_left
      · simp only [Act.put, List.setIfInBounds_toArray, List.set_cons_zero, List.set_cons_succ, i64_w, i32_w]
        rfl
      refine pure_ (i := 18) (N := some 49) (v := ?_) (a' := ?_) #[true, true, true, true, true, true, true, true, true, true, true, true, true, true, true, true, true, true, true, false, false, false, false, false, false, false, false, false, false, false] rfl rfl (by kernel_rfl) (fun _ _ _ h => h) (Or.inl ⟨by rfl, ?_⟩) ?_ ?_
      rotate_left
      · intro w'
        go_simp
        with_reducible rfl
      rotate_left
      · simp only [Act.put, List.setIfInBounds_toArray, List.set_cons_zero, List.set_cons_succ, i64_w, i32_w]
        rfl
      refine pure_ (i := 19) (N := some 50) (v := ?_) (a' := ?_) #[true, true, true, true, true, true, true, true, true, true, true, true, true, true, true, true, true, true, true, true, false, false, false, false, false, false, false, false, false, false] rfl rfl (by kernel_rfl) (fun _ _ _ h => h) (Or.inl ⟨by rfl, ?_⟩) ?_ ?_
      rotate_left
      · intro w'
        go_simp
        with_reducible rfl
      rotate_left
      · simp only [Act.put, List.setIfInBounds_toArray, List.set_cons_zero, List.set_cons_succ, i64_w, i32_w]
        rfl
      refine pure_ (i := 20) (N := some 51) (v := ?_) (a' := ?_) #[true, true, true, true, true, true, true, true, true, true, true, true, true, true, true, true, true, true, true, true, true, false, false, false, false, false, false, false, false, false] rfl rfl (by kernel_rfl) (fun _ _ _ h => h) (Or.inl ⟨by rfl, ?_⟩) ?_ ?_
      rotate_left
      · intro w'
        go_simp
        with_reducible rfl
      rotate_left
      · simp only [Act.put, List.setIfInBounds_toArray, List.set_cons_zero, List.set_cons_succ, i64_w, i32_w]
        rfl
      refine pure_ (i := 21) (N := some 52) (v := ?_) (a' := ?_) #[true, true, true, true, true, true, true, true, true, true, true, true, true, true, true, true, true, true, true, true, true, true, false, false, false, false, false, false, false, false] rfl rfl (by kernel_rfl) (fun _ _ _ h => h) (Or.inl ⟨by rfl, ?_⟩) ?_ ?_
      rotate_left
      · intro w'
        go_simp
        with_reducible rfl
      rotate_left
      · simp only [Act.put, List.setIfInBounds_toArray, List.set_cons_zero, List.set_cons_succ, i64_w, i32_w]
        rfl
      refine pure_ (i := 22) (N := some 53) (v := ?_) (a' := ?_) #[true, true, true, true, true, true, true, true, true, true, true, true, true, true, true, true, true, true, true, true, true, true, true, false, false, false, false, false, false, false] rfl rfl (by kernel_rfl) (fun _ _ _ h => h) (Or.inl ⟨by rfl, ?_⟩) ?_ ?_
      rotate_left
      · intro w'
        go_simp
        with_reducible rfl
      rotate_left
      · simp only [Act.put, List.setIfInBounds_toArray, List.set_cons_zero, List.set_cons_succ, i64_w, i32_w]
        rfl
      refine pure_ (i := 24) (N := some 55) (v := ?_) (a' := ?_) #[true, true, true, true, true, true, true, true, true, true, true, true, true, true, true, true, true, true, true, true, true, true, true, false, true, false, false, false, false, false] rfl rfl (by kernel_rfl) (fun _ _ _ h => h) (Or.inl ⟨by rfl, ?_⟩) ?_ ?_
      rotate_left
      · intro w'
        go_simp
        with_reducible rfl
      rotate_left
      · simp only [Act.put, List.setIfInBounds_toArray, List.set_cons_zero, List.set_cons_succ, i64_w, i32_w]
        rfl
      refine pure_ (i := 25) (N := some 56) (v := ?_) (a' := ?_) #[true, true, true, true, true, true, true, true, true, true, true, true, true, true, true, true, true, true, true, true, true, true, true, false, true, true, false, false, false, false] rfl rfl (by kernel_rfl) (fun _ _ _ h => h) (Or.inl ⟨by rfl, ?_⟩) ?_ ?_
      rotate_left
      · intro w'
        go_simp
        with_reducible rfl
      rotate_left
      · simp only [Act.put, List.setIfInBounds_toArray, List.set_cons_zero, List.set_cons_succ, i64_w, i32_w]
        rfl
      refine take_ (i := 23) (N := some 54) (v := ?_) (a' := ?_) #[true, true, true, true, true, true, true, true, true, true, true, true, true, true, true, true, true, true, true, true, true, true, true, true, true, true, false, false, false, false] rfl rfl (by kernel_rfl) (fun _ _ _ h => h) (Or.inl ⟨by rfl, ?_⟩) hHeld ?_ ?_
      rotate_left
      · rintro w' ⟨s0, s1⟩
        go_simp
        with_reducible rfl
      rotate_left
      · simp only [Act.put, List.setIfInBounds_toArray, List.set_cons_zero, List.set_cons_succ, i64_w, i32_w]
        rfl
      refine one_ (i := 26) (N := some 57) #[true, true, true, true, true, true, true, true, true, true, true, true, true, true, true, true, true, true, true, true, true, true, true, true, true, true, true, false, false, false] rfl rfl (by kernel_rfl) (by decide) (fun K hK => ?_)
      refine value_ (w1 := W5) (v := .slice (some ⟨w4.heap.size, 0, none⟩) (94 + j) (94 + j)) (by rfl) rfl ?_ ?_
      · rw [HW5.out]
        have hmk := HMK.out w4
        go_simp
      refine hK.out _ _ ⟨n05, n15⟩ (fun hHeld => ?_)
      clear hK K
      refine norm_ (a' := ?_) ?_ ?_
      rotate_left
      · show Act.put _ (some 57) _ = _
        simp only [Act.put, List.setIfInBounds_toArray, List.set_cons_zero, List.set_cons_succ, i64_w, i32_w]
        rfl
      refine one_ (i := 27) (N := some 58) #[true, true, true, true, true, true, true, true, true, true, true, true, true, true, true, true, true, true, true, true, true, true, true, true, true, true, true, true, false, false] rfl rfl (by kernel_rfl) (by decide) (fun K hK => ?_)
      refine goes_ Try.func3 (by kernel_rfl) rfl #[.agg #[.int .i64 g, .int .i64 e], .slice (some ⟨w4.heap.size, 0, none⟩) (94 + j) (94 + j), .int .i64 4611686018427387904] (by rfl) rfl rfl (by simp only [List.map_toArray, List.map_cons, List.map_nil]; rfl) ?_
      with_reducible refine (cells_k g e (some ⟨w4.heap.size, 0, none⟩) (94 + j) (List.replicate (94 + j) 0) 4611686018427387904 W5 (by rw [List.length_replicate]) C5.out).mono ?_
      rintro en w6 ⟨rfl, hb6⟩
      refine ⟨_, rfl, ?_⟩
      have B6 := Aside0.mk (B5.out.trans (hb6.mono B5.out.size))
      have P6 := Aside0.mk (P5.out.below hb6 P5.out.lt)
      have n06 := pw_cell_below hb6 n05
      have n16 := pw_cell_below hb6 n15
      clear hb6
      refine hK.out _ _ ⟨n06, n16⟩ (fun hHeld => ?_)
      clear hK K
      refine norm_ (a' := ?_) ?_ ?_
      rotate_left
      · show Act.put _ (some 58) _ = _
        simp only [Act.put, List.setIfInBounds_toArray, List.set_cons_zero, List.set_cons_succ, i64_w, i32_w]
        rfl
      refine pure_ (i := 28) (N := some 59) (v := ?_) (a' := ?_) #[true, true, true, true, true, true, true, true, true, true, true, true, true, true, true, true, true, true, true, true, true, true, true, true, true, true, true, true, true, false] rfl rfl (by kernel_rfl) (fun _ _ _ h => h) (Or.inl ⟨by rfl, ?_⟩) ?_ ?_
      rotate_left
      · intro w'
        go_simp
        with_reducible rfl
      rotate_left
      · simp only [Act.put, List.setIfInBounds_toArray, List.set_cons_zero, List.set_cons_succ, i64_w, i32_w]
        rfl
      refine pure_ (i := 29) (N := some 60) (v := ?_) (a' := ?_) #[true, true, true, true, true, true, true, true, true, true, true, true, true, true, true, true, true, true, true, true, true, true, true, true, true, true, true, true, true, true] rfl rfl (by kernel_rfl) (fun _ _ _ h => h) (Or.inl ⟨by rfl, ?_⟩) ?_ ?_
      rotate_left
      · intro w'
        go_simp
        with_reducible rfl
      rotate_left
      · simp only [Act.put, List.setIfInBounds_toArray, List.set_cons_zero, List.set_cons_succ, i64_w, i32_w]
        rfl
      refine done_ (by kernel_rfl) ?_
      
      clear hHeld
      go_wp2_with fail
      refine ⟨⟨j + 1, by omega, rfl, P6, B6⟩, ?_⟩
      show 7 - ((j : Int) + 1).toNat < 7 - (j : Int).toNat
      omega
    · obtain rfl : j = 7 := by omega
      obtain ⟨W2, hW2⟩ : ∃ W2, W2 = wr.alloc (.cells (rowK .u8 z95) 5) := ⟨_, rfl⟩
      have B2 := Aside0.mk (show Below w.heap.size w W2 by rw [hW2]; exact below_alloc B.out _)
      have HC2 := Aside0.mk (strip_Cells.calls 2 4 (some ⟨wr.heap.size, 0, none⟩) z95.length z95 _ _ W2 (by rw [hW2]; exact new_C wr z95 (by decide)) (Nat.le_refl _) cells_ka)
      have hz : z95.length = 95 := by decide
      rw [hz] at HC2
      have HW2 := Aside0.mk hW2
      have hmk := make95
      clear hW2 P B hlt hj hz
      go_wp2_with fail
      rw [← HW2.out]
      clear hmk
      refine HC2.out.mono ?_
      rintro en w3 ⟨va, rfl, hs, hb3⟩
      obtain ⟨ga, capa, rfl, hca⟩ := row_cells hs (by decide)
      obtain ⟨va0, a0, ca0⟩ := hca 0 (by decide)
      obtain ⟨va1, a1, ca1⟩ := hca 1 (by decide)
      obtain ⟨va2, a2, ca2⟩ := hca 2 (by decide)
      have B3 := Aside0.mk (B2.out.trans (hb3.mono B2.out.size))
      have KA3 := Aside0.mk (show (w3.cell? ⟨ga, 0, none⟩ = some va0 ∧ w3.cell? ⟨ga, 1, none⟩ = some va1 ∧ w3.cell? ⟨ga, 2, none⟩ = some va2) ∧ Cel w3 va0 ka0 ∧ Cel w3 va1 ka1 ∧ Cel w3 va2 ka2 from ⟨⟨a0, a1, a2⟩, ca0, ca1, ca2⟩)
      obtain ⟨W4, hW4⟩ : ∃ W4, W4 = w3.alloc (.cells #[.int .u8 9] 5) := ⟨_, rfl⟩
      have hb4 : Below w3.heap.size w3 W4 := by rw [hW4]; exact below_alloc (Below.refl _ _) _
      have HC4 := Aside0.mk (show Calls Try.prog 12 #[.agg #[.int .i64 2, .int .i64 6], .slice (some ⟨w3.heap.size, 0, none⟩) 1 1] W4 _ from strip_Cells.calls 2 6 (some ⟨w3.heap.size, 0, none⟩) 1 [9] _ _ W4 (by rw [hW4]; exact new_C w3 [9] (by decide)) (by decide) cells_kb)
      have B4 := Aside0.mk (B3.out.trans (hb4.mono B3.out.size))
      have HB34 := Aside0.mk hb4
      have HW4 := Aside0.mk hW4
      clear hW4 hb4 hs hb3 hca a0 a1 a2 ca0 ca1 ca2 HC2 HW2 B2 W2 B3
      go_wp2_with fail
      rw [← HW4.out]
      refine HC4.out.mono ?_
      rintro en w5 ⟨vb, rfl, hs, hb5⟩
      obtain ⟨gb, capb, rfl, hcb⟩ := row_cells hs (by decide)
      obtain ⟨vb0, b0, cb0⟩ := hcb 0 (by decide)
      have B5 := Aside0.mk (B4.out.trans (hb5.mono B4.out.size))
      have HB35 := Aside0.mk (HB34.out.trans (hb5.mono HB34.out.size))
      have KB5 := Aside0.mk (show w5.cell? ⟨gb, 0, none⟩ = some vb0 ∧ Cel w5 vb0 kb0 from ⟨b0, cb0⟩)
      obtain ⟨W6, hW6⟩ : ∃ W6, W6 = w5.alloc (.cells #[.int .u8 9] 5) := ⟨_, rfl⟩
      have hb6 : Below w5.heap.size w5 W6 := by rw [hW6]; exact below_alloc (Below.refl _ _) _
      have HC6 := Aside0.mk (show Calls Try.prog 12 #[.agg #[.int .i64 3, .int .i64 6], .slice (some ⟨w5.heap.size, 0, none⟩) 1 1] W6 _ from strip_Cells.calls 3 6 (some ⟨w5.heap.size, 0, none⟩) 1 [9] _ _ W6 (by rw [hW6]; exact new_C w5 [9] (by decide)) (by decide) cells_kc)
      have B6 := Aside0.mk (B5.out.trans (hb6.mono B5.out.size))
      have HB56 := Aside0.mk hb6
      have HW6 := Aside0.mk hW6
      clear hW6 hb6 hs hb5 hcb b0 cb0 HC4 HW4 B4 W4 B5 HB34
      go_wp2_with fail
      rw [← HW6.out]
      refine HC6.out.mono ?_
      rintro en w7 ⟨vc, rfl, hs, hb7⟩
      obtain ⟨gc, capc, rfl, hcc⟩ := row_cells hs (by decide)
      obtain ⟨vc0, c0, cc0⟩ := hcc 0 (by decide)
      have B7 := Aside0.mk (B6.out.trans (hb7.mono B6.out.size))
      have hb57 := HB56.out.trans (hb7.mono HB56.out.size)
      have hb37 := HB35.out.trans (hb57.mono HB35.out.size)
      have KC7 := Aside0.mk (show w7.cell? ⟨gc, 0, none⟩ = some vc0 ∧ Cel w7 vc0 kc0 from ⟨c0, cc0⟩)
      have KB7 := Aside0.mk (show w7.cell? ⟨gb, 0, none⟩ = some vb0 ∧ Cel w7 vb0 kb0 from ⟨pw_cell_below hb57 KB5.out.1, KB5.out.2.below hb57⟩)
      have KA7 := Aside0.mk (show (w7.cell? ⟨ga, 0, none⟩ = some va0 ∧ w7.cell? ⟨ga, 1, none⟩ = some va1 ∧ w7.cell? ⟨ga, 2, none⟩ = some va2) ∧ Cel w7 va0 ka0 ∧ Cel w7 va1 ka1 ∧ Cel w7 va2 ka2 from ⟨⟨pw_cell_below hb37 KA3.out.1.1, pw_cell_below hb37 KA3.out.1.2.1, pw_cell_below hb37 KA3.out.1.2.2⟩, KA3.out.2.1.below hb37, KA3.out.2.2.1.below hb37, KA3.out.2.2.2.below hb37⟩)
      obtain ⟨Ab, cb, rfl, hbl, hbc⟩ := KB7.out.2
      rw [kb_len] at hbl hbc
      have K0 := KB7.out.1
      rw [kb_len] at K0
      have HBC := Aside0.mk (And.intro hbl hbc)
      obtain ⟨Aa0, la0, ea0, -, -⟩ := KA7.out.2.1
      obtain ⟨Aa1, la1, ea1, -, -⟩ := KA7.out.2.2.1
      obtain ⟨Aa2, la2, ea2, -, -⟩ := KA7.out.2.2.2
      obtain ⟨Ac0, lc0, ec0, -, -⟩ := KC7.out.2
      obtain ⟨na0, hna0⟩ : ∃ n, n = ka0.length := ⟨_, rfl⟩
      obtain ⟨na1, hna1⟩ : ∃ n, n = ka1.length := ⟨_, rfl⟩
      obtain ⟨na2, hna2⟩ : ∃ n, n = ka2.length := ⟨_, rfl⟩
      obtain ⟨nc0, hnc0⟩ : ∃ n, n = kc0.length := ⟨_, rfl⟩
      rw [← hna0] at ea0
      rw [← hna1] at ea1
      rw [← hna2] at ea2
      rw [← hnc0] at ec0
      subst ea0 ea1 ea2 ec0
      clear hna0 hna1 hna2 hnc0
      clear hs hb7 hb57 hb37 hcc c0 cc0 HC6 HW6 B6 W6 HB35 HB56 KA3 KB5 hbl hbc
      go_wp2_with fail
      have hcp := encoreref00_CopyBytes.calls Ab cb kb0 kb0 w7 (by rw [kb_len]; exact HBC.out.2) (by rw [kb_len]; exact HBC.out.1) (copy_eq kb0 (by rw [kb_len]; decide))
      rw [kb_len] at hcp
      refine hcp.mono ?_
      rintro en w8 ⟨v8, rfl, ho, hb8⟩
      obtain ⟨gp, cp, rfl, hgp, hgpl, -⟩ := Kd.R_form ho (by rw [kb_len]; decide)
      rw [kb_len] at ho ⊢
      obtain ⟨k8, f8⟩ := Kd.R_celln 0 ho 8 (by decide) (by decide)
      rw [show Int.toNat 8 = 8 from rfl] at k8 f8
      have hput := Kd.R_putn ho 8 1
      obtain ⟨V0, hV0⟩ : ∃ V0, V0 = w8.setCell ⟨gp, 8, none⟩ (.int .u8 1) := ⟨_, rfl⟩
      have c70 : Below w7.heap.size w7 V0 := by rw [hV0]; exact hb8.setCell (p := ⟨gp, 8, none⟩) hgp _
      have HP0 := Aside0.mk (show Kd.R (Kd.int .u8) 5 V0 w7.heap.size (fun _ => True) (.slice (some ⟨gp, 0, none⟩) 64 cp) kp0 by rw [hV0]; exact hput)
      have HV0 := Aside0.mk (show w8.setCell { block := gp, off := 8 } (.int .u8 1) = V0 from hV0.symm)
      have HC70 := Aside0.mk c70
      clear hV0 c70 hput hcp ho hgp hgpl hb8
      go_wp2_with fail
      rw [HV0.out]
      have q0 := pw_cell_below HC70.out KA7.out.1.1
      have q1 := pw_cell_below HC70.out KA7.out.1.2.1
      have q2 := pw_cell_below HC70.out KA7.out.1.2.2
      have q3 := pw_cell_below HC70.out K0
      have q4 := pw_cell_below HC70.out KC7.out.1
      --WALK0
      refine start_ (n := 69) (S := fun w' => w'.cell? ⟨ga, 0, none⟩ = some (.slice Aa0 na0 la0) ∧ w'.cell? ⟨ga, 1, none⟩ = some (.slice Aa1 na1 la1) ∧ w'.cell? ⟨ga, 2, none⟩ = some (.slice Aa2 na2 la2) ∧ w'.cell? ⟨gb, 0, none⟩ = some (.slice Ab 64 cb) ∧ w'.cell? ⟨gc, 0, none⟩ = some (.slice Ac0 nc0 lc0) ∧ Below V0.heap.size V0 w') (ds := []) (Array.replicate 69 false) (by kernel_rfl) rfl rfl ⟨q0, q1, q2, q3, q4, below_drew (Below.refl V0.heap.size V0)⟩ (fun hHeld => ?_)
      refine all_ kT 69 (kG (kVal ga capa gb capb gc capc gp cp na0 la0 na1 la1 na2 la2 cb nc0 lc0 Aa0 Aa1 Aa2 Ab Ac0) (kRow ga capa gb capb gc capc gp cp na0 la0 na1 la1 na2 la2 cb nc0 lc0 Aa0 Aa1 Aa2 Ab Ac0)) rfl (by as_aux_lemma => kernel_rfl) (by as_aux_lemma => decide +kernel) (fun i hi => ?_) hHeld (fun j hj a w' hf hd hS K hK => ?_) (fun a wm hsz hdf hf hS hG => ?_)
      · show _ < 249
        revert i
        decide +kernel
      · clear hHeld q0 q1 q2 q3 q4 k8 f8
        obtain rfl | rfl | rfl | rfl | rfl | rfl | rfl | rfl | rfl | rfl | rfl | rfl | rfl | rfl | rfl | rfl | rfl | rfl | rfl | rfl | rfl | rfl | rfl | rfl | rfl | rfl | rfl | rfl | rfl | rfl | rfl | rfl | rfl | rfl | rfl | rfl | rfl | rfl | rfl | rfl | rfl | rfl | rfl | rfl | rfl | rfl | rfl | rfl | rfl | rfl | rfl | rfl | rfl | rfl | rfl | rfl | rfl | rfl | rfl | rfl | rfl | rfl | rfl | rfl | rfl | rfl | rfl | rfl | rfl : j = 0 ∨ j = 1 ∨ j = 2 ∨ j = 3 ∨ j = 4 ∨ j = 5 ∨ j = 6 ∨ j = 7 ∨ j = 8 ∨ j = 9 ∨ j = 10 ∨ j = 11 ∨ j = 12 ∨ j = 13 ∨ j = 14 ∨ j = 15 ∨ j = 16 ∨ j = 17 ∨ j = 18 ∨ j = 19 ∨ j = 20 ∨ j = 21 ∨ j = 22 ∨ j = 23 ∨ j = 24 ∨ j = 25 ∨ j = 26 ∨ j = 27 ∨ j = 28 ∨ j = 29 ∨ j = 30 ∨ j = 31 ∨ j = 32 ∨ j = 33 ∨ j = 34 ∨ j = 35 ∨ j = 36 ∨ j = 37 ∨ j = 38 ∨ j = 39 ∨ j = 40 ∨ j = 41 ∨ j = 42 ∨ j = 43 ∨ j = 44 ∨ j = 45 ∨ j = 46 ∨ j = 47 ∨ j = 48 ∨ j = 49 ∨ j = 50 ∨ j = 51 ∨ j = 52 ∨ j = 53 ∨ j = 54 ∨ j = 55 ∨ j = 56 ∨ j = 57 ∨ j = 58 ∨ j = 59 ∨ j = 60 ∨ j = 61 ∨ j = 62 ∨ j = 63 ∨ j = 64 ∨ j = 65 ∨ j = 66 ∨ j = 67 ∨ j = 68 := by omega
        · as_aux_lemma =>
          have E3 : a.tmps[3]?.getD undef = .slice (some ⟨ga, 0, none⟩) 3 capa := by rw [← Array.getD_eq_getD_getElem?]; exact (hf 3 (by decide +kernel)).trans rfl
          clear hd hf
          refine wpOp_step rfl (fun K' hK' => ?_)
          refine value_ (N := some (kT 0)) (w1 := w') (v := .slice (some ⟨ga, 0, none⟩) 3 capa) (by rfl) (by kernel_rfl) ?_ ?_
          · clear hK' hK K' K
            go_simp
          · exact hK' _ _ (hK _ _ hS (kG_of (by kernel_rfl) (by kernel_rfl)) (fun _ _ h => h))
        · as_aux_lemma =>
          have D98 := kG_val (by kernel_rfl) (hd 0 (by kernel_rfl))
          rw [show kT 0 = 98 by kernel_rfl] at D98
          have E98 : a.tmps[98]?.getD undef = .slice (some ⟨ga, 0, none⟩) 3 capa := by rw [← Array.getD_eq_getD_getElem?]; exact D98.trans (by kernel_rfl)
          clear hd hf
          refine wpOp_step rfl (fun K' hK' => ?_)
          refine value_ (N := some (kT 1)) (w1 := w') (v := .pointer (some ⟨ga, 0, none⟩)) (by rfl) (by kernel_rfl) ?_ ?_
          · clear hK' hK K' K
            go_simp
          · exact hK' _ _ (hK _ _ hS (kG_of (by kernel_rfl) (by kernel_rfl)) (fun _ _ h => h))
        · as_aux_lemma =>
          have D99 := kG_val (by kernel_rfl) (hd 1 (by kernel_rfl))
          rw [show kT 1 = 99 by kernel_rfl] at D99
          have E99 : a.tmps[99]?.getD undef = .pointer (some ⟨ga, 0, none⟩) := by rw [← Array.getD_eq_getD_getElem?]; exact D99.trans (by kernel_rfl)
          clear hd hf
          refine wpOp_step rfl (fun K' hK' => ?_)
          refine value_ (N := some (kT 2)) (w1 := w') (v := .slice Aa0 na0 la0) (by rfl) (by kernel_rfl) ?_ ?_
          · clear hK' hK K' K
            obtain ⟨s0, s1, s2, s3, s4, -⟩ := hS
            go_simp
          · exact hK' _ _ (hK _ _ hS (kG_of (by kernel_rfl) (by kernel_rfl)) (fun _ _ h => h))
        · as_aux_lemma =>
          have E3 : a.tmps[3]?.getD undef = .slice (some ⟨ga, 0, none⟩) 3 capa := by rw [← Array.getD_eq_getD_getElem?]; exact (hf 3 (by decide +kernel)).trans rfl
          clear hd hf
          refine wpOp_step rfl (fun K' hK' => ?_)
          refine value_ (N := some (kT 3)) (w1 := w') (v := .slice (some ⟨ga, 0, none⟩) 3 capa) (by rfl) (by kernel_rfl) ?_ ?_
          · clear hK' hK K' K
            go_simp
          · exact hK' _ _ (hK _ _ hS (kG_of (by kernel_rfl) (by kernel_rfl)) (fun _ _ h => h))
        · as_aux_lemma =>
          have D101 := kG_val (by kernel_rfl) (hd 3 (by kernel_rfl))
          rw [show kT 3 = 101 by kernel_rfl] at D101
          have E101 : a.tmps[101]?.getD undef = .slice (some ⟨ga, 0, none⟩) 3 capa := by rw [← Array.getD_eq_getD_getElem?]; exact D101.trans (by kernel_rfl)
          clear hd hf
          refine wpOp_step rfl (fun K' hK' => ?_)
          refine value_ (N := some (kT 4)) (w1 := w') (v := .pointer (some ⟨ga, 1, none⟩)) (by rfl) (by kernel_rfl) ?_ ?_
          · clear hK' hK K' K
            go_simp
          · exact hK' _ _ (hK _ _ hS (kG_of (by kernel_rfl) (by kernel_rfl)) (fun _ _ h => h))
        · as_aux_lemma =>
          have D102 := kG_val (by kernel_rfl) (hd 4 (by kernel_rfl))
          rw [show kT 4 = 102 by kernel_rfl] at D102
          have E102 : a.tmps[102]?.getD undef = .pointer (some ⟨ga, 1, none⟩) := by rw [← Array.getD_eq_getD_getElem?]; exact D102.trans (by kernel_rfl)
          clear hd hf
          refine wpOp_step rfl (fun K' hK' => ?_)
          refine value_ (N := some (kT 5)) (w1 := w') (v := .slice Aa1 na1 la1) (by rfl) (by kernel_rfl) ?_ ?_
          · clear hK' hK K' K
            obtain ⟨s0, s1, s2, s3, s4, -⟩ := hS
            go_simp
          · exact hK' _ _ (hK _ _ hS (kG_of (by kernel_rfl) (by kernel_rfl)) (fun _ _ h => h))
        · as_aux_lemma =>
          have E3 : a.tmps[3]?.getD undef = .slice (some ⟨ga, 0, none⟩) 3 capa := by rw [← Array.getD_eq_getD_getElem?]; exact (hf 3 (by decide +kernel)).trans rfl
          clear hd hf
          refine wpOp_step rfl (fun K' hK' => ?_)
          refine value_ (N := some (kT 6)) (w1 := w') (v := .slice (some ⟨ga, 0, none⟩) 3 capa) (by rfl) (by kernel_rfl) ?_ ?_
          · clear hK' hK K' K
            go_simp
          · exact hK' _ _ (hK _ _ hS (kG_of (by kernel_rfl) (by kernel_rfl)) (fun _ _ h => h))
        · as_aux_lemma =>
          have D104 := kG_val (by kernel_rfl) (hd 6 (by kernel_rfl))
          rw [show kT 6 = 104 by kernel_rfl] at D104
          have E104 : a.tmps[104]?.getD undef = .slice (some ⟨ga, 0, none⟩) 3 capa := by rw [← Array.getD_eq_getD_getElem?]; exact D104.trans (by kernel_rfl)
          clear hd hf
          refine wpOp_step rfl (fun K' hK' => ?_)
          refine value_ (N := some (kT 7)) (w1 := w') (v := .pointer (some ⟨ga, 2, none⟩)) (by rfl) (by kernel_rfl) ?_ ?_
          · clear hK' hK K' K
            go_simp
          · exact hK' _ _ (hK _ _ hS (kG_of (by kernel_rfl) (by kernel_rfl)) (fun _ _ h => h))
        · as_aux_lemma =>
          have D105 := kG_val (by kernel_rfl) (hd 7 (by kernel_rfl))
          rw [show kT 7 = 105 by kernel_rfl] at D105
          have E105 : a.tmps[105]?.getD undef = .pointer (some ⟨ga, 2, none⟩) := by rw [← Array.getD_eq_getD_getElem?]; exact D105.trans (by kernel_rfl)
          clear hd hf
          refine wpOp_step rfl (fun K' hK' => ?_)
          refine value_ (N := some (kT 8)) (w1 := w') (v := .slice Aa2 na2 la2) (by rfl) (by kernel_rfl) ?_ ?_
          · clear hK' hK K' K
            obtain ⟨s0, s1, s2, s3, s4, -⟩ := hS
            go_simp
          · exact hK' _ _ (hK _ _ hS (kG_of (by kernel_rfl) (by kernel_rfl)) (fun _ _ h => h))
        · as_aux_lemma =>
          have E5 : a.tmps[5]?.getD undef = .slice (some ⟨gb, 0, none⟩) 1 capb := by rw [← Array.getD_eq_getD_getElem?]; exact (hf 5 (by decide +kernel)).trans rfl
          clear hd hf
          refine wpOp_step rfl (fun K' hK' => ?_)
          refine value_ (N := some (kT 9)) (w1 := w') (v := .slice (some ⟨gb, 0, none⟩) 1 capb) (by rfl) (by kernel_rfl) ?_ ?_
          · clear hK' hK K' K
            go_simp
          · exact hK' _ _ (hK _ _ hS (kG_of (by kernel_rfl) (by kernel_rfl)) (fun _ _ h => h))
        · as_aux_lemma =>
          have D107 := kG_val (by kernel_rfl) (hd 9 (by kernel_rfl))
          rw [show kT 9 = 107 by kernel_rfl] at D107
          have E107 : a.tmps[107]?.getD undef = .slice (some ⟨gb, 0, none⟩) 1 capb := by rw [← Array.getD_eq_getD_getElem?]; exact D107.trans (by kernel_rfl)
          clear hd hf
          refine wpOp_step rfl (fun K' hK' => ?_)
          refine value_ (N := some (kT 10)) (w1 := w') (v := .pointer (some ⟨gb, 0, none⟩)) (by rfl) (by kernel_rfl) ?_ ?_
          · clear hK' hK K' K
            go_simp
          · exact hK' _ _ (hK _ _ hS (kG_of (by kernel_rfl) (by kernel_rfl)) (fun _ _ h => h))
        · as_aux_lemma =>
          have D108 := kG_val (by kernel_rfl) (hd 10 (by kernel_rfl))
          rw [show kT 10 = 108 by kernel_rfl] at D108
          have E108 : a.tmps[108]?.getD undef = .pointer (some ⟨gb, 0, none⟩) := by rw [← Array.getD_eq_getD_getElem?]; exact D108.trans (by kernel_rfl)
          clear hd hf
          refine wpOp_step rfl (fun K' hK' => ?_)
          refine value_ (N := some (kT 11)) (w1 := w') (v := .slice Ab 64 cb) (by rfl) (by kernel_rfl) ?_ ?_
          · clear hK' hK K' K
            obtain ⟨s0, s1, s2, s3, s4, -⟩ := hS
            go_simp
          · exact hK' _ _ (hK _ _ hS (kG_of (by kernel_rfl) (by kernel_rfl)) (fun _ _ h => h))
        · as_aux_lemma =>
          have D100 := kG_val (by kernel_rfl) (hd 2 (by kernel_rfl))
          rw [show kT 2 = 100 by kernel_rfl] at D100
          have E100 : a.tmps[100]?.getD undef = .slice Aa0 na0 la0 := by rw [← Array.getD_eq_getD_getElem?]; exact D100.trans (by kernel_rfl)
          have D103 := kG_val (by kernel_rfl) (hd 5 (by kernel_rfl))
          rw [show kT 5 = 103 by kernel_rfl] at D103
          have E103 : a.tmps[103]?.getD undef = .slice Aa1 na1 la1 := by rw [← Array.getD_eq_getD_getElem?]; exact D103.trans (by kernel_rfl)
          have D106 := kG_val (by kernel_rfl) (hd 8 (by kernel_rfl))
          rw [show kT 8 = 106 by kernel_rfl] at D106
          have E106 : a.tmps[106]?.getD undef = .slice Aa2 na2 la2 := by rw [← Array.getD_eq_getD_getElem?]; exact D106.trans (by kernel_rfl)
          have D109 := kG_val (by kernel_rfl) (hd 11 (by kernel_rfl))
          rw [show kT 11 = 109 by kernel_rfl] at D109
          have E109 : a.tmps[109]?.getD undef = .slice Ab 64 cb := by rw [← Array.getD_eq_getD_getElem?]; exact D109.trans (by kernel_rfl)
          clear hd hf
          refine wpOp_step rfl (fun K' hK' => ?_)
          refine value_ (N := some (kT 12)) (w1 := w'.alloc (.cells ((kRow ga capa gb capb gc capc gp cp na0 la0 na1 la1 na2 la2 cb nc0 lc0 Aa0 Aa1 Aa2 Ab Ac0) 12).toArray 24)) (v := .slice (some ⟨w'.heap.size, 0, none⟩) 4 4) (by rfl) (by kernel_rfl) ?_ ?_
          · clear hK' hK K' K
            refine exec_lit 26 24 4 #[(0, .tmp 100), (1, .tmp 103), (2, .tmp 106), (3, .tmp 109)] rfl ((kRow ga capa gb capb gc capc gp cp na0 la0 na1 la1 na2 la2 cb nc0 lc0 Aa0 Aa1 Aa2 Ab Ac0) 12) [(kVal ga capa gb capb gc capc gp cp na0 la0 na1 la1 na2 la2 cb nc0 lc0 Aa0 Aa1 Aa2 Ab Ac0) 2, (kVal ga capa gb capb gc capc gp cp na0 la0 na1 la1 na2 la2 cb nc0 lc0 Aa0 Aa1 Aa2 Ab Ac0) 5, (kVal ga capa gb capb gc capc gp cp na0 la0 na1 la1 na2 la2 cb nc0 lc0 Aa0 Aa1 Aa2 Ab Ac0) 8, (kVal ga capa gb capb gc capc gp cp na0 la0 na1 la1 na2 la2 cb nc0 lc0 Aa0 Aa1 Aa2 Ab Ac0) 11] (by kernel_rfl) ?_ (.slice none 0 0) Try.underlying26 (by kernel_rfl) (by kernel_rfl) ?_
            · rw [Array.toList_map]
              show [(0, a.eval (.tmp 100)), (1, a.eval (.tmp 103)), (2, a.eval (.tmp 106)), (3, a.eval (.tmp 109))] = [(0, (kVal ga capa gb capb gc capc gp cp na0 la0 na1 la1 na2 la2 cb nc0 lc0 Aa0 Aa1 Aa2 Ab Ac0) 2), (1, (kVal ga capa gb capb gc capc gp cp na0 la0 na1 la1 na2 la2 cb nc0 lc0 Aa0 Aa1 Aa2 Ab Ac0) 5), (2, (kVal ga capa gb capb gc capc gp cp na0 la0 na1 la1 na2 la2 cb nc0 lc0 Aa0 Aa1 Aa2 Ab Ac0) 8), (3, (kVal ga capa gb capb gc capc gp cp na0 la0 na1 la1 na2 la2 cb nc0 lc0 Aa0 Aa1 Aa2 Ab Ac0) 11)]
              rw [D100, D103, D106, D109]
            · intro v hv
              simp only [List.mem_cons, List.not_mem_nil, or_false] at hv
              rcases hv with rfl | rfl | rfl | rfl
              all_goals rfl
          · have hb := below_alloc (Below.refl w'.heap.size w') (.cells ((kRow ga capa gb capb gc capc gp cp na0 la0 na1 la1 na2 la2 cb nc0 lc0 Aa0 Aa1 Aa2 Ab Ac0) 12).toArray 24)
            exact hK' _ _ (hK _ _ ⟨pw_cell_below hb hS.1, pw_cell_below hb hS.2.1, pw_cell_below hb hS.2.2.1, pw_cell_below hb hS.2.2.2.1, pw_cell_below hb hS.2.2.2.2.1, hS.2.2.2.2.2.trans (hb.mono hS.2.2.2.2.2.size)⟩ (kG_of_row (by kernel_rfl) ⟨w'.heap.size, by kernel_rfl, HoldsRow.new _ _ _⟩) (fun i v h => kG_below hb i v h))
        · as_aux_lemma =>
          have E3 : a.tmps[3]?.getD undef = .slice (some ⟨ga, 0, none⟩) 3 capa := by rw [← Array.getD_eq_getD_getElem?]; exact (hf 3 (by decide +kernel)).trans rfl
          clear hd hf
          refine wpOp_step rfl (fun K' hK' => ?_)
          refine value_ (N := some (kT 13)) (w1 := w') (v := .slice (some ⟨ga, 0, none⟩) 3 capa) (by rfl) (by kernel_rfl) ?_ ?_
          · clear hK' hK K' K
            go_simp
          · exact hK' _ _ (hK _ _ hS (kG_of (by kernel_rfl) (by kernel_rfl)) (fun _ _ h => h))
        · as_aux_lemma =>
          have D111 := kG_val (by kernel_rfl) (hd 13 (by kernel_rfl))
          rw [show kT 13 = 111 by kernel_rfl] at D111
          have E111 : a.tmps[111]?.getD undef = .slice (some ⟨ga, 0, none⟩) 3 capa := by rw [← Array.getD_eq_getD_getElem?]; exact D111.trans (by kernel_rfl)
          clear hd hf
          refine wpOp_step rfl (fun K' hK' => ?_)
          refine value_ (N := some (kT 14)) (w1 := w') (v := .pointer (some ⟨ga, 1, none⟩)) (by rfl) (by kernel_rfl) ?_ ?_
          · clear hK' hK K' K
            go_simp
          · exact hK' _ _ (hK _ _ hS (kG_of (by kernel_rfl) (by kernel_rfl)) (fun _ _ h => h))
        · as_aux_lemma =>
          have D112 := kG_val (by kernel_rfl) (hd 14 (by kernel_rfl))
          rw [show kT 14 = 112 by kernel_rfl] at D112
          have E112 : a.tmps[112]?.getD undef = .pointer (some ⟨ga, 1, none⟩) := by rw [← Array.getD_eq_getD_getElem?]; exact D112.trans (by kernel_rfl)
          clear hd hf
          refine wpOp_step rfl (fun K' hK' => ?_)
          refine value_ (N := some (kT 15)) (w1 := w') (v := .slice Aa1 na1 la1) (by rfl) (by kernel_rfl) ?_ ?_
          · clear hK' hK K' K
            obtain ⟨s0, s1, s2, s3, s4, -⟩ := hS
            go_simp
          · exact hK' _ _ (hK _ _ hS (kG_of (by kernel_rfl) (by kernel_rfl)) (fun _ _ h => h))
        · as_aux_lemma =>
          have E3 : a.tmps[3]?.getD undef = .slice (some ⟨ga, 0, none⟩) 3 capa := by rw [← Array.getD_eq_getD_getElem?]; exact (hf 3 (by decide +kernel)).trans rfl
          clear hd hf
          refine wpOp_step rfl (fun K' hK' => ?_)
          refine value_ (N := some (kT 16)) (w1 := w') (v := .slice (some ⟨ga, 0, none⟩) 3 capa) (by rfl) (by kernel_rfl) ?_ ?_
          · clear hK' hK K' K
            go_simp
          · exact hK' _ _ (hK _ _ hS (kG_of (by kernel_rfl) (by kernel_rfl)) (fun _ _ h => h))
        · as_aux_lemma =>
          have D114 := kG_val (by kernel_rfl) (hd 16 (by kernel_rfl))
          rw [show kT 16 = 114 by kernel_rfl] at D114
          have E114 : a.tmps[114]?.getD undef = .slice (some ⟨ga, 0, none⟩) 3 capa := by rw [← Array.getD_eq_getD_getElem?]; exact D114.trans (by kernel_rfl)
          clear hd hf
          refine wpOp_step rfl (fun K' hK' => ?_)
          refine value_ (N := some (kT 17)) (w1 := w') (v := .pointer (some ⟨ga, 2, none⟩)) (by rfl) (by kernel_rfl) ?_ ?_
          · clear hK' hK K' K
            go_simp
          · exact hK' _ _ (hK _ _ hS (kG_of (by kernel_rfl) (by kernel_rfl)) (fun _ _ h => h))
        · as_aux_lemma =>
          have D115 := kG_val (by kernel_rfl) (hd 17 (by kernel_rfl))
          rw [show kT 17 = 115 by kernel_rfl] at D115
          have E115 : a.tmps[115]?.getD undef = .pointer (some ⟨ga, 2, none⟩) := by rw [← Array.getD_eq_getD_getElem?]; exact D115.trans (by kernel_rfl)
          clear hd hf
          refine wpOp_step rfl (fun K' hK' => ?_)
          refine value_ (N := some (kT 18)) (w1 := w') (v := .slice Aa2 na2 la2) (by rfl) (by kernel_rfl) ?_ ?_
          · clear hK' hK K' K
            obtain ⟨s0, s1, s2, s3, s4, -⟩ := hS
            go_simp
          · exact hK' _ _ (hK _ _ hS (kG_of (by kernel_rfl) (by kernel_rfl)) (fun _ _ h => h))
        · as_aux_lemma =>
          have D113 := kG_val (by kernel_rfl) (hd 15 (by kernel_rfl))
          rw [show kT 15 = 113 by kernel_rfl] at D113
          have E113 : a.tmps[113]?.getD undef = .slice Aa1 na1 la1 := by rw [← Array.getD_eq_getD_getElem?]; exact D113.trans (by kernel_rfl)
          have D116 := kG_val (by kernel_rfl) (hd 18 (by kernel_rfl))
          rw [show kT 18 = 116 by kernel_rfl] at D116
          have E116 : a.tmps[116]?.getD undef = .slice Aa2 na2 la2 := by rw [← Array.getD_eq_getD_getElem?]; exact D116.trans (by kernel_rfl)
          clear hd hf
          refine wpOp_step rfl (fun K' hK' => ?_)
          refine value_ (N := some (kT 19)) (w1 := w'.alloc (.cells ((kRow ga capa gb capb gc capc gp cp na0 la0 na1 la1 na2 la2 cb nc0 lc0 Aa0 Aa1 Aa2 Ab Ac0) 19).toArray 24)) (v := .slice (some ⟨w'.heap.size, 0, none⟩) 2 2) (by rfl) (by kernel_rfl) ?_ ?_
          · clear hK' hK K' K
            refine exec_lit 26 24 2 #[(0, .tmp 113), (1, .tmp 116)] rfl ((kRow ga capa gb capb gc capc gp cp na0 la0 na1 la1 na2 la2 cb nc0 lc0 Aa0 Aa1 Aa2 Ab Ac0) 19) [(kVal ga capa gb capb gc capc gp cp na0 la0 na1 la1 na2 la2 cb nc0 lc0 Aa0 Aa1 Aa2 Ab Ac0) 15, (kVal ga capa gb capb gc capc gp cp na0 la0 na1 la1 na2 la2 cb nc0 lc0 Aa0 Aa1 Aa2 Ab Ac0) 18] (by kernel_rfl) ?_ (.slice none 0 0) Try.underlying26 (by kernel_rfl) (by kernel_rfl) ?_
            · rw [Array.toList_map]
              show [(0, a.eval (.tmp 113)), (1, a.eval (.tmp 116))] = [(0, (kVal ga capa gb capb gc capc gp cp na0 la0 na1 la1 na2 la2 cb nc0 lc0 Aa0 Aa1 Aa2 Ab Ac0) 15), (1, (kVal ga capa gb capb gc capc gp cp na0 la0 na1 la1 na2 la2 cb nc0 lc0 Aa0 Aa1 Aa2 Ab Ac0) 18)]
              rw [D113, D116]
            · intro v hv
              simp only [List.mem_cons, List.not_mem_nil, or_false] at hv
              rcases hv with rfl | rfl
              all_goals rfl
          · have hb := below_alloc (Below.refl w'.heap.size w') (.cells ((kRow ga capa gb capb gc capc gp cp na0 la0 na1 la1 na2 la2 cb nc0 lc0 Aa0 Aa1 Aa2 Ab Ac0) 19).toArray 24)
            exact hK' _ _ (hK _ _ ⟨pw_cell_below hb hS.1, pw_cell_below hb hS.2.1, pw_cell_below hb hS.2.2.1, pw_cell_below hb hS.2.2.2.1, pw_cell_below hb hS.2.2.2.2.1, hS.2.2.2.2.2.trans (hb.mono hS.2.2.2.2.2.size)⟩ (kG_of_row (by kernel_rfl) ⟨w'.heap.size, by kernel_rfl, HoldsRow.new _ _ _⟩) (fun i v h => kG_below hb i v h))
        · as_aux_lemma =>
          have E5 : a.tmps[5]?.getD undef = .slice (some ⟨gb, 0, none⟩) 1 capb := by rw [← Array.getD_eq_getD_getElem?]; exact (hf 5 (by decide +kernel)).trans rfl
          clear hd hf
          refine wpOp_step rfl (fun K' hK' => ?_)
          refine value_ (N := some (kT 20)) (w1 := w') (v := .slice (some ⟨gb, 0, none⟩) 1 capb) (by rfl) (by kernel_rfl) ?_ ?_
          · clear hK' hK K' K
            go_simp
          · exact hK' _ _ (hK _ _ hS (kG_of (by kernel_rfl) (by kernel_rfl)) (fun _ _ h => h))
        · as_aux_lemma =>
          have D118 := kG_val (by kernel_rfl) (hd 20 (by kernel_rfl))
          rw [show kT 20 = 118 by kernel_rfl] at D118
          have E118 : a.tmps[118]?.getD undef = .slice (some ⟨gb, 0, none⟩) 1 capb := by rw [← Array.getD_eq_getD_getElem?]; exact D118.trans (by kernel_rfl)
          clear hd hf
          refine wpOp_step rfl (fun K' hK' => ?_)
          refine value_ (N := some (kT 21)) (w1 := w') (v := .pointer (some ⟨gb, 0, none⟩)) (by rfl) (by kernel_rfl) ?_ ?_
          · clear hK' hK K' K
            go_simp
          · exact hK' _ _ (hK _ _ hS (kG_of (by kernel_rfl) (by kernel_rfl)) (fun _ _ h => h))
        · as_aux_lemma =>
          have D119 := kG_val (by kernel_rfl) (hd 21 (by kernel_rfl))
          rw [show kT 21 = 119 by kernel_rfl] at D119
          have E119 : a.tmps[119]?.getD undef = .pointer (some ⟨gb, 0, none⟩) := by rw [← Array.getD_eq_getD_getElem?]; exact D119.trans (by kernel_rfl)
          clear hd hf
          refine wpOp_step rfl (fun K' hK' => ?_)
          refine value_ (N := some (kT 22)) (w1 := w') (v := .slice Ab 64 cb) (by rfl) (by kernel_rfl) ?_ ?_
          · clear hK' hK K' K
            obtain ⟨s0, s1, s2, s3, s4, -⟩ := hS
            go_simp
          · exact hK' _ _ (hK _ _ hS (kG_of (by kernel_rfl) (by kernel_rfl)) (fun _ _ h => h))
        · as_aux_lemma =>
          have E3 : a.tmps[3]?.getD undef = .slice (some ⟨ga, 0, none⟩) 3 capa := by rw [← Array.getD_eq_getD_getElem?]; exact (hf 3 (by decide +kernel)).trans rfl
          clear hd hf
          refine wpOp_step rfl (fun K' hK' => ?_)
          refine value_ (N := some (kT 23)) (w1 := w') (v := .slice (some ⟨ga, 0, none⟩) 3 capa) (by rfl) (by kernel_rfl) ?_ ?_
          · clear hK' hK K' K
            go_simp
          · exact hK' _ _ (hK _ _ hS (kG_of (by kernel_rfl) (by kernel_rfl)) (fun _ _ h => h))
        · as_aux_lemma =>
          have D121 := kG_val (by kernel_rfl) (hd 23 (by kernel_rfl))
          rw [show kT 23 = 121 by kernel_rfl] at D121
          have E121 : a.tmps[121]?.getD undef = .slice (some ⟨ga, 0, none⟩) 3 capa := by rw [← Array.getD_eq_getD_getElem?]; exact D121.trans (by kernel_rfl)
          clear hd hf
          refine wpOp_step rfl (fun K' hK' => ?_)
          refine value_ (N := some (kT 24)) (w1 := w') (v := .pointer (some ⟨ga, 0, none⟩)) (by rfl) (by kernel_rfl) ?_ ?_
          · clear hK' hK K' K
            go_simp
          · exact hK' _ _ (hK _ _ hS (kG_of (by kernel_rfl) (by kernel_rfl)) (fun _ _ h => h))
        · as_aux_lemma =>
          have D122 := kG_val (by kernel_rfl) (hd 24 (by kernel_rfl))
          rw [show kT 24 = 122 by kernel_rfl] at D122
          have E122 : a.tmps[122]?.getD undef = .pointer (some ⟨ga, 0, none⟩) := by rw [← Array.getD_eq_getD_getElem?]; exact D122.trans (by kernel_rfl)
          clear hd hf
          refine wpOp_step rfl (fun K' hK' => ?_)
          refine value_ (N := some (kT 25)) (w1 := w') (v := .slice Aa0 na0 la0) (by rfl) (by kernel_rfl) ?_ ?_
          · clear hK' hK K' K
            obtain ⟨s0, s1, s2, s3, s4, -⟩ := hS
            go_simp
          · exact hK' _ _ (hK _ _ hS (kG_of (by kernel_rfl) (by kernel_rfl)) (fun _ _ h => h))
        · as_aux_lemma =>
          have D120 := kG_val (by kernel_rfl) (hd 22 (by kernel_rfl))
          rw [show kT 22 = 120 by kernel_rfl] at D120
          have E120 : a.tmps[120]?.getD undef = .slice Ab 64 cb := by rw [← Array.getD_eq_getD_getElem?]; exact D120.trans (by kernel_rfl)
          have D123 := kG_val (by kernel_rfl) (hd 25 (by kernel_rfl))
          rw [show kT 25 = 123 by kernel_rfl] at D123
          have E123 : a.tmps[123]?.getD undef = .slice Aa0 na0 la0 := by rw [← Array.getD_eq_getD_getElem?]; exact D123.trans (by kernel_rfl)
          clear hd hf
          refine wpOp_step rfl (fun K' hK' => ?_)
          refine value_ (N := some (kT 26)) (w1 := w'.alloc (.cells ((kRow ga capa gb capb gc capc gp cp na0 la0 na1 la1 na2 la2 cb nc0 lc0 Aa0 Aa1 Aa2 Ab Ac0) 26).toArray 24)) (v := .slice (some ⟨w'.heap.size, 0, none⟩) 2 2) (by rfl) (by kernel_rfl) ?_ ?_
          · clear hK' hK K' K
            refine exec_lit 26 24 2 #[(0, .tmp 120), (1, .tmp 123)] rfl ((kRow ga capa gb capb gc capc gp cp na0 la0 na1 la1 na2 la2 cb nc0 lc0 Aa0 Aa1 Aa2 Ab Ac0) 26) [(kVal ga capa gb capb gc capc gp cp na0 la0 na1 la1 na2 la2 cb nc0 lc0 Aa0 Aa1 Aa2 Ab Ac0) 22, (kVal ga capa gb capb gc capc gp cp na0 la0 na1 la1 na2 la2 cb nc0 lc0 Aa0 Aa1 Aa2 Ab Ac0) 25] (by kernel_rfl) ?_ (.slice none 0 0) Try.underlying26 (by kernel_rfl) (by kernel_rfl) ?_
            · rw [Array.toList_map]
              show [(0, a.eval (.tmp 120)), (1, a.eval (.tmp 123))] = [(0, (kVal ga capa gb capb gc capc gp cp na0 la0 na1 la1 na2 la2 cb nc0 lc0 Aa0 Aa1 Aa2 Ab Ac0) 22), (1, (kVal ga capa gb capb gc capc gp cp na0 la0 na1 la1 na2 la2 cb nc0 lc0 Aa0 Aa1 Aa2 Ab Ac0) 25)]
              rw [D120, D123]
            · intro v hv
              simp only [List.mem_cons, List.not_mem_nil, or_false] at hv
              rcases hv with rfl | rfl
              all_goals rfl
          · have hb := below_alloc (Below.refl w'.heap.size w') (.cells ((kRow ga capa gb capb gc capc gp cp na0 la0 na1 la1 na2 la2 cb nc0 lc0 Aa0 Aa1 Aa2 Ab Ac0) 26).toArray 24)
            exact hK' _ _ (hK _ _ ⟨pw_cell_below hb hS.1, pw_cell_below hb hS.2.1, pw_cell_below hb hS.2.2.1, pw_cell_below hb hS.2.2.2.1, pw_cell_below hb hS.2.2.2.2.1, hS.2.2.2.2.2.trans (hb.mono hS.2.2.2.2.2.size)⟩ (kG_of_row (by kernel_rfl) ⟨w'.heap.size, by kernel_rfl, HoldsRow.new _ _ _⟩) (fun i v h => kG_below hb i v h))
        · as_aux_lemma =>
          have E3 : a.tmps[3]?.getD undef = .slice (some ⟨ga, 0, none⟩) 3 capa := by rw [← Array.getD_eq_getD_getElem?]; exact (hf 3 (by decide +kernel)).trans rfl
          clear hd hf
          refine wpOp_step rfl (fun K' hK' => ?_)
          refine value_ (N := some (kT 27)) (w1 := w') (v := .slice (some ⟨ga, 0, none⟩) 3 capa) (by rfl) (by kernel_rfl) ?_ ?_
          · clear hK' hK K' K
            go_simp
          · exact hK' _ _ (hK _ _ hS (kG_of (by kernel_rfl) (by kernel_rfl)) (fun _ _ h => h))
        · as_aux_lemma =>
          have D125 := kG_val (by kernel_rfl) (hd 27 (by kernel_rfl))
          rw [show kT 27 = 125 by kernel_rfl] at D125
          have E125 : a.tmps[125]?.getD undef = .slice (some ⟨ga, 0, none⟩) 3 capa := by rw [← Array.getD_eq_getD_getElem?]; exact D125.trans (by kernel_rfl)
          clear hd hf
          refine wpOp_step rfl (fun K' hK' => ?_)
          refine value_ (N := some (kT 28)) (w1 := w') (v := .pointer (some ⟨ga, 0, none⟩)) (by rfl) (by kernel_rfl) ?_ ?_
          · clear hK' hK K' K
            go_simp
          · exact hK' _ _ (hK _ _ hS (kG_of (by kernel_rfl) (by kernel_rfl)) (fun _ _ h => h))
        · as_aux_lemma =>
          have D126 := kG_val (by kernel_rfl) (hd 28 (by kernel_rfl))
          rw [show kT 28 = 126 by kernel_rfl] at D126
          have E126 : a.tmps[126]?.getD undef = .pointer (some ⟨ga, 0, none⟩) := by rw [← Array.getD_eq_getD_getElem?]; exact D126.trans (by kernel_rfl)
          clear hd hf
          refine wpOp_step rfl (fun K' hK' => ?_)
          refine value_ (N := some (kT 29)) (w1 := w') (v := .slice Aa0 na0 la0) (by rfl) (by kernel_rfl) ?_ ?_
          · clear hK' hK K' K
            obtain ⟨s0, s1, s2, s3, s4, -⟩ := hS
            go_simp
          · exact hK' _ _ (hK _ _ hS (kG_of (by kernel_rfl) (by kernel_rfl)) (fun _ _ h => h))
        · as_aux_lemma =>
          have E9 : a.tmps[9]?.getD undef = .slice (some ⟨gp, 0, none⟩) 64 cp := by rw [← Array.getD_eq_getD_getElem?]; exact (hf 9 (by decide +kernel)).trans rfl
          clear hd hf
          refine wpOp_step rfl (fun K' hK' => ?_)
          refine value_ (N := some (kT 30)) (w1 := w') (v := .slice (some ⟨gp, 0, none⟩) 64 cp) (by rfl) (by kernel_rfl) ?_ ?_
          · clear hK' hK K' K
            go_simp
          · exact hK' _ _ (hK _ _ hS (kG_of (by kernel_rfl) (by kernel_rfl)) (fun _ _ h => h))
        · as_aux_lemma =>
          have D127 := kG_val (by kernel_rfl) (hd 29 (by kernel_rfl))
          rw [show kT 29 = 127 by kernel_rfl] at D127
          have E127 : a.tmps[127]?.getD undef = .slice Aa0 na0 la0 := by rw [← Array.getD_eq_getD_getElem?]; exact D127.trans (by kernel_rfl)
          have D128 := kG_val (by kernel_rfl) (hd 30 (by kernel_rfl))
          rw [show kT 30 = 128 by kernel_rfl] at D128
          have E128 : a.tmps[128]?.getD undef = .slice (some ⟨gp, 0, none⟩) 64 cp := by rw [← Array.getD_eq_getD_getElem?]; exact D128.trans (by kernel_rfl)
          clear hd hf
          refine wpOp_step rfl (fun K' hK' => ?_)
          refine value_ (N := some (kT 31)) (w1 := w'.alloc (.cells ((kRow ga capa gb capb gc capc gp cp na0 la0 na1 la1 na2 la2 cb nc0 lc0 Aa0 Aa1 Aa2 Ab Ac0) 31).toArray 24)) (v := .slice (some ⟨w'.heap.size, 0, none⟩) 2 2) (by rfl) (by kernel_rfl) ?_ ?_
          · clear hK' hK K' K
            refine exec_lit 26 24 2 #[(0, .tmp 127), (1, .tmp 128)] rfl ((kRow ga capa gb capb gc capc gp cp na0 la0 na1 la1 na2 la2 cb nc0 lc0 Aa0 Aa1 Aa2 Ab Ac0) 31) [(kVal ga capa gb capb gc capc gp cp na0 la0 na1 la1 na2 la2 cb nc0 lc0 Aa0 Aa1 Aa2 Ab Ac0) 29, (kVal ga capa gb capb gc capc gp cp na0 la0 na1 la1 na2 la2 cb nc0 lc0 Aa0 Aa1 Aa2 Ab Ac0) 30] (by kernel_rfl) ?_ (.slice none 0 0) Try.underlying26 (by kernel_rfl) (by kernel_rfl) ?_
            · rw [Array.toList_map]
              show [(0, a.eval (.tmp 127)), (1, a.eval (.tmp 128))] = [(0, (kVal ga capa gb capb gc capc gp cp na0 la0 na1 la1 na2 la2 cb nc0 lc0 Aa0 Aa1 Aa2 Ab Ac0) 29), (1, (kVal ga capa gb capb gc capc gp cp na0 la0 na1 la1 na2 la2 cb nc0 lc0 Aa0 Aa1 Aa2 Ab Ac0) 30)]
              rw [D127, D128]
            · intro v hv
              simp only [List.mem_cons, List.not_mem_nil, or_false] at hv
              rcases hv with rfl | rfl
              all_goals rfl
          · have hb := below_alloc (Below.refl w'.heap.size w') (.cells ((kRow ga capa gb capb gc capc gp cp na0 la0 na1 la1 na2 la2 cb nc0 lc0 Aa0 Aa1 Aa2 Ab Ac0) 31).toArray 24)
            exact hK' _ _ (hK _ _ ⟨pw_cell_below hb hS.1, pw_cell_below hb hS.2.1, pw_cell_below hb hS.2.2.1, pw_cell_below hb hS.2.2.2.1, pw_cell_below hb hS.2.2.2.2.1, hS.2.2.2.2.2.trans (hb.mono hS.2.2.2.2.2.size)⟩ (kG_of_row (by kernel_rfl) ⟨w'.heap.size, by kernel_rfl, HoldsRow.new _ _ _⟩) (fun i v h => kG_below hb i v h))
        · as_aux_lemma =>
          have E3 : a.tmps[3]?.getD undef = .slice (some ⟨ga, 0, none⟩) 3 capa := by rw [← Array.getD_eq_getD_getElem?]; exact (hf 3 (by decide +kernel)).trans rfl
          clear hd hf
          refine wpOp_step rfl (fun K' hK' => ?_)
          refine value_ (N := some (kT 32)) (w1 := w') (v := .slice (some ⟨ga, 0, none⟩) 3 capa) (by rfl) (by kernel_rfl) ?_ ?_
          · clear hK' hK K' K
            go_simp
          · exact hK' _ _ (hK _ _ hS (kG_of (by kernel_rfl) (by kernel_rfl)) (fun _ _ h => h))
        · as_aux_lemma =>
          have D130 := kG_val (by kernel_rfl) (hd 32 (by kernel_rfl))
          rw [show kT 32 = 130 by kernel_rfl] at D130
          have E130 : a.tmps[130]?.getD undef = .slice (some ⟨ga, 0, none⟩) 3 capa := by rw [← Array.getD_eq_getD_getElem?]; exact D130.trans (by kernel_rfl)
          clear hd hf
          refine wpOp_step rfl (fun K' hK' => ?_)
          refine value_ (N := some (kT 33)) (w1 := w') (v := .pointer (some ⟨ga, 0, none⟩)) (by rfl) (by kernel_rfl) ?_ ?_
          · clear hK' hK K' K
            go_simp
          · exact hK' _ _ (hK _ _ hS (kG_of (by kernel_rfl) (by kernel_rfl)) (fun _ _ h => h))
        · as_aux_lemma =>
          have D131 := kG_val (by kernel_rfl) (hd 33 (by kernel_rfl))
          rw [show kT 33 = 131 by kernel_rfl] at D131
          have E131 : a.tmps[131]?.getD undef = .pointer (some ⟨ga, 0, none⟩) := by rw [← Array.getD_eq_getD_getElem?]; exact D131.trans (by kernel_rfl)
          clear hd hf
          refine wpOp_step rfl (fun K' hK' => ?_)
          refine value_ (N := some (kT 34)) (w1 := w') (v := .slice Aa0 na0 la0) (by rfl) (by kernel_rfl) ?_ ?_
          · clear hK' hK K' K
            obtain ⟨s0, s1, s2, s3, s4, -⟩ := hS
            go_simp
          · exact hK' _ _ (hK _ _ hS (kG_of (by kernel_rfl) (by kernel_rfl)) (fun _ _ h => h))
        · as_aux_lemma =>
          have E7 : a.tmps[7]?.getD undef = .slice (some ⟨gc, 0, none⟩) 1 capc := by rw [← Array.getD_eq_getD_getElem?]; exact (hf 7 (by decide +kernel)).trans rfl
          clear hd hf
          refine wpOp_step rfl (fun K' hK' => ?_)
          refine value_ (N := some (kT 35)) (w1 := w') (v := .slice (some ⟨gc, 0, none⟩) 1 capc) (by rfl) (by kernel_rfl) ?_ ?_
          · clear hK' hK K' K
            go_simp
          · exact hK' _ _ (hK _ _ hS (kG_of (by kernel_rfl) (by kernel_rfl)) (fun _ _ h => h))
        · as_aux_lemma =>
          have D133 := kG_val (by kernel_rfl) (hd 35 (by kernel_rfl))
          rw [show kT 35 = 133 by kernel_rfl] at D133
          have E133 : a.tmps[133]?.getD undef = .slice (some ⟨gc, 0, none⟩) 1 capc := by rw [← Array.getD_eq_getD_getElem?]; exact D133.trans (by kernel_rfl)
          clear hd hf
          refine wpOp_step rfl (fun K' hK' => ?_)
          refine value_ (N := some (kT 36)) (w1 := w') (v := .pointer (some ⟨gc, 0, none⟩)) (by rfl) (by kernel_rfl) ?_ ?_
          · clear hK' hK K' K
            go_simp
          · exact hK' _ _ (hK _ _ hS (kG_of (by kernel_rfl) (by kernel_rfl)) (fun _ _ h => h))
        · as_aux_lemma =>
          have D134 := kG_val (by kernel_rfl) (hd 36 (by kernel_rfl))
          rw [show kT 36 = 134 by kernel_rfl] at D134
          have E134 : a.tmps[134]?.getD undef = .pointer (some ⟨gc, 0, none⟩) := by rw [← Array.getD_eq_getD_getElem?]; exact D134.trans (by kernel_rfl)
          clear hd hf
          refine wpOp_step rfl (fun K' hK' => ?_)
          refine value_ (N := some (kT 37)) (w1 := w') (v := .slice Ac0 nc0 lc0) (by rfl) (by kernel_rfl) ?_ ?_
          · clear hK' hK K' K
            obtain ⟨s0, s1, s2, s3, s4, -⟩ := hS
            go_simp
          · exact hK' _ _ (hK _ _ hS (kG_of (by kernel_rfl) (by kernel_rfl)) (fun _ _ h => h))
        · as_aux_lemma =>
          have D132 := kG_val (by kernel_rfl) (hd 34 (by kernel_rfl))
          rw [show kT 34 = 132 by kernel_rfl] at D132
          have E132 : a.tmps[132]?.getD undef = .slice Aa0 na0 la0 := by rw [← Array.getD_eq_getD_getElem?]; exact D132.trans (by kernel_rfl)
          have D135 := kG_val (by kernel_rfl) (hd 37 (by kernel_rfl))
          rw [show kT 37 = 135 by kernel_rfl] at D135
          have E135 : a.tmps[135]?.getD undef = .slice Ac0 nc0 lc0 := by rw [← Array.getD_eq_getD_getElem?]; exact D135.trans (by kernel_rfl)
          clear hd hf
          refine wpOp_step rfl (fun K' hK' => ?_)
          refine value_ (N := some (kT 38)) (w1 := w'.alloc (.cells ((kRow ga capa gb capb gc capc gp cp na0 la0 na1 la1 na2 la2 cb nc0 lc0 Aa0 Aa1 Aa2 Ab Ac0) 38).toArray 24)) (v := .slice (some ⟨w'.heap.size, 0, none⟩) 2 2) (by rfl) (by kernel_rfl) ?_ ?_
          · clear hK' hK K' K
            refine exec_lit 26 24 2 #[(0, .tmp 132), (1, .tmp 135)] rfl ((kRow ga capa gb capb gc capc gp cp na0 la0 na1 la1 na2 la2 cb nc0 lc0 Aa0 Aa1 Aa2 Ab Ac0) 38) [(kVal ga capa gb capb gc capc gp cp na0 la0 na1 la1 na2 la2 cb nc0 lc0 Aa0 Aa1 Aa2 Ab Ac0) 34, (kVal ga capa gb capb gc capc gp cp na0 la0 na1 la1 na2 la2 cb nc0 lc0 Aa0 Aa1 Aa2 Ab Ac0) 37] (by kernel_rfl) ?_ (.slice none 0 0) Try.underlying26 (by kernel_rfl) (by kernel_rfl) ?_
            · rw [Array.toList_map]
              show [(0, a.eval (.tmp 132)), (1, a.eval (.tmp 135))] = [(0, (kVal ga capa gb capb gc capc gp cp na0 la0 na1 la1 na2 la2 cb nc0 lc0 Aa0 Aa1 Aa2 Ab Ac0) 34), (1, (kVal ga capa gb capb gc capc gp cp na0 la0 na1 la1 na2 la2 cb nc0 lc0 Aa0 Aa1 Aa2 Ab Ac0) 37)]
              rw [D132, D135]
            · intro v hv
              simp only [List.mem_cons, List.not_mem_nil, or_false] at hv
              rcases hv with rfl | rfl
              all_goals rfl
          · have hb := below_alloc (Below.refl w'.heap.size w') (.cells ((kRow ga capa gb capb gc capc gp cp na0 la0 na1 la1 na2 la2 cb nc0 lc0 Aa0 Aa1 Aa2 Ab Ac0) 38).toArray 24)
            exact hK' _ _ (hK _ _ ⟨pw_cell_below hb hS.1, pw_cell_below hb hS.2.1, pw_cell_below hb hS.2.2.1, pw_cell_below hb hS.2.2.2.1, pw_cell_below hb hS.2.2.2.2.1, hS.2.2.2.2.2.trans (hb.mono hS.2.2.2.2.2.size)⟩ (kG_of_row (by kernel_rfl) ⟨w'.heap.size, by kernel_rfl, HoldsRow.new _ _ _⟩) (fun i v h => kG_below hb i v h))
        · as_aux_lemma =>
          have E3 : a.tmps[3]?.getD undef = .slice (some ⟨ga, 0, none⟩) 3 capa := by rw [← Array.getD_eq_getD_getElem?]; exact (hf 3 (by decide +kernel)).trans rfl
          clear hd hf
          refine wpOp_step rfl (fun K' hK' => ?_)
          refine value_ (N := some (kT 39)) (w1 := w') (v := .slice (some ⟨ga, 0, none⟩) 3 capa) (by rfl) (by kernel_rfl) ?_ ?_
          · clear hK' hK K' K
            go_simp
          · exact hK' _ _ (hK _ _ hS (kG_of (by kernel_rfl) (by kernel_rfl)) (fun _ _ h => h))
        · as_aux_lemma =>
          have D137 := kG_val (by kernel_rfl) (hd 39 (by kernel_rfl))
          rw [show kT 39 = 137 by kernel_rfl] at D137
          have E137 : a.tmps[137]?.getD undef = .slice (some ⟨ga, 0, none⟩) 3 capa := by rw [← Array.getD_eq_getD_getElem?]; exact D137.trans (by kernel_rfl)
          clear hd hf
          refine wpOp_step rfl (fun K' hK' => ?_)
          refine value_ (N := some (kT 40)) (w1 := w') (v := .pointer (some ⟨ga, 0, none⟩)) (by rfl) (by kernel_rfl) ?_ ?_
          · clear hK' hK K' K
            go_simp
          · exact hK' _ _ (hK _ _ hS (kG_of (by kernel_rfl) (by kernel_rfl)) (fun _ _ h => h))
        · as_aux_lemma =>
          have D138 := kG_val (by kernel_rfl) (hd 40 (by kernel_rfl))
          rw [show kT 40 = 138 by kernel_rfl] at D138
          have E138 : a.tmps[138]?.getD undef = .pointer (some ⟨ga, 0, none⟩) := by rw [← Array.getD_eq_getD_getElem?]; exact D138.trans (by kernel_rfl)
          clear hd hf
          refine wpOp_step rfl (fun K' hK' => ?_)
          refine value_ (N := some (kT 41)) (w1 := w') (v := .slice Aa0 na0 la0) (by rfl) (by kernel_rfl) ?_ ?_
          · clear hK' hK K' K
            obtain ⟨s0, s1, s2, s3, s4, -⟩ := hS
            go_simp
          · exact hK' _ _ (hK _ _ hS (kG_of (by kernel_rfl) (by kernel_rfl)) (fun _ _ h => h))
        · as_aux_lemma =>
          have E3 : a.tmps[3]?.getD undef = .slice (some ⟨ga, 0, none⟩) 3 capa := by rw [← Array.getD_eq_getD_getElem?]; exact (hf 3 (by decide +kernel)).trans rfl
          clear hd hf
          refine wpOp_step rfl (fun K' hK' => ?_)
          refine value_ (N := some (kT 42)) (w1 := w') (v := .slice (some ⟨ga, 0, none⟩) 3 capa) (by rfl) (by kernel_rfl) ?_ ?_
          · clear hK' hK K' K
            go_simp
          · exact hK' _ _ (hK _ _ hS (kG_of (by kernel_rfl) (by kernel_rfl)) (fun _ _ h => h))
        · as_aux_lemma =>
          have D140 := kG_val (by kernel_rfl) (hd 42 (by kernel_rfl))
          rw [show kT 42 = 140 by kernel_rfl] at D140
          have E140 : a.tmps[140]?.getD undef = .slice (some ⟨ga, 0, none⟩) 3 capa := by rw [← Array.getD_eq_getD_getElem?]; exact D140.trans (by kernel_rfl)
          clear hd hf
          refine wpOp_step rfl (fun K' hK' => ?_)
          refine value_ (N := some (kT 43)) (w1 := w') (v := .pointer (some ⟨ga, 1, none⟩)) (by rfl) (by kernel_rfl) ?_ ?_
          · clear hK' hK K' K
            go_simp
          · exact hK' _ _ (hK _ _ hS (kG_of (by kernel_rfl) (by kernel_rfl)) (fun _ _ h => h))
        · as_aux_lemma =>
          have D141 := kG_val (by kernel_rfl) (hd 43 (by kernel_rfl))
          rw [show kT 43 = 141 by kernel_rfl] at D141
          have E141 : a.tmps[141]?.getD undef = .pointer (some ⟨ga, 1, none⟩) := by rw [← Array.getD_eq_getD_getElem?]; exact D141.trans (by kernel_rfl)
          clear hd hf
          refine wpOp_step rfl (fun K' hK' => ?_)
          refine value_ (N := some (kT 44)) (w1 := w') (v := .slice Aa1 na1 la1) (by rfl) (by kernel_rfl) ?_ ?_
          · clear hK' hK K' K
            obtain ⟨s0, s1, s2, s3, s4, -⟩ := hS
            go_simp
          · exact hK' _ _ (hK _ _ hS (kG_of (by kernel_rfl) (by kernel_rfl)) (fun _ _ h => h))
        · as_aux_lemma =>
          have D139 := kG_val (by kernel_rfl) (hd 41 (by kernel_rfl))
          rw [show kT 41 = 139 by kernel_rfl] at D139
          have E139 : a.tmps[139]?.getD undef = .slice Aa0 na0 la0 := by rw [← Array.getD_eq_getD_getElem?]; exact D139.trans (by kernel_rfl)
          have D142 := kG_val (by kernel_rfl) (hd 44 (by kernel_rfl))
          rw [show kT 44 = 142 by kernel_rfl] at D142
          have E142 : a.tmps[142]?.getD undef = .slice Aa1 na1 la1 := by rw [← Array.getD_eq_getD_getElem?]; exact D142.trans (by kernel_rfl)
          clear hd hf
          refine wpOp_step rfl (fun K' hK' => ?_)
          refine value_ (N := some (kT 45)) (w1 := w'.alloc (.cells ((kRow ga capa gb capb gc capc gp cp na0 la0 na1 la1 na2 la2 cb nc0 lc0 Aa0 Aa1 Aa2 Ab Ac0) 45).toArray 24)) (v := .slice (some ⟨w'.heap.size, 0, none⟩) 3 3) (by rfl) (by kernel_rfl) ?_ ?_
          · clear hK' hK K' K
            refine exec_lit 26 24 3 #[(0, .tmp 139), (1, .const (.slice none 0 0)), (2, .tmp 142)] rfl ((kRow ga capa gb capb gc capc gp cp na0 la0 na1 la1 na2 la2 cb nc0 lc0 Aa0 Aa1 Aa2 Ab Ac0) 45) [(kVal ga capa gb capb gc capc gp cp na0 la0 na1 la1 na2 la2 cb nc0 lc0 Aa0 Aa1 Aa2 Ab Ac0) 41, .slice none 0 0, (kVal ga capa gb capb gc capc gp cp na0 la0 na1 la1 na2 la2 cb nc0 lc0 Aa0 Aa1 Aa2 Ab Ac0) 44] (by kernel_rfl) ?_ (.slice none 0 0) Try.underlying26 (by kernel_rfl) (by kernel_rfl) ?_
            · rw [Array.toList_map]
              show [(0, a.eval (.tmp 139)), (1, .slice none 0 0), (2, a.eval (.tmp 142))] = [(0, (kVal ga capa gb capb gc capc gp cp na0 la0 na1 la1 na2 la2 cb nc0 lc0 Aa0 Aa1 Aa2 Ab Ac0) 41), (1, .slice none 0 0), (2, (kVal ga capa gb capb gc capc gp cp na0 la0 na1 la1 na2 la2 cb nc0 lc0 Aa0 Aa1 Aa2 Ab Ac0) 44)]
              rw [D139, D142]
            · intro v hv
              simp only [List.mem_cons, List.not_mem_nil, or_false] at hv
              rcases hv with rfl | rfl | rfl
              all_goals rfl
          · have hb := below_alloc (Below.refl w'.heap.size w') (.cells ((kRow ga capa gb capb gc capc gp cp na0 la0 na1 la1 na2 la2 cb nc0 lc0 Aa0 Aa1 Aa2 Ab Ac0) 45).toArray 24)
            exact hK' _ _ (hK _ _ ⟨pw_cell_below hb hS.1, pw_cell_below hb hS.2.1, pw_cell_below hb hS.2.2.1, pw_cell_below hb hS.2.2.2.1, pw_cell_below hb hS.2.2.2.2.1, hS.2.2.2.2.2.trans (hb.mono hS.2.2.2.2.2.size)⟩ (kG_of_row (by kernel_rfl) ⟨w'.heap.size, by kernel_rfl, HoldsRow.new _ _ _⟩) (fun i v h => kG_below hb i v h))
        · as_aux_lemma =>
          have E5 : a.tmps[5]?.getD undef = .slice (some ⟨gb, 0, none⟩) 1 capb := by rw [← Array.getD_eq_getD_getElem?]; exact (hf 5 (by decide +kernel)).trans rfl
          clear hd hf
          refine wpOp_step rfl (fun K' hK' => ?_)
          refine value_ (N := some (kT 46)) (w1 := w') (v := .slice (some ⟨gb, 0, none⟩) 1 capb) (by rfl) (by kernel_rfl) ?_ ?_
          · clear hK' hK K' K
            go_simp
          · exact hK' _ _ (hK _ _ hS (kG_of (by kernel_rfl) (by kernel_rfl)) (fun _ _ h => h))
        · as_aux_lemma =>
          have D144 := kG_val (by kernel_rfl) (hd 46 (by kernel_rfl))
          rw [show kT 46 = 144 by kernel_rfl] at D144
          have E144 : a.tmps[144]?.getD undef = .slice (some ⟨gb, 0, none⟩) 1 capb := by rw [← Array.getD_eq_getD_getElem?]; exact D144.trans (by kernel_rfl)
          clear hd hf
          refine wpOp_step rfl (fun K' hK' => ?_)
          refine value_ (N := some (kT 47)) (w1 := w') (v := .pointer (some ⟨gb, 0, none⟩)) (by rfl) (by kernel_rfl) ?_ ?_
          · clear hK' hK K' K
            go_simp
          · exact hK' _ _ (hK _ _ hS (kG_of (by kernel_rfl) (by kernel_rfl)) (fun _ _ h => h))
        · as_aux_lemma =>
          have D145 := kG_val (by kernel_rfl) (hd 47 (by kernel_rfl))
          rw [show kT 47 = 145 by kernel_rfl] at D145
          have E145 : a.tmps[145]?.getD undef = .pointer (some ⟨gb, 0, none⟩) := by rw [← Array.getD_eq_getD_getElem?]; exact D145.trans (by kernel_rfl)
          clear hd hf
          refine wpOp_step rfl (fun K' hK' => ?_)
          refine value_ (N := some (kT 48)) (w1 := w') (v := .slice Ab 64 cb) (by rfl) (by kernel_rfl) ?_ ?_
          · clear hK' hK K' K
            obtain ⟨s0, s1, s2, s3, s4, -⟩ := hS
            go_simp
          · exact hK' _ _ (hK _ _ hS (kG_of (by kernel_rfl) (by kernel_rfl)) (fun _ _ h => h))
        · as_aux_lemma =>
          have E5 : a.tmps[5]?.getD undef = .slice (some ⟨gb, 0, none⟩) 1 capb := by rw [← Array.getD_eq_getD_getElem?]; exact (hf 5 (by decide +kernel)).trans rfl
          clear hd hf
          refine wpOp_step rfl (fun K' hK' => ?_)
          refine value_ (N := some (kT 49)) (w1 := w') (v := .slice (some ⟨gb, 0, none⟩) 1 capb) (by rfl) (by kernel_rfl) ?_ ?_
          · clear hK' hK K' K
            go_simp
          · exact hK' _ _ (hK _ _ hS (kG_of (by kernel_rfl) (by kernel_rfl)) (fun _ _ h => h))
        · as_aux_lemma =>
          have D147 := kG_val (by kernel_rfl) (hd 49 (by kernel_rfl))
          rw [show kT 49 = 147 by kernel_rfl] at D147
          have E147 : a.tmps[147]?.getD undef = .slice (some ⟨gb, 0, none⟩) 1 capb := by rw [← Array.getD_eq_getD_getElem?]; exact D147.trans (by kernel_rfl)
          clear hd hf
          refine wpOp_step rfl (fun K' hK' => ?_)
          refine value_ (N := some (kT 50)) (w1 := w') (v := .pointer (some ⟨gb, 0, none⟩)) (by rfl) (by kernel_rfl) ?_ ?_
          · clear hK' hK K' K
            go_simp
          · exact hK' _ _ (hK _ _ hS (kG_of (by kernel_rfl) (by kernel_rfl)) (fun _ _ h => h))
        · as_aux_lemma =>
          have D148 := kG_val (by kernel_rfl) (hd 50 (by kernel_rfl))
          rw [show kT 50 = 148 by kernel_rfl] at D148
          have E148 : a.tmps[148]?.getD undef = .pointer (some ⟨gb, 0, none⟩) := by rw [← Array.getD_eq_getD_getElem?]; exact D148.trans (by kernel_rfl)
          clear hd hf
          refine wpOp_step rfl (fun K' hK' => ?_)
          refine value_ (N := some (kT 51)) (w1 := w') (v := .slice Ab 64 cb) (by rfl) (by kernel_rfl) ?_ ?_
          · clear hK' hK K' K
            obtain ⟨s0, s1, s2, s3, s4, -⟩ := hS
            go_simp
          · exact hK' _ _ (hK _ _ hS (kG_of (by kernel_rfl) (by kernel_rfl)) (fun _ _ h => h))
        · as_aux_lemma =>
          have E9 : a.tmps[9]?.getD undef = .slice (some ⟨gp, 0, none⟩) 64 cp := by rw [← Array.getD_eq_getD_getElem?]; exact (hf 9 (by decide +kernel)).trans rfl
          clear hd hf
          refine wpOp_step rfl (fun K' hK' => ?_)
          refine value_ (N := some (kT 52)) (w1 := w') (v := .slice (some ⟨gp, 0, none⟩) 64 cp) (by rfl) (by kernel_rfl) ?_ ?_
          · clear hK' hK K' K
            go_simp
          · exact hK' _ _ (hK _ _ hS (kG_of (by kernel_rfl) (by kernel_rfl)) (fun _ _ h => h))
        · as_aux_lemma =>
          have D146 := kG_val (by kernel_rfl) (hd 48 (by kernel_rfl))
          rw [show kT 48 = 146 by kernel_rfl] at D146
          have E146 : a.tmps[146]?.getD undef = .slice Ab 64 cb := by rw [← Array.getD_eq_getD_getElem?]; exact D146.trans (by kernel_rfl)
          have D149 := kG_val (by kernel_rfl) (hd 51 (by kernel_rfl))
          rw [show kT 51 = 149 by kernel_rfl] at D149
          have E149 : a.tmps[149]?.getD undef = .slice Ab 64 cb := by rw [← Array.getD_eq_getD_getElem?]; exact D149.trans (by kernel_rfl)
          have D150 := kG_val (by kernel_rfl) (hd 52 (by kernel_rfl))
          rw [show kT 52 = 150 by kernel_rfl] at D150
          have E150 : a.tmps[150]?.getD undef = .slice (some ⟨gp, 0, none⟩) 64 cp := by rw [← Array.getD_eq_getD_getElem?]; exact D150.trans (by kernel_rfl)
          clear hd hf
          refine wpOp_step rfl (fun K' hK' => ?_)
          refine value_ (N := some (kT 53)) (w1 := w'.alloc (.cells ((kRow ga capa gb capb gc capc gp cp na0 la0 na1 la1 na2 la2 cb nc0 lc0 Aa0 Aa1 Aa2 Ab Ac0) 53).toArray 24)) (v := .slice (some ⟨w'.heap.size, 0, none⟩) 3 3) (by rfl) (by kernel_rfl) ?_ ?_
          · clear hK' hK K' K
            refine exec_lit 26 24 3 #[(0, .tmp 146), (1, .tmp 149), (2, .tmp 150)] rfl ((kRow ga capa gb capb gc capc gp cp na0 la0 na1 la1 na2 la2 cb nc0 lc0 Aa0 Aa1 Aa2 Ab Ac0) 53) [(kVal ga capa gb capb gc capc gp cp na0 la0 na1 la1 na2 la2 cb nc0 lc0 Aa0 Aa1 Aa2 Ab Ac0) 48, (kVal ga capa gb capb gc capc gp cp na0 la0 na1 la1 na2 la2 cb nc0 lc0 Aa0 Aa1 Aa2 Ab Ac0) 51, (kVal ga capa gb capb gc capc gp cp na0 la0 na1 la1 na2 la2 cb nc0 lc0 Aa0 Aa1 Aa2 Ab Ac0) 52] (by kernel_rfl) ?_ (.slice none 0 0) Try.underlying26 (by kernel_rfl) (by kernel_rfl) ?_
            · rw [Array.toList_map]
              show [(0, a.eval (.tmp 146)), (1, a.eval (.tmp 149)), (2, a.eval (.tmp 150))] = [(0, (kVal ga capa gb capb gc capc gp cp na0 la0 na1 la1 na2 la2 cb nc0 lc0 Aa0 Aa1 Aa2 Ab Ac0) 48), (1, (kVal ga capa gb capb gc capc gp cp na0 la0 na1 la1 na2 la2 cb nc0 lc0 Aa0 Aa1 Aa2 Ab Ac0) 51), (2, (kVal ga capa gb capb gc capc gp cp na0 la0 na1 la1 na2 la2 cb nc0 lc0 Aa0 Aa1 Aa2 Ab Ac0) 52)]
              rw [D146, D149, D150]
            · intro v hv
              simp only [List.mem_cons, List.not_mem_nil, or_false] at hv
              rcases hv with rfl | rfl | rfl
              all_goals rfl
          · have hb := below_alloc (Below.refl w'.heap.size w') (.cells ((kRow ga capa gb capb gc capc gp cp na0 la0 na1 la1 na2 la2 cb nc0 lc0 Aa0 Aa1 Aa2 Ab Ac0) 53).toArray 24)
            exact hK' _ _ (hK _ _ ⟨pw_cell_below hb hS.1, pw_cell_below hb hS.2.1, pw_cell_below hb hS.2.2.1, pw_cell_below hb hS.2.2.2.1, pw_cell_below hb hS.2.2.2.2.1, hS.2.2.2.2.2.trans (hb.mono hS.2.2.2.2.2.size)⟩ (kG_of_row (by kernel_rfl) ⟨w'.heap.size, by kernel_rfl, HoldsRow.new _ _ _⟩) (fun i v h => kG_below hb i v h))
        · as_aux_lemma =>
          have E3 : a.tmps[3]?.getD undef = .slice (some ⟨ga, 0, none⟩) 3 capa := by rw [← Array.getD_eq_getD_getElem?]; exact (hf 3 (by decide +kernel)).trans rfl
          clear hd hf
          refine wpOp_step rfl (fun K' hK' => ?_)
          refine value_ (N := some (kT 54)) (w1 := w') (v := .slice (some ⟨ga, 0, none⟩) 3 capa) (by rfl) (by kernel_rfl) ?_ ?_
          · clear hK' hK K' K
            go_simp
          · exact hK' _ _ (hK _ _ hS (kG_of (by kernel_rfl) (by kernel_rfl)) (fun _ _ h => h))
        · as_aux_lemma =>
          have D152 := kG_val (by kernel_rfl) (hd 54 (by kernel_rfl))
          rw [show kT 54 = 152 by kernel_rfl] at D152
          have E152 : a.tmps[152]?.getD undef = .slice (some ⟨ga, 0, none⟩) 3 capa := by rw [← Array.getD_eq_getD_getElem?]; exact D152.trans (by kernel_rfl)
          clear hd hf
          refine wpOp_step rfl (fun K' hK' => ?_)
          refine value_ (N := some (kT 55)) (w1 := w') (v := .pointer (some ⟨ga, 0, none⟩)) (by rfl) (by kernel_rfl) ?_ ?_
          · clear hK' hK K' K
            go_simp
          · exact hK' _ _ (hK _ _ hS (kG_of (by kernel_rfl) (by kernel_rfl)) (fun _ _ h => h))
        · as_aux_lemma =>
          have D153 := kG_val (by kernel_rfl) (hd 55 (by kernel_rfl))
          rw [show kT 55 = 153 by kernel_rfl] at D153
          have E153 : a.tmps[153]?.getD undef = .pointer (some ⟨ga, 0, none⟩) := by rw [← Array.getD_eq_getD_getElem?]; exact D153.trans (by kernel_rfl)
          clear hd hf
          refine wpOp_step rfl (fun K' hK' => ?_)
          refine value_ (N := some (kT 56)) (w1 := w') (v := .slice Aa0 na0 la0) (by rfl) (by kernel_rfl) ?_ ?_
          · clear hK' hK K' K
            obtain ⟨s0, s1, s2, s3, s4, -⟩ := hS
            go_simp
          · exact hK' _ _ (hK _ _ hS (kG_of (by kernel_rfl) (by kernel_rfl)) (fun _ _ h => h))
        · as_aux_lemma =>
          have E3 : a.tmps[3]?.getD undef = .slice (some ⟨ga, 0, none⟩) 3 capa := by rw [← Array.getD_eq_getD_getElem?]; exact (hf 3 (by decide +kernel)).trans rfl
          clear hd hf
          refine wpOp_step rfl (fun K' hK' => ?_)
          refine value_ (N := some (kT 57)) (w1 := w') (v := .slice (some ⟨ga, 0, none⟩) 3 capa) (by rfl) (by kernel_rfl) ?_ ?_
          · clear hK' hK K' K
            go_simp
          · exact hK' _ _ (hK _ _ hS (kG_of (by kernel_rfl) (by kernel_rfl)) (fun _ _ h => h))
        · as_aux_lemma =>
          have D155 := kG_val (by kernel_rfl) (hd 57 (by kernel_rfl))
          rw [show kT 57 = 155 by kernel_rfl] at D155
          have E155 : a.tmps[155]?.getD undef = .slice (some ⟨ga, 0, none⟩) 3 capa := by rw [← Array.getD_eq_getD_getElem?]; exact D155.trans (by kernel_rfl)
          clear hd hf
          refine wpOp_step rfl (fun K' hK' => ?_)
          refine value_ (N := some (kT 58)) (w1 := w') (v := .pointer (some ⟨ga, 2, none⟩)) (by rfl) (by kernel_rfl) ?_ ?_
          · clear hK' hK K' K
            go_simp
          · exact hK' _ _ (hK _ _ hS (kG_of (by kernel_rfl) (by kernel_rfl)) (fun _ _ h => h))
        · as_aux_lemma =>
          have D156 := kG_val (by kernel_rfl) (hd 58 (by kernel_rfl))
          rw [show kT 58 = 156 by kernel_rfl] at D156
          have E156 : a.tmps[156]?.getD undef = .pointer (some ⟨ga, 2, none⟩) := by rw [← Array.getD_eq_getD_getElem?]; exact D156.trans (by kernel_rfl)
          clear hd hf
          refine wpOp_step rfl (fun K' hK' => ?_)
          refine value_ (N := some (kT 59)) (w1 := w') (v := .slice Aa2 na2 la2) (by rfl) (by kernel_rfl) ?_ ?_
          · clear hK' hK K' K
            obtain ⟨s0, s1, s2, s3, s4, -⟩ := hS
            go_simp
          · exact hK' _ _ (hK _ _ hS (kG_of (by kernel_rfl) (by kernel_rfl)) (fun _ _ h => h))
        · as_aux_lemma =>
          have E3 : a.tmps[3]?.getD undef = .slice (some ⟨ga, 0, none⟩) 3 capa := by rw [← Array.getD_eq_getD_getElem?]; exact (hf 3 (by decide +kernel)).trans rfl
          clear hd hf
          refine wpOp_step rfl (fun K' hK' => ?_)
          refine value_ (N := some (kT 60)) (w1 := w') (v := .slice (some ⟨ga, 0, none⟩) 3 capa) (by rfl) (by kernel_rfl) ?_ ?_
          · clear hK' hK K' K
            go_simp
          · exact hK' _ _ (hK _ _ hS (kG_of (by kernel_rfl) (by kernel_rfl)) (fun _ _ h => h))
        · as_aux_lemma =>
          have D158 := kG_val (by kernel_rfl) (hd 60 (by kernel_rfl))
          rw [show kT 60 = 158 by kernel_rfl] at D158
          have E158 : a.tmps[158]?.getD undef = .slice (some ⟨ga, 0, none⟩) 3 capa := by rw [← Array.getD_eq_getD_getElem?]; exact D158.trans (by kernel_rfl)
          clear hd hf
          refine wpOp_step rfl (fun K' hK' => ?_)
          refine value_ (N := some (kT 61)) (w1 := w') (v := .pointer (some ⟨ga, 1, none⟩)) (by rfl) (by kernel_rfl) ?_ ?_
          · clear hK' hK K' K
            go_simp
          · exact hK' _ _ (hK _ _ hS (kG_of (by kernel_rfl) (by kernel_rfl)) (fun _ _ h => h))
        · as_aux_lemma =>
          have D159 := kG_val (by kernel_rfl) (hd 61 (by kernel_rfl))
          rw [show kT 61 = 159 by kernel_rfl] at D159
          have E159 : a.tmps[159]?.getD undef = .pointer (some ⟨ga, 1, none⟩) := by rw [← Array.getD_eq_getD_getElem?]; exact D159.trans (by kernel_rfl)
          clear hd hf
          refine wpOp_step rfl (fun K' hK' => ?_)
          refine value_ (N := some (kT 62)) (w1 := w') (v := .slice Aa1 na1 la1) (by rfl) (by kernel_rfl) ?_ ?_
          · clear hK' hK K' K
            obtain ⟨s0, s1, s2, s3, s4, -⟩ := hS
            go_simp
          · exact hK' _ _ (hK _ _ hS (kG_of (by kernel_rfl) (by kernel_rfl)) (fun _ _ h => h))
        · as_aux_lemma =>
          have E3 : a.tmps[3]?.getD undef = .slice (some ⟨ga, 0, none⟩) 3 capa := by rw [← Array.getD_eq_getD_getElem?]; exact (hf 3 (by decide +kernel)).trans rfl
          clear hd hf
          refine wpOp_step rfl (fun K' hK' => ?_)
          refine value_ (N := some (kT 63)) (w1 := w') (v := .slice (some ⟨ga, 0, none⟩) 3 capa) (by rfl) (by kernel_rfl) ?_ ?_
          · clear hK' hK K' K
            go_simp
          · exact hK' _ _ (hK _ _ hS (kG_of (by kernel_rfl) (by kernel_rfl)) (fun _ _ h => h))
        · as_aux_lemma =>
          have D161 := kG_val (by kernel_rfl) (hd 63 (by kernel_rfl))
          rw [show kT 63 = 161 by kernel_rfl] at D161
          have E161 : a.tmps[161]?.getD undef = .slice (some ⟨ga, 0, none⟩) 3 capa := by rw [← Array.getD_eq_getD_getElem?]; exact D161.trans (by kernel_rfl)
          clear hd hf
          refine wpOp_step rfl (fun K' hK' => ?_)
          refine value_ (N := some (kT 64)) (w1 := w') (v := .pointer (some ⟨ga, 0, none⟩)) (by rfl) (by kernel_rfl) ?_ ?_
          · clear hK' hK K' K
            go_simp
          · exact hK' _ _ (hK _ _ hS (kG_of (by kernel_rfl) (by kernel_rfl)) (fun _ _ h => h))
        · as_aux_lemma =>
          have D162 := kG_val (by kernel_rfl) (hd 64 (by kernel_rfl))
          rw [show kT 64 = 162 by kernel_rfl] at D162
          have E162 : a.tmps[162]?.getD undef = .pointer (some ⟨ga, 0, none⟩) := by rw [← Array.getD_eq_getD_getElem?]; exact D162.trans (by kernel_rfl)
          clear hd hf
          refine wpOp_step rfl (fun K' hK' => ?_)
          refine value_ (N := some (kT 65)) (w1 := w') (v := .slice Aa0 na0 la0) (by rfl) (by kernel_rfl) ?_ ?_
          · clear hK' hK K' K
            obtain ⟨s0, s1, s2, s3, s4, -⟩ := hS
            go_simp
          · exact hK' _ _ (hK _ _ hS (kG_of (by kernel_rfl) (by kernel_rfl)) (fun _ _ h => h))
        · as_aux_lemma =>
          have D154 := kG_val (by kernel_rfl) (hd 56 (by kernel_rfl))
          rw [show kT 56 = 154 by kernel_rfl] at D154
          have E154 : a.tmps[154]?.getD undef = .slice Aa0 na0 la0 := by rw [← Array.getD_eq_getD_getElem?]; exact D154.trans (by kernel_rfl)
          have D157 := kG_val (by kernel_rfl) (hd 59 (by kernel_rfl))
          rw [show kT 59 = 157 by kernel_rfl] at D157
          have E157 : a.tmps[157]?.getD undef = .slice Aa2 na2 la2 := by rw [← Array.getD_eq_getD_getElem?]; exact D157.trans (by kernel_rfl)
          have D160 := kG_val (by kernel_rfl) (hd 62 (by kernel_rfl))
          rw [show kT 62 = 160 by kernel_rfl] at D160
          have E160 : a.tmps[160]?.getD undef = .slice Aa1 na1 la1 := by rw [← Array.getD_eq_getD_getElem?]; exact D160.trans (by kernel_rfl)
          have D163 := kG_val (by kernel_rfl) (hd 65 (by kernel_rfl))
          rw [show kT 65 = 163 by kernel_rfl] at D163
          have E163 : a.tmps[163]?.getD undef = .slice Aa0 na0 la0 := by rw [← Array.getD_eq_getD_getElem?]; exact D163.trans (by kernel_rfl)
          clear hd hf
          refine wpOp_step rfl (fun K' hK' => ?_)
          refine value_ (N := some (kT 66)) (w1 := w'.alloc (.cells ((kRow ga capa gb capb gc capc gp cp na0 la0 na1 la1 na2 la2 cb nc0 lc0 Aa0 Aa1 Aa2 Ab Ac0) 66).toArray 24)) (v := .slice (some ⟨w'.heap.size, 0, none⟩) 4 4) (by rfl) (by kernel_rfl) ?_ ?_
          · clear hK' hK K' K
            refine exec_lit 26 24 4 #[(0, .tmp 154), (1, .tmp 157), (2, .tmp 160), (3, .tmp 163)] rfl ((kRow ga capa gb capb gc capc gp cp na0 la0 na1 la1 na2 la2 cb nc0 lc0 Aa0 Aa1 Aa2 Ab Ac0) 66) [(kVal ga capa gb capb gc capc gp cp na0 la0 na1 la1 na2 la2 cb nc0 lc0 Aa0 Aa1 Aa2 Ab Ac0) 56, (kVal ga capa gb capb gc capc gp cp na0 la0 na1 la1 na2 la2 cb nc0 lc0 Aa0 Aa1 Aa2 Ab Ac0) 59, (kVal ga capa gb capb gc capc gp cp na0 la0 na1 la1 na2 la2 cb nc0 lc0 Aa0 Aa1 Aa2 Ab Ac0) 62, (kVal ga capa gb capb gc capc gp cp na0 la0 na1 la1 na2 la2 cb nc0 lc0 Aa0 Aa1 Aa2 Ab Ac0) 65] (by kernel_rfl) ?_ (.slice none 0 0) Try.underlying26 (by kernel_rfl) (by kernel_rfl) ?_
            · rw [Array.toList_map]
              show [(0, a.eval (.tmp 154)), (1, a.eval (.tmp 157)), (2, a.eval (.tmp 160)), (3, a.eval (.tmp 163))] = [(0, (kVal ga capa gb capb gc capc gp cp na0 la0 na1 la1 na2 la2 cb nc0 lc0 Aa0 Aa1 Aa2 Ab Ac0) 56), (1, (kVal ga capa gb capb gc capc gp cp na0 la0 na1 la1 na2 la2 cb nc0 lc0 Aa0 Aa1 Aa2 Ab Ac0) 59), (2, (kVal ga capa gb capb gc capc gp cp na0 la0 na1 la1 na2 la2 cb nc0 lc0 Aa0 Aa1 Aa2 Ab Ac0) 62), (3, (kVal ga capa gb capb gc capc gp cp na0 la0 na1 la1 na2 la2 cb nc0 lc0 Aa0 Aa1 Aa2 Ab Ac0) 65)]
              rw [D154, D157, D160, D163]
            · intro v hv
              simp only [List.mem_cons, List.not_mem_nil, or_false] at hv
              rcases hv with rfl | rfl | rfl | rfl
              all_goals rfl
          · have hb := below_alloc (Below.refl w'.heap.size w') (.cells ((kRow ga capa gb capb gc capc gp cp na0 la0 na1 la1 na2 la2 cb nc0 lc0 Aa0 Aa1 Aa2 Ab Ac0) 66).toArray 24)
            exact hK' _ _ (hK _ _ ⟨pw_cell_below hb hS.1, pw_cell_below hb hS.2.1, pw_cell_below hb hS.2.2.1, pw_cell_below hb hS.2.2.2.1, pw_cell_below hb hS.2.2.2.2.1, hS.2.2.2.2.2.trans (hb.mono hS.2.2.2.2.2.size)⟩ (kG_of_row (by kernel_rfl) ⟨w'.heap.size, by kernel_rfl, HoldsRow.new _ _ _⟩) (fun i v h => kG_below hb i v h))
        · as_aux_lemma =>
          obtain ⟨f12, e12, h12⟩ := kG_row (by kernel_rfl) (hd 12 (by kernel_rfl))
          rw [show kT 12 = 110 by kernel_rfl] at e12
          replace e12 : a.eval (.tmp 110) = .slice (some ⟨f12, 0, none⟩) 4 4 := e12.trans (by kernel_rfl)
          obtain ⟨f19, e19, h19⟩ := kG_row (by kernel_rfl) (hd 19 (by kernel_rfl))
          rw [show kT 19 = 117 by kernel_rfl] at e19
          replace e19 : a.eval (.tmp 117) = .slice (some ⟨f19, 0, none⟩) 2 2 := e19.trans (by kernel_rfl)
          obtain ⟨f26, e26, h26⟩ := kG_row (by kernel_rfl) (hd 26 (by kernel_rfl))
          rw [show kT 26 = 124 by kernel_rfl] at e26
          replace e26 : a.eval (.tmp 124) = .slice (some ⟨f26, 0, none⟩) 2 2 := e26.trans (by kernel_rfl)
          obtain ⟨f31, e31, h31⟩ := kG_row (by kernel_rfl) (hd 31 (by kernel_rfl))
          rw [show kT 31 = 129 by kernel_rfl] at e31
          replace e31 : a.eval (.tmp 129) = .slice (some ⟨f31, 0, none⟩) 2 2 := e31.trans (by kernel_rfl)
          obtain ⟨f38, e38, h38⟩ := kG_row (by kernel_rfl) (hd 38 (by kernel_rfl))
          rw [show kT 38 = 136 by kernel_rfl] at e38
          replace e38 : a.eval (.tmp 136) = .slice (some ⟨f38, 0, none⟩) 2 2 := e38.trans (by kernel_rfl)
          obtain ⟨f45, e45, h45⟩ := kG_row (by kernel_rfl) (hd 45 (by kernel_rfl))
          rw [show kT 45 = 143 by kernel_rfl] at e45
          replace e45 : a.eval (.tmp 143) = .slice (some ⟨f45, 0, none⟩) 3 3 := e45.trans (by kernel_rfl)
          obtain ⟨f53, e53, h53⟩ := kG_row (by kernel_rfl) (hd 53 (by kernel_rfl))
          rw [show kT 53 = 151 by kernel_rfl] at e53
          replace e53 : a.eval (.tmp 151) = .slice (some ⟨f53, 0, none⟩) 3 3 := e53.trans (by kernel_rfl)
          obtain ⟨f66, e66, h66⟩ := kG_row (by kernel_rfl) (hd 66 (by kernel_rfl))
          rw [show kT 66 = 164 by kernel_rfl] at e66
          replace e66 : a.eval (.tmp 164) = .slice (some ⟨f66, 0, none⟩) 4 4 := e66.trans (by kernel_rfl)
          clear hd hf
          refine wpOp_step rfl (fun K' hK' => ?_)
          refine value_ (N := some (kT 67)) (w1 := w'.alloc (.cells #[.slice (some ⟨f12, 0, none⟩) 4 4, .slice (some ⟨f19, 0, none⟩) 2 2, .slice (some ⟨f26, 0, none⟩) 2 2, .slice (some ⟨f31, 0, none⟩) 2 2, .slice (some ⟨f38, 0, none⟩) 2 2, .slice (some ⟨f45, 0, none⟩) 3 3, .slice (some ⟨f53, 0, none⟩) 3 3, .slice (some ⟨f66, 0, none⟩) 4 4] 26)) (v := .slice (some ⟨w'.heap.size, 0, none⟩) 8 8) (by rfl) (by kernel_rfl) ?_ ?_
          · clear hK' hK K' K
            refine exec_lit 66 26 8 #[(0, .tmp 110), (1, .tmp 117), (2, .tmp 124), (3, .tmp 129), (4, .tmp 136), (5, .tmp 143), (6, .tmp 151), (7, .tmp 164)] rfl [.slice (some ⟨f12, 0, none⟩) 4 4, .slice (some ⟨f19, 0, none⟩) 2 2, .slice (some ⟨f26, 0, none⟩) 2 2, .slice (some ⟨f31, 0, none⟩) 2 2, .slice (some ⟨f38, 0, none⟩) 2 2, .slice (some ⟨f45, 0, none⟩) 3 3, .slice (some ⟨f53, 0, none⟩) 3 3, .slice (some ⟨f66, 0, none⟩) 4 4] _ rfl ?_ (.slice none 0 0) Try.underlying66 (by kernel_rfl) (by kernel_rfl) ?_
            · rw [Array.toList_map]
              show [(0, a.eval (.tmp 110)), (1, a.eval (.tmp 117)), (2, a.eval (.tmp 124)), (3, a.eval (.tmp 129)), (4, a.eval (.tmp 136)), (5, a.eval (.tmp 143)), (6, a.eval (.tmp 151)), (7, a.eval (.tmp 164))] = [(0, .slice (some ⟨f12, 0, none⟩) 4 4), (1, .slice (some ⟨f19, 0, none⟩) 2 2), (2, .slice (some ⟨f26, 0, none⟩) 2 2), (3, .slice (some ⟨f31, 0, none⟩) 2 2), (4, .slice (some ⟨f38, 0, none⟩) 2 2), (5, .slice (some ⟨f45, 0, none⟩) 3 3), (6, .slice (some ⟨f53, 0, none⟩) 3 3), (7, .slice (some ⟨f66, 0, none⟩) 4 4)]
              rw [e12, e19, e26, e31, e38, e45, e53, e66]
            · intro v hv
              simp only [List.mem_cons, List.not_mem_nil, or_false] at hv
              rcases hv with rfl | rfl | rfl | rfl | rfl | rfl | rfl | rfl
              all_goals rfl
          · have hb := below_alloc (Below.refl w'.heap.size w') (.cells #[.slice (some ⟨f12, 0, none⟩) 4 4, .slice (some ⟨f19, 0, none⟩) 2 2, .slice (some ⟨f26, 0, none⟩) 2 2, .slice (some ⟨f31, 0, none⟩) 2 2, .slice (some ⟨f38, 0, none⟩) 2 2, .slice (some ⟨f45, 0, none⟩) 3 3, .slice (some ⟨f53, 0, none⟩) 3 3, .slice (some ⟨f66, 0, none⟩) 4 4] 26)
            exact hK' _ _ (hK _ _ ⟨pw_cell_below hb hS.1, pw_cell_below hb hS.2.1, pw_cell_below hb hS.2.2.1, pw_cell_below hb hS.2.2.2.1, pw_cell_below hb hS.2.2.2.2.1, hS.2.2.2.2.2.trans (hb.mono hS.2.2.2.2.2.size)⟩ (kG_of_all (by kernel_rfl) ⟨w'.heap.size, rfl, f12, f19, f26, f31, f38, f45, f53, f66, HoldsRow.new _ _ _, h12.below hb h12.lt, h19.below hb h19.lt, h26.below hb h26.lt, h31.below hb h31.lt, h38.below hb h38.lt, h45.below hb h45.lt, h53.below hb h53.lt, h66.below hb h66.lt⟩) (fun i v h => kG_below hb i v h))
        · as_aux_lemma =>
          obtain ⟨gx, ex, hx⟩ := kG_all (by kernel_rfl) (hd 67 (by kernel_rfl))
          rw [show kT 67 = 165 by kernel_rfl] at ex
          have E165 : a.tmps[165]?.getD undef = .slice (some ⟨gx, 0, none⟩) 8 8 := by rw [← Array.getD_eq_getD_getElem?]; exact ex
          clear hd hf ex
          refine wpOp_step rfl (fun K' hK' => ?_)
          refine value_ (N := some (kT 68)) (w1 := w') (v := .slice (some ⟨gx, 0, none⟩) 8 8) (by rfl) (by kernel_rfl) ?_ ?_
          · clear hK' hK K' K
            go_simp
          · exact hK' _ _ (hK _ _ hS (kG_of_all (by kernel_rfl) ⟨gx, rfl, hx⟩) (fun _ _ h => h))
      obtain ⟨gx, ex, hx⟩ := kG_all (by kernel_rfl) (hG 68 (by decide))
      rw [show kT 68 = 10 by kernel_rfl] at ex
      obtain ⟨y, hy, rfl⟩ := lit_act a (hsz.trans rfl) (hdf.trans rfl)
      have y3 : y 3 = .slice (some ⟨ga, 0, none⟩) 3 capa := (hy 3).symm.trans ((hf 3 (by decide +kernel)).trans rfl)
      have y5 : y 5 = .slice (some ⟨gb, 0, none⟩) 1 capb := (hy 5).symm.trans ((hf 5 (by decide +kernel)).trans rfl)
      have y10 : y 10 = .slice (some ⟨gx, 0, none⟩) 8 8 := (hy 10).symm.trans ex
      rw [y3, y5, y10]
      clear hy hf hG ex hsz hdf y3 y5 y10
      --WALK1
      as_aux_lemma =>
      have h7m : Below w7.heap.size w7 wm := HC70.out.trans (hS.2.2.2.2.2.mono HC70.out.size)
      have ca0 := KA7.out.2.1.below h7m
      have ca1 := KA7.out.2.2.1.below h7m
      have ca2 := KA7.out.2.2.2.below h7m
      have cc0 := KC7.out.2.below h7m
      have cb0 : Cel wm (.slice Ab 64 cb) kb0 := ⟨Ab, cb, by rw [kb_len], by rw [kb_len]; exact HBC.out.1, by rw [kb_len]; exact Kd.C_below HBC.out.2 h7m⟩
      have cp0 : Cel wm (.slice (some ⟨gp, 0, none⟩) 64 cp) kp0 := by
        have hr := Kd.R_reads' (Kd.R_below HP0.out hS.2.2.2.2.2)
        exact ⟨some ⟨gp, 0, none⟩, cp, by rw [show kp0.length = 64 by decide +kernel], by rw [show kp0.length = 64 by decide +kernel]; exact hr.2.1, hr.2.2⟩
      have hrow : KRow wm gx := by
        obtain ⟨f12, f19, f26, f31, f38, f45, f53, f66, h0, h12, h19, h26, h31, h38, h45, h53, h66⟩ := hx
        have k12 := rows_C (l := [ka0, ka1, ka2, kb0]) h12 (show Cels wm _ _ from ⟨ca0, ca1, ca2, cb0, trivial⟩) (by decide)
        have k19 := rows_C (l := [ka1, ka2]) h19 (show Cels wm _ _ from ⟨ca1, ca2, trivial⟩) (by decide)
        have k26 := rows_C (l := [kb0, ka0]) h26 (show Cels wm _ _ from ⟨cb0, ca0, trivial⟩) (by decide)
        have k31 := rows_C (l := [ka0, kp0]) h31 (show Cels wm _ _ from ⟨ca0, cp0, trivial⟩) (by decide)
        have k38 := rows_C (l := [ka0, kc0]) h38 (show Cels wm _ _ from ⟨ca0, cc0, trivial⟩) (by decide)
        have k45 := rows_C (l := [ka0, [], ka1]) h45 (show Cels wm _ _ from ⟨ca0, Cel.nil _, ca1, trivial⟩) (by decide)
        have k53 := rows_C (l := [kb0, kb0, kp0]) h53 (show Cels wm _ _ from ⟨cb0, cb0, cp0, trivial⟩) (by decide)
        have k66 := rows_C (l := [ka0, ka2, ka1, ka0]) h66 (show Cels wm _ _ from ⟨ca0, ca2, ca1, ca0, trivial⟩) (by decide)
        intro i l hl
        have hi : i < 8 := (List.getElem?_eq_some_iff.1 hl).1
        obtain rfl | rfl | rfl | rfl | rfl | rfl | rfl | rfl : i = 0 ∨ i = 1 ∨ i = 2 ∨ i = 3 ∨ i = 4 ∨ i = 5 ∨ i = 6 ∨ i = 7 := by omega
        · obtain rfl := Option.some.inj hl
          exact ⟨_, h0.cell rfl, k12⟩
        · obtain rfl := Option.some.inj hl
          exact ⟨_, h0.cell rfl, k19⟩
        · obtain rfl := Option.some.inj hl
          exact ⟨_, h0.cell rfl, k26⟩
        · obtain rfl := Option.some.inj hl
          exact ⟨_, h0.cell rfl, k31⟩
        · obtain rfl := Option.some.inj hl
          exact ⟨_, h0.cell rfl, k38⟩
        · obtain rfl := Option.some.inj hl
          exact ⟨_, h0.cell rfl, k45⟩
        · obtain rfl := Option.some.inj hl
          exact ⟨_, h0.cell rfl, k53⟩
        · obtain rfl := Option.some.inj hl
          exact ⟨_, h0.cell rfl, k66⟩
      have KS0 := Aside0.mk (show KS w gx gb Ab cb wm from ⟨hrow, pw_cell_below h7m K0, Kd.C_below HBC.out.2 h7m, B7.out.trans (h7m.mono B7.out.size)⟩)
      have HBL := Aside0.mk HBC.out.1
      clear hx hS h7m ca0 ca1 ca2 cc0 cb0 cp0 hrow KA7 KC7 HBC K0 HP0 HC70 B7 KB7 HV0
      go_wp2_with fail
      go_loopw [11] (fun i wr => ∃ (j : Nat), j ≤ 8 ∧ i = .int .i64 (j : Nat) ∧ Aside0 (KS w gx gb Ab cb wr)) (fun i _ => 8 - (intOf i).toNat)
      case atStart => exact ⟨0, by omega, rfl, KS0⟩
      case round =>
        clear KS0
        obtain ⟨j, hj, rfl, K1⟩ := hrel
        by_cases hlt : j < 8
        · have d1 : decide ((j : Int) < 8) = true := decide_eq_true (by omega)
          have b0 := eq_true (show (0 : Int) ≤ (j : Int) by omega)
          have b1 := eq_true (show (j : Int) < 8 by omega)
          obtain ⟨l, hl⟩ : ∃ l, kRows[j]? = some l := ⟨_, List.getElem?_eq_getElem (by rw [kRows_len]; exact hlt)⟩
          have HL := Aside0.mk (And.intro hl (kRows_ok l (List.mem_of_getElem? hl)))
          clear hl
          go_wp2_with fail
          go_loopw [12] (fun i wr => ∃ (k : Nat), 3 ≤ k ∧ k ≤ 8 ∧ i = .int .i64 (k : Nat) ∧ Aside0 (KS w gx gb Ab cb wr)) (fun i _ => 8 - (intOf i).toNat)
          case atStart => exact ⟨3, by omega, by omega, rfl, K1⟩
          case round =>
            clear K1
            obtain ⟨k, hk3, hk, rfl, K1⟩ := hrel
            by_cases hkt : k < 8
            · have d2 : decide ((k : Int) < 8) = true := decide_eq_true (by omega)
              obtain ⟨Ar, hcell, hcr⟩ := K1.out.1 j l HL.out.1
              have HCR := Aside0.mk hcr
              have HCE := Aside0.mk hcell
              clear hcr
              go_wp2_with fail
              refine (scans_k 2 (k : Int) Ar l wr HCR.out HL.out.2).mono ?_
              rintro en w2 ⟨rfl, hb2⟩
              have K2 := Aside0.mk (K1.out.step hb2)
              have c2 := pw_cell_below hb2 HCE.out
              have HC2 := Aside0.mk (Kd.C_below HCR.out hb2)
              clear hcell hb2 K1
              go_wp2_with fail
              refine (scans_k 3 (k : Int) Ar l w2 HC2.out HL.out.2).mono ?_
              rintro en w3 ⟨rfl, hb3⟩
              have K3 := Aside0.mk (K2.out.step hb3)
              clear c2 hb3 K2
              go_wp2_with fail
              refine ⟨⟨k + 1, by omega, by omega, rfl, K3⟩, ?_⟩
              show 8 - ((k : Int) + 1).toNat < 8 - (k : Int).toNat
              omega
            · obtain rfl : k = 8 := by omega
              go_wp2_with fail
              refine ⟨⟨j + 1, by omega, rfl, K1⟩, ?_⟩
              show 8 - ((j : Int) + 1).toNat < 8 - (j : Int).toNat
              omega
        · obtain rfl : j = 8 := by omega
          clear hj hlt
          go_wp2_with fail
          go_loopw [13] (fun i wr => ∃ (k : Nat), k ≤ 64 ∧ i = .int .i64 (k : Nat) ∧ Aside0 (KS w gx gb Ab cb wr)) (fun i _ => 64 - (intOf i).toNat)
          case atStart => exact ⟨0, by omega, rfl, K1⟩
          case round =>
            clear K1
            obtain ⟨k, hk, rfl, K1⟩ := hrel
            by_cases hkt : k < 64
            · have d1 : decide ((k : Int) < 64) = true := decide_eq_true (by omega)
              have b0 := eq_true (show (0 : Int) ≤ (k : Int) by omega)
              have b1 := eq_true (show (k : Int) < 64 by omega)
              have K0 := K1.out.2.1
              go_wp2_with fail
              have hcp := encoreref00_CopyBytes.calls Ab cb kb0 kb0 wr (by rw [kb_len]; exact K1.out.2.2.1) (by rw [kb_len]; exact HBL.out) (copy_eq kb0 (by rw [kb_len]; decide))
              rw [kb_len] at hcp
              refine hcp.mono ?_
              rintro en w2 ⟨v2, rfl, ho, hb2⟩
              obtain ⟨gd, cd, rfl, hgd, hgdl, -⟩ := Kd.R_form ho (by rw [kb_len]; decide)
              rw [kb_len] at ho ⊢
              obtain ⟨k8, f8⟩ := Kd.R_celln 0 ho (k : Int) (by omega) (by omega)
              obtain ⟨x, hx⟩ : ∃ x, x = bits BinOp.xor .u8 (rdOf 0 kb0 (k : Int)) 193 := ⟨_, rfl⟩
              have hput := Kd.R_putn ho (k : Int) x
              rw [Int.toNat_natCast] at k8 f8 hput
              obtain ⟨W3, hW3⟩ : ∃ W3, W3 = w2.setCell ⟨gd, k, none⟩ (.int .u8 x) := ⟨_, rfl⟩
              have hb3 : Below wr.heap.size wr W3 := by rw [hW3]; exact hb2.setCell (p := ⟨gd, k, none⟩) hgd _
              have K3 := Aside0.mk (K1.out.step hb3)
              have R3 := Aside0.mk (show Kd.R (Kd.int .u8) 5 W3 wr.heap.size (fun _ => True) (.slice (some ⟨gd, 0, none⟩) 64 cd) (kb0.set k x) by rw [hW3]; exact hput)
              have HY := Aside0.mk (show Bytes (kb0.set k x) ∧ (kb0.set k x).length = 64 from ⟨kb_bytes.set k (by rw [hx]; exact xor_ok k hkt), by rw [List.length_set]; exact kb_len⟩)
              have HW3 := Aside0.mk (show w2.setCell ⟨gd, k, none⟩ (.int .u8 (bits BinOp.xor .u8 (rdOf 0 kb0 (k : Int)) 193)) = W3 by rw [hW3, hx])
              clear K0 hput hW3 hx hb2 hb3 ho hgd hgdl hcp K1
              go_wp2_with fail
              rw [HW3.out]
              have hrd := Kd.R_reads' R3.out
              rw [HY.out.2] at hrd
              have hcd : k ≤ cd := by have := hrd.2.1; omega
              have HKT := Aside0.mk (show min k 64 = k ∧ k ≤ 64 ∧ k < 140737488355328 ∧ k + 1 ≤ 64 by omega)
              refine (reads_k (some ⟨gd, 0, none⟩) 64 cd _ W3 HY.out.2 hrd.2.2 hrd.2.1 HY.out.1 (by decide)).mono ?_
              rintro en w4 ⟨rfl, hb4⟩
              have K4 := Aside0.mk (K3.out.step hb4)
              have R4 := Aside0.mk (Kd.R_below R3.out hb4)
              have y1 := eq_true (show (k : Int) ≤ (cd : Int) by omega)
              have y2 := eq_true hcd
              clear hrd hb4 k8 f8 K3 R3 HW3
              go_wp2_with fail
              have hrd := Kd.R_reads' R4.out
              rw [HY.out.2] at hrd
              refine (reads_k (some ⟨gd, 0, none⟩) k cd ((kb0.set k x).take k) w4 (by rw [List.length_take, HY.out.2]; exact HKT.out.1) (by have h := Kd.C_take (xs := kb0.set k x) (m := k) (by rw [HY.out.2]; exact hrd.2.2) (by rw [HY.out.2]; exact HKT.out.2.1); rw [List.length_take, HY.out.2, HKT.out.1] at h; exact h) hcd (fun z hz => HY.out.1 z (List.mem_of_mem_take hz)) HKT.out.2.2.1).mono ?_
              rintro en w5 ⟨rfl, hb5⟩
              have K5 := Aside0.mk (K4.out.step hb5)
              clear hrd hb5 y1 y2 K4 R4 HY hcd
              go_wp2_with fail
              refine ⟨?_, ?_⟩
              · exact ⟨_, _, _, _, _, _, _, _, _, _, _, _, _, _, _, _, _, _, _, _, _, _, _, _, _, _, _, _, _, ⟨k + 1, HKT.out.2.2.2, rfl, K5⟩, rfl⟩
              · show 64 - ((k : Int) + 1).toNat < 64 - (k : Int).toNat
                have := HKT.out.2.2.2
                omega
            · obtain rfl : k = 64 := by omega
              clear hk hkt
              go_wp2_with fail
              go_loopw [15] (fun i wr => ∃ (k : Nat), k ≤ 256 ∧ i = .int .i64 (k : Nat) ∧ Aside0 (KS w gx gb Ab cb wr)) (fun i _ => 256 - (intOf i).toNat)
              case atStart => exact ⟨0, by omega, rfl, K1⟩
              case round =>
                clear K1
                obtain ⟨k, hk, rfl, K1⟩ := hrel
                by_cases hkt : k < 256
                · have d1 : decide ((k : Int) < 256) = true := decide_eq_true (by omega)
                  have K0 := K1.out.2.1
                  have HKT := Aside0.mk (show k + 1 ≤ 256 by omega)
                  go_wp2_with fail
                  have hcp := encoreref00_CopyBytes.calls Ab cb kb0 kb0 wr (by rw [kb_len]; exact K1.out.2.2.1) (by rw [kb_len]; exact HBL.out) (copy_eq kb0 (by rw [kb_len]; decide))
                  rw [kb_len] at hcp
                  refine hcp.mono ?_
                  rintro en w2 ⟨v2, rfl, ho, hb2⟩
                  obtain ⟨gd, cd, rfl, hgd, hgdl, -⟩ := Kd.R_form ho (by rw [kb_len]; decide)
                  rw [kb_len] at ho ⊢
                  obtain ⟨k8, f8⟩ := Kd.R_celln 0 ho 8 (by omega) (by omega)
                  have hput := Kd.R_putn ho 8 (k : Int)
                  rw [show Int.toNat 8 = 8 from rfl] at k8 f8 hput
                  obtain ⟨W3, hW3⟩ : ∃ W3, W3 = w2.setCell ⟨gd, 8, none⟩ (.int .u8 (k : Int)) := ⟨_, rfl⟩
                  have hb3 : Below wr.heap.size wr W3 := by rw [hW3]; exact hb2.setCell (p := ⟨gd, 8, none⟩) hgd _
                  have K3 := Aside0.mk (K1.out.step hb3)
                  have R3 := Aside0.mk (show Kd.R (Kd.int .u8) 5 W3 wr.heap.size (fun _ => True) (.slice (some ⟨gd, 0, none⟩) 64 cd) (kb0.set 8 (k : Int)) by rw [hW3]; exact hput)
                  have HY := Aside0.mk (show Bytes (kb0.set 8 (k : Int)) ∧ (kb0.set 8 (k : Int)).length = 64 from ⟨kb_bytes.set 8 (by omega), by rw [List.length_set]; exact kb_len⟩)
                  have HW3 := Aside0.mk (show w2.setCell ⟨gd, 8, none⟩ (.int .u8 (k : Int)) = W3 by rw [hW3])
                  clear K0 hput hW3 hb2 hb3 ho hgd hgdl hcp K1
                  go_wp2_with fail
                  rw [HW3.out]
                  have hrd := Kd.R_reads' R3.out
                  rw [HY.out.2] at hrd
                  refine (reads_k (some ⟨gd, 0, none⟩) 64 cd _ W3 HY.out.2 hrd.2.2 hrd.2.1 HY.out.1 (by decide)).mono ?_
                  rintro en w4 ⟨rfl, hb4⟩
                  have K4 := Aside0.mk (K3.out.step hb4)
                  clear hrd hb4 k8 f8 K3 R3 HW3 HY
                  go_wp2_with fail
                  refine ⟨?_, ?_⟩
                  · exact ⟨_, _, _, _, _, _, _, _, _, _, _, _, _, _, _, _, _, _, ⟨k + 1, HKT.out, rfl, K4⟩, rfl⟩
                  · show 256 - ((k : Int) + 1).toNat < 256 - (k : Int).toNat
                    have := HKT.out
                    omega
                · obtain rfl : k = 256 := by omega
                  clear hk hkt
                  go_wp2_with fail
                  refine (works_calls wr).mono ?_
                  rintro en w2 ⟨rfl, hb2⟩
                  have K2 := Aside0.mk (K1.out.step hb2)
                  clear hb2 K1
                  go_wp2_with fail
                  refine (reads_k none 0 0 [] w2 rfl (Kd.C_nil _ _) (Nat.le_refl _) (fun z hz => by cases hz) (by decide)).mono ?_
                  rintro en w3 ⟨rfl, hb3⟩
                  have K3 := Aside0.mk (K2.out.step hb3)
                  have hmk := make65
                  obtain ⟨W4, hW4⟩ : ∃ W4, W4 = w3.alloc (.cells (rowK .u8 z65) 5) := ⟨_, rfl⟩
                  have hb4 : Below w3.heap.size w3 W4 := by rw [hW4]; exact below_alloc (Below.refl _ _) _
                  have K4 := Aside0.mk (K3.out.step hb4)
                  have C4 := Aside0.mk (show Kd.C (Kd.int .u8) W4 (some ⟨w3.heap.size, 0, none⟩) z65.length z65 by rw [hW4]; exact new_C w3 z65 (by decide))
                  have HW4 := Aside0.mk hW4
                  clear hb3 hb4 K2 K3 hW4
                  go_wp2_with fail
                  clear hmk
                  rw [← HW4.out]
                  refine (reads_k (some ⟨w3.heap.size, 0, none⟩) 65 65 z65 W4 (by decide) (by have h := C4.out; rw [show z65.length = 65 by decide] at h; exact h) (Nat.le_refl _) (bytes_of (by decide +kernel)) (by decide)).mono ?_
                  rintro en w5 ⟨rfl, hb5⟩
                  have K5 := Aside0.mk (K4.out.step hb5)
                  clear hb5 K4 C4 HW4
                  go_wp2_with fail
                  refine (scans_k 0 0 none [] w5 (Kd.C_nil _ _) (by decide)).mono ?_
                  rintro en w6 ⟨rfl, hb6⟩
                  have K6 := Aside0.mk (K5.out.step hb6)
                  clear hb6 K5
                  go_wp2_with fail
                  go_ret
                  exact ⟨rfl, K6.out.2.2.2⟩
end Go.Proofs.Ytfkndnocjelhgaa.Ext
