/- strip.Cells: what its loop keeps; its cells as lists. No condition. -/
import Derived.Test.YtfkndnocjelhgaaChunk
import Derived.Test.YtfkndnocjelhgaaRound
namespace Go.Proofs.Ytfkndnocjelhgaa.Ext
open Go Go.RowKit Go.Proofs.YtfkndnocjelhgaaW.PrintWords Go.Proofs.YtfkndnocjelhgaaW.PrintLast Go.Proofs.YtfkndnocjelhgaaW.PrintMore Go.Proofs.Ytfkndnocjelhgaa.Base Go.Proofs.Ytfkndnocjelhgaa.Arr
set_option linter.unusedVariables false
set_option linter.unusedSimpArgs false
attribute [local go_sem] Oper.semAt_some

set_option maxRecDepth 100000 in
set_option maxHeartbeats 4000000 in
theorem Chunk_calls (w : World) (A : Option Addr) (m cap : Nat) :
    Calls Try.prog 31 #[.slice A m cap, .int .i64 47] w fun e w' => e = .returned (.func (.func 40) #[] #[.pointer (some ⟨w.heap.size, 0, none⟩), .pointer (some ⟨w.heap.size + 1, 0, none⟩)]) ∧ w' = (w.alloc (.cells #[.slice A m cap] 24)).alloc (.cells #[.int .i64 47] 3) := by
  go_enter Try.func31, Try.ntmps31
  go_wp2_with fail
  go_ret
  exact ⟨rfl, rfl⟩
def orF (first : Bool) (n : Nat) : Int := (if first then 128 else 0) + (n : Int)
def cellOf (g e : Nat) (first : Bool) (p : List Int) : List Int := edgeL (stampN g e) ++ (orF first p.length :: (p ++ List.replicate (47 - p.length) 0)) ++ (edgeL (stampN g e)).reverse
def pieceOf (b : List Int) (k : Nat) : List Int := (b.drop (47 * k)).take (pieceL b.length k)
def cellsOf (g e : Nat) (b : List Int) (ks : List { k : Nat // k < pieces b.length }) : List (List Int) := ks.mapIdx fun i k => cellOf g e (i == 0) (pieceOf b k.1)
theorem cellsOf_snoc (g e : Nat) (b : List Int) (ks : List { k : Nat // k < pieces b.length }) (k : { k : Nat // k < pieces b.length }) : cellsOf g e b (ks ++ [k]) = cellsOf g e b ks ++ [cellOf g e (ks.length == 0) (pieceOf b k.1)] := by
  unfold cellsOf
  rw [List.mapIdx_append]
  simp
theorem edgeL_len (v : Nat) : (edgeL v).length = 8 := by simp [edgeL]
theorem pieceL_le (m k : Nat) : pieceL m k ≤ 47 := by unfold pieceL; omega
theorem pieceOf_len (b : List Int) (k : Nat) : (pieceOf b k).length = pieceL b.length k := by
  unfold pieceOf pieceL
  rw [List.length_take, List.length_drop]
  omega
theorem cellOf_len (g e : Nat) (f : Bool) (p : List Int) (hp : p.length ≤ 47) : (cellOf g e f p).length = 64 := by
  unfold cellOf
  simp [edgeL_len]
  omega
def cell0 (E : List Int) (hd : Int) (p : List Int) : List Int := E ++ (hd :: (p ++ List.replicate (47 - p.length) 0)) ++ E.reverse
theorem cell0_get (E : List Int) (hd : Int) (p : List Int) (hE : E.length = 8) (hp : p.length ≤ 47) (k : Nat) : (cell0 E hd p)[k]? = if k < 8 then E[k]? else if k = 8 then some hd else if k < 56 then (p ++ List.replicate (47 - p.length) 0)[k - 9]? else E.reverse[k - 56]? := by
  unfold cell0
  by_cases h1 : k < 8
  · rw [if_pos h1, List.append_assoc, List.getElem?_append_left (by omega)]
  · rw [if_neg h1, List.append_assoc, List.getElem?_append_right (by omega), hE]
    by_cases h2 : k = 8
    · subst h2; simp
    · rw [if_neg h2, show k - 8 = (k - 9) + 1 by omega, List.cons_append, List.getElem?_cons_succ]
      by_cases h3 : k < 56
      · rw [if_pos h3, List.getElem?_append_left (by simp; omega)]
      · rw [if_neg h3, List.getElem?_append_right (by simp; omega)]
        congr 1
        simp
        omega
theorem rowK_get? (l : List Int) (k : Nat) : (rowK .u8 l)[k]? = (l[k]?).map (Value.int .u8) := by simp [rowK, nums]
theorem built_cell (E R : List Int) (hd : Int) (hE : E.length = 8) (hR : R = E.reverse) : Try.prog.built 75 [(0, .agg (rowK .u8 E)), (1, .int .u8 hd), (3, .agg (rowK .u8 R))] = some (rowK .u8 (cell0 E hd [])) := by
  have e : Try.prog.built 75 [(0, .agg (rowK .u8 E)), (1, .int .u8 hd), (3, .agg (rowK .u8 R))] = Instr.fill (#[(0, 8), (8, 1), (9, 47), (56, 8)][·]?) (rowK .u8 z64) [(0, .agg (rowK .u8 E)), (1, .int .u8 hd), (3, .agg (rowK .u8 R))] := by kernel_rfl
  have hz : (rowK .u8 z64).size = 64 := by rw [rowK_size, z64_len]
  rw [e]
  obtain ⟨c1, e1, s1, g1⟩ := fill_part (place := (#[(0, 8), (8, 1), (9, 47), (56, 8)][·]?)) (cells := rowK .u8 z64) (i := 0) (v := .agg (rowK .u8 E)) (rest := [(1, .int .u8 hd), (3, .agg (rowK .u8 R))]) (off := 0) (size := 8) rfl (by show (rowK .u8 E).size = 8; rw [rowK_size, hE]) (by rw [hz]; omega)
  obtain ⟨c2, e2, s2, g2⟩ := fill_part (place := (#[(0, 8), (8, 1), (9, 47), (56, 8)][·]?)) (cells := c1) (i := 1) (v := .int .u8 hd) (rest := [(3, .agg (rowK .u8 R))]) (off := 8) (size := 1) rfl rfl (by rw [s1, hz]; omega)
  obtain ⟨c3, e3, s3, g3⟩ := fill_part (place := (#[(0, 8), (8, 1), (9, 47), (56, 8)][·]?)) (cells := c2) (i := 3) (v := .agg (rowK .u8 R)) (rest := []) (off := 56) (size := 8) rfl (by show (rowK .u8 R).size = 8; rw [rowK_size, hR, List.length_reverse, hE]) (by rw [s2, s1, hz]; omega)
  rw [e1, e2, e3]
  show some c3 = _
  congr 1
  apply Array.ext_getElem?
  intro k
  rw [g3 k, g2 k, g1 k, rowK_get? (cell0 E hd []) k, cell0_get E hd [] hE (by simp)]
  show (if 56 ≤ k ∧ k < 56 + 8 then (rowK .u8 R)[k - 56]? else if 8 ≤ k ∧ k < 8 + 1 then #[Value.int .u8 hd][k - 8]? else if 0 ≤ k ∧ k < 0 + 8 then (rowK .u8 E)[k - 0]? else (rowK .u8 z64)[k]?) = _
  by_cases h1 : k < 8
  · rw [if_neg (by omega), if_neg (by omega), if_pos (by omega), if_pos h1, rowK_get?, Nat.sub_zero]
  · rw [if_neg h1]
    by_cases h2 : k = 8
    · subst h2; simp
    · rw [if_neg h2]
      by_cases h3 : k < 56
      · rw [if_neg (by omega), if_neg (by omega), if_neg (by omega), if_pos h3, rowK_get?]
        congr 1
        unfold z64
        rw [List.nil_append, List.getElem?_replicate, List.getElem?_replicate, if_pos (by omega), if_pos (by simp; omega)]
      · rw [if_neg h3]
        by_cases h4 : k < 64
        · rw [if_pos (by omega), rowK_get?, hR]
        · rw [if_neg (by omega), if_neg (by omega), if_neg (by omega), rowK_get?, List.getElem?_eq_none (by rw [z64_len]; omega), List.getElem?_eq_none (by rw [List.length_reverse, hE]; omega)]
/-- a piece is put into a cell whose data are noughts -/
theorem cell_splice (E : List Int) (hd : Int) (p : List Int) (hE : E.length = 8) (hp : p.length ≤ 47) : splice (cell0 E hd []) 9 p = cell0 E hd p := by
  have hl : (cell0 E hd []).length = 64 := by unfold cell0; simp [hE]
  apply List.ext_getElem?
  intro k
  rw [splice_get _ _ _ (by rw [hl]; omega), cell0_get E hd p hE hp, cell0_get E hd [] hE (by simp)]
  by_cases h1 : k < 8
  · rw [if_pos (by omega), if_pos h1, if_pos h1]
  · rw [if_neg h1, if_neg h1]
    by_cases h2 : k = 8
    · subst h2; simp
    · rw [if_neg h2, if_neg h2, if_neg (by omega)]
      by_cases h3 : k < 56
      · rw [if_pos h3, if_pos h3]
        by_cases h4 : k < 9 + p.length
        · rw [if_pos h4, List.getElem?_append_left (by omega)]
        · rw [if_neg h4, List.nil_append, List.getElem?_append_right (by omega), List.getElem?_replicate, List.getElem?_replicate, if_pos (by simp; omega), if_pos (by omega)]
      · rw [if_neg (by omega), if_neg h3, if_neg h3]
theorem or128 : ∀ n : Nat, n < 48 → bits .or .u8 128 (n : Int) = 128 + (n : Int) := by decide +kernel
theorem or0 : ∀ n : Nat, n < 48 → bits .or .u8 0 (n : Int) = (n : Int) := by decide +kernel
theorem or_flag (f : Bool) (n : Nat) (hn : n ≤ 47) : bits .or .u8 (if f then 128 else 0) (n : Int) = orF f n := by
  cases f
  · show bits .or .u8 0 (n : Int) = 0 + (n : Int)
    rw [or0 n (by omega), Int.zero_add]
  · exact or128 n (by omega)
theorem C_cut {w : World} {ad : Addr} {m : Nat} {b : List Int} (h : Kd.C (Kd.int .u8) w (some ad) m b) (q n : Nat) (hn : q + n ≤ m) : Kd.C (Kd.int .u8) w (some (ad.add q)) n ((b.drop q).take n) := by
  refine ⟨by rw [List.length_take, List.length_drop, h.1]; omega, by have := h.2.1; omega, fun h0 => ⟨_, rfl, fun j x hx => ⟨[.int .u8 x], rfl, rfl, fun i u hu => ?_⟩⟩⟩
  have hi : i = 0 := by
    cases i with
    | zero => rfl
    | succ i => simp at hu
  subst hi
  have hu' : Value.int .u8 x = u := by simpa using hu
  subst hu'
  rw [List.getElem?_take] at hx
  split at hx
  · rw [List.getElem?_drop] at hx
    have := C_cells h (by omega) (q + j) (.int .u8 x) (by unfold nums; rw [List.getElem?_map, hx]; rfl)
    show w.cell? ((ad.add q).add (j * 1 + 0)) = _
    rw [add_add, Nat.mul_one, Nat.add_zero]
    exact this
  · cases hx
/-- what lies between two rounds -/
structure CI (S O Fl base g e : Nat) (b : List Int) (w : World) (pre : List { k : Nat // k < pieces b.length }) (W : World) : Prop where
  out : ∃ v, HoldsRow W O 26 #[v] ∧ Kd.S (Kd.slice 5 (Kd.int .u8)) 24 W base (fun _ => True) v (cellsOf g e b pre)
  flag : HoldsRow W Fl 5 #[.int .u8 (if pre.length == 0 then 128 else 0)]
  st : HoldsRow W S 23 #[.int .i64 (g : Int), .int .i64 (e : Int)]
  bel : Below w.heap.size w W
  big : base ≤ W.heap.size
theorem row_turn {W W' : World} {row : Option Nat} {B b : Nat} {t : TypeId} {cs : Array Value} (h : HoldsRow W b t cs) (hg : W.grownBy W' row) (hr : ∀ r, row = some r → B ≤ r ∧ ∃ o : Obj, W.heap[r]? = some o ∧ o.isCells = false) : HoldsRow W' b t cs := by
  refine hr_move h (hg.block b h.lt (fun e => ?_))
  obtain ⟨_, o, ho, hc⟩ := hr b e.symm
  rw [show W.heap[b]? = _ from h] at ho
  cases ho
  cases hc
theorem R_turn {α : Type} {d : Kd α} {t base : Nat} {ok : Nat → Prop} {v : Value} {xs : List α} {W W' : World} {row : Option Nat} {B : Nat} (h : d.R t W base ok v xs) (hg : W.grownBy W' row) (hr : ∀ r, row = some r → B ≤ r ∧ ∃ o : Obj, W.heap[r]? = some o ∧ o.isCells = false) : d.R t W' base ok v xs := by
  refine Kd.R_mono (Kd.R_step (Kd.R_bound h) (fun k hk hlt => hg.block k hlt (fun e => ?_))) (fun k hk => hk.1)
  obtain ⟨_, _, _, q, _, cells, hc⟩ := hk
  obtain ⟨_, o, ho, hcc⟩ := hr k e.symm
  rw [hc] at ho
  cases ho
  cases hcc
theorem S_turn {α : Type} {d : Kd α} {t base : Nat} {ok : Nat → Prop} {v : Value} {xs : List α} {W W' : World} {row : Option Nat} {B : Nat} (h : Kd.S d t W base ok v xs) (hg : W.grownBy W' row) (hr : ∀ r, row = some r → B ≤ r ∧ ∃ o : Obj, W.heap[r]? = some o ∧ o.isCells = false) : Kd.S d t W' base ok v xs := by
  obtain ⟨f, h⟩ := h
  exact ⟨f, R_turn h hg hr⟩
theorem CI.own {S O Fl base g e : Nat} {b : List Int} {w : World} {B : Nat} (hB : w.heap.size ≤ B) : OwnFrom B (CI S O Fl base g e b w) := fun s W W' row hs hg hr => by
  obtain ⟨⟨v, h1, h2⟩, h3, h4, h5, h6⟩ := hs
  exact ⟨⟨v, row_turn h1 hg hr, S_turn h2 hg hr⟩, row_turn h3 hg hr, row_turn h4 hg hr, ownFrom_below (β := Unit) (Nat.le_refl _) hB () W W' row h5 hg hr, Nat.le_trans h6 hg.size⟩
theorem set_row_all {W : World} {b : Nat} {t : TypeId} {cs cs' : Array Value} (h : HoldsRow W b t cs) (hl : cs'.size = cs.size) : HoldsRow (W.setCells b 0 cs'.toList) b t cs' := by
  obtain ⟨cur, h1, h2, h3⟩ := setCells_row cs'.toList 0 W cs h (by simp; omega)
  have : cur = cs' := by
    apply Array.toList_inj.1
    rw [h3]
    simp [hl]
  rw [← this]
  rw [← this] at h1
  exact h1
theorem keeps_below {W W' : World} (h : Below W.heap.size W W') : KeepsOthers W W' := ⟨h.size, fun k o hk _ => (h.block k (Array.getElem?_eq_some_iff.1 hk).1).trans hk⟩
end Go.Proofs.Ytfkndnocjelhgaa.Ext
