import Derived.RangeFuncBox
import Derived.RangeFuncNested
import Derived.RangeFuncBound
import Derived.RangeFuncCalls
import Derived.RangeFuncLeaves
import Derived.WalkKit
import Derived.OwnWalkIn
import Derived.TacticsInMore
import Derived.LoopNIn
import Derived.LoopIn
import Derived.Test.YtfkndnocjelhgaaBytes
import Derived.OrdersIn
import Derived.Test.YtfkndnocjelhgaaWLast
/- slices.Chunk by 47: its iterator's contract. Condition: a row that lies somewhere. -/
namespace Go.Proofs.Ytfkndnocjelhgaa.Ext
open Go Go.RowKit Go.Proofs.YtfkndnocjelhgaaW.PrintWords Go.Proofs.YtfkndnocjelhgaaW.PrintLast Go.Proofs.YtfkndnocjelhgaaW.PrintMore Go.Proofs.Ytfkndnocjelhgaa.Base Go.Proofs.Ytfkndnocjelhgaa.Arr
set_option linter.unusedVariables false
set_option linter.unusedSimpArgs false
attribute [local go_sem] Oper.semAt_some

/-- how long piece k is -/
def pieceL (m k : Nat) : Nat := min 47 (m - 47 * k)
/-- how many pieces -/
def pieces (m : Nat) : Nat := (m + 46) / 47
/-- piece k, as a value -/
def pieceV (ad : Addr) (m k : Nat) : Value := .slice (some (ad.add (47 * k))) (pieceL m k) (pieceL m k)
/-- the two boxes lie as they lay -/
def KeepsTwo (B1 B2 : Nat) (W W' : World) : Prop := W'.heap[B1]? = W.heap[B1]? ∧ W'.heap[B2]? = W.heap[B2]?
def upto (m k : Nat) : List { k : Nat // k < pieces m } := (List.range (pieces m)).attach.take k |>.map fun x => ⟨x.1, List.mem_range.1 x.2⟩
theorem upto_succ (m k : Nat) (h : k < pieces m) : upto m (k + 1) = upto m k ++ [⟨k, h⟩] := by
  unfold upto
  rw [List.take_add_one, List.map_append]
  congr 1
  rw [List.getElem?_eq_getElem (by simpa using h)]
  simp
theorem upto_length (m k : Nat) (h : k ≤ pieces m) : (upto m k).length = k := by
  unfold upto
  simp [h]
set_option maxRecDepth 100000 in
set_option maxHeartbeats 4000000 in
theorem chunk1_in (n : Nat) (hn : 1 ≤ n) (l B1 B2 : Nat) (ad : Addr) (m cap : Nat) (h0m : 0 < m) (hmc : m ≤ cap) (hm : m ≤ 1000000000000) (J Jx : List { k : Nat // k < pieces m } → World → Prop)
    (hY : ∀ pre x W, J pre W → pre.length < pieces m → YieldAt Fence.wide (n - 1) Try.prog l #[pieceV ad m x.1] W fun e W' =>
      (e = .returned (.bool true) ∧ J (pre ++ [x]) W' ∧ KeepsTwo B1 B2 W W') ∨ (e = .returned (.bool false) ∧ Jx (pre ++ [x]) W'))
    (W : World) (h1 : HoldsRow W B1 24 #[.slice (some ad) m cap]) (h2 : HoldsRow W B2 3 #[.int .i64 47]) (hJd : ∀ pre W, J pre W → J pre W.drew) (h0 : J [] W) :
    CallsIn Fence.wide n Try.prog 40 #[.func (.yield l) #[] #[], .pointer (some ⟨B1, 0, none⟩), .pointer (some ⟨B2, 0, none⟩)] W fun e W' => (∃ v, e = .returned v) ∧
      ((∃ ys, ys = upto m (pieces m) ∧ J ys W') ∨ (∃ pre, (∃ k, k ≤ pieces m ∧ pre = upto m k) ∧ Jx pre W')) := by
  refine callsIn_of_wp Try.func40 rfl trivial ?_ rfl
  simp only [Try.ntmps40, List.size_toArray, List.length_cons, List.length_nil, Nat.reduceAdd, Nat.reduceSub, Array.replicate_succ, Array.replicate_zero, List.push_toArray, List.append_toArray, List.nil_append, List.cons_append]
  have HJD := Aside0.mk hJd
  clear hJd
  have H0M := Aside0.mk h0m
  have HMC := Aside0.mk hmc
  have HM := Aside0.mk hm
  have P1 := Aside0.mk h1
  have P2 := Aside0.mk h2
  clear h0m hmc hm h1 h2
  gi_wp2
  gi_loopw [4] (fun i wr => ∃ k q : Nat, k ≤ pieces m ∧ q = 47 * k ∧ i = .int .i64 (q : Nat) ∧ J (upto m k) wr ∧ Aside0 (HoldsRow wr B1 24 #[.slice (some ad) m cap]) ∧ Aside0 (HoldsRow wr B2 3 #[.int .i64 47]))
    (fun i _ => 47 * pieces m - (intOf i).toNat)
  case atStart => exact ⟨0, 0, Nat.zero_le _, rfl, rfl, h0, P1, P2⟩
  case round =>
    obtain ⟨k, q, hk, hq, rfl, hJs, Q1, Q2⟩ := hrel
    have c1 := Q1.out.cell (j := 0) rfl
    have c2 := Q2.out.cell (j := 0) rfl
    have HQ := Aside0.mk hq
    clear hq
    by_cases hlt : k < pieces m
    · obtain ⟨fn, tmps, assign, body, hy, hR⟩ := hY _ ⟨k, hlt⟩ wr.drew (HJD.out _ _ hJs) (by rw [upto_length m k hk]; exact hlt)
      obtain ⟨e, he⟩ : ∃ e, e = pieceL m k := ⟨_, rfl⟩
      have hqm : q < m := by have := HQ.out; unfold pieces at hlt; omega
      have hee : e = min 47 (m - q) := by rw [he, HQ.out]; rfl
      unfold pieceV at hy
      rw [← HQ.out, ← he] at hy
      have hmc := HMC.out
      have hmm := HM.out
      have d1 : decide ((q : Int) < (m : Int)) = true := decide_eq_true (by omega)
      have b0 := eq_true (show (0 : Int) ≤ (q : Int) by omega)
      have b1 := eq_true (show (q : Int) ≤ (m : Int) by omega)
      have b2 := eq_true (show (q : Int) ≤ (cap : Int) by omega)
      have b3 := eq_true (show q ≤ m by omega)
      have b4 := eq_true (show q ≤ cap by omega)
      have x0 : min (47 : Int) ((m - q : Nat) : Int) = (e : Int) := by rw [hee]; omega
      have he1 : 0 < e := by omega
      have he2 : q + e ≤ m := by omega
      clear hee he
      gi_wp2
      gi_region
      have x1 : ((q : Int) + (e : Int)).toNat = q + e := by omega
      have x4 : wrap64 ((q : Int) + (e : Int)) = (q : Int) + (e : Int) := by unfold wrap64; omega
      have x5 := eq_false (show ¬ cap = q by omega)
      have x6 := eq_true (show (0 : Int) ≤ (q : Int) + (e : Int) by omega)
      have x7 := eq_true (show q ≤ q + e by omega)
      have x8 := eq_false (show ¬ e = 0 by omega)
      have x9 := eq_true (show q + e ≤ cap by omega)
      have x2 := eq_true (show (q : Int) ≤ (q : Int) + (e : Int) by omega)
      have x3 := eq_true (show (q : Int) + (e : Int) ≤ (cap : Int) by omega)
      gi_wp2
      refine hR.mono ?_
      rintro e2 W3 (⟨rfl, hJ3, hk3⟩ | ⟨rfl, hJx3⟩)
      · have R1 := Aside0.mk (hr_move Q1.out hk3.1)
        have R2 := Aside0.mk (hr_move Q2.out hk3.2)
        have k2 := R2.out.cell (j := 0) rfl
        have y0 : wrap64 ((q : Int) + 47) = (q : Int) + 47 := by unfold wrap64; omega
        clear x1 x4 x5 x6 x7 x8 x9 x2 x3 c1 c2 hk3
        gi_wp2
        go_roundw
        case rel => exact ⟨k + 1, q + 47, by omega, by have := HQ.out; omega, rfl, by rw [upto_succ m k hlt]; exact hJ3, R1, R2⟩
        case measure =>
          show 47 * pieces m - ((q : Int) + 47).toNat < 47 * pieces m - (q : Int).toNat
          have := HQ.out
          omega
      · gi_wp2
        refine bodyPost_ret (results_none rfl _ _ _) rfl ?_
        exact ⟨⟨_, rfl⟩, .inr ⟨_, ⟨k + 1, by omega, (upto_succ m k hlt).symm⟩, hJx3⟩⟩
    · obtain rfl : k = pieces m := by omega
      have hqm : ¬ q < m := by have := HQ.out; unfold pieces at this; omega
      have d1 : decide ((q : Int) < (m : Int)) = false := decide_eq_false (by omega)
      gi_wp2
      go_end0
      exact ⟨⟨_, rfl⟩, .inl ⟨_, rfl, hJs⟩⟩
theorem drew_grown (W : World) : W.grownBy W.drew none := ⟨rfl, rfl, rfl, Nat.le_refl _, fun _ _ _ => rfl⟩
theorem chunk_stops (n : Nat) (hn : 1 ≤ n) (B1 B2 : Nat) (ad : Addr) (m cap : Nat) (h0m : 0 < m) (hmc : m ≤ cap) (hm : m ≤ 1000000000000) (w : World) (h1 : HoldsRow w B1 24 #[.slice (some ad) m cap]) (h2 : HoldsRow w B2 3 #[.int .i64 47]) :
    SeqStopsK Fence.wide n Try.prog 40 #[.pointer (some ⟨B1, 0, none⟩), .pointer (some ⟨B2, 0, none⟩)] (fun x : { k : Nat // k < pieces m } => #[pieceV ad m x.1]) (KeepsTwo B1 B2) (fun ys => ys = upto m (pieces m)) (fun _ => True) (pieces m) w :=
  fun l J Jx W hW hJ _ hY h0 => by
  refine (chunk1_in n hn l B1 B2 ad m cap h0m hmc hm J Jx hY W (h1.below hW h1.lt) (h2.below hW h2.lt) (fun pre W2 h => hJ _ _ _ none h (drew_grown W2) (fun r e => by cases e)) h0).mono ?_
  rintro e W' ⟨he, ⟨ys, rfl, hj⟩ | ⟨pre, _, hj⟩⟩
  · exact ⟨he, .inl ⟨_, rfl, hj⟩⟩
  · exact ⟨he, .inr ⟨_, trivial, hj⟩⟩
end Go.Proofs.Ytfkndnocjelhgaa.Ext

/- A region that draws its order, in a round of a range over a function: as outside of one (no defer; nothing lets out). No condition beyond these. -/
namespace Go.Proofs.Ytfkndnocjelhgaa.Round
open Go Go.Proofs.YtfkndnocjelhgaaW.PrintLast
set_option linter.unusedVariables false
section
variable {P : Program} {ops : Array Oper} {Q : Exit → Act → World → Prop} {md : Region.Mode}
theorem rows_round {n l : Nat} {row : String} {args : Array Value} {w : World} {R : Value → World → Prop} (h : Rows P row args w R) : RowsIn (Fence.wide.inRound l) n P row args w R := fun c cs _ =>
  let ⟨v, w', r, s⟩ := h c cs
  ⟨v, w', r, stepsIn_wide.2 s⟩
theorem oper_round {n l : Nat} {o : Oper} {a : Act} {w : World} {K : Act → World → Prop} (hd : ∀ c, o.op ≠ .defer c) (h : o.wp P a w K Q) : o.wpIn (Fence.wide.inRound l) n P a w K Q := by
  refine ⟨fun _ _ => trivial, ?_⟩
  rw [Oper.semAt_eq _ _ _ hd]
  unfold Oper.wp at h
  generalize (execOp a.eval o).run P w = r at *
  cases r with
  | ok x w' =>
    cases x <;> simp only [Oper.uponIn, Oper.upon] at h ⊢ <;>
      first
        | exact h
        | exact ⟨fun e => by simp [Fence.wide] at e, CallsIn.inRound l (callsIn_wide.2 h)⟩
        | exact ⟨fun e => by simp [Fence.wide] at e, rows_round h⟩
        | exact h.elim
  | halt x w' => cases x <;> simp only [Oper.uponIn, Oper.upon] at h ⊢ <;> exact h
theorem op_round {n l i : Nat} {a : Act} {w : World} {K K' : Act → World → Prop} (hd : ∀ o, ops[i]? = some o → ∀ c, o.op ≠ .defer c) (hQ : ¬ LetsOut Q) (hK : ∀ a w, K a w → K' a w) (h : wpOp P ops Q i K a w) : wpOpIn (Fence.wide.inRound l) n P ops Q i K' a w := by
  refine wpOpIn_mono hK ?_
  unfold wpOp at h
  unfold wpOpIn
  cases ho : ops[i]? with
  | none => rw [ho] at h; exact h
  | some o =>
    rw [ho] at h
    simp only at h ⊢
    split at h
    · rename_i hw
      rw [if_pos hw]
      rcases h with h | h
      · exact oper_round (hd o ho) h
      · exact absurd h.2 hQ
    · rename_i hw
      rw [if_neg hw]
      exact ⟨fun _ _ => trivial, h⟩
theorem any_round {n l : Nat} (hd : ∀ (i : Nat) o, ops[i]? = some o → ∀ c, o.op ≠ .defer c) (hQ : ¬ LetsOut Q) : ∀ (fuel : Nat) (li : Array Bool) (a : Act) (w : World), wpAny P md ops Q fuel li a w → wpAnyIn (Fence.wide.inRound l) n P md ops Q fuel li a w
  | 0, _, _, _, h => h
  | fuel + 1, li, a, w, h => ⟨h.1, fun i hi => op_round (hd i) hQ (fun a w h => any_round hd hQ fuel _ a w h) (h.2 i hi)⟩
theorem region_round {n l id : Nat} {a : Act} {w : World} (hd : ∀ (i : Nat) o, ops[i]? = some o → ∀ c, o.op ≠ .defer c) (hQ : ¬ LetsOut Q) (hm : P.follows .mixedOrders = true)
    (h : wpAny P .any ops Q ops.size (Array.replicate ops.size false) a { w with drawn := w.drawn + 1 }) : (Code.region id ops true).wpIn (Fence.wide.inRound l) n P Q a w :=
  wpIn_region_any hm (any_round hd hQ _ _ _ _ h)
def noDeferB (ops : Array Oper) : Bool := ops.all fun o => match o.op with | .defer _ => false | _ => true
theorem noDefer {ops : Array Oper} (h : noDeferB ops = true) (i : Nat) (o : Oper) (ho : ops[i]? = some o) : ∀ c, o.op ≠ .defer c := by
  intro c e
  obtain ⟨hi, rfl⟩ := Array.getElem?_eq_some_iff.1 ho
  have := Array.all_eq_true.1 h i hi
  rw [e] at this
  simp at this
variable {S : World → Prop} {ds : List Nat}
/-- as start_, in a round -/
theorem start_round {id n m r : Nat} {a : Act} {w : World} (l : Array Bool) (hm : P.follows .mixedOrders = true) (hn : ops.size = n) (hl : Array.replicate n false = l) (hS : S w.drew) (hd : noDeferB ops = true) (hQ : ¬ LetsOut Q)
    (h : S w.drew → wpAnyLast P .any ops Q S ds n l a w.drew) : (Code.region id ops true).wpIn (Fence.wide.inRound r) m P Q a w := by
  subst hn
  subst hl
  exact region_round (noDefer hd) hQ hm (wpAny_of_last _ _ _ _ (h hS))
end
section
variable {P : Program} {ops : Array Oper} {Q : Exit → Act → World → Prop} {o : Oper} {rest : List Oper} {a : Act} {w : World}
/-- one operation by its unfenced law, in a round -/
theorem wpListIn_of_step {l n : Nat} (hgd : o.guard = none) (hd : ∀ c, o.op ≠ .defer c) (h : ∀ K : Act → World → Prop, (∀ a w, wpListIn (Fence.wide.inRound l) n P ops Q rest a w → K a w) → if Region.wanted o (yielded ops a.tmps) = true then Oper.wp P o a w K Q else False) :
    wpListIn (Fence.wide.inRound l) n P ops Q (o :: rest) a w :=
  wpListIn_plain hgd fun K hK => oper_round hd (by have := h K hK; rwa [if_pos (by simp [Region.wanted, hgd])] at this)
end
end Go.Proofs.Ytfkndnocjelhgaa.Round

/- strip.Cells: what its loop keeps; its cells as lists. No condition. -/
namespace Go.Proofs.Ytfkndnocjelhgaa.Ext
open Go Go.RowKit Go.Proofs.YtfkndnocjelhgaaW.PrintWords Go.Proofs.YtfkndnocjelhgaaW.PrintLast Go.Proofs.YtfkndnocjelhgaaW.PrintMore Go.Proofs.Ytfkndnocjelhgaa.Base Go.Proofs.Ytfkndnocjelhgaa.Arr
set_option linter.unusedVariables false
set_option linter.unusedSimpArgs false
attribute [local go_sem] Oper.semAt_some

set_option maxRecDepth 100000 in
set_option maxHeartbeats 4000000 in
theorem Chunk_calls (w : World) (A : Option Addr) (m cap : Nat) :
    Calls Try.prog 31 #[.slice A m cap, .int .i64 47] w fun e w' => e = .returned (.func (.func 40) #[] #[.pointer (some ⟨w.heap.size, 0, none⟩), .pointer (some ⟨w.heap.size + 1, 0, none⟩)]) ∧ w' = (w.alloc (.cells #[.slice A m cap] 24)).alloc (.cells #[.int .i64 47] 3) := by
  go_enter Try.func31, Try.ntmps31
  go_wp2_with fail
  go_ret
  exact ⟨rfl, rfl⟩
def orF (first : Bool) (n : Nat) : Int := (if first then 128 else 0) + (n : Int)
def cellOf (g e : Nat) (first : Bool) (p : List Int) : List Int := edgeL (stampN g e) ++ (orF first p.length :: (p ++ List.replicate (47 - p.length) 0)) ++ (edgeL (stampN g e)).reverse
def pieceOf (b : List Int) (k : Nat) : List Int := (b.drop (47 * k)).take (pieceL b.length k)
def cellsOf (g e : Nat) (b : List Int) (ks : List { k : Nat // k < pieces b.length }) : List (List Int) := ks.mapIdx fun i k => cellOf g e (i == 0) (pieceOf b k.1)
theorem cellsOf_snoc (g e : Nat) (b : List Int) (ks : List { k : Nat // k < pieces b.length }) (k : { k : Nat // k < pieces b.length }) : cellsOf g e b (ks ++ [k]) = cellsOf g e b ks ++ [cellOf g e (ks.length == 0) (pieceOf b k.1)] := by
  unfold cellsOf
  rw [List.mapIdx_append]
  simp
theorem edgeL_len (v : Nat) : (edgeL v).length = 8 := by simp [edgeL]
theorem pieceL_le (m k : Nat) : pieceL m k ≤ 47 := by unfold pieceL; omega
theorem pieceOf_len (b : List Int) (k : Nat) : (pieceOf b k).length = pieceL b.length k := by
  unfold pieceOf pieceL
  rw [List.length_take, List.length_drop]
  omega
theorem cellOf_len (g e : Nat) (f : Bool) (p : List Int) (hp : p.length ≤ 47) : (cellOf g e f p).length = 64 := by
  unfold cellOf
  simp [edgeL_len]
  omega
def cell0 (E : List Int) (hd : Int) (p : List Int) : List Int := E ++ (hd :: (p ++ List.replicate (47 - p.length) 0)) ++ E.reverse
theorem cell0_get (E : List Int) (hd : Int) (p : List Int) (hE : E.length = 8) (hp : p.length ≤ 47) (k : Nat) : (cell0 E hd p)[k]? = if k < 8 then E[k]? else if k = 8 then some hd else if k < 56 then (p ++ List.replicate (47 - p.length) 0)[k - 9]? else E.reverse[k - 56]? := by
  unfold cell0
  by_cases h1 : k < 8
  · rw [if_pos h1, List.append_assoc, List.getElem?_append_left (by omega)]
  · rw [if_neg h1, List.append_assoc, List.getElem?_append_right (by omega), hE]
    by_cases h2 : k = 8
    · subst h2; simp
    · rw [if_neg h2, show k - 8 = (k - 9) + 1 by omega, List.cons_append, List.getElem?_cons_succ]
      by_cases h3 : k < 56
      · rw [if_pos h3, List.getElem?_append_left (by simp; omega)]
      · rw [if_neg h3, List.getElem?_append_right (by simp; omega)]
        congr 1
        simp
        omega
theorem rowK_get? (l : List Int) (k : Nat) : (rowK .u8 l)[k]? = (l[k]?).map (Value.int .u8) := by simp [rowK, nums]
theorem built_cell (E R : List Int) (hd : Int) (hE : E.length = 8) (hR : R = E.reverse) : Try.prog.built 75 [(0, .agg (rowK .u8 E)), (1, .int .u8 hd), (3, .agg (rowK .u8 R))] = some (rowK .u8 (cell0 E hd [])) := by
  have e : Try.prog.built 75 [(0, .agg (rowK .u8 E)), (1, .int .u8 hd), (3, .agg (rowK .u8 R))] = Instr.fill (#[(0, 8), (8, 1), (9, 47), (56, 8)][·]?) (rowK .u8 z64) [(0, .agg (rowK .u8 E)), (1, .int .u8 hd), (3, .agg (rowK .u8 R))] := by kernel_rfl
  have hz : (rowK .u8 z64).size = 64 := by rw [rowK_size, z64_len]
  rw [e]
  obtain ⟨c1, e1, s1, g1⟩ := fill_part (place := (#[(0, 8), (8, 1), (9, 47), (56, 8)][·]?)) (cells := rowK .u8 z64) (i := 0) (v := .agg (rowK .u8 E)) (rest := [(1, .int .u8 hd), (3, .agg (rowK .u8 R))]) (off := 0) (size := 8) rfl (by show (rowK .u8 E).size = 8; rw [rowK_size, hE]) (by rw [hz]; omega)
  obtain ⟨c2, e2, s2, g2⟩ := fill_part (place := (#[(0, 8), (8, 1), (9, 47), (56, 8)][·]?)) (cells := c1) (i := 1) (v := .int .u8 hd) (rest := [(3, .agg (rowK .u8 R))]) (off := 8) (size := 1) rfl rfl (by rw [s1, hz]; omega)
  obtain ⟨c3, e3, s3, g3⟩ := fill_part (place := (#[(0, 8), (8, 1), (9, 47), (56, 8)][·]?)) (cells := c2) (i := 3) (v := .agg (rowK .u8 R)) (rest := []) (off := 56) (size := 8) rfl (by show (rowK .u8 R).size = 8; rw [rowK_size, hR, List.length_reverse, hE]) (by rw [s2, s1, hz]; omega)
  rw [e1, e2, e3]
  show some c3 = _
  congr 1
  apply Array.ext_getElem?
  intro k
  rw [g3 k, g2 k, g1 k, rowK_get? (cell0 E hd []) k, cell0_get E hd [] hE (by simp)]
  show (if 56 ≤ k ∧ k < 56 + 8 then (rowK .u8 R)[k - 56]? else if 8 ≤ k ∧ k < 8 + 1 then #[Value.int .u8 hd][k - 8]? else if 0 ≤ k ∧ k < 0 + 8 then (rowK .u8 E)[k - 0]? else (rowK .u8 z64)[k]?) = _
  by_cases h1 : k < 8
  · rw [if_neg (by omega), if_neg (by omega), if_pos (by omega), if_pos h1, rowK_get?, Nat.sub_zero]
  · rw [if_neg h1]
    by_cases h2 : k = 8
    · subst h2; simp
    · rw [if_neg h2]
      by_cases h3 : k < 56
      · rw [if_neg (by omega), if_neg (by omega), if_neg (by omega), if_pos h3, rowK_get?]
        congr 1
        unfold z64
        rw [List.nil_append, List.getElem?_replicate, List.getElem?_replicate, if_pos (by omega), if_pos (by simp; omega)]
      · rw [if_neg h3]
        by_cases h4 : k < 64
        · rw [if_pos (by omega), rowK_get?, hR]
        · rw [if_neg (by omega), if_neg (by omega), if_neg (by omega), rowK_get?, List.getElem?_eq_none (by rw [z64_len]; omega), List.getElem?_eq_none (by rw [List.length_reverse, hE]; omega)]
/-- a piece is put into a cell whose data are noughts -/
theorem cell_splice (E : List Int) (hd : Int) (p : List Int) (hE : E.length = 8) (hp : p.length ≤ 47) : splice (cell0 E hd []) 9 p = cell0 E hd p := by
  have hl : (cell0 E hd []).length = 64 := by unfold cell0; simp [hE]
  apply List.ext_getElem?
  intro k
  rw [splice_get _ _ _ (by rw [hl]; omega), cell0_get E hd p hE hp, cell0_get E hd [] hE (by simp)]
  by_cases h1 : k < 8
  · rw [if_pos (by omega), if_pos h1, if_pos h1]
  · rw [if_neg h1, if_neg h1]
    by_cases h2 : k = 8
    · subst h2; simp
    · rw [if_neg h2, if_neg h2, if_neg (by omega)]
      by_cases h3 : k < 56
      · rw [if_pos h3, if_pos h3]
        by_cases h4 : k < 9 + p.length
        · rw [if_pos h4, List.getElem?_append_left (by omega)]
        · rw [if_neg h4, List.nil_append, List.getElem?_append_right (by omega), List.getElem?_replicate, List.getElem?_replicate, if_pos (by simp; omega), if_pos (by omega)]
      · rw [if_neg (by omega), if_neg h3, if_neg h3]
theorem or128 : ∀ n : Nat, n < 48 → bits .or .u8 128 (n : Int) = 128 + (n : Int) := by decide +kernel
theorem or0 : ∀ n : Nat, n < 48 → bits .or .u8 0 (n : Int) = (n : Int) := by decide +kernel
theorem or_flag (f : Bool) (n : Nat) (hn : n ≤ 47) : bits .or .u8 (if f then 128 else 0) (n : Int) = orF f n := by
  cases f
  · show bits .or .u8 0 (n : Int) = 0 + (n : Int)
    rw [or0 n (by omega), Int.zero_add]
  · exact or128 n (by omega)
theorem C_cut {w : World} {ad : Addr} {m : Nat} {b : List Int} (h : Kd.C (Kd.int .u8) w (some ad) m b) (q n : Nat) (hn : q + n ≤ m) : Kd.C (Kd.int .u8) w (some (ad.add q)) n ((b.drop q).take n) := by
  refine ⟨by rw [List.length_take, List.length_drop, h.1]; omega, by have := h.2.1; omega, fun h0 => ⟨_, rfl, fun j x hx => ⟨[.int .u8 x], rfl, rfl, fun i u hu => ?_⟩⟩⟩
  have hi : i = 0 := by
    cases i with
    | zero => rfl
    | succ i => simp at hu
  subst hi
  have hu' : Value.int .u8 x = u := by simpa using hu
  subst hu'
  rw [List.getElem?_take] at hx
  split at hx
  · rw [List.getElem?_drop] at hx
    have := C_cells h (by omega) (q + j) (.int .u8 x) (by unfold nums; rw [List.getElem?_map, hx]; rfl)
    show w.cell? ((ad.add q).add (j * 1 + 0)) = _
    rw [add_add, Nat.mul_one, Nat.add_zero]
    exact this
  · cases hx
/-- what lies between two rounds -/
structure CI (S O Fl base g e : Nat) (b : List Int) (w : World) (pre : List { k : Nat // k < pieces b.length }) (W : World) : Prop where
  out : ∃ v, HoldsRow W O 26 #[v] ∧ Kd.S (Kd.slice 5 (Kd.int .u8)) 24 W base (fun _ => True) v (cellsOf g e b pre)
  flag : HoldsRow W Fl 5 #[.int .u8 (if pre.length == 0 then 128 else 0)]
  st : HoldsRow W S 23 #[.int .i64 (g : Int), .int .i64 (e : Int)]
  bel : Below w.heap.size w W
  big : base ≤ W.heap.size
theorem row_turn {W W' : World} {row : Option Nat} {B b : Nat} {t : TypeId} {cs : Array Value} (h : HoldsRow W b t cs) (hg : W.grownBy W' row) (hr : ∀ r, row = some r → B ≤ r ∧ ∃ o : Obj, W.heap[r]? = some o ∧ o.isCells = false) : HoldsRow W' b t cs := by
  refine hr_move h (hg.block b h.lt (fun e => ?_))
  obtain ⟨_, o, ho, hc⟩ := hr b e.symm
  rw [show W.heap[b]? = _ from h] at ho
  cases ho
  cases hc
theorem R_turn {α : Type} {d : Kd α} {t base : Nat} {ok : Nat → Prop} {v : Value} {xs : List α} {W W' : World} {row : Option Nat} {B : Nat} (h : d.R t W base ok v xs) (hg : W.grownBy W' row) (hr : ∀ r, row = some r → B ≤ r ∧ ∃ o : Obj, W.heap[r]? = some o ∧ o.isCells = false) : d.R t W' base ok v xs := by
  refine Kd.R_mono (Kd.R_step (Kd.R_bound h) (fun k hk hlt => hg.block k hlt (fun e => ?_))) (fun k hk => hk.1)
  obtain ⟨_, _, _, q, _, cells, hc⟩ := hk
  obtain ⟨_, o, ho, hcc⟩ := hr k e.symm
  rw [hc] at ho
  cases ho
  cases hcc
theorem S_turn {α : Type} {d : Kd α} {t base : Nat} {ok : Nat → Prop} {v : Value} {xs : List α} {W W' : World} {row : Option Nat} {B : Nat} (h : Kd.S d t W base ok v xs) (hg : W.grownBy W' row) (hr : ∀ r, row = some r → B ≤ r ∧ ∃ o : Obj, W.heap[r]? = some o ∧ o.isCells = false) : Kd.S d t W' base ok v xs := by
  obtain ⟨f, h⟩ := h
  exact ⟨f, R_turn h hg hr⟩
theorem CI.own {S O Fl base g e : Nat} {b : List Int} {w : World} {B : Nat} (hB : w.heap.size ≤ B) : OwnFrom B (CI S O Fl base g e b w) := fun s W W' row hs hg hr => by
  obtain ⟨⟨v, h1, h2⟩, h3, h4, h5, h6⟩ := hs
  exact ⟨⟨v, row_turn h1 hg hr, S_turn h2 hg hr⟩, row_turn h3 hg hr, row_turn h4 hg hr, ownFrom_below (β := Unit) (Nat.le_refl _) hB () W W' row h5 hg hr, Nat.le_trans h6 hg.size⟩
theorem set_row_all {W : World} {b : Nat} {t : TypeId} {cs cs' : Array Value} (h : HoldsRow W b t cs) (hl : cs'.size = cs.size) : HoldsRow (W.setCells b 0 cs'.toList) b t cs' := by
  obtain ⟨cur, h1, h2, h3⟩ := setCells_row cs'.toList 0 W cs h (by simp; omega)
  have : cur = cs' := by
    apply Array.toList_inj.1
    rw [h3]
    simp [hl]
  rw [← this]
  rw [← this] at h1
  exact h1
theorem keeps_below {W W' : World} (h : Below W.heap.size W W') : KeepsOthers W W' := ⟨h.size, fun k o hk _ => (h.block k (Array.getElem?_eq_some_iff.1 hk).1).trans hk⟩
end Go.Proofs.Ytfkndnocjelhgaa.Ext

/- strip.Cells, walked. Condition: a row of a million million bytes at most. -/
namespace Go.Proofs.Ytfkndnocjelhgaa.Ext
open Go Go.RowKit Go.Proofs.YtfkndnocjelhgaaW.PrintWords Go.Proofs.YtfkndnocjelhgaaW.PrintLast Go.Proofs.YtfkndnocjelhgaaW.PrintMore Go.Proofs.Ytfkndnocjelhgaa.Base Go.Proofs.Ytfkndnocjelhgaa.Arr
set_option linter.unusedVariables false
set_option linter.unusedSimpArgs false
attribute [local go_sem] Oper.semAt_some

theorem new_cell {B : Nat} {W cur : World} (hbc : Below B W cur) (hB : B ≤ W.heap.size) : HoldsRow (cur.alloc (.cells (rowK .u8 z64) 75)) cur.heap.size 75 (rowK .u8 z64) ∧ W.heap.size ≤ cur.heap.size ∧ Below B W (cur.alloc (.cells (rowK .u8 z64) 75)) :=
  ⟨HoldsRow.new _ _ _, hbc.size, hbc.trans ((below_alloc (Below.refl _ _) _).mono (Nat.le_trans hB hbc.size))⟩
theorem keep_cell {B s : Nat} {W cur wc : World} {cs : Array Value} (h : HoldsRow cur s 75 cs ∧ W.heap.size ≤ s ∧ Below B W cur) (hB : B ≤ W.heap.size) (hb : Below cur.heap.size cur wc) : HoldsRow wc s 75 cs ∧ W.heap.size ≤ s ∧ Below B W wc :=
  ⟨h.1.below hb h.1.lt, h.2.1, h.2.2.trans (hb.mono (Nat.le_trans hB h.2.2.size))⟩
theorem cells_few (g e : Nat) (b : List Int) (pre : List { k : Nat // k < pieces b.length }) (h1 : pre.length < pieces b.length) (h2 : b.length ≤ 1000000000000) : ((cellsOf g e b pre).length + 1) * 24 ≤ 140737488355328 := by
  have h3 : (cellsOf g e b pre).length = pre.length := by unfold cellsOf; rw [List.length_mapIdx]
  have h4 : pieces b.length ≤ 30000000000 := by unfold pieces; omega
  omega
set_option maxRecDepth 100000 in
set_option maxHeartbeats 4000000 in
theorem Cells_calls (w : World) (ad : Addr) (cap : Nat) (b : List Int) (g e : Nat) (hr : Kd.C (Kd.int .u8) w (some ad) b.length b) (h0m : 0 < b.length) (hmc : b.length ≤ cap) (hm : b.length ≤ 1000000000000) (hg0 : 0 < g) (hg : g < 4294967296) (he : e < 4294967296) :
    Calls Try.prog 12 #[.agg #[.int .i64 (g : Int), .int .i64 (e : Int)], .slice (some ad) b.length cap] w fun en w' => ∃ v, en = .returned (.tuple #[v, .int .i64 0]) ∧ Kd.S (Kd.slice 5 (Kd.int .u8)) 24 w' w.heap.size (fun _ => True) v (cellsOf g e b (upto b.length (pieces b.length))) ∧ Below w.heap.size w w' := by
  refine (callsIn_wide (n := 9)).1 ?_
  refine callsIn_of_wp_marks Try.func12 rfl trivial ?_ rfl
  simp only [Try.ntmps12, List.size_toArray, List.length_cons, List.length_nil, Nat.reduceAdd, Nat.reduceSub, Array.replicate_succ, Array.replicate_zero, List.push_toArray, List.append_toArray, List.nil_append, List.cons_append]
  have HR := Aside0.mk hr
  have HM := Aside0.mk (And.intro h0m (And.intro hmc hm))
  have HG := Aside0.mk (And.intro hg0 (And.intro hg he))
  have HLB := Aside0.mk hr.1
  have d1 : decide ((g : Int) < 1) = false := decide_eq_false (by omega)
  have d2 : decide ((4294967295 : Int) < (g : Int)) = false := decide_eq_false (by omega)
  have d3 : decide ((e : Int) < 0) = false := decide_eq_false (by omega)
  have d4 : decide ((4294967295 : Int) < (e : Int)) = false := decide_eq_false (by omega)
  have d5 : decide ((b.length : Int) = 0) = false := decide_eq_false (by omega)
  have d6 := eq_false (show ¬ b.length = 0 by omega)
  have d7 : ((b.length : Int) == 0) = false := by rw [beq_eq_false_iff_ne]; omega
  have d8 := eq_false (show ¬ b = [] by intro h; rw [h] at h0m; exact absurd h0m (by decide))
  clear hr h0m hmc hm hg0 hg he
  gi_wp2_with (refine ⟨trivial, ?_⟩; gi_at_call 31; refine (callsIn_wide.2 (Chunk_calls _ (some ad) b.length cap)).mono ?_; rintro e3 w3 ⟨rfl, rfl⟩)
  clear d1 d2 d3 d4 d5 d6 d7 d8
  obtain ⟨W0, hW0⟩ : ∃ W0, W0 = (((((w.alloc (.cells #[.int .i64 (g : Int), .int .i64 (e : Int)] 23)).alloc (.cells #[.slice none 0 0] 26)).alloc (.cells #[.int .u8 128] 5)).alloc (.cells #[.slice (some ad) b.length cap] 24)).alloc (.cells #[.int .i64 47] 3)) := ⟨_, rfl⟩
  rw [← hW0]
  have hsz : W0.heap.size = w.heap.size + 1 + 1 + 1 + 1 + 1 := by rw [hW0]; simp
  have hB0 : Below w.heap.size w W0 := by rw [hW0]; exact below_alloc (below_alloc (below_alloc (below_alloc (below_alloc (Below.refl _ _) _) _) _) _) _
  have hS0 : HoldsRow W0 w.heap.size 23 #[.int .i64 (g : Int), .int .i64 (e : Int)] := by
    rw [hW0]; exact ((((HoldsRow.new w _ _).alloc _).alloc _).alloc _).alloc _
  have hO0 : HoldsRow W0 (w.heap.size + 1) 26 #[.slice none 0 0] := by
    have := ((((HoldsRow.new (w.alloc (.cells #[.int .i64 (g : Int), .int .i64 (e : Int)] 23)) 26 #[.slice none 0 0]).alloc (.cells #[.int .u8 128] 5)).alloc (.cells #[.slice (some ad) b.length cap] 24)).alloc (.cells #[.int .i64 47] 3))
    rw [alloc_size] at this
    rw [hW0]; exact this
  have hF0 : HoldsRow W0 (w.heap.size + 1 + 1) 5 #[.int .u8 128] := by
    have := (((HoldsRow.new ((w.alloc (.cells #[.int .i64 (g : Int), .int .i64 (e : Int)] 23)).alloc (.cells #[.slice none 0 0] 26)) 5 #[.int .u8 128]).alloc (.cells #[.slice (some ad) b.length cap] 24)).alloc (.cells #[.int .i64 47] 3))
    rw [alloc_size, alloc_size] at this
    rw [hW0]; exact this
  have hB10 : HoldsRow W0 (w.heap.size + 1 + 1 + 1) 24 #[.slice (some ad) b.length cap] := by
    have := ((HoldsRow.new (((w.alloc (.cells #[.int .i64 (g : Int), .int .i64 (e : Int)] 23)).alloc (.cells #[.slice none 0 0] 26)).alloc (.cells #[.int .u8 128] 5)) 24 #[.slice (some ad) b.length cap]).alloc (.cells #[.int .i64 47] 3))
    rw [alloc_size, alloc_size, alloc_size] at this
    rw [hW0]; exact this
  have hB20 : HoldsRow W0 (w.heap.size + 1 + 1 + 1 + 1) 3 #[.int .i64 47] := by
    have := (HoldsRow.new ((((w.alloc (.cells #[.int .i64 (g : Int), .int .i64 (e : Int)] 23)).alloc (.cells #[.slice none 0 0] 26)).alloc (.cells #[.int .u8 128] 5)).alloc (.cells #[.slice (some ad) b.length cap] 24)) 3 #[.int .i64 47])
    rw [alloc_size, alloc_size, alloc_size, alloc_size] at this
    rw [hW0]; exact this
  obtain ⟨S, hS⟩ : ∃ S, S = w.heap.size := ⟨_, rfl⟩
  rw [← hS] at hsz hS0 hO0 hF0 hB10 hB20 ⊢
  obtain ⟨O, hO⟩ : ∃ O, O = S + 1 := ⟨_, rfl⟩
  rw [← hO] at hsz hO0 hF0 hB10 hB20 ⊢
  obtain ⟨Fl, hFl⟩ : ∃ Fl, Fl = O + 1 := ⟨_, rfl⟩
  rw [← hFl] at hsz hF0 hB10 hB20 ⊢
  obtain ⟨B1, hB1⟩ : ∃ B1, B1 = Fl + 1 := ⟨_, rfl⟩
  rw [← hB1] at hsz hB10 hB20 ⊢
  obtain ⟨B2, hB2⟩ : ∃ B2, B2 = B1 + 1 := ⟨_, rfl⟩
  rw [← hB2] at hsz hB20 ⊢
  clear hW0
  have HSS := Aside0.mk (show S = w.heap.size ∧ O = S + 1 ∧ Fl = O + 1 ∧ B1 = Fl + 1 ∧ B2 = B1 + 1 ∧ W0.heap.size = B2 + 1 from ⟨hS, hO, hFl, hB1, hB2, hsz⟩)
  have hle : w.heap.size ≤ W0.heap.size := by omega
  have hl1 : B1 < W0.heap.size := by omega
  have hl2 : B2 < W0.heap.size := by omega
  clear hS hO hFl hB1 hB2 hsz
  refine wpIn_rangeFunc_ownF (F := Fence.wide) rfl (show 1 ≤ 9 by decide) (gf := 40) (lb := #[.pointer (some ⟨B1, 0, none⟩), .pointer (some ⟨B2, 0, none⟩)]) rfl trivial (enters_of Try.func40 (by kernel_rfl) rfl)
    (chunk_stops (9 - 1) (by decide) B1 B2 ad b.length cap HM.out.1 HM.out.2.1 HM.out.2.2 W0 hB10 hB20) (fun h k => ⟨k.1.trans h.1, k.2.trans h.2⟩) (fun W l o o' hl h _ _ => ⟨World.putObj_heap_other (by omega), World.putObj_heap_other (by omega)⟩) (Below.refl _ _) (fun _ => rfl)
    (fun pre W => CI S O Fl W0.heap.size g e b w pre W) (fun _ _ _ => False) (CI.own hle) (fun _ _ _ _ _ hs _ _ => hs) ⟨⟨.slice none 0 0, hO0, Kd.S_nil _ _ _ _ _⟩, hF0, hS0, hB0, Nat.le_refl _⟩ (fun x => Act.mk #[Value.agg #[Value.int IntKind.i64 ↑g, Value.int IntKind.i64 ↑e], Value.slice (some ad) b.length cap,
          Value.pointer (some { block := S, off := 0 }), undef, Value.slice none 0 0, Value.int IntKind.i64 0,
          Value.pointer (some { block := O, off := 0 }),
          Value.pointer (some { block := Fl, off := 0 }), pieceV ad b.length x.1, undef,
          Value.pointer (some { block := S, off := 0 }), Value.int IntKind.i64 ↑g, Value.bool false,
          Value.bool false, Value.pointer (some { block := S, off := 0 }), Value.int IntKind.i64 ↑g,
          Value.bool false, Value.bool false, Value.bool false, Value.pointer (some { block := S, off := 1 }),
          Value.int IntKind.i64 ↑e, Value.bool false, Value.bool false, Value.bool false,
          Value.pointer (some { block := S, off := 1 }), Value.int IntKind.i64 ↑e, Value.bool false,
          Value.bool false, Value.slice (some ad) b.length cap, Value.int IntKind.i64 ↑b.length, Value.bool false,
          Value.slice (some ad) b.length cap,
          Value.func (Fn.func 40) #[]
            #[Value.pointer (some { block := B1, off := 0 }),
              Value.pointer (some { block := B2, off := 0 })],
          pieceV ad b.length x.1, undef, undef, undef, undef, undef, undef, undef, undef, undef, undef, undef, undef, undef, undef,
          undef, undef, undef, undef, undef, undef, undef] []) ?assign ?body ?done ?stop
  case assign =>
    intro l x W K hK
    gi_wp2
    exact hK
  case body =>
    rintro l pre x W hI hpre
    obtain ⟨⟨v, h1, h2⟩, h3, h4, h5, hbs⟩ := hI
    obtain ⟨A9, c9, rfl⟩ := Kd.S_slice h2
    have H1 := Aside0.mk h1
    have H2 := Aside0.mk h2
    have H3 := Aside0.mk h3
    have H4 := Aside0.mk h4
    have H5 := Aside0.mk h5
    obtain ⟨fl, hfl⟩ : ∃ fl : Int, fl = if (pre.length == 0) = true then 128 else 0 := ⟨_, rfl⟩
    rw [← hfl] at h3
    have K0 : W.drew.cell? ⟨S, 0, none⟩ = some (.int .i64 (g : Int)) := h4.cell rfl
    have K1 : W.drew.cell? ⟨S, 1, none⟩ = some (.int .i64 (e : Int)) := h4.cell rfl
    have K2 : W.drew.cell? ⟨Fl, 0, none⟩ = some (.int .u8 fl) := h3.cell rfl
    obtain ⟨p, hp⟩ : ∃ p, p = pieceOf b x.1 := ⟨_, rfl⟩
    obtain ⟨n, hn⟩ : ∃ n, n = pieceL b.length x.1 := ⟨_, rfl⟩
    have hn47 : n ≤ 47 := by rw [hn]; exact pieceL_le _ _
    have hpl : p.length = n := by rw [hp, hn]; exact pieceOf_len _ _
    obtain ⟨hd, hhd⟩ : ∃ hd, hd = orF (pre.length == 0) n := ⟨_, rfl⟩
    have hor : bits .or .u8 fl (n : Int) = hd := by rw [hfl, hhd]; exact or_flag _ n hn47
    have hcv : IntKind.u8.wrap (n : Int) = (n : Int) := by
      simp only [IntKind.wrap]
      simp [IntKind.bits, IntKind.signed]
      omega
    obtain ⟨E, hE⟩ : ∃ E, E = edgeL (stampN g e) := ⟨_, rfl⟩
    have hEl : E.length = 8 := by rw [hE]; exact edgeL_len _
    have HEL := Aside0.mk hEl
    have HEC := Aside0.mk (show ∀ W1, Calls Try.prog 32 #[.agg #[.int .i64 (g : Int), .int .i64 (e : Int)]] W1 fun en w' => en = .returned (.agg (rowK .u8 E)) ∧ Below W1.heap.size W1 w' from fun W1 => by rw [hE]; exact edge_calls W1 g e HG.out.2.1 HG.out.2.2)
    have HBU := Aside0.mk (built_cell E E.reverse hd hEl rfl)
    have HC0 := Aside0.mk (show (rowK .u8 (cell0 E hd [])).size = 64 by rw [rowK_size]; unfold cell0; simp [hEl])
    have hz64 := Aside0.mk (show (rowK .u8 z64).size = 64 by rw [rowK_size, z64_len])
    have hbc : Below W.heap.size W W.drew := below_drew (Below.refl _ _)
    have hww : W.heap.size ≤ W.heap.size := Nat.le_refl _
    have HX := Aside0.mk (show pieceV ad b.length x.1 = .slice (some (ad.add (47 * x.1))) n n by rw [hn]; rfl)
    rw [HX.out]
    have HFL := Aside0.mk hfl
    have HPN := Aside0.mk (And.intro hp (And.intro hn (And.intro hhd hE)))
    have HPL := Aside0.mk hpl
    clear h1 h2 h3 h4 h5 hfl hp hn hhd hE hpl hEl
    gi_wp2
    refine Go.Proofs.Ytfkndnocjelhgaa.Round.start_round (n := 13) (S := fun w' => w'.cell? ⟨S, 0, none⟩ = some (.int .i64 (g : Int)) ∧ w'.cell? ⟨S, 1, none⟩ = some (.int .i64 (e : Int)) ∧ w'.cell? ⟨Fl, 0, none⟩ = some (.int .u8 fl)) (ds := [12]) #[false, false, false, false, false, false, false, false, false, false, false, false, false] (by kernel_rfl) rfl rfl ⟨K0, K1, K2⟩ (by kernel_rfl) (fun h => by obtain ⟨_, _, h⟩ := h; exact h) (fun hHeld => ?_)
    refine pure_ (i := 3) (N := some 37) (v := ?_) (a' := ?_) #[false, false, false, true, false, false, false, false, false, false, false, false, false] rfl rfl (by kernel_rfl) (fun _ _ _ h => h) (Or.inl ⟨by rfl, ?_⟩) ?_ ?_
    rotate_left
    · intro w'
      go_simp
      with_reducible rfl
    rotate_left
    · simp only [Act.put, List.setIfInBounds_toArray, List.set_cons_zero, List.set_cons_succ, i64_w, i32_w]
      rfl
    refine pure_ (i := 4) (N := some 38) (v := ?_) (a' := ?_) #[false, false, false, true, true, false, false, false, false, false, false, false, false] rfl rfl (by kernel_rfl) (fun _ _ _ h => h) (Or.inl ⟨by rfl, ?_⟩) ?_ ?_
    rotate_left
    · intro w'
      go_simp
      with_reducible rfl
    rotate_left
    · simp only [Act.put, List.setIfInBounds_toArray, List.set_cons_zero, List.set_cons_succ, i64_w, i32_w]
      rfl
    refine pure_ (i := 5) (N := some 39) (v := ?_) (a' := ?_) #[false, false, false, true, true, true, false, false, false, false, false, false, false] rfl rfl (by kernel_rfl) (fun _ _ _ h => h) (Or.inl ⟨by rfl, ?_⟩) ?_ ?_
    rotate_left
    · intro w'
      go_simp
      with_reducible rfl
    rotate_left
    · simp only [Act.put, List.setIfInBounds_toArray, List.set_cons_zero, List.set_cons_succ, i64_w, i32_w]
      rfl
    refine take_ (i := 0) (N := some 34) (v := ?_) (a' := ?_) #[true, false, false, true, true, true, false, false, false, false, false, false, false] rfl rfl (by kernel_rfl) (fun _ _ _ h => h) (Or.inl ⟨by rfl, ?_⟩) hHeld ?_ ?_
    rotate_left
    · rintro w' ⟨s0, s1, s2⟩
      go_simp
      with_reducible rfl
    rotate_left
    · simp only [Act.put, List.setIfInBounds_toArray, List.set_cons_zero, List.set_cons_succ, i64_w, i32_w]
      rfl
    refine take_ (i := 2) (N := some 36) (v := ?_) (a' := ?_) #[true, false, true, true, true, true, false, false, false, false, false, false, false] rfl rfl (by kernel_rfl) (fun _ _ _ h => h) (Or.inl ⟨by rfl, ?_⟩) hHeld ?_ ?_
    rotate_left
    · rintro w' ⟨s0, s1, s2⟩
      go_simp
      with_reducible rfl
    rotate_left
    · simp only [Act.put, List.setIfInBounds_toArray, List.set_cons_zero, List.set_cons_succ, i64_w, i32_w]
      rfl
    refine pure_ (i := 6) (N := some 40) (v := ?_) (a' := ?_) #[true, false, true, true, true, true, true, false, false, false, false, false, false] rfl rfl (by kernel_rfl) (fun _ _ _ h => h) (Or.inl ⟨by rfl, ?_⟩) ?_ ?_
    rotate_left
    · intro w'
      go_simp
      with_reducible rfl
    rotate_left
    · simp only [Act.put, List.setIfInBounds_toArray, List.set_cons_zero, List.set_cons_succ, i64_w, i32_w]
      rfl
    refine take_ (i := 7) (N := some 41) (v := ?_) (a' := ?_) #[true, false, true, true, true, true, true, true, false, false, false, false, false] rfl rfl (by kernel_rfl) (fun _ _ _ h => h) (Or.inl ⟨by rfl, ?_⟩) hHeld ?_ ?_
    rotate_left
    · rintro w' ⟨s0, s1, s2⟩
      go_simp
      with_reducible rfl
    rotate_left
    · simp only [Act.put, List.setIfInBounds_toArray, List.set_cons_zero, List.set_cons_succ, i64_w, i32_w]
      rfl
    refine join_ (σ := Nat) 1 #[true, true, true, true, true, true, true, true, true, true, true, true, false] (fun s => [(35, .agg (rowK .u8 E)), (42, .agg (rowK .u8 E)), (43, .agg (rowK .u8 E.reverse)), (44, .agg (rowK .u8 (cell0 E hd []))), (9, .pointer (some ⟨s, 0, none⟩))]) (fun s w' => HoldsRow w' s 75 (rowK .u8 z64) ∧ W.heap.size ≤ s ∧ Below W.heap.size W w') ?_ ?_
    rotate_left
    · intro hCont
      refine two_ (i := 1) (j := 11) (Ni := some 35) (Nj := some 9) #[true, true, true, true, true, true, true, true, false, false, false, false, false] #[true, false, true, true, true, true, true, true, false, false, false, true, false] rfl rfl rfl rfl (by kernel_rfl) (by decide) (by decide) (fun K hK => ?_) (fun K hK => ?_)
      · skip
        refine goes_ Try.func32 (by kernel_rfl) rfl #[.agg #[.int .i64 (g : Int), .int .i64 (e : Int)]] (by rfl) rfl rfl (by simp only [List.map_toArray, List.map_cons, List.map_nil]; rfl) ?_
        with_reducible refine (HEC.out _).mono ?_
        rintro e1 wc ⟨rfl, hb⟩
        refine ⟨_, rfl, ?_⟩
        have hbc := hbc.trans (hb.mono hbc.size)
        refine hK.out _ _ ⟨pw_cell_below hbc K0, pw_cell_below hbc K1, pw_cell_below hbc K2⟩ (fun hHeld => ?_)
        clear hK K
        refine norm_ (a' := ?_) ?_ ?_
        rotate_left
        · show Act.put _ (some 35) _ = _
          simp only [Act.put, List.setIfInBounds_toArray, List.set_cons_zero, List.set_cons_succ, i64_w, i32_w]
          rfl
        refine two_ (i := 8) (j := 11) (Ni := some 42) (Nj := some 9) #[true, true, true, true, true, true, true, true, true, false, false, false, false] #[true, true, true, true, true, true, true, true, false, false, false, true, false] rfl rfl rfl rfl (by kernel_rfl) (by decide) (by decide) (fun K hK => ?_) (fun K hK => ?_)
        · skip
          refine goes_ Try.func32 (by kernel_rfl) rfl #[.agg #[.int .i64 (g : Int), .int .i64 (e : Int)]] (by rfl) rfl rfl (by simp only [List.map_toArray, List.map_cons, List.map_nil]; rfl) ?_
          with_reducible refine (HEC.out _).mono ?_
          rintro e1 wc ⟨rfl, hb⟩
          refine ⟨_, rfl, ?_⟩
          have hbc := hbc.trans (hb.mono hbc.size)
          refine hK.out _ _ ⟨pw_cell_below hbc K0, pw_cell_below hbc K1, pw_cell_below hbc K2⟩ (fun hHeld => ?_)
          clear hK K
          refine norm_ (a' := ?_) ?_ ?_
          rotate_left
          · show Act.put _ (some 42) _ = _
            simp only [Act.put, List.setIfInBounds_toArray, List.set_cons_zero, List.set_cons_succ, i64_w, i32_w]
            rfl
          refine two_ (i := 9) (j := 11) (Ni := some 43) (Nj := some 9) #[true, true, true, true, true, true, true, true, true, true, false, false, false] #[true, true, true, true, true, true, true, true, true, false, false, true, false] rfl rfl rfl rfl (by kernel_rfl) (by decide) (by decide) (fun K hK => ?_) (fun K hK => ?_)
          · skip
            refine goes_ Try.func33 (by kernel_rfl) rfl #[.agg (rowK .u8 E)] (by rfl) rfl rfl (by simp only [List.map_toArray, List.map_cons, List.map_nil]; rfl) ?_
            with_reducible refine (turned_calls _ E HEL.out).mono ?_
            rintro e1 wc ⟨rfl, hb⟩
            refine ⟨_, rfl, ?_⟩
            have hbc := hbc.trans (hb.mono hbc.size)
            refine hK.out _ _ ⟨pw_cell_below hbc K0, pw_cell_below hbc K1, pw_cell_below hbc K2⟩ (fun hHeld => ?_)
            clear hK K
            refine norm_ (a' := ?_) ?_ ?_
            rotate_left
            · show Act.put _ (some 43) _ = _
              simp only [Act.put, List.setIfInBounds_toArray, List.set_cons_zero, List.set_cons_succ, i64_w, i32_w]
              rfl
            refine pure_ (i := 10) (N := some 44) (v := ?_) (a' := ?_) #[true, true, true, true, true, true, true, true, true, true, true, false, false] rfl rfl (by kernel_rfl) (fun _ _ _ h => h) (Or.inl ⟨by rfl, ?_⟩) ?_ ?_
            rotate_left
            · intro w'
              refine exec_built 75 #[(0, .tmp 35), (1, .tmp 40), (3, .tmp 43)] ?_ [(0, .agg (rowK .u8 E)), (1, .int .u8 hd), (3, .agg (rowK .u8 E.reverse))] ?_ (rowK .u8 (cell0 E hd [])) HBU.out
              · rfl
              · simp only [List.map_toArray, List.map_cons, List.map_nil]
                rfl
            rotate_left
            · simp only [Act.put, List.setIfInBounds_toArray, List.set_cons_zero, List.set_cons_succ, i64_w, i32_w]
              rfl
            refine one_ (i := 11) (N := some 9) #[true, true, true, true, true, true, true, true, true, true, true, true, false] rfl rfl (by kernel_rfl) (by decide) (fun K hK => ?_)
            refine value_ (w1 := ?_) (v := ?_) (by rfl) rfl ?_ ?_
            rotate_left 2
            · refine exec_alloc 75 ?_ _ zero_cell
              rfl
            have hal := new_cell hbc hww
            refine hK.out _ _ ⟨pw_cell_below hal.2.2 K0, pw_cell_below hal.2.2 K1, pw_cell_below hal.2.2 K2⟩ (fun hHeld => ?_)
            clear hK K
            refine norm_ (a' := ?_) ?_ ?_
            rotate_left
            · show Act.put _ (some 9) _ = _
              simp only [Act.put, List.setIfInBounds_toArray, List.set_cons_zero, List.set_cons_succ, i64_w, i32_w]
              rfl
            exact norm_ (by simp only [putAll, Act.put, List.setIfInBounds_toArray, List.set_cons_zero, List.set_cons_succ]) (hCont _ _ hal)
          · skip
            refine value_ (w1 := ?_) (v := ?_) (by rfl) rfl ?_ ?_
            rotate_left 2
            · refine exec_alloc 75 ?_ _ zero_cell
              rfl
            have hal := new_cell hbc hww
            refine hK.out _ _ ⟨pw_cell_below hal.2.2 K0, pw_cell_below hal.2.2 K1, pw_cell_below hal.2.2 K2⟩ (fun hHeld => ?_)
            clear hK K
            refine norm_ (a' := ?_) ?_ ?_
            rotate_left
            · show Act.put _ (some 9) _ = _
              simp only [Act.put, List.setIfInBounds_toArray, List.set_cons_zero, List.set_cons_succ, i64_w, i32_w]
              rfl
            refine one_ (i := 9) (N := some 43) #[true, true, true, true, true, true, true, true, true, true, false, true, false] rfl rfl (by kernel_rfl) (by decide) (fun K hK => ?_)
            refine goes_ Try.func33 (by kernel_rfl) rfl #[.agg (rowK .u8 E)] (by rfl) rfl rfl (by simp only [List.map_toArray, List.map_cons, List.map_nil]; rfl) ?_
            with_reducible refine (turned_calls _ E HEL.out).mono ?_
            rintro e1 wc ⟨rfl, hb⟩
            refine ⟨_, rfl, ?_⟩
            have hal := keep_cell hal hww hb
            refine hK.out _ _ ⟨pw_cell_below hal.2.2 K0, pw_cell_below hal.2.2 K1, pw_cell_below hal.2.2 K2⟩ (fun hHeld => ?_)
            clear hK K
            refine norm_ (a' := ?_) ?_ ?_
            rotate_left
            · show Act.put _ (some 43) _ = _
              simp only [Act.put, List.setIfInBounds_toArray, List.set_cons_zero, List.set_cons_succ, i64_w, i32_w]
              rfl
            refine pure_ (i := 10) (N := some 44) (v := ?_) (a' := ?_) #[true, true, true, true, true, true, true, true, true, true, true, true, false] rfl rfl (by kernel_rfl) (fun _ _ _ h => h) (Or.inl ⟨by rfl, ?_⟩) ?_ ?_
            rotate_left
            · intro w'
              refine exec_built 75 #[(0, .tmp 35), (1, .tmp 40), (3, .tmp 43)] ?_ [(0, .agg (rowK .u8 E)), (1, .int .u8 hd), (3, .agg (rowK .u8 E.reverse))] ?_ (rowK .u8 (cell0 E hd [])) HBU.out
              · rfl
              · simp only [List.map_toArray, List.map_cons, List.map_nil]
                rfl
            rotate_left
            · simp only [Act.put, List.setIfInBounds_toArray, List.set_cons_zero, List.set_cons_succ, i64_w, i32_w]
              rfl
            exact norm_ (by simp only [putAll, Act.put, List.setIfInBounds_toArray, List.set_cons_zero, List.set_cons_succ]) (hCont _ _ hal)
        · skip
          refine value_ (w1 := ?_) (v := ?_) (by rfl) rfl ?_ ?_
          rotate_left 2
          · refine exec_alloc 75 ?_ _ zero_cell
            rfl
          have hal := new_cell hbc hww
          refine hK.out _ _ ⟨pw_cell_below hal.2.2 K0, pw_cell_below hal.2.2 K1, pw_cell_below hal.2.2 K2⟩ (fun hHeld => ?_)
          clear hK K
          refine norm_ (a' := ?_) ?_ ?_
          rotate_left
          · show Act.put _ (some 9) _ = _
            simp only [Act.put, List.setIfInBounds_toArray, List.set_cons_zero, List.set_cons_succ, i64_w, i32_w]
            rfl
          refine one_ (i := 8) (N := some 42) #[true, true, true, true, true, true, true, true, true, false, false, true, false] rfl rfl (by kernel_rfl) (by decide) (fun K hK => ?_)
          refine goes_ Try.func32 (by kernel_rfl) rfl #[.agg #[.int .i64 (g : Int), .int .i64 (e : Int)]] (by rfl) rfl rfl (by simp only [List.map_toArray, List.map_cons, List.map_nil]; rfl) ?_
          with_reducible refine (HEC.out _).mono ?_
          rintro e1 wc ⟨rfl, hb⟩
          refine ⟨_, rfl, ?_⟩
          have hal := keep_cell hal hww hb
          refine hK.out _ _ ⟨pw_cell_below hal.2.2 K0, pw_cell_below hal.2.2 K1, pw_cell_below hal.2.2 K2⟩ (fun hHeld => ?_)
          clear hK K
          refine norm_ (a' := ?_) ?_ ?_
          rotate_left
          · show Act.put _ (some 42) _ = _
            simp only [Act.put, List.setIfInBounds_toArray, List.set_cons_zero, List.set_cons_succ, i64_w, i32_w]
            rfl
          refine one_ (i := 9) (N := some 43) #[true, true, true, true, true, true, true, true, true, true, false, true, false] rfl rfl (by kernel_rfl) (by decide) (fun K hK => ?_)
          refine goes_ Try.func33 (by kernel_rfl) rfl #[.agg (rowK .u8 E)] (by rfl) rfl rfl (by simp only [List.map_toArray, List.map_cons, List.map_nil]; rfl) ?_
          with_reducible refine (turned_calls _ E HEL.out).mono ?_
          rintro e1 wc ⟨rfl, hb⟩
          refine ⟨_, rfl, ?_⟩
          have hal := keep_cell hal hww hb
          refine hK.out _ _ ⟨pw_cell_below hal.2.2 K0, pw_cell_below hal.2.2 K1, pw_cell_below hal.2.2 K2⟩ (fun hHeld => ?_)
          clear hK K
          refine norm_ (a' := ?_) ?_ ?_
          rotate_left
          · show Act.put _ (some 43) _ = _
            simp only [Act.put, List.setIfInBounds_toArray, List.set_cons_zero, List.set_cons_succ, i64_w, i32_w]
            rfl
          refine pure_ (i := 10) (N := some 44) (v := ?_) (a' := ?_) #[true, true, true, true, true, true, true, true, true, true, true, true, false] rfl rfl (by kernel_rfl) (fun _ _ _ h => h) (Or.inl ⟨by rfl, ?_⟩) ?_ ?_
          rotate_left
          · intro w'
            refine exec_built 75 #[(0, .tmp 35), (1, .tmp 40), (3, .tmp 43)] ?_ [(0, .agg (rowK .u8 E)), (1, .int .u8 hd), (3, .agg (rowK .u8 E.reverse))] ?_ (rowK .u8 (cell0 E hd [])) HBU.out
            · rfl
            · simp only [List.map_toArray, List.map_cons, List.map_nil]
              rfl
          rotate_left
          · simp only [Act.put, List.setIfInBounds_toArray, List.set_cons_zero, List.set_cons_succ, i64_w, i32_w]
            rfl
          exact norm_ (by simp only [putAll, Act.put, List.setIfInBounds_toArray, List.set_cons_zero, List.set_cons_succ]) (hCont _ _ hal)
      · skip
        refine value_ (w1 := ?_) (v := ?_) (by rfl) rfl ?_ ?_
        rotate_left 2
        · refine exec_alloc 75 ?_ _ zero_cell
          rfl
        have hal := new_cell hbc hww
        refine hK.out _ _ ⟨pw_cell_below hal.2.2 K0, pw_cell_below hal.2.2 K1, pw_cell_below hal.2.2 K2⟩ (fun hHeld => ?_)
        clear hK K
        refine norm_ (a' := ?_) ?_ ?_
        rotate_left
        · show Act.put _ (some 9) _ = _
          simp only [Act.put, List.setIfInBounds_toArray, List.set_cons_zero, List.set_cons_succ, i64_w, i32_w]
          rfl
        refine one_ (i := 1) (N := some 35) #[true, true, true, true, true, true, true, true, false, false, false, true, false] rfl rfl (by kernel_rfl) (by decide) (fun K hK => ?_)
        refine goes_ Try.func32 (by kernel_rfl) rfl #[.agg #[.int .i64 (g : Int), .int .i64 (e : Int)]] (by rfl) rfl rfl (by simp only [List.map_toArray, List.map_cons, List.map_nil]; rfl) ?_
        with_reducible refine (HEC.out _).mono ?_
        rintro e1 wc ⟨rfl, hb⟩
        refine ⟨_, rfl, ?_⟩
        have hal := keep_cell hal hww hb
        refine hK.out _ _ ⟨pw_cell_below hal.2.2 K0, pw_cell_below hal.2.2 K1, pw_cell_below hal.2.2 K2⟩ (fun hHeld => ?_)
        clear hK K
        refine norm_ (a' := ?_) ?_ ?_
        rotate_left
        · show Act.put _ (some 35) _ = _
          simp only [Act.put, List.setIfInBounds_toArray, List.set_cons_zero, List.set_cons_succ, i64_w, i32_w]
          rfl
        refine one_ (i := 8) (N := some 42) #[true, true, true, true, true, true, true, true, true, false, false, true, false] rfl rfl (by kernel_rfl) (by decide) (fun K hK => ?_)
        refine goes_ Try.func32 (by kernel_rfl) rfl #[.agg #[.int .i64 (g : Int), .int .i64 (e : Int)]] (by rfl) rfl rfl (by simp only [List.map_toArray, List.map_cons, List.map_nil]; rfl) ?_
        with_reducible refine (HEC.out _).mono ?_
        rintro e1 wc ⟨rfl, hb⟩
        refine ⟨_, rfl, ?_⟩
        have hal := keep_cell hal hww hb
        refine hK.out _ _ ⟨pw_cell_below hal.2.2 K0, pw_cell_below hal.2.2 K1, pw_cell_below hal.2.2 K2⟩ (fun hHeld => ?_)
        clear hK K
        refine norm_ (a' := ?_) ?_ ?_
        rotate_left
        · show Act.put _ (some 42) _ = _
          simp only [Act.put, List.setIfInBounds_toArray, List.set_cons_zero, List.set_cons_succ, i64_w, i32_w]
          rfl
        refine one_ (i := 9) (N := some 43) #[true, true, true, true, true, true, true, true, true, true, false, true, false] rfl rfl (by kernel_rfl) (by decide) (fun K hK => ?_)
        refine goes_ Try.func33 (by kernel_rfl) rfl #[.agg (rowK .u8 E)] (by rfl) rfl rfl (by simp only [List.map_toArray, List.map_cons, List.map_nil]; rfl) ?_
        with_reducible refine (turned_calls _ E HEL.out).mono ?_
        rintro e1 wc ⟨rfl, hb⟩
        refine ⟨_, rfl, ?_⟩
        have hal := keep_cell hal hww hb
        refine hK.out _ _ ⟨pw_cell_below hal.2.2 K0, pw_cell_below hal.2.2 K1, pw_cell_below hal.2.2 K2⟩ (fun hHeld => ?_)
        clear hK K
        refine norm_ (a' := ?_) ?_ ?_
        rotate_left
        · show Act.put _ (some 43) _ = _
          simp only [Act.put, List.setIfInBounds_toArray, List.set_cons_zero, List.set_cons_succ, i64_w, i32_w]
          rfl
        refine pure_ (i := 10) (N := some 44) (v := ?_) (a' := ?_) #[true, true, true, true, true, true, true, true, true, true, true, true, false] rfl rfl (by kernel_rfl) (fun _ _ _ h => h) (Or.inl ⟨by rfl, ?_⟩) ?_ ?_
        rotate_left
        · intro w'
          refine exec_built 75 #[(0, .tmp 35), (1, .tmp 40), (3, .tmp 43)] ?_ [(0, .agg (rowK .u8 E)), (1, .int .u8 hd), (3, .agg (rowK .u8 E.reverse))] ?_ (rowK .u8 (cell0 E hd [])) HBU.out
          · rfl
          · simp only [List.map_toArray, List.map_cons, List.map_nil]
            rfl
        rotate_left
        · simp only [Act.put, List.setIfInBounds_toArray, List.set_cons_zero, List.set_cons_succ, i64_w, i32_w]
          rfl
        exact norm_ (by simp only [putAll, Act.put, List.setIfInBounds_toArray, List.set_cons_zero, List.set_cons_succ]) (hCont _ _ hal)
    rintro s9 w5 ⟨hcell, hs9, hb5⟩
    have hHeld : w5.cell? ⟨S, 0, none⟩ = some (.int .i64 (g : Int)) ∧ w5.cell? ⟨S, 1, none⟩ = some (.int .i64 (e : Int)) ∧ w5.cell? ⟨Fl, 0, none⟩ = some (.int .u8 fl) := ⟨pw_cell_below hb5 K0, pw_cell_below hb5 K1, pw_cell_below hb5 K2⟩
    refine norm_ (a' := ?_) ?_ ?_
    rotate_left
    · simp only [putAll, Act.put, List.setIfInBounds_toArray, List.set_cons_zero, List.set_cons_succ]
      rfl
    refine last_ (i := 12) (N := none) #[true, true, true, true, true, true, true, true, true, true, true, true, true] rfl rfl (by kernel_rfl) (by decide) (fun K hK => ?_)
    refine skip_ (w1 := w5.setCells s9 0 (rowK .u8 (cell0 E hd [])).toList) (by rfl) rfl ?_ ?_
    · refine exec_store_mid 75 (.tmp 9) (.tmp 44) ?_ s9 0 (rowK .u8 (cell0 E hd [])) ?_ ?_ (there_row hcell 0 _ (by rw [HC0.out, hz64.out]; decide)) (by rw [HC0.out]; kernel_rfl) (rowK_one _ _)
      · rfl
      · rfl
      · rfl
    refine hK.out _ _ ?_
    clear hK K
    refine done_ (by kernel_rfl) ?_
    
    have hrow6 : HoldsRow (w5.setCells s9 0 (rowK .u8 (cell0 E hd [])).toList) s9 75 (rowK .u8 (cell0 E hd [])) := set_row_all hcell (by rw [HC0.out, hz64.out])
    have hb6 : Below W.heap.size W (w5.setCells s9 0 (rowK .u8 (cell0 E hd [])).toList) := sets_below hb5 hs9 _
    obtain ⟨w6, hw6⟩ : ∃ w6, w6 = w5.setCells s9 0 (rowK .u8 (cell0 E hd [])).toList := ⟨_, rfl⟩
    rw [← hw6] at hrow6 hb6 ⊢
    have R6 := Aside0.mk hrow6
    have B6 := Aside0.mk hb6
    have HS9 := Aside0.mk hs9
    have HPC := Aside0.mk (show Kd.C (Kd.int .u8) w6 (some (ad.add (47 * x.1))) n p by
      have h1 := Kd.C_below HR.out (H5.out.trans (hb6.mono H5.out.size))
      have h2 := C_cut h1 (47 * x.1) n (by have := HPN.out.2.1; unfold pieceL at this; have hx := x.2; unfold pieces at hx; omega)
      rw [HPN.out.1, HPN.out.2.1]
      rw [HPN.out.2.1] at h2
      exact h2)
    clear hHeld hcell hs9 hb5 hrow6 hb6 hw6 hbc hor hcv K0 K1 K2
    gi_wp2_with (refine Go.Proofs.Ytfkndnocjelhgaa.Round.wpListIn_of_step rfl (by simp) (fun K hK => ?_); refine step_copy_splice rfl (.tmp 46) (.tmp 47) 24 24 rfl 5 Try.underlying24 (by kernel_rfl) (some ⟨s9, 9, none⟩) (some (ad.add (47 * x.1))) 47 47 n n rfl rfl s9 9 (nums .u8 (cell0 E hd [])) 75 R6.out (nums .u8 p) ?n1 ?n2 ?n3 ?n4 W.heap.size W B6.out HS9.out ?_; (case n1 => rw [nums_length, HPL.out]; exact (Nat.min_eq_left hn47).symm); (case n2 => exact fun h0 => ⟨rfl, _, rfl, C_cells HPC.out (by rw [nums_length, HPL.out] at h0; exact h0)⟩); (case n3 => rw [nums_length, nums_length, HPL.out]; have := HC0.out; rw [rowK_size] at this; omega); (case n4 => exact fun v hv => nums_one _ _ v hv); intro w7 hh7 hb7; rw [nums_splice, cell_splice E hd p HEL.out (by rw [HPL.out]; exact hn47)] at hh7; have R7 := Aside0.mk (show HoldsRow w7 s9 75 (rowK .u8 (cell0 E hd p)) from hh7.out); have B7 := Aside0.mk hb7; clear hh7 hb7 R6 B6 HPC; rw [nums_length, HPL.out]; refine hK _ _ ?_; clear hK)
    simp only [Act.put, goInt, List.setIfInBounds_toArray, List.set_cons_zero, List.set_cons_succ]
    clear hHeld
    have HK := Aside0.mk (And.intro hn47 (And.intro hle (And.intro hl1 (And.intro hl2 (And.intro hpre hbs)))))
    obtain ⟨c1, hc1⟩ : ∃ c1, c1 = cell0 E hd p := ⟨_, rfl⟩
    have HC1 := Aside0.mk hc1
    have hc1l : c1.length = 64 := by rw [hc1, HPN.out.2.2.2]; have := HPL.out; unfold cell0; simp [edgeL_len]; omega
    have HL1 := Aside0.mk hc1l
    rw [← hc1] at R7
    have M0 : w7.drew.cell? ⟨O, 0, none⟩ = some (.slice A9 (cellsOf g e b pre).length c9) := (H1.out.below B7.out H1.out.lt).cell rfl
    have M1 : w7.drew.rangeAt s9 0 (nums .u8 c1) := by
      have := range_row R7.out 0 64
      rw [List.drop_zero, List.take_of_length_le (by omega)] at this
      exact this
    have M2 : w7.drew.frozen? ⟨O, 0, none⟩ = false := (H1.out.below B7.out H1.out.lt).free 0
    have hbc : Below W.heap.size W w7.drew := below_drew B7.out
    have HSZ := Aside0.mk (show W0.heap.size ≤ w7.heap.size ∧ W.heap.size ≤ w7.heap.size from ⟨Nat.le_trans hbs B7.out.size, B7.out.size⟩)
    have HNE := Aside0.mk (show ∀ k, k < W0.heap.size → ¬ (Value.slice A9 (cellsOf g e b pre).length c9).ownBlock = some k from fun k hk h => by have := Kd.S_base H2.out k h; omega)
    clear hc1 hc1l
    refine Go.Proofs.Ytfkndnocjelhgaa.Round.start_round (n := 6) (S := fun w' => w'.cell? ⟨O, 0, none⟩ = some (.slice A9 (cellsOf g e b pre).length c9) ∧ w'.rangeAt s9 0 (nums .u8 c1)) (ds := [4, 5]) #[false, false, false, false, false, false] (by kernel_rfl) rfl rfl ⟨M0, M1⟩ (by kernel_rfl) (fun h => by obtain ⟨_, _, h⟩ := h; exact h) (fun hHeld => ?_)
    refine take_ (i := 0) (N := some 49) (v := ?_) (a' := ?_) #[true, false, false, false, false, false] rfl rfl (by kernel_rfl) (fun _ _ _ h => h) (Or.inl ⟨by rfl, ?_⟩) hHeld ?_ ?_
    rotate_left
    · rintro w' ⟨s0, s1⟩
      go_simp
      with_reducible rfl
    rotate_left
    · simp only [Act.put, List.setIfInBounds_toArray, List.set_cons_zero, List.set_cons_succ, i64_w, i32_w]
      rfl
    refine take_ (i := 1) (N := some 50) (v := ?_) (a' := ?_) #[true, true, false, false, false, false] rfl rfl (by kernel_rfl) (fun _ _ _ h => h) (Or.inl ⟨by rfl, ?_⟩) hHeld ?_ ?_
    rotate_left
    · rintro w' ⟨s0, s1⟩
      refine exec_load_mid 75 (.tmp 9) ?_ s9 0 ?_ (nums .u8 c1) _ s1 Try.underlying75 rfl (by rw [nums_length, HL1.out]; kernel_rfl)
      · rfl
      · rfl
    rotate_left
    · simp only [Act.put, List.setIfInBounds_toArray, List.set_cons_zero, List.set_cons_succ, i64_w, i32_w]
      rfl
    refine one_ (i := 2) (N := some 51) #[true, true, true, false, false, false] rfl rfl (by kernel_rfl) (by decide) (fun K hK => ?_)
    refine goes_ Try.func34 (by kernel_rfl) rfl #[.agg (rowK .u8 c1)] (by rfl) rfl rfl (by simp only [List.map_toArray, List.map_cons, List.map_nil]; rfl) ?_
    with_reducible refine (bytes_calls _ c1 HL1.out).mono ?_
    rintro e3 w8 ⟨v8, rfl, ho8, hb8⟩
    refine ⟨_, rfl, ?_⟩
    have N1 := (show w8.rangeAt s9 0 (nums .u8 c1) from fun j v hv => pw_cell_below hb8 (M1 j v hv))
    have B8 := Aside0.mk (hbc.trans (hb8.mono hbc.size))
    have R8 := Aside0.mk ho8
    have BD := Aside0.mk hb8
    obtain ⟨A8, c8, rfl⟩ := Kd.R_slice ho8
    clear ho8 hb8 hbc
    rw [HL1.out] at R8 ⊢
    refine hK.out _ _ ⟨pw_cell_below B8.out (H1.out.cell rfl), N1⟩ (fun hHeld => ?_)
    clear hK K
    refine norm_ (a' := ?_) ?_ ?_
    rotate_left
    · show Act.put _ (some 51) _ = _
      simp only [Act.put, List.setIfInBounds_toArray, List.set_cons_zero, List.set_cons_succ, i64_w, i32_w]
      rfl
    refine one_ (i := 3) (N := some 52) #[true, true, true, true, false, false] rfl rfl (by kernel_rfl) (by decide) (fun K hK => ?_)
    refine value_ (w1 := w8.alloc (.cells #[.slice A8 64 c8] 24)) (v := .slice (some ⟨w8.heap.size, 0, none⟩) 1 1) (by rfl) rfl ?_ ?_
    · go_simp
    refine hK.out _ _ ⟨cell_alloc_old _ (pw_cell_below B8.out (H1.out.cell rfl)), World.rangeAt_alloc N1 _⟩ (fun hHeld => ?_)
    clear hK K
    refine norm_ (a' := ?_) ?_ ?_
    rotate_left
    · show Act.put _ (some 52) _ = _
      simp only [Act.put, List.setIfInBounds_toArray, List.set_cons_zero, List.set_cons_succ, i64_w, i32_w]
      rfl
    refine last_ (i := 4) (N := some 53) #[true, true, true, true, true, false] rfl rfl (by kernel_rfl) (by decide) (fun K hK => ?_)
    refine Kd.S_append_step (Kd.slice 5 (Kd.int .u8)) (w0 := w8) (W := w8) W0.heap.size (by rfl) (.tmp 49) (.tmp 52) 26 24 (.slice none 0 0) 24 ?a1 Try.underlying26 (by kernel_rfl) rfl (by decide) (by decide) (.slice A9 (cellsOf g e b pre).length c9) (cellsOf g e b pre) c1 [.slice A8 64 c8] (fun _ => True) (fun k => w7.heap.size ≤ k) ?a2 ?a3 ?a4 ?a5 (fun _ _ => trivial) (Kd.S_mono (Kd.S_below (Kd.S_bound H2.out) B8.out) (fun k hk => ⟨trivial, fun h => by have := hk.2.2.1; have := HSZ.out.2; omega⟩)) (Below.refl _ _) ?a6 ?a7 ?_
    case a1 => rfl
    case a2 => rfl
    case a3 => rfl
    case a4 => exact ⟨_, rfl, Kd.R_lower (Kd.R_mono (Kd.R_bound R8.out) (fun k h => h.2.1)) HSZ.out.1⟩
    case a5 => exact fun k hk => ⟨trivial, fun e => by have := Kd.S_lt H2.out k e.symm; have := HSZ.out.2; omega⟩
    case a6 => exact Nat.le_trans HSZ.out.1 BD.out.size
    case a7 => exact cells_few g e b pre HK.out.2.2.2.2.1 HM.out.2.2
    intro v1 w9 ho hb9 hg9 hat
    have B9 := Aside0.mk hb9
    have G9 := Aside0.mk hg9
    have R9 := Aside0.mk ho
    have HO9 := Aside0.mk (hr_move (H1.out.below B8.out H1.out.lt) (hg9.block O (Nat.lt_of_lt_of_le H1.out.lt B8.out.size) (fun h => HNE.out O (by have := HSS.out; omega) h.symm)))
    have Q0 := HO9.out.cell (j := 0) (v := .slice A9 (cellsOf g e b pre).length c9) rfl
    have Q1 := HO9.out.free 0
    obtain ⟨A10, c10, rfl⟩ := Kd.S_slice ho
    clear ho hb9 hg9 hat
    refine hK.out _ _ ?_
    clear hK K
    refine norm_ (a' := ?_) ?_ ?_
    rotate_left
    · show Act.put _ (some 53) _ = _
      simp only [Act.put, List.setIfInBounds_toArray, List.set_cons_zero, List.set_cons_succ, i64_w, i32_w]
      rfl
    refine last_ (i := 5) (N := none) #[true, true, true, true, true, true] rfl rfl (by kernel_rfl) (by decide) (fun K hK => ?_)
    refine skip_ (w1 := ?_) (by rfl) rfl ?_ ?_
    rotate_left
    · go_simp
      rfl
    refine hK.out _ _ ?_
    clear hK K
    refine done_ (by kernel_rfl) ?_
    
    obtain ⟨w10, hw10⟩ : ∃ w10, w10 = w9.setCell ⟨O, 0, none⟩ (.slice A10 ((cellsOf g e b pre).length + 1) c10) := ⟨_, rfl⟩
    rw [← hw10]
    have hsz := HSS.out
    have hOF : O ≠ Fl := by omega
    have HF9 : HoldsRow w9 Fl 5 #[.int .u8 (if (pre.length == 0) = true then 128 else 0)] := hr_move (H3.out.below B8.out H3.out.lt) (G9.out.block Fl (Nat.lt_of_lt_of_le H3.out.lt B8.out.size) (fun h => HNE.out Fl (by omega) h.symm))
    have HF10 : HoldsRow w10 Fl 5 #[.int .u8 (if (pre.length == 0) = true then 128 else 0)] := by rw [hw10]; exact hr_move HF9 (Below.heap_setCell w9 ⟨O, 0, none⟩ _ Fl (fun e => hOF e.symm))
    have N0 := HF10.cell (j := 0) rfl
    have N1 := HF10.free 0
    have HF := Aside0.mk HF10
    have HW10 := Aside0.mk hw10
    clear hHeld HF9 HF10 hw10 hsz hOF Q0 Q1 M0 M1 M2
    gi_wp2
    have hsz := HSS.out
    have hne9 : ∀ k, k < W0.heap.size → k ≠ O → k ≠ Fl → (w10.setCell ⟨Fl, 0, none⟩ (.int .u8 0)).heap[k]? = W.heap[k]? := fun k hk h1 h2 => by
      rw [Below.heap_setCell w10 ⟨Fl, 0, none⟩ _ k h2, HW10.out, Below.heap_setCell w9 ⟨O, 0, none⟩ _ k h1]
      exact (G9.out.block k (Nat.lt_of_lt_of_le hk (Nat.le_trans hbs B8.out.size)) (fun h => HNE.out k hk h.symm)).trans (B8.out.block k (Nat.lt_of_lt_of_le hk hbs))
    have hcut : cellsOf g e b pre ++ [c1] = cellsOf g e b (pre ++ [x]) := by
      rw [cellsOf_snoc, HC1.out, HPN.out.2.2.2, HPN.out.2.2.1]
      unfold cellOf cell0
      rw [HPN.out.1, pieceOf_len, HPN.out.2.1]
    have R9' := R9.out
    have hko : KeepsOthers w9 (w10.setCell ⟨Fl, 0, none⟩ (.int .u8 0)) := by rw [HW10.out]; exact (KeepsOthers.setCell w9 ⟨O, 0, none⟩ (.slice A10 ((cellsOf g e b pre).length + 1) c10)).trans (KeepsOthers.setCell _ ⟨Fl, 0, none⟩ (.int .u8 0))
    rw [hcut] at R9'
    refine ⟨((keeps_below B8.out).trans (KeepsOthers.of_grownBy G9.out (fun j o hj ho => ?_))).trans hko, ⟨hne9 B1 hl1 (by omega) (by omega), hne9 B2 hl2 (by omega) (by omega)⟩, ⟨⟨.slice A10 ((cellsOf g e b pre).length + 1) c10, ?_, ?_⟩, ?_, hr_move H4.out (hne9 S (by omega) (by omega) (by omega)), ?_, ?_⟩⟩
    · obtain ⟨cells, hc⟩ := Kd.S_typed (Kd.S_below H2.out B8.out) j hj
      rw [hc] at ho
      cases ho
      rfl
    · have h1 := (HO9.out.set 0 (.slice A10 ((cellsOf g e b pre).length + 1) c10))
      rw [← HW10.out] at h1
      exact hr_move h1 (Below.heap_setCell w10 ⟨Fl, 0, none⟩ _ O (show O ≠ Fl by omega))
    · have h2 := Kd.S_mono (ok' := fun _ => True) (Kd.S_step (w1 := w10.setCell ⟨Fl, 0, none⟩ (.int .u8 0)) (Kd.S_bound R9') (fun k hk _ => by
        rw [Below.heap_setCell w10 ⟨Fl, 0, none⟩ _ k (show k ≠ Fl by have := hk.2.1; omega), HW10.out, Below.heap_setCell w9 ⟨O, 0, none⟩ _ k (show k ≠ O by have := hk.2.1; omega)])) (fun _ _ => trivial)
      rw [show (cellsOf g e b (pre ++ [x])).length = (cellsOf g e b pre).length + 1 by rw [← hcut, List.length_append]; rfl] at h2
      exact h2
    · have h3 := (HF.out.set 0 (.int .u8 0))
      have h4 : ((pre ++ [x]).length == 0) = false := by simp
      rw [h4]
      exact h3
    · have h5 := H5.out.trans (B8.out.mono H5.out.size)
      have h6 : Below w.heap.size w w9 := h5.grown G9.out h5.size (fun k h => by have := Kd.S_base H2.out k h; omega)
      have h7 : Below w.heap.size w w10 := by rw [HW10.out]; exact h6.setCell (p := ⟨O, 0, none⟩) (by show w.heap.size ≤ O; omega) _
      exact h7.setCell (p := ⟨Fl, 0, none⟩) (by show w.heap.size ≤ Fl; omega) _
    · have h8 : w8.heap.size ≤ w9.heap.size := G9.out.size
      have h9 : W.heap.size ≤ w8.heap.size := B8.out.size
      have h10 : w9.heap.size ≤ w10.heap.size := by rw [HW10.out]; exact (KeepsOthers.setCell w9 _ _).size
      have h11 := (KeepsOthers.setCell w10 ⟨Fl, 0, none⟩ (.int .u8 0)).size
      omega
  case done =>
    rintro D ys W hD rfl hI hK
    obtain ⟨⟨v, h1, h2⟩, -, -, h5, -⟩ := hI
    obtain ⟨A9, c9, rfl⟩ := Kd.S_slice h2
    have hc := h1.cell (j := 0) rfl
    have H2 := Aside0.mk h2
    have H5 := Aside0.mk h5
    clear h1 h2 h5
    gi_wp2
    refine ⟨by simp, .inl ⟨_, _, rfl, run_takeDeferred hK, ?_⟩⟩
    refine ⟨_, results_tmp2 rfl _ _ _, ⟨_, rfl, ?_, ?_⟩⟩
    · exact Kd.S_lower (S_turn (B := 0) H2.out (grownBy_putObj' _ D (.deferred none)) (fun r e => by cases e; exact ⟨Nat.zero_le _, _, hK, rfl⟩)) hle
    · exact H5.out.trans (belowK_b (w := w) (Nat.le_refl _) W D _ _ (by omega) hK rfl rfl)
  case stop =>
    rintro D c pre W _ _ h _
    exact h.elim
end Go.Proofs.Ytfkndnocjelhgaa.Ext
