/- slices.Chunk by 47: its iterator's contract. Condition: a row that lies somewhere. -/
import Derived.RangeFuncBox
import Derived.RangeFuncNested
import Derived.RangeFuncBound
import Derived.RangeFuncCalls
import Derived.RangeFuncLeaves
import Derived.WalkKit
import Derived.OwnWalkIn
import Derived.TacticsInMore
import Derived.LoopNIn
import Derived.LoopIn
import Derived.Test.YtfkndnocjelhgaaBytes
namespace Go.Proofs.Ytfkndnocjelhgaa.Ext
open Go Go.RowKit Go.Proofs.YtfkndnocjelhgaaW.PrintWords Go.Proofs.YtfkndnocjelhgaaW.PrintLast Go.Proofs.YtfkndnocjelhgaaW.PrintMore Go.Proofs.Ytfkndnocjelhgaa.Base Go.Proofs.Ytfkndnocjelhgaa.Arr
set_option linter.unusedVariables false
set_option linter.unusedSimpArgs false
attribute [local go_sem] Oper.semAt_some

/-- how long piece k is -/
def pieceL (m k : Nat) : Nat := min 47 (m - 47 * k)
/-- how many pieces -/
def pieces (m : Nat) : Nat := (m + 46) / 47
/-- piece k, as a value -/
def pieceV (ad : Addr) (m k : Nat) : Value := .slice (some (ad.add (47 * k))) (pieceL m k) (pieceL m k)
/-- the two boxes lie as they lay -/
def KeepsTwo (B1 B2 : Nat) (W W' : World) : Prop := W'.heap[B1]? = W.heap[B1]? ∧ W'.heap[B2]? = W.heap[B2]?
def upto (m k : Nat) : List { k : Nat // k < pieces m } := (List.range (pieces m)).attach.take k |>.map fun x => ⟨x.1, List.mem_range.1 x.2⟩
theorem upto_succ (m k : Nat) (h : k < pieces m) : upto m (k + 1) = upto m k ++ [⟨k, h⟩] := by
  unfold upto
  rw [List.take_add_one, List.map_append]
  congr 1
  rw [List.getElem?_eq_getElem (by simpa using h)]
  simp
theorem upto_length (m k : Nat) (h : k ≤ pieces m) : (upto m k).length = k := by
  unfold upto
  simp [h]
set_option maxRecDepth 100000 in
set_option maxHeartbeats 4000000 in
theorem chunk1_in (n : Nat) (hn : 1 ≤ n) (l B1 B2 : Nat) (ad : Addr) (m cap : Nat) (h0m : 0 < m) (hmc : m ≤ cap) (hm : m ≤ 1000000000000) (J Jx : List { k : Nat // k < pieces m } → World → Prop)
    (hY : ∀ pre x W, J pre W → pre.length < pieces m → YieldAt Fence.wide (n - 1) Try.prog l #[pieceV ad m x.1] W fun e W' =>
      (e = .returned (.bool true) ∧ J (pre ++ [x]) W' ∧ KeepsTwo B1 B2 W W') ∨ (e = .returned (.bool false) ∧ Jx (pre ++ [x]) W'))
    (W : World) (h1 : HoldsRow W B1 24 #[.slice (some ad) m cap]) (h2 : HoldsRow W B2 3 #[.int .i64 47]) (hJd : ∀ pre W, J pre W → J pre W.drew) (h0 : J [] W) :
    CallsIn Fence.wide n Try.prog 40 #[.func (.yield l) #[] #[], .pointer (some ⟨B1, 0, none⟩), .pointer (some ⟨B2, 0, none⟩)] W fun e W' => (∃ v, e = .returned v) ∧
      ((∃ ys, ys = upto m (pieces m) ∧ J ys W') ∨ (∃ pre, (∃ k, k ≤ pieces m ∧ pre = upto m k) ∧ Jx pre W')) := by
  refine callsIn_of_wp Try.func40 rfl trivial ?_ rfl
  simp only [Try.ntmps40, List.size_toArray, List.length_cons, List.length_nil, Nat.reduceAdd, Nat.reduceSub, Array.replicate_succ, Array.replicate_zero, List.push_toArray, List.append_toArray, List.nil_append, List.cons_append]
  have HJD := Aside0.mk hJd
  clear hJd
  have H0M := Aside0.mk h0m
  have HMC := Aside0.mk hmc
  have HM := Aside0.mk hm
  have P1 := Aside0.mk h1
  have P2 := Aside0.mk h2
  clear h0m hmc hm h1 h2
  gi_wp2
  gi_loopw [4] (fun i wr => ∃ k q : Nat, k ≤ pieces m ∧ q = 47 * k ∧ i = .int .i64 (q : Nat) ∧ J (upto m k) wr ∧ Aside0 (HoldsRow wr B1 24 #[.slice (some ad) m cap]) ∧ Aside0 (HoldsRow wr B2 3 #[.int .i64 47]))
    (fun i _ => 47 * pieces m - (intOf i).toNat)
  case atStart => exact ⟨0, 0, Nat.zero_le _, rfl, rfl, h0, P1, P2⟩
  case round =>
    obtain ⟨k, q, hk, hq, rfl, hJs, Q1, Q2⟩ := hrel
    have c1 := Q1.out.cell (j := 0) rfl
    have c2 := Q2.out.cell (j := 0) rfl
    have HQ := Aside0.mk hq
    clear hq
    by_cases hlt : k < pieces m
    · obtain ⟨fn, tmps, assign, body, hy, hR⟩ := hY _ ⟨k, hlt⟩ wr.drew (HJD.out _ _ hJs) (by rw [upto_length m k hk]; exact hlt)
      obtain ⟨e, he⟩ : ∃ e, e = pieceL m k := ⟨_, rfl⟩
      have hqm : q < m := by have := HQ.out; unfold pieces at hlt; omega
      have hee : e = min 47 (m - q) := by rw [he, HQ.out]; rfl
      unfold pieceV at hy
      rw [← HQ.out, ← he] at hy
      have hmc := HMC.out
      have hmm := HM.out
      have d1 : decide ((q : Int) < (m : Int)) = true := decide_eq_true (by omega)
      have b0 := eq_true (show (0 : Int) ≤ (q : Int) by omega)
      have b1 := eq_true (show (q : Int) ≤ (m : Int) by omega)
      have b2 := eq_true (show (q : Int) ≤ (cap : Int) by omega)
      have b3 := eq_true (show q ≤ m by omega)
      have b4 := eq_true (show q ≤ cap by omega)
      have x0 : min (47 : Int) ((m - q : Nat) : Int) = (e : Int) := by rw [hee]; omega
      have he1 : 0 < e := by omega
      have he2 : q + e ≤ m := by omega
      clear hee he
      gi_wp2
      gi_region
      have x1 : ((q : Int) + (e : Int)).toNat = q + e := by omega
      have x4 : wrap64 ((q : Int) + (e : Int)) = (q : Int) + (e : Int) := by unfold wrap64; omega
      have x5 := eq_false (show ¬ cap = q by omega)
      have x6 := eq_true (show (0 : Int) ≤ (q : Int) + (e : Int) by omega)
      have x7 := eq_true (show q ≤ q + e by omega)
      have x8 := eq_false (show ¬ e = 0 by omega)
      have x9 := eq_true (show q + e ≤ cap by omega)
      have x2 := eq_true (show (q : Int) ≤ (q : Int) + (e : Int) by omega)
      have x3 := eq_true (show (q : Int) + (e : Int) ≤ (cap : Int) by omega)
      gi_wp2
      refine hR.mono ?_
      rintro e2 W3 (⟨rfl, hJ3, hk3⟩ | ⟨rfl, hJx3⟩)
      · have R1 := Aside0.mk (hr_move Q1.out hk3.1)
        have R2 := Aside0.mk (hr_move Q2.out hk3.2)
        have k2 := R2.out.cell (j := 0) rfl
        have y0 : wrap64 ((q : Int) + 47) = (q : Int) + 47 := by unfold wrap64; omega
        clear x1 x4 x5 x6 x7 x8 x9 x2 x3 c1 c2 hk3
        gi_wp2
        go_roundw
        case rel => exact ⟨k + 1, q + 47, by omega, by have := HQ.out; omega, rfl, by rw [upto_succ m k hlt]; exact hJ3, R1, R2⟩
        case measure =>
          show 47 * pieces m - ((q : Int) + 47).toNat < 47 * pieces m - (q : Int).toNat
          have := HQ.out
          omega
      · gi_wp2
        refine bodyPost_ret (results_none rfl _ _ _) rfl ?_
        exact ⟨⟨_, rfl⟩, .inr ⟨_, ⟨k + 1, by omega, (upto_succ m k hlt).symm⟩, hJx3⟩⟩
    · obtain rfl : k = pieces m := by omega
      have hqm : ¬ q < m := by have := HQ.out; unfold pieces at this; omega
      have d1 : decide ((q : Int) < (m : Int)) = false := decide_eq_false (by omega)
      gi_wp2
      go_end0
      exact ⟨⟨_, rfl⟩, .inl ⟨_, rfl, hJs⟩⟩
theorem drew_grown (W : World) : W.grownBy W.drew none := ⟨rfl, rfl, rfl, Nat.le_refl _, fun _ _ _ => rfl⟩
theorem chunk_stops (n : Nat) (hn : 1 ≤ n) (B1 B2 : Nat) (ad : Addr) (m cap : Nat) (h0m : 0 < m) (hmc : m ≤ cap) (hm : m ≤ 1000000000000) (w : World) (h1 : HoldsRow w B1 24 #[.slice (some ad) m cap]) (h2 : HoldsRow w B2 3 #[.int .i64 47]) :
    SeqStopsK Fence.wide n Try.prog 40 #[.pointer (some ⟨B1, 0, none⟩), .pointer (some ⟨B2, 0, none⟩)] (fun x : { k : Nat // k < pieces m } => #[pieceV ad m x.1]) (KeepsTwo B1 B2) (fun ys => ys = upto m (pieces m)) (fun _ => True) (pieces m) w :=
  fun l J Jx W hW hJ _ hY h0 => by
  refine (chunk1_in n hn l B1 B2 ad m cap h0m hmc hm J Jx hY W (h1.below hW h1.lt) (h2.below hW h2.lt) (fun pre W2 h => hJ _ _ _ none h (drew_grown W2) (fun r e => by cases e)) h0).mono ?_
  rintro e W' ⟨he, ⟨ys, rfl, hj⟩ | ⟨pre, _, hj⟩⟩
  · exact ⟨he, .inl ⟨_, rfl, hj⟩⟩
  · exact ⟨he, .inr ⟨_, trivial, hj⟩⟩
end Go.Proofs.Ytfkndnocjelhgaa.Ext
