/- What a disk is in memory. No condition. -/
import Derived.Deep.MidRow
import Derived.Test.YtkmgbmnjabmhaaaMapInt
import Derived.Test.YtkmgbmnjabmhaaaBase1
namespace Go.Proofs.Ytkmgbmnjabmhaaa.Ext
open Go Go.RowKit Go.Proofs.YtkmgbmnjabmhaaaW.PrintWords Go.Proofs.YtkmgbmnjabmhaaaW.PrintLast Go.Proofs.YtkmgbmnjabmhaaaW.PrintMore Go.Proofs.Ytkmgbmnjabmhaaa.Base Go.Proofs.Ytkmgbmnjabmhaaa.Arr
set_option linter.unusedVariables false
set_option linter.unusedSimpArgs false

/-- what a disk has: how many sectors; their bytes, one behind the other; what waits; whether the power went; when it is to go -/
structure DS where
  n : Nat
  stays : List Int
  waits : List (Int × List Int)
  dead : Bool
  plan : Option (Int × Int × Int)
def secOf (f : List Int) (i : Nat) : List Int := (f.drop (i * 64)).take 64
def putSec (f : List Int) (i : Nat) (s : List Int) : List Int := f.take (i * 64) ++ s ++ f.drop (i * 64 + 64)
theorem secOf_len {f : List Int} {i n : Nat} (hf : f.length = n * 64) (hi : i < n) : (secOf f i).length = 64 := by
  unfold secOf
  rw [List.length_take, List.length_drop]
  omega
theorem putSec_len {f : List Int} {i n : Nat} {s : List Int} (hf : f.length = n * 64) (hi : i < n) (hs : s.length = 64) : (putSec f i s).length = n * 64 := by
  unfold putSec
  rw [List.length_append, List.length_append, List.length_take, List.length_drop]
  omega
theorem secOf_put {f : List Int} {i j n : Nat} {s : List Int} (hf : f.length = n * 64) (hi : i < n) (hj : j < n) (hs : s.length = 64) : secOf (putSec f i s) j = if j = i then s else secOf f j := by
  apply List.ext_getElem?
  intro q
  unfold secOf putSec
  by_cases hq : q < 64
  · rw [List.getElem?_take_of_lt hq, List.getElem?_drop]
    by_cases e : j = i
    · subst e
      rw [if_pos rfl, List.append_assoc, List.getElem?_append_right (by rw [List.length_take]; omega), List.length_take, List.getElem?_append_left (by omega)]
      congr 1
      omega
    · rw [if_neg e, List.getElem?_take_of_lt hq, List.getElem?_drop]
      by_cases hlt : j < i
      · rw [List.append_assoc, List.getElem?_append_left (by rw [List.length_take]; omega), List.getElem?_take_of_lt (by omega)]
      · rw [List.getElem?_append_right (by rw [List.length_append, List.length_take]; omega), List.length_append, List.length_take, List.getElem?_drop]
        congr 1
        omega
  · rw [List.getElem?_eq_none (by rw [List.length_take]; omega)]
    by_cases e : j = i
    · rw [if_pos e, List.getElem?_eq_none (by omega)]
    · rw [if_neg e, List.getElem?_eq_none (by rw [List.length_take]; omega)]
/-- a write that waits: 65 cells -/
def wrK : Kd (Int × List Int) where
  sz := 65
  E := []
  K := fun _ x cs => cs = Value.int .i64 x.1 :: nums .u8 x.2 ∧ x.2.length = 64
  M := fun _ _ _ x cs => cs = Value.int .i64 x.1 :: nums .u8 x.2 ∧ x.2.length = 64
  K_len := by
    rintro w x cs ⟨rfl, h⟩
    simp [nums, h]
  K_one := by
    rintro w x cs ⟨rfl, h⟩ u hu
    rcases List.mem_cons.1 hu with rfl | hu
    · rfl
    · unfold nums at hu
      obtain ⟨y, _, rfl⟩ := List.mem_map.1 hu
      rfl
  K_below := fun _ h => h
  K_of_M := fun h => h
  M_mono := fun _ h => h
  M_bound := fun h => h
  M_move := fun _ h => h
  M_lower := fun _ h => h
def lastW (l : List (Int × List Int)) (k : Int) : Option (List Int) := l.foldl (fun a p => if p.1 = k then some p.2 else a) none
theorem lastW_snoc (l : List (Int × List Int)) (p : Int × List Int) (k : Int) : lastW (l ++ [p]) k = if p.1 = k then some p.2 else lastW l k := by
  unfold lastW
  rw [List.foldl_append]
  rfl
def seenF (l : List (Int × List Int)) (k : Int) : Option Value := (lastW l k).map fun s => .agg (rowK .u8 s)
def PlanIs (W : World) (base : Nat) (ok : Nat → Prop) (pp : Option Addr) : Option (Int × Int × Int) → Prop
  | none => pp = none
  | some (l, b, c) => ∃ pb, pp = some ⟨pb, 0, none⟩ ∧ HoldsRow W pb 75 #[.int .i64 l, .int .u64 b, .int .i64 c] ∧ ok pb ∧ base ≤ pb ∧ l ≤ 9223372036854775807
def Good (s : DS) : Prop := 1 ≤ s.n ∧ s.n ≤ 512 ∧ s.stays.length = s.n * 64 ∧ ∀ p ∈ s.waits, 0 ≤ p.1 ∧ p.1 < s.n ∧ p.2.length = 64
/-- the struct's cells -/
def dcells (gs m n : Nat) (vw : Value) (dead : Bool) (pp : Option Addr) : Array Value := #[.slice (some ⟨gs, 0, none⟩) n n, .map (some m), vw, .bool dead, .pointer pp]
def DiskIs (W : World) (base : Nat) (ok : Nat → Prop) (g : Nat) (s : DS) : Prop :=
  ∃ (gs m : Nat) (vw : Value) (pp : Option Addr), HoldsRow W g 65 (dcells gs m s.n vw s.dead pp) ∧ HoldsRow W gs 68 (rowK .u8 s.stays) ∧ MapIs W m (seenF s.waits) ∧ Kd.R wrK 70 W base ok vw s.waits ∧ PlanIs W base ok pp s.plan ∧ (ok g ∧ ok gs ∧ ok m) ∧ (base ≤ g ∧ base ≤ gs ∧ base ≤ m) ∧ Good s
theorem hr_move {W W1 : World} {b : Nat} {t : TypeId} {cs : Array Value} (h : HoldsRow W b t cs) (hm : W1.heap[b]? = W.heap[b]?) : HoldsRow W1 b t cs := hm.trans h
theorem PlanIs.move {W W1 : World} {base : Nat} {ok : Nat → Prop} {pp : Option Addr} {p : Option (Int × Int × Int)} (h : PlanIs W base ok pp p) (hm : ∀ k, ok k → k < W.heap.size → W1.heap[k]? = W.heap[k]?) : PlanIs W1 base ok pp p := by
  cases p with
  | none => exact h
  | some q =>
    obtain ⟨l, b, c⟩ := q
    obtain ⟨pb, e, hr, h1, h2⟩ := h
    exact ⟨pb, e, hr_move hr (hm pb h1 hr.lt), h1, h2⟩
theorem PlanIs.mono {W : World} {base : Nat} {ok ok' : Nat → Prop} {pp : Option Addr} {p : Option (Int × Int × Int)} (h : PlanIs W base ok pp p) (hm : ∀ k, ok k → k < W.heap.size → ok' k) : PlanIs W base ok' pp p := by
  cases p with
  | none => exact h
  | some q =>
    obtain ⟨l, b, c⟩ := q
    obtain ⟨pb, e, hr, h1, h2⟩ := h
    exact ⟨pb, e, hr, hm pb h1 hr.lt, h2⟩
theorem DiskIs.move {W W1 : World} {base : Nat} {ok : Nat → Prop} {g : Nat} {s : DS} (h : DiskIs W base ok g s) (hm : ∀ k, ok k → k < W.heap.size → W1.heap[k]? = W.heap[k]?) : DiskIs W1 base ok g s := by
  obtain ⟨gs, m, vw, pp, h1, h2, h3, h4, h5, ⟨o1, o2, o3⟩, hb, hG⟩ := h
  exact ⟨gs, m, vw, pp, hr_move h1 (hm g o1 h1.lt), hr_move h2 (hm gs o2 h2.lt), h3.move (hm m o3 h3.lt), Kd.R_step h4 hm, h5.move hm, ⟨o1, o2, o3⟩, hb, hG⟩
theorem DiskIs.mono {W : World} {base : Nat} {ok ok' : Nat → Prop} {g : Nat} {s : DS} (h : DiskIs W base ok g s) (hm : ∀ k, ok k → k < W.heap.size → ok' k) : DiskIs W base ok' g s := by
  obtain ⟨gs, m, vw, pp, h1, h2, h3, h4, h5, ⟨o1, o2, o3⟩, hb, hG⟩ := h
  exact ⟨gs, m, vw, pp, h1, h2, h3, Kd.R_mono (Kd.R_bound h4) (fun k hk => hm k hk.1 hk.2.2.1), h5.mono hm, ⟨hm g o1 h1.lt, hm gs o2 h2.lt, hm m o3 h3.lt⟩, hb, hG⟩
theorem DiskIs.below {W W1 : World} {base : Nat} {ok : Nat → Prop} {g : Nat} {s : DS} (h : DiskIs W base ok g s) (hb : Below W.heap.size W W1) : DiskIs W1 base ok g s := h.move (fun k _ hk => hb.block k hk)
/-- what a call does to a disk: all else lies as it lay -/
def DiskTo (w w' : World) (base : Nat) (ok : Nat → Prop) (g : Nat) (s : DS) : Prop :=
  Below base w w' ∧ Kept w w' ok ∧ ∃ ok' : Nat → Prop, (∀ k, ok' k → (ok k ∨ w.heap.size ≤ k) ∧ k < w'.heap.size) ∧ DiskIs w' base ok' g s
theorem DiskTo.same {w : World} {base : Nat} {ok : Nat → Prop} {g : Nat} {s : DS} (h : DiskIs w base ok g s) : DiskTo w w base ok g s :=
  ⟨Below.refl _ _, Kept.refl _ _, fun k => ok k ∧ k < w.heap.size, fun k hk => ⟨.inl hk.1, hk.2⟩, h.mono (fun k h1 h2 => ⟨h1, h2⟩)⟩
theorem DiskTo.trans {w w1 w2 : World} {base : Nat} {ok ok1 : Nat → Prop} {g : Nat} {s : DS} (hb : Below base w w1) (hk : Kept w w1 ok) (hsub : ∀ k, ok1 k → ok k ∨ w.heap.size ≤ k) (h : DiskTo w1 w2 base ok1 g s) : DiskTo w w2 base ok g s := by
  obtain ⟨h1, h2, ok2, h3, h4⟩ := h
  refine ⟨hb.trans h1, hk.then_ h2 hsub, ok2, fun k hk2 => ⟨?_, (h3 k hk2).2⟩, h4⟩
  rcases (h3 k hk2).1 with h5 | h5
  · exact hsub k h5
  · exact .inr (Nat.le_trans hk.1 h5)
end Go.Proofs.Ytkmgbmnjabmhaaa.Ext
