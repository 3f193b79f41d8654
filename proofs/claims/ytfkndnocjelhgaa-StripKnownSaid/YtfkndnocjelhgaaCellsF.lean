/- strip.Cells and strip.Front, as the printed texts speak of a function. Condition: a million million bytes at most; bytes are bytes. -/
import Derived.Test.YtfkndnocjelhgaaRead
namespace Go.Proofs.Ytfkndnocjelhgaa.Ext
open Go Go.RowKit Go.Proofs.YtfkndnocjelhgaaW.PrintWords Go.Proofs.YtfkndnocjelhgaaW.PrintLast Go.Proofs.YtfkndnocjelhgaaW.PrintMore Go.Proofs.Ytfkndnocjelhgaa.Base Go.Proofs.Ytfkndnocjelhgaa.Arr
set_option linter.unusedVariables false
set_option linter.unusedSimpArgs false

def goodS (g e : Int) : Prop := 1 ≤ g ∧ g < 4294967296 ∧ 0 ≤ e ∧ e < 4294967296
instance (g e : Int) : Decidable (goodS g e) := by unfold goodS; infer_instance
set_option maxHeartbeats 4000000 in
set_option maxRecDepth 100000 in
theorem Cells_bad (w : World) (A : Option Addr) (m c : Nat) (g e : Int) (h : ¬ goodS g e) :
    Calls Try.prog 12 #[.agg #[.int .i64 g, .int .i64 e], .slice A m c] w fun en w' => en = .returned (.tuple #[.slice none 0 0, .int .i64 9]) ∧ Below w.heap.size w w' := by
  have hq : g < 1 ∨ (¬ g < 1 ∧ 4294967295 < g) ∨ (¬ g < 1 ∧ ¬ 4294967295 < g ∧ e < 0) ∨ (¬ g < 1 ∧ ¬ 4294967295 < g ∧ ¬ e < 0 ∧ 4294967295 < e) := by unfold goodS at h; omega
  clear h
  rcases hq with h0 | ⟨h0, h1⟩ | ⟨h0, h1, h2⟩ | ⟨h0, h1, h2, h3⟩
  · have d0 : decide (g < 1) = true := decide_eq_true h0
    have d00 := eq_true h0
    go_enter Try.func12, Try.ntmps12
    go_wp2_with fail
    go_ret2
    exact ⟨rfl, below_alloc (Below.refl _ _) _⟩
  · have d0 : decide (g < 1) = false := decide_eq_false h0
    have d1 : decide (4294967295 < g) = true := decide_eq_true h1
    have d00 := eq_false h0
    have d01 := eq_true h1
    go_enter Try.func12, Try.ntmps12
    go_wp2_with fail
    go_ret2
    exact ⟨rfl, below_alloc (Below.refl _ _) _⟩
  · have d0 : decide (g < 1) = false := decide_eq_false h0
    have d1 : decide (4294967295 < g) = false := decide_eq_false h1
    have d2 : decide (e < 0) = true := decide_eq_true h2
    have d00 := eq_false h0
    have d01 := eq_false h1
    have d02 := eq_true h2
    go_enter Try.func12, Try.ntmps12
    go_wp2_with fail
    go_ret2
    exact ⟨rfl, below_alloc (Below.refl _ _) _⟩
  · have d0 : decide (g < 1) = false := decide_eq_false h0
    have d1 : decide (4294967295 < g) = false := decide_eq_false h1
    have d2 : decide (e < 0) = false := decide_eq_false h2
    have d3 : decide (4294967295 < e) = true := decide_eq_true h3
    have d00 := eq_false h0
    have d01 := eq_false h1
    have d02 := eq_false h2
    have d03 := eq_true h3
    go_enter Try.func12, Try.ntmps12
    go_wp2_with fail
    go_ret2
    exact ⟨rfl, below_alloc (Below.refl _ _) _⟩
set_option maxHeartbeats 4000000 in
set_option maxRecDepth 100000 in
theorem Cells_empty (w : World) (A : Option Addr) (c : Nat) (g e : Int) (h : goodS g e) :
    Calls Try.prog 12 #[.agg #[.int .i64 g, .int .i64 e], .slice A 0 c] w fun en w' => en = .returned (.tuple #[.slice none 0 0, .int .i64 2]) ∧ Below w.heap.size w w' := by
  unfold goodS at h
  have d0 : decide (g < 1) = false := decide_eq_false (by omega)
  have d1 : decide (4294967295 < g) = false := decide_eq_false (by omega)
  have d2 : decide (e < 0) = false := decide_eq_false (by omega)
  have d3 : decide (4294967295 < e) = false := decide_eq_false (by omega)
  have d00 := eq_false (show ¬ g < 1 by omega)
  have d01 := eq_false (show ¬ 4294967295 < g by omega)
  have d02 := eq_false (show ¬ e < 0 by omega)
  have d03 := eq_false (show ¬ 4294967295 < e by omega)
  clear h
  go_enter Try.func12, Try.ntmps12
  go_wp2_with fail
  go_ret2
  exact ⟨rfl, below_alloc (Below.refl _ _) _⟩
/-- a run's cells -/
def runCells (g e : Nat) (b : List Int) : List (List Int) := cellsOf g e b (upto b.length (pieces b.length))
def strip_Cells.f (a0_0 a0_1 : Int) (l1 : List Int) : Option (List (List Int) × Int) :=
  if ¬ goodS a0_0 a0_1 then some ([], 9) else if l1.length = 0 then some ([], 2) else if l1.length ≤ 1000000000000 then some (runCells a0_0.toNat a0_1.toNat l1, 0) else none
theorem strip_Cells.calls (a0_0 a0_1 : Int) (A1 : Option Addr) (c1 : Nat) (l1 : List Int) (r1 : List (List Int)) (r2 : Int) (w : World) (hr1 : Kd.C (Kd.int .u8) w A1 l1.length l1) (hc1 : l1.length ≤ c1) (h : strip_Cells.f a0_0 a0_1 l1 = some (r1, r2)) :
    Calls Try.prog 12 #[.agg #[.int .i64 a0_0, .int .i64 a0_1], .slice A1 l1.length c1] w fun e w' => ∃ v0_ : Value, e = .returned (.tuple #[v0_, .int .i64 r2]) ∧ Kd.S (Kd.slice 5 (Kd.int .u8)) 24 w' w.heap.size (fun _ => True) v0_ r1 ∧ Below w.heap.size w w' := by
  unfold strip_Cells.f at h
  by_cases hg : goodS a0_0 a0_1
  · rw [if_neg (fun k => k hg)] at h
    by_cases h0 : l1.length = 0
    · rw [if_pos h0] at h
      cases h
      rw [h0]
      exact (Cells_empty w A1 c1 a0_0 a0_1 hg).mono (by rintro e w' ⟨rfl, hb⟩; exact ⟨_, rfl, Kd.S_nil _ _ _ _ _, hb⟩)
    · rw [if_neg h0] at h
      split at h
      · rename_i hm
        cases h
        obtain ⟨ad, rfl, -⟩ := hr1.2.2 (by omega)
        obtain ⟨g1, g2, g3, g4⟩ := hg
        obtain ⟨g, rfl⟩ : ∃ g : Nat, a0_0 = (g : Int) := ⟨a0_0.toNat, by omega⟩
        obtain ⟨e, rfl⟩ : ∃ e : Nat, a0_1 = (e : Int) := ⟨a0_1.toNat, by omega⟩
        exact Cells_calls w ad c1 l1 g e hr1 (by omega) hc1 hm (by omega) (by omega) (by omega)
      · cases h
  · rw [if_pos hg] at h
    cases h
    exact (Cells_bad w A1 l1.length c1 a0_0 a0_1 hg).mono (by rintro e w' ⟨rfl, hb⟩; exact ⟨_, rfl, Kd.S_nil _ _ _ _ _, hb⟩)
def bytesB (l : List Int) : Bool := l.all fun x => decide (0 ≤ x ∧ x < 256)
theorem bytes_of {l : List Int} (h : bytesB l = true) : Bytes l := fun x hx => by
  have := List.all_eq_true.1 h x hx
  simpa using this
theorem bytes_to {l : List Int} (h : Bytes l) : bytesB l = true := List.all_eq_true.2 fun x hx => by simpa using h x hx
def strip_Front.f (l0 : List Int) : Option (Int × Int × Int) :=
  if l0.length = 64 then (if bytesB l0 = true then some ((stampV l0 : Int) / 4294967296, (stampV l0 : Int) % 4294967296, 0) else none) else some (0, 0, 2)
theorem strip_Front.calls (A0 : Option Addr) (c0 : Nat) (l0 : List Int) (r1 r2 r3 : Int) (w : World) (hr0 : Kd.C (Kd.int .u8) w A0 l0.length l0) (hc0 : l0.length ≤ c0) (h : strip_Front.f l0 = some (r1, r2, r3)) :
    Calls Try.prog 21 #[.slice A0 l0.length c0] w fun e w' => e = .returned (.tuple #[.agg #[.int .i64 r1, .int .i64 r2], .int .i64 r3]) ∧ Below w.heap.size w w' := by
  unfold strip_Front.f at h
  split at h
  · rename_i hl
    split at h
    · rename_i hb
      cases h
      rw [hl] at hr0 hc0 ⊢
      exact Front_calls w A0 c0 l0 hr0 hc0 (bytes_of hb)
    · cases h
  · rename_i hl
    cases h
    exact Front_none w A0 c0 l0.length hl hr0.2.1
end Go.Proofs.Ytfkndnocjelhgaa.Ext
