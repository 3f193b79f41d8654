/- encoreref01.through puts the rows of a register's bits over each other. No condition. -/
import Derived.Test.YtijhhnclhgfnlaaBase1
import Derived.Test.YtijhhnclhgfnlaaArr
namespace Go.Proofs.Ytijhhnclhgfnlaa.Ext
open Go.RowKit Go.Proofs.YtijhhnclhgfnlaaW.PrintWords Go.Proofs.YtijhhnclhgfnlaaW.PrintLast Go.Proofs.YtijhhnclhgfnlaaW.PrintMore Go.Proofs.Ytijhhnclhgfnlaa.Base Go.Proofs.Ytijhhnclhgfnlaa.Arr
set_option linter.unusedVariables false
set_option linter.unusedSimpArgs false

/-- the first i bits of a register through a table -/
def thr (L : List Int) (r : Int) : Nat → Int
  | 0 => 0
  | i + 1 => if Go.bits .and .u32 (r / 2 ^ i) 1 = 1 then Go.bits .xor .u32 (thr L r i) (rd L i) else thr L r i
def rowV (L : List Int) : Array Value := (nums .u32 L).toArray
theorem rowV_size (L : List Int) : (rowV L).size = L.length := by simp [rowV, nums]
theorem rowV_get (L : List Int) (i : Nat) (h : i < L.length) : (rowV L)[i]? = some (.int .u32 (rd L i)) := by simp [rowV, nums, rd, h]

set_option maxHeartbeats 2000000 in
set_option maxRecDepth 100000 in
theorem encoreref01_through.calls (L : List Int) (hL : L.length = 32) (r : Int) (w : World) :
    Calls Try.prog 24 #[.agg (rowV L), .int .u32 r] w fun e w' => e = .returned (.int .u32 (thr L r 32)) ∧ Below w.heap.size w w' := by
  have HL := Aside0.mk hL
  clear hL
  have hb0 : Below w.heap.size w (w.alloc (.cells (rowV L) 41)) := (Below.refl _ _).alloc (Nat.le_refl _) _
  have hrow0 := HoldsRow.new w 41 (rowV L)
  go_enter Try.func24, Try.ntmps24
  go_wp2_with fail
  obtain ⟨w2, hw2⟩ : ∃ w2 : World, w2 = w.alloc (.cells (rowV L) 41) := ⟨_, rfl⟩
  rw [← hw2] at hb0 hrow0 ⊢
  have HB := Aside0.mk hb0
  have HROW := Aside0.mk hrow0
  clear hw2 hb0 hrow0
  go_loop [5, 6] (fun v i => ∃ k : Nat, k ≤ 32 ∧ i = .int .i64 k ∧ v = .int .u32 (thr L r k)) (fun _ i => 32 - (intOf i).toNat)
  case atStart => exact ⟨0, by omega, rfl, rfl⟩
  case round =>
    obtain ⟨k, hk, rfl, rfl⟩ := hrel
    by_cases hlt : k < 32
    · have hd : decide ((k : Int) < 32) = true := by simp; omega
      have hc := HROW.out.cell (rowV_get L k (by rw [HL.out]; exact hlt))
      by_cases hbit : Go.bits .and .u32 (r / 2 ^ k) 1 = 1
      · have hbb : (Go.bits .and .u32 (r / 2 ^ k) 1 == 1) = true := beq_iff_eq.mpr hbit
        have Hn := Aside0.mk (show thr L r (k + 1) = Go.bits .xor .u32 (thr L r k) (rd L k) from by simp only [thr]; rw [if_pos hbit])
        clear hbit
        generalize thr L r k = q at *
        go_wp2_with fail
        exact ⟨⟨k + 1, by omega, by go_num, by rw [Hn.out]⟩, by simp [intOf]; omega⟩
      · have hbb : (Go.bits .and .u32 (r / 2 ^ k) 1 == 1) = false := beq_eq_false_iff_ne.mpr hbit
        have Hn := Aside0.mk (show thr L r (k + 1) = thr L r k from by simp only [thr]; rw [if_neg hbit])
        clear hbit
        generalize thr L r k = q at *
        go_wp2_with fail
        exact ⟨⟨k + 1, by omega, by go_num, by rw [Hn.out]⟩, by simp [intOf]; omega⟩
    · obtain rfl : k = 32 := by omega
      have hd : decide (((32 : Nat) : Int) < 32) = false := by simp
      go_wp2_with fail
      go_ret
      exact ⟨rfl, HB.out⟩
end Go.Proofs.Ytijhhnclhgfnlaa.Ext
