/- crc.table makes the sixteen halves: what each four bits make of a register. No condition. -/
import Derived.Test.YtgfjijfjlbjajaaBase1
import Derived.Test.YtgfjijfjlbjajaaArr
namespace Go.Proofs.Ytgfjijfjlbjajaa.Ext
open Go.RowKit Go.Proofs.YtgfjijfjlbjajaaW.PrintWords Go.Proofs.YtgfjijfjlbjajaaW.PrintLast Go.Proofs.YtgfjijfjlbjajaaW.PrintMore Go.Proofs.Ytgfjijfjlbjajaa.Base Go.Proofs.Ytgfjijfjlbjajaa.Arr
set_option linter.unusedVariables false
set_option linter.unusedSimpArgs false

/-- a register goes down by a place -/
def dn (x : Int) : Int := Go.bits .xor .u32 (x / 2) (Go.bits .and .u32 ((-(Go.bits .and .u32 x 1)) % 4294967296) 2197175160)
def dnk : Nat → Int → Int
  | 0, x => x
  | k + 1, x => dn (dnk k x)
/-- the row behind i rounds -/
def tabF (i j : Nat) : Value := if j < i then .int .u32 (dnk 4 j) else .int .u32 0
def tabR (i : Nat) : Array Value := ((List.range 16).map (tabF i)).toArray
theorem tabR_size (i : Nat) : (tabR i).size = 16 := by simp [tabR]
theorem tabR_get (i j : Nat) (h : j < 16) : (tabR i)[j]? = some (tabF i j) := by simp [tabR, h]
theorem tabR_zero : tabR 0 = #[.int .u32 0, .int .u32 0, .int .u32 0, .int .u32 0, .int .u32 0, .int .u32 0, .int .u32 0, .int .u32 0, .int .u32 0, .int .u32 0, .int .u32 0, .int .u32 0, .int .u32 0, .int .u32 0, .int .u32 0, .int .u32 0] := by
  simp [tabR, tabF, List.range, List.range.loop]
theorem tabR_step (i : Nat) (h : i < 16) : (tabR i).setIfInBounds i (.int .u32 (dnk 4 i)) = tabR (i + 1) := by
  apply Array.ext_getElem?
  intro j
  by_cases hj : j < 16
  · rw [tabR_get _ _ hj, Array.getElem?_setIfInBounds]
    by_cases e : i = j
    · subst e
      simp [tabF, tabR_size, h]
    · rw [if_neg e, tabR_get _ _ hj]
      have hh : (j < i) = (j < i + 1) := by simp; omega
      simp only [tabF, hh]
  · rw [Array.getElem?_eq_none (by simp [tabR_size]; omega), Array.getElem?_eq_none (by rw [tabR_size]; omega)]
set_option maxHeartbeats 1000000 in
set_option maxRecDepth 100000 in
theorem crc_table.calls (w : World) :
    Calls Try.prog 36 #[] w fun e w' => e = .returned (.agg (tabR 16)) ∧ Below w.heap.size w w' := by
  go_enter Try.func36, Try.ntmps36
  go_wp2
  go_loopw [1, 2, 9] (fun _ i _ wr => ∃ k : Nat, k ≤ 16 ∧ i = .int .i64 k ∧ HoldsRow wr w.heap.size 59 (tabR k) ∧ Below w.heap.size w wr) (fun _ i _ _ => 16 - (intOf i).toNat)
  case atStart => exact ⟨0, by omega, rfl, (by unfold HoldsRow; rw [tabR_zero]; exact heap_alloc_new _ _), (Below.refl _ _).alloc (Nat.le_refl _) _⟩
  case round =>
    obtain ⟨k, hk, rfl, hrow, hb⟩ := hrel
    by_cases hlt : k < 16
    · have hc := hrow.cell (tabR_get k k hlt)
      have hf := hrow.free k
      have hd : decide ((k : Int) < 16) = true := by simp; omega
      go_wp2
      clear hd
      obtain ⟨wo, hwo⟩ : ∃ wo : World, wo = wr.setCell ⟨w.heap.size, k, none⟩ (.int .u32 k) := ⟨_, rfl⟩
      have hrow1 : HoldsRow wo w.heap.size 59 ((tabR k).setIfInBounds k (.int .u32 (dnk 0 k))) := by rw [hwo]; exact hrow.set k _
      have hb1 : Below w.heap.size w wo := by rw [hwo]; exact hb.setCell (Nat.le_refl _) _
      rw [← hwo]
      clear hwo hc hf hrow hb
      go_loopw [9, 11, 12, 13, 14, 15, 16, 17] (fun i _ _ _ _ _ _ _ wr => ∃ m : Nat, m ≤ 4 ∧ i = .int .i64 m ∧ HoldsRow wr w.heap.size 59 ((tabR k).setIfInBounds k (.int .u32 (dnk m k))) ∧ Below w.heap.size w wr) (fun i _ _ _ _ _ _ _ _ => 4 - (intOf i).toNat)
      case atStart => exact ⟨0, by omega, rfl, hrow1, hb1⟩
      case round =>
        clear hrow1 hb1
        obtain ⟨m, hm, rfl, hrow, hb⟩ := hrel
        by_cases hlm : m < 4
        · have hc := hrow.cell (j := k) (v := .int .u32 (dnk m k)) (by simp [tabR_size, hlt])
          have hf := hrow.free k
          go_wp2_with fail
          refine (crc_down.calls (dnk m k) (dnk (m + 1) k) _ rfl).mono ?_
          rintro e w' ⟨rfl, ⟨nd, rfl⟩⟩
          go_wp2_with fail
          go_roundw
          case rel => exact ⟨m + 1, by omega, by go_num, (by have h := hrow.set k (.int .u32 (dnk (m + 1) k)); rw [Array.setIfInBounds_setIfInBounds] at h; exact h), (pw_below_drewN hb nd).setCell (Nat.le_refl _) _⟩
          case measure => simp [intOf]; omega
        · obtain rfl : m = 4 := by omega
          rw [tabR_step k hlt] at hrow
          go_wp2_with fail
          go_roundw
          case rel => exact ⟨k + 1, by omega, by go_num, hrow, hb⟩
          case measure => simp [intOf]; omega
    · obtain rfl : k = 16 := by omega
      have hz : (tabR 16).size = 16 := tabR_size 16
      go_wp2_with (first | (refine wpList_load_row rfl 59 _ rfl w.heap.size rfl 59 (tabR 16) (0, 0) _ hrow Try.underlying59 rfl (by rw [tabR_size]; kernel_rfl) ?_) | (refine wpList_store_row rfl 59 _ _ rfl w.heap.size (tabR 16) rfl rfl 59 (tabR 16) hrow (by rw [tabR_size]; kernel_rfl) rfl (by decide +kernel) ?_))
      exact bodyPost_ret (results_cell_row (p := 0) (ty := 59) rfl _ _ w.heap.size 59 (tabR 16) (0, 0) _ rfl (hrow.row _) Try.underlying59 rfl (by rw [tabR_size]; kernel_rfl)) rfl ⟨rfl, below_setRow hb _ (Nat.le_refl _)⟩
end Go.Proofs.Ytgfjijfjlbjajaa.Ext
