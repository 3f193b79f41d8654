/- bin.follow, bin.written and bytes.Clone, walked. Conditions: a whole of 64 bits; a row that append bears. -/
import Derived.Test.YtpkkljlgggfmoaaShelf
import Derived.Test.YtpkkljlgggfmoaaBase1
import Derived.Test.YtpkkljlgggfmoaaArr
import Derived.WalkSpells
namespace Go.Proofs.Ytpkkljlgggfmoaa.Ext
open Go.RowKit Go.Proofs.YtpkkljlgggfmoaaW.PrintWords Go.Proofs.YtpkkljlgggfmoaaW.PrintLast Go.Proofs.YtpkkljlgggfmoaaW.PrintMore Go.Proofs.Ytpkkljlgggfmoaa.Base Go.Proofs.Ytpkkljlgggfmoaa.Arr
set_option linter.unusedVariables false
set_option linter.unusedSimpArgs false

theorem ret_int {k : IntKind} {a b : Int} (h : a = b) : Ending.returned (.int k a) = .returned (.int k b) := by rw [h]
/-- how many bytes follow -/
def fol (v : Nat) : Nat := min ((max (Lib.bitLen v) 1 - 1) / 7) 8
theorem fol_le (v : Nat) : fol v ≤ 8 := by unfold fol; omega
theorem bitLenAux_le (f : Nat) : ∀ x, Lib.bitLenAux f x ≤ f := by
  induction f with
  | zero => intro x; simp [Lib.bitLenAux]
  | succ f ih =>
    intro x
    simp only [Lib.bitLenAux]
    split
    · omega
    · have := ih (x / 2); omega
theorem bitLen_le (x : Nat) : Lib.bitLen x ≤ 64 := bitLenAux_le 64 x
attribute [local go_sem] max2_int min2_int max_two min_two max_three min_three max_four min_four

set_option maxHeartbeats 1000000 in
theorem follow_calls (v : Nat) (hv : v ≤ 18446744073709551615) (w : World) :
    Calls Try.prog 35 #[.int .u64 v] w fun e w' => e = .returned (.int .i64 (fol v : Nat)) ∧ w = w' := by
  have hb := bitLen_le v
  have hf : Aside0 (fol v = min ((max (Lib.bitLen v) 1 - 1) / 7) 8) := ⟨rfl⟩
  go_enter Try.func35, Try.ntmps35
  go_wp2_with fail
  refine (Try.bits_Len64 v _ (by omega) (by omega)).mono ?_
  rintro e w' ⟨rfl, rfl⟩
  rw [Int.toNat_natCast]
  generalize Lib.bitLen v = q at *
  go_wp2_with fail
  all_goals go_ret
  all_goals refine ⟨?_, rfl⟩
  all_goals rw [hf.out]
  all_goals exact ret_int (by omega)

/-- k bytes of a whole, the highest first -/
def be : Nat → Nat → List Int
  | 0, _ => []
  | k + 1, v => ((v / 256 ^ k % 256 : Nat) : Int) :: be k v
theorem be_len (k v : Nat) : (be k v).length = k := by
  induction k with
  | zero => rfl
  | succ k ih => simp [be, ih]
/-- a whole's first byte: the ones that tell how many follow, and what is left of it -/
def headI (n v : Nat) : Int := Go.bits .or .u8 ((v / 256 ^ n % 256 : Nat) : Int) (Go.bits .xor .u8 IntKind.u8.max (255 / 2 ^ n))
def wrL (n v : Nat) : List Int := headI n v :: be n v
theorem int_val {k : IntKind} {a b : Int} (h : a = b) : Value.int k a = .int k b := by rw [h]
theorem wr_set (n k : Nat) (v : Nat) (h : k < n) : (List.replicate (n - k + 1) 0 ++ be k v).set (n - k) ((v / 256 ^ k % 256 : Nat) : Int) = List.replicate (n - (k + 1) + 1) 0 ++ be (k + 1) v := by
  rw [show n - (k + 1) + 1 = n - k by omega]
  rw [List.set_append_left _ _ (by simp), List.replicate_succ', List.set_append_right _ _ (by simp)]
  simp [be]
theorem wr_set0 (n v : Nat) (x : Int) : (List.replicate (n - n + 1) 0 ++ be n v).set 0 x = x :: be n v := by simp

set_option maxHeartbeats 2000000 in
set_option maxRecDepth 100000 in
theorem written_calls (v : Nat) (hv : v ≤ 18446744073709551615) (w : World) :
    Calls Try.prog 29 #[.int .u64 v] w fun e w' => ∃ v0_ : Value, e = .returned v0_ ∧ Kd.R (Kd.int .u8) 5 w' w.heap.size (fun _ => True) v0_ (wrL (fol v) v) ∧ Below w.heap.size w w' := by
  have hn := fol_le v
  have hu8 : IntKind.u8.signed = false := rfl
  have hmk : ∀ W : World, (Instr.makeSlice 22 (.int .i64 (1 + (fol v : Int))) (.int .i64 (1 + (fol v : Int)))).run Try.prog W = .ok (.slice (some ⟨W.heap.size, 0, none⟩) (fol v + 1) (fol v + 1)) (W.alloc (.cells (rowK .u8 (List.replicate (fol v + 1) 0)) 5)) := by
    intro W
    have h := print_make (P := Try.prog) 22 5 .u8 1 Try.underlying22 (by kernel_rfl) (by decide) (fol v + 1) (by omega) W
    rw [rowK_made] at h
    rw [show (1 + (fol v : Int)) = ((fol v + 1 : Nat) : Int) by omega]
    exact h
  have Hn : Aside0 (fol v = fol v) := ⟨rfl⟩
  go_enter Try.func29, Try.ntmps29
  go_wp2_with fail
  refine (follow_calls v hv _).mono ?_
  rintro e w' ⟨rfl, rfl⟩
  have hrow := HoldsRow.new w 5 (rowK .u8 (List.replicate (fol v + 1) 0))
  have hb := (Below.refl w.heap.size w).alloc (Nat.le_refl _) (.cells (rowK .u8 (List.replicate (fol v + 1) 0)) 5)
  clear Hn
  generalize hq : fol v = n at *
  have Hn := Aside0.mk hq
  clear hq
  go_wp2_with fail
  obtain ⟨w1, hw1⟩ : ∃ w1 : World, w1 = w.alloc (.cells (rowK .u8 (List.replicate (n + 1) 0)) 5) := ⟨_, rfl⟩
  rw [← hw1] at hrow hb ⊢
  clear hw1 hmk
  go_loopw [0, 5] (fun x i wr => ∃ k : Nat, k ≤ n ∧ i = .int .i64 ((n - k : Nat) : Int) ∧ x = .int .u64 ((v / 256 ^ k : Nat) : Int) ∧ HoldsRow wr w.heap.size 5 (rowK .u8 (List.replicate (n - k + 1) 0 ++ be k v)) ∧ Below w.heap.size w wr) (fun _ i _ => (intOf i).toNat)
  case atStart => exact ⟨0, by omega, by simp, by simp, by simpa [be] using hrow, hb⟩
  case round =>
    clear hrow hb
    obtain ⟨k, hk, rfl, rfl, hrow, hb⟩ := hrel
    by_cases hlt : k < n
    · have hd : decide ((0 : Int) < ((n - k : Nat) : Int)) = true := by simp; omega
      have hl : (List.replicate (n - k + 1) (0 : Int) ++ be k v).length = n + 1 := by simp [be_len]; omega
      have hc := hrow.cell (rowK_get .u8 _ (n - k) (by rw [hl]; omega))
      have hf := hrow.free (n - k)
      have Hl := Aside0.mk hl
      clear hl
      go_wp2_with fail
      have hs := hrow.set (n - k) (.int .u8 ((v / 256 ^ k % 256 : Nat) : Int))
      rw [rowK_set, wr_set n k v hlt] at hs
      have e1 : ((v / 256 ^ k % 256 : Nat) : Int) = (v : Int) / 256 ^ k % 256 := by simp
      rw [e1] at hs
      exact ⟨⟨k + 1, by omega, int_val (by omega), int_val (by rw [Nat.pow_succ, ← Nat.div_div_eq_div_mul]; simp), hs, hb.setCell (Nat.le_refl _) _⟩, by simp [intOf]; omega⟩
    · obtain rfl : k = n := by omega
      have hd : decide ((0 : Int) < ((k - k : Nat) : Int)) = false := by simp
      have hc := hrow.cell (rowK_get .u8 _ 0 (by simp))
      have hf := hrow.free 0
      go_wp2_with fail
      go_ret
      have hs := hrow.set 0 (.int .u8 (headI k v))
      rw [rowK_set, wr_set0] at hs
      have e1 : headI k v = Go.bits .or .u8 ((v : Int) / 256 ^ k % 256) (Go.bits .xor .u8 IntKind.u8.max (255 / 2 ^ k)) := by simp [headI]
      have hl : (headI k v :: be k v).length = k + 1 := by simp [be_len]
      have hown := hs.own (Nat.le_refl _) (by rw [hl]; omega)
      rw [hl, e1] at hown
      have e2 : wrL (fol v) v = Go.bits .or .u8 ((v : Int) / 256 ^ k % 256) (Go.bits .xor .u8 IntKind.u8.max (255 / 2 ^ k)) :: be k v := by rw [Hn.out, ← e1]; rfl
      rw [e2]
      exact ⟨_, rfl, hown, hb.setCell (Nat.le_refl _) _⟩
end Go.Proofs.Ytpkkljlgggfmoaa.Ext
