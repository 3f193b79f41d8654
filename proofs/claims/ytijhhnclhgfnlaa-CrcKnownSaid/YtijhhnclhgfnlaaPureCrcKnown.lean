/- Sums that are known, and both ends of Join. A closed statement: no condition. -/
import Derived.Test.YtijhhnclhgfnlaaLaws4
import Derived.Test.YtijhhnclhgfnlaaCrcLink
namespace Go.Proofs.Ytijhhnclhgfnlaa.Pure
open Go.RowKit Go.Proofs.Ytijhhnclhgfnlaa.Laws Go.Proofs.YtijhhnclhgfnlaaW.PrintWords Go.Proofs.YtijhhnclhgfnlaaW.PrintLast Go.Proofs.Ytijhhnclhgfnlaa.Base Go.Proofs.Ytijhhnclhgfnlaa.Ext Go.Proofs.Ytijhhnclhgfnlaa.CrcMath Go.Proofs.Ytijhhnclhgfnlaa.CrcLink
set_option linter.unusedVariables false
set_option linter.unusedSimpArgs false

def rise (i j : Nat) : Int := if j < i then (j : Int) else 0
def riseR (i : Nat) : List Int := (List.range 32).map (rise i)
theorem ones_step : ∀ i, i < 32 → (List.replicate i (255 : Int) ++ List.replicate (32 - i) 0).set i 255 = List.replicate (i + 1) 255 ++ List.replicate (32 - (i + 1)) 0 := by decide +kernel
theorem rise_step : ∀ i, i < 32 → (riseR i).set i ((i : Int) % 256) = riseR (i + 1) := by decide +kernel
theorem known_join (k : Nat) (hk : 9223372036854775900 ≤ k) : encorelaw01_CrcKnown.j1 (k + 1) true = some true := by
  simp only [encorelaw01_CrcKnown.j1]
  have h7 : (7 : Int) = toI 7#32 := rfl
  have h9 : (9 : Int) = toI 9#32 := rfl
  have h5 : (5 : Int) = toI 5#32 := rfl
  have h0 : ((0 : Int)) = toI 0#32 := rfl
  have e1 : crc_Join.f k 7 9 0 = some 14 := by rw [h7, h9, join_eq 7#32 9#32 0 k (by simp; omega)]; rfl
  have e2 : crc_Join.f k 7 9 (-1) = some 14 := by rw [h7, h9, join_eq 7#32 9#32 (-1) k (by simp; omega)]; rfl
  have e3 : crc_Join.f k 7 9 (-9223372036854775808) = some 14 := by rw [h7, h9, join_eq 7#32 9#32 (-9223372036854775808) k (by simp; omega)]; rfl
  have e4 : crc_Join.f k 0 5 9223372036854775807 = some 5 := by
    have := join_eq 0#32 5#32 9223372036854775807 k (by omega)
    rw [dk_zero] at this
    exact this
  rw [e1]
  simp only [Option.bind_some, if_true]
  rw [e2]
  simp only [Option.bind_some, if_true]
  rw [e3]
  simp only [Option.bind_some, if_true]
  rw [e4]
  rfl
theorem known_loop (K : Nat) (hK : 9223372036854775900 ≤ K) (d : Nat) : ∀ i, i + d = 32 →
    encorelaw01_CrcKnown.l0 (K + 2 + d) (List.replicate 32 0) (List.replicate i 255 ++ List.replicate (32 - i) 0) (riseR i) i = some true := by
  induction d with
  | zero =>
    intro i hi
    obtain rfl : i = 32 := by omega
    have h := known_join K hK
    simp only [Nat.add_zero, encorelaw01_CrcKnown.l0]
    rw [if_neg (by omega)]
    have a1 : crc_Of.f (List.replicate 32 0) = some 2324772522 := by decide +kernel
    have a2 : crc_Of.f (List.replicate 32 255 ++ List.replicate (32 - 32) 0) = some 1655221059 := by decide +kernel
    have a3 : crc_Of.f (riseR 32) = some 1188919630 := by decide +kernel
    rw [a1]
    simp only [Option.bind_some, if_true]
    rw [a2]
    simp only [Option.bind_some, if_true]
    rw [a3]
    exact h
  | succ d ih =>
    intro i hi
    rw [show K + 2 + (d + 1) = (K + 2 + d) + 1 by omega]
    simp only [encorelaw01_CrcKnown.l0]
    have hr : (riseR i).length = 32 := by simp [riseR]
    have ho : (List.replicate i (255 : Int) ++ List.replicate (32 - i) 0).length = 32 := by simp; omega
    rw [hr, ho, if_pos (by omega), if_pos (by omega), if_pos (by omega), if_pos (by omega), Int.toNat_natCast, ones_step i (by omega), rise_step i (by omega)]
    rw [show wrap64 ((i : Int) + 1) = ((i + 1 : Nat) : Int) by unfold wrap64; omega]
    exact ih (i + 1) (by omega)
theorem CrcKnown : encorelaw01_CrcKnown.Pure := by
  refine ⟨9223372036854775900 + 2 + 32, ?_⟩
  unfold encorelaw01_CrcKnown.f
  rw [if_pos (by decide)]
  have h := known_loop 9223372036854775900 (Nat.le_refl _) 32 0 (by omega)
  have e : riseR 0 = List.replicate 32 0 := by decide +kernel
  rw [e] at h
  exact h
end Go.Proofs.Ytijhhnclhgfnlaa.Pure
