/- Checksums of rows one behind the other, and put over each other: the plain law. -/
import Derived.Test.YtijhhnclhgfnlaaCrcMath
namespace Go.Proofs.Ytijhhnclhgfnlaa.CrcMath
open Go Go.RowKit
set_option linter.unusedVariables false
set_option linter.unusedSimpArgs false

theorem bstep_xor (r q : R) (x : Int) : bstep (r ^^^ q) x = bstep r x ^^^ dk 8 q := by
  unfold bstep
  rw [show r ^^^ q ^^^ BitVec.ofInt 32 x = (r ^^^ BitVec.ofInt 32 x) ^^^ q by ac_rfl, dk_xor]
theorem fold_xor (l : List Int) : ∀ r q, l.foldl bstep (r ^^^ q) = l.foldl bstep r ^^^ dk (8 * l.length) q := by
  induction l with
  | nil => intro r q; rfl
  | cons x l ih =>
    intro r q
    simp only [List.foldl_cons, List.length_cons]
    rw [bstep_xor, ih, ← dk_add, Nat.mul_add]
theorem more_append (s : R) (a b : List Int) : moreB (moreB s a) b = moreB s (a ++ b) := by
  unfold moreB
  rw [BitVec.not_not, List.foldl_append]
theorem join_append (a b : List Int) : dk (8 * b.length) (moreB 0#32 a) ^^^ moreB 0#32 b = moreB 0#32 (a ++ b) := by
  have h1 : moreB 0#32 (a ++ b) = moreB (moreB 0#32 a) b := (more_append _ _ _).symm
  rw [h1]
  unfold moreB
  generalize ~~~ (a.foldl bstep (~~~ 0#32)) = x
  have h2 : ~~~ x = ~~~ 0#32 ^^^ x := by
    rw [show (~~~ 0#32 : R) = BitVec.allOnes 32 by decide]
    exact (BitVec.allOnes_xor).symm
  rw [h2, fold_xor]
  generalize b.foldl bstep (~~~ 0#32) = y
  rw [← BitVec.allOnes_xor (x := y ^^^ _), ← BitVec.allOnes_xor (x := y)]
  ac_rfl
end Go.Proofs.Ytijhhnclhgfnlaa.CrcMath
