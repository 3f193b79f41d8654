/- Join of three sums is the same from the left and from the right, for any three rows. No condition beyond the row's own. -/
import Derived.Test.YtijhhnclhgfnlaaLaws1
import Derived.Test.YtijhhnclhgfnlaaCrcLink
import Derived.Test.YtijhhnclhgfnlaaCrcProps
namespace Go.Proofs.Ytijhhnclhgfnlaa.Pure
open Go.RowKit Go.Proofs.Ytijhhnclhgfnlaa.Laws Go.Proofs.YtijhhnclhgfnlaaW.PrintWords Go.Proofs.YtijhhnclhgfnlaaW.PrintLast Go.Proofs.Ytijhhnclhgfnlaa.Base Go.Proofs.Ytijhhnclhgfnlaa.Ext Go.Proofs.Ytijhhnclhgfnlaa.CrcMath Go.Proofs.Ytijhhnclhgfnlaa.CrcLink
set_option linter.unusedVariables false
set_option linter.unusedSimpArgs false

theorem three (m n : Nat) (x y z : R) : dk (8 * n) (dk (8 * m) x ^^^ y) ^^^ z = dk (8 * (m + n)) x ^^^ (dk (8 * n) y ^^^ z) := by
  have h : 8 * (m + n) = 8 * n + 8 * m := by omega
  rw [h, dk_xor, ← dk_add, BitVec.xor_assoc]
theorem three_join (m n k : Nat) (hm : m ≤ 140737488351232) (hn : n ≤ 140737488351232) (hk : m + n + 40 ≤ k) (x y z : R) :
    ((crc_Join.f k (toI x) (toI y) m).bind fun a => (crc_Join.f k a (toI z) n).bind fun b => (crc_Join.f k (toI y) (toI z) n).bind fun c => (crc_Join.f k (toI x) c (wrap64 ((m : Int) + n))).bind fun d => if b = d then (encorelaw01_works.f).bind fun t => some t else some false) = some true := by
  rw [show wrap64 ((m : Int) + (n : Int)) = ((m + n : Nat) : Int) by unfold wrap64; omega]
  have e1 := join_eq x y m k (by omega)
  have e2 := join_eq (dk (8 * m) x ^^^ y) z n k (by omega)
  have e3 := join_eq y z n k (by omega)
  have e4 := join_eq x (dk (8 * n) y ^^^ z) ((m + n : Nat) : Int) k (by omega)
  rw [Int.toNat_natCast] at e1 e2 e3 e4
  rw [e1, Option.bind_some, e2, Option.bind_some, e3, Option.bind_some, e4, Option.bind_some, three, if_pos rfl]
  rfl
theorem three_law (l0 l1 l2 : List Int) (b0 : Bytes l0) (b1 : Bytes l1) (b2 : Bytes l2) (h1 : l1.length ≤ 140737488351232) (h2 : l2.length ≤ 140737488351232) (k : Nat) (hk : l1.length + l2.length + 40 ≤ k) : encorelaw01_CrcThree.f k l0 l1 l2 = some true := by
  unfold encorelaw01_CrcThree.f
  rw [of_eq l0 b0, of_eq l1 b1, of_eq l2 b2]
  simp only [Option.bind_some]
  exact three_join l1.length l2.length k h1 h2 hk _ _ _
theorem CrcThree : encorelaw01_CrcThree.Pure := by
  intro l0 l1 l2 _ h0 w0 _ h1 w1 _ h2 w2
  exact ⟨_, three_law l0 l1 l2 (bytes_of_wf w0) (bytes_of_wf w1) (bytes_of_wf w2) (by omega) (by omega) _ (Nat.le_refl _)⟩
end Go.Proofs.Ytijhhnclhgfnlaa.Pure
