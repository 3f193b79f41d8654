/- Of two rows the sum is More of the second one, and Join of both: for rows of at most 1048576 bytes together. -/
import Derived.Test.YtijhhnclhgfnlaaLaws1
import Derived.Test.YtijhhnclhgfnlaaCrcLink
import Derived.Test.YtijhhnclhgfnlaaCrcProps
namespace Go.Proofs.Ytijhhnclhgfnlaa.Pure
open Go.RowKit Go.Proofs.Ytijhhnclhgfnlaa.Laws Go.Proofs.YtijhhnclhgfnlaaW.PrintWords Go.Proofs.YtijhhnclhgfnlaaW.PrintLast Go.Proofs.Ytijhhnclhgfnlaa.Base Go.Proofs.Ytijhhnclhgfnlaa.Ext Go.Proofs.Ytijhhnclhgfnlaa.CrcMath Go.Proofs.Ytijhhnclhgfnlaa.CrcLink
set_option linter.unusedVariables false
set_option linter.unusedSimpArgs false

theorem bytes_append {a b : List Int} (ha : Bytes a) (hb : Bytes b) : Bytes (a ++ b) := fun x hx => by
  rcases List.mem_append.1 hx with h | h
  · exact ha x h
  · exact hb x h
theorem rows_law (l0 l1 : List Int) (b0 : Bytes l0) (b1 : Bytes l1) (hn : l0.length + l1.length ≤ 1048576) (k : Nat) (hk : l1.length + 40 ≤ k) : encorelaw01_CrcRows.f k l0 l1 = some true := by
  unfold encorelaw01_CrcRows.f
  rw [copy_eq l0 (by omega), Option.bind_some, if_pos (by omega), of_eq _ (bytes_append b0 b1), of_eq l0 b0, of_eq l1 b1]
  simp only [Option.bind_some]
  rw [more_eq _ l1 b1, more_append]
  simp only [Option.bind_some, if_true]
  have e1 := join_eq (moreB 0#32 l0) (moreB 0#32 l1) l1.length k (by omega)
  rw [Int.toNat_natCast, join_append] at e1
  rw [e1]
  simp only [Option.bind_some, if_true]
  rfl
theorem CrcRows.walkU (a0 : Option Addr) (len0 cap0 : Nat) (z0 : List Int) (a1 : Option Addr) (len1 cap1 : Nat) (z1 : List Int) (w : World)
    (w0 : (a0 = none ∧ len0 = 0 ∧ cap0 = 0 ∧ z0 = []) ∨ ∃ x, a0 = some x ∧ len0 ≤ cap0 ∧ cap0 ≤ maxLen ∧ z0.length = cap0 ∧ (∀ i, i < z0.length → w.cell? (x.add i) = some (.int .u8 (z0.getD i 0))) ∧ ∀ n ∈ z0, (Lit.int .u8 n).wf = true) (y0 : len0 * 1 ≤ 140737488351232)
    (w1 : (a1 = none ∧ len1 = 0 ∧ cap1 = 0 ∧ z1 = []) ∨ ∃ x, a1 = some x ∧ len1 ≤ cap1 ∧ cap1 ≤ maxLen ∧ z1.length = cap1 ∧ (∀ i, i < z1.length → w.cell? (x.add i) = some (.int .u8 (z1.getD i 0))) ∧ ∀ n ∈ z1, (Lit.int .u8 n).wf = true) (y1 : len1 * 1 ≤ 140737488351232)
    (hbulk : len0 + len1 ≤ 1048576) :
    Calls Try.prog 6 #[.slice a0 len0 cap0, .slice a1 len1 cap1] w fun e w' => e = .returned (.bool true) ∧ Below w.heap.size w w' := by
  obtain ⟨l0, rfl, hr0, hm0, hw0, hc0⟩ := ReadsInt.ofRowC w0
  obtain ⟨l1, rfl, hr1, hm1, hw1, hc1⟩ := ReadsInt.ofRowC w1
  have h := rows_law l0 l1 (bytes_of_wf hw0) (bytes_of_wf hw1) hbulk _ (Nat.le_refl _)
  exact encorelaw01_CrcRows.calls _ _ _ l0 _ _ l1 true w (Kd.C_of_reads (d := (0 : Int)) (h1 := fun _ => rfl) hr0) hc0 (Kd.C_of_reads (d := (0 : Int)) (h1 := fun _ => rfl) hr1) hc1 h
end Go.Proofs.Ytijhhnclhgfnlaa.Pure
