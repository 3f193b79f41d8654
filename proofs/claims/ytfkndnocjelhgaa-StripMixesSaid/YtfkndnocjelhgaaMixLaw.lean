/- Cells written over a sector in part, one over the other: plain law (the facts on bytes are printed by genmix.py). No condition. -/
import Derived.Test.YtfkndnocjelhgaaTornLaw
namespace Go.Proofs.Ytfkndnocjelhgaa.Ext
open Go Go.RowKit Go.Proofs.YtfkndnocjelhgaaW.PrintWords Go.Proofs.YtfkndnocjelhgaaW.PrintLast Go.Proofs.YtfkndnocjelhgaaW.PrintMore Go.Proofs.Ytfkndnocjelhgaa.Base Go.Proofs.Ytfkndnocjelhgaa.Arr
set_option linter.unusedVariables false
set_option linter.unusedSimpArgs false
set_option linter.unusedSectionVars false
set_option maxRecDepth 100000

/-- front, end, running generation -/
structure MixD (f0 f1 f2 f3 f4 f5 f6 f7 b0 b1 b2 b3 b4 b5 b6 b7 G : Nat) : Prop where
  bf : f0 < 256 ∧ f1 < 256 ∧ f2 < 256 ∧ f3 < 256 ∧ f4 < 256 ∧ f5 < 256 ∧ f6 < 256 ∧ f7 < 256
  bb : b0 < 256 ∧ b1 < 256 ∧ b2 < 256 ∧ b3 < 256 ∧ b4 < 256 ∧ b5 < 256 ∧ b6 < 256 ∧ b7 < 256
  i1 : b4 * 16777216 + b5 * 65536 + b6 * 256 + b7 ≤ f4 * 16777216 + f5 * 65536 + f6 * 256 + f7
  i4 : b0 * 16777216 + b1 * 65536 + b2 * 256 + b3 ≤ G
  j1 : b4 * 16777216 + b5 * 65536 + b6 * 256 + b7 = f4 * 16777216 + f5 * 65536 + f6 * 256 + f7 → f0 ≠ b0 → (b0 + 1) * 16777216 ≤ G
  j2 : b4 * 16777216 + b5 * 65536 + b6 * 256 + b7 = f4 * 16777216 + f5 * 65536 + f6 * 256 + f7 → f0 * 256 + f1 ≠ b0 * 256 + b1 → (b0 * 256 + b1 + 1) * 65536 ≤ G
  j3 : b4 * 16777216 + b5 * 65536 + b6 * 256 + b7 = f4 * 16777216 + f5 * 65536 + f6 * 256 + f7 → f0 * 65536 + f1 * 256 + f2 ≠ b0 * 65536 + b1 * 256 + b2 → (b0 * 65536 + b1 * 256 + b2 + 1) * 256 ≤ G
  j4 : b4 * 16777216 + b5 * 65536 + b6 * 256 + b7 = f4 * 16777216 + f5 * 65536 + f6 * 256 + f7 → f0 * 16777216 + f1 * 65536 + f2 * 256 + f3 ≠ b0 * 16777216 + b1 * 65536 + b2 * 256 + b3 → (b0 * 16777216 + b1 * 65536 + b2 * 256 + b3 + 1) * 1 ≤ G
section
variable {f0 f1 f2 f3 f4 f5 f6 f7 b0 b1 b2 b3 b4 b5 b6 b7 n0 n1 n2 n3 n4 n5 n6 n7 G : Nat} (h : MixD f0 f1 f2 f3 f4 f5 f6 f7 b0 b1 b2 b3 b4 b5 b6 b7 G) (hn : n0 < 256 ∧ n1 < 256 ∧ n2 < 256 ∧ n3 < 256 ∧ n4 < 256 ∧ n5 < 256 ∧ n6 < 256 ∧ n7 < 256) (hG : G ≤ n0 * 16777216 + n1 * 65536 + n2 * 256 + n3) (hE : f4 * 16777216 + f5 * 65536 + f6 * 256 + f7 < n4 * 16777216 + n5 * 65536 + n6 * 256 + n7)
include h hn hG hE
theorem mixF1 : MixD n0 f1 f2 f3 f4 f5 f6 f7 b0 b1 b2 b3 b4 b5 b6 b7 (n0 * 16777216 + n1 * 65536 + n2 * 256 + n3) ∧ (n0 = b0 ∧ f1 = b1 ∧ f2 = b2 ∧ f3 = b3 ∧ f4 = b4 ∧ f5 = b5 ∧ f6 = b6 ∧ f7 = b7 → n0 = f0) := by
  obtain ⟨bf, bb, i1, i4, j1, j2, j3, j4⟩ := h
  refine ⟨⟨by refine ⟨?_, ?_, ?_, ?_, ?_, ?_, ?_, ?_⟩ <;> omega, by refine ⟨?_, ?_, ?_, ?_, ?_, ?_, ?_, ?_⟩ <;> omega, ?_, ?_, ?_, ?_, ?_, ?_⟩, ?_⟩
  · clear j1 j2 j3 j4; refine Nat.le_of_not_lt fun hh => ?_; omega
  · clear j1 j2 j3 j4; refine Nat.le_of_not_lt fun hh => ?_; omega
  · intro e1 e2; omega
  · intro e1 e2; omega
  · intro e1 e2; omega
  · intro e1 e2; omega
  · intro e1; omega
theorem mixF2 : MixD n0 n1 f2 f3 f4 f5 f6 f7 b0 b1 b2 b3 b4 b5 b6 b7 (n0 * 16777216 + n1 * 65536 + n2 * 256 + n3) ∧ (n0 = b0 ∧ n1 = b1 ∧ f2 = b2 ∧ f3 = b3 ∧ f4 = b4 ∧ f5 = b5 ∧ f6 = b6 ∧ f7 = b7 → n0 = f0 ∧ n1 = f1) := by
  obtain ⟨bf, bb, i1, i4, j1, j2, j3, j4⟩ := h
  refine ⟨⟨by refine ⟨?_, ?_, ?_, ?_, ?_, ?_, ?_, ?_⟩ <;> omega, by refine ⟨?_, ?_, ?_, ?_, ?_, ?_, ?_, ?_⟩ <;> omega, ?_, ?_, ?_, ?_, ?_, ?_⟩, ?_⟩
  · clear j1 j2 j3 j4; refine Nat.le_of_not_lt fun hh => ?_; omega
  · clear j1 j2 j3 j4; refine Nat.le_of_not_lt fun hh => ?_; omega
  · intro e1 e2; omega
  · intro e1 e2; omega
  · intro e1 e2; omega
  · intro e1 e2; omega
  · intro e1; omega
theorem mixF3 : MixD n0 n1 n2 f3 f4 f5 f6 f7 b0 b1 b2 b3 b4 b5 b6 b7 (n0 * 16777216 + n1 * 65536 + n2 * 256 + n3) ∧ (n0 = b0 ∧ n1 = b1 ∧ n2 = b2 ∧ f3 = b3 ∧ f4 = b4 ∧ f5 = b5 ∧ f6 = b6 ∧ f7 = b7 → n0 = f0 ∧ n1 = f1 ∧ n2 = f2) := by
  obtain ⟨bf, bb, i1, i4, j1, j2, j3, j4⟩ := h
  refine ⟨⟨by refine ⟨?_, ?_, ?_, ?_, ?_, ?_, ?_, ?_⟩ <;> omega, by refine ⟨?_, ?_, ?_, ?_, ?_, ?_, ?_, ?_⟩ <;> omega, ?_, ?_, ?_, ?_, ?_, ?_⟩, ?_⟩
  · clear j1 j2 j3 j4; refine Nat.le_of_not_lt fun hh => ?_; omega
  · clear j1 j2 j3 j4; refine Nat.le_of_not_lt fun hh => ?_; omega
  · intro e1 e2; omega
  · intro e1 e2; omega
  · intro e1 e2; omega
  · intro e1 e2; omega
  · intro e1; omega
theorem mixF4 : MixD n0 n1 n2 n3 f4 f5 f6 f7 b0 b1 b2 b3 b4 b5 b6 b7 (n0 * 16777216 + n1 * 65536 + n2 * 256 + n3) ∧ (n0 = b0 ∧ n1 = b1 ∧ n2 = b2 ∧ n3 = b3 ∧ f4 = b4 ∧ f5 = b5 ∧ f6 = b6 ∧ f7 = b7 → n0 = f0 ∧ n1 = f1 ∧ n2 = f2 ∧ n3 = f3) := by
  obtain ⟨bf, bb, i1, i4, j1, j2, j3, j4⟩ := h
  refine ⟨⟨by refine ⟨?_, ?_, ?_, ?_, ?_, ?_, ?_, ?_⟩ <;> omega, by refine ⟨?_, ?_, ?_, ?_, ?_, ?_, ?_, ?_⟩ <;> omega, ?_, ?_, ?_, ?_, ?_, ?_⟩, ?_⟩
  · clear j1 j2 j3 j4; refine Nat.le_of_not_lt fun hh => ?_; omega
  · clear j1 j2 j3 j4; refine Nat.le_of_not_lt fun hh => ?_; omega
  · intro e1 e2; omega
  · intro e1 e2; omega
  · intro e1 e2; omega
  · intro e1 e2; omega
  · intro e1; omega
theorem mixF5 : MixD n0 n1 n2 n3 n4 f5 f6 f7 b0 b1 b2 b3 b4 b5 b6 b7 (n0 * 16777216 + n1 * 65536 + n2 * 256 + n3) ∧ (n0 = b0 ∧ n1 = b1 ∧ n2 = b2 ∧ n3 = b3 ∧ n4 = b4 ∧ f5 = b5 ∧ f6 = b6 ∧ f7 = b7 → n0 = f0 ∧ n1 = f1 ∧ n2 = f2 ∧ n3 = f3 ∧ n4 = f4) := by
  obtain ⟨bf, bb, i1, i4, j1, j2, j3, j4⟩ := h
  refine ⟨⟨by refine ⟨?_, ?_, ?_, ?_, ?_, ?_, ?_, ?_⟩ <;> omega, by refine ⟨?_, ?_, ?_, ?_, ?_, ?_, ?_, ?_⟩ <;> omega, ?_, ?_, ?_, ?_, ?_, ?_⟩, ?_⟩
  · clear j1 j2 j3 j4; refine Nat.le_of_not_lt fun hh => ?_; omega
  · clear j1 j2 j3 j4; refine Nat.le_of_not_lt fun hh => ?_; omega
  · intro e1 e2; omega
  · intro e1 e2; omega
  · intro e1 e2; omega
  · intro e1 e2; omega
  · intro e1; omega
theorem mixF6 : MixD n0 n1 n2 n3 n4 n5 f6 f7 b0 b1 b2 b3 b4 b5 b6 b7 (n0 * 16777216 + n1 * 65536 + n2 * 256 + n3) ∧ (n0 = b0 ∧ n1 = b1 ∧ n2 = b2 ∧ n3 = b3 ∧ n4 = b4 ∧ n5 = b5 ∧ f6 = b6 ∧ f7 = b7 → n0 = f0 ∧ n1 = f1 ∧ n2 = f2 ∧ n3 = f3 ∧ n4 = f4 ∧ n5 = f5) := by
  obtain ⟨bf, bb, i1, i4, j1, j2, j3, j4⟩ := h
  refine ⟨⟨by refine ⟨?_, ?_, ?_, ?_, ?_, ?_, ?_, ?_⟩ <;> omega, by refine ⟨?_, ?_, ?_, ?_, ?_, ?_, ?_, ?_⟩ <;> omega, ?_, ?_, ?_, ?_, ?_, ?_⟩, ?_⟩
  · clear j1 j2 j3 j4; refine Nat.le_of_not_lt fun hh => ?_; omega
  · clear j1 j2 j3 j4; refine Nat.le_of_not_lt fun hh => ?_; omega
  · intro e1 e2; omega
  · intro e1 e2; omega
  · intro e1 e2; omega
  · intro e1 e2; omega
  · intro e1; omega
theorem mixF7 : MixD n0 n1 n2 n3 n4 n5 n6 f7 b0 b1 b2 b3 b4 b5 b6 b7 (n0 * 16777216 + n1 * 65536 + n2 * 256 + n3) ∧ (n0 = b0 ∧ n1 = b1 ∧ n2 = b2 ∧ n3 = b3 ∧ n4 = b4 ∧ n5 = b5 ∧ n6 = b6 ∧ f7 = b7 → n0 = f0 ∧ n1 = f1 ∧ n2 = f2 ∧ n3 = f3 ∧ n4 = f4 ∧ n5 = f5 ∧ n6 = f6) := by
  obtain ⟨bf, bb, i1, i4, j1, j2, j3, j4⟩ := h
  refine ⟨⟨by refine ⟨?_, ?_, ?_, ?_, ?_, ?_, ?_, ?_⟩ <;> omega, by refine ⟨?_, ?_, ?_, ?_, ?_, ?_, ?_, ?_⟩ <;> omega, ?_, ?_, ?_, ?_, ?_, ?_⟩, ?_⟩
  · clear j1 j2 j3 j4; refine Nat.le_of_not_lt fun hh => ?_; omega
  · clear j1 j2 j3 j4; refine Nat.le_of_not_lt fun hh => ?_; omega
  · intro e1 e2; omega
  · intro e1 e2; omega
  · intro e1 e2; omega
  · intro e1 e2; omega
  · intro e1; omega
theorem mixM : MixD n0 n1 n2 n3 n4 n5 n6 n7 b0 b1 b2 b3 b4 b5 b6 b7 (n0 * 16777216 + n1 * 65536 + n2 * 256 + n3) ∧ ¬ (n0 = b0 ∧ n1 = b1 ∧ n2 = b2 ∧ n3 = b3 ∧ n4 = b4 ∧ n5 = b5 ∧ n6 = b6 ∧ n7 = b7) := by
  obtain ⟨bf, bb, i1, i4, j1, j2, j3, j4⟩ := h
  refine ⟨⟨by refine ⟨?_, ?_, ?_, ?_, ?_, ?_, ?_, ?_⟩ <;> omega, by refine ⟨?_, ?_, ?_, ?_, ?_, ?_, ?_, ?_⟩ <;> omega, ?_, ?_, ?_, ?_, ?_, ?_⟩, ?_⟩
  · clear j1 j2 j3 j4; refine Nat.le_of_not_lt fun hh => ?_; omega
  · clear j1 j2 j3 j4; refine Nat.le_of_not_lt fun hh => ?_; omega
  · intro e1 e2; omega
  · intro e1 e2; omega
  · intro e1 e2; omega
  · intro e1 e2; omega
  · intro e1; omega
theorem mixB1 : MixD n0 n1 n2 n3 n4 n5 n6 n7 b0 b1 b2 b3 b4 b5 b6 n7 (n0 * 16777216 + n1 * 65536 + n2 * 256 + n3) := by
  obtain ⟨bf, bb, i1, i4, j1, j2, j3, j4⟩ := h
  refine ⟨by refine ⟨?_, ?_, ?_, ?_, ?_, ?_, ?_, ?_⟩ <;> omega, by refine ⟨?_, ?_, ?_, ?_, ?_, ?_, ?_, ?_⟩ <;> omega, ?_, ?_, ?_, ?_, ?_, ?_⟩
  · clear j1 j2 j3 j4; refine Nat.le_of_not_lt fun hh => ?_; omega
  · clear j1 j2 j3 j4; refine Nat.le_of_not_lt fun hh => ?_; omega
  · intro e1 e2; omega
  · intro e1 e2; omega
  · intro e1 e2; omega
  · intro e1 e2; omega
theorem mixB2 : MixD n0 n1 n2 n3 n4 n5 n6 n7 b0 b1 b2 b3 b4 b5 n6 n7 (n0 * 16777216 + n1 * 65536 + n2 * 256 + n3) := by
  obtain ⟨bf, bb, i1, i4, j1, j2, j3, j4⟩ := h
  refine ⟨by refine ⟨?_, ?_, ?_, ?_, ?_, ?_, ?_, ?_⟩ <;> omega, by refine ⟨?_, ?_, ?_, ?_, ?_, ?_, ?_, ?_⟩ <;> omega, ?_, ?_, ?_, ?_, ?_, ?_⟩
  · clear j1 j2 j3 j4; refine Nat.le_of_not_lt fun hh => ?_; omega
  · clear j1 j2 j3 j4; refine Nat.le_of_not_lt fun hh => ?_; omega
  · intro e1 e2; omega
  · intro e1 e2; omega
  · intro e1 e2; omega
  · intro e1 e2; omega
theorem mixB3 : MixD n0 n1 n2 n3 n4 n5 n6 n7 b0 b1 b2 b3 b4 n5 n6 n7 (n0 * 16777216 + n1 * 65536 + n2 * 256 + n3) := by
  obtain ⟨bf, bb, i1, i4, j1, j2, j3, j4⟩ := h
  refine ⟨by refine ⟨?_, ?_, ?_, ?_, ?_, ?_, ?_, ?_⟩ <;> omega, by refine ⟨?_, ?_, ?_, ?_, ?_, ?_, ?_, ?_⟩ <;> omega, ?_, ?_, ?_, ?_, ?_, ?_⟩
  · clear j1 j2 j3 j4; refine Nat.le_of_not_lt fun hh => ?_; omega
  · clear j1 j2 j3 j4; refine Nat.le_of_not_lt fun hh => ?_; omega
  · intro e1 e2; omega
  · intro e1 e2; omega
  · intro e1 e2; omega
  · intro e1 e2; omega
theorem mixB4 : MixD n0 n1 n2 n3 n4 n5 n6 n7 b0 b1 b2 b3 n4 n5 n6 n7 (n0 * 16777216 + n1 * 65536 + n2 * 256 + n3) := by
  obtain ⟨bf, bb, i1, i4, j1, j2, j3, j4⟩ := h
  refine ⟨by refine ⟨?_, ?_, ?_, ?_, ?_, ?_, ?_, ?_⟩ <;> omega, by refine ⟨?_, ?_, ?_, ?_, ?_, ?_, ?_, ?_⟩ <;> omega, ?_, ?_, ?_, ?_, ?_, ?_⟩
  · clear j1 j2 j3 j4; refine Nat.le_of_not_lt fun hh => ?_; omega
  · clear j1 j2 j3 j4; refine Nat.le_of_not_lt fun hh => ?_; omega
  · intro e1 e2; omega
  · intro e1 e2; omega
  · intro e1 e2; omega
  · intro e1 e2; omega
theorem mixB5 : MixD n0 n1 n2 n3 n4 n5 n6 n7 b0 b1 b2 n3 n4 n5 n6 n7 (n0 * 16777216 + n1 * 65536 + n2 * 256 + n3) := by
  obtain ⟨bf, bb, i1, i4, j1, j2, j3, j4⟩ := h
  refine ⟨by refine ⟨?_, ?_, ?_, ?_, ?_, ?_, ?_, ?_⟩ <;> omega, by refine ⟨?_, ?_, ?_, ?_, ?_, ?_, ?_, ?_⟩ <;> omega, ?_, ?_, ?_, ?_, ?_, ?_⟩
  · clear j1 j2 j3 j4; refine Nat.le_of_not_lt fun hh => ?_; omega
  · clear j1 j2 j3 j4; refine Nat.le_of_not_lt fun hh => ?_; omega
  · intro e1 e2; omega
  · intro e1 e2; omega
  · intro e1 e2; omega
  · intro e1 e2; omega
theorem mixB6 : MixD n0 n1 n2 n3 n4 n5 n6 n7 b0 b1 n2 n3 n4 n5 n6 n7 (n0 * 16777216 + n1 * 65536 + n2 * 256 + n3) := by
  obtain ⟨bf, bb, i1, i4, j1, j2, j3, j4⟩ := h
  refine ⟨by refine ⟨?_, ?_, ?_, ?_, ?_, ?_, ?_, ?_⟩ <;> omega, by refine ⟨?_, ?_, ?_, ?_, ?_, ?_, ?_, ?_⟩ <;> omega, ?_, ?_, ?_, ?_, ?_, ?_⟩
  · clear j1 j2 j3 j4; refine Nat.le_of_not_lt fun hh => ?_; omega
  · clear j1 j2 j3 j4; refine Nat.le_of_not_lt fun hh => ?_; omega
  · intro e1 e2; omega
  · intro e1 e2; omega
  · intro e1 e2; omega
  · intro e1 e2; omega
theorem mixB7 : MixD n0 n1 n2 n3 n4 n5 n6 n7 b0 n1 n2 n3 n4 n5 n6 n7 (n0 * 16777216 + n1 * 65536 + n2 * 256 + n3) := by
  obtain ⟨bf, bb, i1, i4, j1, j2, j3, j4⟩ := h
  refine ⟨by refine ⟨?_, ?_, ?_, ?_, ?_, ?_, ?_, ?_⟩ <;> omega, by refine ⟨?_, ?_, ?_, ?_, ?_, ?_, ?_, ?_⟩ <;> omega, ?_, ?_, ?_, ?_, ?_, ?_⟩
  · clear j1 j2 j3 j4; refine Nat.le_of_not_lt fun hh => ?_; omega
  · clear j1 j2 j3 j4; refine Nat.le_of_not_lt fun hh => ?_; omega
  · intro e1 e2; omega
  · intro e1 e2; omega
  · intro e1 e2; omega
  · intro e1 e2; omega
theorem mixB8 : MixD n0 n1 n2 n3 n4 n5 n6 n7 n0 n1 n2 n3 n4 n5 n6 n7 (n0 * 16777216 + n1 * 65536 + n2 * 256 + n3) := by
  obtain ⟨bf, bb, i1, i4, j1, j2, j3, j4⟩ := h
  refine ⟨by refine ⟨?_, ?_, ?_, ?_, ?_, ?_, ?_, ?_⟩ <;> omega, by refine ⟨?_, ?_, ?_, ?_, ?_, ?_, ?_, ?_⟩ <;> omega, ?_, ?_, ?_, ?_, ?_, ?_⟩
  · clear j1 j2 j3 j4; refine Nat.le_of_not_lt fun hh => ?_; omega
  · clear j1 j2 j3 j4; refine Nat.le_of_not_lt fun hh => ?_; omega
  · intro e1 e2; omega
  · intro e1 e2; omega
  · intro e1 e2; omega
  · intro e1 e2; omega
end

theorem byte_at {l : List Int} (h : Bytes l) (i : Nat) : 0 ≤ rd l (i : Int) ∧ rd l (i : Int) < 256 := by
  unfold rd
  rw [Int.toNat_natCast, List.getD_eq_getElem?_getD]
  cases hq : l[i]? with
  | none => exact ⟨Int.le_refl _, by decide⟩
  | some x => exact h x (List.mem_of_getElem? hq)
theorem Bytes.tk {l : List Int} (h : Bytes l) (n : Nat) : Bytes (l.take n) := fun x hx => h x (List.mem_of_mem_take hx)
theorem mix_len (C S : List Int) (cut : Nat) (hC : C.length = 64) (hS : S.length = 64) (h : cut ≤ 64) : (C.take cut ++ S.drop cut).length = 64 := by
  rw [List.length_append, List.length_take, List.length_drop]; omega

/-- a byte as a number -/
def B (l : List Int) (i : Nat) : Nat := (rd l (i : Int)).toNat
theorem B_lt {l : List Int} (h : Bytes l) (i : Nat) : B l i < 256 := by have := byte_at h i; unfold B; omega
theorem B_inj {l l' : List Int} (h : Bytes l) (h' : Bytes l') {i : Nat} (he : B l i = B l' i) : rd l (i : Int) = rd l' (i : Int) := by
  have := byte_at h i; have := byte_at h' i; unfold B at he; omega
theorem ext_rd {l l' : List Int} (hl : l.length = 64) (hl' : l'.length = 64) (h : ∀ i : Nat, i < 64 → rd l (i : Int) = rd l' (i : Int)) : l = l' := by
  refine List.ext_getElem (by rw [hl, hl']) fun i h1 h2 => ?_
  have := h i (by omega)
  unfold rd at this
  rw [Int.toNat_natCast, List.getD_eq_getElem?_getD, List.getD_eq_getElem?_getD, List.getElem?_eq_getElem h1, List.getElem?_eq_getElem h2] at this
  exact this
theorem stamp_B (l : List Int) : stampV l = (B l 0 * 16777216 + B l 1 * 65536 + B l 2 * 256 + B l 3) * 4294967296 + (B l 4 * 16777216 + B l 5 * 65536 + B l 6 * 256 + B l 7) := by
  unfold stampV
  simp only [valN, B, rd_take8 l 0 (by decide), rd_take8 l 1 (by decide), rd_take8 l 2 (by decide), rd_take8 l 3 (by decide), rd_take8 l 4 (by decide), rd_take8 l 5 (by decide), rd_take8 l 6 (by decide), rd_take8 l 7 (by decide)]
  omega
/-- a sector between two writes -/
structure MixS (X : List Int) (G : Nat) : Prop where
  len : X.length = 64
  by_ : Bytes X
  d : MixD (B X 0) (B X 1) (B X 2) (B X 3) (B X 4) (B X 5) (B X 6) (B X 7) (B X 63) (B X 62) (B X 61) (B X 60) (B X 59) (B X 58) (B X 57) (B X 56) G
/-- what a cell of a stamp is, as its bytes say it -/
structure CellB (C : List Int) (G E : Nat) : Prop where
  len : C.length = 64
  by_ : Bytes C
  gen : B C 0 * 16777216 + B C 1 * 65536 + B C 2 * 256 + B C 3 = G
  ep : B C 4 * 16777216 + B C 5 * 65536 + B C 6 * 256 + B C 7 = E
  back : ∀ i : Nat, i < 8 → rd C ((56 + i : Nat) : Int) = rd C ((7 - i : Nat) : Int)
theorem split_eq {a b G E : Nat} (ha : b ≤ 4294967295) (hE : E < 4294967296) (h : a * 4294967296 + b = G * 4294967296 + E) : a = G ∧ b = E := by omega
theorem cellB (G E : Nat) (d : Int) (hG : G < 4294967296) (hE : E < 4294967296) (hd : Bytes [d]) : CellB (cellOf G E true [d]) G E := by
  have hb := cellOf_bytes G E true [d] (show (1 : Nat) ≤ 47 by decide) hd
  have hl := cellOf_len G E true [d] (show (1 : Nat) ≤ 47 by decide)
  have hs := front_cell G E true [d] hG hE
  rw [stamp_B] at hs
  unfold stampN at hs
  have b : ∀ i, B (cellOf G E true [d]) i < 256 := B_lt hb
  have b0 := b 0; have b1 := b 1; have b2 := b 2; have b3 := b 3; have b4 := b 4; have b5 := b 5; have b6 := b 6; have b7 := b 7
  obtain ⟨s1, s2⟩ := split_eq (Nat.le_of_not_lt fun hh => by clear hs; omega) hE hs
  refine ⟨hl, hb, s1, s2, back_rd _ hl ?_⟩
  have h8 : (edgeL (stampN G E)).length = 8 := edgeL_len _
  unfold backOK
  rw [cellOf_eq, cell0_take _ _ _ h8, cell0_back _ _ [d] h8 (show (1 : Nat) ≤ 47 by decide), List.reverse_reverse]
theorem mixS_zero : MixS (List.replicate 64 0) 1 := by
  have h : ∀ i, B (List.replicate 64 0) i = 0 := fun i => by
    unfold B rd
    rw [Int.toNat_natCast, List.getD_eq_getElem?_getD, List.getElem?_replicate]
    split <;> rfl
  refine ⟨by simp, Bytes.zeros 64, ?_⟩
  simp only [h]
  refine ⟨by decide, by decide, by decide, by decide, by decide, by decide, by decide, by decide⟩
theorem mixS_mono {X : List Int} {G G' : Nat} (h : MixS X G) (hG : G ≤ G') : MixS X G' :=
  ⟨h.len, h.by_, ⟨h.d.bf, h.d.bb, h.d.i1, Nat.le_trans h.d.i4 hG, fun a b => Nat.le_trans (h.d.j1 a b) hG, fun a b => Nat.le_trans (h.d.j2 a b) hG, fun a b => Nat.le_trans (h.d.j3 a b) hG, fun a b => Nat.le_trans (h.d.j4 a b) hG⟩⟩
section
variable {X C : List Int} {G G' E : Nat} (hX : MixS X G) (hC : CellB C G' E) (hG : G ≤ G') (hE : B X 4 * 16777216 + B X 5 * 65536 + B X 6 * 256 + B X 7 < E)
include hX hC hG hE
theorem mix_bytes (cut : Nat) : Bytes (C.take cut ++ X.drop cut) := (hC.by_.tk cut).app (hX.by_.drop cut)
theorem B_mix (cut : Nat) (hc : cut ≤ 64) (i : Nat) : B (C.take cut ++ X.drop cut) i = if i < cut then B C i else B X i := by
  unfold B
  rw [rd_mix C X cut hC.len hX.len hc i]
  split <;> rfl
theorem back_B (cut : Nat) (hc : cut ≤ 64) (hb : backOK (C.take cut ++ X.drop cut)) (i : Nat) (hi : i < 8) : B (C.take cut ++ X.drop cut) (7 - i) = B (C.take cut ++ X.drop cut) (56 + i) := by
  unfold B
  rw [back_rd _ (mix_len C X cut hC.len hX.len hc) hb i hi]
theorem back_all (cut : Nat) (hc : cut ≤ 64) (hb : backOK (C.take cut ++ X.drop cut)) : B (C.take cut ++ X.drop cut) 0 = B (C.take cut ++ X.drop cut) 63 ∧ B (C.take cut ++ X.drop cut) 1 = B (C.take cut ++ X.drop cut) 62 ∧ B (C.take cut ++ X.drop cut) 2 = B (C.take cut ++ X.drop cut) 61 ∧ B (C.take cut ++ X.drop cut) 3 = B (C.take cut ++ X.drop cut) 60 ∧ B (C.take cut ++ X.drop cut) 4 = B (C.take cut ++ X.drop cut) 59 ∧ B (C.take cut ++ X.drop cut) 5 = B (C.take cut ++ X.drop cut) 58 ∧ B (C.take cut ++ X.drop cut) 6 = B (C.take cut ++ X.drop cut) 57 ∧ B (C.take cut ++ X.drop cut) 7 = B (C.take cut ++ X.drop cut) 56 :=
  ⟨back_B hX hC hG hE cut hc hb 7 (by decide), back_B hX hC hG hE cut hc hb 6 (by decide), back_B hX hC hG hE cut hc hb 5 (by decide), back_B hX hC hG hE cut hc hb 4 (by decide), back_B hX hC hG hE cut hc hb 3 (by decide), back_B hX hC hG hE cut hc hb 2 (by decide), back_B hX hC hG hE cut hc hb 1 (by decide), back_B hX hC hG hE cut hc hb 0 (by decide)⟩
theorem old_eq (cut : Nat) (hc : cut ≤ 64) (h : ∀ i : Nat, i < cut → B C i = B X i) : C.take cut ++ X.drop cut = X := by
  refine ext_rd (mix_len C X cut hC.len hX.len hc) hX.len fun i hi => ?_
  rw [rd_mix C X cut hC.len hX.len hc i]
  split
  · rename_i h1; exact B_inj hC.by_ hX.by_ (h i h1)
  · rfl
theorem new_eq (cut : Nat) (hc : cut ≤ 64) (h57 : 56 ≤ cut) (hb : backOK (C.take cut ++ X.drop cut)) : C.take cut ++ X.drop cut = C := by
  refine ext_rd (mix_len C X cut hC.len hX.len hc) hC.len fun i hi => ?_
  by_cases h1 : i < cut
  · rw [rd_mix C X cut hC.len hX.len hc i, if_pos h1]
  · have := back_rd _ (mix_len C X cut hC.len hX.len hc) hb (i - 56) (by omega)
    have h2 := hC.back (i - 56) (by omega)
    rw [show 56 + (i - 56) = i by omega] at this h2
    rw [this, h2, rd_mix C X cut hC.len hX.len hc, if_pos (by omega)]
theorem stepF1 : MixS (C.take 1 ++ X.drop 1) G' ∧ (backOK (C.take 1 ++ X.drop 1) → C.take 1 ++ X.drop 1 = X) := by
  have hm := mixF1 hX.d ⟨B_lt hC.by_ 0, B_lt hC.by_ 1, B_lt hC.by_ 2, B_lt hC.by_ 3, B_lt hC.by_ 4, B_lt hC.by_ 5, B_lt hC.by_ 6, B_lt hC.by_ 7⟩ (Nat.le_trans hG (Nat.le_of_eq hC.gen.symm)) (Nat.lt_of_lt_of_le hE (Nat.le_of_eq hC.ep.symm))
  have hB := B_mix hX hC hG hE 1 (by decide)
  refine ⟨⟨mix_len C X 1 hC.len hX.len (by decide), mix_bytes hX hC hG hE 1, ?_⟩, fun hb => old_eq hX hC hG hE 1 (by decide) ?_⟩
  · simp only [hB, Nat.reduceLT, ↓reduceIte]
    rw [hC.gen] at hm
    exact hm.1
  · have h := back_all hX hC hG hE 1 (by decide) hb
    simp only [hB, Nat.reduceLT, ↓reduceIte] at h
    have h2 := hm.2 h
    intro i hi
    obtain rfl : i = 0 := by omega
    · exact h2
theorem stepF2 : MixS (C.take 2 ++ X.drop 2) G' ∧ (backOK (C.take 2 ++ X.drop 2) → C.take 2 ++ X.drop 2 = X) := by
  have hm := mixF2 hX.d ⟨B_lt hC.by_ 0, B_lt hC.by_ 1, B_lt hC.by_ 2, B_lt hC.by_ 3, B_lt hC.by_ 4, B_lt hC.by_ 5, B_lt hC.by_ 6, B_lt hC.by_ 7⟩ (Nat.le_trans hG (Nat.le_of_eq hC.gen.symm)) (Nat.lt_of_lt_of_le hE (Nat.le_of_eq hC.ep.symm))
  have hB := B_mix hX hC hG hE 2 (by decide)
  refine ⟨⟨mix_len C X 2 hC.len hX.len (by decide), mix_bytes hX hC hG hE 2, ?_⟩, fun hb => old_eq hX hC hG hE 2 (by decide) ?_⟩
  · simp only [hB, Nat.reduceLT, ↓reduceIte]
    rw [hC.gen] at hm
    exact hm.1
  · have h := back_all hX hC hG hE 2 (by decide) hb
    simp only [hB, Nat.reduceLT, ↓reduceIte] at h
    have h2 := hm.2 h
    intro i hi
    obtain rfl | rfl : i = 0 ∨ i = 1 := by omega
    · exact h2.1
    · exact h2.2
theorem stepF3 : MixS (C.take 3 ++ X.drop 3) G' ∧ (backOK (C.take 3 ++ X.drop 3) → C.take 3 ++ X.drop 3 = X) := by
  have hm := mixF3 hX.d ⟨B_lt hC.by_ 0, B_lt hC.by_ 1, B_lt hC.by_ 2, B_lt hC.by_ 3, B_lt hC.by_ 4, B_lt hC.by_ 5, B_lt hC.by_ 6, B_lt hC.by_ 7⟩ (Nat.le_trans hG (Nat.le_of_eq hC.gen.symm)) (Nat.lt_of_lt_of_le hE (Nat.le_of_eq hC.ep.symm))
  have hB := B_mix hX hC hG hE 3 (by decide)
  refine ⟨⟨mix_len C X 3 hC.len hX.len (by decide), mix_bytes hX hC hG hE 3, ?_⟩, fun hb => old_eq hX hC hG hE 3 (by decide) ?_⟩
  · simp only [hB, Nat.reduceLT, ↓reduceIte]
    rw [hC.gen] at hm
    exact hm.1
  · have h := back_all hX hC hG hE 3 (by decide) hb
    simp only [hB, Nat.reduceLT, ↓reduceIte] at h
    have h2 := hm.2 h
    intro i hi
    obtain rfl | rfl | rfl : i = 0 ∨ i = 1 ∨ i = 2 := by omega
    · exact h2.1
    · exact h2.2.1
    · exact h2.2.2
theorem stepF4 : MixS (C.take 4 ++ X.drop 4) G' ∧ (backOK (C.take 4 ++ X.drop 4) → C.take 4 ++ X.drop 4 = X) := by
  have hm := mixF4 hX.d ⟨B_lt hC.by_ 0, B_lt hC.by_ 1, B_lt hC.by_ 2, B_lt hC.by_ 3, B_lt hC.by_ 4, B_lt hC.by_ 5, B_lt hC.by_ 6, B_lt hC.by_ 7⟩ (Nat.le_trans hG (Nat.le_of_eq hC.gen.symm)) (Nat.lt_of_lt_of_le hE (Nat.le_of_eq hC.ep.symm))
  have hB := B_mix hX hC hG hE 4 (by decide)
  refine ⟨⟨mix_len C X 4 hC.len hX.len (by decide), mix_bytes hX hC hG hE 4, ?_⟩, fun hb => old_eq hX hC hG hE 4 (by decide) ?_⟩
  · simp only [hB, Nat.reduceLT, ↓reduceIte]
    rw [hC.gen] at hm
    exact hm.1
  · have h := back_all hX hC hG hE 4 (by decide) hb
    simp only [hB, Nat.reduceLT, ↓reduceIte] at h
    have h2 := hm.2 h
    intro i hi
    obtain rfl | rfl | rfl | rfl : i = 0 ∨ i = 1 ∨ i = 2 ∨ i = 3 := by omega
    · exact h2.1
    · exact h2.2.1
    · exact h2.2.2.1
    · exact h2.2.2.2
theorem stepF5 : MixS (C.take 5 ++ X.drop 5) G' ∧ (backOK (C.take 5 ++ X.drop 5) → C.take 5 ++ X.drop 5 = X) := by
  have hm := mixF5 hX.d ⟨B_lt hC.by_ 0, B_lt hC.by_ 1, B_lt hC.by_ 2, B_lt hC.by_ 3, B_lt hC.by_ 4, B_lt hC.by_ 5, B_lt hC.by_ 6, B_lt hC.by_ 7⟩ (Nat.le_trans hG (Nat.le_of_eq hC.gen.symm)) (Nat.lt_of_lt_of_le hE (Nat.le_of_eq hC.ep.symm))
  have hB := B_mix hX hC hG hE 5 (by decide)
  refine ⟨⟨mix_len C X 5 hC.len hX.len (by decide), mix_bytes hX hC hG hE 5, ?_⟩, fun hb => old_eq hX hC hG hE 5 (by decide) ?_⟩
  · simp only [hB, Nat.reduceLT, ↓reduceIte]
    rw [hC.gen] at hm
    exact hm.1
  · have h := back_all hX hC hG hE 5 (by decide) hb
    simp only [hB, Nat.reduceLT, ↓reduceIte] at h
    have h2 := hm.2 h
    intro i hi
    obtain rfl | rfl | rfl | rfl | rfl : i = 0 ∨ i = 1 ∨ i = 2 ∨ i = 3 ∨ i = 4 := by omega
    · exact h2.1
    · exact h2.2.1
    · exact h2.2.2.1
    · exact h2.2.2.2.1
    · exact h2.2.2.2.2
theorem stepF6 : MixS (C.take 6 ++ X.drop 6) G' ∧ (backOK (C.take 6 ++ X.drop 6) → C.take 6 ++ X.drop 6 = X) := by
  have hm := mixF6 hX.d ⟨B_lt hC.by_ 0, B_lt hC.by_ 1, B_lt hC.by_ 2, B_lt hC.by_ 3, B_lt hC.by_ 4, B_lt hC.by_ 5, B_lt hC.by_ 6, B_lt hC.by_ 7⟩ (Nat.le_trans hG (Nat.le_of_eq hC.gen.symm)) (Nat.lt_of_lt_of_le hE (Nat.le_of_eq hC.ep.symm))
  have hB := B_mix hX hC hG hE 6 (by decide)
  refine ⟨⟨mix_len C X 6 hC.len hX.len (by decide), mix_bytes hX hC hG hE 6, ?_⟩, fun hb => old_eq hX hC hG hE 6 (by decide) ?_⟩
  · simp only [hB, Nat.reduceLT, ↓reduceIte]
    rw [hC.gen] at hm
    exact hm.1
  · have h := back_all hX hC hG hE 6 (by decide) hb
    simp only [hB, Nat.reduceLT, ↓reduceIte] at h
    have h2 := hm.2 h
    intro i hi
    obtain rfl | rfl | rfl | rfl | rfl | rfl : i = 0 ∨ i = 1 ∨ i = 2 ∨ i = 3 ∨ i = 4 ∨ i = 5 := by omega
    · exact h2.1
    · exact h2.2.1
    · exact h2.2.2.1
    · exact h2.2.2.2.1
    · exact h2.2.2.2.2.1
    · exact h2.2.2.2.2.2
theorem stepF7 : MixS (C.take 7 ++ X.drop 7) G' ∧ (backOK (C.take 7 ++ X.drop 7) → C.take 7 ++ X.drop 7 = X) := by
  have hm := mixF7 hX.d ⟨B_lt hC.by_ 0, B_lt hC.by_ 1, B_lt hC.by_ 2, B_lt hC.by_ 3, B_lt hC.by_ 4, B_lt hC.by_ 5, B_lt hC.by_ 6, B_lt hC.by_ 7⟩ (Nat.le_trans hG (Nat.le_of_eq hC.gen.symm)) (Nat.lt_of_lt_of_le hE (Nat.le_of_eq hC.ep.symm))
  have hB := B_mix hX hC hG hE 7 (by decide)
  refine ⟨⟨mix_len C X 7 hC.len hX.len (by decide), mix_bytes hX hC hG hE 7, ?_⟩, fun hb => old_eq hX hC hG hE 7 (by decide) ?_⟩
  · simp only [hB, Nat.reduceLT, ↓reduceIte]
    rw [hC.gen] at hm
    exact hm.1
  · have h := back_all hX hC hG hE 7 (by decide) hb
    simp only [hB, Nat.reduceLT, ↓reduceIte] at h
    have h2 := hm.2 h
    intro i hi
    obtain rfl | rfl | rfl | rfl | rfl | rfl | rfl : i = 0 ∨ i = 1 ∨ i = 2 ∨ i = 3 ∨ i = 4 ∨ i = 5 ∨ i = 6 := by omega
    · exact h2.1
    · exact h2.2.1
    · exact h2.2.2.1
    · exact h2.2.2.2.1
    · exact h2.2.2.2.2.1
    · exact h2.2.2.2.2.2.1
    · exact h2.2.2.2.2.2.2
theorem stepM (cut : Nat) (h8 : 8 ≤ cut) (h56 : cut ≤ 56) : MixS (C.take cut ++ X.drop cut) G' ∧ ¬ backOK (C.take cut ++ X.drop cut) := by
  have hm := mixM hX.d ⟨B_lt hC.by_ 0, B_lt hC.by_ 1, B_lt hC.by_ 2, B_lt hC.by_ 3, B_lt hC.by_ 4, B_lt hC.by_ 5, B_lt hC.by_ 6, B_lt hC.by_ 7⟩ (Nat.le_trans hG (Nat.le_of_eq hC.gen.symm)) (Nat.lt_of_lt_of_le hE (Nat.le_of_eq hC.ep.symm))
  have hB := B_mix hX hC hG hE cut (by omega)
  have hn : ∀ i, i < 8 → B (C.take cut ++ X.drop cut) i = B C i := fun i hi => by rw [hB, if_pos (by omega)]
  have ho : ∀ i, 56 ≤ i → B (C.take cut ++ X.drop cut) i = B X i := fun i hi => by rw [hB, if_neg (by omega)]
  have e : (B (C.take cut ++ X.drop cut) 0, B (C.take cut ++ X.drop cut) 1, B (C.take cut ++ X.drop cut) 2, B (C.take cut ++ X.drop cut) 3, B (C.take cut ++ X.drop cut) 4, B (C.take cut ++ X.drop cut) 5, B (C.take cut ++ X.drop cut) 6, B (C.take cut ++ X.drop cut) 7) = (B C 0, B C 1, B C 2, B C 3, B C 4, B C 5, B C 6, B C 7) := by
    simp only [hn 0 (by decide), hn 1 (by decide), hn 2 (by decide), hn 3 (by decide), hn 4 (by decide), hn 5 (by decide), hn 6 (by decide), hn 7 (by decide)]
  refine ⟨⟨mix_len C X cut hC.len hX.len (by omega), mix_bytes hX hC hG hE cut, ?_⟩, fun hb => hm.2 ?_⟩
  · rw [hn 0 (by decide), hn 1 (by decide), hn 2 (by decide), hn 3 (by decide), hn 4 (by decide), hn 5 (by decide), hn 6 (by decide), hn 7 (by decide), ho 63 (by decide), ho 62 (by decide), ho 61 (by decide), ho 60 (by decide), ho 59 (by decide), ho 58 (by decide), ho 57 (by decide), ho 56 (by decide)]
    rw [hC.gen] at hm
    exact hm.1
  · have h := back_all hX hC hG hE cut (by omega) hb
    rw [hn 0 (by decide), hn 1 (by decide), hn 2 (by decide), hn 3 (by decide), hn 4 (by decide), hn 5 (by decide), hn 6 (by decide), hn 7 (by decide), ho 63 (by decide), ho 62 (by decide), ho 61 (by decide), ho 60 (by decide), ho 59 (by decide), ho 58 (by decide), ho 57 (by decide), ho 56 (by decide)] at h
    exact h
theorem stepB1 : MixS (C.take 57 ++ X.drop 57) G' := by
  have hm := mixB1 hX.d ⟨B_lt hC.by_ 0, B_lt hC.by_ 1, B_lt hC.by_ 2, B_lt hC.by_ 3, B_lt hC.by_ 4, B_lt hC.by_ 5, B_lt hC.by_ 6, B_lt hC.by_ 7⟩ (Nat.le_trans hG (Nat.le_of_eq hC.gen.symm)) (Nat.lt_of_lt_of_le hE (Nat.le_of_eq hC.ep.symm))
  have hk : ∀ i : Nat, i < 8 → B C (63 - i) = B C i := fun i hi => by
    unfold B
    have := hC.back (7 - i) (by omega)
    rw [show 56 + (7 - i) = 63 - i by omega, show 7 - (7 - i) = i by omega] at this
    rw [this]
  have hB := B_mix hX hC hG hE 57 (by decide)
  refine ⟨mix_len C X 57 hC.len hX.len (by decide), mix_bytes hX hC hG hE 57, ?_⟩
  have k0 := hk 0 (by decide); have k1 := hk 1 (by decide); have k2 := hk 2 (by decide); have k3 := hk 3 (by decide)
  have k4 := hk 4 (by decide); have k5 := hk 5 (by decide); have k6 := hk 6 (by decide); have k7 := hk 7 (by decide)
  simp only [Nat.reduceSub] at k0 k1 k2 k3 k4 k5 k6 k7
  simp only [hB, Nat.reduceLT, ↓reduceIte, k0, k1, k2, k3, k4, k5, k6, k7]
  rw [hC.gen] at hm
  exact hm
theorem stepB2 : MixS (C.take 58 ++ X.drop 58) G' := by
  have hm := mixB2 hX.d ⟨B_lt hC.by_ 0, B_lt hC.by_ 1, B_lt hC.by_ 2, B_lt hC.by_ 3, B_lt hC.by_ 4, B_lt hC.by_ 5, B_lt hC.by_ 6, B_lt hC.by_ 7⟩ (Nat.le_trans hG (Nat.le_of_eq hC.gen.symm)) (Nat.lt_of_lt_of_le hE (Nat.le_of_eq hC.ep.symm))
  have hk : ∀ i : Nat, i < 8 → B C (63 - i) = B C i := fun i hi => by
    unfold B
    have := hC.back (7 - i) (by omega)
    rw [show 56 + (7 - i) = 63 - i by omega, show 7 - (7 - i) = i by omega] at this
    rw [this]
  have hB := B_mix hX hC hG hE 58 (by decide)
  refine ⟨mix_len C X 58 hC.len hX.len (by decide), mix_bytes hX hC hG hE 58, ?_⟩
  have k0 := hk 0 (by decide); have k1 := hk 1 (by decide); have k2 := hk 2 (by decide); have k3 := hk 3 (by decide)
  have k4 := hk 4 (by decide); have k5 := hk 5 (by decide); have k6 := hk 6 (by decide); have k7 := hk 7 (by decide)
  simp only [Nat.reduceSub] at k0 k1 k2 k3 k4 k5 k6 k7
  simp only [hB, Nat.reduceLT, ↓reduceIte, k0, k1, k2, k3, k4, k5, k6, k7]
  rw [hC.gen] at hm
  exact hm
theorem stepB3 : MixS (C.take 59 ++ X.drop 59) G' := by
  have hm := mixB3 hX.d ⟨B_lt hC.by_ 0, B_lt hC.by_ 1, B_lt hC.by_ 2, B_lt hC.by_ 3, B_lt hC.by_ 4, B_lt hC.by_ 5, B_lt hC.by_ 6, B_lt hC.by_ 7⟩ (Nat.le_trans hG (Nat.le_of_eq hC.gen.symm)) (Nat.lt_of_lt_of_le hE (Nat.le_of_eq hC.ep.symm))
  have hk : ∀ i : Nat, i < 8 → B C (63 - i) = B C i := fun i hi => by
    unfold B
    have := hC.back (7 - i) (by omega)
    rw [show 56 + (7 - i) = 63 - i by omega, show 7 - (7 - i) = i by omega] at this
    rw [this]
  have hB := B_mix hX hC hG hE 59 (by decide)
  refine ⟨mix_len C X 59 hC.len hX.len (by decide), mix_bytes hX hC hG hE 59, ?_⟩
  have k0 := hk 0 (by decide); have k1 := hk 1 (by decide); have k2 := hk 2 (by decide); have k3 := hk 3 (by decide)
  have k4 := hk 4 (by decide); have k5 := hk 5 (by decide); have k6 := hk 6 (by decide); have k7 := hk 7 (by decide)
  simp only [Nat.reduceSub] at k0 k1 k2 k3 k4 k5 k6 k7
  simp only [hB, Nat.reduceLT, ↓reduceIte, k0, k1, k2, k3, k4, k5, k6, k7]
  rw [hC.gen] at hm
  exact hm
theorem stepB4 : MixS (C.take 60 ++ X.drop 60) G' := by
  have hm := mixB4 hX.d ⟨B_lt hC.by_ 0, B_lt hC.by_ 1, B_lt hC.by_ 2, B_lt hC.by_ 3, B_lt hC.by_ 4, B_lt hC.by_ 5, B_lt hC.by_ 6, B_lt hC.by_ 7⟩ (Nat.le_trans hG (Nat.le_of_eq hC.gen.symm)) (Nat.lt_of_lt_of_le hE (Nat.le_of_eq hC.ep.symm))
  have hk : ∀ i : Nat, i < 8 → B C (63 - i) = B C i := fun i hi => by
    unfold B
    have := hC.back (7 - i) (by omega)
    rw [show 56 + (7 - i) = 63 - i by omega, show 7 - (7 - i) = i by omega] at this
    rw [this]
  have hB := B_mix hX hC hG hE 60 (by decide)
  refine ⟨mix_len C X 60 hC.len hX.len (by decide), mix_bytes hX hC hG hE 60, ?_⟩
  have k0 := hk 0 (by decide); have k1 := hk 1 (by decide); have k2 := hk 2 (by decide); have k3 := hk 3 (by decide)
  have k4 := hk 4 (by decide); have k5 := hk 5 (by decide); have k6 := hk 6 (by decide); have k7 := hk 7 (by decide)
  simp only [Nat.reduceSub] at k0 k1 k2 k3 k4 k5 k6 k7
  simp only [hB, Nat.reduceLT, ↓reduceIte, k0, k1, k2, k3, k4, k5, k6, k7]
  rw [hC.gen] at hm
  exact hm
theorem stepB5 : MixS (C.take 61 ++ X.drop 61) G' := by
  have hm := mixB5 hX.d ⟨B_lt hC.by_ 0, B_lt hC.by_ 1, B_lt hC.by_ 2, B_lt hC.by_ 3, B_lt hC.by_ 4, B_lt hC.by_ 5, B_lt hC.by_ 6, B_lt hC.by_ 7⟩ (Nat.le_trans hG (Nat.le_of_eq hC.gen.symm)) (Nat.lt_of_lt_of_le hE (Nat.le_of_eq hC.ep.symm))
  have hk : ∀ i : Nat, i < 8 → B C (63 - i) = B C i := fun i hi => by
    unfold B
    have := hC.back (7 - i) (by omega)
    rw [show 56 + (7 - i) = 63 - i by omega, show 7 - (7 - i) = i by omega] at this
    rw [this]
  have hB := B_mix hX hC hG hE 61 (by decide)
  refine ⟨mix_len C X 61 hC.len hX.len (by decide), mix_bytes hX hC hG hE 61, ?_⟩
  have k0 := hk 0 (by decide); have k1 := hk 1 (by decide); have k2 := hk 2 (by decide); have k3 := hk 3 (by decide)
  have k4 := hk 4 (by decide); have k5 := hk 5 (by decide); have k6 := hk 6 (by decide); have k7 := hk 7 (by decide)
  simp only [Nat.reduceSub] at k0 k1 k2 k3 k4 k5 k6 k7
  simp only [hB, Nat.reduceLT, ↓reduceIte, k0, k1, k2, k3, k4, k5, k6, k7]
  rw [hC.gen] at hm
  exact hm
theorem stepB6 : MixS (C.take 62 ++ X.drop 62) G' := by
  have hm := mixB6 hX.d ⟨B_lt hC.by_ 0, B_lt hC.by_ 1, B_lt hC.by_ 2, B_lt hC.by_ 3, B_lt hC.by_ 4, B_lt hC.by_ 5, B_lt hC.by_ 6, B_lt hC.by_ 7⟩ (Nat.le_trans hG (Nat.le_of_eq hC.gen.symm)) (Nat.lt_of_lt_of_le hE (Nat.le_of_eq hC.ep.symm))
  have hk : ∀ i : Nat, i < 8 → B C (63 - i) = B C i := fun i hi => by
    unfold B
    have := hC.back (7 - i) (by omega)
    rw [show 56 + (7 - i) = 63 - i by omega, show 7 - (7 - i) = i by omega] at this
    rw [this]
  have hB := B_mix hX hC hG hE 62 (by decide)
  refine ⟨mix_len C X 62 hC.len hX.len (by decide), mix_bytes hX hC hG hE 62, ?_⟩
  have k0 := hk 0 (by decide); have k1 := hk 1 (by decide); have k2 := hk 2 (by decide); have k3 := hk 3 (by decide)
  have k4 := hk 4 (by decide); have k5 := hk 5 (by decide); have k6 := hk 6 (by decide); have k7 := hk 7 (by decide)
  simp only [Nat.reduceSub] at k0 k1 k2 k3 k4 k5 k6 k7
  simp only [hB, Nat.reduceLT, ↓reduceIte, k0, k1, k2, k3, k4, k5, k6, k7]
  rw [hC.gen] at hm
  exact hm
theorem stepB7 : MixS (C.take 63 ++ X.drop 63) G' := by
  have hm := mixB7 hX.d ⟨B_lt hC.by_ 0, B_lt hC.by_ 1, B_lt hC.by_ 2, B_lt hC.by_ 3, B_lt hC.by_ 4, B_lt hC.by_ 5, B_lt hC.by_ 6, B_lt hC.by_ 7⟩ (Nat.le_trans hG (Nat.le_of_eq hC.gen.symm)) (Nat.lt_of_lt_of_le hE (Nat.le_of_eq hC.ep.symm))
  have hk : ∀ i : Nat, i < 8 → B C (63 - i) = B C i := fun i hi => by
    unfold B
    have := hC.back (7 - i) (by omega)
    rw [show 56 + (7 - i) = 63 - i by omega, show 7 - (7 - i) = i by omega] at this
    rw [this]
  have hB := B_mix hX hC hG hE 63 (by decide)
  refine ⟨mix_len C X 63 hC.len hX.len (by decide), mix_bytes hX hC hG hE 63, ?_⟩
  have k0 := hk 0 (by decide); have k1 := hk 1 (by decide); have k2 := hk 2 (by decide); have k3 := hk 3 (by decide)
  have k4 := hk 4 (by decide); have k5 := hk 5 (by decide); have k6 := hk 6 (by decide); have k7 := hk 7 (by decide)
  simp only [Nat.reduceSub] at k0 k1 k2 k3 k4 k5 k6 k7
  simp only [hB, Nat.reduceLT, ↓reduceIte, k0, k1, k2, k3, k4, k5, k6, k7]
  rw [hC.gen] at hm
  exact hm
theorem stepB8 : MixS (C.take 64 ++ X.drop 64) G' := by
  have hm := mixB8 hX.d ⟨B_lt hC.by_ 0, B_lt hC.by_ 1, B_lt hC.by_ 2, B_lt hC.by_ 3, B_lt hC.by_ 4, B_lt hC.by_ 5, B_lt hC.by_ 6, B_lt hC.by_ 7⟩ (Nat.le_trans hG (Nat.le_of_eq hC.gen.symm)) (Nat.lt_of_lt_of_le hE (Nat.le_of_eq hC.ep.symm))
  have hk : ∀ i : Nat, i < 8 → B C (63 - i) = B C i := fun i hi => by
    unfold B
    have := hC.back (7 - i) (by omega)
    rw [show 56 + (7 - i) = 63 - i by omega, show 7 - (7 - i) = i by omega] at this
    rw [this]
  have hB := B_mix hX hC hG hE 64 (by decide)
  refine ⟨mix_len C X 64 hC.len hX.len (by decide), mix_bytes hX hC hG hE 64, ?_⟩
  have k0 := hk 0 (by decide); have k1 := hk 1 (by decide); have k2 := hk 2 (by decide); have k3 := hk 3 (by decide)
  have k4 := hk 4 (by decide); have k5 := hk 5 (by decide); have k6 := hk 6 (by decide); have k7 := hk 7 (by decide)
  simp only [Nat.reduceSub] at k0 k1 k2 k3 k4 k5 k6 k7
  simp only [hB, Nat.reduceLT, ↓reduceIte, k0, k1, k2, k3, k4, k5, k6, k7]
  rw [hC.gen] at hm
  exact hm
/-- a write that may break off: the sector stays of its kind, and if it can be read it is the cell or what was there -/
theorem mix_step (cut : Nat) (hc : cut ≤ 64) : MixS (C.take cut ++ X.drop cut) G' ∧ (backOK (C.take cut ++ X.drop cut) → C.take cut ++ X.drop cut = C ∨ C.take cut ++ X.drop cut = X) := by
  by_cases h8 : 8 ≤ cut
  · by_cases h56 : cut ≤ 56
    · have := stepM hX hC hG hE cut h8 h56
      exact ⟨this.1, fun h => absurd h this.2⟩
    · refine ⟨?_, fun hb => Or.inl (new_eq hX hC hG hE cut hc (by omega) hb)⟩
      obtain rfl | rfl | rfl | rfl | rfl | rfl | rfl | rfl : cut = 57 ∨ cut = 58 ∨ cut = 59 ∨ cut = 60 ∨ cut = 61 ∨ cut = 62 ∨ cut = 63 ∨ cut = 64 := by omega
      · exact stepB1 hX hC hG hE
      · exact stepB2 hX hC hG hE
      · exact stepB3 hX hC hG hE
      · exact stepB4 hX hC hG hE
      · exact stepB5 hX hC hG hE
      · exact stepB6 hX hC hG hE
      · exact stepB7 hX hC hG hE
      · exact stepB8 hX hC hG hE
  · obtain rfl | rfl | rfl | rfl | rfl | rfl | rfl | rfl : cut = 0 ∨ cut = 1 ∨ cut = 2 ∨ cut = 3 ∨ cut = 4 ∨ cut = 5 ∨ cut = 6 ∨ cut = 7 := by omega
    · rw [List.take_zero, List.drop_zero, List.nil_append]
      exact ⟨mixS_mono hX hG, fun _ => Or.inr rfl⟩
    · exact ⟨(stepF1 hX hC hG hE).1, fun h => Or.inr ((stepF1 hX hC hG hE).2 h)⟩
    · exact ⟨(stepF2 hX hC hG hE).1, fun h => Or.inr ((stepF2 hX hC hG hE).2 h)⟩
    · exact ⟨(stepF3 hX hC hG hE).1, fun h => Or.inr ((stepF3 hX hC hG hE).2 h)⟩
    · exact ⟨(stepF4 hX hC hG hE).1, fun h => Or.inr ((stepF4 hX hC hG hE).2 h)⟩
    · exact ⟨(stepF5 hX hC hG hE).1, fun h => Or.inr ((stepF5 hX hC hG hE).2 h)⟩
    · exact ⟨(stepF6 hX hC hG hE).1, fun h => Or.inr ((stepF6 hX hC hG hE).2 h)⟩
    · exact ⟨(stepF7 hX hC hG hE).1, fun h => Or.inr ((stepF7 hX hC hG hE).2 h)⟩
end
theorem mix_read {x : List Int} (h : (readT x).2.2.2.2 = 0) (hl : x.length = 64) : backOK x := by
  unfold readT at h
  rw [if_neg (fun h => h hl)] at h
  by_cases hC : readC x = 0
  · unfold readC at hC
    split at hC
    · cases hC
    · rename_i h; exact Classical.not_not.1 h
  · rw [if_pos hC] at h
    exact absurd h hC
end Go.Proofs.Ytfkndnocjelhgaa.Ext
