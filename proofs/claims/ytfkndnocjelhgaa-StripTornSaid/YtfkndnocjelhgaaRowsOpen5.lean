/- A law's rows of bytes that came in, with their sizes. No condition. -/
import Derived.Deep.Matrix
import Derived.Test.YtfkndnocjelhgaaRowOpen5
namespace Go.Proofs.Ytfkndnocjelhgaa.Ext
open Go Go.RowKit Go.Deep Go.ChangeShapes Go.WideShapes Go.Proofs.YtfkndnocjelhgaaW.PrintWords
set_option linter.unusedVariables false
set_option linter.unusedSimpArgs false

theorem wf_byte {n : Int} (h : (Lit.int .u8 n).wf = true) : 0 ≤ n ∧ n < 256 := by
  simp [Lit.wf, IntKind.min, IntKind.max, IntKind.signed, IntKind.bits] at h
  omega
section
variable {H : Type} {enc : TypeId × Value → H} {W : World} {base : Nat}
theorem c_row : Try.prog.cellsOf 24 = 1 := by kernel_rfl
theorem b_byte : Try.prog.bytesOf 5 = 1 := by kernel_rfl
theorem weights_all {P : Program} {e : TypeId} : ∀ {l : List (DataW H)} {d : DataW H}, d ∈ l → ∀ q ∈ d.weights P e, q ∈ DataW.weightsAll P e l
  | x :: r, d, hd, q, hq => by
    simp only [DataW.weightsAll, List.mem_append]
    rcases List.mem_cons.1 hd with rfl | hd
    · exact .inl hq
    · exact .inr (weights_all hd q hq)
theorem rows_open {fuel : Nat} {a : Option Addr} {len cap : Nat} {x : DataW H × List MemPlace} (h : DataW.trod enc Try.prog W base (fun _ => true) true fuel 26 (Value.slice a len cap).cells.toList = some x) (hw : ∀ q ∈ x.1.weights Try.prog 26, q ≤ reachBytes) :
    ∃ l0 : List (List Int), len = l0.length ∧ Kd.C (Kd.slice 5 (Kd.int .u8)) W a l0.length l0 ∧ l0.length ≤ cap ∧ l0.length ≤ 9223372036854775807 ∧ (∀ l ∈ l0, Bytes l) ∧ (∀ l ∈ l0, l.length < 140737488355328) := by
  rcases open_int_rows Try.underlying26 Try.underlying24 Try.underlying5 c_row c_byte h with ⟨hcs, _⟩ | ⟨a', len', cap', A, L, C, Z, hcs, _, hl, hm, hx, hr⟩
  · simp [Value.cells] at hcs
    obtain ⟨rfl, rfl, rfl⟩ := hcs
    exact ⟨[], rfl, Kd.C_nil _ _, Nat.le_refl _, by decide, (fun l hl => by cases hl), (fun l hl => by cases hl)⟩
  · simp [Value.cells] at hcs
    obtain ⟨rfl, rfl, rfl⟩ := hcs
    have hlen : ((List.range len).map fun r => (Z r).take (L r)).length = len := by simp
    have hm' : cap ≤ 9223372036854775807 := hm
    refine ⟨(List.range len).map fun r => (Z r).take (L r), hlen.symm, ⟨rfl, by omega, fun hn => ⟨a', rfl, fun j p hj => ?_⟩⟩, by omega, by omega, fun l hl' y hy => ?_, fun l hl' => ?_⟩
    · rw [List.getElem?_map] at hj
      obtain ⟨r, hr1, rfl⟩ := Option.map_eq_some_iff.1 hj
      have hjr : j < len ∧ r = j := by
        have h1 := (List.getElem?_eq_some_iff.1 hr1)
        obtain ⟨h2, h3⟩ := h1
        simp at h2 h3
        exact ⟨h2, h3.symm⟩
      obtain ⟨hjl, rfl⟩ := hjr
      obtain ⟨hcell, hLC, hCm, hZ, hwf, hnone, hin⟩ := hr r (by omega)
      have hlr : ((Z r).take (L r)).length = L r := by rw [List.length_take]; omega
      refine ⟨[.slice (A r) (L r) (C r)], rfl, ⟨A r, C r, by rw [hlr], by omega, C_bytes hLC hCm hZ hnone (fun a2 ha2 => (hin a2 ha2).2)⟩, fun i u hu => ?_⟩
      rcases i with _ | i
      · obtain rfl := Option.some.inj hu
        show W.cell? (a'.add (r * 1 + 0)) = _
        rw [Nat.mul_one, Nat.add_zero]
        exact hcell
      · simp at hu
    · obtain ⟨r, hr1, rfl⟩ := List.mem_map.1 hl'
      obtain ⟨_, _, _, _, hwf, _, _⟩ := hr r (by have := List.mem_range.1 hr1; omega)
      exact wf_byte (hwf y (List.mem_of_mem_take hy))
    · obtain ⟨r, hr1, rfl⟩ := List.mem_map.1 hl'
      have hrl := List.mem_range.1 hr1
      obtain ⟨_, hLC, _, hZ, _, hnone, _⟩ := hr r (by omega)
      rw [List.length_take]
      cases hA : A r with
      | none =>
        have := hnone hA
        omega
      | some a2 =>
        have hmem : ((lits (H := H) .u8 ((Z r).take (L r))).length + (lits (H := H) .u8 ((Z r).drop (L r))).length) * Try.prog.bytesOf 5 ≤ reachBytes := by
          refine hw _ ?_
          rw [hx]
          simp only [DataW.weights, Try.underlying26, List.mem_cons, List.mem_append]
          refine .inr (.inl (weights_all (d := intRow .u8 (A r) (L r) (Z r)) (List.mem_map.2 ⟨r, List.mem_range.2 hrl, rfl⟩) _ ?_))
          rw [hA]
          simp [intRow, DataW.weights, Try.underlying24]
        rw [b_byte, Nat.mul_one] at hmem
        have h1 : (lits (H := H) .u8 ((Z r).take (L r))).length = min (L r) (Z r).length := by simp [lits]
        have : reachBytes < 140737488355328 := by decide
        omega
end
end Go.Proofs.Ytfkndnocjelhgaa.Ext
