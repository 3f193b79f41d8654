import Derived.Deep.Matrix
import Derived.SizedLaws
import Derived.Test.YthnjkmjcacoajaaKJournalLoses1
/- A row of rows of bytes that came in, as the walks read it. No condition. -/
namespace Go.Proofs.Ythnjkmjcacoajaa.RowBits
open Go Go.RowKit Go.Deep Go.ChangeShapes Go.WideShapes Go.Proofs.YthnjkmjcacoajaaW.PrintWords
set_option linter.unusedVariables false
set_option linter.unusedSimpArgs false

theorem wf_byte {n : Int} (h : (Lit.int .u8 n).wf = true) : 0 ≤ n ∧ n < 256 := by
  simp [Lit.wf, IntKind.min, IntKind.max, IntKind.signed, IntKind.bits] at h
  omega
theorem C_bytes {W : World} {A : Option Addr} {L C : Nat} {zs : List Int} (hl : L ≤ C) (hm : C ≤ maxLen) (hz : zs.length = C) (h0 : A = none → C = 0) (hc : ∀ a, A = some a → ∀ c, c < C → W.cell? (a.add c) = some (.int .u8 (zs.getD c 0))) :
    Kd.C (Kd.int .u8) W A (zs.take L).length (zs.take L) := by
  have hlen : (zs.take L).length = L := by rw [List.length_take]; omega
  unfold maxLen at hm
  refine ⟨rfl, by omega, fun hn => ?_⟩
  cases A with
  | none => have := h0 rfl; omega
  | some a =>
    refine ⟨a, rfl, fun j p hj => ⟨[.int .u8 p], rfl, rfl, fun i u hu => ?_⟩⟩
    rcases i with _ | i
    · obtain rfl := Option.some.inj hu
      have hjl : j < L := by
        have := (List.getElem?_eq_some_iff.1 hj).1
        omega
      rw [List.getElem?_take_of_lt hjl] at hj
      have := hc a rfl j (by omega)
      rw [List.getD_eq_getElem?_getD, hj] at this
      simpa [Kd.int, Kd.scalar] using this
    · simp at hu
theorem rows_open {H : Type} {enc : TypeId × Value → H} {P : Program} {W : World} {base : Nat} {t e q : TypeId} {fuel : Nat} {a : Option Addr} {len cap : Nat} {x : DataW H × List MemPlace} (ht : P.underlying t = some (.slice e)) (he : P.underlying e = some (.slice q)) (hq : P.underlying q = some (.int .u8)) (ce : P.cellsOf e = 1) (cq : P.cellsOf q = 1)
    (h : DataW.trod enc P W base (fun _ => true) true fuel t (Value.slice a len cap).cells.toList = some x) :
    ∃ l0 : List (List Int), len = l0.length ∧ Kd.C (Kd.slice q (Kd.int .u8)) W a l0.length l0 ∧ l0.length ≤ cap ∧ l0.length ≤ 9223372036854775807 ∧ (∀ l ∈ l0, ∀ y ∈ l, 0 ≤ y ∧ y < 256) := by
  rcases open_int_rows ht he hq ce cq h with ⟨hcs, _⟩ | ⟨a', len', cap', A, L, C, Z, hcs, _, hl, hm, hx, hr⟩
  · simp [Value.cells] at hcs
    obtain ⟨rfl, rfl, rfl⟩ := hcs
    exact ⟨[], rfl, Kd.C_nil _ _, Nat.le_refl _, by decide, fun l hl => by cases hl⟩
  · simp [Value.cells] at hcs
    obtain ⟨rfl, rfl, rfl⟩ := hcs
    have hlen : ((List.range len).map fun r => (Z r).take (L r)).length = len := by simp
    have hm' : cap ≤ 9223372036854775807 := hm
    refine ⟨(List.range len).map fun r => (Z r).take (L r), hlen.symm, ⟨rfl, by omega, fun hn => ⟨a', rfl, fun j p hj => ?_⟩⟩, by omega, by omega, fun l hl' y hy => ?_⟩
    · rw [List.getElem?_map] at hj
      obtain ⟨r, hr1, rfl⟩ := Option.map_eq_some_iff.1 hj
      have hjr : j < len ∧ r = j := by
        have h1 := (List.getElem?_eq_some_iff.1 hr1)
        obtain ⟨h2, h3⟩ := h1
        simp at h2 h3
        exact ⟨h2, h3.symm⟩
      obtain ⟨hjl, rfl⟩ := hjr
      obtain ⟨hcell, hLC, hCm, hZ, hwf, hnone, hin⟩ := hr r (by omega)
      have hlr : ((Z r).take (L r)).length = L r := by rw [List.length_take]; omega
      refine ⟨[.slice (A r) (L r) (C r)], rfl, ⟨A r, C r, by rw [hlr], by omega, C_bytes hLC hCm hZ hnone (fun a2 ha2 => (hin a2 ha2).2)⟩, fun i u hu => ?_⟩
      rcases i with _ | i
      · obtain rfl := Option.some.inj hu
        show W.cell? (a'.add (r * 1 + 0)) = _
        rw [Nat.mul_one, Nat.add_zero]
        exact hcell
      · simp at hu
    · obtain ⟨r, hr1, rfl⟩ := List.mem_map.1 hl'
      obtain ⟨_, _, _, _, hwf, _, _⟩ := hr r (by have := List.mem_range.1 hr1; omega)
      exact wf_byte (hwf y (List.mem_of_mem_take hy))
end Go.Proofs.Ythnjkmjcacoajaa.RowBits

