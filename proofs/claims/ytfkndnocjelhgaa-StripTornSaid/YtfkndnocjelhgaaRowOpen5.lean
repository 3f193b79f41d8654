/- A law's bytes and stamps that came in, as the walks read them. No condition. -/
import Derived.Deep.SlicePairs
import Derived.ChangeSlices
import Derived.SizedLaws
import Derived.Test.YtfkndnocjelhgaaWWords
import Derived.Test.YtfkndnocjelhgaaCellLaw
namespace Go.Proofs.Ytfkndnocjelhgaa.Ext
open Go Go.RowKit Go.Deep Go.ChangeShapes Go.WideShapes Go.Proofs.YtfkndnocjelhgaaW.PrintWords
set_option linter.unusedVariables false
set_option linter.unusedSimpArgs false

theorem C_bytes {W : World} {A : Option Addr} {L C : Nat} {zs : List Int} (hl : L ≤ C) (hm : C ≤ maxLen) (hz : zs.length = C) (h0 : A = none → C = 0) (hc : ∀ a, A = some a → ∀ c, c < C → W.cell? (a.add c) = some (.int .u8 (zs.getD c 0))) :
    Kd.C (Kd.int .u8) W A (zs.take L).length (zs.take L) := by
  have hlen : (zs.take L).length = L := by rw [List.length_take]; omega
  unfold maxLen at hm
  refine ⟨rfl, by omega, fun hn => ?_⟩
  cases A with
  | none => have := h0 rfl; omega
  | some a =>
    refine ⟨a, rfl, fun j p hj => ⟨[.int .u8 p], rfl, rfl, fun i u hu => ?_⟩⟩
    rcases i with _ | i
    · obtain rfl := Option.some.inj hu
      have hjl : j < L := by
        have := (List.getElem?_eq_some_iff.1 hj).1
        omega
      rw [List.getElem?_take_of_lt hjl] at hj
      have := hc a rfl j (by omega)
      rw [List.getD_eq_getElem?_getD, hj] at this
      simpa [Kd.int, Kd.scalar] using this
    · simp at hu
section
variable {H : Type} {enc : TypeId × Value → H} {W : World} {base : Nat}
theorem c_byte : Try.prog.cellsOf 5 = 1 := by kernel_rfl
/-- a row of bytes -/
theorem bytes_open {n : Nat} {a : Option Addr} {len cap : Nat} {y : DataW H × List MemPlace} (h : DataW.trod enc Try.prog W base (fun _ => true) true n 24 [.slice a len cap] = some y) :
    ∃ l : List Int, len = l.length ∧ Kd.C (Kd.int .u8) W a l.length l ∧ l.length ≤ cap ∧ Bytes l ∧ l.length ≤ maxLen := by
  rcases open_ints Try.underlying24 Try.underlying5 c_byte h with ⟨hcs, _⟩ | ⟨a', len', cap', zs, hcs, _, hl, hm, hz, hy, hcell, hwz⟩
  · injection hcs with hcs
    injection hcs with h1 h2 h3
    subst h1; subst h2; subst h3
    exact ⟨[], rfl, Kd.C_nil _ _, Nat.le_refl _, fun x hx => by simp at hx, Nat.zero_le _⟩
  · injection hcs with hcs
    injection hcs with h1 h2 h3
    subst h1; subst h2; subst h3
    rw [if_pos rfl] at hz
    have hlen : (zs.take len).length = len := by rw [List.length_take]; omega
    refine ⟨zs.take len, hlen.symm, C_bytes hl hm hz (fun e => by cases e) (fun a2 ha c hc => by injection ha with e; subst e; exact hcell c (by omega)), by rw [hlen]; exact hl, ?_, by rw [hlen]; omega⟩
    intro x hx
    have := hwz x (List.mem_of_mem_take hx)
    simp [Lit.wf, IntKind.min, IntKind.max, IntKind.signed, IntKind.bits] at this
    omega
end
end Go.Proofs.Ytfkndnocjelhgaa.Ext
