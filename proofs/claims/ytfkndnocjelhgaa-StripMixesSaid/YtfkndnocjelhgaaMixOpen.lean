/- A law's []Mix that came in, as MixRow says. No condition. -/
import Derived.Deep.SlicePairs
import Derived.ChangeSlices
import Derived.SizedLaws
import Derived.Test.YtfkndnocjelhgaaStripMixesW
namespace Go.Proofs.Ytfkndnocjelhgaa.Ext
open Go Go.RowKit Go.Deep Go.ChangeShapes Go.WideShapes Go.Proofs.YtfkndnocjelhgaaW.PrintWords
set_option linter.unusedVariables false
set_option linter.unusedSimpArgs false

section
variable {H : Type} {enc : TypeId × Value → H} {W : World} {base : Nat}
theorem c_int : Try.prog.cellsOf 3 = 1 := by kernel_rfl
theorem c_byte : Try.prog.cellsOf 5 = 1 := by kernel_rfl
theorem c_mix : Try.prog.cellsOf 51 = 4 := by kernel_rfl
def MixIs (d : MixT) (cs : List Value) : Prop := cs = [.int .i64 d.1, .int .i64 d.2.1, .int .u8 d.2.2.1, .int .i64 d.2.2.2] ∧ 0 ≤ d.2.2.1 ∧ d.2.2.1 < 256
theorem mix_elem {n : Nat} {cs : List Value} {y : DataW H × List MemPlace} (h : DataW.trod enc Try.prog W base (fun _ => true) true n 51 cs = some y) : ∃ d, MixIs d cs := by
  obtain ⟨xs, k, rfl, rfl, hl, hxl, hf⟩ := DataW.trod_struct Try.underlying51 h
  rw [c_mix] at hl
  match cs, hl, xs, hxl with
  | [v0, v1, v2, v3], _, [y0, y1, y2, y3], _ =>
    have g0 : DataW.trod enc Try.prog W base (fun _ => true) true k 3 (([v0, v1, v2, v3].drop 0).take (Try.prog.cellsOf 3)) = some y0 := hf 0 _ rfl
    rw [c_int] at g0
    replace g0 : DataW.trod enc Try.prog W base (fun _ => true) true k 3 [v0] = some y0 := g0
    have g1 : DataW.trod enc Try.prog W base (fun _ => true) true k 3 (([v0, v1, v2, v3].drop 1).take (Try.prog.cellsOf 3)) = some y1 := hf 1 _ rfl
    rw [c_int] at g1
    replace g1 : DataW.trod enc Try.prog W base (fun _ => true) true k 3 [v1] = some y1 := g1
    have g2 : DataW.trod enc Try.prog W base (fun _ => true) true k 5 (([v0, v1, v2, v3].drop 2).take (Try.prog.cellsOf 5)) = some y2 := hf 2 _ rfl
    rw [c_byte] at g2
    replace g2 : DataW.trod enc Try.prog W base (fun _ => true) true k 5 [v2] = some y2 := g2
    have g3 : DataW.trod enc Try.prog W base (fun _ => true) true k 3 (([v0, v1, v2, v3].drop 3).take (Try.prog.cellsOf 3)) = some y3 := hf 3 _ rfl
    rw [c_int] at g3
    replace g3 : DataW.trod enc Try.prog W base (fun _ => true) true k 3 [v3] = some y3 := g3
    obtain ⟨k0, e0, -, -⟩ := DataW.trod_int Try.underlying3 g0
    obtain ⟨k1, e1, -, -⟩ := DataW.trod_int Try.underlying3 g1
    obtain ⟨k2, e2, -, w2⟩ := DataW.trod_int Try.underlying5 g2
    obtain ⟨k3, e3, -, -⟩ := DataW.trod_int Try.underlying3 g3
    injection e0 with e0; injection e1 with e1; injection e2 with e2; injection e3 with e3
    subst e0; subst e1; subst e2; subst e3
    refine ⟨(k0, k1, k2, k3), rfl, ?_⟩
    simp [Lit.wf, IntKind.min, IntKind.max, IntKind.signed, IntKind.bits] at w2
    show 0 ≤ k2 ∧ k2 < 256
    omega
instance : Inhabited MixT := ⟨(0, 0, 0, 0)⟩
theorem mix_open {fuel : Nat} {a : Option Addr} {len cap : Nat} {x : DataW H × List MemPlace} (h : DataW.trod enc Try.prog W base (fun _ => true) true fuel 48 (Value.slice a len cap).cells.toList = some x) :
    ∃ l : List MixT, len = l.length ∧ MixRow W a l ∧ l.length ≤ cap ∧ l.length ≤ 9223372036854775807 := by
  rcases open_slice Try.underlying48 h with ⟨hcs, _⟩ | ⟨a', len', cap', m, n, D, Pl, hcs, _, hl, hm, hmm, rfl, hx⟩
  · simp [Value.cells] at hcs
    obtain ⟨rfl, rfl, rfl⟩ := hcs
    exact ⟨[], rfl, fun j d h => by simp at h, Nat.le_refl _, by decide⟩
  · simp [Value.cells] at hcs
    obtain ⟨rfl, rfl, rfl⟩ := hcs
    rw [if_pos rfl] at hmm
    subst hmm
    obtain ⟨V, hV⟩ := choose_lt (α := MixT) (n := len) (p := fun i d => ∃ cs, W.cells? base (a'.add (i * Try.prog.cellsOf 51)) (Try.prog.cellsOf 51) = some cs ∧ MixIs d cs) (fun i hi => by
      obtain ⟨cs, h1, h2⟩ := hx i (by omega)
      obtain ⟨d, hd⟩ := mix_elem h2
      exact ⟨d, cs, h1, hd⟩)
    unfold maxLen at hm
    refine ⟨(List.range len).map V, by simp, fun j d hj => ?_, by simpa using hl, by simp; omega⟩
    rw [List.getElem?_map] at hj
    obtain ⟨r, hr1, rfl⟩ := Option.map_eq_some_iff.1 hj
    have hjr : j < len ∧ r = j := by
      obtain ⟨h2, h3⟩ := List.getElem?_eq_some_iff.1 hr1
      simp at h2 h3
      exact ⟨h2, h3.symm⟩
    obtain ⟨hjl, rfl⟩ := hjr
    obtain ⟨cs, h1, rfl, h3, h4⟩ := hV r hjl
    obtain ⟨_, _, hcell⟩ := World.cells?_some h1
    rw [c_mix] at hcell
    have q0 := hcell 0 (by omega)
    have q1 := hcell 1 (by omega)
    have q2 := hcell 2 (by omega)
    have q3 := hcell 3 (by omega)
    rw [Go.Deep.add_add] at q0 q1 q2 q3
    exact ⟨a', rfl, ⟨q0, q1, q2, q3⟩, h3, h4⟩
end
end Go.Proofs.Ytfkndnocjelhgaa.Ext
