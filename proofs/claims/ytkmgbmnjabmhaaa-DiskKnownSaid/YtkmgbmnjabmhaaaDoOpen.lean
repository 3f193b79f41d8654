/- A law's []Do that came in, as DoRow says. No condition. -/
import Derived.Deep.SlicePairs
import Derived.ChangeSlices
import Derived.SizedLaws
import Derived.Test.YtkmgbmnjabmhaaaPlays
namespace Go.Proofs.Ytkmgbmnjabmhaaa.Ext
open Go Go.RowKit Go.Deep Go.ChangeShapes Go.WideShapes Go.Proofs.YtkmgbmnjabmhaaaW.PrintWords
set_option linter.unusedVariables false
set_option linter.unusedSimpArgs false

theorem C_bytes {W : World} {A : Option Addr} {L C : Nat} {zs : List Int} (hl : L ≤ C) (hm : C ≤ maxLen) (hz : zs.length = C) (h0 : A = none → C = 0) (hc : ∀ a, A = some a → ∀ c, c < C → W.cell? (a.add c) = some (.int .u8 (zs.getD c 0))) :
    Kd.C (Kd.int .u8) W A (zs.take L).length (zs.take L) := by
  have hlen : (zs.take L).length = L := by rw [List.length_take]; omega
  unfold maxLen at hm
  refine ⟨rfl, by omega, fun hn => ?_⟩
  cases A with
  | none => have := h0 rfl; omega
  | some a =>
    refine ⟨a, rfl, fun j p hj => ⟨[.int .u8 p], rfl, rfl, fun i u hu => ?_⟩⟩
    rcases i with _ | i
    · obtain rfl := Option.some.inj hu
      have hjl : j < L := by
        have := (List.getElem?_eq_some_iff.1 hj).1
        omega
      rw [List.getElem?_take_of_lt hjl] at hj
      have := hc a rfl j (by omega)
      rw [List.getD_eq_getElem?_getD, hj] at this
      simpa [Kd.int, Kd.scalar] using this
    · simp at hu
section
variable {H : Type} {enc : TypeId × Value → H} {W : World} {base : Nat}
theorem c_int : Try.prog.cellsOf 3 = 1 := by kernel_rfl
theorem c_u64 : Try.prog.cellsOf 23 = 1 := by kernel_rfl
theorem c_bytes : Try.prog.cellsOf 26 = 1 := by kernel_rfl
theorem c_byte : Try.prog.cellsOf 5 = 1 := by kernel_rfl
theorem c_do : Try.prog.cellsOf 58 = 5 := by kernel_rfl
theorem b_byte : Try.prog.bytesOf 5 = 1 := by kernel_rfl
def DoIs (W : World) (d : DoT) (cs : List Value) : Prop := ∃ A' c', cs = [.int .i64 d.1, .int .i64 d.2.1, .int .i64 d.2.2.1, .int .u64 d.2.2.2.1, .slice A' d.2.2.2.2.length c'] ∧
  d.2.2.2.2.length ≤ c' ∧ Kd.C (Kd.int .u8) W A' d.2.2.2.2.length d.2.2.2.2 ∧ d.2.2.2.2.length < 140737488355328 ∧ d.2.1 ≤ 9223372036854775807
theorem do_elem {n : Nat} {cs : List Value} {y : DataW H × List MemPlace} (h : DataW.trod enc Try.prog W base (fun _ => true) true n 58 cs = some y) (hw : ∀ q ∈ y.1.weights Try.prog 58, q ≤ reachBytes) : ∃ d, DoIs W d cs := by
  obtain ⟨xs, k, rfl, rfl, hl, hxl, hf⟩ := DataW.trod_struct Try.underlying58 h
  rw [c_do] at hl
  match cs, hl, xs, hxl with
  | [v0, v1, v2, v3, v4], _, [y0, y1, y2, y3, y4], _ =>
    have g0 : DataW.trod enc Try.prog W base (fun _ => true) true k 3 (([v0, v1, v2, v3, v4].drop 0).take (Try.prog.cellsOf 3)) = some y0 := hf 0 _ rfl
    rw [c_int] at g0
    replace g0 : DataW.trod enc Try.prog W base (fun _ => true) true k 3 [v0] = some y0 := g0
    have g1 : DataW.trod enc Try.prog W base (fun _ => true) true k 3 (([v0, v1, v2, v3, v4].drop 1).take (Try.prog.cellsOf 3)) = some y1 := hf 1 _ rfl
    rw [c_int] at g1
    replace g1 : DataW.trod enc Try.prog W base (fun _ => true) true k 3 [v1] = some y1 := g1
    have g2 : DataW.trod enc Try.prog W base (fun _ => true) true k 3 (([v0, v1, v2, v3, v4].drop 2).take (Try.prog.cellsOf 3)) = some y2 := hf 2 _ rfl
    rw [c_int] at g2
    replace g2 : DataW.trod enc Try.prog W base (fun _ => true) true k 3 [v2] = some y2 := g2
    have g3 : DataW.trod enc Try.prog W base (fun _ => true) true k 23 (([v0, v1, v2, v3, v4].drop 3).take (Try.prog.cellsOf 23)) = some y3 := hf 3 _ rfl
    rw [c_u64] at g3
    replace g3 : DataW.trod enc Try.prog W base (fun _ => true) true k 23 [v3] = some y3 := g3
    have g4 : DataW.trod enc Try.prog W base (fun _ => true) true k 26 (([v0, v1, v2, v3, v4].drop 4).take (Try.prog.cellsOf 26)) = some y4 := hf 4 _ rfl
    rw [c_bytes] at g4
    replace g4 : DataW.trod enc Try.prog W base (fun _ => true) true k 26 [v4] = some y4 := g4
    obtain ⟨k0, e0, -, -⟩ := DataW.trod_int Try.underlying3 g0
    obtain ⟨k1, e1, -, w1⟩ := DataW.trod_int Try.underlying3 g1
    obtain ⟨k2, e2, -, -⟩ := DataW.trod_int Try.underlying3 g2
    obtain ⟨k3, e3, -, -⟩ := DataW.trod_int Try.underlying23 g3
    injection e0 with e0; injection e1 with e1; injection e2 with e2; injection e3 with e3
    subst e0; subst e1; subst e2; subst e3
    have ha : k1 ≤ 9223372036854775807 := by
      simp [Lit.wf, IntKind.min, IntKind.max, IntKind.signed, IntKind.bits] at w1
      omega
    rcases open_ints Try.underlying26 Try.underlying5 c_byte g4 with ⟨hcs, _⟩ | ⟨a, len, cap, zs, hcs, _, hl, hm, hz, hy, hcell, _⟩
    · injection hcs with hcs; subst hcs
      exact ⟨(k0, k1, k2, k3, []), none, 0, rfl, Nat.le_refl _, Kd.C_nil _ _, by show 0 < _; decide, ha⟩
    · injection hcs with hcs; subst hcs
      rw [if_pos rfl] at hz
      have hlen : (zs.take len).length = len := by rw [List.length_take]; omega
      refine ⟨(k0, k1, k2, k3, zs.take len), some a, cap, by rw [hlen], by rw [hlen]; exact hl, C_bytes hl hm hz (fun e => by cases e) (fun a' ha' c hc => by injection ha' with e; subst e; exact hcell c (by omega)), ?_, ha⟩
      have hmem : ((lits (H := H) .u8 (zs.take len)).length + (lits (H := H) .u8 (zs.drop len)).length) * Try.prog.bytesOf 5 ≤ reachBytes := by
        refine hw _ ?_
        show _ ∈ (DataW.agg _).weights _ _
        simp only [DataW.weights, Try.underlying58]
        refine DataW.weights_mem_each (j := 4) (t := 26) (d := y4.1) rfl rfl _ ?_
        rw [hy]
        simp [DataW.weights, Try.underlying26]
      rw [b_byte, Nat.mul_one] at hmem
      have h1 : (lits (H := H) .u8 (zs.take len)).length = len := by simp [lits]; omega
      show (zs.take len).length < _
      rw [hlen]
      have : reachBytes < 140737488355328 := by decide
      omega
theorem weights_all {P : Program} {e : TypeId} : ∀ {l : List (DataW H)} {d : DataW H}, d ∈ l → ∀ q ∈ d.weights P e, q ∈ DataW.weightsAll P e l
  | x :: r, d, hd, q, hq => by
    simp only [DataW.weightsAll, List.mem_append]
    rcases List.mem_cons.1 hd with rfl | hd
    · exact .inl hq
    · exact .inr (weights_all hd q hq)
instance : Inhabited DoT := ⟨(0, 0, 0, 0, [])⟩
theorem do_open {fuel : Nat} {a : Option Addr} {len cap : Nat} {x : DataW H × List MemPlace} (h : DataW.trod enc Try.prog W base (fun _ => true) true fuel 48 (Value.slice a len cap).cells.toList = some x) (hw : ∀ q ∈ x.1.weights Try.prog 48, q ≤ reachBytes) :
    ∃ l : List DoT, len = l.length ∧ DoRow W a l ∧ l.length ≤ cap ∧ l.length ≤ 9223372036854775807 := by
  rcases open_slice Try.underlying48 h with ⟨hcs, _⟩ | ⟨a', len', cap', m, n, D, Pl, hcs, _, hl, hm, hmm, rfl, hx⟩
  · simp [Value.cells] at hcs
    obtain ⟨rfl, rfl, rfl⟩ := hcs
    exact ⟨[], rfl, fun j d h => by simp at h, Nat.le_refl _, by decide⟩
  · simp [Value.cells] at hcs
    obtain ⟨rfl, rfl, rfl⟩ := hcs
    rw [if_pos rfl] at hmm
    subst hmm
    obtain ⟨V, hV⟩ := choose_lt (α := DoT) (n := len) (p := fun i d => ∃ cs, W.cells? base (a'.add (i * Try.prog.cellsOf 58)) (Try.prog.cellsOf 58) = some cs ∧ DoIs W d cs) (fun i hi => by
      obtain ⟨cs, h1, h2⟩ := hx i (by omega)
      obtain ⟨d, hd⟩ := do_elem h2 (fun q hq => hw q (by
        simp only [DataW.weights, Try.underlying48, List.mem_cons, List.mem_append]
        exact .inr (.inl (weights_all (List.mem_map.2 ⟨i, List.mem_range.2 hi, rfl⟩) q hq))))
      exact ⟨d, cs, h1, hd⟩)
    unfold maxLen at hm
    refine ⟨(List.range len).map V, by simp, fun j d hj => ?_, by simpa using hl, by simp; omega⟩
    rw [List.getElem?_map] at hj
    obtain ⟨r, hr1, rfl⟩ := Option.map_eq_some_iff.1 hj
    have hjr : j < len ∧ r = j := by
      obtain ⟨h2, h3⟩ := List.getElem?_eq_some_iff.1 hr1
      simp at h2 h3
      exact ⟨h2, h3.symm⟩
    obtain ⟨hjl, rfl⟩ := hjr
    obtain ⟨cs, h1, A', c', rfl, h3, h4, h5, h6⟩ := hV r hjl
    obtain ⟨_, _, hcell⟩ := World.cells?_some h1
    rw [c_do] at hcell
    have q0 := hcell 0 (by omega)
    have q1 := hcell 1 (by omega)
    have q2 := hcell 2 (by omega)
    have q3 := hcell 3 (by omega)
    have q4 := hcell 4 (by omega)
    rw [Go.Deep.add_add] at q0 q1 q2 q3 q4
    exact ⟨a', A', c', rfl, ⟨q0, q1, q2, q3, q4⟩, h3, h4, h5, h6⟩
end
end Go.Proofs.Ytkmgbmnjabmhaaa.Ext
