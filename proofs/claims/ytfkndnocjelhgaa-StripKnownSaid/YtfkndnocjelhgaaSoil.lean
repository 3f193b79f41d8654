/- Rows of rows that are spoilt: each element's bytes may be read and written, whatever else they share. No condition. -/
import Derived.Test.YtfkndnocjelhgaaArr
import Derived.Test.YtfkndnocjelhgaaWWords
namespace Go.Proofs.Ytfkndnocjelhgaa.Ext
open Go.RowKit Go.Proofs.YtfkndnocjelhgaaW.PrintWords Go.Proofs.Ytfkndnocjelhgaa.Arr
set_option linter.unusedVariables false
set_option linter.unusedSimpArgs false

/-- a slice whose bytes lie in blocks of ok and may be written -/
def SoilRow (W : World) (ok : Nat → Prop) (A : Option Addr) (m : Nat) : Prop := 0 < m → ∃ g o, A = some ⟨g, o, none⟩ ∧ ok g ∧ ∀ j, j < m → (∃ x : Int, W.cell? ⟨g, o + j, none⟩ = some (.int .u8 x)) ∧ W.frozen? ⟨g, o + j, none⟩ = false
/-- n such slices, in block gl -/
def Soil (W : World) (ok : Nat → Prop) (gl n : Nat) : Prop := ¬ ok gl ∧ ∀ i, i < n → ∃ A m c, m ≤ 9223372036854775807 ∧ m ≤ c ∧ W.cell? ⟨gl, i, none⟩ = some (.slice A m c) ∧ SoilRow W ok A m
theorem soil_cell {W : World} {p a : Addr} {x y : Int} (h : W.cell? a = some (.int .u8 x)) : ∃ z : Int, (W.setCell p (.int .u8 y)).cell? a = some (.int .u8 z) := by
  by_cases e : p = a
  · subst e
    exact ⟨y, World.cell?_setCell_same W p _ h⟩
  · exact ⟨x, (World.cell?_setCell_other W _ _ _ e).trans h⟩
theorem Soil.set {W : World} {ok : Nat → Prop} {gl n g o : Nat} {y : Int} (h : Soil W ok gl n) (hg : ok g) : Soil (W.setCell ⟨g, o, none⟩ (.int .u8 y)) ok gl n := by
  refine ⟨h.1, fun i hi => ?_⟩
  obtain ⟨A, m, c, hm, hc, hcell, hr⟩ := h.2 i hi
  have hne : gl ≠ g := fun e => h.1 (e ▸ hg)
  refine ⟨A, m, c, hm, hc, (World.cell?_setCell_other W _ _ _ (fun e => hne (congrArg Addr.block e).symm)).trans hcell, fun h0 => ?_⟩
  obtain ⟨g2, o2, e, hok, hj⟩ := hr h0
  refine ⟨g2, o2, e, hok, fun j hjm => ?_⟩
  obtain ⟨⟨x, hx⟩, hf⟩ := hj j hjm
  exact ⟨soil_cell hx, by rw [← hf]; simp⟩
theorem Soil.drew {W : World} {ok : Nat → Prop} {gl n : Nat} (h : Soil W ok gl n) : Soil W.drew ok gl n := h
/-- rows of one's own -/
theorem soil_of_R {W : World} {base n cap gl e : Nat} {ok : Nat → Prop} {xs : List (List Int)} (h : (Kd.slice 5 (Kd.int .u8)).R e W base ok (.slice (some ⟨gl, 0, none⟩) n cap) xs) : Soil W (fun k => base ≤ k ∧ k ≠ gl ∧ ok k) gl n := by
  refine ⟨fun hk => hk.2.1 rfl, fun i hi => ?_⟩
  obtain ⟨c, hcl, ⟨v, rfl, hv⟩, hcc, hf⟩ := Kd.R_elem h ([] : List Int) (i : Int) (by omega) (by omega)
  rw [Int.toNat_natCast] at *
  have hc0 := hcc 0 v rfl
  rw [show i * (Kd.slice 5 (Kd.int .u8)).sz + 0 = i by show i * 1 + 0 = i; omega] at hc0
  obtain ⟨A, c, rfl⟩ := Kd.R_slice hv
  have hr := Kd.R_reads' hv
  refine ⟨A, _, c, Kd.C_max hr.2.2, hr.2.1, hc0, fun h0 => ?_⟩
  obtain ⟨g, cap2, e2, hb, hlt, cells, hcells⟩ := Kd.R_form hv h0
  injection e2 with e3 _ e4
  subst e3
  refine ⟨g, 0, rfl, ⟨hb, ?_⟩, fun j hj => ?_⟩
  · have := hv.1 g (by rfl)
    exact ⟨this.2, this.1⟩
  · obtain ⟨h1, h2⟩ := Kd.R_celln (0 : Int) hv (j : Int) (by omega) (by omega)
    rw [Int.toNat_natCast] at h1 h2
    rw [Nat.zero_add]
    exact ⟨⟨_, h1⟩, h2⟩
end Go.Proofs.Ytfkndnocjelhgaa.Ext
