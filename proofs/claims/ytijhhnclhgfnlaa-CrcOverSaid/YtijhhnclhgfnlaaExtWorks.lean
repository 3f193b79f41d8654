/- crc.Of is crc.More from 0; encorelaw01.works answers true. No condition. -/
import Derived.Test.YtijhhnclhgfnlaaExtMore
import Derived.Lib.SlBytesConst
namespace Go.Proofs.Ytijhhnclhgfnlaa.Ext
open Go.RowKit Go.Proofs.YtijhhnclhgfnlaaW.PrintWords Go.Proofs.YtijhhnclhgfnlaaW.PrintLast Go.Proofs.YtijhhnclhgfnlaaW.PrintMore Go.Proofs.Ytijhhnclhgfnlaa.Base Go.Proofs.Ytijhhnclhgfnlaa.Arr
set_option linter.unusedVariables false
set_option linter.unusedSimpArgs false

def crc_Of.f (l0 : List Int) : Option Int := crc_More.f 0 l0
theorem crc_Of.calls (A0 : Option Addr) (c0 : Nat) (l0 : List Int) (r : Int) (w : World) (hr0 : Kd.C (Kd.int .u8) w A0 l0.length l0) (hc0 : l0.length ≤ c0) (h : crc_Of.f l0 = some r) :
    Calls Try.prog 12 #[.slice A0 l0.length c0] w fun e w' => e = .returned (.int .u32 r) ∧ Below w.heap.size w w' := by
  have H := Aside0.mk h
  have HR := Aside0.mk hr0
  clear h hr0
  go_enter Try.func12, Try.ntmps12
  go_wp2_with fail
  refine (crc_More.calls 0 A0 c0 l0 r _ HR.out hc0 H.out).mono ?_
  rintro e w1 ⟨rfl, hb⟩
  go_wp2_with fail
  go_ret
  exact ⟨rfl, hb⟩

theorem lit_reads (w : World) (e : TypeId) (xs : List Int) (fr : Nat × Nat) (h : xs.length ≤ 9223372036854775807) : Kd.C (Kd.int .u8) (w.alloc (.cells (nums .u8 xs).toArray e fr)) (some ⟨w.heap.size, 0, none⟩) xs.length xs := by
  have hr : ReadsInt (w.alloc (.cells (nums .u8 xs).toArray e fr)) .u8 (some ⟨w.heap.size, 0, none⟩) xs.length xs := by
    refine ⟨rfl, h, fun _ => ⟨_, rfl, fun j hj => ?_⟩⟩
    rw [add_plain, cell_of_row _ _ j _ e fr (heap_alloc_new w _)]
    simp [nums, hj]
  exact Kd.C_of_reads (d := (0 : Int)) (h1 := fun _ => rfl) hr

set_option maxHeartbeats 2000000 in
set_option maxRecDepth 100000 in
theorem works_calls (w : World) :
    Calls Try.prog 15 #[] w fun e w' => e = .returned (.bool true) ∧ Below w.heap.size w w' := by
  have kc := fun (w : World) (C : Array Value) (n c : Nat) => Lib.run_convert_bytes_const (P := Try.prog) w 22 5 C n c Try.underlying22 Try.underlying5
  go_enter Try.func15, Try.ntmps15
  go_wp2_with fail
  refine (crc_Of.calls (some ⟨w.heap.size, 0, none⟩) 4 [49, 50, 51, 52] 4131058926 _ (lit_reads w 5 [49, 50, 51, 52] (4, 5) (by decide)) (by decide) (by decide +kernel)).mono ?_
  rintro e w1 ⟨rfl, hb1⟩
  replace hb1 := below_then (below_alloc (Below.refl _ w) _) (by simp) hb1
  go_wp2_with fail
  refine (crc_Of.calls (some ⟨w1.heap.size, 0, none⟩) 5 [53, 54, 55, 56, 57] 2209703384 _ (lit_reads w1 5 [53, 54, 55, 56, 57] (5, 6) (by decide)) (by decide) (by decide +kernel)).mono ?_
  rintro e w2 ⟨rfl, hb2⟩
  replace hb2 := below_then (below_alloc hb1 _) (by have := hb1.size; simp; omega) hb2
  clear hb1
  go_wp2_with fail
  refine (crc_Of.calls none 0 [] 0 _ (Kd.C_nil _ _) (by decide) (by decide +kernel)).mono ?_
  rintro e w3 ⟨rfl, hb3⟩
  replace hb3 := below_then hb2 hb2.size hb3
  clear hb2
  go_wp2_with fail
  refine (crc_Of.calls (some ⟨w3.heap.size, 0, none⟩) 9 [49, 50, 51, 52, 53, 54, 55, 56, 57] 3808858755 _ (lit_reads w3 5 [49, 50, 51, 52, 53, 54, 55, 56, 57] (9, 10) (by decide)) (by decide) (by decide +kernel)).mono ?_
  rintro e w4 ⟨rfl, hb4⟩
  replace hb4 := below_then (below_alloc hb3 _) (by have := hb3.size; simp; omega) hb4
  clear hb3
  go_wp2_with fail
  refine (crc_More.calls 4131058926 (some ⟨w4.heap.size, 0, none⟩) 5 [53, 54, 55, 56, 57] 3808858755 _ (lit_reads w4 5 [53, 54, 55, 56, 57] (5, 6) (by decide)) (by decide) (by decide +kernel)).mono ?_
  rintro e w5 ⟨rfl, hb5⟩
  replace hb5 := below_then (below_alloc hb4 _) (by have := hb4.size; simp; omega) hb5
  clear hb4
  go_wp2_with fail
  refine (crc_Join.calls 40 4131058926 2209703384 5 3808858755 _ (by decide +kernel)).mono ?_
  rintro e w6 ⟨rfl, ⟨nd, rfl⟩⟩
  go_wp2_with fail
  go_ret
  exact ⟨rfl, pw_below_drewN hb5 nd⟩
def encorelaw01_works.f : Option Bool := some true
theorem encorelaw01_works.calls (r : Bool) (w : World) (h : encorelaw01_works.f = some r) :
    Calls Try.prog 15 #[] w fun e w' => e = .returned (.bool r) ∧ Below w.heap.size w w' := by
  obtain rfl := Option.some.inj h
  exact works_calls w
end Go.Proofs.Ytijhhnclhgfnlaa.Ext
