/- works of the chapter: the examples hold. No condition. -/
import Derived.Test.YtkmgbmnjabmhaaaDLaw
namespace Go.Proofs.Ytkmgbmnjabmhaaa.Ext
open Go Go.RowKit Go.Proofs.YtkmgbmnjabmhaaaW.PrintWords Go.Proofs.YtkmgbmnjabmhaaaW.PrintLast Go.Proofs.YtkmgbmnjabmhaaaW.PrintMore Go.Proofs.Ytkmgbmnjabmhaaa.Base Go.Proofs.Ytkmgbmnjabmhaaa.Arr
set_option linter.unusedVariables false
set_option linter.unusedSimpArgs false

def xA : DS := (writeF (newS 8) 1 (secI 1)).2
def xB : DS := (flushF xA).2
def xC : DS := (writeF xB 1 (secI 2)).2
def xD (bits cut : Int) : DS := (crashF xC bits cut).2
def xE (bits cut : Int) : DS := { xD bits cut with dead := false, plan := none }
theorem x1 : (writeF (newS 8) 1 (secI 1)).1 = 0 := by decide +kernel
theorem x2 : (flushF xA).1 = 0 := by decide +kernel
theorem x3 : (writeF xB 1 (secI 2)).1 = 0 := by decide +kernel
theorem x4 : xC.waits.length = 1 := by decide +kernel
theorem x5 : thereE xC 1 = 0 := by decide +kernel
theorem x6 : readF xC 1 = secI 2 := by decide +kernel
def xw (bits cut : Int) : List Int := readF (xE bits cut) 1

theorem y0 : (crashF xC 0 0).1 = 0 ∧ (xD 0 0).dead = true ∧ thereE (xE 0 0) 1 = 0 ∧ readF (xE 0 0) 1 = secI 1 := by decide +kernel
theorem y1 : (crashF xC 1 64).1 = 0 ∧ (xD 1 64).dead = true ∧ thereE (xE 1 64) 1 = 0 ∧ readF (xE 1 64) 1 = secI 2 := by decide +kernel
theorem y2 : (crashF xC 1 3).1 = 0 ∧ (xD 1 3).dead = true ∧ thereE (xE 1 3) 1 = 0 ∧ readF (xE 1 3) 1 = (secI 2).take 3 ++ (secI 1).drop 3 := by decide +kernel
theorem w_small : (newS 8).waits.length ≤ 1000000 ∧ xA.waits.length ≤ 1000000 ∧ xB.waits.length ≤ 1000000 ∧ xC.waits.length ≤ 1000000 := by decide +kernel
set_option maxHeartbeats 8000000 in
set_option maxRecDepth 100000 in
theorem works_calls (w : World) : Calls Try.prog 18 #[] w fun e w' => e = .returned (.bool true) ∧ Below w.heap.size w w' := by
  go_enter Try.func18, Try.ntmps18
  go_wp2_with fail
  go_loopw [1] (fun i wr => ∃ j : Nat, j ≤ 3 ∧ i = .int .i64 (j : Nat) ∧ Aside0 (Below w.heap.size w wr)) (fun i _ => 3 - (intOf i).toNat)
  case atStart => exact ⟨0, by omega, rfl, ⟨Below.refl _ _⟩⟩
  case round =>
    obtain ⟨j, hj, rfl, RB⟩ := hrel
    rcases (show j = 3 ∨ j = 0 ∨ j = 1 ∨ j = 2 by omega) with rfl | hjj
    · go_wp2_with fail
      go_ret
      exact ⟨rfl, RB.out⟩
    · rcases hjj with rfl | rfl | rfl
      · go_wp2_with fail
        refine (made_calls wr).mono ?_
        rintro e w1 ⟨g, rfl, hb, hd⟩
        have B1 := Aside0.mk (RB.out.trans (hb.mono RB.out.size))
        have D1 := Aside0.mk hd
        obtain ⟨H, hH⟩ : ∃ H, H = wr.heap.size := ⟨_, rfl⟩
        rw [← hH] at D1
        have HH := Aside0.mk (show w.heap.size ≤ H by rw [hH]; exact RB.out.size)
        obtain ⟨ok1, hok1⟩ : ∃ ok1 : Nat → Prop, ok1 = (fun k => H ≤ k ∧ k < w1.heap.size) := ⟨_, rfl⟩
        rw [← hok1] at D1
        clear hb hd hH hok1
        go_wp2_with fail
        refine (sector_calls 1 w1).mono ?_
        rintro e w2 ⟨A1, c1, rfl, hr, hb⟩
        have B2 := Aside0.mk (B1.out.trans (hb.mono B1.out.size))
        have D2 := Aside0.mk (D1.out.below hb)
        have R2 := Aside0.mk (D1.out.fresh hr)
        clear hr hb D1 B1
        go_wp2_with fail
        have hlw := row_reads (n := (secI 1).length) (xs := secI 1) (by rw [secI_len]; exact R2.out)
        have h2 := Write_calls w2 H ok1 g (newS 8) D2.out.1 D2.out.2.2 w_small.1 1 A1 c1 (secI 1) hlw (by rw [secI_len]; exact (Kd.R_reads' R2.out).2.1)
        rw [secI_len] at h2
        refine h2.mono ?_
        clear hlw h2
        rintro e w3 ⟨rfl, hto⟩
        rw [x1]
        obtain ⟨ok2, hd, hb, hk, hs⟩ := D2.out.to_ (s' := xA) hto
        have B3 := Aside0.mk (B2.out.trans (hb.mono HH.out))
        have D3 := Aside0.mk hd
        clear hto hb hk hs hd D2 B2 R2
        go_wp2_with fail
        refine (Flush_calls w3 H ok2 g xA D3.out.1 D3.out.2.2 w_small.2.1).mono ?_
        rintro e w4 ⟨rfl, hto⟩
        rw [x2]
        obtain ⟨ok3, hd, hb, hk, hs⟩ := D3.out.to_ (s' := xB) hto
        have B4 := Aside0.mk (B3.out.trans (hb.mono HH.out))
        have D4 := Aside0.mk hd
        clear hto hb hk hs hd D3 B3
        go_wp2_with fail
        refine (sector_calls 2 w4).mono ?_
        rintro e w5 ⟨A2, c2, rfl, hr, hb⟩
        have B5 := Aside0.mk (B4.out.trans (hb.mono B4.out.size))
        have D5 := Aside0.mk (D4.out.below hb)
        have R5 := Aside0.mk (D4.out.fresh hr)
        clear hr hb D4 B4
        go_wp2_with fail
        have hlw := row_reads (n := (secI 2).length) (xs := secI 2) (by rw [secI_len]; exact R5.out)
        have h2 := Write_calls w5 H ok3 g xB D5.out.1 D5.out.2.2 w_small.2.2.1 1 A2 c2 (secI 2) hlw (by rw [secI_len]; exact (Kd.R_reads' R5.out).2.1)
        rw [secI_len] at h2
        refine h2.mono ?_
        clear hlw h2
        rintro e w6 ⟨rfl, hto⟩
        rw [x3]
        obtain ⟨ok4, hd, hb, hk, hs⟩ := D5.out.to_ (s' := xC) hto
        have B6 := Aside0.mk (B5.out.trans (hb.mono HH.out))
        have D6 := Aside0.mk hd
        clear hto hb hk hs hd D5 B5 R5
        go_wp2_with fail
        refine (Waits_calls w6 H ok4 g xC D6.out.1).mono ?_
        rintro e w7 ⟨rfl, rfl⟩
        rw [x4]
        go_wp2_with fail
        refine (sector_calls 2 w6).mono ?_
        rintro e w8 ⟨A3, c3, rfl, hr, hb⟩
        have B8 := Aside0.mk (B6.out.trans (hb.mono B6.out.size))
        have D8 := Aside0.mk (D6.out.below hb)
        have R8 := Aside0.mk (D6.out.fresh hr)
        clear hr hb D6 B6
        go_wp2_with fail
        have h2 := has_calls w8 H ok4 g xC D8.out 1 A3 c3 (secI 2) (by have := (Kd.R_reads' R8.out).2.2; exact this) (by rw [secI_len]; exact (Kd.R_reads' R8.out).2.1) (by rw [secI_len]; decide) x5 x6
        rw [secI_len] at h2
        refine h2.mono ?_
        clear h2
        rintro e w9 ⟨rfl, hb⟩
        have B9 := Aside0.mk (B8.out.trans (hb.mono B8.out.size))
        have D9 := Aside0.mk (D8.out.below hb)
        clear hb D8 B8 R8
        go_wp2_with fail
        refine (sector_calls 1 w9).mono ?_
        rintro e w10 ⟨A4, c4, rfl, hr, hb⟩
        have B10 := Aside0.mk (B9.out.trans (hb.mono B9.out.size))
        have D10 := Aside0.mk (D9.out.below hb)
        have R10 := Aside0.mk (D9.out.fresh hr)
        clear hr hb D9 B9
        go_wp2_with fail
        refine (Crash_calls w10 H ok4 g xC D10.out.1 D10.out.2.2 w_small.2.2.2 0 0).mono ?_
        rintro e w11 ⟨rfl, hto⟩
        rw [y0.1]
        obtain ⟨ok5, hd, hb, hk, hs⟩ := D10.out.to_ (s' := xD 0 0) hto
        have B11 := Aside0.mk (B10.out.trans (hb.mono HH.out))
        have D11 := Aside0.mk hd
        have R11 := Aside0.mk (row_to R10.out hk hs)
        clear hto hb hk hs hd D10 B10 R10
        go_wp2_with fail
        refine (Dead_calls w11 H ok5 g (xD 0 0) D11.out.1).mono ?_
        rintro e w20 ⟨rfl, rfl⟩
        rw [y0.2.1]
        go_wp2_with fail
        refine (Boot_calls w11 H ok5 g (xD 0 0) D11.out.1).mono ?_
        rintro e w21 ⟨rfl, hto⟩
        obtain ⟨ok6, hd, hb, hk, hs⟩ := D11.out.to_ (s' := xE 0 0) hto
        have B21 := Aside0.mk (B11.out.trans (hb.mono HH.out))
        have D21 := Aside0.mk hd
        have R21 := Aside0.mk (row_to R11.out hk hs)
        clear hto hb hk hs hd
        go_wp2_with fail
        have h2 := has_calls w21 H ok6 g (xE 0 0) D21.out 1 A4 c4 (secI 1) (by have := (Kd.R_reads' R21.out).2.2; exact this) (by rw [secI_len]; exact (Kd.R_reads' R21.out).2.1) (by rw [secI_len]; decide) y0.2.2.1 y0.2.2.2
        rw [secI_len] at h2
        refine h2.mono ?_
        clear h2
        rintro e w22 ⟨rfl, hb⟩
        have B22 := Aside0.mk (B21.out.trans (hb.mono B21.out.size))
        clear hb
        go_wp2_with fail
        go_roundw
        case rel => exact ⟨1, by omega, rfl, B22⟩
        case measure => simp [intOf]
      · go_wp2_with fail
        refine (made_calls wr).mono ?_
        rintro e w1 ⟨g, rfl, hb, hd⟩
        have B1 := Aside0.mk (RB.out.trans (hb.mono RB.out.size))
        have D1 := Aside0.mk hd
        obtain ⟨H, hH⟩ : ∃ H, H = wr.heap.size := ⟨_, rfl⟩
        rw [← hH] at D1
        have HH := Aside0.mk (show w.heap.size ≤ H by rw [hH]; exact RB.out.size)
        obtain ⟨ok1, hok1⟩ : ∃ ok1 : Nat → Prop, ok1 = (fun k => H ≤ k ∧ k < w1.heap.size) := ⟨_, rfl⟩
        rw [← hok1] at D1
        clear hb hd hH hok1
        go_wp2_with fail
        refine (sector_calls 1 w1).mono ?_
        rintro e w2 ⟨A1, c1, rfl, hr, hb⟩
        have B2 := Aside0.mk (B1.out.trans (hb.mono B1.out.size))
        have D2 := Aside0.mk (D1.out.below hb)
        have R2 := Aside0.mk (D1.out.fresh hr)
        clear hr hb D1 B1
        go_wp2_with fail
        have hlw := row_reads (n := (secI 1).length) (xs := secI 1) (by rw [secI_len]; exact R2.out)
        have h2 := Write_calls w2 H ok1 g (newS 8) D2.out.1 D2.out.2.2 w_small.1 1 A1 c1 (secI 1) hlw (by rw [secI_len]; exact (Kd.R_reads' R2.out).2.1)
        rw [secI_len] at h2
        refine h2.mono ?_
        clear hlw h2
        rintro e w3 ⟨rfl, hto⟩
        rw [x1]
        obtain ⟨ok2, hd, hb, hk, hs⟩ := D2.out.to_ (s' := xA) hto
        have B3 := Aside0.mk (B2.out.trans (hb.mono HH.out))
        have D3 := Aside0.mk hd
        clear hto hb hk hs hd D2 B2 R2
        go_wp2_with fail
        refine (Flush_calls w3 H ok2 g xA D3.out.1 D3.out.2.2 w_small.2.1).mono ?_
        rintro e w4 ⟨rfl, hto⟩
        rw [x2]
        obtain ⟨ok3, hd, hb, hk, hs⟩ := D3.out.to_ (s' := xB) hto
        have B4 := Aside0.mk (B3.out.trans (hb.mono HH.out))
        have D4 := Aside0.mk hd
        clear hto hb hk hs hd D3 B3
        go_wp2_with fail
        refine (sector_calls 2 w4).mono ?_
        rintro e w5 ⟨A2, c2, rfl, hr, hb⟩
        have B5 := Aside0.mk (B4.out.trans (hb.mono B4.out.size))
        have D5 := Aside0.mk (D4.out.below hb)
        have R5 := Aside0.mk (D4.out.fresh hr)
        clear hr hb D4 B4
        go_wp2_with fail
        have hlw := row_reads (n := (secI 2).length) (xs := secI 2) (by rw [secI_len]; exact R5.out)
        have h2 := Write_calls w5 H ok3 g xB D5.out.1 D5.out.2.2 w_small.2.2.1 1 A2 c2 (secI 2) hlw (by rw [secI_len]; exact (Kd.R_reads' R5.out).2.1)
        rw [secI_len] at h2
        refine h2.mono ?_
        clear hlw h2
        rintro e w6 ⟨rfl, hto⟩
        rw [x3]
        obtain ⟨ok4, hd, hb, hk, hs⟩ := D5.out.to_ (s' := xC) hto
        have B6 := Aside0.mk (B5.out.trans (hb.mono HH.out))
        have D6 := Aside0.mk hd
        clear hto hb hk hs hd D5 B5 R5
        go_wp2_with fail
        refine (Waits_calls w6 H ok4 g xC D6.out.1).mono ?_
        rintro e w7 ⟨rfl, rfl⟩
        rw [x4]
        go_wp2_with fail
        refine (sector_calls 2 w6).mono ?_
        rintro e w8 ⟨A3, c3, rfl, hr, hb⟩
        have B8 := Aside0.mk (B6.out.trans (hb.mono B6.out.size))
        have D8 := Aside0.mk (D6.out.below hb)
        have R8 := Aside0.mk (D6.out.fresh hr)
        clear hr hb D6 B6
        go_wp2_with fail
        have h2 := has_calls w8 H ok4 g xC D8.out 1 A3 c3 (secI 2) (by have := (Kd.R_reads' R8.out).2.2; exact this) (by rw [secI_len]; exact (Kd.R_reads' R8.out).2.1) (by rw [secI_len]; decide) x5 x6
        rw [secI_len] at h2
        refine h2.mono ?_
        clear h2
        rintro e w9 ⟨rfl, hb⟩
        have B9 := Aside0.mk (B8.out.trans (hb.mono B8.out.size))
        have D9 := Aside0.mk (D8.out.below hb)
        clear hb D8 B8 R8
        go_wp2_with fail
        refine (sector_calls 1 w9).mono ?_
        rintro e w10 ⟨A4, c4, rfl, hr, hb⟩
        have B10 := Aside0.mk (B9.out.trans (hb.mono B9.out.size))
        have D10 := Aside0.mk (D9.out.below hb)
        have R10 := Aside0.mk (D9.out.fresh hr)
        clear hr hb D9 B9
        go_wp2_with fail
        refine (Crash_calls w10 H ok4 g xC D10.out.1 D10.out.2.2 w_small.2.2.2 1 64).mono ?_
        rintro e w11 ⟨rfl, hto⟩
        rw [y1.1]
        obtain ⟨ok5, hd, hb, hk, hs⟩ := D10.out.to_ (s' := xD 1 64) hto
        have B11 := Aside0.mk (B10.out.trans (hb.mono HH.out))
        have D11 := Aside0.mk hd
        have R11 := Aside0.mk (row_to R10.out hk hs)
        clear hto hb hk hs hd D10 B10 R10
        go_wp2_with fail
        refine (sector_calls 2 w11).mono ?_
        rintro e w12 ⟨A5, c5, rfl, hr, hb⟩
        have B12 := Aside0.mk (B11.out.trans (hb.mono B11.out.size))
        have D12 := Aside0.mk (D11.out.below hb)
        have R12 := Aside0.mk (D11.out.fresh hr)
        clear hr hb D11 B11 R11
        go_wp2_with fail
        refine (Dead_calls w12 H ok5 g (xD 1 64) D12.out.1).mono ?_
        rintro e w20 ⟨rfl, rfl⟩
        rw [y1.2.1]
        go_wp2_with fail
        refine (Boot_calls w12 H ok5 g (xD 1 64) D12.out.1).mono ?_
        rintro e w21 ⟨rfl, hto⟩
        obtain ⟨ok6, hd, hb, hk, hs⟩ := D12.out.to_ (s' := xE 1 64) hto
        have B21 := Aside0.mk (B12.out.trans (hb.mono HH.out))
        have D21 := Aside0.mk hd
        have R21 := Aside0.mk (row_to R12.out hk hs)
        clear hto hb hk hs hd
        go_wp2_with fail
        have h2 := has_calls w21 H ok6 g (xE 1 64) D21.out 1 A5 c5 (secI 2) (by have := (Kd.R_reads' R21.out).2.2; exact this) (by rw [secI_len]; exact (Kd.R_reads' R21.out).2.1) (by rw [secI_len]; decide) y1.2.2.1 y1.2.2.2
        rw [secI_len] at h2
        refine h2.mono ?_
        clear h2
        rintro e w22 ⟨rfl, hb⟩
        have B22 := Aside0.mk (B21.out.trans (hb.mono B21.out.size))
        clear hb
        go_wp2_with fail
        go_roundw
        case rel => exact ⟨2, by omega, rfl, B22⟩
        case measure => simp [intOf]
      · go_wp2_with fail
        refine (made_calls wr).mono ?_
        rintro e w1 ⟨g, rfl, hb, hd⟩
        have B1 := Aside0.mk (RB.out.trans (hb.mono RB.out.size))
        have D1 := Aside0.mk hd
        obtain ⟨H, hH⟩ : ∃ H, H = wr.heap.size := ⟨_, rfl⟩
        rw [← hH] at D1
        have HH := Aside0.mk (show w.heap.size ≤ H by rw [hH]; exact RB.out.size)
        obtain ⟨ok1, hok1⟩ : ∃ ok1 : Nat → Prop, ok1 = (fun k => H ≤ k ∧ k < w1.heap.size) := ⟨_, rfl⟩
        rw [← hok1] at D1
        clear hb hd hH hok1
        go_wp2_with fail
        refine (sector_calls 1 w1).mono ?_
        rintro e w2 ⟨A1, c1, rfl, hr, hb⟩
        have B2 := Aside0.mk (B1.out.trans (hb.mono B1.out.size))
        have D2 := Aside0.mk (D1.out.below hb)
        have R2 := Aside0.mk (D1.out.fresh hr)
        clear hr hb D1 B1
        go_wp2_with fail
        have hlw := row_reads (n := (secI 1).length) (xs := secI 1) (by rw [secI_len]; exact R2.out)
        have h2 := Write_calls w2 H ok1 g (newS 8) D2.out.1 D2.out.2.2 w_small.1 1 A1 c1 (secI 1) hlw (by rw [secI_len]; exact (Kd.R_reads' R2.out).2.1)
        rw [secI_len] at h2
        refine h2.mono ?_
        clear hlw h2
        rintro e w3 ⟨rfl, hto⟩
        rw [x1]
        obtain ⟨ok2, hd, hb, hk, hs⟩ := D2.out.to_ (s' := xA) hto
        have B3 := Aside0.mk (B2.out.trans (hb.mono HH.out))
        have D3 := Aside0.mk hd
        clear hto hb hk hs hd D2 B2 R2
        go_wp2_with fail
        refine (Flush_calls w3 H ok2 g xA D3.out.1 D3.out.2.2 w_small.2.1).mono ?_
        rintro e w4 ⟨rfl, hto⟩
        rw [x2]
        obtain ⟨ok3, hd, hb, hk, hs⟩ := D3.out.to_ (s' := xB) hto
        have B4 := Aside0.mk (B3.out.trans (hb.mono HH.out))
        have D4 := Aside0.mk hd
        clear hto hb hk hs hd D3 B3
        go_wp2_with fail
        refine (sector_calls 2 w4).mono ?_
        rintro e w5 ⟨A2, c2, rfl, hr, hb⟩
        have B5 := Aside0.mk (B4.out.trans (hb.mono B4.out.size))
        have D5 := Aside0.mk (D4.out.below hb)
        have R5 := Aside0.mk (D4.out.fresh hr)
        clear hr hb D4 B4
        go_wp2_with fail
        have hlw := row_reads (n := (secI 2).length) (xs := secI 2) (by rw [secI_len]; exact R5.out)
        have h2 := Write_calls w5 H ok3 g xB D5.out.1 D5.out.2.2 w_small.2.2.1 1 A2 c2 (secI 2) hlw (by rw [secI_len]; exact (Kd.R_reads' R5.out).2.1)
        rw [secI_len] at h2
        refine h2.mono ?_
        clear hlw h2
        rintro e w6 ⟨rfl, hto⟩
        rw [x3]
        obtain ⟨ok4, hd, hb, hk, hs⟩ := D5.out.to_ (s' := xC) hto
        have B6 := Aside0.mk (B5.out.trans (hb.mono HH.out))
        have D6 := Aside0.mk hd
        clear hto hb hk hs hd D5 B5 R5
        go_wp2_with fail
        refine (Waits_calls w6 H ok4 g xC D6.out.1).mono ?_
        rintro e w7 ⟨rfl, rfl⟩
        rw [x4]
        go_wp2_with fail
        refine (sector_calls 2 w6).mono ?_
        rintro e w8 ⟨A3, c3, rfl, hr, hb⟩
        have B8 := Aside0.mk (B6.out.trans (hb.mono B6.out.size))
        have D8 := Aside0.mk (D6.out.below hb)
        have R8 := Aside0.mk (D6.out.fresh hr)
        clear hr hb D6 B6
        go_wp2_with fail
        have h2 := has_calls w8 H ok4 g xC D8.out 1 A3 c3 (secI 2) (by have := (Kd.R_reads' R8.out).2.2; exact this) (by rw [secI_len]; exact (Kd.R_reads' R8.out).2.1) (by rw [secI_len]; decide) x5 x6
        rw [secI_len] at h2
        refine h2.mono ?_
        clear h2
        rintro e w9 ⟨rfl, hb⟩
        have B9 := Aside0.mk (B8.out.trans (hb.mono B8.out.size))
        have D9 := Aside0.mk (D8.out.below hb)
        clear hb D8 B8 R8
        go_wp2_with fail
        refine (sector_calls 1 w9).mono ?_
        rintro e w10 ⟨A4, c4, rfl, hr, hb⟩
        have B10 := Aside0.mk (B9.out.trans (hb.mono B9.out.size))
        have D10 := Aside0.mk (D9.out.below hb)
        have R10 := Aside0.mk (D9.out.fresh hr)
        clear hr hb D9 B9
        go_wp2_with fail
        refine (Crash_calls w10 H ok4 g xC D10.out.1 D10.out.2.2 w_small.2.2.2 1 3).mono ?_
        rintro e w11 ⟨rfl, hto⟩
        rw [y2.1]
        obtain ⟨ok5, hd, hb, hk, hs⟩ := D10.out.to_ (s' := xD 1 3) hto
        have B11 := Aside0.mk (B10.out.trans (hb.mono HH.out))
        have D11 := Aside0.mk hd
        have R11 := Aside0.mk (row_to R10.out hk hs)
        clear hto hb hk hs hd D10 B10 R10
        go_wp2_with fail
        obtain ⟨g4, c4', e4, -⟩ := Kd.R_form R11.out (by rw [secI_len]; decide)
        rw [secI_len] at e4
        injection e4 with e4 _ e5
        subst e5
        subst e4
        have hc4 := (Kd.R_reads' R11.out).2.1
        have f0 := eq_true (show (64 : Int) ≤ (c4 : Int) by omega)
        have f1 := eq_true (show 64 ≤ c4 by omega)
        have f2 := eq_false (show ¬ c4 = 3 by omega)
        have f3 := eq_false (show ¬ (c4 : Int) = 3 by omega)
        have f4 := eq_true (show (3 : Int) ≤ (c4 : Int) by omega)
        clear hc4
        refine start_ (n := 6) (S := fun w' => True) (ds := []) #[false, false, false, false, false, false] (by kernel_rfl) rfl rfl trivial (fun hHeld => ?_)
        refine pure_ (i := 2) (N := some 47) (v := ?_) (a' := ?_) #[false, false, true, false, false, false] rfl rfl (by kernel_rfl) (fun _ _ _ h => h) (Or.inl ⟨by rfl, ?_⟩) ?_ ?_
        rotate_left
        · intro w'
          go_simp
          with_reducible rfl
        rotate_left
        · simp only [Act.put, List.setIfInBounds_toArray, List.set_cons_zero, List.set_cons_succ, i64_w, i32_w]
          rfl
        refine pure_ (i := 3) (N := some 48) (v := ?_) (a' := ?_) #[false, false, true, true, false, false] rfl rfl (by kernel_rfl) (fun _ _ _ h => h) (Or.inl ⟨by rfl, ?_⟩) ?_ ?_
        rotate_left
        · intro w'
          go_simp
          with_reducible rfl
        rotate_left
        · simp only [Act.put, List.setIfInBounds_toArray, List.set_cons_zero, List.set_cons_succ, i64_w, i32_w]
          rfl
        refine one_ (i := 0) (N := some 45) #[true, false, true, true, false, false] rfl rfl (by kernel_rfl) (by decide) (fun K hK => ?_)
        refine goes_ Try.func12 (by kernel_rfl) rfl #[.int .i64 2] (by rfl) rfl rfl (by simp only [List.map_toArray, List.map_cons, List.map_nil]; rfl) ?_
        with_reducible refine (sector_calls 2 w11.drew).mono ?_
        rintro e w12 ⟨A5, c5, rfl, hr, hb⟩
        refine ⟨_, rfl, ?_⟩
        have B12 := Aside0.mk (show Below w11.heap.size w11 w12 from ⟨hb.os, hb.tape, hb.output, hb.size, hb.block⟩)
        have R12 := Aside0.mk (show Kd.R (Kd.int .u8) 5 w12 w11.heap.size (fun _ => True) (.slice A5 64 c5) (secI 2) from hr)
        have S12 := Aside0.mk (Kd.R_below R11.out (show Below w11.heap.size w11 w12 from ⟨hb.os, hb.tape, hb.output, hb.size, hb.block⟩))
        have f5 := eq_true (show (3 : Int) ≤ (c5 : Int) by have := (Kd.R_reads' R12.out).2.1; omega)
        clear hr hb
        refine hK.out _ _ trivial (fun hHeld => ?_)
        clear hK K
        refine norm_ (a' := ?_) ?_ ?_
        rotate_left
        · show Act.put _ (some 45) _ = _
          simp only [Act.put, List.setIfInBounds_toArray, List.set_cons_zero, List.set_cons_succ, i64_w, i32_w]
          rfl
        refine pure_ (i := 1) (N := some 46) (v := ?_) (a' := ?_) #[true, true, true, true, false, false] rfl rfl (by kernel_rfl) (fun _ _ _ h => h) (Or.inl ⟨by rfl, ?_⟩) ?_ ?_
        rotate_left
        · intro w'
          go_simp
          with_reducible rfl
        rotate_left
        · simp only [Act.put, List.setIfInBounds_toArray, List.set_cons_zero, List.set_cons_succ, i64_w, i32_w]
          rfl
        refine one_ (i := 4) (N := some 49) #[true, true, true, true, true, false] rfl rfl (by kernel_rfl) (by decide) (fun K hK => ?_)
        refine Kd.R_append_rows_step (Kd.int .u8) (w0 := w11) w11.heap.size (by rfl) (.tmp 46) (.tmp 48) 26 5 (.int .u8 0) 1 ?a1 Try.underlying26 (by kernel_rfl) rfl (by decide) (by decide) (.slice A5 3 c5) ((secI 2).take 3) ((secI 1).drop 3) (some ⟨g4, 3, none⟩) 61 (c4 - 3) (fun _ => True) (fun _ => False) ?a2 ?a3 (Kd.R_take R12.out (by rw [secI_len]; decide)) ?a4 (fun _ _ h => h) (fun _ h => h.elim) (fun _ _ => trivial) B12.out B12.out.size ?a5 ?_
        case a1 => rfl
        case a2 => rfl
        case a3 => rfl
        case a4 => exact cut_at (Kd.R_reads' S12.out).2.2 3 61 (by rw [secI_len])
        case a5 => rw [List.length_take, secI_len]; decide
        intro v1 w13 ho hb2 hg hat
        refine hK.out _ _ trivial (fun hHeld => ?_)
        clear hK K
        refine norm_ (a' := ?_) ?_ ?_
        rotate_left
        · show Act.put _ (some 49) _ = _
          simp only [Act.put, List.setIfInBounds_toArray, List.set_cons_zero, List.set_cons_succ, i64_w, i32_w]
          rfl
        refine pure_ (i := 5) (N := some 6) (v := ?_) (a' := ?_) #[true, true, true, true, true, true] rfl rfl (by kernel_rfl) (fun _ _ _ h => h) (Or.inl ⟨by rfl, ?_⟩) ?_ ?_
        rotate_left
        · intro w'
          go_simp
          with_reducible rfl
        rotate_left
        · simp only [Act.put, List.setIfInBounds_toArray, List.set_cons_zero, List.set_cons_succ, i64_w, i32_w]
          rfl
        refine done_ (by kernel_rfl) ?_
        
        obtain ⟨A6, c6, rfl⟩ := Kd.R_slice ho
        have hl6 : ((secI 2).take 3 ++ (secI 1).drop 3).length = 64 := by decide +kernel
        rw [hl6] at ho ⊢
        have B12 := Aside0.mk (B11.out.trans (hb2.mono B11.out.size))
        have D12 := Aside0.mk (D11.out.below hb2)
        have R12 := Aside0.mk (D11.out.fresh ho)
        have HL6 := Aside0.mk hl6
        clear ho hb2 hg hat hl6 D11 B11 R11 f0 f1 f2 f3 f4 f5
        go_wp2_with fail
        refine (Dead_calls w13 H ok5 g (xD 1 3) D12.out.1).mono ?_
        rintro e w20 ⟨rfl, rfl⟩
        rw [y2.2.1]
        go_wp2_with fail
        refine (Boot_calls w13 H ok5 g (xD 1 3) D12.out.1).mono ?_
        rintro e w21 ⟨rfl, hto⟩
        obtain ⟨ok6, hd, hb, hk, hs⟩ := D12.out.to_ (s' := xE 1 3) hto
        have B21 := Aside0.mk (B12.out.trans (hb.mono HH.out))
        have D21 := Aside0.mk hd
        have R21 := Aside0.mk (row_to R12.out hk hs)
        clear hto hb hk hs hd
        go_wp2_with fail
        have h2 := has_calls w21 H ok6 g (xE 1 3) D21.out 1 A6 c6 ((secI 2).take 3 ++ (secI 1).drop 3) (by have := (Kd.R_reads' R21.out).2.2; exact this) (by rw [HL6.out]; exact (Kd.R_reads' R21.out).2.1) (by rw [HL6.out]; decide) y2.2.2.1 y2.2.2.2
        rw [HL6.out] at h2
        refine h2.mono ?_
        clear h2
        rintro e w22 ⟨rfl, hb⟩
        have B22 := Aside0.mk (B21.out.trans (hb.mono B21.out.size))
        clear hb
        go_wp2_with fail
        go_roundw
        case rel => exact ⟨3, by omega, rfl, B22⟩
        case measure => simp [intOf]
end Go.Proofs.Ytkmgbmnjabmhaaa.Ext
