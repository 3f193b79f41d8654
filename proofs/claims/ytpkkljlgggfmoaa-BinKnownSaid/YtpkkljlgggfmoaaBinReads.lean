/- BinReads answers true, walked with the plain law at hand: for every row of bytes and limit. Conditions: bytes; a row that append bears. -/
import Derived.Test.YtpkkljlgggfmoaaSpoil
import Derived.Test.YtpkkljlgggfmoaaBinTextual
namespace Go.Proofs.Ytpkkljlgggfmoaa.Ext
open Go.RowKit Go.Proofs.YtpkkljlgggfmoaaW.PrintWords Go.Proofs.YtpkkljlgggfmoaaW.PrintLast Go.Proofs.YtpkkljlgggfmoaaW.PrintMore Go.Proofs.Ytpkkljlgggfmoaa.Base Go.Proofs.Ytpkkljlgggfmoaa.Arr Go.Proofs.Ytpkkljlgggfmoaa.Mid Go.Proofs.Ytpkkljlgggfmoaa.Tt Go.Proofs.Ytpkkljlgggfmoaa.BinMath Go.Proofs.Ytpkkljlgggfmoaa.BinLink
set_option linter.unusedVariables false
set_option linter.unusedSimpArgs false

def encorelaw02_BinReads.f (l0 : List Int) (a1 : Int) : Option Bool := if (∀ x ∈ l0, 0 ≤ x ∧ x < 256) ∧ l0.length < 140737488355328 then some true else none
/-- a row of one's own, held to what it may touch -/
theorem Q_hold {e : Nat} {w : World} {base : Nat} {ok : Nat → Prop} {v : Value} {xs : List Int} (h : Kd.Q (Kd.int .u8) e w base ok v xs) : Kd.Q (Kd.int .u8) e w base (fun k => base ≤ k ∧ k < w.heap.size) v xs :=
  Kd.Q_mono (Kd.Q_bound h) (fun k hk => ⟨hk.2.1, hk.2.2.1⟩)

set_option maxHeartbeats 8000000 in
set_option maxRecDepth 100000 in
theorem reads_calls (A0 : Option Addr) (c0 : Nat) (l0 : List Int) (a1 : Int) (w : World) (hr0 : Kd.C (Kd.int .u8) w A0 l0.length l0) (hc0 : l0.length ≤ c0) (hb : Bytes l0) (hl : l0.length < 140737488355328) :
    Calls Try.prog 6 #[.slice A0 l0.length c0, .int .i64 a1] w fun e w' => e = .returned (.bool true) ∧ Below w.heap.size w w' := by
  have HR := Aside0.mk hr0
  have HR0 := Aside0.mk hr0
  have HN1 := Aside0.mk (takeNum_eq l0 hl)
  have HN2 := Aside0.mk (ref_takeNum_eq hb hl 60 (Nat.le_refl _))
  have HI1 := Aside0.mk (takeInt_eq l0 hl)
  have HI2 := Aside0.mk (ref_takeInt_eq hb hl 60 (Nat.le_refl _))
  have HT1 := Aside0.mk (takeText_eq hb hl a1)
  have HT2 := Aside0.mk (ref_takeText_eq hb hl a1 60 (Nat.le_refl _))
  have hle1 := read_len numberF l0
  have hle2 := read_len wholeF l0
  have hle3 : (textOff l0 a1).2.1.length ≤ l0.length := by
    unfold textOff
    split
    · split
      · simp
      · split
        · simp
        · simp; omega
    · simp
  obtain ⟨⟨xn, rn, en⟩, hn⟩ : ∃ q, q = readF numberF l0 := ⟨_, rfl⟩
  obtain ⟨⟨xi, ri, ei⟩, hi⟩ : ∃ q, q = readF wholeF l0 := ⟨_, rfl⟩
  obtain ⟨⟨xt, rt, et⟩, ht⟩ : ∃ q, q = textOff l0 a1 := ⟨_, rfl⟩
  rw [← hn] at HN1 HN2 hle1
  rw [← hi] at HI1 HI2 hle2
  rw [← ht] at HT1 HT2 hle3
  have HL1 := Aside0.mk (show rn.length < 140737488355328 from Nat.lt_of_le_of_lt hle1 hl)
  have HL2 := Aside0.mk (show ri.length < 140737488355328 from Nat.lt_of_le_of_lt hle2 hl)
  have HL3 := Aside0.mk (show rt.length < 140737488355328 from Nat.lt_of_le_of_lt hle3 hl)
  have HL := Aside0.mk hl
  have HC0 := Aside0.mk hc0
  clear hn hi ht hr0 hb hle1 hle2 hle3 hc0 hl
  go_enter Try.func6, Try.ntmps6
  go_wp2_with fail
  refine (encoreref00_CopyBytes.calls A0 c0 l0 l0 w HR.out HC0.out (copy_eq l0 HL.out)).mono ?_
  rintro e w1 ⟨v1, rfl, h1, b1⟩
  obtain ⟨A1, c1, rfl, hc1, hC1⟩ := Kd.Q_reads (Kd.Q_of_R h1)
  have HIN := Aside0.mk (Q_hold (Kd.Q_of_R h1))
  have HR1 := Aside0.mk (Kd.C_below HR.out b1)
  have HB1 := Aside0.mk b1
  have HB1s := Aside0.mk b1.size
  have HCC := Aside0.mk hc1
  clear h1 b1 hC1 hc1 HR
  go_wp2_with fail
  refine (bin_TakeNum.calls A1 c1 l0 xn rn en w1 (Kd.Q_reads' HIN.out).2.2 HCC.out HN1.out).mono ?_
  rintro e w2 ⟨v2, rfl, h2, b2⟩
  obtain ⟨A2, c2, rfl, hc2, -⟩ := Kd.Q_reads (Kd.Q_of_R h2)
  have HQ2 := Aside0.mk (Q_hold (Kd.Q_of_R h2))
  have HIN2 := Aside0.mk (Kd.Q_below HIN.out b2)
  have HR2 := Aside0.mk (Kd.C_below HR1.out b2)
  have HB2 := Aside0.mk (below_then HB1.out HB1.out.size b2)
  have HS2 := Aside0.mk b2.size
  have HC2 := Aside0.mk hc2
  clear h2 b2 HR1 HIN HB1 hc2
  go_wp2_with fail
  refine (encoreref02_TakeNum.calls 60 A0 c0 l0 xn rn en w2 HR2.out HC0.out HN2.out).mono ?_
  rintro e w3 ⟨v3, rfl, h3, b3⟩
  obtain ⟨A3, c3, rfl, hc3, -⟩ := Kd.Q_reads (Kd.Q_of_R h3)
  have HQ3 := Aside0.mk (Q_hold (Kd.Q_of_R h3))
  have HIN3 := Aside0.mk (Kd.Q_below HIN2.out b3)
  have HQ2' := Aside0.mk (Kd.Q_below HQ2.out b3)
  have HR3 := Aside0.mk (Kd.C_below HR2.out b3)
  have HB3 := Aside0.mk (below_then HB2.out HB2.out.size b3)
  have HS3 := Aside0.mk b3.size
  have HC3 := Aside0.mk hc3
  clear h3 b3 HR2 HIN2 HB2 HQ2 hc3
  go_wp2_with fail
  refine (bin_TakeInt.calls A1 c1 l0 xi ri ei w3 (Kd.Q_reads' HIN3.out).2.2 HCC.out HI1.out).mono ?_
  rintro e w4 ⟨v4, rfl, h4, b4⟩
  obtain ⟨A4, c4, rfl, hc4, -⟩ := Kd.Q_reads (Kd.Q_of_R h4)
  have HQ4 := Aside0.mk (Q_hold (Kd.Q_of_R h4))
  have HIN4 := Aside0.mk (Kd.Q_below HIN3.out b4)
  have HQ2 := Aside0.mk (Kd.Q_below HQ2'.out b4)
  have HQ3' := Aside0.mk (Kd.Q_below HQ3.out b4)
  have HR4 := Aside0.mk (Kd.C_below HR3.out b4)
  have HB4 := Aside0.mk (below_then HB3.out HB3.out.size b4)
  have HS4 := Aside0.mk b4.size
  have HC4 := Aside0.mk hc4
  clear h4 b4 HR3 HIN3 HB3 HQ3 HQ2' hc4
  go_wp2_with fail
  refine (encoreref02_TakeInt.calls 60 A0 c0 l0 xi ri ei w4 HR4.out HC0.out HI2.out).mono ?_
  rintro e w5 ⟨v5, rfl, h5, b5⟩
  obtain ⟨A5, c5, rfl, hc5, -⟩ := Kd.Q_reads (Kd.Q_of_R h5)
  have HQ5 := Aside0.mk (Q_hold (Kd.Q_of_R h5))
  have HIN5 := Aside0.mk (Kd.Q_below HIN4.out b5)
  have HQ2' := Aside0.mk (Kd.Q_below HQ2.out b5)
  have HQ3 := Aside0.mk (Kd.Q_below HQ3'.out b5)
  have HQ4' := Aside0.mk (Kd.Q_below HQ4.out b5)
  have HR5 := Aside0.mk (Kd.C_below HR4.out b5)
  have HB5 := Aside0.mk (below_then HB4.out HB4.out.size b5)
  have HS5 := Aside0.mk b5.size
  have HC5 := Aside0.mk hc5
  clear h5 b5 HR4 HIN4 HB4 HQ3' HQ2 HQ4 hc5
  go_wp2_with fail
  refine (bin_TakeText.calls A1 c1 l0 a1 xt rt et w5 (Kd.Q_reads' HIN5.out).2.2 HCC.out HT1.out).mono ?_
  rintro e w6 ⟨v6, rfl, h6, b6⟩
  obtain ⟨A6, c6, rfl, hc6, -⟩ := Kd.Q_reads h6
  have HQ6 := Aside0.mk (Q_hold h6)
  have HIN6 := Aside0.mk (Kd.Q_below HIN5.out b6)
  have HQ2 := Aside0.mk (Kd.Q_below HQ2'.out b6)
  have HQ3' := Aside0.mk (Kd.Q_below HQ3.out b6)
  have HQ4 := Aside0.mk (Kd.Q_below HQ4'.out b6)
  have HQ5' := Aside0.mk (Kd.Q_below HQ5.out b6)
  have HR6 := Aside0.mk (Kd.C_below HR5.out b6)
  have HB6 := Aside0.mk (below_then HB5.out HB5.out.size b6)
  have HS6 := Aside0.mk b6.size
  have HC6 := Aside0.mk hc6
  clear h6 b6 HR5 HIN5 HB5 HQ2' HQ3 HQ4' HQ5 hc6
  go_wp2_with fail
  refine (encoreref02_TakeText.calls 60 A0 c0 l0 a1 xt rt et w6 HR6.out HC0.out HT2.out).mono ?_
  rintro e w7 ⟨v7, rfl, h7, b7⟩
  obtain ⟨A7, c7, rfl, hc7, -⟩ := Kd.Q_reads (Kd.Q_of_R h7)
  have HQ7 := Aside0.mk (Q_hold (Kd.Q_of_R h7))
  have HIN7 := Aside0.mk (Kd.Q_below HIN6.out b7)
  have HQ2' := Aside0.mk (Kd.Q_below HQ2.out b7)
  have HQ3 := Aside0.mk (Kd.Q_below HQ3'.out b7)
  have HQ4' := Aside0.mk (Kd.Q_below HQ4.out b7)
  have HQ5 := Aside0.mk (Kd.Q_below HQ5'.out b7)
  have HQ6' := Aside0.mk (Kd.Q_below HQ6.out b7)
  have HR7 := Aside0.mk (Kd.C_below HR6.out b7)
  have HB7 := Aside0.mk (below_then HB6.out HB6.out.size b7)
  have HS7 := Aside0.mk b7.size
  have HC7 := Aside0.mk hc7
  clear h7 b7 HR6 HIN6 HB6 HQ2 HQ3' HQ4 HQ5' HQ6 hc7
  have t1 : (xn != xn) = false := by simp
  have t2 : (en != en) = false := by simp
  have t3 : (xi != xi) = false := by simp
  have t4 : (ei != ei) = false := by simp
  have t6 : (et != et) = false := by simp
  go_wp2_with fail
  refine (encoreref00_EqBytes.calls (rn.length + 1) A2 c2 rn A3 c3 rn true _ (Kd.Q_reads' HQ2'.out).2.2 HC2.out (Kd.Q_reads' HQ3.out).2.2 HC3.out (eq_same rn (by have := HL1.out; omega) _ (by omega))).mono ?_
  rintro e w8 ⟨rfl, ⟨d8, rfl⟩⟩
  have HIN8 := Aside0.mk (Kd.Q_drewN HIN7.out d8)
  have HQ2 := Aside0.mk (Kd.Q_drewN HQ2'.out d8)
  have HQ4 := Aside0.mk (Kd.Q_drewN HQ4'.out d8)
  have HQ5' := Aside0.mk (Kd.Q_drewN HQ5.out d8)
  have HQ6 := Aside0.mk (Kd.Q_drewN HQ6'.out d8)
  have HQ7' := Aside0.mk (Kd.Q_drewN HQ7.out d8)
  have HR8 := Aside0.mk (Kd.C_drewN HR7.out d8)
  have HB8 := Aside0.mk (pw_below_drewN HB7.out d8)
  clear HQ3 HQ2' HQ4' HQ5 HQ6' HQ7 HR7 HB7 HIN7
  generalize w7.drewN d8 = w8 at *
  go_wp2_with fail
  refine (encoreref00_EqBytes.calls (ri.length + 1) A4 c4 ri A5 c5 ri true _ (Kd.Q_reads' HQ4.out).2.2 HC4.out (Kd.Q_reads' HQ5'.out).2.2 HC5.out (eq_same ri (by have := HL2.out; omega) _ (by omega))).mono ?_
  rintro e w9 ⟨rfl, ⟨d9, rfl⟩⟩
  have HIN9 := Aside0.mk (Kd.Q_drewN HIN8.out d9)
  have HQ2' := Aside0.mk (Kd.Q_drewN HQ2.out d9)
  have HQ4' := Aside0.mk (Kd.Q_drewN HQ4.out d9)
  have HQ6' := Aside0.mk (Kd.Q_drewN HQ6.out d9)
  have HQ7 := Aside0.mk (Kd.Q_drewN HQ7'.out d9)
  have HR9 := Aside0.mk (Kd.C_drewN HR8.out d9)
  have HB9 := Aside0.mk (pw_below_drewN HB8.out d9)
  clear HQ2 HQ4 HQ5' HQ6 HQ7' HR8 HB8 HIN8
  generalize w8.drewN d9 = w9 at *
  go_wp2_with fail
  refine (encoreref00_EqBytes.calls (rt.length + 1) A6 c6 rt A7 c7 rt true _ (Kd.Q_reads' HQ6'.out).2.2 HC6.out (Kd.Q_reads' HQ7.out).2.2 HC7.out (eq_same rt (by have := HL3.out; omega) _ (by omega))).mono ?_
  rintro e w10 ⟨rfl, ⟨d10, rfl⟩⟩
  have HIN10 := Aside0.mk (Kd.Q_drewN HIN9.out d10)
  have HQ2 := Aside0.mk (Kd.Q_drewN HQ2'.out d10)
  have HQ4 := Aside0.mk (Kd.Q_drewN HQ4'.out d10)
  have HQ6 := Aside0.mk (Kd.Q_drewN HQ6'.out d10)
  have HB10 := Aside0.mk (pw_below_drewN HB9.out d10)
  clear HQ2' HQ4' HQ6' HQ7 HR9 HB9 HIN9
  generalize w9.drewN d10 = w10 at *
  have S1 := Aside0.mk HB1s.out
  go_wp2_with fail
  refine (spoil_calls w1.heap.size _ (.slice A2 rn.length c2) rn w w10 HB10.out S1.out HQ2.out).mono ?_
  rintro e w11 ⟨rfl, hb, hm, hs⟩
  have HIN11 := Aside0.mk (Kd.Q_move HIN10.out (fun k hk => hm k (by have := hk.2; omega)))
  have HQ4' := Aside0.mk (Kd.Q_move HQ4.out (fun k hk => hm k (by have := hk.1; have := HS3.out; omega)))
  have HQ6' := Aside0.mk (Kd.Q_move HQ6.out (fun k hk => hm k (by have := hk.1; have := HS3.out; have := HS4.out; have := HS5.out; omega)))
  have HB11 := Aside0.mk hb
  clear hb hm hs HB10 HIN10 HQ2 HQ4 HQ6
  go_wp2_with fail
  refine (spoil_calls w3.heap.size _ (.slice A4 ri.length c4) ri w w11 HB11.out (by have := S1.out; have := HS2.out; have := HS3.out; omega) HQ4'.out).mono ?_
  rintro e w12 ⟨rfl, hb, hm, hs⟩
  have HIN12 := Aside0.mk (Kd.Q_move HIN11.out (fun k hk => hm k (by have := hk.2; have := HS2.out; have := HS3.out; omega)))
  have HQ6 := Aside0.mk (Kd.Q_move HQ6'.out (fun k hk => hm k (by have := hk.1; have := HS5.out; omega)))
  have HB12 := Aside0.mk hb
  clear hb hm hs HB11 HIN11 HQ4' HQ6'
  go_wp2_with fail
  refine (spoil_calls w5.heap.size _ (.slice A6 rt.length c6) rt w w12 HB12.out (by have := S1.out; have := HS2.out; have := HS3.out; have := HS4.out; have := HS5.out; omega) HQ6.out).mono ?_
  rintro e w13 ⟨rfl, hb, hm, hs⟩
  have HIN13 := Aside0.mk (Kd.Q_move HIN12.out (fun k hk => hm k (by have := hk.2; have := HS2.out; have := HS3.out; have := HS4.out; have := HS5.out; omega)))
  have HB13 := Aside0.mk hb
  have HR13 := Aside0.mk (Kd.C_below HR0.out hb)
  clear hb hm hs HB12 HIN12 HQ6
  go_wp2_with fail
  refine (encoreref00_EqBytes.calls (l0.length + 1) A1 c1 l0 A0 c0 l0 true _ (Kd.Q_reads' HIN13.out).2.2 HCC.out HR13.out HC0.out (eq_same l0 (by have := HL.out; omega) _ (by omega))).mono ?_
  rintro e w14 ⟨rfl, ⟨d14, rfl⟩⟩
  have HB14 := Aside0.mk (pw_below_drewN HB13.out d14)
  clear HB13 HR13 HIN13
  generalize w13.drewN d14 = w14 at *
  go_wp2_with fail
  refine (encorelaw02_works.calls true w14 rfl).mono ?_
  rintro e w15 ⟨rfl, hb⟩
  have HB15 := Aside0.mk (below_then HB14.out HB14.out.size hb)
  clear hb HB14
  go_wp2_with fail
  go_ret
  exact ⟨rfl, HB15.out⟩
theorem encorelaw02_BinReads.calls (A0 : Option Addr) (c0 : Nat) (l0 : List Int) (a1 : Int) (r : Bool) (w : World) (hr0 : Kd.C (Kd.int .u8) w A0 l0.length l0) (hc0 : l0.length ≤ c0) (h : encorelaw02_BinReads.f l0 a1 = some r) :
    Calls Try.prog 6 #[.slice A0 l0.length c0, .int .i64 a1] w fun e w' => e = .returned (.bool r) ∧ Below w.heap.size w w' := by
  unfold encorelaw02_BinReads.f at h
  split at h
  case isTrue hc =>
    obtain rfl := Option.some.inj h
    exact reads_calls A0 c0 l0 a1 w hr0 hc0 hc.1 hc.2
  case isFalse => cases h
end Go.Proofs.Ytpkkljlgggfmoaa.Ext
