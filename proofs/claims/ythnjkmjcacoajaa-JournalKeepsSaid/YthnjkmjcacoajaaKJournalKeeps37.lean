import Derived.Test.YthnjkmjcacoajaaKJournalKeeps36
/- JournalKeeps answers true, walked with the plain law at hand: for all numbers and deeds. No condition beyond the row's own. -/
namespace Go.Proofs.Ythnjkmjcacoajaa.Jn
open Go Go.RowKit Go.Proofs.YthnjkmjcacoajaaW.PrintWords Go.Proofs.YthnjkmjcacoajaaW.PrintLast Go.Proofs.YthnjkmjcacoajaaW.PrintMore Go.Proofs.Ythnjkmjcacoajaa.Base Go.Proofs.Ythnjkmjcacoajaa.Arr
open Go.Proofs.Ythnjkmjcacoajaa.Dk (DS DiskIs DiskTo writeF flushF doingF secOf newS goneS crashF)
open Go.Proofs.Ythnjkmjcacoajaa.Ext (runCells cellOf run_one)
set_option linter.unusedVariables false
set_option linter.unusedSimpArgs false

/-- a disk that is opened for the first time -/
def Ready (dd : DS) : Prop := ∃ d0 s0, openF dd = (0, d0, some (s0, [])) ∧ Ran 0 d0 s0 [] 0 ∧ Secs (rowsD dd) ∧ dd.waits.length ≤ 500000
theorem ready_new (n : Nat) (h6 : 6 ≤ n) (h5 : n ≤ 512) : Ready (newS n) := by
  obtain ⟨d, s, h1, h2, h3, h4, h5'⟩ := first_new n h6 h5
  exact ⟨d, s, h1, ⟨h2, h3, by rw [h5']; decide, by rw [h4]; decide, Nat.le_refl _⟩, new_secs n (by omega) h5, Nat.zero_le _⟩
theorem ready_old (n e : Nat) (h6 : 6 ≤ n) (h5 : n ≤ 512) (he0 : 0 < e) (he : e < 2147483648) : Ready (flushF (writeF (newS n) 1 (cellOf 1 e true [1])).2).2 := by
  obtain ⟨-, -, h3, h4⟩ := first_old n e h6 h5 he0 (by omega)
  obtain ⟨s, g1, g2, g3, g4, -, -⟩ := open_down h3 (by omega)
  exact ⟨_, s, g1, ⟨g2, h4, by rw [g3]; decide, by omega, Nat.le_refl _⟩, h3.secs, h3.w0⟩
theorem add_cell6 (ad : Addr) (m i : Nat) : ad.add (m + (i + 1)) = ⟨(ad.add m).block, (ad.add m).off + (i + 1), none⟩ := by
  rw [← Go.Deep.add_add]
  unfold Addr.add
  rw [if_neg (by omega)]
theorem deed_cells {W : World} {ad : Addr} {m : Nat} {v0 v1 v2 v3 v4 v5 : Value} (h : W.cell? (ad.add m) = some v0 ∧ W.cell? (ad.add (m + 1)) = some v1 ∧ W.cell? (ad.add (m + 2)) = some v2 ∧ W.cell? (ad.add (m + 3)) = some v3 ∧ W.cell? (ad.add (m + 4)) = some v4 ∧ W.cell? (ad.add (m + 5)) = some v5) :
    W.cell? (ad.add m) = some v0 ∧ W.cell? ⟨(ad.add m).block, (ad.add m).off + 1, none⟩ = some v1 ∧ W.cell? ⟨(ad.add m).block, (ad.add m).off + 2, none⟩ = some v2 ∧ W.cell? ⟨(ad.add m).block, (ad.add m).off + 3, none⟩ = some v3 ∧ W.cell? ⟨(ad.add m).block, (ad.add m).off + 4, none⟩ = some v4 ∧ W.cell? ⟨(ad.add m).block, (ad.add m).off + 5, none⟩ = some v5 := by
  rw [← add_cell6 ad m 0, ← add_cell6 ad m 1, ← add_cell6 ad m 2, ← add_cell6 ad m 3, ← add_cell6 ad m 4]
  exact h
theorem LOpenX {w0 W : World} {g : Nat} {d d' : DS} {s' : JS} {out : List (List Int)} (h : LD w0 W g d) (hb : Secs (rowsD d)) (hw : d.waits.length ≤ 500000) (ho : openF d = (0, d', some (s', out))) :
    Calls Try.prog 22 #[.pointer (some ⟨g, 0, none⟩)] W fun e W' => ∃ gj2 A c, e = .returned (.tuple #[.pointer (some ⟨gj2, 0, none⟩), .slice A out.length c, .int .i64 0]) ∧ LJ w0 W' g gj2 d' s' := by
  obtain ⟨h1, ok, h2, h3, h4⟩ := h
  refine (Open_calls W w0.heap.size ok g d h2 h3 h4 hb hw).mono fun e W' hp => ?_
  rw [ho] at hp
  obtain ⟨gj2, v, e1, e2, e3, ok', e4, e5, e6⟩ := hp
  obtain ⟨A, c, rfl⟩ := Kd.R_slice e6
  exact ⟨gj2, A, c, e1, h1.trans e2, ok', e5, fun k hk => (e4 k hk).2⟩
/-- the world that is built -/
theorem at_start {w0 W : World} {g gj : Nat} {d : DS} {s : JS} (h : LJ w0 W g gj d s) (hr : Ran 0 d s [] 0) : At w0 (W.alloc (.cells (wcells g gj (.slice none 0 0) 0 (.slice none 0 0)) 50)) W.heap.size g 0 := by
  obtain ⟨h1, ok, h2, h3⟩ := h
  have hb : Below W.heap.size W (W.alloc (.cells (wcells g gj (.slice none 0 0) 0 (.slice none 0 0)) 50)) := below_alloc (Below.refl _ _) _
  refine ⟨ok, gj, _, _, d, s, [], [], 0, h2.below hb, ⟨h1.trans (hb.mono h1.size), fun k q => Nat.lt_of_lt_of_le (h3 k q) hb.size, h1.size, fun q => Nat.lt_irrefl _ (h3 _ q), HoldsRow.new _ _ _, ⟨[], XRows.nil _ _⟩, ⟨[], XRows.nil _ _⟩⟩, hr⟩
theorem crash_calm {i : Nat} {d : DS} {s : JS} {l : List (List Int)} {m : Nat} (h : Ran i d s l m) : crashF d 0 0 = (0, { d with dead := true }) := by
  have hc := h.live.j.calm
  unfold crashF goneS
  rw [if_neg (by rw [hc.dead]; decide), hc.waits]
  have e : Dk.keptTo d 0 0 ([] : List (Int × List Int)).length = [] := rfl
  rw [e]
  have e2 : Dk.lay d.stays [] = d.stays := rfl
  rw [e2]
  have hp := h.plan
  have hw := hc.waits
  cases d
  simp only at hp hw
  subst hp hw
  rfl
theorem rise_calm {i : Nat} {d : DS} {s : JS} {l : List (List Int)} {m : Nat} (h : Ran i d s l m) : upS ({ d with dead := true } : DS) = d := by
  have hp := h.plan
  have hd := h.live.j.calm.dead
  cases d
  simp only at hp hd
  subst hp hd
  rfl
theorem big31 : ((2147483648 : Nat) : Int) = 2147483648 := rfl
set_option maxHeartbeats 8000000 in
set_option maxRecDepth 100000 in
theorem keeps_calls (a0 : Int) (A1 : Option Addr) (c1 : Nat) (l1 : List DeedT) (w : World) (hr1 : DeedRow w A1 l1) (hc1 : l1.length ≤ c1) (hm1 : l1.length ≤ 9223372036854775807) :
    Calls Try.prog 5 #[.int .i64 a0, .slice A1 l1.length c1] w fun e w' => e = .returned (.bool true) ∧ Below w.heap.size w w' := by
  obtain ⟨k1, hk1, hB1⟩ := LBring a0 35 (by decide) (by decide)
  obtain ⟨k2, hk2, hB2⟩ := LBring (wrap64 (a0.tdiv 35)) 2147483648 (by decide) (by decide)
  simp only [big31] at hB2
  have HB1 := Aside0.mk hB1
  have HB2 := Aside0.mk hB2
  have HR1 := Aside0.mk hr1
  have HM1 := Aside0.mk hm1
  obtain ⟨n, hn⟩ : ∃ n : Nat, n = 6 + k1 := ⟨_, rfl⟩
  have e1 : wrap64 (6 + (k1 : Int)) = (n : Int) := by unfold wrap64; omega
  have HNN := Aside0.mk (show 6 ≤ n ∧ n ≤ 512 by omega)
  have HK2 := Aside0.mk hk2
  clear hB1 hB2 hr1 hm1 hc1 hn hk1 hk2
  go_enter Try.func5, Try.ntmps5
  go_wp2_with fail
  refine (works_calls w).mono ?_
  rintro e w1 ⟨rfl, hb1⟩
  have B1 := Aside0.mk hb1
  clear hb1
  go_wp2_with fail
  refine (HB1.out w1).mono ?_
  rintro e w2 ⟨rfl, hd2⟩
  have B2 := Aside0.mk (B1.out.trans (hd2.below.mono B1.out.size))
  clear hd2 B1 HB1
  go_wp2_with fail
  refine (LNew w2 n (by have := HNN.out; omega) HNN.out.2).mono ?_
  rintro e w3 ⟨g, rfl, hl3⟩
  have L3 := Aside0.mk hl3
  clear hl3 e1
  go_wp2_with fail
  refine (HB2.out w3).mono ?_
  rintro e w4 ⟨rfl, hd4⟩
  have L4 := Aside0.mk (L3.out.below hd4.below)
  clear hd4 L3 HB2
  go_upto_if 31 with fail
  go_cut [] (fun wx => ∃ dd : DS, Aside0 (LD w2 wx g dd) ∧ Aside0 (Ready dd))
  case first =>
    by_cases hk0 : k2 = 0
    · subst hk0
      go_wp2_with fail
      go_meet
      case rel => exact ⟨newS n, L4, ⟨ready_new n HNN.out.1 HNN.out.2⟩⟩
    · have b1 : decide ((0 : Int) < (k2 : Int)) = true := decide_eq_true (by omega)
      have b2 : decide (0 < k2) = true := decide_eq_true (by omega)
      obtain ⟨W5, hW5⟩ : ∃ W5, W5 = w4.alloc (.cells #[.int .u8 1] 5) := ⟨_, rfl⟩
      have hr5 : HoldsRow W5 w4.heap.size 5 (rowK .u8 [1]) := by rw [hW5]; exact HoldsRow.new _ _ _
      have hb5 : Below w4.heap.size w4 W5 := by rw [hW5]; exact below_alloc (Below.refl _ _) _
      have L5 := Aside0.mk (L4.out.below hb5)
      have hone : runCells 1 k2 [1] = [cellOf 1 k2 true [1]] := run_one 1 k2 [1] (by decide) (by decide)
      have hce := Ext.strip_Cells.calls 1 (k2 : Int) (some ⟨w4.heap.size, 0, none⟩) 1 [1] (runCells 1 k2 [1]) 0 W5 (lit_row (ok := fun _ => False) hr5 (fun h => h) (Kept.refl _ _)) (by decide) (by
        have := HK2.out
        unfold Ext.strip_Cells.f
        rw [if_neg (by unfold Ext.goodS; omega), if_neg (by decide), if_pos (by decide)]
        rfl)
      rw [hone] at hce
      have HCE := Aside0.mk hce
      rw [hW5] at HCE L5
      clear hce hr5 hb5 hone hW5 L4
      go_wp2_with fail
      refine HCE.out.mono ?_
      rintro e w6 ⟨v6, rfl, hv6, hb6⟩
      obtain ⟨hb5, okn, hdn, hlt5, hle5⟩ := L5.out
      obtain ⟨cell, hcell⟩ : ∃ c, c = cellOf 1 k2 true [1] := ⟨_, rfl⟩
      rw [← hcell] at hv6
      obtain ⟨A3, z3, rfl⟩ := Kd.S_slice hv6
      obtain ⟨ad, A2, z2, rfl, hz2, hrow⟩ := rows_at (S := okn) (Kd.S_bound hv6) (fun k hk q => by
        have h1 := hk.2.1
        have h2 := hlt5 k q
        omega) 0 cell rfl
      have K0 := (hrow w6 (Kept.refl _ _)).1
      have ead : ad.add 0 = ad := rfl
      rw [ead] at K0
      obtain ⟨f1, f2, f3, f4⟩ := first_old n k2 HNN.out.1 HNN.out.2 (by omega) (by have := HK2.out; omega)
      have hready := ready_old n k2 HNN.out.1 HNN.out.2 (by omega) HK2.out
      rw [← hcell] at f1 f2 hready
      have hwr := Dk.Write_calls w6 w2.heap.size okn g (newS n) (Dk.DiskIs.below hdn hb6) (Nat.le_trans hle5 hb6.size) (Nat.zero_le _) 1 (A2) z2 cell (fun W' hk => (hrow W' hk).2) hz2
      rw [f1] at hwr
      have hww := (write_ok f1).2.2.2.2.2.1
      have HWR := Aside0.mk hwr
      have HWL := Aside0.mk (show (writeF (newS n) 1 cell).2.waits.length ≤ 1000000 by rw [hww]; show ([] ++ [((1 : Int), cell)]).length ≤ _; simp)
      have HRY := Aside0.mk hready
      have HF2 := Aside0.mk f2
      have HB6 := Aside0.mk (And.intro (hb5.trans (hb6.mono hle5)) (Nat.le_trans hle5 hb6.size))
      clear hwr hww f1 f2 f3 f4 hready hrow hv6 hb6 hb5 hdn hlt5 hle5 hcell ead HCE L5
      go_wp2_with fail
      refine HWR.out.mono ?_
      rintro e w7 ⟨rfl, hb7, hk7, ok7, hs7, hd7⟩
      have HS7 := Aside0.mk (And.intro hb7 (show w2.heap.size ≤ w7.heap.size from Nat.le_trans HB6.out.2 hk7.1))
      have hfl := Dk.Flush_calls w7 w2.heap.size ok7 g (writeF (newS n) 1 cell).2 hd7 HS7.out.2 HWL.out
      rw [HF2.out] at hfl
      have HFL := Aside0.mk hfl
      clear hb7 hk7 hs7 hd7 hfl HWR
      go_wp2_with fail
      refine HFL.out.mono ?_
      rintro e w8 ⟨rfl, hto8⟩
      have HTO := Aside0.mk hto8
      clear hto8 HFL
      go_wp2_with fail
      go_meet
      case rel => exact ⟨_, ⟨LD.to_ (d := newS n) (HB6.out.1.trans HS7.out.1) HS7.out.2 HTO.out⟩, HRY⟩
  case rest =>
    obtain ⟨dd, L5, hrd⟩ := hcut
    clear L4
    obtain ⟨d0, s0, ho, hran, hsec, hwt⟩ := hrd.out
    have HO := Aside0.mk (LOpenX L5.out hsec hwt ho)
    have HRAN := Aside0.mk hran
    clear ho hran hsec hwt hrd
    go_wp2_with fail
    refine HO.out.mono ?_
    rintro e w6 ⟨gj, A6, c6, rfl, hl6⟩
    have HAT := Aside0.mk (at_start hl6 HRAN.out)
    have HSZ := Aside0.mk (show w2.heap.size ≤ w6.heap.size from hl6.1.size)
    clear hl6 HRAN HO L5
    unfold wcells at HAT
    obtain ⟨bx, hbx⟩ : ∃ bx, bx = w6.heap.size := ⟨_, rfl⟩
    go_wp2_with fail
    rw [← hbx] at HAT ⊢
    obtain ⟨W7, hW7⟩ : ∃ W7, W7 = w6.alloc (.cells #[.pointer (some ⟨g, 0, none⟩), .pointer (some ⟨gj, 0, none⟩), .slice none 0 0, .int .i64 0, .slice none 0 0] 50) := ⟨_, rfl⟩
    rw [← hW7] at HAT ⊢
    clear hW7 hbx HSZ
    obtain ⟨N, hN1, hN2, hN3⟩ : ∃ N : Nat, N ≤ l1.length ∧ N ≤ 40 ∧ (N = l1.length ∨ N = 40) := by
      by_cases h : l1.length ≤ 40
      · exact ⟨_, Nat.le_refl _, h, .inl rfl⟩
      · exact ⟨40, by omega, Nat.le_refl _, .inr rfl⟩
    have HN := Aside0.mk (And.intro hN1 (And.intro hN2 hN3))
    clear hN1 hN2 hN3
    go_loopw [14] (fun v14 wr => ∃ j : Nat, j ≤ N ∧ v14 = .int .i64 (j : Nat) ∧ Aside0 (At w2 wr bx g j)) (fun i _ => N - (intOf i).toNat)
    case atStart => exact ⟨0, by omega, rfl, HAT⟩
    case round =>
      clear HAT
      obtain ⟨j, hj, rfl, HAT⟩ := hrel
      by_cases hlt : j < N
      · have hjl : j < l1.length := by have := HN.out; omega
        have hj40 : j < 40 := by have := HN.out; omega
        have d1 : decide ((j : Int) < (l1.length : Int)) = true := decide_eq_true (by omega)
        have d2 : decide (j < l1.length) = true := decide_eq_true hjl
        have d3 : decide ((j : Int) < 40) = true := decide_eq_true (by have := HN.out; omega)
        have d4 : decide (j < 40) = true := decide_eq_true (by have := HN.out; omega)
        obtain ⟨⟨kd, dn, fl, ct, th, bt⟩, hd⟩ : ∃ d, l1[j]? = some d := ⟨_, List.getElem?_eq_getElem hjl⟩
        obtain ⟨ad, rfl, hk, e1, e2⟩ := HR1.out j _ hd
        obtain ⟨ok7, gj7, vl7, vp7, d7, s7, l7, pt7, m7, hj7, hx7, hr7⟩ := HAT.out
        have hdo := do_calls w2 wr ok7 bx g gj7 vl7 vp7 m7 l7 pt7 d7 s7 j hj7 hx7 hr7 (by have := HN.out; omega) kd dn fl ct th bt ⟨e1, e2⟩
        unfold ycells at hdo
        have HDO := Aside0.mk hdo
        have hbw : Below w.heap.size w wr := B2.out.trans (hx7.b.mono B2.out.size)
        have hg := deed_cells hk
        have g0 := pw_cell_below hbw hg.1
        have g1 := pw_cell_below hbw hg.2.1
        have g2 := pw_cell_below hbw hg.2.2.1
        have g3 := pw_cell_below hbw hg.2.2.2.1
        have g4 := pw_cell_below hbw hg.2.2.2.2.1
        have g5 := pw_cell_below hbw hg.2.2.2.2.2
        have b0 := eq_true (show (0 : Int) ≤ (j : Int) by omega)
        have b1 := eq_true (show (j : Int) < (l1.length : Int) by omega)
        clear hdo hbw hg hk hd hj7 hx7 hr7 e1 e2
        go_wp2_with fail
        refine HDO.out.mono ?_
        rintro e w8 ⟨rfl, hat8⟩
        have HAT8 := Aside0.mk hat8
        clear hat8 g0 g1 g2 g3 g4 g5
        go_wp2_with fail
        exact ⟨⟨j + 1, by omega, by rw [show ((j + 1 : Nat) : Int) = (j : Int) + 1 by omega], HAT8⟩, by simp [intOf]; omega⟩
      · obtain rfl : j = N := by omega
        have hj40 : j ≤ 40 := by have := HN.out; omega
        rcases Nat.lt_or_ge j l1.length with hll | hll
        · have h40 : j = 40 := by have := HN.out; omega
          have d1 : decide ((j : Int) < (l1.length : Int)) = true := decide_eq_true (by omega)
          have d2 : decide (j < l1.length) = true := decide_eq_true hll
          have d3 : decide ((j : Int) < 40) = false := decide_eq_false (by omega)
          have d4 : decide (j < 40) = false := decide_eq_false (by omega)
          obtain ⟨ok7, gj7, vl7, vp7, d7, s7, l7, pt7, m7, hj7, hx7, hr7⟩ := HAT.out
          have HJ7 := Aside0.mk hj7
          have HX7 := Aside0.mk hx7
          have HN7 := Aside0.mk hr7
          clear hj7 hx7 hr7
          have z4 := HX7.out.row.free 4
          obtain ⟨c0, c1, c2, c3, c4⟩ := HX7.out.cells
          go_wp2_with fail
          obtain ⟨W8, hW8⟩ : ∃ W8, W8 = wr.setCell ⟨bx, 4, none⟩ (.slice none 0 0) := ⟨_, rfl⟩
          rw [← hW8]
          have HJ8 := Aside0.mk (show JD W8 w2.heap.size ok7 g gj7 d7 s7 by rw [hW8]; exact HJ7.out.set HX7.out 4 _)
          have HX8 := Aside0.mk (show XC w2 W8 ok7 bx g gj7 vl7 (m7 : Int) (.slice none 0 0) l7 [] by rw [hW8]; exact HX7.out.set 4 _ rfl HX7.out.l ⟨[], XRows.nil _ _⟩)
          clear hW8 HJ7 HX7 HAT z4 c0 c1 c2 c3 c4
          have hcr := XCrash HJ8.out (Nat.le_trans HN7.out.live.j.w0 (by decide)) 0 0
          rw [crash_calm HN7.out] at hcr
          refine hcr.mono ?_
          clear hcr
          rintro e w9 ⟨rfl, ht9⟩
          obtain ⟨d9, hd9⟩ : ∃ d9, d9 = ({ d7 with dead := true } : DS) := ⟨_, rfl⟩
          rw [← hd9] at ht9
          have hup : upS d9 = d7 := by rw [hd9]; exact rise_calm HN7.out
          obtain ⟨ok9, hj9, hx9⟩ := HX8.out.jto ht9
          obtain ⟨out, hout⟩ : ∃ out, out = l7.take m7 := ⟨_, rfl⟩
          have hpy := HN7.out.live.j.pay
          have hln := HN7.out.ln
          have hep := HN7.out.ep
          have hbl : Below w9.heap.size w9 w9.drew := below_drew (Below.refl _ _)
          have hfe := fell_calls w2 w9.drew ok9 bx g gj7 gj7 vl7 (.slice none 0 0) m7 l7 [] out d9 s7 s7.gen.toNat s7.epoch.toNat (hj9.below hbl) (hx9.below hbl) (by rw [hup, hout]; exact HN7.out.live.down) (by omega) (.inl ⟨m7, Nat.le_refl _, HN7.out.live.j.ml, hout⟩) (.inl ⟨rfl, rfl⟩) (by omega) (pay_short hpy (by omega)) ⟨by decide, fun r hr => by cases hr⟩ 0 0 0
          rw [hup] at hfe
          have HFE := Aside0.mk hfe
          have HPO := Aside0.mk (show Short out by rw [hout]; exact pay_short (pay_take hpy m7) (by rw [List.length_take]; omega))
          have HEP := Aside0.mk hep
          have HJL := Aside0.mk hj40
          clear hfe hbl hpy hln hep hj9 hx9 ht9 hd9 hup hout HJ8 HX8
          go_wp2_with fail
          refine start_ (n := 15) (S := fun _ => True) (ds := []) #[false, false, false, false, false, false, false, false, false, false, false, false, false, false, false] (by kernel_rfl) rfl rfl trivial (fun hHeld => ?_)
          refine pure_ (i := 0) (N := some 95) (v := ?_) (a' := ?_) #[true, false, false, false, false, false, false, false, false, false, false, false, false, false, false] rfl rfl (by kernel_rfl) (fun _ _ _ h => h) (Or.inl ⟨by rfl, ?_⟩) ?_ ?_
          rotate_left
          · intro w'
            go_simp
            with_reducible rfl
          rotate_left
          · simp only [Act.put, List.setIfInBounds_toArray, List.set_cons_zero, List.set_cons_succ, i64_w, i32_w]
            rfl
          refine one_ (i := 1) (N := some 96) #[true, true, false, false, false, false, false, false, false, false, false, false, false, false, false] rfl rfl (by kernel_rfl) (by decide) (fun K hK => ?_)
          refine goes_ Try.func24 (by kernel_rfl) rfl #[.pointer (some ⟨bx, 0, none⟩), .int .u64 0, .int .i64 0, .int .i64 0] (by rfl) rfl rfl (by simp only [List.map_toArray, List.map_cons, List.map_nil]; rfl) ?_
          with_reducible refine (HFE.out).mono ?_
          rintro e w10 ⟨rfl, ok10, gj10, vl10, vp10, pt10, s10, hj10, hx10, hl10, hg10, he10⟩
          refine ⟨_, rfl, ?_⟩
          have HJ10 := Aside0.mk hj10
          have HX10 := Aside0.mk hx10
          have HL10 := Aside0.mk hl10
          have HE10 := Aside0.mk he10
          obtain ⟨hs10, hxl10⟩ := HX10.out.l
          obtain ⟨A10, c10, rfl, -, hC10, -⟩ := hxl10.C
          have HC10 := Aside0.mk hC10
          clear hj10 hx10 hl10 hg10 he10 hxl10 hC10 HFE
          obtain ⟨c0, c1, c2, c3, c4⟩ := HX10.out.cells
          refine hK.out _ _ trivial (fun _ => ?_)
          clear hK K
          refine late_ (S2 := fun w' => w'.cell? ⟨bx, 2, none⟩ = some (.slice A10 out.length c10) ∧ w'.cell? ⟨bx, 3, none⟩ = some (.int .i64 (out.length : Int))) (ds2 := []) _ _ _ _ ?_
          have hHeld : (fun (w' : World) => w'.cell? ⟨bx, 2, none⟩ = some (.slice A10 out.length c10) ∧ w'.cell? ⟨bx, 3, none⟩ = some (.int .i64 (out.length : Int))) _ := ⟨c2, c3⟩
          refine norm_ (a' := ?_) ?_ ?_
          rotate_left
          · show Act.put _ (some 96) _ = _
            simp only [Act.put, List.setIfInBounds_toArray, List.set_cons_zero, List.set_cons_succ, i64_w, i32_w]
            rfl
          refine pure_ (i := 2) (N := some 97) (v := ?_) (a' := ?_) #[true, true, true, false, false, false, false, false, false, false, false, false, false, false, false] rfl rfl (by kernel_rfl) (fun _ _ _ h => h) (Or.inl ⟨by rfl, ?_⟩) ?_ ?_
          rotate_left
          · intro w'
            go_simp
            with_reducible rfl
          rotate_left
          · simp only [Act.put, List.setIfInBounds_toArray, List.set_cons_zero, List.set_cons_succ, i64_w, i32_w]
            rfl
          refine pure_ (i := 3) (N := some 98) (v := ?_) (a' := ?_) #[true, true, true, true, false, false, false, false, false, false, false, false, false, false, false] rfl rfl (by kernel_rfl) (fun _ _ _ h => h) (Or.inl ⟨by rfl, ?_⟩) ?_ ?_
          rotate_left
          · intro w'
            go_simp
            with_reducible rfl
          rotate_left
          · simp only [Act.put, List.setIfInBounds_toArray, List.set_cons_zero, List.set_cons_succ, i64_w, i32_w]
            rfl
          refine pure_ (i := 4) (N := some 99) (v := ?_) (a' := ?_) #[true, true, true, true, true, false, false, false, false, false, false, false, false, false, false] rfl rfl (by kernel_rfl) (fun _ _ _ h => h) (Or.inl ⟨by rfl, ?_⟩) ?_ ?_
          rotate_left
          · intro w'
            go_simp
            with_reducible rfl
          rotate_left
          · simp only [Act.put, List.setIfInBounds_toArray, List.set_cons_zero, List.set_cons_succ, i64_w, i32_w]
            rfl
          refine pure_ (i := 5) (N := some 100) (v := ?_) (a' := ?_) #[true, true, true, true, true, true, false, false, false, false, false, false, false, false, false] rfl rfl (by kernel_rfl) (fun _ _ _ h => h) (Or.inl ⟨by rfl, ?_⟩) ?_ ?_
          rotate_left
          · intro w'
            go_simp
            with_reducible rfl
          rotate_left
          · simp only [Act.put, List.setIfInBounds_toArray, List.set_cons_zero, List.set_cons_succ, i64_w, i32_w]
            rfl
          refine pure_ (i := 6) (N := some 101) (v := ?_) (a' := ?_) #[true, true, true, true, true, true, true, false, false, false, false, false, false, false, false] rfl rfl (by kernel_rfl) (fun _ _ _ h => h) (Or.inl ⟨by rfl, ?_⟩) ?_ ?_
          rotate_left
          · intro w'
            go_simp
            with_reducible rfl
          rotate_left
          · simp only [Act.put, List.setIfInBounds_toArray, List.set_cons_zero, List.set_cons_succ, i64_w, i32_w]
            rfl
          refine pure_ (i := 9) (N := some 104) (v := ?_) (a' := ?_) #[true, true, true, true, true, true, true, false, false, true, false, false, false, false, false] rfl rfl (by kernel_rfl) (fun _ _ _ h => h) (Or.inl ⟨by rfl, ?_⟩) ?_ ?_
          rotate_left
          · intro w'
            go_simp
            with_reducible rfl
          rotate_left
          · simp only [Act.put, List.setIfInBounds_toArray, List.set_cons_zero, List.set_cons_succ, i64_w, i32_w]
            rfl
          refine pure_ (i := 10) (N := some 105) (v := ?_) (a' := ?_) #[true, true, true, true, true, true, true, false, false, true, true, false, false, false, false] rfl rfl (by kernel_rfl) (fun _ _ _ h => h) (Or.inl ⟨by rfl, ?_⟩) ?_ ?_
          rotate_left
          · intro w'
            go_simp
            with_reducible rfl
          rotate_left
          · simp only [Act.put, List.setIfInBounds_toArray, List.set_cons_zero, List.set_cons_succ, i64_w, i32_w]
            rfl
          refine pure_ (i := 11) (N := some 106) (v := ?_) (a' := ?_) #[true, true, true, true, true, true, true, false, false, true, true, true, false, false, false] rfl rfl (by kernel_rfl) (fun _ _ _ h => h) (Or.inl ⟨by rfl, ?_⟩) ?_ ?_
          rotate_left
          · intro w'
            go_simp
            with_reducible rfl
          rotate_left
          · simp only [Act.put, List.setIfInBounds_toArray, List.set_cons_zero, List.set_cons_succ, i64_w, i32_w]
            rfl
          refine take_ (i := 7) (N := some 102) (v := ?_) (a' := ?_) #[true, true, true, true, true, true, true, true, false, true, true, true, false, false, false] rfl rfl (by kernel_rfl) (fun _ _ _ h => h) (Or.inl ⟨by rfl, ?_⟩) hHeld ?_ ?_
          rotate_left
          · rintro w' ⟨s0, s1⟩
            go_simp
            with_reducible rfl
          rotate_left
          · simp only [Act.put, List.setIfInBounds_toArray, List.set_cons_zero, List.set_cons_succ, i64_w, i32_w]
            rfl
          refine pure_ (i := 8) (N := some 103) (v := ?_) (a' := ?_) #[true, true, true, true, true, true, true, true, true, true, true, true, false, false, false] rfl rfl (by kernel_rfl) (fun _ _ _ h => h) (Or.inl ⟨by rfl, ?_⟩) ?_ ?_
          rotate_left
          · intro w'
            go_simp
            with_reducible rfl
          rotate_left
          · simp only [Act.put, List.setIfInBounds_toArray, List.set_cons_zero, List.set_cons_succ, i64_w, i32_w]
            rfl
          refine take_ (i := 12) (N := some 107) (v := ?_) (a' := ?_) #[true, true, true, true, true, true, true, true, true, true, true, true, true, false, false] rfl rfl (by kernel_rfl) (fun _ _ _ h => h) (Or.inl ⟨by rfl, ?_⟩) hHeld ?_ ?_
          rotate_left
          · rintro w' ⟨s0, s1⟩
            go_simp
            with_reducible rfl
          rotate_left
          · simp only [Act.put, List.setIfInBounds_toArray, List.set_cons_zero, List.set_cons_succ, i64_w, i32_w]
            rfl
          refine pure_ (i := 13) (N := some 108) (v := ?_) (a' := ?_) #[true, true, true, true, true, true, true, true, true, true, true, true, true, true, false] rfl rfl (by kernel_rfl) (fun _ _ _ h => h) (Or.inl ⟨by rfl, ?_⟩) ?_ ?_
          rotate_left
          · intro w'
            go_simp
            with_reducible rfl
          rotate_left
          · simp only [Act.put, List.setIfInBounds_toArray, List.set_cons_zero, List.set_cons_succ, i64_w, i32_w]
            rfl
          refine pure_ (i := 14) (N := some 109) (v := ?_) (a' := ?_) #[true, true, true, true, true, true, true, true, true, true, true, true, true, true, true] rfl rfl (by kernel_rfl) (fun _ _ _ h => h) (Or.inl ⟨by rfl, ?_⟩) ?_ ?_
          rotate_left
          · intro w'
            go_simp
            with_reducible rfl
          rotate_left
          · simp only [Act.put, List.setIfInBounds_toArray, List.set_cons_zero, List.set_cons_succ, i64_w, i32_w]
            rfl
          refine done_ (by kernel_rfl) ?_
          
          obtain ⟨s11, ho11, -⟩ := open_down HL10.out.down (by have := HE10.out; have := HEP.out; have := HJL.out; omega)
          rw [List.take_length] at ho11
          have HO11 := Aside0.mk (XOpen HJ10.out HL10.out.j.secs HL10.out.j.w0 ho11)
          clear ho11
          go_wp2_with fail
          refine HO11.out.mono ?_
          rintro e w11 ⟨gj11, v11, rfl, hb11, hk11, ok11, hs11, hj11, hr11⟩
          have hx11 := (HX10.out.opened hb11 hk11 hs11 hr11).1
          obtain ⟨A11, c11, rfl⟩ := Kd.R_slice hr11
          have HR11 := Aside0.mk (Kd.R_reads' hr11).2.2
          have HX11 := Aside0.mk hx11
          have HF11 := Aside0.mk (show Below w.heap.size w w11 from B2.out.trans (hx11.b.mono B2.out.size))
          clear hb11 hk11 hs11 hj11 hr11 hx11 HO11 c0 c1 c2 c3 c4
          obtain ⟨c0, c1, c2, c3, c4⟩ := HX11.out.cells
          obtain ⟨hs12, hxl11⟩ := HX11.out.l
          obtain ⟨A12, c12, he12, -, hC12, -⟩ := hxl11.C
          rw [he12] at c2
          have HC12 := Aside0.mk hC12
          clear hxl11 he12 hC12
          go_wp2_with fail
          refine (same_calls w11 A11 c11 out A12 c12 out HR11.out HC12.out HPO.out HPO.out).mono ?_
          rw [decide_eq_true rfl]
          rintro e w13 ⟨rfl, hd13⟩
          have HF13 := Aside0.mk (HF11.out.trans (hd13.below.mono HF11.out.size))
          clear hd13
          go_wp2_with fail
          go_ret
          exact ⟨rfl, HF13.out⟩
        · have d1 : decide ((j : Int) < (l1.length : Int)) = false := decide_eq_false (by omega)
          have d2 : decide (j < l1.length) = false := decide_eq_false (by omega)
          obtain ⟨ok7, gj7, vl7, vp7, d7, s7, l7, pt7, m7, hj7, hx7, hr7⟩ := HAT.out
          have HJ7 := Aside0.mk hj7
          have HX7 := Aside0.mk hx7
          have HN7 := Aside0.mk hr7
          clear hj7 hx7 hr7
          have z4 := HX7.out.row.free 4
          obtain ⟨c0, c1, c2, c3, c4⟩ := HX7.out.cells
          go_wp2_with fail
          obtain ⟨W8, hW8⟩ : ∃ W8, W8 = wr.setCell ⟨bx, 4, none⟩ (.slice none 0 0) := ⟨_, rfl⟩
          rw [← hW8]
          have HJ8 := Aside0.mk (show JD W8 w2.heap.size ok7 g gj7 d7 s7 by rw [hW8]; exact HJ7.out.set HX7.out 4 _)
          have HX8 := Aside0.mk (show XC w2 W8 ok7 bx g gj7 vl7 (m7 : Int) (.slice none 0 0) l7 [] by rw [hW8]; exact HX7.out.set 4 _ rfl HX7.out.l ⟨[], XRows.nil _ _⟩)
          clear hW8 HJ7 HX7 HAT z4 c0 c1 c2 c3 c4
          have hcr := XCrash HJ8.out (Nat.le_trans HN7.out.live.j.w0 (by decide)) 0 0
          rw [crash_calm HN7.out] at hcr
          refine hcr.mono ?_
          clear hcr
          rintro e w9 ⟨rfl, ht9⟩
          obtain ⟨d9, hd9⟩ : ∃ d9, d9 = ({ d7 with dead := true } : DS) := ⟨_, rfl⟩
          rw [← hd9] at ht9
          have hup : upS d9 = d7 := by rw [hd9]; exact rise_calm HN7.out
          obtain ⟨ok9, hj9, hx9⟩ := HX8.out.jto ht9
          obtain ⟨out, hout⟩ : ∃ out, out = l7.take m7 := ⟨_, rfl⟩
          have hpy := HN7.out.live.j.pay
          have hln := HN7.out.ln
          have hep := HN7.out.ep
          have hbl : Below w9.heap.size w9 w9.drew := below_drew (Below.refl _ _)
          have hfe := fell_calls w2 w9.drew ok9 bx g gj7 gj7 vl7 (.slice none 0 0) m7 l7 [] out d9 s7 s7.gen.toNat s7.epoch.toNat (hj9.below hbl) (hx9.below hbl) (by rw [hup, hout]; exact HN7.out.live.down) (by omega) (.inl ⟨m7, Nat.le_refl _, HN7.out.live.j.ml, hout⟩) (.inl ⟨rfl, rfl⟩) (by omega) (pay_short hpy (by omega)) ⟨by decide, fun r hr => by cases hr⟩ 0 0 0
          rw [hup] at hfe
          have HFE := Aside0.mk hfe
          have HPO := Aside0.mk (show Short out by rw [hout]; exact pay_short (pay_take hpy m7) (by rw [List.length_take]; omega))
          have HEP := Aside0.mk hep
          have HJL := Aside0.mk hj40
          clear hfe hbl hpy hln hep hj9 hx9 ht9 hd9 hup hout HJ8 HX8
          go_wp2_with fail
          refine start_ (n := 15) (S := fun _ => True) (ds := []) #[false, false, false, false, false, false, false, false, false, false, false, false, false, false, false] (by kernel_rfl) rfl rfl trivial (fun hHeld => ?_)
          refine pure_ (i := 0) (N := some 95) (v := ?_) (a' := ?_) #[true, false, false, false, false, false, false, false, false, false, false, false, false, false, false] rfl rfl (by kernel_rfl) (fun _ _ _ h => h) (Or.inl ⟨by rfl, ?_⟩) ?_ ?_
          rotate_left
          · intro w'
            go_simp
            with_reducible rfl
          rotate_left
          · simp only [Act.put, List.setIfInBounds_toArray, List.set_cons_zero, List.set_cons_succ, i64_w, i32_w]
            rfl
          refine one_ (i := 1) (N := some 96) #[true, true, false, false, false, false, false, false, false, false, false, false, false, false, false] rfl rfl (by kernel_rfl) (by decide) (fun K hK => ?_)
          refine goes_ Try.func24 (by kernel_rfl) rfl #[.pointer (some ⟨bx, 0, none⟩), .int .u64 0, .int .i64 0, .int .i64 0] (by rfl) rfl rfl (by simp only [List.map_toArray, List.map_cons, List.map_nil]; rfl) ?_
          with_reducible refine (HFE.out).mono ?_
          rintro e w10 ⟨rfl, ok10, gj10, vl10, vp10, pt10, s10, hj10, hx10, hl10, hg10, he10⟩
          refine ⟨_, rfl, ?_⟩
          have HJ10 := Aside0.mk hj10
          have HX10 := Aside0.mk hx10
          have HL10 := Aside0.mk hl10
          have HE10 := Aside0.mk he10
          obtain ⟨hs10, hxl10⟩ := HX10.out.l
          obtain ⟨A10, c10, rfl, -, hC10, -⟩ := hxl10.C
          have HC10 := Aside0.mk hC10
          clear hj10 hx10 hl10 hg10 he10 hxl10 hC10 HFE
          obtain ⟨c0, c1, c2, c3, c4⟩ := HX10.out.cells
          refine hK.out _ _ trivial (fun _ => ?_)
          clear hK K
          refine late_ (S2 := fun w' => w'.cell? ⟨bx, 2, none⟩ = some (.slice A10 out.length c10) ∧ w'.cell? ⟨bx, 3, none⟩ = some (.int .i64 (out.length : Int))) (ds2 := []) _ _ _ _ ?_
          have hHeld : (fun (w' : World) => w'.cell? ⟨bx, 2, none⟩ = some (.slice A10 out.length c10) ∧ w'.cell? ⟨bx, 3, none⟩ = some (.int .i64 (out.length : Int))) _ := ⟨c2, c3⟩
          refine norm_ (a' := ?_) ?_ ?_
          rotate_left
          · show Act.put _ (some 96) _ = _
            simp only [Act.put, List.setIfInBounds_toArray, List.set_cons_zero, List.set_cons_succ, i64_w, i32_w]
            rfl
          refine pure_ (i := 2) (N := some 97) (v := ?_) (a' := ?_) #[true, true, true, false, false, false, false, false, false, false, false, false, false, false, false] rfl rfl (by kernel_rfl) (fun _ _ _ h => h) (Or.inl ⟨by rfl, ?_⟩) ?_ ?_
          rotate_left
          · intro w'
            go_simp
            with_reducible rfl
          rotate_left
          · simp only [Act.put, List.setIfInBounds_toArray, List.set_cons_zero, List.set_cons_succ, i64_w, i32_w]
            rfl
          refine pure_ (i := 3) (N := some 98) (v := ?_) (a' := ?_) #[true, true, true, true, false, false, false, false, false, false, false, false, false, false, false] rfl rfl (by kernel_rfl) (fun _ _ _ h => h) (Or.inl ⟨by rfl, ?_⟩) ?_ ?_
          rotate_left
          · intro w'
            go_simp
            with_reducible rfl
          rotate_left
          · simp only [Act.put, List.setIfInBounds_toArray, List.set_cons_zero, List.set_cons_succ, i64_w, i32_w]
            rfl
          refine pure_ (i := 4) (N := some 99) (v := ?_) (a' := ?_) #[true, true, true, true, true, false, false, false, false, false, false, false, false, false, false] rfl rfl (by kernel_rfl) (fun _ _ _ h => h) (Or.inl ⟨by rfl, ?_⟩) ?_ ?_
          rotate_left
          · intro w'
            go_simp
            with_reducible rfl
          rotate_left
          · simp only [Act.put, List.setIfInBounds_toArray, List.set_cons_zero, List.set_cons_succ, i64_w, i32_w]
            rfl
          refine pure_ (i := 5) (N := some 100) (v := ?_) (a' := ?_) #[true, true, true, true, true, true, false, false, false, false, false, false, false, false, false] rfl rfl (by kernel_rfl) (fun _ _ _ h => h) (Or.inl ⟨by rfl, ?_⟩) ?_ ?_
          rotate_left
          · intro w'
            go_simp
            with_reducible rfl
          rotate_left
          · simp only [Act.put, List.setIfInBounds_toArray, List.set_cons_zero, List.set_cons_succ, i64_w, i32_w]
            rfl
          refine pure_ (i := 6) (N := some 101) (v := ?_) (a' := ?_) #[true, true, true, true, true, true, true, false, false, false, false, false, false, false, false] rfl rfl (by kernel_rfl) (fun _ _ _ h => h) (Or.inl ⟨by rfl, ?_⟩) ?_ ?_
          rotate_left
          · intro w'
            go_simp
            with_reducible rfl
          rotate_left
          · simp only [Act.put, List.setIfInBounds_toArray, List.set_cons_zero, List.set_cons_succ, i64_w, i32_w]
            rfl
          refine pure_ (i := 9) (N := some 104) (v := ?_) (a' := ?_) #[true, true, true, true, true, true, true, false, false, true, false, false, false, false, false] rfl rfl (by kernel_rfl) (fun _ _ _ h => h) (Or.inl ⟨by rfl, ?_⟩) ?_ ?_
          rotate_left
          · intro w'
            go_simp
            with_reducible rfl
          rotate_left
          · simp only [Act.put, List.setIfInBounds_toArray, List.set_cons_zero, List.set_cons_succ, i64_w, i32_w]
            rfl
          refine pure_ (i := 10) (N := some 105) (v := ?_) (a' := ?_) #[true, true, true, true, true, true, true, false, false, true, true, false, false, false, false] rfl rfl (by kernel_rfl) (fun _ _ _ h => h) (Or.inl ⟨by rfl, ?_⟩) ?_ ?_
          rotate_left
          · intro w'
            go_simp
            with_reducible rfl
          rotate_left
          · simp only [Act.put, List.setIfInBounds_toArray, List.set_cons_zero, List.set_cons_succ, i64_w, i32_w]
            rfl
          refine pure_ (i := 11) (N := some 106) (v := ?_) (a' := ?_) #[true, true, true, true, true, true, true, false, false, true, true, true, false, false, false] rfl rfl (by kernel_rfl) (fun _ _ _ h => h) (Or.inl ⟨by rfl, ?_⟩) ?_ ?_
          rotate_left
          · intro w'
            go_simp
            with_reducible rfl
          rotate_left
          · simp only [Act.put, List.setIfInBounds_toArray, List.set_cons_zero, List.set_cons_succ, i64_w, i32_w]
            rfl
          refine take_ (i := 7) (N := some 102) (v := ?_) (a' := ?_) #[true, true, true, true, true, true, true, true, false, true, true, true, false, false, false] rfl rfl (by kernel_rfl) (fun _ _ _ h => h) (Or.inl ⟨by rfl, ?_⟩) hHeld ?_ ?_
          rotate_left
          · rintro w' ⟨s0, s1⟩
            go_simp
            with_reducible rfl
          rotate_left
          · simp only [Act.put, List.setIfInBounds_toArray, List.set_cons_zero, List.set_cons_succ, i64_w, i32_w]
            rfl
          refine pure_ (i := 8) (N := some 103) (v := ?_) (a' := ?_) #[true, true, true, true, true, true, true, true, true, true, true, true, false, false, false] rfl rfl (by kernel_rfl) (fun _ _ _ h => h) (Or.inl ⟨by rfl, ?_⟩) ?_ ?_
          rotate_left
          · intro w'
            go_simp
            with_reducible rfl
          rotate_left
          · simp only [Act.put, List.setIfInBounds_toArray, List.set_cons_zero, List.set_cons_succ, i64_w, i32_w]
            rfl
          refine take_ (i := 12) (N := some 107) (v := ?_) (a' := ?_) #[true, true, true, true, true, true, true, true, true, true, true, true, true, false, false] rfl rfl (by kernel_rfl) (fun _ _ _ h => h) (Or.inl ⟨by rfl, ?_⟩) hHeld ?_ ?_
          rotate_left
          · rintro w' ⟨s0, s1⟩
            go_simp
            with_reducible rfl
          rotate_left
          · simp only [Act.put, List.setIfInBounds_toArray, List.set_cons_zero, List.set_cons_succ, i64_w, i32_w]
            rfl
          refine pure_ (i := 13) (N := some 108) (v := ?_) (a' := ?_) #[true, true, true, true, true, true, true, true, true, true, true, true, true, true, false] rfl rfl (by kernel_rfl) (fun _ _ _ h => h) (Or.inl ⟨by rfl, ?_⟩) ?_ ?_
          rotate_left
          · intro w'
            go_simp
            with_reducible rfl
          rotate_left
          · simp only [Act.put, List.setIfInBounds_toArray, List.set_cons_zero, List.set_cons_succ, i64_w, i32_w]
            rfl
          refine pure_ (i := 14) (N := some 109) (v := ?_) (a' := ?_) #[true, true, true, true, true, true, true, true, true, true, true, true, true, true, true] rfl rfl (by kernel_rfl) (fun _ _ _ h => h) (Or.inl ⟨by rfl, ?_⟩) ?_ ?_
          rotate_left
          · intro w'
            go_simp
            with_reducible rfl
          rotate_left
          · simp only [Act.put, List.setIfInBounds_toArray, List.set_cons_zero, List.set_cons_succ, i64_w, i32_w]
            rfl
          refine done_ (by kernel_rfl) ?_
          
          obtain ⟨s11, ho11, -⟩ := open_down HL10.out.down (by have := HE10.out; have := HEP.out; have := HJL.out; omega)
          rw [List.take_length] at ho11
          have HO11 := Aside0.mk (XOpen HJ10.out HL10.out.j.secs HL10.out.j.w0 ho11)
          clear ho11
          go_wp2_with fail
          refine HO11.out.mono ?_
          rintro e w11 ⟨gj11, v11, rfl, hb11, hk11, ok11, hs11, hj11, hr11⟩
          have hx11 := (HX10.out.opened hb11 hk11 hs11 hr11).1
          obtain ⟨A11, c11, rfl⟩ := Kd.R_slice hr11
          have HR11 := Aside0.mk (Kd.R_reads' hr11).2.2
          have HX11 := Aside0.mk hx11
          have HF11 := Aside0.mk (show Below w.heap.size w w11 from B2.out.trans (hx11.b.mono B2.out.size))
          clear hb11 hk11 hs11 hj11 hr11 hx11 HO11 c0 c1 c2 c3 c4
          obtain ⟨c0, c1, c2, c3, c4⟩ := HX11.out.cells
          obtain ⟨hs12, hxl11⟩ := HX11.out.l
          obtain ⟨A12, c12, he12, -, hC12, -⟩ := hxl11.C
          rw [he12] at c2
          have HC12 := Aside0.mk hC12
          clear hxl11 he12 hC12
          go_wp2_with fail
          refine (same_calls w11 A11 c11 out A12 c12 out HR11.out HC12.out HPO.out HPO.out).mono ?_
          rw [decide_eq_true rfl]
          rintro e w13 ⟨rfl, hd13⟩
          have HF13 := Aside0.mk (HF11.out.trans (hd13.below.mono HF11.out.size))
          clear hd13
          go_wp2_with fail
          go_ret
          exact ⟨rfl, HF13.out⟩
end Go.Proofs.Ythnjkmjcacoajaa.Jn

