/- DiskOne answers true, walked with the plain law at hand: for every row of numbers, bits and cut. No condition beyond the kinds' own. -/
import Derived.Test.YtkmgbmnjabmhaaaDPlain
namespace Go.Proofs.Ytkmgbmnjabmhaaa.Ext
open Go Go.RowKit Go.Proofs.YtkmgbmnjabmhaaaW.PrintWords Go.Proofs.YtkmgbmnjabmhaaaW.PrintLast Go.Proofs.YtkmgbmnjabmhaaaW.PrintMore Go.Proofs.Ytkmgbmnjabmhaaa.Base Go.Proofs.Ytkmgbmnjabmhaaa.Arr
set_option linter.unusedVariables false
set_option linter.unusedSimpArgs false
attribute [local go_sem] max2_int min2_int max_two min_two max_three min_three max_four min_four

theorem min_facts (n q : Nat) : ∃ m : Nat, (if (q : Int) < (n : Int) then (q : Int) else (n : Int)) = (m : Int) ∧ (if q < n then q else n) = m ∧ m ≤ n ∧ m ≤ q ∧ (m = n ∨ m = q) := by
  by_cases h : q < n
  · exact ⟨q, by rw [if_pos (by omega)], by rw [if_pos h], by omega, Nat.le_refl _, .inr rfl⟩
  · exact ⟨n, by rw [if_neg (by omega)], by rw [if_neg h], Nat.le_refl _, by omega, .inl rfl⟩
def oneA : DS := { newS 8 with waits := [(3, secI 77)] }
def oneB : DS := { newS 8 with stays := lay (newS 8).stays [(3, secI 77)] }
theorem one_wr : writeF (newS 8) 3 (secI 77) = (0, oneA) := write_alive rfl rfl (by decide) (by decide) (secI_len _)
theorem one_fl : flushF oneA = (0, oneB) := flush_alive rfl rfl
def oneS (l : List Int) (j : Nat) : DS := { oneB with waits := (l.take j).map (fun x => ((3 : Int), secI x)) }
theorem oneB_good : Good oneB := by
  refine ⟨by decide, by decide, ?_, fun p hp => ?_⟩
  · exact lay_len (n := 8) (by show (List.replicate (8 * 64) (0 : Int)).length = _; rw [List.length_replicate]) _ (fun p hp => by rw [List.mem_singleton.1 hp]; exact ⟨by show (0 : Int) ≤ 3; omega, by show (3 : Int) < ((8 : Nat) : Int); omega, secI_len _⟩)
  · have : p ∈ ([] : List (Int × List Int)) := hp
    cases this
theorem oneS_good (l : List Int) (j : Nat) : Good (oneS l j) := by
  refine ⟨oneB_good.1, oneB_good.2.1, oneB_good.2.2.1, fun p hp => ?_⟩
  have hp : p ∈ (l.take j).map (fun x => ((3 : Int), secI x)) := hp
  obtain ⟨x, _, rfl⟩ := List.mem_map.1 hp
  exact ⟨by show (0 : Int) ≤ 3; omega, by show (3 : Int) < ((8 : Nat) : Int); omega, secI_len _⟩
theorem oneS_wr (l : List Int) (j : Nat) (hj : j < l.length) : writeF (oneS l j) 3 (secI (rd l j)) = (0, oneS l (j + 1)) := by
  rw [write_alive rfl rfl (by decide) (by show (3 : Int) < ((8 : Nat) : Int); omega) (secI_len _)]
  unfold oneS
  rw [List.take_succ_eq_append_getElem hj, List.map_append]
  have e : rd l j = l[j] := by unfold rd; rw [Int.toNat_natCast, List.getD_eq_getElem?_getD, List.getElem?_eq_getElem hj]; rfl
  rw [e]
  rfl
theorem oneS_len (l : List Int) (j : Nat) (hj : j ≤ l.length) : (oneS l j).waits.length = j := by
  show ((l.take j).map (fun x => ((3 : Int), secI x))).length = j
  rw [List.length_map, List.length_take]; omega
def cutAt (cut : Int) (N j : Nat) : Nat := if j + 1 = N then cutN cut else 64
def oldTo (bits cut : Int) (l : List Int) (N : Nat) : Nat → List Int
  | 0 => secI 77
  | j + 1 => if offB bits j = true then oldTo bits cut l N j else (secI (rd l j)).take (cutAt cut N j) ++ (oldTo bits cut l N j).drop (cutAt cut N j)
theorem cutAt_le (cut : Int) (N j : Nat) : cutAt cut N j ≤ 64 := by
  unfold cutAt
  split
  · exact cutN_le cut
  · exact Nat.le_refl _
theorem oldTo_len (bits cut : Int) (l : List Int) (N : Nat) : ∀ j, (oldTo bits cut l N j).length = 64
  | 0 => secI_len 77
  | j + 1 => by
    have ih := oldTo_len bits cut l N j
    rw [oldTo]
    split
    · exact ih
    · rw [List.length_append, List.length_take, List.length_drop, secI_len, ih]
      have := cutAt_le cut N j
      omega
theorem old_off {bits cut : Int} {l : List Int} {N j : Nat} (h : offB bits j = true) : oldTo bits cut l N (j + 1) = oldTo bits cut l N j := by rw [oldTo]; exact if_pos h
theorem old_on {bits cut : Int} {l : List Int} {N j : Nat} (h : offB bits j = false) : oldTo bits cut l N (j + 1) = (secI (rd l j)).take (cutAt cut N j) ++ (oldTo bits cut l N j).drop (cutAt cut N j) := by rw [oldTo]; exact if_neg (by rw [h]; decide)
theorem one_kept (bits cut : Int) (l : List Int) (N : Nat) (hN : N ≤ l.length) : ∀ j, j ≤ N → curS (oneS l N).stays (keptTo (oneS l N) bits cut j) 3 = oldTo bits cut l N j
  | 0, _ => by
    show curS (lay (newS 8).stays [(3, secI 77)]) [] 3 = secI 77
    have e : curS (lay (newS 8).stays [(3, secI 77)]) [] 3 = secOf (lay (newS 8).stays [(3, secI 77)]) 3 := rfl
    rw [e, lay_cur (n := 8) (by show (List.replicate (8 * 64) (0 : Int)).length = _; rw [List.length_replicate]) (by decide) _ _ rfl (fun p hp => by rw [List.mem_singleton.1 hp]; exact ⟨by show (0 : Int) ≤ 3; omega, by show (3 : Int) < ((8 : Nat) : Int); omega, secI_len _⟩)]
    rfl
  | j + 1, hj => by
    have ih := one_kept bits cut l N hN j (by omega)
    have hge : (oneS l N).waits[j]? = some (3, secI (rd l j)) := by
      show ((l.take N).map (fun x => ((3 : Int), secI x)))[j]? = _
      rw [List.getElem?_map, List.getElem?_take, if_pos (by omega), List.getElem?_eq_getElem (show j < l.length by omega)]
      unfold rd
      rw [Int.toNat_natCast, List.getD_eq_getElem?_getD, List.getElem?_eq_getElem (show j < l.length by omega)]
      rfl
    have hwl := oneS_len l N hN
    cases ho : offB bits j with
    | true => rw [kept_off hge ho, old_off ho, ih]
    | false =>
      rw [old_on ho]
      by_cases hl : j + 1 = N
      · rw [kept_last hge ho (by rw [hwl]; exact hl), curS_snoc, if_pos (show (3 : Int) = ((3 : Nat) : Int) from rfl)]
        unfold tornS cutAt
        rw [if_pos hl]
        show _ ++ (curS (oneS l N).stays (keptTo (oneS l N) bits cut j) 3).drop _ = _
        rw [ih]
      · rw [kept_on hge ho (by rw [hwl]; exact hl), curS_snoc, if_pos (show (3 : Int) = ((3 : Nat) : Int) from rfl)]
        unfold cutAt
        rw [if_neg hl, List.take_of_length_le (by rw [secI_len]; omega), List.drop_of_length_le (by rw [oldTo_len]; omega), List.append_nil]
theorem one_read (bits cut : Int) (l : List Int) (N : Nat) (hN : N ≤ l.length) : thereE (bootS (goneS (oneS l N) bits cut)) 3 = 0 ∧ readF (bootS (goneS (oneS l N) bits cut)) 3 = oldTo bits cut l N N := by
  obtain ⟨h1, h2⟩ := read_gone (oneS_good l N) bits cut (j := 3) (by show 3 < 8; omega)
  refine ⟨h1, h2.trans ?_⟩
  rw [oneS_len l N hN, one_kept bits cut l N hN N (Nat.le_refl _)]
set_option maxHeartbeats 8000000 in
set_option maxRecDepth 100000 in
theorem one_calls (A0 : Option Addr) (c0 : Nat) (l0 : List Int) (bits cut : Int) (w : World) (hr0 : Kd.C (Kd.int .i64) w A0 l0.length l0) (hc0 : l0.length ≤ c0) (hbits : 0 ≤ bits ∧ bits < 18446744073709551616) :
    Calls Try.prog 5 #[.slice A0 l0.length c0, .int .u64 bits, .int .i64 cut] w fun e w' => e = .returned (.bool true) ∧ Below w.heap.size w w' := by
  obtain ⟨N, hN1, hN2, hN3, hN4, hN5⟩ := min_facts l0.length 30
  rw [show ((30 : Nat) : Int) = 30 from rfl] at hN1
  have hmx : l0.length ≤ 9223372036854775807 := Kd.C_max hr0
  have HR0 := Aside0.mk hr0
  have HBR := Aside0.mk (show encoreref00_Bring.f cut 65 = some (cutN cut : Int) by have := bring_eq cut 65 (by decide) (by decide); rw [show ((65 : Nat) : Int) = 65 from rfl] at this; rw [this]; congr 1; unfold cutN; omega)
  have HBITS := Aside0.mk hbits
  clear hr0 hc0 hbits
  go_enter Try.func5, Try.ntmps5
  go_wp2_with fail
  ((with_reducible refine (made_calls w).mono ?_))
  rintro e w1 ⟨g, rfl, hb, hd⟩
  have B1 := Aside0.mk hb
  have D1 := Aside0.mk hd
  obtain ⟨ok1, hok1⟩ : ∃ ok1 : Nat → Prop, ok1 = (fun k => w.heap.size ≤ k ∧ k < w1.heap.size) := ⟨_, rfl⟩
  rw [← hok1] at D1
  clear hb hd hok1
  have HS0 := Aside0.mk (show (newS 8).waits.length ≤ 1000000 ∧ oneA.waits.length ≤ 1000000 by decide)
  go_wp2_with fail
  ((with_reducible refine (sector_calls 77 w1).mono ?_))
  rintro e w2 ⟨A2, c2, rfl, hr, hb⟩
  have B2 := Aside0.mk (B1.out.trans (hb.mono B1.out.size))
  have D2 := Aside0.mk (D1.out.below hb)
  have R2 := Aside0.mk (D1.out.fresh hr)
  clear hr hb D1 B1
  go_wp2_with fail
  ((with_reducible refine (LWrite w.heap.size w2 ok1 g (newS 8) oneA 0 77 3 A2 c2 D2.out HS0.out.1 R2.out one_wr).mono ?_))
  rintro e w3 ⟨rfl, ok2, hd, hm⟩
  have B3 := Aside0.mk (B2.out.trans hm.1)
  have D3 := Aside0.mk hd
  clear hd hm B2 D2 R2
  go_wp2_with fail
  ((with_reducible refine (LFlush w.heap.size w3 ok2 g oneA oneB 0 D3.out HS0.out.2 one_fl).mono ?_))
  rintro e w4 ⟨rfl, ok3, hd, hm⟩
  have B4 := Aside0.mk (B3.out.trans hm.1)
  have D4 := Aside0.mk (show DL w.heap.size w4 ok3 g (oneS l0 0) from hd)
  clear hd hm B3 D3
  go_wp2_with fail
  ((with_reducible refine (sector_calls 77 w4).mono ?_))
  rintro e w5 ⟨A5, c5, rfl, hr, hb⟩
  have B5 := Aside0.mk (B4.out.trans (hb.mono B4.out.size))
  have D5 := Aside0.mk (D4.out.below hb)
  have R5 := Aside0.mk (show Kd.R (Kd.int .u8) 5 w5 w.heap.size (fun k => ¬ ok3 k) (.slice A5 64 c5) (oldTo bits cut l0 N 0) from D4.out.fresh hr)
  clear hr hb D4 B4
  go_wp2_with fail
  go_loopw [8, 9] (fun v i wr => ∃ (j : Nat) (ok : Nat → Prop) (A : Option Addr) (c : Nat), j ≤ N ∧ i = .int .i64 (j : Nat) ∧ v = .slice A 64 c ∧ Aside0 (DL w.heap.size wr ok g (oneS l0 j)) ∧ Aside0 (Kd.R (Kd.int .u8) 5 wr w.heap.size (fun k => ¬ ok k) (.slice A 64 c) (oldTo bits cut l0 N j)) ∧ Aside0 (Below w.heap.size w wr)) (fun _ i _ => N - (intOf i).toNat)
  case atStart => exact ⟨0, ok3, A5, c5, by omega, rfl, rfl, D5, R5, B5⟩
  case round =>
    clear D5 R5 B5
    obtain ⟨j, ok, A, c, hj, rfl, rfl, RD, RR, RB⟩ := hrel
    by_cases hlt : j < N
    · have d1 : decide ((j : Int) < (l0.length : Int)) = true := decide_eq_true (by omega)
      have d2 : decide (j < l0.length) = true := decide_eq_true (by omega)
      have d3 : decide ((j : Int) < 30) = true := decide_eq_true (by omega)
      have d4 : decide (j < 30) = true := decide_eq_true (by omega)
      obtain ⟨ad, rfl, hcell⟩ := Kd.at_int (Kd.C_below HR0.out RB.out) (j : Int) (by omega) (by omega)
      rw [Int.toNat_natCast] at hcell
      have b0 := eq_true (show (0 : Int) ≤ (j : Int) by omega)
      have b1 := eq_true (show (j : Int) < (l0.length : Int) by omega)
      have HWR := Aside0.mk (oneS_wr l0 j (by omega))
      have HWL := Aside0.mk (show (oneS l0 j).waits.length ≤ 1000000 by rw [oneS_len l0 j (by omega)]; omega)
      go_wp2_with fail
      ((with_reducible refine (sector_calls (rd l0 j) wr).mono ?_))
      rintro e w6 ⟨A6, c6, rfl, hr, hb⟩
      have B6 := Aside0.mk (RB.out.trans (hb.mono RB.out.size))
      have D6 := Aside0.mk (RD.out.below hb)
      have R6 := Aside0.mk (RD.out.fresh hr)
      have RR6 := Aside0.mk (Kd.R_below RR.out hb)
      clear hr hb RD RR RB hcell
      go_wp2_with fail
      ((with_reducible refine (LWrite w.heap.size w6 ok g (oneS l0 j) (oneS l0 (j + 1)) 0 (rd l0 j) 3 A6 c6 D6.out HWL.out R6.out HWR.out).mono ?_))
      rintro e w7 ⟨rfl, ok7, hd, hm⟩
      have B7 := Aside0.mk (B6.out.trans hm.1)
      have D7 := Aside0.mk hd
      have RR7 := Aside0.mk (row_moves RR6.out hm)
      clear hd hm B6 D6 R6 RR6
      have hon := on_iff bits HBITS.out.1 HBITS.out.2 j (by omega)
      cases ho : offB bits j with
      | true =>
        rw [ho] at hon
        have hon : (Go.bits BinOp.and IntKind.u64 (bits / 2 ^ j) 1 == 1) = false := hon
        rw [← old_off (cut := cut) (l := l0) (N := N) ho] at RR7
        clear ho
        go_wp2_with fail
        go_roundw
        case rel => exact ⟨j + 1, ok7, A, c, by omega, by go_num, rfl, D7, RR7, B7⟩
        case measure => simp [intOf]; omega
      | false =>
        rw [ho] at hon
        have hon : (Go.bits BinOp.and IntKind.u64 (bits / 2 ^ j) 1 == 1) = true := hon
        have HON := Aside0.mk (old_on (cut := cut) (l := l0) (N := N) ho)
        clear ho
        by_cases hl : j + 1 = N
        · have dl : ((j : Int) == (N : Int) - 1) = true := by simp; omega
          have x0 := eq_true (show (1 : Int) ≤ (N : Int) by omega)
          have hca : cutAt cut N j = cutN cut := by unfold cutAt; rw [if_pos hl]
          have hcl := cutN_le cut
          rw [hca] at HON
          clear hl hca
          go_wp2_with fail
          ((with_reducible refine (encoreref00_Bring.calls cut 65 (cutN cut : Int) w7 HBR.out).mono ?_))
          rintro e w7' ⟨rfl, hd⟩
          have B7' := Aside0.mk (B7.out.trans (hd.below.mono B7.out.size))
          have D7' := Aside0.mk (D7.out.below hd.below)
          have RR7' := Aside0.mk (Kd.R_below RR7.out hd.below)
          clear hd B7 D7 RR7 w7
          obtain ⟨w7, hw7⟩ : ∃ w7, w7 = w7' := ⟨_, rfl⟩
          subst hw7
          obtain ⟨q, hq0⟩ : ∃ q, q = cutN cut := ⟨_, rfl⟩
          rw [← hq0] at HON hcl ⊢
          have hq : q ≤ 64 := hcl
          clear hq0 hcl
          have B7 := B7'
          have D7 := D7'
          have RR7 := RR7'
          clear B7' D7' RR7'
          go_wp2_with fail
          have HQ := Aside0.mk hq
          have hc64 := (Kd.R_reads' RR7.out).2.1
          have HC64 := Aside0.mk hc64
          obtain ⟨i0, hi0, _, hsz0, _⟩ := info_parts info5
          have hrun := Go.Proofs.YtkmgbmnjabmhaaaW.PrintWords.cut_from (P := Try.prog) 26 5 .i64 Try.underlying26 hi0 1 hsz0 A 64 c (q : Int) (by omega) (by omega)
          rw [Int.toNat_natCast] at hrun
          obtain ⟨A9, hA9⟩ : ∃ A9, A9 = if c = q then A else A.map (·.add (q * 1)) := ⟨_, rfl⟩
          rw [← hA9] at hrun
          have HA9 := Aside0.mk hA9
          have K1 : w7.cell? (ad.add j) = some (.int .i64 (rd l0 j)) := by
            obtain ⟨ad', e, hc'⟩ := Kd.at_int (Kd.C_below HR0.out B7.out) (j : Int) (by omega) (by omega)
            cases e
            rw [Int.toNat_natCast] at hc'
            exact hc'
          have HLN := Aside0.mk (show ((secI (rd l0 j)).take q ++ (oldTo bits cut l0 N j).drop q).length = 64 by rw [List.length_append, List.length_take, List.length_drop, secI_len, oldTo_len]; omega)
          have y0 := eq_true (show (0 : Int) ≤ (q : Int) by omega)
          clear hA9 hc64 hi0 hsz0
          refine start_ (n := 12) (S := fun w' => w'.cell? (ad.add j) = some (.int .i64 (rd l0 j))) (ds := []) #[false, false, false, false, false, false, false, false, false, false, false, false] (by kernel_rfl) rfl rfl (K1) (fun hHeld => ?_)
          refine pure_ (i := 0) (N := some 48) (v := ?_) (a' := ?_) #[true, false, false, false, false, false, false, false, false, false, false, false] rfl rfl (by kernel_rfl) (fun _ _ _ h => h) (Or.inl ⟨by rfl, ?_⟩) ?_ ?_
          rotate_left
          · intro w'
            go_simp
            with_reducible rfl
          rotate_left
          · simp only [Act.put, List.setIfInBounds_toArray, List.set_cons_zero, List.set_cons_succ, i64_w, i32_w]
            rfl
          refine pure_ (i := 1) (N := some 49) (v := ?_) (a' := ?_) #[true, true, false, false, false, false, false, false, false, false, false, false] rfl rfl (by kernel_rfl) (fun _ _ _ h => h) (Or.inl ⟨by rfl, ?_⟩) ?_ ?_
          rotate_left
          · intro w'
            go_simp
            with_reducible rfl
          rotate_left
          · simp only [Act.put, List.setIfInBounds_toArray, List.set_cons_zero, List.set_cons_succ, i64_w, i32_w]
            rfl
          refine pure_ (i := 2) (N := some 50) (v := ?_) (a' := ?_) #[true, true, true, false, false, false, false, false, false, false, false, false] rfl rfl (by kernel_rfl) (fun _ _ _ h => h) (Or.inl ⟨by rfl, ?_⟩) ?_ ?_
          rotate_left
          · intro w'
            go_simp
            with_reducible rfl
          rotate_left
          · simp only [Act.put, List.setIfInBounds_toArray, List.set_cons_zero, List.set_cons_succ, i64_w, i32_w]
            rfl
          refine pure_ (i := 5) (N := some 53) (v := ?_) (a' := ?_) #[true, true, true, false, false, true, false, false, false, false, false, false] rfl rfl (by kernel_rfl) (fun _ _ _ h => h) (Or.inl ⟨by rfl, ?_⟩) ?_ ?_
          rotate_left
          · intro w'
            go_simp
            with_reducible rfl
          rotate_left
          · simp only [Act.put, List.setIfInBounds_toArray, List.set_cons_zero, List.set_cons_succ, i64_w, i32_w]
            rfl
          refine pure_ (i := 7) (N := some 55) (v := ?_) (a' := ?_) #[true, true, true, false, false, true, false, true, false, false, false, false] rfl rfl (by kernel_rfl) (fun _ _ _ h => h) (Or.inl ⟨by rfl, ?_⟩) ?_ ?_
          rotate_left
          · intro w'
            go_simp
            with_reducible rfl
          rotate_left
          · simp only [Act.put, List.setIfInBounds_toArray, List.set_cons_zero, List.set_cons_succ, i64_w, i32_w]
            rfl
          refine pure_ (i := 8) (N := some 56) (v := ?_) (a' := ?_) #[true, true, true, false, false, true, false, true, true, false, false, false] rfl rfl (by kernel_rfl) (fun _ _ _ h => h) (Or.inl ⟨by rfl, ?_⟩) ?_ ?_
          rotate_left
          · intro w'
            go_simp
            with_reducible rfl
          rotate_left
          · simp only [Act.put, List.setIfInBounds_toArray, List.set_cons_zero, List.set_cons_succ, i64_w, i32_w]
            rfl
          refine pure_ (i := 9) (N := some 57) (v := ?_) (a' := ?_) #[true, true, true, false, false, true, false, true, true, true, false, false] rfl rfl (by kernel_rfl) (fun _ _ _ h => h) (Or.inl ⟨by rfl, ?_⟩) ?_ ?_
          rotate_left
          · intro w'
            go_simp
            with_reducible rfl
          rotate_left
          · simp only [Act.put, List.setIfInBounds_toArray, List.set_cons_zero, List.set_cons_succ, i64_w, i32_w]
            rfl
          refine take_ (i := 3) (N := some 51) (v := ?_) (a' := ?_) #[true, true, true, true, false, true, false, true, true, true, false, false] rfl rfl (by kernel_rfl) (fun _ _ _ h => h) (Or.inl ⟨by rfl, ?_⟩) hHeld ?_ ?_
          rotate_left
          · intro w' s0
            go_simp
            with_reducible rfl
          rotate_left
          · simp only [Act.put, List.setIfInBounds_toArray, List.set_cons_zero, List.set_cons_succ, i64_w, i32_w]
            rfl
          refine one_ (i := 4) (N := some 52) #[true, true, true, true, true, true, false, true, true, true, false, false] rfl rfl (by kernel_rfl) (by decide) (fun K hK => ?_)
          refine goes_ Try.func12 (by kernel_rfl) rfl #[.int .i64 (rd l0 j)] (by rfl) rfl rfl (by simp only [List.map_toArray, List.map_cons, List.map_nil]; rfl) ?_
          with_reducible refine (sector_calls (rd l0 j) w7.drew).mono ?_
          rintro e w8 ⟨A8, c8, rfl, hr, hb⟩
          refine ⟨_, rfl, ?_⟩
          have hb' : Below w7.heap.size w7 w8 := ⟨hb.os, hb.tape, hb.output, hb.size, hb.block⟩
          have B8 := Aside0.mk hb'
          have R8 := Aside0.mk (show Kd.R (Kd.int .u8) 5 w8 w7.heap.size (fun _ => True) (.slice A8 64 c8) (secI (rd l0 j)) from hr)
          have S8 := Aside0.mk (Kd.R_below RR7.out hb')
          have K2 : w8.cell? (ad.add j) = some (.int .i64 (rd l0 j)) := pw_cell_below hb' K1
          have f5 := eq_true (show (q : Int) ≤ (c8 : Int) by have := (Kd.R_reads' R8.out).2.1; have := HQ.out; omega)
          have f6 := eq_true (show q ≤ c8 by have := (Kd.R_reads' R8.out).2.1; have := HQ.out; omega)
          clear hr hb hb'
          refine hK.out _ _ (K2) (fun hHeld => ?_)
          clear hK K
          refine norm_ (a' := ?_) ?_ ?_
          rotate_left
          · show Act.put _ (some 52) _ = _
            simp only [Act.put, List.setIfInBounds_toArray, List.set_cons_zero, List.set_cons_succ, i64_w, i32_w]
            rfl
          refine pure_ (i := 6) (N := some 54) (v := ?_) (a' := ?_) #[true, true, true, true, true, true, true, true, true, true, false, false] rfl rfl (by kernel_rfl) (fun _ _ _ h => h) (Or.inl ⟨by rfl, ?_⟩) ?_ ?_
          rotate_left
          · intro w'
            go_simp
            with_reducible rfl
          rotate_left
          · simp only [Act.put, List.setIfInBounds_toArray, List.set_cons_zero, List.set_cons_succ, i64_w, i32_w]
            rfl
          refine one_ (i := 10) (N := some 58) #[true, true, true, true, true, true, true, true, true, true, true, false] rfl rfl (by kernel_rfl) (by decide) (fun K hK => ?_)
          refine Kd.R_append_rows_step (Kd.int .u8) (w0 := w7) w7.heap.size (by rfl) (.tmp 54) (.tmp 57) 26 5 (.int .u8 0) 1 ?a1 Try.underlying26 (by kernel_rfl) rfl (by decide) (by decide) (.slice A8 q c8) ((secI (rd l0 j)).take q) ((oldTo bits cut l0 N j).drop q) A9 (64 - q) (c - q) (fun _ => True) (fun _ => False) ?a2 ?a3 (Kd.R_take R8.out (by rw [secI_len]; exact HQ.out)) ?a4 (fun _ _ h => h) (fun _ h => h.elim) (fun _ _ => trivial) B8.out B8.out.size ?a5 ?_
          case a1 => rfl
          case a2 => rfl
          case a3 => rfl
          case a4 => have hh := Go.Proofs.YtkmgbmnjabmhaaaW.PrintWords.Kd.C_drop (m := q) (c := c) (Kd.R_reads' S8.out).2.2 (by rw [oldTo_len]; exact HQ.out) (by rw [oldTo_len]; exact HC64.out); rw [HA9.out]; rw [List.length_drop, oldTo_len] at hh; exact hh
          case a5 => rw [List.length_take, secI_len]; have := HQ.out; omega
          intro v1 w13 ho hb2 hg hat
          obtain ⟨A13, c13, rfl⟩ := Kd.R_slice ho
          rw [HLN.out] at ho ⊢
          refine hK.out _ _ (pw_cell_below hb2 K1) (fun hHeld => ?_)
          clear hK K
          refine norm_ (a' := ?_) ?_ ?_
          rotate_left
          · show Act.put _ (some 58) _ = _
            simp only [Act.put, List.setIfInBounds_toArray, List.set_cons_zero, List.set_cons_succ, i64_w, i32_w]
            rfl
          refine pure_ (i := 11) (N := some 8) (v := ?_) (a' := ?_) #[true, true, true, true, true, true, true, true, true, true, true, true] rfl rfl (by kernel_rfl) (fun _ _ _ h => h) (Or.inl ⟨by rfl, ?_⟩) ?_ ?_
          rotate_left
          · intro w'
            go_simp
            with_reducible rfl
          rotate_left
          · simp only [Act.put, List.setIfInBounds_toArray, List.set_cons_zero, List.set_cons_succ, i64_w, i32_w]
            rfl
          refine done_ (by kernel_rfl) ?_
          
          rw [← HON.out] at ho
          have B13 := Aside0.mk (B7.out.trans (hb2.mono B7.out.size))
          have D13 := Aside0.mk (D7.out.below hb2)
          have R13 := Aside0.mk (D7.out.fresh ho)
          clear ho hb2 hg hat D7 B7 RR7 hrun y0 K1 hHeld
          go_wp2_with fail
          go_roundw
          case rel => exact ⟨j + 1, ok7, A13, c13, by omega, by go_num, rfl, D13, R13, B13⟩
          case measure => simp [intOf]; omega
        · have dl : ((j : Int) == (N : Int) - 1) = false := by simp; omega
          have x0 := eq_true (show (1 : Int) ≤ (N : Int) by omega)
          have hca : cutAt cut N j = 64 := by unfold cutAt; rw [if_neg hl]
          rw [hca] at HON
          clear hl hca
          go_wp2_with fail
          obtain ⟨q, hq0⟩ : ∃ q : Nat, q = 64 := ⟨_, rfl⟩
          have e64 : (Value.int .i64 64) = Value.int .i64 (q : Int) := by rw [hq0]; rfl
          rw [e64]
          have hq : q ≤ 64 := by omega
          rw [← hq0] at HON
          clear hq0 e64
          have HQ := Aside0.mk hq
          have hc64 := (Kd.R_reads' RR7.out).2.1
          have HC64 := Aside0.mk hc64
          obtain ⟨i0, hi0, _, hsz0, _⟩ := info_parts info5
          have hrun := Go.Proofs.YtkmgbmnjabmhaaaW.PrintWords.cut_from (P := Try.prog) 26 5 .i64 Try.underlying26 hi0 1 hsz0 A 64 c (q : Int) (by omega) (by omega)
          rw [Int.toNat_natCast] at hrun
          obtain ⟨A9, hA9⟩ : ∃ A9, A9 = if c = q then A else A.map (·.add (q * 1)) := ⟨_, rfl⟩
          rw [← hA9] at hrun
          have HA9 := Aside0.mk hA9
          have K1 : w7.cell? (ad.add j) = some (.int .i64 (rd l0 j)) := by
            obtain ⟨ad', e, hc'⟩ := Kd.at_int (Kd.C_below HR0.out B7.out) (j : Int) (by omega) (by omega)
            cases e
            rw [Int.toNat_natCast] at hc'
            exact hc'
          have HLN := Aside0.mk (show ((secI (rd l0 j)).take q ++ (oldTo bits cut l0 N j).drop q).length = 64 by rw [List.length_append, List.length_take, List.length_drop, secI_len, oldTo_len]; omega)
          have y0 := eq_true (show (0 : Int) ≤ (q : Int) by omega)
          clear hA9 hc64 hi0 hsz0
          refine start_ (n := 12) (S := fun w' => w'.cell? (ad.add j) = some (.int .i64 (rd l0 j))) (ds := []) #[false, false, false, false, false, false, false, false, false, false, false, false] (by kernel_rfl) rfl rfl (K1) (fun hHeld => ?_)
          refine pure_ (i := 0) (N := some 48) (v := ?_) (a' := ?_) #[true, false, false, false, false, false, false, false, false, false, false, false] rfl rfl (by kernel_rfl) (fun _ _ _ h => h) (Or.inl ⟨by rfl, ?_⟩) ?_ ?_
          rotate_left
          · intro w'
            go_simp
            with_reducible rfl
          rotate_left
          · simp only [Act.put, List.setIfInBounds_toArray, List.set_cons_zero, List.set_cons_succ, i64_w, i32_w]
            rfl
          refine pure_ (i := 1) (N := some 49) (v := ?_) (a' := ?_) #[true, true, false, false, false, false, false, false, false, false, false, false] rfl rfl (by kernel_rfl) (fun _ _ _ h => h) (Or.inl ⟨by rfl, ?_⟩) ?_ ?_
          rotate_left
          · intro w'
            go_simp
            with_reducible rfl
          rotate_left
          · simp only [Act.put, List.setIfInBounds_toArray, List.set_cons_zero, List.set_cons_succ, i64_w, i32_w]
            rfl
          refine pure_ (i := 2) (N := some 50) (v := ?_) (a' := ?_) #[true, true, true, false, false, false, false, false, false, false, false, false] rfl rfl (by kernel_rfl) (fun _ _ _ h => h) (Or.inl ⟨by rfl, ?_⟩) ?_ ?_
          rotate_left
          · intro w'
            go_simp
            with_reducible rfl
          rotate_left
          · simp only [Act.put, List.setIfInBounds_toArray, List.set_cons_zero, List.set_cons_succ, i64_w, i32_w]
            rfl
          refine pure_ (i := 5) (N := some 53) (v := ?_) (a' := ?_) #[true, true, true, false, false, true, false, false, false, false, false, false] rfl rfl (by kernel_rfl) (fun _ _ _ h => h) (Or.inl ⟨by rfl, ?_⟩) ?_ ?_
          rotate_left
          · intro w'
            go_simp
            with_reducible rfl
          rotate_left
          · simp only [Act.put, List.setIfInBounds_toArray, List.set_cons_zero, List.set_cons_succ, i64_w, i32_w]
            rfl
          refine pure_ (i := 7) (N := some 55) (v := ?_) (a' := ?_) #[true, true, true, false, false, true, false, true, false, false, false, false] rfl rfl (by kernel_rfl) (fun _ _ _ h => h) (Or.inl ⟨by rfl, ?_⟩) ?_ ?_
          rotate_left
          · intro w'
            go_simp
            with_reducible rfl
          rotate_left
          · simp only [Act.put, List.setIfInBounds_toArray, List.set_cons_zero, List.set_cons_succ, i64_w, i32_w]
            rfl
          refine pure_ (i := 8) (N := some 56) (v := ?_) (a' := ?_) #[true, true, true, false, false, true, false, true, true, false, false, false] rfl rfl (by kernel_rfl) (fun _ _ _ h => h) (Or.inl ⟨by rfl, ?_⟩) ?_ ?_
          rotate_left
          · intro w'
            go_simp
            with_reducible rfl
          rotate_left
          · simp only [Act.put, List.setIfInBounds_toArray, List.set_cons_zero, List.set_cons_succ, i64_w, i32_w]
            rfl
          refine pure_ (i := 9) (N := some 57) (v := ?_) (a' := ?_) #[true, true, true, false, false, true, false, true, true, true, false, false] rfl rfl (by kernel_rfl) (fun _ _ _ h => h) (Or.inl ⟨by rfl, ?_⟩) ?_ ?_
          rotate_left
          · intro w'
            go_simp
            with_reducible rfl
          rotate_left
          · simp only [Act.put, List.setIfInBounds_toArray, List.set_cons_zero, List.set_cons_succ, i64_w, i32_w]
            rfl
          refine take_ (i := 3) (N := some 51) (v := ?_) (a' := ?_) #[true, true, true, true, false, true, false, true, true, true, false, false] rfl rfl (by kernel_rfl) (fun _ _ _ h => h) (Or.inl ⟨by rfl, ?_⟩) hHeld ?_ ?_
          rotate_left
          · intro w' s0
            go_simp
            with_reducible rfl
          rotate_left
          · simp only [Act.put, List.setIfInBounds_toArray, List.set_cons_zero, List.set_cons_succ, i64_w, i32_w]
            rfl
          refine one_ (i := 4) (N := some 52) #[true, true, true, true, true, true, false, true, true, true, false, false] rfl rfl (by kernel_rfl) (by decide) (fun K hK => ?_)
          refine goes_ Try.func12 (by kernel_rfl) rfl #[.int .i64 (rd l0 j)] (by rfl) rfl rfl (by simp only [List.map_toArray, List.map_cons, List.map_nil]; rfl) ?_
          with_reducible refine (sector_calls (rd l0 j) w7.drew).mono ?_
          rintro e w8 ⟨A8, c8, rfl, hr, hb⟩
          refine ⟨_, rfl, ?_⟩
          have hb' : Below w7.heap.size w7 w8 := ⟨hb.os, hb.tape, hb.output, hb.size, hb.block⟩
          have B8 := Aside0.mk hb'
          have R8 := Aside0.mk (show Kd.R (Kd.int .u8) 5 w8 w7.heap.size (fun _ => True) (.slice A8 64 c8) (secI (rd l0 j)) from hr)
          have S8 := Aside0.mk (Kd.R_below RR7.out hb')
          have K2 : w8.cell? (ad.add j) = some (.int .i64 (rd l0 j)) := pw_cell_below hb' K1
          have f5 := eq_true (show (q : Int) ≤ (c8 : Int) by have := (Kd.R_reads' R8.out).2.1; have := HQ.out; omega)
          have f6 := eq_true (show q ≤ c8 by have := (Kd.R_reads' R8.out).2.1; have := HQ.out; omega)
          clear hr hb hb'
          refine hK.out _ _ (K2) (fun hHeld => ?_)
          clear hK K
          refine norm_ (a' := ?_) ?_ ?_
          rotate_left
          · show Act.put _ (some 52) _ = _
            simp only [Act.put, List.setIfInBounds_toArray, List.set_cons_zero, List.set_cons_succ, i64_w, i32_w]
            rfl
          refine pure_ (i := 6) (N := some 54) (v := ?_) (a' := ?_) #[true, true, true, true, true, true, true, true, true, true, false, false] rfl rfl (by kernel_rfl) (fun _ _ _ h => h) (Or.inl ⟨by rfl, ?_⟩) ?_ ?_
          rotate_left
          · intro w'
            go_simp
            with_reducible rfl
          rotate_left
          · simp only [Act.put, List.setIfInBounds_toArray, List.set_cons_zero, List.set_cons_succ, i64_w, i32_w]
            rfl
          refine one_ (i := 10) (N := some 58) #[true, true, true, true, true, true, true, true, true, true, true, false] rfl rfl (by kernel_rfl) (by decide) (fun K hK => ?_)
          refine Kd.R_append_rows_step (Kd.int .u8) (w0 := w7) w7.heap.size (by rfl) (.tmp 54) (.tmp 57) 26 5 (.int .u8 0) 1 ?a1 Try.underlying26 (by kernel_rfl) rfl (by decide) (by decide) (.slice A8 q c8) ((secI (rd l0 j)).take q) ((oldTo bits cut l0 N j).drop q) A9 (64 - q) (c - q) (fun _ => True) (fun _ => False) ?a2 ?a3 (Kd.R_take R8.out (by rw [secI_len]; exact HQ.out)) ?a4 (fun _ _ h => h) (fun _ h => h.elim) (fun _ _ => trivial) B8.out B8.out.size ?a5 ?_
          case a1 => rfl
          case a2 => rfl
          case a3 => rfl
          case a4 => have hh := Go.Proofs.YtkmgbmnjabmhaaaW.PrintWords.Kd.C_drop (m := q) (c := c) (Kd.R_reads' S8.out).2.2 (by rw [oldTo_len]; exact HQ.out) (by rw [oldTo_len]; exact HC64.out); rw [HA9.out]; rw [List.length_drop, oldTo_len] at hh; exact hh
          case a5 => rw [List.length_take, secI_len]; have := HQ.out; omega
          intro v1 w13 ho hb2 hg hat
          obtain ⟨A13, c13, rfl⟩ := Kd.R_slice ho
          rw [HLN.out] at ho ⊢
          refine hK.out _ _ (pw_cell_below hb2 K1) (fun hHeld => ?_)
          clear hK K
          refine norm_ (a' := ?_) ?_ ?_
          rotate_left
          · show Act.put _ (some 58) _ = _
            simp only [Act.put, List.setIfInBounds_toArray, List.set_cons_zero, List.set_cons_succ, i64_w, i32_w]
            rfl
          refine pure_ (i := 11) (N := some 8) (v := ?_) (a' := ?_) #[true, true, true, true, true, true, true, true, true, true, true, true] rfl rfl (by kernel_rfl) (fun _ _ _ h => h) (Or.inl ⟨by rfl, ?_⟩) ?_ ?_
          rotate_left
          · intro w'
            go_simp
            with_reducible rfl
          rotate_left
          · simp only [Act.put, List.setIfInBounds_toArray, List.set_cons_zero, List.set_cons_succ, i64_w, i32_w]
            rfl
          refine done_ (by kernel_rfl) ?_
          
          rw [← HON.out] at ho
          have B13 := Aside0.mk (B7.out.trans (hb2.mono B7.out.size))
          have D13 := Aside0.mk (D7.out.below hb2)
          have R13 := Aside0.mk (D7.out.fresh ho)
          clear ho hb2 hg hat D7 B7 RR7 hrun y0 K1 hHeld
          go_wp2_with fail
          go_roundw
          case rel => exact ⟨j + 1, ok7, A13, c13, by omega, by go_num, rfl, D13, R13, B13⟩
          case measure => simp [intOf]; omega
    · obtain rfl : j = N := by omega
      have HRD := Aside0.mk (one_read bits cut l0 j hN3)
      have HCR := Aside0.mk (show crashF (oneS l0 j) bits cut = (0, goneS (oneS l0 j) bits cut) from crash_alive rfl bits cut)
      have HWL := Aside0.mk (show (oneS l0 j).waits.length ≤ 1000000 by rw [oneS_len l0 j hN3]; omega)
      have HOL := Aside0.mk (oldTo_len bits cut l0 j j)
      by_cases hll : j < l0.length
      · have d1 : decide ((j : Int) < (l0.length : Int)) = true := decide_eq_true (by omega)
        have d2 : decide (j < l0.length) = true := decide_eq_true (by omega)
        have d3 : decide ((j : Int) < 30) = false := decide_eq_false (by omega)
        have d4 : decide (j < 30) = false := decide_eq_false (by omega)
        clear hll hlt
        go_wp2_with fail
        ((with_reducible refine (LCrash w.heap.size wr ok g (oneS l0 j) (goneS (oneS l0 j) bits cut) 0 bits cut RD.out HWL.out HCR.out).mono ?_))
        rintro e w4 ⟨rfl, ok4, hd, hm⟩
        have B4 := Aside0.mk (RB.out.trans hm.1)
        have D4 := Aside0.mk hd
        have R4 := Aside0.mk (row_moves RR.out hm)
        clear hd hm
        go_wp2_with fail
        ((with_reducible refine (LBoot w.heap.size w4 ok4 g (goneS (oneS l0 j) bits cut) D4.out).mono ?_))
        rintro e w5 ⟨rfl, ok5, hd, hm⟩
        have B5 := Aside0.mk (B4.out.trans hm.1)
        have D5 := Aside0.mk hd
        have R5 := Aside0.mk (row_moves R4.out hm)
        clear hd hm B4 D4 R4
        go_wp2_with fail
        ((with_reducible refine (LHas w.heap.size w5 ok5 g (bootS (goneS (oneS l0 j) bits cut)) 3 A 64 c (oldTo bits cut l0 j j) D5.out R5.out HOL.out (by decide) HRD.out.1 HRD.out.2).mono ?_))
        rintro e w6 ⟨rfl, hb⟩
        have B6 := Aside0.mk (B5.out.trans (hb.mono B5.out.size))
        clear hb B5 D5 R5
        go_wp2_with fail
        ((with_reducible refine (works_calls w6).mono ?_))
        rintro e w7 ⟨rfl, hb⟩
        have B7 := Aside0.mk (B6.out.trans (hb.mono B6.out.size))
        clear hb B6
        go_wp2_with fail
        go_ret
        exact ⟨rfl, B7.out⟩
      · have d1 : decide ((j : Int) < (l0.length : Int)) = false := decide_eq_false (by omega)
        have d2 : decide (j < l0.length) = false := decide_eq_false (by omega)
        clear hll hlt
        go_wp2_with fail
        ((with_reducible refine (LCrash w.heap.size wr ok g (oneS l0 j) (goneS (oneS l0 j) bits cut) 0 bits cut RD.out HWL.out HCR.out).mono ?_))
        rintro e w4 ⟨rfl, ok4, hd, hm⟩
        have B4 := Aside0.mk (RB.out.trans hm.1)
        have D4 := Aside0.mk hd
        have R4 := Aside0.mk (row_moves RR.out hm)
        clear hd hm
        go_wp2_with fail
        ((with_reducible refine (LBoot w.heap.size w4 ok4 g (goneS (oneS l0 j) bits cut) D4.out).mono ?_))
        rintro e w5 ⟨rfl, ok5, hd, hm⟩
        have B5 := Aside0.mk (B4.out.trans hm.1)
        have D5 := Aside0.mk hd
        have R5 := Aside0.mk (row_moves R4.out hm)
        clear hd hm B4 D4 R4
        go_wp2_with fail
        ((with_reducible refine (LHas w.heap.size w5 ok5 g (bootS (goneS (oneS l0 j) bits cut)) 3 A 64 c (oldTo bits cut l0 j j) D5.out R5.out HOL.out (by decide) HRD.out.1 HRD.out.2).mono ?_))
        rintro e w6 ⟨rfl, hb⟩
        have B6 := Aside0.mk (B5.out.trans (hb.mono B5.out.size))
        clear hb B5 D5 R5
        go_wp2_with fail
        ((with_reducible refine (works_calls w6).mono ?_))
        rintro e w7 ⟨rfl, hb⟩
        have B7 := Aside0.mk (B6.out.trans (hb.mono B6.out.size))
        clear hb B6
        go_wp2_with fail
        go_ret
        exact ⟨rfl, B7.out⟩
def encorelaw03_DiskOne.f (l0 : List Int) (a1 a2 : Int) : Option Bool := if 0 ≤ a1 ∧ a1 < 18446744073709551616 then some true else none
theorem encorelaw03_DiskOne.calls (A0 : Option Addr) (c0 : Nat) (l0 : List Int) (a1 a2 : Int) (r : Bool) (w : World) (hr0 : Kd.C (Kd.int .i64) w A0 l0.length l0) (hc0 : l0.length ≤ c0) (h : encorelaw03_DiskOne.f l0 a1 a2 = some r) :
    Calls Try.prog 5 #[.slice A0 l0.length c0, .int .u64 a1, .int .i64 a2] w fun e w' => e = .returned (.bool r) ∧ Below w.heap.size w w' := by
  unfold encorelaw03_DiskOne.f at h
  split at h
  case isTrue hc =>
    obtain rfl := Option.some.inj h
    exact one_calls A0 c0 l0 a1 a2 w hr0 hc0 hc
  case isFalse => cases h
end Go.Proofs.Ytkmgbmnjabmhaaa.Ext
