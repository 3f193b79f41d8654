/- DiskFails answers true, walked with the plain law at hand: for every number. No condition. -/
import Derived.Test.YtkmgbmnjabmhaaaDPlain
namespace Go.Proofs.Ytkmgbmnjabmhaaa.Ext
open Go Go.RowKit Go.Proofs.YtkmgbmnjabmhaaaW.PrintWords Go.Proofs.YtkmgbmnjabmhaaaW.PrintLast Go.Proofs.YtkmgbmnjabmhaaaW.PrintMore Go.Proofs.Ytkmgbmnjabmhaaa.Base Go.Proofs.Ytkmgbmnjabmhaaa.Arr
set_option linter.unusedVariables false
set_option linter.unusedSimpArgs false

def wl (i : Nat) : List (Int × List Int) := (List.range i).map (fun (j : Nat) => ((j : Int) % 8, secI (j : Int)))
theorem wl_succ (i : Nat) : wl (i + 1) = wl i ++ [((i : Int) % 8, secI (i : Int))] := by unfold wl; rw [List.range_succ, List.map_append]; rfl
theorem wl_len (i : Nat) : (wl i).length = i := by unfold wl; simp
theorem wl_fits (i : Nat) : Fits 8 (wl i) := fun p hp => by
  unfold wl at hp
  obtain ⟨j, _, rfl⟩ := List.mem_map.1 hp
  exact ⟨by show (0 : Int) ≤ (j : Int) % 8; omega, by show (j : Int) % 8 < ((8 : Nat) : Int); omega, secI_len _⟩
def failsS (K i : Nat) : DS := { newS 8 with waits := wl i, plan := some ((K : Int) - i, 18446744073709551615, 64) }
theorem fails_good (K i : Nat) : Good (failsS K i) := ⟨by show (1 : Nat) ≤ 8; omega, by show (8 : Nat) ≤ 512; omega, by show (List.replicate (8 * 64) (0 : Int)).length = 8 * 64; rw [List.length_replicate], wl_fits i⟩
def gF (K : Nat) : DS := goneS (failsS K K) 18446744073709551615 64
def stF (K i : Nat) : DS := if i ≤ K then failsS K i else gF K
theorem st_go {K i : Nat} (h : i < K) : writeF (stF K i) ((i : Int) % 8) (secI (i : Int)) = (0, stF K (i + 1)) := by
  unfold stF
  rw [if_pos (by omega), if_pos (by omega)]
  have ht : thereE (failsS K i) ((i : Int) % 8) = 0 := there_alive rfl (by omega) (by show (i : Int) % 8 < ((8 : Nat) : Int); omega)
  have hd : doingF (failsS K i) = (0, { failsS K i with plan := some ((K : Int) - i - 1, 18446744073709551615, 64) }) := by
    show (if 0 < (K : Int) - i then _ else _) = _
    rw [if_pos (by omega)]
  unfold writeF
  rw [ht, hd, if_neg (fun e => e rfl), if_neg (fun e => e (secI_len _)), if_neg (fun e => e rfl)]
  unfold failsS
  simp only [wl_succ]
  rw [show (K : Int) - (i : Int) - 1 = (K : Int) - ((i + 1 : Nat) : Int) by omega]
theorem st_at (K : Nat) : writeF (stF K K) ((K : Int) % 8) (secI (K : Int)) = (30, stF K (K + 1)) := by
  unfold stF
  rw [if_pos (by omega), if_neg (by omega)]
  have ht : thereE (failsS K K) ((K : Int) % 8) = 0 := there_alive rfl (by omega) (by show (K : Int) % 8 < ((8 : Nat) : Int); omega)
  have hd : doingF (failsS K K) = (30, gF K) := by
    show (if 0 < (K : Int) - K then _ else _) = _
    rw [if_neg (by omega)]
    rfl
  unfold writeF
  rw [ht, hd, if_neg (fun e => e rfl), if_neg (fun e => e (secI_len _)), if_pos (by show (30 : Int) ≠ 0; decide)]
theorem st_past {K i : Nat} (h : K < i) : writeF (stF K i) ((i : Int) % 8) (secI (i : Int)) = (30, stF K (i + 1)) := by
  unfold stF
  rw [if_neg (by omega), if_neg (by omega)]
  have ht : thereE (gF K) ((i : Int) % 8) = 30 := by unfold thereE; exact if_pos rfl
  unfold writeF
  rw [ht, if_pos (by decide)]
theorem st_waits (K i : Nat) (hi : i ≤ 40) : (stF K i).waits.length ≤ 1000000 := by
  unfold stF
  split
  · show (wl i).length ≤ _; rw [wl_len]; omega
  · show (0 : Nat) ≤ _; omega
theorem st_dead (K i : Nat) : (stF K i).dead = decide (K < i) := by
  unfold stF
  by_cases h : i ≤ K
  · rw [if_pos h, decide_eq_false (by omega)]; rfl
  · rw [if_neg h, decide_eq_true (by omega)]; rfl
theorem fails_kept {K : Nat} : keptTo (failsS K K) 18446744073709551615 64 (failsS K K).waits.length = wl K := by
  rw [kept_all (fails_good K K) _ _ offB_max (by decide) _ (Nat.le_refl _), List.take_length]
  rfl
theorem fails_read {K : Nat} (hK : 0 < K) : thereE (bootS (gF K)) (((K : Int) - 1) % 8) = 0 ∧ readF (bootS (gF K)) (((K : Int) - 1) % 8) = secI ((K : Int) - 1) := by
  obtain ⟨k, rfl⟩ : ∃ k, K = k + 1 := ⟨K - 1, by omega⟩
  have e1 : (((k + 1 : Nat) : Int) - 1) = (k : Int) := by omega
  have e2 : ((k : Int) % 8) = ((k % 8 : Nat) : Int) := by omega
  rw [e1, e2]
  obtain ⟨h1, h2⟩ := read_gone (fails_good (k + 1) (k + 1)) 18446744073709551615 64 (j := k % 8) (by show k % 8 < 8; omega)
  refine ⟨h1, h2.trans ?_⟩
  rw [fails_kept, wl_succ, curS_snoc]
  exact if_pos e2
set_option maxHeartbeats 8000000 in
set_option maxRecDepth 100000 in
theorem fails_calls (n : Int) (w : World) : Calls Try.prog 6 #[.int .i64 n] w fun e w' => e = .returned (.bool true) ∧ Below w.heap.size w w' := by
  obtain ⟨K, hK⟩ : ∃ K : Nat, n % 31 = (K : Int) := ⟨(n % 31).toNat, by omega⟩
  have hK30 : K ≤ 30 := by omega
  have HBR := Aside0.mk (show encoreref00_Bring.f n 31 = some (K : Int) by rw [← hK]; exact bring_eq n 31 (by decide) (by decide))
  clear hK
  go_enter Try.func6, Try.ntmps6
  go_wp2_with fail
  ((with_reducible refine (made_calls w).mono ?_))
  rintro e w1 ⟨g, rfl, hb, hd⟩
  have B1 := Aside0.mk hb
  have D1 := Aside0.mk hd
  obtain ⟨ok1, hok1⟩ : ∃ ok1 : Nat → Prop, ok1 = (fun k => w.heap.size ≤ k ∧ k < w1.heap.size) := ⟨_, rfl⟩
  rw [← hok1] at D1
  clear hb hd hok1
  go_wp2_with fail
  refine (encoreref00_Bring.calls n 31 (K : Int) w1 HBR.out).mono ?_
  rintro e w2 ⟨rfl, hd⟩
  have B2 := Aside0.mk (B1.out.trans (hd.below.mono B1.out.size))
  have D2 := Aside0.mk (D1.out.below hd.below)
  clear hd B1 D1
  go_wp2_with fail
  ((with_reducible refine (LFail w.heap.size w2 ok1 g (newS 8) (K : Int) 18446744073709551615 64 D2.out rfl (by omega)).mono ?_))
  rintro e w3 ⟨rfl, ok2, hd, hm⟩
  have B3 := Aside0.mk (B2.out.trans hm.1)
  have D3 := Aside0.mk (show DL w.heap.size w3 ok2 g (stF K 0) by
    have e : (stF K 0) = { newS 8 with plan := failP (K : Int) 18446744073709551615 64 } := by
      unfold stF failP
      rw [if_pos (by omega), if_neg (by omega)]
      unfold failsS
      simp [wl]
      rfl
    rw [e]; exact hd)
  clear hd hm B2 D2
  go_wp2_with fail
  go_loopw [5] (fun i wr => ∃ (j : Nat) (ok : Nat → Prop), j ≤ 40 ∧ i = .int .i64 (j : Nat) ∧ Aside0 (DL w.heap.size wr ok g (stF K j)) ∧ Aside0 (Below w.heap.size w wr)) (fun i _ => 40 - (intOf i).toNat)
  case atStart => exact ⟨0, ok2, by omega, rfl, D3, B3⟩
  case round =>
    clear D3 B3
    obtain ⟨j, ok, hj, rfl, RD, RB⟩ := hrel
    by_cases hlt : j < 40
    · have d0 : decide ((j : Int) < 40) = true := decide_eq_true (by omega)
      go_wp2_with fail
      ((with_reducible refine (sector_calls (j : Int) wr).mono ?_))
      rintro e w4 ⟨A, c, rfl, hr, hb⟩
      have B4 := Aside0.mk (RB.out.trans (hb.mono RB.out.size))
      have D4 := Aside0.mk (RD.out.below hb)
      have R4 := Aside0.mk (RD.out.fresh hr)
      clear hr hb RB RD
      obtain ⟨r, hr, hw⟩ : ∃ r, ((r = 0 ∧ j < K) ∨ (r = 30 ∧ K ≤ j)) ∧ writeF (stF K j) ((j : Int) % 8) (secI (j : Int)) = (r, stF K (j + 1)) := by
        by_cases h1 : j < K
        · exact ⟨0, .inl ⟨rfl, h1⟩, st_go h1⟩
        · by_cases h2 : j = K
          · subst h2; exact ⟨30, .inr ⟨rfl, Nat.le_refl _⟩, st_at j⟩
          · exact ⟨30, .inr ⟨rfl, by omega⟩, st_past (by omega)⟩
      have HWR := Aside0.mk hw
      have hsd := st_dead K (j + 1)
      clear hw
      go_wp2_with fail
      ((with_reducible refine (LWrite w.heap.size w4 ok g (stF K j) (stF K (j + 1)) r (j : Int) ((j : Int) % 8) A c D4.out (st_waits K j (by omega)) R4.out HWR.out).mono ?_))
      rintro e w5 ⟨rfl, ok5, hd, hm⟩
      have B5 := Aside0.mk (B4.out.trans hm.1)
      have D5 := Aside0.mk hd
      clear hd hm B4 D4 R4
      rcases hr with ⟨rfl, hjk⟩ | ⟨rfl, hjk⟩
      · have e1 : (stF K (j + 1)).dead = false := by rw [hsd]; exact decide_eq_false (by omega)
        have HDE := Aside0.mk e1
        have d1 : decide ((j : Int) < (K : Int)) = true := decide_eq_true (by omega)
        have d2 : decide (j < K) = true := decide_eq_true hjk
        have d3 : decide ((K : Int) ≤ (j : Int)) = false := decide_eq_false (by omega)
        have d4 : decide (K ≤ j) = false := decide_eq_false (by omega)
        clear hsd e1
        go_wp2_with fail
        ((with_reducible refine (LDead w.heap.size w5 ok5 g (stF K (j + 1)) D5.out).mono ?_))
        rintro e w6 ⟨rfl, rfl⟩
        rw [HDE.out]
        go_wp2_with fail
        go_roundw
        case rel => exact ⟨j + 1, ok5, by omega, by go_num, D5, B5⟩
        case measure => simp [intOf]; omega
      · have e1 : (stF K (j + 1)).dead = true := by rw [hsd]; exact decide_eq_true (by omega)
        have HDE := Aside0.mk e1
        have d1 : decide ((j : Int) < (K : Int)) = false := decide_eq_false (by omega)
        have d2 : decide (j < K) = false := decide_eq_false (by omega)
        have d3 : decide ((K : Int) ≤ (j : Int)) = true := decide_eq_true (by omega)
        have d4 : decide (K ≤ j) = true := decide_eq_true (by omega)
        clear hsd e1
        go_wp2_with fail
        ((with_reducible refine (LDead w.heap.size w5 ok5 g (stF K (j + 1)) D5.out).mono ?_))
        rintro e w6 ⟨rfl, rfl⟩
        rw [HDE.out]
        go_wp2_with fail
        go_roundw
        case rel => exact ⟨j + 1, ok5, by omega, by go_num, D5, B5⟩
        case measure => simp [intOf]; omega
    · obtain rfl : j = 40 := by omega
      have e40 : stF K 40 = gF K := if_neg (by omega)
      have HG0 := Aside0.mk (show (gF K).waits.length ≤ 1000000 ∧ flushF (gF K) = (30, gF K) from ⟨by show (0 : Nat) ≤ 1000000; omega, if_pos rfl⟩)
      rw [e40] at RD
      clear e40 hj hlt
      go_wp2_with fail
      ((with_reducible refine (LRead w.heap.size wr ok g (gF K) 0 RD.out).mono ?_))
      rintro e w4 ⟨v, rfl, h1, h2⟩
      have ht : thereE (gF K) 0 = 30 := if_pos rfl
      rw [ht]
      obtain ⟨A, c, rfl⟩ := Kd.R_slice h1
      have B4 := Aside0.mk (RB.out.trans (h2.mono RB.out.size))
      have D4 := Aside0.mk (RD.out.below h2)
      clear h1 h2 ht RB RD
      generalize (readF (gF K) 0).length = q
      go_wp2_with fail
      ((with_reducible refine (LFlush w.heap.size w4 ok g (gF K) (gF K) 30 D4.out HG0.out.1 HG0.out.2).mono ?_))
      rintro e w5 ⟨rfl, ok5, hd, hm⟩
      have B5 := Aside0.mk (B4.out.trans hm.1)
      have D5 := Aside0.mk hd
      clear hd hm B4 D4
      go_wp2_with fail
      ((with_reducible refine (LBoot w.heap.size w5 ok5 g (gF K) D5.out).mono ?_))
      rintro e w6 ⟨rfl, ok6, hd, hm⟩
      have B6 := Aside0.mk (B5.out.trans hm.1)
      have D6 := Aside0.mk hd
      clear hd hm B5 D5
      go_wp2_with fail
      ((with_reducible refine (LDead w.heap.size w6 ok6 g (bootS (gF K)) D6.out).mono ?_))
      rintro e w7 ⟨rfl, rfl⟩
      rw [show (bootS (gF K)).dead = false from rfl]
      go_wp2_with fail
      ((with_reducible refine (LWaits w.heap.size w6 ok6 g (bootS (gF K)) D6.out).mono ?_))
      rintro e w7 ⟨rfl, rfl⟩
      rw [show (((bootS (gF K)).waits.length : Nat) : Int) = 0 from rfl]
      by_cases h0 : K = 0
      · subst h0
        go_wp2_with fail
        ((with_reducible refine (works_calls w6).mono ?_))
        rintro e w8 ⟨rfl, hb⟩
        have B8 := Aside0.mk (B6.out.trans (hb.mono B6.out.size))
        clear hb
        go_wp2_with fail
        go_ret
        exact ⟨rfl, B8.out⟩
      · have d0 : ((K : Int) == 0) = false := by simp; exact h0
        have d1 : (K == 0) = false := by simp; exact h0
        have x0 := eq_true (show (1 : Int) ≤ (K : Int) by omega)
        have x1 := eq_true (show (0 : Int) ≤ (K : Int) - 1 by omega)
        have hmod : ((K : Int) - 1).tmod 8 = ((K : Int) - 1) % 8 := Int.tmod_eq_emod_of_nonneg (by omega)
        have HRD := Aside0.mk (fails_read (K := K) (by omega))
        clear h0
        go_wp2_with fail
        ((with_reducible refine (sector_calls ((K : Int) - 1) w6).mono ?_))
        rintro e w7 ⟨A7, c7, rfl, hr, hb⟩
        have B7 := Aside0.mk (B6.out.trans (hb.mono B6.out.size))
        have D7 := Aside0.mk (D6.out.below hb)
        have R7 := Aside0.mk (D6.out.fresh hr)
        clear hr hb B6 D6
        go_wp2_with fail
        ((with_reducible refine (LHas w.heap.size w7 ok6 g (bootS (gF K)) (((K : Int) - 1) % 8) A7 64 c7 (secI ((K : Int) - 1)) D7.out R7.out (secI_len _) (by decide) HRD.out.1 HRD.out.2).mono ?_))
        rintro e w8 ⟨rfl, hb⟩
        have B8 := Aside0.mk (B7.out.trans (hb.mono B7.out.size))
        clear hb
        go_wp2_with fail
        ((with_reducible refine (works_calls w8).mono ?_))
        rintro e w9 ⟨rfl, hb⟩
        have B9 := Aside0.mk (B8.out.trans (hb.mono B8.out.size))
        clear hb
        go_wp2_with fail
        go_ret
        exact ⟨rfl, B9.out⟩
def encorelaw03_DiskFails.f (a0 : Int) : Option Bool := some true
theorem encorelaw03_DiskFails.calls (a0 : Int) (r : Bool) (w : World) (h : encorelaw03_DiskFails.f a0 = some r) :
    Calls Try.prog 6 #[.int .i64 a0] w fun e w' => e = .returned (.bool r) ∧ Below w.heap.size w w' := by
  obtain rfl := Option.some.inj h
  exact fails_calls a0 w
end Go.Proofs.Ytkmgbmnjabmhaaa.Ext
