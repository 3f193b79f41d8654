/- Flush, Read of the document's disk, walked. Condition: a million writes wait at most. -/
import Derived.Test.YtkmgbmnjabmhaaaRefB
namespace Go.Proofs.Ytkmgbmnjabmhaaa.Ext
open Go Go.RowKit Go.Proofs.YtkmgbmnjabmhaaaW.PrintWords Go.Proofs.YtkmgbmnjabmhaaaW.PrintLast Go.Proofs.YtkmgbmnjabmhaaaW.PrintMore Go.Proofs.Ytkmgbmnjabmhaaa.Base Go.Proofs.Ytkmgbmnjabmhaaa.Arr
set_option linter.unusedVariables false
set_option linter.unusedSimpArgs false

theorem lay_take {L : List (Int × List Int)} {f : List Int} {j a : Nat} {sec : List Int} (h : L[j]? = some ((a : Int), sec)) : lay f (L.take (j + 1)) = putSec (lay f (L.take j)) a sec := by
  obtain ⟨hj, e⟩ := List.getElem?_eq_some_iff.1 h
  rw [List.take_succ_eq_append_getElem hj, e, lay_snoc]
  rfl
set_option maxHeartbeats 8000000 in
set_option maxRecDepth 100000 in
theorem RFlush_calls (w : World) (base : Nat) (ok : Nat → Prop) (g : Nat) (s : DS) (h : RefIs w base ok g s) (hbw : base ≤ w.heap.size) (hw : s.waits.length ≤ 1000000) :
    Calls Try.prog 37 #[.pointer (some ⟨g, 0, none⟩)] w fun e w' => e = .returned (.int .i64 (flushF s).1) ∧ RefTo w w' base ok g (flushF s).2 := by
  have HR := Aside0.mk h
  obtain ⟨gs, vw, fl, l, b, c, h1, h2, h4, h5, o, hb, hG⟩ := h
  have k2 := h1.cell (j := 2) (v := .bool s.dead) rfl
  have HW := Aside0.mk hw
  have HBW := Aside0.mk hbw
  clear h1 h2 h4 h5 o hb hG hbw
  clear gs vw fl l b c
  cases hd : s.dead with
  | true =>
    have HE := Aside0.mk (show flushF s = (30, s) from if_pos hd)
    rw [hd] at k2
    clear hd
    go_enter Try.func37, Try.ntmps37
    go_wp2_with fail
    go_ret
    exact ⟨by rw [HE.out] <;> rfl, by rw [HE.out]; exact RefTo.same HR.out⟩
  | false =>
    rw [hd] at k2
    rcases doing_cases s with h0 | h30
    · have HE := Aside0.mk (show flushF s = (0, { (doingF s).2 with stays := lay (doingF s).2.stays (doingF s).2.waits, waits := [] }) by unfold flushF; rw [if_neg (by rw [hd]; decide), if_pos h0])
      have HFB := Aside0.mk (show failsB s = false by unfold failsB; rw [h0]; rfl)
      have H0 := Aside0.mk h0
      clear hd h0
      go_enter Try.func37, Try.ntmps37
      go_wp2_with fail
      ((with_reducible refine (Rfails_calls w base ok g s HR.out HBW.out HW.out).mono ?_))
      rintro e w1 ⟨rfl, hto⟩
      rw [HFB.out]
      obtain ⟨t1, t2, ok1, t3, t4⟩ := hto
      obtain ⟨d, hd⟩ : ∃ d, d = (doingF s).2 := ⟨_, rfl⟩
      rw [← hd] at t4
      have HD := Aside0.mk hd
      have hw1 : d.waits.length ≤ 1000000 := by rw [hd, (doing_waits s H0.out).1]; exact hw
      obtain ⟨gs, vw, fl, l, b, c, h1, h2, h4, h5, o, hb, hG⟩ := t4
      obtain ⟨A, q, rfl⟩ := Kd.R_slice h4
      have HG := Aside0.mk hG
      have HO := Aside0.mk o
      have HB := Aside0.mk hb
      have H5 := Aside0.mk h5
      have HT1 := Aside0.mk (And.intro t1 (And.intro t2 t3))
      have P1 := Aside0.mk h1
      have P2 := Aside0.mk (show HoldsRow w1 gs 67 (rowK .u8 (lay d.stays (d.waits.take 0))) from h2)
      have P4 := Aside0.mk h4
      have PB := Aside0.mk (And.intro (Below.refl base w1) (Kept.refl w1 ok1))
      clear h1 h2 h4 h5 o hb hG t1 t2 t3 k2 hd hw
      go_wp2_with fail
      go_loopw [3] (fun i wr => ∃ j : Nat, j ≤ d.waits.length ∧ i = .int .i64 (j : Nat) ∧ Aside0 (HoldsRow wr g 80 (rcells gs d.n (.slice A d.waits.length q) d.dead fl l b c)) ∧ Aside0 (HoldsRow wr gs 67 (rowK .u8 (lay d.stays (d.waits.take j)))) ∧ Aside0 (Kd.R wrK 85 wr base ok1 (.slice A d.waits.length q) d.waits) ∧ Aside0 (Below base w1 wr ∧ Kept w1 wr ok1)) (fun i _ => d.waits.length - (intOf i).toNat)
      case atStart => exact ⟨0, by omega, rfl, P1, P2, P4, PB⟩
      case round =>
        clear P1 P2 P4 PB
        obtain ⟨j, hj, rfl, P1, P2, P4, PB⟩ := hrel
        have k1 := P1.out.cell (j := 1) (v := .slice A d.waits.length q) rfl
        by_cases hlt : j < d.waits.length
        · have d1 : decide ((j : Int) < (d.waits.length : Int)) = true := decide_eq_true (by omega)
          have d2 : decide (j < d.waits.length) = true := decide_eq_true hlt
          obtain ⟨gl, ai, sec, rfl, hge, hai, h64, K2, hrg⟩ := wr2_elem P4.out (n := d.n) HG.out.2.2.2 j hlt
          have HGE := Aside0.mk hge
          have H64 := Aside0.mk h64
          have K0 := P1.out.cell (j := 0) (v := .slice (some ⟨gs, 0, none⟩) d.n d.n) rfl
          have K3 := hrg
          have x0 := eq_true (show (0 : Int) ≤ (j : Int) by omega)
          have x1 := eq_true (show (j : Int) < (d.waits.length : Int) by omega)
          have x4 := eq_true (show (0 : Int) ≤ (ai : Int) by omega)
          have x5 := eq_true (show (ai : Int) < (d.n : Int) by omega)
          have HSL := Aside0.mk (lay_len HG.out.2.2.1 (d.waits.take j) (fun p hp => HG.out.2.2.2 p (List.mem_of_mem_take hp)))
          have HTH := Aside0.mk (show wr.drew.there gs (ai * 64) (rowK .u8 sec).size from there_row (W := wr.drew) P2.out _ _ (by rw [rowK_size, rowK_size, HSL.out, H64.out]; omega))
          clear hge h64 hrg
          go_wp2_with fail
          refine start_ (n := 22) (S := fun w' => w'.cell? ⟨g, 0, none⟩ = some (.slice (some ⟨gs, 0, none⟩) d.n d.n) ∧ w'.cell? ⟨g, 1, none⟩ = some (.slice (some ⟨gl, 0, none⟩) d.waits.length q) ∧ w'.cell? ⟨gl, j * 65, none⟩ = some (.int .i64 (ai : Nat)) ∧ w'.rangeAt gl (j * 65 + 1) (nums .u8 sec)) (ds := [21]) #[false, false, false, false, false, false, false, false, false, false, false, false, false, false, false, false, false, false, false, false, false, false] (by kernel_rfl) rfl rfl ⟨K0, k1, K2, K3⟩ (fun hHeld => ?_)
          refine pure_ (i := 0) (N := some 21) (v := ?_) (a' := ?_) #[true, false, false, false, false, false, false, false, false, false, false, false, false, false, false, false, false, false, false, false, false, false] rfl rfl (by kernel_rfl) (fun _ _ _ h => h) (Or.inl ⟨by rfl, ?_⟩) ?_ ?_
          rotate_left
          · intro w'
            go_simp
            with_reducible rfl
          rotate_left
          · simp only [Act.put, List.setIfInBounds_toArray, List.set_cons_zero, List.set_cons_succ, i64_w, i32_w]
            rfl
          refine pure_ (i := 1) (N := some 22) (v := ?_) (a' := ?_) #[true, true, false, false, false, false, false, false, false, false, false, false, false, false, false, false, false, false, false, false, false, false] rfl rfl (by kernel_rfl) (fun _ _ _ h => h) (Or.inl ⟨by rfl, ?_⟩) ?_ ?_
          rotate_left
          · intro w'
            go_simp
            with_reducible rfl
          rotate_left
          · simp only [Act.put, List.setIfInBounds_toArray, List.set_cons_zero, List.set_cons_succ, i64_w, i32_w]
            rfl
          refine pure_ (i := 2) (N := some 23) (v := ?_) (a' := ?_) #[true, true, true, false, false, false, false, false, false, false, false, false, false, false, false, false, false, false, false, false, false, false] rfl rfl (by kernel_rfl) (fun _ _ _ h => h) (Or.inl ⟨by rfl, ?_⟩) ?_ ?_
          rotate_left
          · intro w'
            go_simp
            with_reducible rfl
          rotate_left
          · simp only [Act.put, List.setIfInBounds_toArray, List.set_cons_zero, List.set_cons_succ, i64_w, i32_w]
            rfl
          refine pure_ (i := 4) (N := some 25) (v := ?_) (a' := ?_) #[true, true, true, false, true, false, false, false, false, false, false, false, false, false, false, false, false, false, false, false, false, false] rfl rfl (by kernel_rfl) (fun _ _ _ h => h) (Or.inl ⟨by rfl, ?_⟩) ?_ ?_
          rotate_left
          · intro w'
            go_simp
            with_reducible rfl
          rotate_left
          · simp only [Act.put, List.setIfInBounds_toArray, List.set_cons_zero, List.set_cons_succ, i64_w, i32_w]
            rfl
          refine pure_ (i := 5) (N := some 26) (v := ?_) (a' := ?_) #[true, true, true, false, true, true, false, false, false, false, false, false, false, false, false, false, false, false, false, false, false, false] rfl rfl (by kernel_rfl) (fun _ _ _ h => h) (Or.inl ⟨by rfl, ?_⟩) ?_ ?_
          rotate_left
          · intro w'
            go_simp
            with_reducible rfl
          rotate_left
          · simp only [Act.put, List.setIfInBounds_toArray, List.set_cons_zero, List.set_cons_succ, i64_w, i32_w]
            rfl
          refine pure_ (i := 6) (N := some 27) (v := ?_) (a' := ?_) #[true, true, true, false, true, true, true, false, false, false, false, false, false, false, false, false, false, false, false, false, false, false] rfl rfl (by kernel_rfl) (fun _ _ _ h => h) (Or.inl ⟨by rfl, ?_⟩) ?_ ?_
          rotate_left
          · intro w'
            go_simp
            with_reducible rfl
          rotate_left
          · simp only [Act.put, List.setIfInBounds_toArray, List.set_cons_zero, List.set_cons_succ, i64_w, i32_w]
            rfl
          refine pure_ (i := 8) (N := some 29) (v := ?_) (a' := ?_) #[true, true, true, false, true, true, true, false, true, false, false, false, false, false, false, false, false, false, false, false, false, false] rfl rfl (by kernel_rfl) (fun _ _ _ h => h) (Or.inl ⟨by rfl, ?_⟩) ?_ ?_
          rotate_left
          · intro w'
            go_simp
            with_reducible rfl
          rotate_left
          · simp only [Act.put, List.setIfInBounds_toArray, List.set_cons_zero, List.set_cons_succ, i64_w, i32_w]
            rfl
          refine pure_ (i := 12) (N := some 33) (v := ?_) (a' := ?_) #[true, true, true, false, true, true, true, false, true, false, false, false, true, false, false, false, false, false, false, false, false, false] rfl rfl (by kernel_rfl) (fun _ _ _ h => h) (Or.inl ⟨by rfl, ?_⟩) ?_ ?_
          rotate_left
          · intro w'
            go_simp
            with_reducible rfl
          rotate_left
          · simp only [Act.put, List.setIfInBounds_toArray, List.set_cons_zero, List.set_cons_succ, i64_w, i32_w]
            rfl
          refine pure_ (i := 13) (N := some 34) (v := ?_) (a' := ?_) #[true, true, true, false, true, true, true, false, true, false, false, false, true, true, false, false, false, false, false, false, false, false] rfl rfl (by kernel_rfl) (fun _ _ _ h => h) (Or.inl ⟨by rfl, ?_⟩) ?_ ?_
          rotate_left
          · intro w'
            go_simp
            with_reducible rfl
          rotate_left
          · simp only [Act.put, List.setIfInBounds_toArray, List.set_cons_zero, List.set_cons_succ, i64_w, i32_w]
            rfl
          refine pure_ (i := 14) (N := some 35) (v := ?_) (a' := ?_) #[true, true, true, false, true, true, true, false, true, false, false, false, true, true, true, false, false, false, false, false, false, false] rfl rfl (by kernel_rfl) (fun _ _ _ h => h) (Or.inl ⟨by rfl, ?_⟩) ?_ ?_
          rotate_left
          · intro w'
            go_simp
            with_reducible rfl
          rotate_left
          · simp only [Act.put, List.setIfInBounds_toArray, List.set_cons_zero, List.set_cons_succ, i64_w, i32_w]
            rfl
          refine pure_ (i := 16) (N := some 37) (v := ?_) (a' := ?_) #[true, true, true, false, true, true, true, false, true, false, false, false, true, true, true, false, true, false, false, false, false, false] rfl rfl (by kernel_rfl) (fun _ _ _ h => h) (Or.inl ⟨by rfl, ?_⟩) ?_ ?_
          rotate_left
          · intro w'
            go_simp
            with_reducible rfl
          rotate_left
          · simp only [Act.put, List.setIfInBounds_toArray, List.set_cons_zero, List.set_cons_succ, i64_w, i32_w]
            rfl
          refine take_ (i := 3) (N := some 24) (v := ?_) (a' := ?_) #[true, true, true, true, true, true, true, false, true, false, false, false, true, true, true, false, true, false, false, false, false, false] rfl rfl (by kernel_rfl) (fun _ _ _ h => h) (Or.inl ⟨by rfl, ?_⟩) hHeld ?_ ?_
          rotate_left
          · rintro w' ⟨s0, s1, s2, s3⟩
            go_simp
            with_reducible rfl
          rotate_left
          · simp only [Act.put, List.setIfInBounds_toArray, List.set_cons_zero, List.set_cons_succ, i64_w, i32_w]
            rfl
          refine take_ (i := 7) (N := some 28) (v := ?_) (a' := ?_) #[true, true, true, true, true, true, true, true, true, false, false, false, true, true, true, false, true, false, false, false, false, false] rfl rfl (by kernel_rfl) (fun _ _ _ h => h) (Or.inl ⟨by rfl, ?_⟩) hHeld ?_ ?_
          rotate_left
          · rintro w' ⟨s0, s1, s2, s3⟩
            go_simp
            with_reducible rfl
          rotate_left
          · simp only [Act.put, List.setIfInBounds_toArray, List.set_cons_zero, List.set_cons_succ, i64_w, i32_w]
            rfl
          refine pure_ (i := 9) (N := some 30) (v := ?_) (a' := ?_) #[true, true, true, true, true, true, true, true, true, true, false, false, true, true, true, false, true, false, false, false, false, false] rfl rfl (by kernel_rfl) (fun _ _ _ h => h) (Or.inl ⟨by rfl, ?_⟩) ?_ ?_
          rotate_left
          · intro w'
            go_simp
            with_reducible rfl
          rotate_left
          · simp only [Act.put, List.setIfInBounds_toArray, List.set_cons_zero, List.set_cons_succ, i64_w, i32_w]
            rfl
          refine pure_ (i := 10) (N := some 31) (v := ?_) (a' := ?_) #[true, true, true, true, true, true, true, true, true, true, true, false, true, true, true, false, true, false, false, false, false, false] rfl rfl (by kernel_rfl) (fun _ _ _ h => h) (Or.inl ⟨by rfl, ?_⟩) ?_ ?_
          rotate_left
          · intro w'
            go_simp
            with_reducible rfl
          rotate_left
          · simp only [Act.put, List.setIfInBounds_toArray, List.set_cons_zero, List.set_cons_succ, i64_w, i32_w]
            rfl
          refine take_ (i := 11) (N := some 32) (v := ?_) (a' := ?_) #[true, true, true, true, true, true, true, true, true, true, true, true, true, true, true, false, true, false, false, false, false, false] rfl rfl (by kernel_rfl) (fun _ _ _ h => h) (Or.inl ⟨by rfl, ?_⟩) hHeld ?_ ?_
          rotate_left
          · rintro w' ⟨s0, s1, s2, s3⟩
            go_simp
            with_reducible rfl
          rotate_left
          · simp only [Act.put, List.setIfInBounds_toArray, List.set_cons_zero, List.set_cons_succ, i64_w, i32_w]
            rfl
          refine take_ (i := 15) (N := some 36) (v := ?_) (a' := ?_) #[true, true, true, true, true, true, true, true, true, true, true, true, true, true, true, true, true, false, false, false, false, false] rfl rfl (by kernel_rfl) (fun _ _ _ h => h) (Or.inl ⟨by rfl, ?_⟩) hHeld ?_ ?_
          rotate_left
          · rintro w' ⟨s0, s1, s2, s3⟩
            go_simp
            with_reducible rfl
          rotate_left
          · simp only [Act.put, List.setIfInBounds_toArray, List.set_cons_zero, List.set_cons_succ, i64_w, i32_w]
            rfl
          refine pure_ (i := 17) (N := some 38) (v := ?_) (a' := ?_) #[true, true, true, true, true, true, true, true, true, true, true, true, true, true, true, true, true, true, false, false, false, false] rfl rfl (by kernel_rfl) (fun _ _ _ h => h) (Or.inl ⟨by rfl, ?_⟩) ?_ ?_
          rotate_left
          · intro w'
            go_simp
            with_reducible rfl
          rotate_left
          · simp only [Act.put, List.setIfInBounds_toArray, List.set_cons_zero, List.set_cons_succ, i64_w, i32_w]
            rfl
          refine pure_ (i := 18) (N := some 39) (v := ?_) (a' := ?_) #[true, true, true, true, true, true, true, true, true, true, true, true, true, true, true, true, true, true, true, false, false, false] rfl rfl (by kernel_rfl) (fun _ _ _ h => h) (Or.inl ⟨by rfl, ?_⟩) ?_ ?_
          rotate_left
          · intro w'
            go_simp
            with_reducible rfl
          rotate_left
          · simp only [Act.put, List.setIfInBounds_toArray, List.set_cons_zero, List.set_cons_succ, i64_w, i32_w]
            rfl
          refine take_ (i := 19) (N := some 40) (v := ?_) (a' := ?_) #[true, true, true, true, true, true, true, true, true, true, true, true, true, true, true, true, true, true, true, true, false, false] rfl rfl (by kernel_rfl) (fun _ _ _ h => h) (Or.inl ⟨by rfl, ?_⟩) hHeld ?_ ?_
          rotate_left
          · rintro w' ⟨s0, s1, s2, s3⟩
            refine exec_load_mid 67 (.tmp 39) ?_ gl (j * 65 + 1) ?_ (nums .u8 sec) _ s3 Try.underlying67 rfl (by rw [nums_length, H64.out]; kernel_rfl)
            · rfl
            · rfl
          rotate_left
          · simp only [Act.put, List.setIfInBounds_toArray, List.set_cons_zero, List.set_cons_succ, i64_w, i32_w]
            rfl
          refine pure_ (i := 20) (N := some 41) (v := ?_) (a' := ?_) #[true, true, true, true, true, true, true, true, true, true, true, true, true, true, true, true, true, true, true, true, true, false] rfl rfl (by kernel_rfl) (fun _ _ _ h => h) (Or.inl ⟨by rfl, ?_⟩) ?_ ?_
          rotate_left
          · intro w'
            go_simp
            with_reducible rfl
          rotate_left
          · simp only [Act.put, List.setIfInBounds_toArray, List.set_cons_zero, List.set_cons_succ, i64_w, i32_w]
            rfl
          refine last_ (i := 21) (N := none) #[true, true, true, true, true, true, true, true, true, true, true, true, true, true, true, true, true, true, true, true, true, true] rfl rfl (by kernel_rfl) (by decide) (fun K hK => ?_)
          refine skip_ (w1 := wr.drew.setCells gs (ai * 64) (rowK .u8 sec).toList) (by rfl) rfl ?_ ?_
          · refine exec_store_mid 67 (.tmp 41) (.tmp 40) ?_ gs (ai * 64) (rowK .u8 sec) ?_ ?_ HTH.out (by rw [rowK_size, H64.out]; kernel_rfl) (rowK_one _ _)
            · rfl
            · rfl
            · rfl
          refine hK.out _ _ ?_
          clear hK K
          refine done_ (by kernel_rfl) ?_
          
          have hf : ∀ k, k ≠ gs → (wr.drew.setCells gs (ai * 64) (rowK .u8 sec).toList).heap[k]? = wr.heap[k]? := sets_all_far
          have T1 := Aside0.mk (hr_move P1.out (hf g (ne_kind P1.out P2.out (by decide))))
          have T2 := Aside0.mk (show HoldsRow (wr.drew.setCells gs (ai * 64) (rowK .u8 sec).toList) gs 67 (rowK .u8 (lay d.stays (d.waits.take (j + 1)))) by
            rw [lay_take HGE.out]
            exact sec_set (W := wr.drew) P2.out HSL.out hai H64.out)
          have T4 := Aside0.mk (wr2_move P4.out P2.out (by decide) hf)
          have TB := Aside0.mk (And.intro (sets_below (q := ai * 64) (below_drew' PB.out.1) HB.out.2 (rowK .u8 sec).toList) (sets_kept (q := ai * 64) (Kept.drew PB.out.2) (.inl HO.out.2) (rowK .u8 sec).toList))
          clear hf K0 k1 K2 K3 x0 x1 x4 x5 hHeld P1 P2 P4 PB HSL HTH
          go_wp2_with fail
          go_roundw
          case rel => exact ⟨j + 1, by omega, by go_num, T1, T2, T4, TB⟩
          case measure => simp [intOf]; omega
        · obtain rfl : j = d.waits.length := by omega
          have d1 : decide ((d.waits.length : Int) < (d.waits.length : Int)) = false := decide_eq_false (by omega)
          have d2 : decide (d.waits.length < d.waits.length) = false := decide_eq_false (by omega)
          have z1 := P1.out.free 1
          rw [List.take_length] at P2
          have HF := Aside0.mk (show RefTo w (wr.setCell ⟨g, 1, none⟩ (.slice none 0 0)) base ok g { d with stays := lay d.stays d.waits, waits := [] } from by
            have hf : ∀ k, k ≠ g → (wr.setCell ⟨g, 1, none⟩ (.slice none 0 0)).heap[k]? = wr.heap[k]? := fun k hk => Below.heap_setCell wr ⟨g, 1, none⟩ _ k hk
            refine RefTo.trans HT1.out.1 HT1.out.2.1 (fun k hk => (HT1.out.2.2 k hk).1) (RefTo.trans PB.out.1 PB.out.2 (fun k hk => .inl hk) (RefTo.trans ((Below.refl base wr).setCell (show base ≤ (⟨g, 1, none⟩ : Addr).block from HB.out.1) _) ⟨by simp [World.setCell], fun k _ hk => hf k (fun e => hk (by rw [e]; exact HO.out.1))⟩ (fun k hk => .inl hk) (RefTo.same ⟨gs, .slice none 0 0, fl, l, b, c, P1.out.set 1 (.slice none 0 0), hr_move P2.out (hf gs (ne_kind P2.out P1.out (by decide))), Kd.R_nil _ _ _ _ _, H5.out, HO.out, HB.out, HG.out.1, HG.out.2.1, lay_len HG.out.2.2.1 _ HG.out.2.2.2, fun p hp => by have : p ∈ ([] : List (Int × List Int)) := hp; cases this⟩))))
          clear P1 P2 P4 PB
          go_wp2_with fail
          go_ret
          exact ⟨by rw [HE.out] <;> rfl, by rw [HE.out, ← HD.out]; exact HF.out⟩
    · have HE := Aside0.mk (show flushF s = doingF s by unfold flushF; rw [if_neg (by rw [hd]; decide), if_neg (by rw [h30]; decide)])
      have HFB := Aside0.mk (show failsB s = true by unfold failsB; rw [h30]; rfl)
      have H30 := Aside0.mk h30
      clear hd h30
      go_enter Try.func37, Try.ntmps37
      go_wp2_with fail
      ((with_reducible refine (Rfails_calls w base ok g s HR.out HBW.out HW.out).mono ?_))
      rintro e w1 ⟨rfl, hto⟩
      rw [HFB.out]
      have HTO := Aside0.mk hto
      clear hto k2
      go_wp2_with fail
      go_ret
      exact ⟨by rw [HE.out, H30.out] <;> rfl, by rw [HE.out]; exact HTO.out⟩
def RReadPost (s : DS) (at_ : Int) (w : World) (e : Ending) (w' : World) : Prop :=
  ∃ v, e = .returned (.tuple #[v, .int .i64 (thereE s at_)]) ∧ Kd.R (Kd.int .u8) 5 w' w.heap.size (fun _ => True) v (readF s at_) ∧ Below w.heap.size w w'
set_option maxHeartbeats 8000000 in
set_option maxRecDepth 100000 in
theorem RRead_calls (w : World) (base : Nat) (ok : Nat → Prop) (g : Nat) (s : DS) (h : RefIs w base ok g s) (hw : s.waits.length ≤ 1000000) (at_ : Int) :
    Calls Try.prog 41 #[.pointer (some ⟨g, 0, none⟩), .int .i64 at_] w (RReadPost s at_ w) := by
  obtain ⟨gs, vw, fl, l, b, c, h1, h2, h4, h5, o, hb, hG⟩ := h
  have k2 := h1.cell (j := 2) (v := .bool s.dead) rfl
  have k0 := h1.cell (j := 0) (v := .slice (some ⟨gs, 0, none⟩) s.n s.n) rfl
  cases hd : s.dead with
  | true =>
    have ht : thereE s at_ = 30 := if_pos hd
    have HT := Aside0.mk ht
    have HR := Aside0.mk (show readF s at_ = [] by unfold readF; rw [if_pos (by rw [ht]; decide)])
    rw [hd] at k2
    clear h1 h2 h4 h5 o hb hG hd ht
    go_enter Try.func41, Try.ntmps41
    go_wp2_with fail
    go_ret2
    exact ⟨_, by rw [HT.out] <;> rfl, by rw [HR.out]; exact Kd.R_nil _ _ _ _ _, Below.refl _ _⟩
  | false =>
    rw [hd] at k2
    by_cases h9 : at_ < 0 ∨ (s.n : Int) ≤ at_
    · have ht : thereE s at_ = 9 := by
        unfold thereE
        rw [if_neg (by rw [hd]; decide)]
        by_cases e : at_ < 0
        · rw [if_pos e]
        · rw [if_neg e, if_pos (by omega)]
      have HT := Aside0.mk ht
      have HR := Aside0.mk (show readF s at_ = [] by unfold readF; rw [if_pos (by rw [ht]; decide)])
      by_cases e : at_ < 0
      · have d1 : decide (at_ < 0) = true := decide_eq_true e
        clear h1 h2 h4 h5 o hb hG hd ht h9 e
        go_enter Try.func41, Try.ntmps41
        go_wp2_with fail
        go_ret2
        exact ⟨_, by rw [HT.out] <;> rfl, by rw [HR.out]; exact Kd.R_nil _ _ _ _ _, Below.refl _ _⟩
      · have d1 : decide (at_ < 0) = false := decide_eq_false e
        have d2 : decide ((s.n : Int) ≤ at_) = true := decide_eq_true (by omega)
        clear h1 h2 h4 h5 o hb hG hd ht h9 e
        go_enter Try.func41, Try.ntmps41
        go_wp2_with fail
        go_ret2
        exact ⟨_, by rw [HT.out] <;> rfl, by rw [HR.out]; exact Kd.R_nil _ _ _ _ _, Below.refl _ _⟩
    · obtain ⟨ai, rfl⟩ := Int.eq_ofNat_of_zero_le (show 0 ≤ at_ by omega)
      have hai : ai < s.n := by omega
      have ht : thereE s (ai : Int) = 0 := there_alive hd (by omega) (by omega)
      have HT := Aside0.mk ht
      have HRF := Aside0.mk (read_alive ht)
      obtain ⟨A, q, rfl⟩ := Kd.R_slice h4
      have HG := Aside0.mk hG
      have hz := zero_ref
      have d1 : decide ((ai : Int) < 0) = false := decide_eq_false (by omega)
      have d2 : decide ((s.n : Int) ≤ (ai : Int)) = false := decide_eq_false (by omega)
      have d3 : decide (s.n ≤ ai) = false := decide_eq_false (by omega)
      have x0 := eq_true (show (0 : Int) ≤ (ai : Int) by omega)
      have x1 := eq_true (show (ai : Int) < (s.n : Int) by omega)
      have HNEW := Aside0.mk (HoldsRow.new w 67 (rowK .u8 z64))
      have HSL := Aside0.mk (secOf_len hG.2.2.1 hai)
      have HRG := Aside0.mk (show w.rangeAt gs (ai * 64) (nums .u8 (secOf s.stays ai)) from range_row h2 _ _)
      obtain ⟨W2, hW2⟩ : ∃ W2 : World, W2 = (w.alloc (.cells (rowK .u8 z64) 67)).setRow w.heap.size (nums .u8 (secOf s.stays ai)).toArray := ⟨_, rfl⟩
      obtain ⟨b6, hb6⟩ : ∃ b6, b6 = w.heap.size := ⟨_, rfl⟩
      have hbel : Below w.heap.size w W2 := by rw [hW2]; exact Go.Proofs.Ytkmgbmnjabmhaaa.Arr.below_setRow (below_alloc (Below.refl _ _) _) _ (Nat.le_refl _)
      have Q6 := Aside0.mk (show HoldsRow W2 b6 67 (rowK .u8 (curS s.stays (s.waits.take 0) ai)) by rw [hW2, hb6]; exact HNEW.out.row _)
      have Q1 := Aside0.mk (h1.below hbel h1.lt)
      have Q4 := Aside0.mk (Kd.R_below h4 hbel)
      have QB := Aside0.mk (And.intro hbel (show w.heap.size ≤ b6 by omega))
      have HW2 := Aside0.mk hW2
      have HB6 := Aside0.mk hb6
      clear h1 h2 h4 h5 o hb hG hd ht h9 hW2 hbel hb6
      go_enter Try.func41, Try.ntmps41
      go_wp2_with (first | (refine wpList_load_mid rfl 67 (.tmp 28) rfl gs (ai * 64) rfl (nums .u8 (secOf s.stays ai)) _ HRG.out Try.underlying67 rfl (by rw [nums_length, HSL.out]; kernel_rfl) ?_) | (refine wpList_store_row rfl 67 (.tmp 6) (.tmp 29) rfl w.heap.size (nums .u8 (secOf s.stays ai)).toArray rfl rfl 67 (rowK .u8 z64) HNEW.out (by rw [nums_rowK, rowK_size, HSL.out]; kernel_rfl) (by rw [nums_rowK, rowK_size, rowK_size, HSL.out, z64_len]) (rowK_one _ _) ?_; rw [← HW2.out, ← HB6.out]))
      clear HW2 HNEW HRG x0 x1 d1 d2 d3 hz k0 k2
      go_loopw [7] (fun i wr => ∃ j : Nat, j ≤ s.waits.length ∧ i = .int .i64 (j : Nat) ∧ Aside0 (HoldsRow wr b6 67 (rowK .u8 (curS s.stays (s.waits.take j) ai))) ∧ Aside0 (HoldsRow wr g 80 (rcells gs s.n (.slice A s.waits.length q) s.dead fl l b c)) ∧ Aside0 (Kd.R wrK 85 wr base ok (.slice A s.waits.length q) s.waits) ∧ Aside0 (Below w.heap.size w wr ∧ w.heap.size ≤ b6)) (fun i _ => s.waits.length - (intOf i).toNat)
      case atStart => exact ⟨0, by omega, rfl, Q6, Q1, Q4, QB⟩
      case round =>
        clear Q6 Q1 Q4 QB
        obtain ⟨j, hj, rfl, Q6, Q1, Q4, QB⟩ := hrel
        have k1 := Q1.out.cell (j := 1) (v := .slice A s.waits.length q) rfl
        by_cases hlt : j < s.waits.length
        · have d1 : decide ((j : Int) < (s.waits.length : Int)) = true := decide_eq_true (by omega)
          have d2 : decide (j < s.waits.length) = true := decide_eq_true hlt
          obtain ⟨gl, ki, sec, rfl, hge, hki, h64, K2, hrg⟩ := wr2_elem Q4.out (n := s.n) HG.out.2.2.2 j hlt
          have x0 := eq_true (show (0 : Int) ≤ (j : Int) by omega)
          have x1 := eq_true (show (j : Int) < (s.waits.length : Int) by omega)
          have H64 := Aside0.mk h64
          have HRG := Aside0.mk hrg
          have hsn := curS_snoc s.stays (s.waits.take j) ((ki : Int), sec) ai
          have htk : s.waits.take (j + 1) = s.waits.take j ++ [((ki : Int), sec)] := by
            obtain ⟨hj', e⟩ := List.getElem?_eq_some_iff.1 hge
            rw [List.take_succ_eq_append_getElem hj', e]
          rw [← htk] at hsn
          clear hge h64 hrg htk
          by_cases he : ki = ai
          · subst he
            rw [if_pos rfl] at hsn
            have HSN := Aside0.mk hsn
            have de : ((ki : Int) == (ki : Int)) = true := by simp
            have HSE := Aside0.mk (show sec.length = (curS s.stays (s.waits.take j) ki).length by rw [H64.out]; exact (curS_len HSL.out (fun p hp => (HG.out.2.2.2 p (List.mem_of_mem_take hp)).2.2)).symm)
            obtain ⟨W3, hW3⟩ : ∃ W3 : World, W3 = wr.setRow b6 (nums .u8 sec).toArray := ⟨_, rfl⟩
            have hf : ∀ k, k ≠ b6 → W3.heap[k]? = wr.heap[k]? := fun k hk => by rw [hW3]; exact setRow_other _ _ _ _ hk
            have T6 := Aside0.mk (show HoldsRow W3 b6 67 (rowK .u8 (curS s.stays (s.waits.take (j + 1)) ki)) by rw [hW3, hsn]; exact Q6.out.row _)
            have T1 := Aside0.mk (hr_move Q1.out (hf g (ne_kind Q1.out Q6.out (by decide))))
            have T4 := Aside0.mk (wr2_move Q4.out Q6.out (by decide) hf)
            have TB := Aside0.mk (show Below w.heap.size w W3 ∧ w.heap.size ≤ b6 from ⟨by rw [hW3]; exact Go.Proofs.Ytkmgbmnjabmhaaa.Arr.below_setRow QB.out.1 _ QB.out.2, QB.out.2⟩)
            have HW3 := Aside0.mk hW3
            clear hsn hW3 hf
            go_wp2_with (first | (refine wpList_load_mid rfl 67 (.tmp 55) rfl gl (j * 65 + 1) rfl (nums .u8 sec) _ HRG.out Try.underlying67 rfl (by rw [nums_length, H64.out]; kernel_rfl) ?_) | (refine wpList_store_row rfl 67 (.tmp 6) (.tmp 56) rfl b6 (nums .u8 sec).toArray rfl rfl 67 _ Q6.out (by rw [nums_rowK, rowK_size, H64.out]; kernel_rfl) (by rw [nums_rowK, rowK_size, rowK_size, HSE.out]) (rowK_one _ _) ?_; rw [← HW3.out]))
            go_roundw
            case rel => exact ⟨j + 1, by omega, by go_num, T6, T1, T4, TB⟩
            case measure => simp [intOf]; omega
          · rw [if_neg (by show ¬ ((ki : Int) = (ai : Int)); omega)] at hsn
            have de : ((ki : Int) == (ai : Int)) = false := by simp; omega
            rw [← hsn] at Q6
            clear hsn he
            go_wp2_with fail
            go_roundw
            case rel => exact ⟨j + 1, by omega, by go_num, Q6, Q1, Q4, QB⟩
            case measure => simp [intOf]; omega
        · obtain rfl : j = s.waits.length := by omega
          have d1 : decide ((s.waits.length : Int) < (s.waits.length : Int)) = false := decide_eq_false (by omega)
          have d2 : decide (s.waits.length < s.waits.length) = false := decide_eq_false (by omega)
          rw [List.take_length] at Q6
          obtain ⟨x, hx⟩ : ∃ x, x = curS s.stays s.waits ai := ⟨_, rfl⟩
          have hxl : x.length = 64 := by rw [hx]; exact curS_len HSL.out (fun p hp => (HG.out.2.2.2 p hp).2.2)
          rw [← hx] at Q6
          have HX := Aside0.mk hx
          have HXL := Aside0.mk hxl
          have hown := Q6.out.own (base := w.heap.size) QB.out.2 (by rw [hxl]; decide)
          rw [hxl] at hown
          have HRC := Aside0.mk (Kd.R_reads' hown).2.2
          have HCE := Aside0.mk (copy_eq x (by rw [hxl]; decide))
          clear hx hown hxl
          go_wp2_with fail
          have hcc := encoreref00_CopyBytes.calls (some ⟨b6, 0, none⟩) 64 x x wr HRC.out (by rw [HXL.out]; omega) HCE.out
          rw [HXL.out] at hcc
          refine hcc.mono ?_
          clear hcc
          rintro e w4 ⟨v, rfl, hr, hb⟩
          have HR4 := Aside0.mk hr
          have HB4 := Aside0.mk hb
          clear hr hb
          go_wp2_with fail
          go_ret2
          exact ⟨_, by rw [HT.out] <;> rfl, by rw [HRF.out, ← HX.out]; exact Kd.R_lower HR4.out QB.out.1.size, QB.out.1.trans (HB4.out.mono QB.out.1.size)⟩
end Go.Proofs.Ytkmgbmnjabmhaaa.Ext
