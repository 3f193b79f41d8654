/- gone of the document's disk, walked: it comes to what the program's does. Condition: a million writes wait at most. -/
import Derived.Test.YtkmgbmnjabmhaaaRefA
namespace Go.Proofs.Ytkmgbmnjabmhaaa.Ext
open Go Go.RowKit Go.Proofs.YtkmgbmnjabmhaaaW.PrintWords Go.Proofs.YtkmgbmnjabmhaaaW.PrintLast Go.Proofs.YtkmgbmnjabmhaaaW.PrintMore Go.Proofs.Ytkmgbmnjabmhaaa.Base Go.Proofs.Ytkmgbmnjabmhaaa.Arr
set_option linter.unusedVariables false
set_option linter.unusedSimpArgs false

theorem below_drew' {B : Nat} {w W : World} (h : Below B w W) : Below B w W.drew := ⟨h.os, h.tape, h.output, h.size, h.block⟩
/-- the first k bytes of a sector put in -/
def part (f : List Int) (a : Nat) (sec : List Int) (k : Nat) : List Int := putSec f a (sec.take k ++ (secOf f a).drop k)
theorem part_len {f : List Int} {a n : Nat} {sec : List Int} {k : Nat} (hf : f.length = n * 64) (ha : a < n) (hs : sec.length = 64) (hk : k ≤ 64) : (part f a sec k).length = n * 64 := by
  refine putSec_len hf ha ?_
  rw [List.length_append, List.length_take, List.length_drop, hs, secOf_len hf ha]
  omega
theorem part_zero {f : List Int} {a n : Nat} {sec : List Int} (hf : f.length = n * 64) (ha : a < n) : part f a sec 0 = f := by
  unfold part putSec secOf
  rw [List.take_zero, List.nil_append, List.drop_zero]
  apply List.ext_getElem?
  intro q
  by_cases h1 : q < a * 64
  · rw [List.append_assoc, List.getElem?_append_left (by rw [List.length_take]; omega), List.getElem?_take_of_lt h1]
  · rw [List.append_assoc, List.getElem?_append_right (by rw [List.length_take]; omega), List.length_take]
    by_cases h2 : q < a * 64 + 64
    · rw [List.getElem?_append_left (by rw [List.length_take, List.length_drop]; omega), List.getElem?_take_of_lt (by omega), List.getElem?_drop]
      congr 1; omega
    · rw [List.getElem?_append_right (by rw [List.length_take, List.length_drop]; omega), List.length_take, List.length_drop, List.getElem?_drop]
      congr 1; omega
theorem part_get {f : List Int} {a n : Nat} {sec : List Int} {k : Nat} (hf : f.length = n * 64) (ha : a < n) (hs : sec.length = 64) (hk : k ≤ 64) (q : Nat) : (part f a sec k)[q]? = if a * 64 ≤ q ∧ q < a * 64 + k then sec[q - a * 64]? else f[q]? := by
  unfold part putSec secOf
  by_cases h1 : q < a * 64
  · rw [if_neg (by omega), List.append_assoc, List.getElem?_append_left (by rw [List.length_take]; omega), List.getElem?_take_of_lt h1]
  · rw [List.append_assoc, List.getElem?_append_right (by rw [List.length_take]; omega), List.length_take]
    have e1 : min (a * 64) f.length = a * 64 := by omega
    rw [e1]
    by_cases h2 : q < a * 64 + k
    · rw [if_pos ⟨by omega, h2⟩, List.append_assoc, List.getElem?_append_left (by rw [List.length_take]; omega), List.getElem?_take_of_lt (by omega)]
    · rw [if_neg (by omega)]
      by_cases h3 : q < a * 64 + 64
      · rw [List.append_assoc, List.getElem?_append_right (by rw [List.length_take]; omega), List.length_take, List.getElem?_append_left (by rw [List.length_drop, List.length_take, List.length_drop]; omega), List.getElem?_drop, List.getElem?_take_of_lt (by omega), List.getElem?_drop]
        congr 1; omega
      · rw [List.getElem?_append_right (by rw [List.length_append, List.length_take, List.length_drop, List.length_take, List.length_drop]; omega), List.length_append, List.length_take, List.length_drop, List.length_take, List.length_drop, List.getElem?_drop]
        congr 1; omega
theorem part_succ {f : List Int} {a n : Nat} {sec : List Int} {k : Nat} (hf : f.length = n * 64) (ha : a < n) (hs : sec.length = 64) (hk : k < 64) : (part f a sec k).set (a * 64 + k) (rd sec k) = part f a sec (k + 1) := by
  apply List.ext_getElem?
  intro q
  rw [part_get hf ha hs (by omega) q]
  by_cases e : q = a * 64 + k
  · subst e
    rw [List.getElem?_set_self (by rw [part_len hf ha hs (by omega)]; omega), if_pos ⟨by omega, by omega⟩, show a * 64 + k - a * 64 = k by omega]
    unfold rd
    rw [Int.toNat_natCast, List.getD_eq_getElem?_getD, List.getElem?_eq_getElem (by omega)]
    rfl
  · rw [List.getElem?_set_ne (fun q' => e q'.symm), part_get hf ha hs (by omega) q]
    by_cases h2 : a * 64 ≤ q ∧ q < a * 64 + k
    · rw [if_pos h2, if_pos ⟨h2.1, by omega⟩]
    · rw [if_neg h2, if_neg (by omega)]
/-- how many bytes of the write j -/
def cutJ (s : DS) (cut : Int) (j : Nat) : Nat := if j + 1 = s.waits.length then cutN cut else 64
theorem cutJ_le (s : DS) (cut : Int) (j : Nat) : cutJ s cut j ≤ 64 := by
  unfold cutJ
  split
  · exact cutN_le cut
  · exact Nat.le_refl _
/-- what the loop's round leaves -/
theorem gone_round {s : DS} (hG : Good s) (bits cut : Int) {j a : Nat} {sec : List Int} (hge : s.waits[j]? = some ((a : Int), sec)) (ha : a < s.n) (hs : sec.length = 64) (ho : offB bits j = false) :
    part (lay s.stays (keptTo s bits cut j)) a sec (cutJ s cut j) = lay s.stays (keptTo s bits cut (j + 1)) := by
  have hf := lay_len hG.2.2.1 _ (kept_fits hG bits cut j)
  unfold part
  rw [lay_cur hG.2.2.1 ha _ _ rfl (kept_fits hG bits cut j)]
  unfold cutJ
  by_cases hl : j + 1 = s.waits.length
  · rw [if_pos hl, kept_last hge ho hl, lay_snoc]
    rfl
  · rw [if_neg hl, kept_on hge ho hl, lay_snoc]
    have hc : (curS s.stays (keptTo s bits cut j) a).length = 64 := curS_len (secOf_len hG.2.2.1 ha) (fun p hp => (kept_fits hG bits cut j p hp).2.2)
    rw [List.take_of_length_le (by omega), List.drop_of_length_le (by omega), List.append_nil]
    rfl
/-- an element of a row of the document's writes -/
theorem wr2_elem {W : World} {base : Nat} {okl : Nat → Prop} {A : Option Addr} {c n : Nat} {L : List (Int × List Int)} (h : Kd.R wrK 85 W base okl (.slice A L.length c) L) (hL : Fits n L) (j : Nat) (hj : j < L.length) :
    ∃ (gl ai : Nat) (sec : List Int), A = some ⟨gl, 0, none⟩ ∧ L[j]? = some ((ai : Int), sec) ∧ ai < n ∧ sec.length = 64 ∧ W.cell? ⟨gl, j * 65, none⟩ = some (.int .i64 (ai : Nat)) ∧ W.rangeAt gl (j * 65 + 1) (nums .u8 sec) := by
  obtain ⟨gl, cap, e, -, -, -⟩ := Kd.R_form h (by omega)
  injection e with e1 _ e3
  subst e1
  obtain ⟨cs, -, ⟨hcs, h64⟩, hcell, -⟩ := Kd.R_elem h ((0, []) : Int × List Int) (j : Int) (by omega) (by omega)
  rw [Int.toNat_natCast] at hcs h64 hcell
  have hg : L.getD j (0, []) = L[j] := by rw [List.getD_eq_getElem?_getD, List.getElem?_eq_getElem hj]; rfl
  have hp := hL L[j] (List.getElem_mem _)
  rw [hg] at hcs h64
  obtain ⟨ai, hai⟩ := Int.eq_ofNat_of_zero_le hp.1
  have ep : L[j] = ((ai : Int), L[j].2) := by rw [← hai]
  refine ⟨gl, ai, L[j].2, rfl, by rw [List.getElem?_eq_getElem hj, ← ep], by have := hp.2.1; omega, h64, ?_, fun q u hu => ?_⟩
  · have := hcell 0 (.int .i64 (ai : Nat)) (by rw [hcs, hai]; rfl)
    exact this
  · have := hcell (q + 1) u (by rw [hcs]; simpa using hu)
    rw [show j * 65 + 1 + q = j * 65 + (q + 1) by omega]
    exact this
theorem range_cell {W : World} {b q k : Nat} {l : List Int} (h : W.rangeAt b q (nums .u8 l)) (hk : k < l.length) : W.cell? ⟨b, q + k, none⟩ = some (.int .u8 (rd l k)) := by
  refine h k _ ?_
  unfold nums rd
  rw [List.getElem?_map, List.getElem?_eq_getElem hk, Int.toNat_natCast, List.getD_eq_getElem?_getD, List.getElem?_eq_getElem hk]
  rfl
set_option maxHeartbeats 8000000 in
set_option maxRecDepth 100000 in
theorem Rgone_calls (w : World) (base : Nat) (ok : Nat → Prop) (g : Nat) (s : DS) (h : RefIs w base ok g s) (hbw : base ≤ w.heap.size) (hw : s.waits.length ≤ 1000000) (bits cut : Int) :
    Calls Try.prog 46 #[.pointer (some ⟨g, 0, none⟩), .int .u64 bits, .int .i64 cut] w fun e w' => e = .returned (.tuple #[]) ∧ RefTo w w' base ok g (goneS s bits cut) := by
  obtain ⟨gs, vw, fl, l, b, c, h1, h2, h4, h5, o, hb, hG⟩ := h
  obtain ⟨A, q, rfl⟩ := Kd.R_slice h4
  have HG := Aside0.mk hG
  have HO := Aside0.mk o
  have HB := Aside0.mk hb
  have HW := Aside0.mk hw
  have HBW := Aside0.mk hbw
  have H5 := Aside0.mk h5
  have HBR := Aside0.mk (show encoreref00_Bring.f cut 65 = some (cutN cut : Int) by have := bring_eq cut 65 (by decide) (by decide); rw [show ((65 : Nat) : Int) = 65 from rfl] at this; rw [this]; congr 1; unfold cutN; omega)
  have P1 := Aside0.mk h1
  have P2 := Aside0.mk (show HoldsRow w gs 67 (rowK .u8 (lay s.stays (keptTo s bits cut 0))) from h2)
  have P4 := Aside0.mk h4
  have PB := Aside0.mk (And.intro (Below.refl base w) (Kept.refl w ok))
  clear h1 h2 h4 h5 o hb hG hbw
  go_enter Try.func46, Try.ntmps46
  go_wp2_with fail
  go_loopw [6] (fun i wr => ∃ j : Nat, j ≤ s.waits.length ∧ i = .int .i64 (j : Nat) ∧ Aside0 (HoldsRow wr g 80 (rcells gs s.n (.slice A s.waits.length q) s.dead fl l b c)) ∧ Aside0 (HoldsRow wr gs 67 (rowK .u8 (lay s.stays (keptTo s bits cut j)))) ∧ Aside0 (Kd.R wrK 85 wr base ok (.slice A s.waits.length q) s.waits) ∧ Aside0 (Below base w wr ∧ Kept w wr ok)) (fun i _ => s.waits.length - (intOf i).toNat)
  case atStart => exact ⟨0, by omega, rfl, P1, P2, P4, PB⟩
  case round =>
    clear P1 P2 P4 PB
    obtain ⟨j, hj, rfl, P1, P2, P4, PB⟩ := hrel
    have k1 := P1.out.cell (j := 1) (v := .slice A s.waits.length q) rfl
    by_cases hlt : j < s.waits.length
    · have d1 : decide ((j : Int) < (s.waits.length : Int)) = true := decide_eq_true (by omega)
      have d2 : decide (j < s.waits.length) = true := decide_eq_true hlt
      cases ho : offB bits j with
      | true =>
        have ho' : (Go.bits BinOp.and IntKind.u64 (bits / 2 ^ (j % 64)) 1 == 0) = true := ho
        have e := kept_off (cut := cut) (List.getElem?_eq_getElem hlt) ho
        rw [← e] at P2
        clear e ho
        go_wp2_with fail
        go_roundw
        case rel => exact ⟨j + 1, by omega, by go_num, P1, P2, P4, PB⟩
        case measure => simp [intOf]; omega
      | false =>
        have ho' : (Go.bits BinOp.and IntKind.u64 (bits / 2 ^ (j % 64)) 1 == 0) = false := ho
        obtain ⟨gl, ai, sec, rfl, hge, hai, h64, -, -⟩ := wr2_elem P4.out (n := s.n) HG.out.2.2.2 j hlt
        have HRD := Aside0.mk (gone_round HG.out bits cut hge hai h64 ho)
        have H64 := Aside0.mk h64
        have HGE := Aside0.mk hge
        clear ho hge h64
        obtain ⟨m, hm⟩ : ∃ m, m = cutJ s cut j := ⟨_, rfl⟩
        have hm64 : m ≤ 64 := by rw [hm]; exact cutJ_le s cut j
        rw [← hm] at HRD
        by_cases hl : j + 1 = s.waits.length
        · have dl : ((j : Int) == (s.waits.length : Int) - 1) = true := by simp; omega
          have hcj : cutN cut = m := by rw [hm]; exact (if_pos hl).symm
          clear hl hm
          go_wp2_with fail
          ((with_reducible refine (encoreref00_Bring.calls cut 65 (cutN cut : Int) wr HBR.out).mono ?_))
          rintro e w3 ⟨rfl, hd⟩
          have Q1 := Aside0.mk (P1.out.below hd.below P1.out.lt)
          have Q2 := Aside0.mk (P2.out.below hd.below P2.out.lt)
          have Q4 := Aside0.mk (Kd.R_below P4.out hd.below)
          have QB := Aside0.mk (And.intro (PB.out.1.trans (hd.below.mono (Nat.le_trans HBW.out PB.out.2.1))) (PB.out.2.below hd.below))
          rw [hcj]
          clear hd P1 P2 P4 PB k1 hcj
          go_wp2_with fail
          have Q2' := Aside0.mk (show HoldsRow w3 gs 67 (rowK .u8 (part (lay s.stays (keptTo s bits cut j)) ai sec 0)) by rw [part_zero (lay_len HG.out.2.2.1 _ (kept_fits HG.out bits cut j)) hai]; exact Q2.out)
          clear Q2
          have HFL := Aside0.mk (lay_len HG.out.2.2.1 _ (kept_fits HG.out bits cut j))
          obtain ⟨f0, hf0⟩ : ∃ f0, f0 = lay s.stays (keptTo s bits cut j) := ⟨_, rfl⟩
          rw [← hf0] at Q2' HFL HRD
          clear hf0
          go_loopw [8] (fun i wr => ∃ k : Nat, k ≤ m ∧ i = .int .i64 (k : Nat) ∧ Aside0 (HoldsRow wr g 80 (rcells gs s.n (.slice (some ⟨gl, 0, none⟩) s.waits.length q) s.dead fl l b c)) ∧ Aside0 (HoldsRow wr gs 67 (rowK .u8 (part f0 ai sec k))) ∧ Aside0 (Kd.R wrK 85 wr base ok (.slice (some ⟨gl, 0, none⟩) s.waits.length q) s.waits) ∧ Aside0 (Below base w wr ∧ Kept w wr ok)) (fun i _ => m - (intOf i).toNat)
          case atStart => exact ⟨0, by omega, rfl, Q1, Q2', Q4, QB⟩
          case round =>
            clear Q1 Q2' Q4 QB d1 d2
            obtain ⟨k, hk, rfl, Q1, Q2, Q4, QB⟩ := hrel
            by_cases hkm : k < m
            · have d1 : decide ((k : Int) < (m : Int)) = true := decide_eq_true (by omega)
              have d2 : decide (k < m) = true := decide_eq_true hkm
              obtain ⟨gl', ai', sec', e1, e2, -, -, c1, c2⟩ := wr2_elem Q4.out (n := s.n) HG.out.2.2.2 j hlt
              injection e1 with e1
              injection e1 with e1 _ _
              subst e1
              rw [HGE.out] at e2
              injection e2 with e2
              injection e2 with e2 e3
              subst e3
              obtain rfl : ai = ai' := by omega
              have K0 := Q1.out.cell (j := 0) (v := .slice (some ⟨gs, 0, none⟩) s.n s.n) rfl
              have K1 := Q1.out.cell (j := 1) (v := .slice (some ⟨gl, 0, none⟩) s.waits.length q) rfl
              have K2 := c1
              have K3 := range_cell c2 (k := k) (by have := H64.out; omega)
              have HPL := Aside0.mk (part_len HFL.out hai H64.out (show k ≤ 64 by omega))
              have K4 := Q2.out.cell (j := ai * 64 + k) (v := .int .u8 (rd (part f0 ai sec k) ((ai * 64 + k : Nat) : Int))) (rowK_get _ _ _ (by rw [HPL.out]; omega))
              have z4 := Q2.out.free (ai * 64 + k)
              have x0 := eq_true (show (0 : Int) ≤ (j : Int) by omega)
              have x1 := eq_true (show (j : Int) < (s.waits.length : Int) by omega)
              have x2 := eq_true (show (0 : Int) ≤ (k : Int) by omega)
              have x3 := eq_true (show (k : Int) < 64 by omega)
              have x4 := eq_true (show (0 : Int) ≤ (ai : Int) by omega)
              have x5 := eq_true (show (ai : Int) < (s.n : Int) by omega)
              clear c1 c2 e2
              go_wp2_with fail
              refine start_ (n := 26) (S := fun w' => w'.cell? ⟨g, 0, none⟩ = some (.slice (some ⟨gs, 0, none⟩) s.n s.n) ∧ w'.cell? ⟨g, 1, none⟩ = some (.slice (some ⟨gl, 0, none⟩) s.waits.length q) ∧ w'.cell? ⟨gl, j * 65, none⟩ = some (.int .i64 (ai : Nat)) ∧ w'.cell? ⟨gl, j * 65 + 1 + k, none⟩ = some (.int .u8 (rd sec k))) (ds := [25]) #[false, false, false, false, false, false, false, false, false, false, false, false, false, false, false, false, false, false, false, false, false, false, false, false, false, false] (by kernel_rfl) rfl rfl ⟨K0, K1, K2, K3⟩ (fun hHeld => ?_)
              refine pure_ (i := 0) (N := some 39) (v := ?_) (a' := ?_) #[true, false, false, false, false, false, false, false, false, false, false, false, false, false, false, false, false, false, false, false, false, false, false, false, false, false] rfl rfl (by kernel_rfl) (fun _ _ _ h => h) (Or.inl ⟨by rfl, ?_⟩) ?_ ?_
              rotate_left
              · intro w'
                go_simp
                with_reducible rfl
              rotate_left
              · simp only [Act.put, List.setIfInBounds_toArray, List.set_cons_zero, List.set_cons_succ, i64_w, i32_w]
                rfl
              refine pure_ (i := 1) (N := some 40) (v := ?_) (a' := ?_) #[true, true, false, false, false, false, false, false, false, false, false, false, false, false, false, false, false, false, false, false, false, false, false, false, false, false] rfl rfl (by kernel_rfl) (fun _ _ _ h => h) (Or.inl ⟨by rfl, ?_⟩) ?_ ?_
              rotate_left
              · intro w'
                go_simp
                with_reducible rfl
              rotate_left
              · simp only [Act.put, List.setIfInBounds_toArray, List.set_cons_zero, List.set_cons_succ, i64_w, i32_w]
                rfl
              refine pure_ (i := 2) (N := some 41) (v := ?_) (a' := ?_) #[true, true, true, false, false, false, false, false, false, false, false, false, false, false, false, false, false, false, false, false, false, false, false, false, false, false] rfl rfl (by kernel_rfl) (fun _ _ _ h => h) (Or.inl ⟨by rfl, ?_⟩) ?_ ?_
              rotate_left
              · intro w'
                go_simp
                with_reducible rfl
              rotate_left
              · simp only [Act.put, List.setIfInBounds_toArray, List.set_cons_zero, List.set_cons_succ, i64_w, i32_w]
                rfl
              refine pure_ (i := 4) (N := some 43) (v := ?_) (a' := ?_) #[true, true, true, false, true, false, false, false, false, false, false, false, false, false, false, false, false, false, false, false, false, false, false, false, false, false] rfl rfl (by kernel_rfl) (fun _ _ _ h => h) (Or.inl ⟨by rfl, ?_⟩) ?_ ?_
              rotate_left
              · intro w'
                go_simp
                with_reducible rfl
              rotate_left
              · simp only [Act.put, List.setIfInBounds_toArray, List.set_cons_zero, List.set_cons_succ, i64_w, i32_w]
                rfl
              refine pure_ (i := 5) (N := some 44) (v := ?_) (a' := ?_) #[true, true, true, false, true, true, false, false, false, false, false, false, false, false, false, false, false, false, false, false, false, false, false, false, false, false] rfl rfl (by kernel_rfl) (fun _ _ _ h => h) (Or.inl ⟨by rfl, ?_⟩) ?_ ?_
              rotate_left
              · intro w'
                go_simp
                with_reducible rfl
              rotate_left
              · simp only [Act.put, List.setIfInBounds_toArray, List.set_cons_zero, List.set_cons_succ, i64_w, i32_w]
                rfl
              refine pure_ (i := 6) (N := some 45) (v := ?_) (a' := ?_) #[true, true, true, false, true, true, true, false, false, false, false, false, false, false, false, false, false, false, false, false, false, false, false, false, false, false] rfl rfl (by kernel_rfl) (fun _ _ _ h => h) (Or.inl ⟨by rfl, ?_⟩) ?_ ?_
              rotate_left
              · intro w'
                go_simp
                with_reducible rfl
              rotate_left
              · simp only [Act.put, List.setIfInBounds_toArray, List.set_cons_zero, List.set_cons_succ, i64_w, i32_w]
                rfl
              refine pure_ (i := 8) (N := some 47) (v := ?_) (a' := ?_) #[true, true, true, false, true, true, true, false, true, false, false, false, false, false, false, false, false, false, false, false, false, false, false, false, false, false] rfl rfl (by kernel_rfl) (fun _ _ _ h => h) (Or.inl ⟨by rfl, ?_⟩) ?_ ?_
              rotate_left
              · intro w'
                go_simp
                with_reducible rfl
              rotate_left
              · simp only [Act.put, List.setIfInBounds_toArray, List.set_cons_zero, List.set_cons_succ, i64_w, i32_w]
                rfl
              refine pure_ (i := 12) (N := some 51) (v := ?_) (a' := ?_) #[true, true, true, false, true, true, true, false, true, false, false, false, true, false, false, false, false, false, false, false, false, false, false, false, false, false] rfl rfl (by kernel_rfl) (fun _ _ _ h => h) (Or.inl ⟨by rfl, ?_⟩) ?_ ?_
              rotate_left
              · intro w'
                go_simp
                with_reducible rfl
              rotate_left
              · simp only [Act.put, List.setIfInBounds_toArray, List.set_cons_zero, List.set_cons_succ, i64_w, i32_w]
                rfl
              refine pure_ (i := 13) (N := some 52) (v := ?_) (a' := ?_) #[true, true, true, false, true, true, true, false, true, false, false, false, true, true, false, false, false, false, false, false, false, false, false, false, false, false] rfl rfl (by kernel_rfl) (fun _ _ _ h => h) (Or.inl ⟨by rfl, ?_⟩) ?_ ?_
              rotate_left
              · intro w'
                go_simp
                with_reducible rfl
              rotate_left
              · simp only [Act.put, List.setIfInBounds_toArray, List.set_cons_zero, List.set_cons_succ, i64_w, i32_w]
                rfl
              refine pure_ (i := 14) (N := some 53) (v := ?_) (a' := ?_) #[true, true, true, false, true, true, true, false, true, false, false, false, true, true, true, false, false, false, false, false, false, false, false, false, false, false] rfl rfl (by kernel_rfl) (fun _ _ _ h => h) (Or.inl ⟨by rfl, ?_⟩) ?_ ?_
              rotate_left
              · intro w'
                go_simp
                with_reducible rfl
              rotate_left
              · simp only [Act.put, List.setIfInBounds_toArray, List.set_cons_zero, List.set_cons_succ, i64_w, i32_w]
                rfl
              refine pure_ (i := 15) (N := some 54) (v := ?_) (a' := ?_) #[true, true, true, false, true, true, true, false, true, false, false, false, true, true, true, true, false, false, false, false, false, false, false, false, false, false] rfl rfl (by kernel_rfl) (fun _ _ _ h => h) (Or.inl ⟨by rfl, ?_⟩) ?_ ?_
              rotate_left
              · intro w'
                go_simp
                with_reducible rfl
              rotate_left
              · simp only [Act.put, List.setIfInBounds_toArray, List.set_cons_zero, List.set_cons_succ, i64_w, i32_w]
                rfl
              refine pure_ (i := 17) (N := some 56) (v := ?_) (a' := ?_) #[true, true, true, false, true, true, true, false, true, false, false, false, true, true, true, true, false, true, false, false, false, false, false, false, false, false] rfl rfl (by kernel_rfl) (fun _ _ _ h => h) (Or.inl ⟨by rfl, ?_⟩) ?_ ?_
              rotate_left
              · intro w'
                go_simp
                with_reducible rfl
              rotate_left
              · simp only [Act.put, List.setIfInBounds_toArray, List.set_cons_zero, List.set_cons_succ, i64_w, i32_w]
                rfl
              refine pure_ (i := 18) (N := some 57) (v := ?_) (a' := ?_) #[true, true, true, false, true, true, true, false, true, false, false, false, true, true, true, true, false, true, true, false, false, false, false, false, false, false] rfl rfl (by kernel_rfl) (fun _ _ _ h => h) (Or.inl ⟨by rfl, ?_⟩) ?_ ?_
              rotate_left
              · intro w'
                go_simp
                with_reducible rfl
              rotate_left
              · simp only [Act.put, List.setIfInBounds_toArray, List.set_cons_zero, List.set_cons_succ, i64_w, i32_w]
                rfl
              refine take_ (i := 3) (N := some 42) (v := ?_) (a' := ?_) #[true, true, true, true, true, true, true, false, true, false, false, false, true, true, true, true, false, true, true, false, false, false, false, false, false, false] rfl rfl (by kernel_rfl) (fun _ _ _ h => h) (Or.inl ⟨by rfl, ?_⟩) hHeld ?_ ?_
              rotate_left
              · rintro w' ⟨s0, s1, s2, s3⟩
                go_simp
                with_reducible rfl
              rotate_left
              · simp only [Act.put, List.setIfInBounds_toArray, List.set_cons_zero, List.set_cons_succ, i64_w, i32_w]
                rfl
              refine take_ (i := 7) (N := some 46) (v := ?_) (a' := ?_) #[true, true, true, true, true, true, true, true, true, false, false, false, true, true, true, true, false, true, true, false, false, false, false, false, false, false] rfl rfl (by kernel_rfl) (fun _ _ _ h => h) (Or.inl ⟨by rfl, ?_⟩) hHeld ?_ ?_
              rotate_left
              · rintro w' ⟨s0, s1, s2, s3⟩
                go_simp
                with_reducible rfl
              rotate_left
              · simp only [Act.put, List.setIfInBounds_toArray, List.set_cons_zero, List.set_cons_succ, i64_w, i32_w]
                rfl
              refine pure_ (i := 9) (N := some 48) (v := ?_) (a' := ?_) #[true, true, true, true, true, true, true, true, true, true, false, false, true, true, true, true, false, true, true, false, false, false, false, false, false, false] rfl rfl (by kernel_rfl) (fun _ _ _ h => h) (Or.inl ⟨by rfl, ?_⟩) ?_ ?_
              rotate_left
              · intro w'
                go_simp
                with_reducible rfl
              rotate_left
              · simp only [Act.put, List.setIfInBounds_toArray, List.set_cons_zero, List.set_cons_succ, i64_w, i32_w]
                rfl
              refine pure_ (i := 10) (N := some 49) (v := ?_) (a' := ?_) #[true, true, true, true, true, true, true, true, true, true, true, false, true, true, true, true, false, true, true, false, false, false, false, false, false, false] rfl rfl (by kernel_rfl) (fun _ _ _ h => h) (Or.inl ⟨by rfl, ?_⟩) ?_ ?_
              rotate_left
              · intro w'
                go_simp
                with_reducible rfl
              rotate_left
              · simp only [Act.put, List.setIfInBounds_toArray, List.set_cons_zero, List.set_cons_succ, i64_w, i32_w]
                rfl
              refine take_ (i := 11) (N := some 50) (v := ?_) (a' := ?_) #[true, true, true, true, true, true, true, true, true, true, true, true, true, true, true, true, false, true, true, false, false, false, false, false, false, false] rfl rfl (by kernel_rfl) (fun _ _ _ h => h) (Or.inl ⟨by rfl, ?_⟩) hHeld ?_ ?_
              rotate_left
              · rintro w' ⟨s0, s1, s2, s3⟩
                go_simp
                with_reducible rfl
              rotate_left
              · simp only [Act.put, List.setIfInBounds_toArray, List.set_cons_zero, List.set_cons_succ, i64_w, i32_w]
                rfl
              refine pure_ (i := 23) (N := some 62) (v := ?_) (a' := ?_) #[true, true, true, true, true, true, true, true, true, true, true, true, true, true, true, true, false, true, true, false, false, false, false, true, false, false] rfl rfl (by kernel_rfl) (fun _ _ _ h => h) (Or.inl ⟨by rfl, ?_⟩) ?_ ?_
              rotate_left
              · intro w'
                go_simp
                with_reducible rfl
              rotate_left
              · simp only [Act.put, List.setIfInBounds_toArray, List.set_cons_zero, List.set_cons_succ, i64_w, i32_w]
                rfl
              refine take_ (i := 16) (N := some 55) (v := ?_) (a' := ?_) #[true, true, true, true, true, true, true, true, true, true, true, true, true, true, true, true, true, true, true, false, false, false, false, true, false, false] rfl rfl (by kernel_rfl) (fun _ _ _ h => h) (Or.inl ⟨by rfl, ?_⟩) hHeld ?_ ?_
              rotate_left
              · rintro w' ⟨s0, s1, s2, s3⟩
                go_simp
                with_reducible rfl
              rotate_left
              · simp only [Act.put, List.setIfInBounds_toArray, List.set_cons_zero, List.set_cons_succ, i64_w, i32_w]
                rfl
              refine pure_ (i := 19) (N := some 58) (v := ?_) (a' := ?_) #[true, true, true, true, true, true, true, true, true, true, true, true, true, true, true, true, true, true, true, true, false, false, false, true, false, false] rfl rfl (by kernel_rfl) (fun _ _ _ h => h) (Or.inl ⟨by rfl, ?_⟩) ?_ ?_
              rotate_left
              · intro w'
                go_simp
                with_reducible rfl
              rotate_left
              · simp only [Act.put, List.setIfInBounds_toArray, List.set_cons_zero, List.set_cons_succ, i64_w, i32_w]
                rfl
              refine pure_ (i := 20) (N := some 59) (v := ?_) (a' := ?_) #[true, true, true, true, true, true, true, true, true, true, true, true, true, true, true, true, true, true, true, true, true, false, false, true, false, false] rfl rfl (by kernel_rfl) (fun _ _ _ h => h) (Or.inl ⟨by rfl, ?_⟩) ?_ ?_
              rotate_left
              · intro w'
                go_simp
                with_reducible rfl
              rotate_left
              · simp only [Act.put, List.setIfInBounds_toArray, List.set_cons_zero, List.set_cons_succ, i64_w, i32_w]
                rfl
              refine pure_ (i := 21) (N := some 60) (v := ?_) (a' := ?_) #[true, true, true, true, true, true, true, true, true, true, true, true, true, true, true, true, true, true, true, true, true, true, false, true, false, false] rfl rfl (by kernel_rfl) (fun _ _ _ h => h) (Or.inl ⟨by rfl, ?_⟩) ?_ ?_
              rotate_left
              · intro w'
                go_simp
                with_reducible rfl
              rotate_left
              · simp only [Act.put, List.setIfInBounds_toArray, List.set_cons_zero, List.set_cons_succ, i64_w, i32_w]
                rfl
              refine take_ (i := 22) (N := some 61) (v := ?_) (a' := ?_) #[true, true, true, true, true, true, true, true, true, true, true, true, true, true, true, true, true, true, true, true, true, true, true, true, false, false] rfl rfl (by kernel_rfl) (fun _ _ _ h => h) (Or.inl ⟨by rfl, ?_⟩) hHeld ?_ ?_
              rotate_left
              · rintro w' ⟨s0, s1, s2, s3⟩
                go_simp
                with_reducible rfl
              rotate_left
              · simp only [Act.put, List.setIfInBounds_toArray, List.set_cons_zero, List.set_cons_succ, i64_w, i32_w]
                rfl
              refine pure_ (i := 24) (N := some 63) (v := ?_) (a' := ?_) #[true, true, true, true, true, true, true, true, true, true, true, true, true, true, true, true, true, true, true, true, true, true, true, true, true, false] rfl rfl (by kernel_rfl) (fun _ _ _ h => h) (Or.inl ⟨by rfl, ?_⟩) ?_ ?_
              rotate_left
              · intro w'
                go_simp
                with_reducible rfl
              rotate_left
              · simp only [Act.put, List.setIfInBounds_toArray, List.set_cons_zero, List.set_cons_succ, i64_w, i32_w]
                rfl
              refine last_ (i := 25) (N := none) #[true, true, true, true, true, true, true, true, true, true, true, true, true, true, true, true, true, true, true, true, true, true, true, true, true, true] rfl rfl (by kernel_rfl) (by decide) (fun K hK => ?_)
              refine skip_ (w1 := ?_) (by rfl) rfl ?_ ?_
              rotate_left
              · go_simp
                rfl
              refine hK.out _ _ ?_
              clear hK K
              refine done_ (by kernel_rfl) ?_
              
              have hf : ∀ q', q' ≠ gs → (wr.setCell ⟨gs, ai * 64 + k, none⟩ (.int .u8 (rd sec k))).drew.heap[q']? = wr.heap[q']? := fun q' hq => Below.heap_setCell wr ⟨gs, ai * 64 + k, none⟩ _ q' hq
              have T1 := Aside0.mk (hr_move Q1.out (hf g (ne_kind Q1.out Q2.out (by decide))))
              have T2 := Aside0.mk (show HoldsRow (wr.setCell ⟨gs, ai * 64 + k, none⟩ (.int .u8 (rd sec k))).drew gs 67 (rowK .u8 (part f0 ai sec (k + 1))) by
                have := Q2.out.set (ai * 64 + k) (.int .u8 (rd sec k))
                rw [rowK_set, part_succ HFL.out hai H64.out (by omega)] at this
                exact this)
              have T4 := Aside0.mk (wr2_move Q4.out Q2.out (by decide) hf)
              have TB := Aside0.mk (And.intro (below_drew' (QB.out.1.setCell (show base ≤ (⟨gs, ai * 64 + k, none⟩ : Addr).block from HB.out.2) (.int .u8 (rd sec k)))) (Kept.drew (QB.out.2.setCell (p := ⟨gs, ai * 64 + k, none⟩) (.inl HO.out.2) (.int .u8 (rd sec k)))))
              clear hf K0 K1 K2 K3 K4 z4 x0 x1 x2 x3 x4 x5 hHeld HPL Q1 Q2 Q4 QB
              go_wp2_with fail
              go_roundw
              case rel => exact ⟨k + 1, by omega, by go_num, T1, T2, T4, TB⟩
              case measure => simp [intOf]; omega
            · obtain rfl : k = m := by omega
              have d1 : decide ((k : Int) < (k : Int)) = false := decide_eq_false (by omega)
              have d2 : decide (k < k) = false := decide_eq_false (by omega)
              rw [HRD.out] at Q2
              go_wp2_with fail
              go_roundw
              case rel => exact ⟨j + 1, by omega, by go_num, Q1, Q2, Q4, QB⟩
              case measure => simp [intOf]; omega
        · have dl : ((j : Int) == (s.waits.length : Int) - 1) = false := by simp; omega
          have hcj : m = 64 := by rw [hm]; exact if_neg hl
          have Q1 := P1
          have Q2 := P2
          have Q4 := P4
          have QB := PB
          clear hl hm P1 P2 P4 PB
          obtain ⟨w3, hw3⟩ : ∃ w3, w3 = wr := ⟨_, rfl⟩
          subst hw3
          go_wp2_with fail
          have e64 : (Value.int .i64 64) = Value.int .i64 (m : Int) := by rw [hcj]; rfl
          rw [e64]
          clear e64 hcj k1
          have Q2' := Aside0.mk (show HoldsRow w3 gs 67 (rowK .u8 (part (lay s.stays (keptTo s bits cut j)) ai sec 0)) by rw [part_zero (lay_len HG.out.2.2.1 _ (kept_fits HG.out bits cut j)) hai]; exact Q2.out)
          clear Q2
          have HFL := Aside0.mk (lay_len HG.out.2.2.1 _ (kept_fits HG.out bits cut j))
          obtain ⟨f0, hf0⟩ : ∃ f0, f0 = lay s.stays (keptTo s bits cut j) := ⟨_, rfl⟩
          rw [← hf0] at Q2' HFL HRD
          clear hf0
          go_loopw [8] (fun i wr => ∃ k : Nat, k ≤ m ∧ i = .int .i64 (k : Nat) ∧ Aside0 (HoldsRow wr g 80 (rcells gs s.n (.slice (some ⟨gl, 0, none⟩) s.waits.length q) s.dead fl l b c)) ∧ Aside0 (HoldsRow wr gs 67 (rowK .u8 (part f0 ai sec k))) ∧ Aside0 (Kd.R wrK 85 wr base ok (.slice (some ⟨gl, 0, none⟩) s.waits.length q) s.waits) ∧ Aside0 (Below base w wr ∧ Kept w wr ok)) (fun i _ => m - (intOf i).toNat)
          case atStart => exact ⟨0, by omega, rfl, Q1, Q2', Q4, QB⟩
          case round =>
            clear Q1 Q2' Q4 QB d1 d2
            obtain ⟨k, hk, rfl, Q1, Q2, Q4, QB⟩ := hrel
            by_cases hkm : k < m
            · have d1 : decide ((k : Int) < (m : Int)) = true := decide_eq_true (by omega)
              have d2 : decide (k < m) = true := decide_eq_true hkm
              obtain ⟨gl', ai', sec', e1, e2, -, -, c1, c2⟩ := wr2_elem Q4.out (n := s.n) HG.out.2.2.2 j hlt
              injection e1 with e1
              injection e1 with e1 _ _
              subst e1
              rw [HGE.out] at e2
              injection e2 with e2
              injection e2 with e2 e3
              subst e3
              obtain rfl : ai = ai' := by omega
              have K0 := Q1.out.cell (j := 0) (v := .slice (some ⟨gs, 0, none⟩) s.n s.n) rfl
              have K1 := Q1.out.cell (j := 1) (v := .slice (some ⟨gl, 0, none⟩) s.waits.length q) rfl
              have K2 := c1
              have K3 := range_cell c2 (k := k) (by have := H64.out; omega)
              have HPL := Aside0.mk (part_len HFL.out hai H64.out (show k ≤ 64 by omega))
              have K4 := Q2.out.cell (j := ai * 64 + k) (v := .int .u8 (rd (part f0 ai sec k) ((ai * 64 + k : Nat) : Int))) (rowK_get _ _ _ (by rw [HPL.out]; omega))
              have z4 := Q2.out.free (ai * 64 + k)
              have x0 := eq_true (show (0 : Int) ≤ (j : Int) by omega)
              have x1 := eq_true (show (j : Int) < (s.waits.length : Int) by omega)
              have x2 := eq_true (show (0 : Int) ≤ (k : Int) by omega)
              have x3 := eq_true (show (k : Int) < 64 by omega)
              have x4 := eq_true (show (0 : Int) ≤ (ai : Int) by omega)
              have x5 := eq_true (show (ai : Int) < (s.n : Int) by omega)
              clear c1 c2 e2
              go_wp2_with fail
              refine start_ (n := 26) (S := fun w' => w'.cell? ⟨g, 0, none⟩ = some (.slice (some ⟨gs, 0, none⟩) s.n s.n) ∧ w'.cell? ⟨g, 1, none⟩ = some (.slice (some ⟨gl, 0, none⟩) s.waits.length q) ∧ w'.cell? ⟨gl, j * 65, none⟩ = some (.int .i64 (ai : Nat)) ∧ w'.cell? ⟨gl, j * 65 + 1 + k, none⟩ = some (.int .u8 (rd sec k))) (ds := [25]) #[false, false, false, false, false, false, false, false, false, false, false, false, false, false, false, false, false, false, false, false, false, false, false, false, false, false] (by kernel_rfl) rfl rfl ⟨K0, K1, K2, K3⟩ (fun hHeld => ?_)
              refine pure_ (i := 0) (N := some 39) (v := ?_) (a' := ?_) #[true, false, false, false, false, false, false, false, false, false, false, false, false, false, false, false, false, false, false, false, false, false, false, false, false, false] rfl rfl (by kernel_rfl) (fun _ _ _ h => h) (Or.inl ⟨by rfl, ?_⟩) ?_ ?_
              rotate_left
              · intro w'
                go_simp
                with_reducible rfl
              rotate_left
              · simp only [Act.put, List.setIfInBounds_toArray, List.set_cons_zero, List.set_cons_succ, i64_w, i32_w]
                rfl
              refine pure_ (i := 1) (N := some 40) (v := ?_) (a' := ?_) #[true, true, false, false, false, false, false, false, false, false, false, false, false, false, false, false, false, false, false, false, false, false, false, false, false, false] rfl rfl (by kernel_rfl) (fun _ _ _ h => h) (Or.inl ⟨by rfl, ?_⟩) ?_ ?_
              rotate_left
              · intro w'
                go_simp
                with_reducible rfl
              rotate_left
              · simp only [Act.put, List.setIfInBounds_toArray, List.set_cons_zero, List.set_cons_succ, i64_w, i32_w]
                rfl
              refine pure_ (i := 2) (N := some 41) (v := ?_) (a' := ?_) #[true, true, true, false, false, false, false, false, false, false, false, false, false, false, false, false, false, false, false, false, false, false, false, false, false, false] rfl rfl (by kernel_rfl) (fun _ _ _ h => h) (Or.inl ⟨by rfl, ?_⟩) ?_ ?_
              rotate_left
              · intro w'
                go_simp
                with_reducible rfl
              rotate_left
              · simp only [Act.put, List.setIfInBounds_toArray, List.set_cons_zero, List.set_cons_succ, i64_w, i32_w]
                rfl
              refine pure_ (i := 4) (N := some 43) (v := ?_) (a' := ?_) #[true, true, true, false, true, false, false, false, false, false, false, false, false, false, false, false, false, false, false, false, false, false, false, false, false, false] rfl rfl (by kernel_rfl) (fun _ _ _ h => h) (Or.inl ⟨by rfl, ?_⟩) ?_ ?_
              rotate_left
              · intro w'
                go_simp
                with_reducible rfl
              rotate_left
              · simp only [Act.put, List.setIfInBounds_toArray, List.set_cons_zero, List.set_cons_succ, i64_w, i32_w]
                rfl
              refine pure_ (i := 5) (N := some 44) (v := ?_) (a' := ?_) #[true, true, true, false, true, true, false, false, false, false, false, false, false, false, false, false, false, false, false, false, false, false, false, false, false, false] rfl rfl (by kernel_rfl) (fun _ _ _ h => h) (Or.inl ⟨by rfl, ?_⟩) ?_ ?_
              rotate_left
              · intro w'
                go_simp
                with_reducible rfl
              rotate_left
              · simp only [Act.put, List.setIfInBounds_toArray, List.set_cons_zero, List.set_cons_succ, i64_w, i32_w]
                rfl
              refine pure_ (i := 6) (N := some 45) (v := ?_) (a' := ?_) #[true, true, true, false, true, true, true, false, false, false, false, false, false, false, false, false, false, false, false, false, false, false, false, false, false, false] rfl rfl (by kernel_rfl) (fun _ _ _ h => h) (Or.inl ⟨by rfl, ?_⟩) ?_ ?_
              rotate_left
              · intro w'
                go_simp
                with_reducible rfl
              rotate_left
              · simp only [Act.put, List.setIfInBounds_toArray, List.set_cons_zero, List.set_cons_succ, i64_w, i32_w]
                rfl
              refine pure_ (i := 8) (N := some 47) (v := ?_) (a' := ?_) #[true, true, true, false, true, true, true, false, true, false, false, false, false, false, false, false, false, false, false, false, false, false, false, false, false, false] rfl rfl (by kernel_rfl) (fun _ _ _ h => h) (Or.inl ⟨by rfl, ?_⟩) ?_ ?_
              rotate_left
              · intro w'
                go_simp
                with_reducible rfl
              rotate_left
              · simp only [Act.put, List.setIfInBounds_toArray, List.set_cons_zero, List.set_cons_succ, i64_w, i32_w]
                rfl
              refine pure_ (i := 12) (N := some 51) (v := ?_) (a' := ?_) #[true, true, true, false, true, true, true, false, true, false, false, false, true, false, false, false, false, false, false, false, false, false, false, false, false, false] rfl rfl (by kernel_rfl) (fun _ _ _ h => h) (Or.inl ⟨by rfl, ?_⟩) ?_ ?_
              rotate_left
              · intro w'
                go_simp
                with_reducible rfl
              rotate_left
              · simp only [Act.put, List.setIfInBounds_toArray, List.set_cons_zero, List.set_cons_succ, i64_w, i32_w]
                rfl
              refine pure_ (i := 13) (N := some 52) (v := ?_) (a' := ?_) #[true, true, true, false, true, true, true, false, true, false, false, false, true, true, false, false, false, false, false, false, false, false, false, false, false, false] rfl rfl (by kernel_rfl) (fun _ _ _ h => h) (Or.inl ⟨by rfl, ?_⟩) ?_ ?_
              rotate_left
              · intro w'
                go_simp
                with_reducible rfl
              rotate_left
              · simp only [Act.put, List.setIfInBounds_toArray, List.set_cons_zero, List.set_cons_succ, i64_w, i32_w]
                rfl
              refine pure_ (i := 14) (N := some 53) (v := ?_) (a' := ?_) #[true, true, true, false, true, true, true, false, true, false, false, false, true, true, true, false, false, false, false, false, false, false, false, false, false, false] rfl rfl (by kernel_rfl) (fun _ _ _ h => h) (Or.inl ⟨by rfl, ?_⟩) ?_ ?_
              rotate_left
              · intro w'
                go_simp
                with_reducible rfl
              rotate_left
              · simp only [Act.put, List.setIfInBounds_toArray, List.set_cons_zero, List.set_cons_succ, i64_w, i32_w]
                rfl
              refine pure_ (i := 15) (N := some 54) (v := ?_) (a' := ?_) #[true, true, true, false, true, true, true, false, true, false, false, false, true, true, true, true, false, false, false, false, false, false, false, false, false, false] rfl rfl (by kernel_rfl) (fun _ _ _ h => h) (Or.inl ⟨by rfl, ?_⟩) ?_ ?_
              rotate_left
              · intro w'
                go_simp
                with_reducible rfl
              rotate_left
              · simp only [Act.put, List.setIfInBounds_toArray, List.set_cons_zero, List.set_cons_succ, i64_w, i32_w]
                rfl
              refine pure_ (i := 17) (N := some 56) (v := ?_) (a' := ?_) #[true, true, true, false, true, true, true, false, true, false, false, false, true, true, true, true, false, true, false, false, false, false, false, false, false, false] rfl rfl (by kernel_rfl) (fun _ _ _ h => h) (Or.inl ⟨by rfl, ?_⟩) ?_ ?_
              rotate_left
              · intro w'
                go_simp
                with_reducible rfl
              rotate_left
              · simp only [Act.put, List.setIfInBounds_toArray, List.set_cons_zero, List.set_cons_succ, i64_w, i32_w]
                rfl
              refine pure_ (i := 18) (N := some 57) (v := ?_) (a' := ?_) #[true, true, true, false, true, true, true, false, true, false, false, false, true, true, true, true, false, true, true, false, false, false, false, false, false, false] rfl rfl (by kernel_rfl) (fun _ _ _ h => h) (Or.inl ⟨by rfl, ?_⟩) ?_ ?_
              rotate_left
              · intro w'
                go_simp
                with_reducible rfl
              rotate_left
              · simp only [Act.put, List.setIfInBounds_toArray, List.set_cons_zero, List.set_cons_succ, i64_w, i32_w]
                rfl
              refine take_ (i := 3) (N := some 42) (v := ?_) (a' := ?_) #[true, true, true, true, true, true, true, false, true, false, false, false, true, true, true, true, false, true, true, false, false, false, false, false, false, false] rfl rfl (by kernel_rfl) (fun _ _ _ h => h) (Or.inl ⟨by rfl, ?_⟩) hHeld ?_ ?_
              rotate_left
              · rintro w' ⟨s0, s1, s2, s3⟩
                go_simp
                with_reducible rfl
              rotate_left
              · simp only [Act.put, List.setIfInBounds_toArray, List.set_cons_zero, List.set_cons_succ, i64_w, i32_w]
                rfl
              refine take_ (i := 7) (N := some 46) (v := ?_) (a' := ?_) #[true, true, true, true, true, true, true, true, true, false, false, false, true, true, true, true, false, true, true, false, false, false, false, false, false, false] rfl rfl (by kernel_rfl) (fun _ _ _ h => h) (Or.inl ⟨by rfl, ?_⟩) hHeld ?_ ?_
              rotate_left
              · rintro w' ⟨s0, s1, s2, s3⟩
                go_simp
                with_reducible rfl
              rotate_left
              · simp only [Act.put, List.setIfInBounds_toArray, List.set_cons_zero, List.set_cons_succ, i64_w, i32_w]
                rfl
              refine pure_ (i := 9) (N := some 48) (v := ?_) (a' := ?_) #[true, true, true, true, true, true, true, true, true, true, false, false, true, true, true, true, false, true, true, false, false, false, false, false, false, false] rfl rfl (by kernel_rfl) (fun _ _ _ h => h) (Or.inl ⟨by rfl, ?_⟩) ?_ ?_
              rotate_left
              · intro w'
                go_simp
                with_reducible rfl
              rotate_left
              · simp only [Act.put, List.setIfInBounds_toArray, List.set_cons_zero, List.set_cons_succ, i64_w, i32_w]
                rfl
              refine pure_ (i := 10) (N := some 49) (v := ?_) (a' := ?_) #[true, true, true, true, true, true, true, true, true, true, true, false, true, true, true, true, false, true, true, false, false, false, false, false, false, false] rfl rfl (by kernel_rfl) (fun _ _ _ h => h) (Or.inl ⟨by rfl, ?_⟩) ?_ ?_
              rotate_left
              · intro w'
                go_simp
                with_reducible rfl
              rotate_left
              · simp only [Act.put, List.setIfInBounds_toArray, List.set_cons_zero, List.set_cons_succ, i64_w, i32_w]
                rfl
              refine take_ (i := 11) (N := some 50) (v := ?_) (a' := ?_) #[true, true, true, true, true, true, true, true, true, true, true, true, true, true, true, true, false, true, true, false, false, false, false, false, false, false] rfl rfl (by kernel_rfl) (fun _ _ _ h => h) (Or.inl ⟨by rfl, ?_⟩) hHeld ?_ ?_
              rotate_left
              · rintro w' ⟨s0, s1, s2, s3⟩
                go_simp
                with_reducible rfl
              rotate_left
              · simp only [Act.put, List.setIfInBounds_toArray, List.set_cons_zero, List.set_cons_succ, i64_w, i32_w]
                rfl
              refine pure_ (i := 23) (N := some 62) (v := ?_) (a' := ?_) #[true, true, true, true, true, true, true, true, true, true, true, true, true, true, true, true, false, true, true, false, false, false, false, true, false, false] rfl rfl (by kernel_rfl) (fun _ _ _ h => h) (Or.inl ⟨by rfl, ?_⟩) ?_ ?_
              rotate_left
              · intro w'
                go_simp
                with_reducible rfl
              rotate_left
              · simp only [Act.put, List.setIfInBounds_toArray, List.set_cons_zero, List.set_cons_succ, i64_w, i32_w]
                rfl
              refine take_ (i := 16) (N := some 55) (v := ?_) (a' := ?_) #[true, true, true, true, true, true, true, true, true, true, true, true, true, true, true, true, true, true, true, false, false, false, false, true, false, false] rfl rfl (by kernel_rfl) (fun _ _ _ h => h) (Or.inl ⟨by rfl, ?_⟩) hHeld ?_ ?_
              rotate_left
              · rintro w' ⟨s0, s1, s2, s3⟩
                go_simp
                with_reducible rfl
              rotate_left
              · simp only [Act.put, List.setIfInBounds_toArray, List.set_cons_zero, List.set_cons_succ, i64_w, i32_w]
                rfl
              refine pure_ (i := 19) (N := some 58) (v := ?_) (a' := ?_) #[true, true, true, true, true, true, true, true, true, true, true, true, true, true, true, true, true, true, true, true, false, false, false, true, false, false] rfl rfl (by kernel_rfl) (fun _ _ _ h => h) (Or.inl ⟨by rfl, ?_⟩) ?_ ?_
              rotate_left
              · intro w'
                go_simp
                with_reducible rfl
              rotate_left
              · simp only [Act.put, List.setIfInBounds_toArray, List.set_cons_zero, List.set_cons_succ, i64_w, i32_w]
                rfl
              refine pure_ (i := 20) (N := some 59) (v := ?_) (a' := ?_) #[true, true, true, true, true, true, true, true, true, true, true, true, true, true, true, true, true, true, true, true, true, false, false, true, false, false] rfl rfl (by kernel_rfl) (fun _ _ _ h => h) (Or.inl ⟨by rfl, ?_⟩) ?_ ?_
              rotate_left
              · intro w'
                go_simp
                with_reducible rfl
              rotate_left
              · simp only [Act.put, List.setIfInBounds_toArray, List.set_cons_zero, List.set_cons_succ, i64_w, i32_w]
                rfl
              refine pure_ (i := 21) (N := some 60) (v := ?_) (a' := ?_) #[true, true, true, true, true, true, true, true, true, true, true, true, true, true, true, true, true, true, true, true, true, true, false, true, false, false] rfl rfl (by kernel_rfl) (fun _ _ _ h => h) (Or.inl ⟨by rfl, ?_⟩) ?_ ?_
              rotate_left
              · intro w'
                go_simp
                with_reducible rfl
              rotate_left
              · simp only [Act.put, List.setIfInBounds_toArray, List.set_cons_zero, List.set_cons_succ, i64_w, i32_w]
                rfl
              refine take_ (i := 22) (N := some 61) (v := ?_) (a' := ?_) #[true, true, true, true, true, true, true, true, true, true, true, true, true, true, true, true, true, true, true, true, true, true, true, true, false, false] rfl rfl (by kernel_rfl) (fun _ _ _ h => h) (Or.inl ⟨by rfl, ?_⟩) hHeld ?_ ?_
              rotate_left
              · rintro w' ⟨s0, s1, s2, s3⟩
                go_simp
                with_reducible rfl
              rotate_left
              · simp only [Act.put, List.setIfInBounds_toArray, List.set_cons_zero, List.set_cons_succ, i64_w, i32_w]
                rfl
              refine pure_ (i := 24) (N := some 63) (v := ?_) (a' := ?_) #[true, true, true, true, true, true, true, true, true, true, true, true, true, true, true, true, true, true, true, true, true, true, true, true, true, false] rfl rfl (by kernel_rfl) (fun _ _ _ h => h) (Or.inl ⟨by rfl, ?_⟩) ?_ ?_
              rotate_left
              · intro w'
                go_simp
                with_reducible rfl
              rotate_left
              · simp only [Act.put, List.setIfInBounds_toArray, List.set_cons_zero, List.set_cons_succ, i64_w, i32_w]
                rfl
              refine last_ (i := 25) (N := none) #[true, true, true, true, true, true, true, true, true, true, true, true, true, true, true, true, true, true, true, true, true, true, true, true, true, true] rfl rfl (by kernel_rfl) (by decide) (fun K hK => ?_)
              refine skip_ (w1 := ?_) (by rfl) rfl ?_ ?_
              rotate_left
              · go_simp
                rfl
              refine hK.out _ _ ?_
              clear hK K
              refine done_ (by kernel_rfl) ?_
              
              have hf : ∀ q', q' ≠ gs → (wr.setCell ⟨gs, ai * 64 + k, none⟩ (.int .u8 (rd sec k))).drew.heap[q']? = wr.heap[q']? := fun q' hq => Below.heap_setCell wr ⟨gs, ai * 64 + k, none⟩ _ q' hq
              have T1 := Aside0.mk (hr_move Q1.out (hf g (ne_kind Q1.out Q2.out (by decide))))
              have T2 := Aside0.mk (show HoldsRow (wr.setCell ⟨gs, ai * 64 + k, none⟩ (.int .u8 (rd sec k))).drew gs 67 (rowK .u8 (part f0 ai sec (k + 1))) by
                have := Q2.out.set (ai * 64 + k) (.int .u8 (rd sec k))
                rw [rowK_set, part_succ HFL.out hai H64.out (by omega)] at this
                exact this)
              have T4 := Aside0.mk (wr2_move Q4.out Q2.out (by decide) hf)
              have TB := Aside0.mk (And.intro (below_drew' (QB.out.1.setCell (show base ≤ (⟨gs, ai * 64 + k, none⟩ : Addr).block from HB.out.2) (.int .u8 (rd sec k)))) (Kept.drew (QB.out.2.setCell (p := ⟨gs, ai * 64 + k, none⟩) (.inl HO.out.2) (.int .u8 (rd sec k)))))
              clear hf K0 K1 K2 K3 K4 z4 x0 x1 x2 x3 x4 x5 hHeld HPL Q1 Q2 Q4 QB
              go_wp2_with fail
              go_roundw
              case rel => exact ⟨k + 1, by omega, by go_num, T1, T2, T4, TB⟩
              case measure => simp [intOf]; omega
            · obtain rfl : k = m := by omega
              have d1 : decide ((k : Int) < (k : Int)) = false := decide_eq_false (by omega)
              have d2 : decide (k < k) = false := decide_eq_false (by omega)
              rw [HRD.out] at Q2
              go_wp2_with fail
              go_roundw
              case rel => exact ⟨j + 1, by omega, by go_num, Q1, Q2, Q4, QB⟩
              case measure => simp [intOf]; omega
    · obtain rfl : j = s.waits.length := by omega
      have d1 : decide ((s.waits.length : Int) < (s.waits.length : Int)) = false := decide_eq_false (by omega)
      have d2 : decide (s.waits.length < s.waits.length) = false := decide_eq_false (by omega)
      have k2 := P1.out.cell (j := 2) (v := .bool s.dead) rfl
      have k3 := P1.out.cell (j := 3) (v := .bool fl) rfl
      have z1 := P1.out.free 1
      have z2 := P1.out.free 2
      have z3 := P1.out.free 3
      have HF := Aside0.mk (show RefTo w (((wr.setCell ⟨g, 1, none⟩ (.slice none 0 0)).setCell ⟨g, 2, none⟩ (.bool true)).setCell ⟨g, 3, none⟩ (.bool false)) base ok g (goneS s bits cut) from by
        have hf : ∀ k, k ≠ g → ((((wr.setCell ⟨g, 1, none⟩ (.slice none 0 0)).setCell ⟨g, 2, none⟩ (.bool true)).setCell ⟨g, 3, none⟩ (.bool false))).heap[k]? = wr.heap[k]? := fun k hk => ((Below.heap_setCell _ ⟨g, 3, none⟩ _ k hk).trans (Below.heap_setCell _ ⟨g, 2, none⟩ _ k hk)).trans (Below.heap_setCell wr ⟨g, 1, none⟩ _ k hk)
        refine RefTo.trans PB.out.1 PB.out.2 (fun k hk => .inl hk) (RefTo.trans ((((Below.refl base wr).setCell (show base ≤ (⟨g, 1, none⟩ : Addr).block from HB.out.1) _).setCell (show base ≤ (⟨g, 2, none⟩ : Addr).block from HB.out.1) _).setCell (show base ≤ (⟨g, 3, none⟩ : Addr).block from HB.out.1) _) ⟨by simp [World.setCell], fun k _ hk => hf k (fun e => hk (by rw [e]; exact HO.out.1))⟩ (fun k hk => .inl hk) (RefTo.same ⟨gs, .slice none 0 0, false, l, b, c, ((P1.out.set 1 (.slice none 0 0)).set 2 (.bool true)).set 3 (.bool false), hr_move P2.out (hf gs (ne_kind P2.out P1.out (by decide))), Kd.R_nil _ _ _ _ _, ⟨rfl, H5.out.2⟩, HO.out, HB.out, goneS_good HG.out bits cut⟩)))
      clear P1 P2 P4 PB
      go_wp2_with fail
      go_end0
      exact ⟨rfl, HF.out⟩
end Go.Proofs.Ytkmgbmnjabmhaaa.Ext
