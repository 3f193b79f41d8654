/- slices.Grow and slices.Concat, walked (under way). -/
import Derived.Test.YtfkndnocjelhgaaFront
namespace Go.Proofs.Ytfkndnocjelhgaa.Ext
open Go Go.RowKit Go.Proofs.YtfkndnocjelhgaaW.PrintWords Go.Proofs.YtfkndnocjelhgaaW.PrintLast Go.Proofs.YtfkndnocjelhgaaW.PrintMore Go.Proofs.Ytfkndnocjelhgaa.Base Go.Proofs.Ytfkndnocjelhgaa.Arr
set_option linter.unusedVariables false
set_option linter.unusedSimpArgs false

theorem zero_one (x : Value) (n : Nat) : Builtin.zeroCells #[x] n = (List.replicate n x).toArray := by
  apply Array.ext
  · simp [Builtin.zeroCells]
  · intro i h1 h2
    simp [Builtin.zeroCells, Nat.mod_one]
set_option maxHeartbeats 4000000 in
set_option maxRecDepth 100000 in
theorem Grow_calls (w : World) :
    Calls Try.prog 43 #[.slice none 0 0, .int .i64 64] w fun e w' => ∃ v, e = .returned v ∧ Kd.R (Kd.int .u8) 5 w' w.heap.size (fun _ => True) v [] ∧ Below w.heap.size w w' := by
  have hb : Try.t5.bytes = 1 := by kernel_rfl
  go_enter Try.func43, Try.ntmps43
  go_wp2_with fail
  have hcut : ∃ C : Nat, (Question.appendCap 64 0 5).cut (w.tape w.drawn (Question.appendCap 64 0 5)) = C ∧ 64 ≤ C ∧ C ≤ 9223372036854775807 := by
    refine ⟨_, rfl, ?_, ?_⟩
    · show 64 ≤ 64 + _ % _
      omega
    · show 64 + _ % (2 ^ 63 - 64) ≤ _
      have := Nat.mod_lt (w.tape w.drawn (Question.appendCap 64 0 5)) (show 0 < 2 ^ 63 - 64 by decide)
      omega
  obtain ⟨C, hC, hC1, hC2⟩ := hcut
  rw [hC]
  have e : Builtin.zeroCells #[Value.int IntKind.u8 0] 64 ++ Builtin.zeroCells #[Value.int IntKind.u8 0] (C - 64) = rowK .u8 (List.replicate C 0) := by
    rw [zero_one, zero_one]
    unfold rowK nums
    rw [List.map_replicate, List.append_toArray, List.replicate_append_replicate]
    congr 2; omega
  rw [e]
  go_ret
  refine ⟨_, rfl, ?_, below_drew (below_alloc (Below.refl _ _) _)⟩
  have h1 := (HoldsRow.new w 5 (rowK .u8 (List.replicate C 0))).own (base := w.heap.size) (Nat.le_refl _) (by rw [List.length_replicate]; exact hC2)
  have h2 := Kd.R_take (m := 0) h1 (Nat.zero_le _)
  rw [List.length_replicate] at h2
  exact Kd.R_drew h2
/-- how many bytes the first j rows have -/
def sumL (ls : List (List Int)) (j : Nat) : Nat := ((ls.take j).flatten).length
theorem sumL_succ (ls : List (List Int)) (j : Nat) (hj : j < ls.length) : sumL ls (j + 1) = sumL ls j + (ls.getD j []).length := by
  unfold sumL
  rw [List.take_add_one, List.getElem?_eq_getElem hj, List.flatten_append, List.length_append, List.getD_eq_getElem?_getD, List.getElem?_eq_getElem hj]
  simp
theorem flat_succ (ls : List (List Int)) (j : Nat) (hj : j < ls.length) : (ls.take (j + 1)).flatten = (ls.take j).flatten ++ ls.getD j [] := by
  rw [List.take_add_one, List.getElem?_eq_getElem hj, List.flatten_append, List.getD_eq_getElem?_getD, List.getElem?_eq_getElem hj]
  simp
theorem sumL_le (ls : List (List Int)) (j : Nat) : sumL ls j ≤ ls.flatten.length := by
  unfold sumL
  have h : ls.flatten = (ls.take j).flatten ++ (ls.drop j).flatten := by rw [← List.flatten_append, List.take_append_drop]
  rw [h, List.length_append]
  omega
theorem sumL_all (ls : List (List Int)) : sumL ls ls.length = ls.flatten.length := by unfold sumL; rw [List.take_length]
set_option maxHeartbeats 4000000 in
set_option maxRecDepth 100000 in
theorem Concat_calls (w : World) (A : Option Addr) (c : Nat) (ls : List (List Int)) (hr : (Kd.slice 5 (Kd.int .u8)).C w A ls.length ls) (hc : ls.length ≤ c) (h64 : ls.flatten.length = 64) :
    Calls Try.prog 42 #[.slice A ls.length c] w fun e w' => ∃ v, e = .returned v ∧ Kd.R (Kd.int .u8) 5 w' w.heap.size (fun _ => True) v ls.flatten ∧ Below w.heap.size w w' := by
  have HR := Aside0.mk hr
  have HC := Aside0.mk hc
  have H64 := Aside0.mk h64
  have HM := Aside0.mk hr.2.1
  clear hr hc h64
  go_enter Try.func42, Try.ntmps42
  go_wp2_with fail
  go_loopw [3, 11] (fun v i wr => ∃ (j : Nat), j ≤ ls.length ∧ v = .int .i64 (sumL ls j : Int) ∧ i = .int .i64 (j : Nat) ∧ w = wr) (fun _ i _ => ls.length - (intOf i).toNat)
  case atStart => exact ⟨0, by omega, rfl, rfl, rfl⟩
  case round =>
    obtain ⟨j, hj, rfl, rfl, rfl⟩ := hrel
    by_cases hlt : j < ls.length
    · obtain ⟨ad, cs, rfl, -, ⟨A5, c5, rfl, hl5, hr5⟩, hcell⟩ := Kd.C_get HR.out ([] : List Int) (j : Int) (by omega) (by omega)
      rw [Int.toNat_natCast] at hcell hl5 hr5
      have K : w.cell? (ad.add j) = some (.slice A5 (ls.getD j []).length c5) := by
        have h : w.cell? (ad.add (j * 1 + 0)) = some (.slice A5 (ls.getD j []).length c5) := hcell 0 _ rfl
        rw [Nat.mul_one] at h
        exact h
      clear hcell hr5
      have d1 : decide ((j : Int) < (ls.length : Int)) = true := decide_eq_true (by omega)
      have b0 := eq_true (show (0 : Int) ≤ (j : Int) by omega)
      have b1 := eq_true (show (j : Int) < (ls.length : Int) by omega)
      have hs := sumL_succ ls j hlt
      have hle := sumL_le ls (j + 1)
      obtain ⟨q, hq⟩ : ∃ q, q = sumL ls j := ⟨_, rfl⟩
      obtain ⟨m, hm⟩ : ∃ m, m = (ls.getD j []).length := ⟨_, rfl⟩
      rw [← hq, ← hm] at hs
      rw [← hm] at K hl5
      have hx1 := eq_false (show ¬ ((q : Int) + (m : Int) < 0) by omega)
      have hx0 : wrap64 ((q : Int) + (m : Int)) = (q : Int) + (m : Int) := by have := H64.out; unfold wrap64; omega
      have hx2 : wrap64 ((j : Int) + 1) = (j : Int) + 1 := by have := HM.out; unfold wrap64; omega
      have HS := Aside0.mk hs
      rw [← hq]
      clear hs hle hm hq
      go_wp2_with fail
      refine ⟨⟨j + 1, by omega, ?g1, ?g2, by first | rfl | trivial⟩, ?g4⟩
      case g1 => rw [hx0, HS.out, Int.natCast_add]
      case g2 => rw [hx2, Int.natCast_add]; rfl
      case g4 =>
        rw [hx2]
        show ls.length - ((j : Int) + 1).toNat < ls.length - (j : Int).toNat
        omega
    · obtain rfl : j = ls.length := by omega
      have d1 : decide ((ls.length : Int) < (ls.length : Int)) = false := decide_eq_false (by omega)
      rw [sumL_all, H64.out]
      clear hlt hj
      go_wp2_with (((with_reducible refine (Grow_calls w).mono ?_)); rintro e w1 ⟨v, rfl, ho, hb⟩; have R1 := Aside0.mk ho; have B1 := Aside0.mk hb; clear ho hb)
      go_loopw [6, 27] (fun v i wr => ∃ (j : Nat), j ≤ ls.length ∧ i = .int .i64 (j : Nat) ∧ Aside0 (Kd.R (Kd.int .u8) 5 wr w.heap.size (fun _ => True) v ((ls.take j).flatten)) ∧ Aside0 (Below w.heap.size w wr)) (fun _ i _ => ls.length - (intOf i).toNat)
      case atStart => exact ⟨0, by omega, rfl, R1, B1⟩
      case round =>
        obtain ⟨j, hj, rfl, R, B⟩ := hrel
        by_cases hlt : j < ls.length
        · obtain ⟨ad, cs, rfl, -, ⟨A5, c5, rfl, hl5, hr5⟩, hcell⟩ := Kd.C_get (Kd.C_below HR.out B.out) ([] : List Int) (j : Int) (by omega) (by omega)
          rw [Int.toNat_natCast] at hcell hl5 hr5
          have K : wr.cell? (ad.add j) = some (.slice A5 (ls.getD j []).length c5) := by
            have h : wr.cell? (ad.add (j * 1 + 0)) = some (.slice A5 (ls.getD j []).length c5) := hcell 0 _ rfl
            rw [Nat.mul_one] at h
            exact h
          clear hcell
          have d1 : decide ((j : Int) < (ls.length : Int)) = true := decide_eq_true (by omega)
          have b0 := eq_true (show (0 : Int) ≤ (j : Int) by omega)
          have b1 := eq_true (show (j : Int) < (ls.length : Int) by omega)
          have hs := sumL_succ ls j hlt
          have hle := sumL_le ls (j + 1)
          have HFL := Aside0.mk (flat_succ ls j hlt)
          obtain ⟨m, hm⟩ : ∃ m, m = (ls.getD j []).length := ⟨_, rfl⟩
          rw [← hm] at hs K hl5 hr5
          have HROW2 := Aside0.mk hr5
          clear hr5
          have HAL := Aside0.mk (show ((ls.take j).flatten.length + m) * 1 ≤ 140737488355328 by
            have := H64.out
            unfold sumL at hs hle
            omega)
          have hx2 : wrap64 ((j : Int) + 1) = (j : Int) + 1 := by have := HM.out; unfold wrap64; omega
          clear hs hle hm
          go_wp2_with (first | (at_builtin; refine Kd.R_append_rows (Kd.int .u8) (w0 := w) w.heap.size rfl (.tmp 31) (.tmp 32) 24 5 (.int .u8 0) 1 rfl Try.underlying24 (by kernel_rfl) rfl (by decide) (by decide) u6 ((ls.take j).flatten) (ls.getD j []) A5 m c5 (fun _ => True) (fun _ => False) rfl rfl R.out HROW2.out (fun _ _ h => h) (fun _ h => h.elim) (fun _ _ => trivial) B.out B.out.size HAL.out ?_; intro v1 w3 ho hb hg hat; rw [← HFL.out] at ho; have R3 := Aside0.mk ho; have B3 := Aside0.mk hb; clear ho hb hg hat))
          refine ⟨⟨j + 1, by omega, ?g1, R3, B3⟩, ?g4⟩
          case g1 => rw [hx2, Int.natCast_add]; rfl
          case g4 =>
            rw [hx2]
            show ls.length - ((j : Int) + 1).toNat < ls.length - (j : Int).toNat
            omega
        · obtain rfl : j = ls.length := by omega
          have d1 : decide ((ls.length : Int) < (ls.length : Int)) = false := decide_eq_false (by omega)
          have RF := Aside0.mk (show Kd.R (Kd.int .u8) 5 wr w.heap.size (fun _ => True) u6 ls.flatten by have := R.out; rw [List.take_length] at this; exact this)
          clear hlt hj
          go_wp2_with fail
          go_ret
          exact ⟨_, rfl, RF.out, B.out⟩
end Go.Proofs.Ytfkndnocjelhgaa.Ext
