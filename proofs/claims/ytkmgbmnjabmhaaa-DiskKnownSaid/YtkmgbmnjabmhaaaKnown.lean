/- The law DiskKnown, walked. No condition. -/
import Derived.Test.YtkmgbmnjabmhaaaNone
namespace Go.Proofs.Ytkmgbmnjabmhaaa.Ext
open Go Go.RowKit Go.Proofs.YtkmgbmnjabmhaaaW.PrintWords Go.Proofs.YtkmgbmnjabmhaaaW.PrintLast Go.Proofs.YtkmgbmnjabmhaaaW.PrintMore Go.Proofs.Ytkmgbmnjabmhaaa.Base Go.Proofs.Ytkmgbmnjabmhaaa.Arr
set_option linter.unusedVariables false
set_option linter.unusedSimpArgs false

def sixL : List DoT := [(0, 511, 1, 0, []), (0, 0, 2, 0, []), (2, 0, 0, 0, []), (0, 0, 3, 0, []), (4, 0, -1, 1, []), (5, 0, 0, 0, [])]
def sizesL : List Int := [-1, 0, 1, 512, 513, -9223372036854775808]
def z65b : List Int := List.replicate 65 0
def longL : List DoT := [(0, -1, 0, 0, []), (0, 8, 0, 0, []), (6, 1, 0, 0, []), (6, 9, 0, 0, []), (6, 1, 0, 0, z65b), (0, 1, 5, 0, []), (3, 1, 7, 2, []), (0, 1, 6, 0, []), (0, 2, 7, 0, []), (0, 1, 0, 0, []), (4, 0, 0, 0, []), (3, 0, 0, 0, []), (1, 9, 0, 0, []), (5, 0, 0, 0, []), (3, -1, 0, 0, []), (2, 0, 0, 0, []), (3, 0, 0, 0, []), (6, 1, 0, 0, []), (0, 9, 0, 0, []), (2, 0, 0, 0, []), (5, 0, 0, 0, []), (3, 5, 0, 0, []), (5, 0, 0, 0, []), (2, 0, 0, 0, []), (2, 0, 0, 0, []), (2, 0, 0, 0, []), (2, 0, 0, 0, []), (2, 0, 0, 0, []), (2, 0, 0, 0, [])]
def manyL : Nat → List DoT
  | 0 => []
  | n + 1 => manyL n ++ [(0, (n : Int) % 8, (n : Int), 0, [])]
theorem many_len : ∀ n, (manyL n).length = n
  | 0 => rfl
  | n + 1 => by rw [manyL, List.length_append, many_len n]; rfl
def endL : List DoT := [(4, 0, 64, 9223372036854775814, []), (5, 0, 0, 0, [])]
def plain (d : DoT) (cs : List Value) : Prop := cs = five (.slice none 65 65) d ∧ d.2.2.2.2 = []
theorem plain_M {W : World} {base : Nat} {ok : Nat → Prop} (d : DoT) (cs : List Value) (h : plain d cs) : doK.M W base ok d cs := by
  obtain ⟨rfl, e⟩ := h
  refine ⟨[.int .i64 d.1], _, rfl, rfl, [.int .i64 d.2.1], _, rfl, rfl, [.int .i64 d.2.2.1], _, rfl, rfl, [.int .u64 d.2.2.2.1], _, rfl, rfl, sv (.slice none 65 65) d.2.2.2.2, rfl, ?_⟩
  rw [e]
  exact Kd.R_nil _ _ _ _ _
theorem plain_row {W : World} {b : Nat} {t : TypeId} {l : List DoT} (h : HoldsRow W b t (l.flatMap (five (.slice none 65 65))).toArray) (hl : l.length ≤ 1000) (hs : ∀ d ∈ l, d.2.2.2.2 = []) : ReadsRow plain 5 W (some ⟨b, 0, none⟩) l.length l := by
  refine ⟨rfl, by omega, fun _ => ⟨_, rfl, fun j d hj => ⟨five (.slice none 65 65) d, rfl, ⟨rfl, hs d (List.mem_of_getElem? hj)⟩, fun i u hu => ?_⟩⟩⟩
  have hi : i < 5 := (List.getElem?_eq_some_iff.1 hu).1
  have := h.cell (j := j * 5 + i) (v := u) (by rw [List.getElem?_toArray, fives _ l j d i hj hi, hu])
  unfold Addr.add
  split
  · rename_i e; rw [e] at this; exact this
  · rw [Nat.zero_add]; exact this
def zDo : Array Value := #[.int .i64 0, .int .i64 0, .int .i64 0, .int .u64 0, .slice none 0 0]
theorem info_do : (Try.prog.info? 58).map (fun i => (i.zero, i.size, i.bytes)) = some (some (.agg zDo), doK.sz, 56) := by kernel_rfl
theorem many_ok : ∀ d ∈ manyL 70 ++ endL, d.2.2.2.2.length < 140737488355328 ∧ d.2.1 ≤ 9223372036854775807 := by decide +kernel
theorem long_ok {W : World} {A : Option Addr} (h : Kd.C (Kd.int .u8) W A 65 z65b) : ∀ d ∈ longL, (d.2.2.2.2 = [] ∨ (d.2.2.2.2.length = 65 ∧ Kd.C (Kd.int .u8) W A 65 d.2.2.2.2)) ∧ d.2.1 ≤ 9223372036854775807 := by
  have h1 : ∀ d ∈ longL, (d.2.2.2.2 = [] ∨ d.2.2.2.2 = z65b) ∧ d.2.1 ≤ 9223372036854775807 := by decide +kernel
  intro d hd
  refine ⟨(h1 d hd).1.imp id (fun e => ?_), (h1 d hd).2⟩
  rw [e]
  exact ⟨rfl, h⟩
theorem plays_lit (n : Int) (A : Option Addr) (m c : Nat) (l : List DoT) (W : World) (hl : l.length = m) (hr : DoRow W A l) (hc : m ≤ c) (hm : m ≤ 1000) :
    Calls Try.prog 7 #[.int .i64 n, .slice A m c] W fun e w' => e = .returned (.bool true) ∧ Below W.heap.size W w' := by
  subst hl
  exact plays_calls n A c l W hr hc (by omega)
theorem long_len : longL.length = 29 := rfl
theorem DoRow.below {W W' : World} {A : Option Addr} {l : List DoT} (h : DoRow W A l) (hb : Below W.heap.size W W') : DoRow W' A l := fun j d hj => by
  obtain ⟨ad, A', c', e, ⟨k0, k1, k2, k3, k4⟩, e1, e2, e3, e4⟩ := h j d hj
  exact ⟨ad, A', c', e, ⟨pw_cell_below hb k0, pw_cell_below hb k1, pw_cell_below hb k2, pw_cell_below hb k3, pw_cell_below hb k4⟩, e1, Kd.C_below e2 hb, e3, e4⟩
theorem lit_none {W : World} {b : Nat} {t : TypeId} {l : List DoT} (h : HoldsRow W b t (l.flatMap (five (.slice none 65 65))).toArray) (hs : ∀ d ∈ l, d.2.2.2.2 = [] ∧ d.2.1 ≤ 9223372036854775807) : DoRow W (some ⟨b, 0, none⟩) l :=
  lit_row h (Nat.le_refl _) fun d hd => ⟨.inl (hs d hd).1, (hs d hd).2⟩
theorem six_ok : ∀ d ∈ sixL, d.2.2.2.2 = [] ∧ d.2.1 ≤ 9223372036854775807 := by decide
theorem six_row (W : World) : DoRow (W.alloc (.cells (sixL.flatMap (five (.slice none 65 65))).toArray 58)) (some ⟨W.heap.size, 0, none⟩) sixL := lit_none (HoldsRow.new W _ _) six_ok
set_option maxHeartbeats 8000000 in
set_option maxRecDepth 100000 in
theorem known_calls (w : World) :
    Calls Try.prog 8 #[] w fun e w' => e = .returned (.bool true) ∧ Below w.heap.size w w' := by
  go_enter Try.func8, Try.ntmps8
  go_wp2_with fail
  go_loopw [1, 2] (fun v i wr => ∃ (j : Nat) (p : Option Addr), j ≤ 2 ∧ v = .pointer p ∧ i = .int .i64 (j : Nat) ∧ Aside0 (NoD wr p) ∧ Aside0 (Below w.heap.size w wr)) (fun _ i _ => 2 - (intOf i).toNat)
  case atStart => exact ⟨0, none, by omega, rfl, rfl, ⟨.inl rfl⟩, ⟨Below.refl _ _⟩⟩
  case round =>
    obtain ⟨j, p, hj, rfl, rfl, R, B⟩ := hrel
    by_cases hlt : j < 2
    · have d1 : decide ((j : Int) < 2) = true := decide_eq_true (by omega)
      go_wp2_with fail
      ((with_reducible refine (Read_none wr p R.out (-1)).mono ?_))
      rintro e w1 ⟨rfl, rfl⟩
      go_wp2_with fail
      ((with_reducible refine (Write_none wr p R.out (-1) (.slice none 0 0)).mono ?_))
      rintro e w1 ⟨rfl, rfl⟩
      go_wp2_with fail
      ((with_reducible refine (Flush_none wr p R.out).mono ?_))
      rintro e w1 ⟨rfl, rfl⟩
      go_wp2_with fail
      ((with_reducible refine (Fail_none wr p R.out 0 0 0).mono ?_))
      rintro e w1 ⟨rfl, rfl⟩
      go_wp2_with fail
      ((with_reducible refine (Crash_none wr p R.out 0 0).mono ?_))
      rintro e w1 ⟨rfl, rfl⟩
      go_wp2_with fail
      ((with_reducible refine (Boot_none wr p R.out).mono ?_))
      rintro e w1 ⟨rfl, rfl⟩
      go_wp2_with fail
      ((with_reducible refine (Dead_none wr p R.out).mono ?_))
      rintro e w1 ⟨rfl, rfl⟩
      go_wp2_with fail
      ((with_reducible refine (Waits_none wr p R.out).mono ?_))
      rintro e w1 ⟨rfl, rfl⟩
      go_wp2_with fail
      ((with_reducible refine (Size_none wr p R.out).mono ?_))
      rintro e w1 ⟨rfl, rfl⟩
      go_wp2_with fail
      refine ⟨⟨j + 1, _, by omega, rfl, by go_num, ⟨.inr ⟨_, rfl, ?_⟩⟩, ⟨below_alloc B.out _⟩⟩, by simp [intOf]; omega⟩
      exact (HoldsRow.new wr 65 _).cell (j := 0) rfl
    · obtain rfl : j = 2 := by omega
      have d1 : decide (((2 : Nat) : Int) < 2) = false := rfl
      rw [show ((2 : Nat) : Int) = 2 from rfl]
      clear d1 R
      go_wp2_with fail
      have B5 := Aside0.mk (below_alloc B.out (.cells #[.int .i64 (-1), .int .i64 0, .int .i64 1, .int .i64 512, .int .i64 513, .int .i64 (-9223372036854775808)] 3))
      have P5 := Aside0.mk (HoldsRow.new wr 3 #[.int .i64 (-1), .int .i64 0, .int .i64 1, .int .i64 512, .int .i64 513, .int .i64 (-9223372036854775808)])
      obtain ⟨b5, hb5⟩ : ∃ b5, b5 = wr.heap.size := ⟨_, rfl⟩
      rw [← hb5] at P5 ⊢
      clear hb5 B
      go_loopw [6] (fun i wr => ∃ (j : Nat), j ≤ 6 ∧ i = .int .i64 (j : Nat) ∧ Aside0 (HoldsRow wr b5 3 #[.int .i64 (-1), .int .i64 0, .int .i64 1, .int .i64 512, .int .i64 513, .int .i64 (-9223372036854775808)]) ∧ Aside0 (Below w.heap.size w wr)) (fun i _ => 6 - (intOf i).toNat)
      case atStart => exact ⟨0, by omega, rfl, P5, B5⟩
      case round =>
        clear P5 B5
        obtain ⟨j, hj, rfl, P5, B5⟩ := hrel
        by_cases hlt : j < 6
        · have d1 : decide ((j : Int) < 6) = true := decide_eq_true (by omega)
          have b0 := eq_true (show (0 : Int) ≤ (j : Int) by omega)
          have b1 := eq_true (show (j : Int) < 6 by omega)
          obtain ⟨sz, K⟩ : ∃ sz : Int, wr.cell? ⟨b5, j, none⟩ = some (.int .i64 sz) := by
            rcases j with _ | _ | _ | _ | _ | _ | j
            · exact ⟨_, P5.out.cell (j := 0) rfl⟩
            · exact ⟨_, P5.out.cell (j := 1) rfl⟩
            · exact ⟨_, P5.out.cell (j := 2) rfl⟩
            · exact ⟨_, P5.out.cell (j := 3) rfl⟩
            · exact ⟨_, P5.out.cell (j := 4) rfl⟩
            · exact ⟨_, P5.out.cell (j := 5) rfl⟩
            · omega
          go_wp2_with fail
          refine (plays_lit sz (some ⟨wr.heap.size, 0, none⟩) 6 6 sixL _ rfl (six_row wr) (by decide) (by decide)).mono ?_
          rintro e w6 ⟨rfl, hb⟩
          have hb' := (below_alloc (Below.refl wr.heap.size wr) (.cells (sixL.flatMap (five (.slice none 65 65))).toArray 58)).trans (hb.mono (by rw [alloc_size]; exact Nat.le_succ _))
          have P6 := Aside0.mk (P5.out.below hb' P5.out.lt)
          have B6 := Aside0.mk (B5.out.trans (hb'.mono B5.out.size))
          clear hb hb' P5 B5 K
          go_wp2_with fail
          exact ⟨⟨j + 1, by omega, by go_num, P6, B6⟩, by simp [intOf]; omega⟩
        · obtain rfl : j = 6 := by omega
          have d1 : decide (((6 : Nat) : Int) < 6) = false := rfl
          rw [show ((6 : Nat) : Int) = 6 from rfl]
          clear d1 P5
          go_wp2_with (first | ((with_reducible refine gate_dst (N := 84) rfl ?_); refine Kd.R_make (Kd.int .u8) _ 5 rfl (N := 84) rfl 26 _ _ rfl 65 rfl rfl Try.underlying26 (.int .u8 0) 1 info5 rfl (by decide) (by omega) 0 (ok := fun _ => True) (okp := fun _ => True) rfl (fun _ hk => hk) trivial (by omega) (by omega) (Below.refl _ _) (Nat.le_refl _) ?_; intro v84 w3 ho4 hb hg_ hnew_; clear hg_ hnew_; obtain ⟨A8, c8, rfl⟩ := Kd.R_slice ho4; rw [show (List.replicate (65 : Int).toNat (0 : Int)).length = 65 from rfl] at ho4; rw [show (List.replicate (65 : Int).toNat (0 : Int)).length = 65 from rfl]; have R8 := Aside0.mk ho4; have B8 := Aside0.mk (B5.out.trans (hb.mono B5.out.size)); clear ho4 hb B5))
          obtain ⟨W4, hW4⟩ : ∃ W4, W4 = w3.alloc (.cells (longL.flatMap (five (.slice A8 65 c8))).toArray 58) := ⟨_, rfl⟩
          have C8 := Aside0.mk (Kd.R_reads' R8.out).2.1
          have hb4 := below_alloc (Below.refl w3.heap.size w3) (.cells (longL.flatMap (five (.slice A8 65 c8))).toArray 58)
          rw [← hW4] at hb4
          have B4 := Aside0.mk (B8.out.trans (hb4.mono B8.out.size))
          have L4 := Aside0.mk (show DoRow W4 (some ⟨w3.heap.size, 0, none⟩) longL from lit_row (A := A8) (c := c8) (t := 58) (by rw [hW4]; exact HoldsRow.new w3 _ _) C8.out (long_ok (Kd.R_reads' (Kd.R_below R8.out hb4)).2.2))
          have HW4 := Aside0.mk hW4
          obtain ⟨b7, hb7⟩ : ∃ b7, b7 = w3.heap.size := ⟨_, rfl⟩
          rw [← hb7] at L4 ⊢
          clear hW4 hb4 hb7
          go_loopw [8, 9] (fun v i wr => ∃ (j : Nat) (v8 : Value), j ≤ 70 ∧ v = v8 ∧ i = .int .i64 (j : Nat) ∧ Aside0 (Kd.R doK 58 wr W4.heap.size (fun _ => True) v8 (manyL j)) ∧ Aside0 (Below W4.heap.size W4 wr)) (fun _ i _ => 70 - (intOf i).toNat)
          case atStart => exact ⟨0, _, by omega, rfl, rfl, ⟨Kd.R_nil _ _ _ _ _⟩, ⟨by rw [HW4.out]; exact Below.refl _ _⟩⟩
          case round =>
            obtain ⟨j, v8, hj, rfl, rfl, RV, RB⟩ := hrel
            have hml := many_len j
            have hb0 := Aside0.mk RB.out.size
            by_cases hlt : j < 70
            · have d1 : decide ((j : Int) < 70) = true := decide_eq_true (by omega)
              go_wp2_with (at_builtin; refine Kd.R_append doK (w0 := W4) (W := wr) W4.heap.size rfl (.tmp 115) (.tmp 120) 48 58 (.agg zDo) 56 rfl Try.underlying48 info_do rfl (by decide) (by decide) u8 (manyL j) (0, (j : Int) % 8, (j : Int), 0, []) _ (fun _ => True) (fun _ => False) rfl rfl (plain_M _ _ ⟨rfl, rfl⟩) (fun _ hk => hk.elim) (fun _ _ => trivial) RV.out RB.out hb0.out (by omega) ?_; intro v1 w6 ho hb hg hat; have RV6 := Aside0.mk (show Kd.R doK 58 w6 W4.heap.size (fun _ => True) v1 (manyL (j + 1)) from ho); have RB6 := Aside0.mk hb; clear ho hb hg hat RV RB)
              exact ⟨⟨j + 1, _, by omega, rfl, by go_num, RV6, RB6⟩, by simp [intOf]; omega⟩
            · obtain rfl : j = 70 := by omega
              have d1 : decide (((70 : Nat) : Int) < 70) = false := rfl
              rw [show ((70 : Nat) : Int) = 70 from rfl]
              clear d1
              obtain ⟨Q, hQ⟩ : ∃ Q, Q = manyL 70 ++ endL := ⟨_, rfl⟩
              have HQ := Aside0.mk hQ
              clear hQ
              go_wp2_with (at_builtin; (refine Kd.R_append_rows doK (Rr := plain) (w0 := W4) (W := wr.alloc (.cells (endL.flatMap (five (.slice none 65 65))).toArray 58)) W4.heap.size rfl (.tmp 122) (.tmp 125) 48 58 (.agg zDo) 56 rfl Try.underlying48 info_do rfl (by decide) (by decide) u8 (manyL 70) endL (some ⟨wr.heap.size, 0, none⟩) 2 2 (fun _ => True) (fun _ => False) rfl rfl (Kd.R_alloc RV.out _) (plain_row (HoldsRow.new wr _ _) (by decide) (by decide)) plain_M (fun _ hk => hk.elim) (fun _ _ => trivial) (below_alloc RB.out _) (by rw [alloc_size]; have := hb0.out; omega) (by rw [hml]; decide) ?_); intro v1 w6 ho hb hg hat; rw [← HQ.out] at ho; have RV6 := Aside0.mk ho; have RB6 := Aside0.mk hb; clear ho hb hg hat RV RB)
              obtain ⟨A1, c1, rfl⟩ := Kd.R_slice RV6.out
              have hQl : Q.length = 72 := by rw [HQ.out]; rfl
              rw [hQl] at RV6 ⊢
              have B6 := Aside0.mk (B4.out.trans (RB6.out.mono B4.out.size))
              have L6 := Aside0.mk (L4.out.below RB6.out)
              have QL := Aside0.mk hQl
              have Q6 := Aside0.mk (doK_row (Kd.R_reads' RV6.out).2.2 (by rw [HQ.out]; exact many_ok))
              have QC := Aside0.mk (Kd.R_reads' RV6.out).2.1
              clear hQl RV6 RB6 L4 B4 R8 B8 C8 HW4 hb0 hml
              ((with_reducible refine (works_calls w6).mono ?_))
              rintro e w7 ⟨rfl, hb⟩
              have B7 := Aside0.mk (B6.out.trans (hb.mono B6.out.size))
              have L7 := Aside0.mk (L6.out.below hb)
              have Q7 := Aside0.mk (Q6.out.below hb)
              clear hb B6 L6 Q6
              go_wp2_with fail
              ((with_reducible refine (plays_lit 8 (some ⟨b7, 0, none⟩) 29 29 longL w7 long_len L7.out (Nat.le_refl _) (by decide)).mono ?_))
              rintro e w8 ⟨rfl, hb⟩
              have B8 := Aside0.mk (B7.out.trans (hb.mono B7.out.size))
              have Q8 := Aside0.mk (Q7.out.below hb)
              clear hb B7 L7 Q7
              go_wp2_with fail
              ((with_reducible refine (plays_lit 8 A1 72 c1 Q w8 QL.out Q8.out QC.out (by decide)).mono ?_))
              rintro e w9 ⟨rfl, hb⟩
              have B9 := Aside0.mk (B8.out.trans (hb.mono B8.out.size))
              clear hb B8 Q8
              go_wp2_with fail
              go_ret
              exact ⟨rfl, B9.out⟩
end Go.Proofs.Ytkmgbmnjabmhaaa.Ext
