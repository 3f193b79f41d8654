/- Disks that are none: each call says so. No condition beyond the pointer's own. -/
import Derived.Test.YtkmgbmnjabmhaaaDoOpen
namespace Go.Proofs.Ytkmgbmnjabmhaaa.Ext
open Go Go.RowKit Go.Proofs.YtkmgbmnjabmhaaaW.PrintWords Go.Proofs.YtkmgbmnjabmhaaaW.PrintLast Go.Proofs.YtkmgbmnjabmhaaaW.PrintMore Go.Proofs.Ytkmgbmnjabmhaaa.Base Go.Proofs.Ytkmgbmnjabmhaaa.Arr
set_option linter.unusedVariables false
set_option linter.unusedSimpArgs false

/-- nil, or a disk that New never made -/
def NoD (W : World) (p : Option Addr) : Prop := p = none ∨ ∃ z, p = some ⟨z, 0, none⟩ ∧ W.cell? ⟨z, 0, none⟩ = some (.slice none 0 0)
theorem NoD.below {W W' : World} {p : Option Addr} (h : NoD W p) (hb : Below W.heap.size W W') : NoD W' p := h.imp id fun ⟨z, e, hc⟩ => ⟨z, e, pw_cell_below hb hc⟩
theorem may_none (w : World) (p : Option Addr) (h : NoD w p) : Calls Try.prog 32 #[.pointer p] w fun e w' => e = .returned (.int .i64 1) ∧ w = w' := by
  have hn := fun (W : World) => Lib.run_eql_slice_nil (P := Try.prog) W 60 68 none 0 0 0 0 Try.underlying60
  rw [Option.isNone_none] at hn
  rcases h with rfl | ⟨z, rfl, k0⟩
  all_goals
    go_enter Try.func32, Try.ntmps32
    go_wp2_with fail
    go_ret
    exact ⟨rfl, rfl⟩
set_option maxHeartbeats 2000000 in
theorem there_none (w : World) (p : Option Addr) (h : NoD w p) (a : Int) : Calls Try.prog 30 #[.pointer p, .int .i64 a] w fun e w' => e = .returned (.int .i64 1) ∧ w = w' := by
  have HN := Aside0.mk h
  clear h
  go_enter Try.func30, Try.ntmps30
  go_wp2_with fail
  ((with_reducible refine (may_none w p HN.out).mono ?_))
  rintro e w1 ⟨rfl, rfl⟩
  go_wp2_with fail
  go_ret
  exact ⟨rfl, rfl⟩
set_option maxHeartbeats 2000000 in
theorem Read_none (w : World) (p : Option Addr) (h : NoD w p) (a : Int) : Calls Try.prog 21 #[.pointer p, .int .i64 a] w fun e w' => e = .returned (.tuple #[.slice none 0 0, .int .i64 1]) ∧ w = w' := by
  have HN := Aside0.mk h
  clear h
  go_enter Try.func21, Try.ntmps21
  go_wp2_with fail
  ((with_reducible refine (there_none w p HN.out a).mono ?_))
  rintro e w1 ⟨rfl, rfl⟩
  go_wp2_with fail
  go_ret2
  exact ⟨rfl, rfl⟩
set_option maxHeartbeats 2000000 in
theorem Write_none (w : World) (p : Option Addr) (h : NoD w p) (a : Int) (v : Value) : Calls Try.prog 11 #[.pointer p, .int .i64 a, v] w fun e w' => e = .returned (.int .i64 1) ∧ w = w' := by
  have HN := Aside0.mk h
  clear h
  go_enter Try.func11, Try.ntmps11
  go_wp2_with fail
  ((with_reducible refine (there_none w p HN.out a).mono ?_))
  rintro e w1 ⟨rfl, rfl⟩
  go_wp2_with fail
  go_ret
  exact ⟨rfl, rfl⟩
set_option maxHeartbeats 2000000 in
theorem Flush_none (w : World) (p : Option Addr) (h : NoD w p) : Calls Try.prog 13 #[.pointer p] w fun e w' => e = .returned (.int .i64 1) ∧ w = w' := by
  have HN := Aside0.mk h
  clear h
  go_enter Try.func13, Try.ntmps13
  go_wp2_with fail
  ((with_reducible refine (may_none w p HN.out).mono ?_))
  rintro e w1 ⟨rfl, rfl⟩
  go_wp2_with fail
  go_ret
  exact ⟨rfl, rfl⟩
set_option maxHeartbeats 2000000 in
theorem Fail_none (w : World) (p : Option Addr) (h : NoD w p) (a b c : Int) : Calls Try.prog 19 #[.pointer p, .int .i64 a, .int .u64 b, .int .i64 c] w fun e w' => e = .returned (.int .i64 1) ∧ w = w' := by
  have HN := Aside0.mk h
  clear h
  go_enter Try.func19, Try.ntmps19
  go_wp2_with fail
  ((with_reducible refine (may_none w p HN.out).mono ?_))
  rintro e w1 ⟨rfl, rfl⟩
  go_wp2_with fail
  go_ret
  exact ⟨rfl, rfl⟩
set_option maxHeartbeats 2000000 in
theorem Crash_none (w : World) (p : Option Addr) (h : NoD w p) (b c : Int) : Calls Try.prog 15 #[.pointer p, .int .u64 b, .int .i64 c] w fun e w' => e = .returned (.int .i64 1) ∧ w = w' := by
  have HN := Aside0.mk h
  clear h
  go_enter Try.func15, Try.ntmps15
  go_wp2_with fail
  ((with_reducible refine (may_none w p HN.out).mono ?_))
  rintro e w1 ⟨rfl, rfl⟩
  go_wp2_with fail
  go_ret
  exact ⟨rfl, rfl⟩
set_option maxHeartbeats 2000000 in
theorem Boot_none (w : World) (p : Option Addr) (h : NoD w p) : Calls Try.prog 16 #[.pointer p] w fun e w' => e = .returned (.int .i64 1) ∧ w = w' := by
  have HN := Aside0.mk h
  clear h
  go_enter Try.func16, Try.ntmps16
  go_wp2_with fail
  ((with_reducible refine (may_none w p HN.out).mono ?_))
  rintro e w1 ⟨rfl, rfl⟩
  go_wp2_with fail
  go_ret
  exact ⟨rfl, rfl⟩
set_option maxHeartbeats 2000000 in
theorem Dead_none (w : World) (p : Option Addr) (h : NoD w p) : Calls Try.prog 20 #[.pointer p] w fun e w' => e = .returned (.bool false) ∧ w = w' := by
  have HN := Aside0.mk h
  clear h
  go_enter Try.func20, Try.ntmps20
  go_wp2_with fail
  ((with_reducible refine (may_none w p HN.out).mono ?_))
  rintro e w1 ⟨rfl, rfl⟩
  go_wp2_with fail
  go_ret
  exact ⟨rfl, rfl⟩
set_option maxHeartbeats 2000000 in
theorem Waits_none (w : World) (p : Option Addr) (h : NoD w p) : Calls Try.prog 14 #[.pointer p] w fun e w' => e = .returned (.int .i64 0) ∧ w = w' := by
  have HN := Aside0.mk h
  clear h
  go_enter Try.func14, Try.ntmps14
  go_wp2_with fail
  ((with_reducible refine (may_none w p HN.out).mono ?_))
  rintro e w1 ⟨rfl, rfl⟩
  go_wp2_with fail
  go_ret
  exact ⟨rfl, rfl⟩
set_option maxHeartbeats 2000000 in
theorem Size_none (w : World) (p : Option Addr) (h : NoD w p) : Calls Try.prog 28 #[.pointer p] w fun e w' => e = .returned (.int .i64 0) ∧ w = w' := by
  have HN := Aside0.mk h
  clear h
  go_enter Try.func28, Try.ntmps28
  go_wp2_with fail
  ((with_reducible refine (may_none w p HN.out).mono ?_))
  rintro e w1 ⟨rfl, rfl⟩
  go_wp2_with fail
  go_ret
  exact ⟨rfl, rfl⟩
/-! ### rows of []Do of the law's own -/
def doK : Kd DoT := Kd.pair (Kd.int .i64) (Kd.pair (Kd.int .i64) (Kd.pair (Kd.int .i64) (Kd.pair (Kd.int .u64) (Kd.slice 5 (Kd.int .u8)))))
theorem doK_cells {W : World} {d : DoT} {cs : List Value} (h : doK.K W d cs) : ∃ A c, cs = [.int .i64 d.1, .int .i64 d.2.1, .int .i64 d.2.2.1, .int .u64 d.2.2.2.1, .slice A d.2.2.2.2.length c] ∧ d.2.2.2.2.length ≤ c ∧ Kd.C (Kd.int .u8) W A d.2.2.2.2.length d.2.2.2.2 := by
  obtain ⟨c0, c1, rfl, h0, c2, c3, rfl, h1, c4, c5, rfl, h2, c6, c7, rfl, h3, A, c, rfl, h4, h5⟩ := h
  have q0 : c0 = [Value.int .i64 d.1] := h0
  have q1 : c2 = [Value.int .i64 d.2.1] := h1
  have q2 : c4 = [Value.int .i64 d.2.2.1] := h2
  have q3 : c6 = [Value.int .u64 d.2.2.2.1] := h3
  exact ⟨A, c, by rw [q0, q1, q2, q3]; rfl, h4, h5⟩
theorem doK_row {W : World} {A : Option Addr} {n : Nat} {l : List DoT} (h : doK.C W A n l) (hs : ∀ d ∈ l, d.2.2.2.2.length < 140737488355328 ∧ d.2.1 ≤ 9223372036854775807) : DoRow W A l := by
  intro j d hj
  have hlt := (List.getElem?_eq_some_iff.1 hj).1
  obtain ⟨ad, e, hc⟩ := h.2.2 (by have := h.1; omega)
  obtain ⟨c, -, hk, hcell⟩ := hc j d hj
  obtain ⟨A', c', rfl, h1, h2⟩ := doK_cells hk
  exact ⟨ad, A', c', e, ⟨hcell 0 _ rfl, hcell 1 _ rfl, hcell 2 _ rfl, hcell 3 _ rfl, hcell 4 _ rfl⟩, h1, h2, (hs d (List.mem_of_getElem? hj)).1, (hs d (List.mem_of_getElem? hj)).2⟩
/-- a literal's five values of each; g: the one row of 65 bytes -/
def sv (g : Value) : List Int → Value
  | [] => .slice none 0 0
  | _ :: _ => g
def five (g : Value) (d : DoT) : List Value := [.int .i64 d.1, .int .i64 d.2.1, .int .i64 d.2.2.1, .int .u64 d.2.2.2.1, sv g d.2.2.2.2]
theorem fives (g : Value) : ∀ (l : List DoT) (j : Nat) (d : DoT) (i : Nat), l[j]? = some d → i < 5 → (l.flatMap (five g))[j * 5 + i]? = (five g d)[i]?
  | x :: r, 0, d, i, h, hi => by
    obtain rfl := Option.some.inj h
    rw [List.flatMap_cons, Nat.zero_mul, Nat.zero_add, List.getElem?_append_left hi]
  | x :: r, j + 1, d, i, h, hi => by
    rw [List.flatMap_cons, List.getElem?_append_right (by show 5 ≤ _; omega)]
    have e : (j + 1) * 5 + i - (five g x).length = j * 5 + i := by show (j + 1) * 5 + i - 5 = _; omega
    rw [e]
    exact fives g r j d i h hi
  | [], j, d, i, h, hi => by simp at h
theorem lit_row {W : World} {b c : Nat} {A : Option Addr} {t : TypeId} {l : List DoT} (h : HoldsRow W b t (l.flatMap (five (.slice A 65 c))).toArray) (hc65 : 65 ≤ c) (hs : ∀ d ∈ l, (d.2.2.2.2 = [] ∨ (d.2.2.2.2.length = 65 ∧ Kd.C (Kd.int .u8) W A 65 d.2.2.2.2)) ∧ d.2.1 ≤ 9223372036854775807) : DoRow W (some ⟨b, 0, none⟩) l := by
  intro j d hj
  obtain ⟨h1, h2⟩ := hs d (List.mem_of_getElem? hj)
  have hc : ∀ i v, i < 5 → (five (.slice A 65 c) d)[i]? = some v → W.cell? ((⟨b, 0, none⟩ : Addr).add (j * 5 + i)) = some v := fun i v hi hv => by
    have := h.cell (j := j * 5 + i) (v := v) (by rw [List.getElem?_toArray, fives _ l j d i hj hi, hv])
    unfold Addr.add
    split
    · rename_i e; rw [e] at this; exact this
    · rw [Nat.zero_add]; exact this
  rcases h1 with e | ⟨e, hr⟩
  · refine ⟨_, none, 0, rfl, ⟨hc 0 _ (by omega) rfl, hc 1 _ (by omega) rfl, hc 2 _ (by omega) rfl, hc 3 _ (by omega) rfl, ?_⟩, by rw [e]; exact Nat.le_refl _, by rw [e]; exact Kd.C_nil _ _, by rw [e]; decide, h2⟩
    refine hc 4 _ (by omega) ?_
    show some (sv (.slice A 65 c) d.2.2.2.2) = _
    rw [e]; rfl
  · refine ⟨_, A, c, rfl, ⟨hc 0 _ (by omega) rfl, hc 1 _ (by omega) rfl, hc 2 _ (by omega) rfl, hc 3 _ (by omega) rfl, ?_⟩, by rw [e]; exact hc65, by rw [e]; exact hr, by rw [e]; decide, h2⟩
    refine hc 4 _ (by omega) ?_
    show some (sv (.slice A 65 c) d.2.2.2.2) = _
    cases hd : d.2.2.2.2 with
    | nil => rw [hd] at e; simp at e
    | cons a q => rw [hd] at e; rw [e]; rfl
end Go.Proofs.Ytkmgbmnjabmhaaa.Ext
