/- bin.read, walked at its one instance, and TakeNum, TakeInt on it. -/
import Derived.Test.YtpkkljlgggfmoaaBin1
import Derived.Test.YtpkkljlgggfmoaaBase2
import Derived.Test.YtpkkljlgggfmoaaClone
namespace Go.Proofs.Ytpkkljlgggfmoaa.Ext
open Go.RowKit Go.Proofs.YtpkkljlgggfmoaaW.PrintWords Go.Proofs.YtpkkljlgggfmoaaW.PrintLast Go.Proofs.YtpkkljlgggfmoaaW.PrintMore Go.Proofs.Ytpkkljlgggfmoaa.Base Go.Proofs.Ytpkkljlgggfmoaa.Arr
set_option linter.unusedVariables false
set_option linter.unusedSimpArgs false

theorem xor_u8_range (x y : Int) : 0 ≤ Go.bits .xor .u8 x y ∧ Go.bits .xor .u8 x y ≤ 255 := by
  have e : Go.bits .xor .u8 x y = IntKind.u8.wrap ((BitVec.ofInt 8 x ^^^ BitVec.ofInt 8 y).toNat : Int) := rfl
  have h := (BitVec.ofInt 8 x ^^^ BitVec.ofInt 8 y).isLt
  rw [e]
  simp only [IntKind.wrap]
  generalize (BitVec.ofInt 8 x ^^^ BitVec.ofInt 8 y).toNat = n at h
  simp [IntKind.bits, IntKind.signed]
  omega
theorem bitLenAux_small (f : Nat) : ∀ x k, x < 2 ^ k → Lib.bitLenAux f x ≤ k := by
  induction f with
  | zero => intro x k _; simp [Lib.bitLenAux]
  | succ f ih =>
    intro x k hx
    simp only [Lib.bitLenAux]
    split
    · omega
    · cases k with
      | zero => simp at hx; omega
      | succ k =>
        have := ih (x / 2) k (by rw [Nat.pow_succ] at hx; omega)
        omega
/-- how many ones a byte begins with -/
def lead (x : Int) : Nat := 8 - Lib.bitLen (Go.bits .xor .u8 IntKind.u8.max x).toNat
theorem lead_le (x : Int) : lead x ≤ 8 := by unfold lead; omega
theorem lead_int (x : Int) : (8 : Int) - (Lib.bitLen (Go.bits .xor .u8 IntKind.u8.max x).toNat : Int) = (lead x : Int) := by
  have h := xor_u8_range IntKind.u8.max x
  have := bitLenAux_small 64 (Go.bits .xor .u8 IntKind.u8.max x).toNat 8 (by omega)
  unfold lead
  have h2 : Lib.bitLen (Go.bits .xor .u8 IntKind.u8.max x).toNat ≤ 8 := this
  omega

/-- what a kind makes of a whole: by the function value that is handed in -/
def AsFn (F : Nat) (af : Int → Int × Int) : Prop := ∀ (v : Int) (w : World), Calls Try.prog F #[.int .u64 v] w fun e w' => e = .returned (.tuple #[.int .i64 (af v).1, .int .i64 (af v).2]) ∧ Drawn0 w w'
theorem number_as : AsFn 32 (fun v => if v > 9007199254740991 then (0, 4) else (wrap64 v, 0)) := fun v w => by
  by_cases h : v > 9007199254740991
  · have := bin_number.calls v 0 4 w (by unfold bin_number.f; rw [if_pos h])
    simpa [h] using this
  · have := bin_number.calls v (wrap64 v) 0 w (by unfold bin_number.f; rw [if_neg h])
    simpa [h] using this
theorem whole_as : AsFn 34 (fun v => (wrap64 (Go.bits .xor .u64 (v / 2) (IntKind.u64.wrap (-(Go.bits .and .u64 v 1)))), 0)) := fun v w => bin_whole.calls v _ 0 w rfl
/-- the whole behind the first byte -/
def rv (l : List Int) (n : Nat) : Nat → Int
  | 0 => Go.bits .and .u64 (IntKind.u64.wrap (rd l 0)) (127 / 2 ^ n)
  | k + 1 => Go.bits .or .u64 (IntKind.u64.wrap (rv l n k * 256)) (IntKind.u64.wrap (rd l (k + 1 : Nat)))
theorem u64_range (op : BinOp) (x y : Int) (h : op = .or ∨ op = .and ∨ op = .xor) : 0 ≤ Go.bits op .u64 x y ∧ Go.bits op .u64 x y ≤ 18446744073709551615 := by
  have hw : ∀ n : Int, 0 ≤ IntKind.u64.wrap n ∧ IntKind.u64.wrap n ≤ 18446744073709551615 := fun n => by
    simp [IntKind.wrap, IntKind.bits, IntKind.signed]
    omega
  rcases h with rfl | rfl | rfl <;> exact hw _
theorem rv_range (l : List Int) (n k : Nat) : 0 ≤ rv l n k ∧ rv l n k ≤ 18446744073709551615 := by
  cases k with
  | zero => exact u64_range .and _ _ (.inr (.inl rfl))
  | succ k => exact u64_range .or _ _ (.inl rfl)
theorem follow_int (x : Int) (w : World) (h0 : 0 ≤ x) (h1 : x ≤ 18446744073709551615) :
    Calls Try.prog 35 #[.int .u64 x] w fun e w' => e = .returned (.int .i64 (fol x.toNat : Nat)) ∧ w = w' := by
  obtain ⟨v, rfl⟩ := Int.eq_ofNat_of_zero_le h0
  exact follow_calls v (by omega) w
/-- what read answers -/
def readF (af : Int → Int × Int) (l : List Int) : Int × List Int × Int :=
  if l.length = 0 then (0, [], 3)
  else if l.length ≤ lead (rd l 0) then (0, [], 3)
  else if fol (rv l (lead (rd l 0)) (lead (rd l 0))).toNat ≠ lead (rd l 0) then (0, [], 4)
  else if (af (rv l (lead (rd l 0)) (lead (rd l 0)))).2 ≠ 0 then (0, [], (af (rv l (lead (rd l 0)) (lead (rd l 0)))).2)
  else ((af (rv l (lead (rd l 0)) (lead (rd l 0)))).1, l.drop (1 + lead (rd l 0)), 0)
def ReadsTo (w : World) (a : Int × List Int × Int) (e : Ending) (w' : World) : Prop :=
  ∃ v1_ : Value, e = .returned (.tuple #[.int .i64 a.1, v1_, .int .i64 a.2.2]) ∧ Kd.R (Kd.int .u8) 5 w' w.heap.size (fun _ => True) v1_ a.2.1 ∧ Below w.heap.size w w'

set_option maxHeartbeats 2000000 in
set_option maxRecDepth 100000 in
theorem read_calls' (F : Nat) (af : Int → Int × Int) (hF : AsFn F af) (hcall : ∀ (a : Array Value) (W : World), (callFunc F a).run Try.prog W = .ok (.enter F a) W) (A0 : Option Addr) (c0 : Nat) (l0 : List Int) (w : World) (hr0 : Kd.C (Kd.int .u8) w A0 l0.length l0) (hc0 : l0.length ≤ c0) (hl : l0.length < 140737488355328) (ans : Int × List Int × Int) (Hans : Aside0 (readF af l0 = ans)) :
    Calls Try.prog 31 #[.slice A0 l0.length c0, .func (.func F) #[] #[]] w (ReadsTo w ans) := by
  have HR := Aside0.mk hr0
  have HF := Aside0.mk hF
  clear hr0 hF
  by_cases h0 : l0.length = 0
  · obtain rfl : ans = (0, [], 3) := by rw [← Hans.out]; unfold readF; rw [if_pos h0]
    have h0b : ((l0.length : Int) == 0) = true := by simp [h0]
    go_enter Try.func31, Try.ntmps31
    go_wp2_with fail
    go_ret3
    exact ⟨.slice none 0 0, rfl, Kd.R_nil _ _ _ _ _, Below.refl _ _⟩
  · have h0b : ((l0.length : Int) == 0) = false := beq_eq_false_iff_ne.mpr (by omega)
    have h0p : (0 : Int) < (l0.length : Int) := by omega
    obtain ⟨ad, rfl, hc⟩ := Kd.at_int HR.out 0 (Int.le_refl 0) h0p
    have hc0' : w.cell? ad = some (.int .u8 (rd l0 0)) := by simpa [Addr.add] using hc
    clear hc
    have hsg : IntKind.u8.signed = false := rfl
    have hxr := xor_u8_range IntKind.u8.max (rd l0 0)
    have HLI := Aside0.mk (lead_int (rd l0 0))
    have hle := lead_le (rd l0 0)
    go_enter Try.func31, Try.ntmps31
    go_wp2_with fail
    refine (Try.bits_LeadingZeros8 _ _ hxr.1 hxr.2).mono ?_
    rintro e w1 ⟨rfl, hw1⟩
    subst hw1
    rw [HLI.out]
    clear HLI hxr
    generalize hq : lead (rd l0 0) = n at *
    have HN := Aside0.mk hq
    clear hq
    by_cases hshort : l0.length ≤ n
    · have hd : decide (l0.length ≤ n) = true := decide_eq_true hshort
      obtain rfl : ans = (0, [], 3) := by rw [← Hans.out]; unfold readF; rw [if_neg h0, HN.out, if_pos hshort]
      go_wp2_with fail
      go_ret3
      exact ⟨.slice none 0 0, rfl, Kd.R_nil _ _ _ _ _, Below.refl _ _⟩
    · have hd : decide (l0.length ≤ n) = false := decide_eq_false hshort
      have hnn : (n : Int) + 1 ≤ (l0.length : Int) := by omega
      by_cases hn0 : n = 0
      · subst hn0
        by_cases hcap : c0 = 1
        all_goals
          go_wp2_with fail
          go_quiet (fail)
          go_wp2_with fail
        all_goals
          go_loop [8, 38] (fun v i => v = .int .u64 (rv l0 0 0) ∧ i = .int .i64 0) (fun _ i => 0)
          case atStart => exact ⟨by simp [rv], rfl⟩
          case round =>
            obtain ⟨rfl, rfl⟩ := hrel
            have hvr := rv_range l0 0 0
            go_wp2_with fail
            refine (follow_int _ _ hvr.1 hvr.2).mono ?_
            rintro e w2 ⟨rfl, rfl⟩
            by_cases hfol : fol (rv l0 0 0).toNat = 0
            · have b1 : (((fol (rv l0 0 0).toNat : Nat) : Int) != (0 : Int)) = false := by simp [hfol]
              have b2 : (fol (rv l0 0 0).toNat != 0) = false := by simp [hfol]
              have Hfol := Aside0.mk hfol
              clear hfol
              go_wp2_with fail
              refine (HF.out _ _).mono ?_
              rintro e w3 ⟨rfl, ⟨nd, rfl⟩⟩
              by_cases he : (af (rv l0 0 0)).2 = 0
              · have b3 : ((af (rv l0 0 0)).2 != 0) = false := by simp [he]
                have Hans2 : Aside0 (ans = ((af (rv l0 0 0)).1, l0.drop 1, 0)) := ⟨by rw [← Hans.out]; unfold readF; rw [if_neg h0, HN.out, if_neg hshort, if_neg (by rw [Hfol.out]; simp), if_neg (by rw [he]; simp)]⟩
                clear he
                generalize (af (rv l0 0 0)).2 = er at *
                generalize (af (rv l0 0 0)).1 = xr at *
                obtain rfl := Hans2.out
                have HR3 := Aside0.mk (Kd.C_drewN HR.out (nq + nd))
                by_cases heq : l0.length = 1
                · have hdr : l0.drop 1 = [] := List.drop_eq_nil_of_le (by omega)
                  rw [hdr]
                  go_wp2_with fail
                  refine (bytes_Clone.calls (some ad) 0 [] [] _ (C_empty _) (Nat.le_refl _) rfl).mono ?_
                  rintro e w5 ⟨v1, rfl, hv, hb⟩
                  replace hb := below_then (pw_below_drewN (Below.refl w1.heap.size w1) (nq + nd)) (Nat.le_refl _) hb
                  go_wp2_with fail
                  go_ret3
                  exact ⟨v1, rfl, (by show Kd.R _ _ _ _ _ _ (l0.drop 1); rw [hdr]; exact hv), hb⟩
                · first
                    | (exfalso; omega)
                    | (have heq2 : ¬ 1 = l0.length := fun h => heq h.symm
                       go_wp2_with fail
                       rw [show l0.length - 1 = (l0.drop 1).length by simp]
                       refine (bytes_Clone.calls (some (ad.add 1)) (l0.drop 1).length (l0.drop 1) (l0.drop 1) _ (C_drop HR3.out _) (Nat.le_refl _) (by unfold bytes_Clone.f; rw [if_pos (by simp; omega)])).mono ?_
                       rintro e w5 ⟨v1, rfl, hv, hb⟩
                       replace hb := below_then (pw_below_drewN (Below.refl w1.heap.size w1) (nq + nd)) (Nat.le_refl _) hb
                       generalize l0.drop 1 = l2 at *
                       go_wp2_with fail
                       go_ret3
                       exact ⟨v1, rfl, hv, hb⟩)
              · have b3 : ((af (rv l0 0 0)).2 != 0) = true := by simp [he]
                obtain rfl : ans = (0, [], (af (rv l0 0 0)).2) := by rw [← Hans.out]; unfold readF; rw [if_neg h0, HN.out, if_neg hshort, if_neg (by rw [Hfol.out]; simp), if_pos he]
                clear he
                generalize (af (rv l0 0 0)).2 = er at *
                go_wp2_with fail
                go_ret3
                exact ⟨.slice none 0 0, rfl, Kd.R_nil _ _ _ _ _, pw_below_drewN (Below.refl _ _) _⟩
            · have b1 : (((fol (rv l0 0 0).toNat : Nat) : Int) != (0 : Int)) = true := by rw [bne_iff_ne]; omega
              have b2 : (fol (rv l0 0 0).toNat != 0) = true := by simp [hfol]
              obtain rfl : ans = (0, [], 4) := by rw [← Hans.out]; unfold readF; rw [if_neg h0, HN.out, if_neg hshort, if_pos hfol]
              clear hfol
              go_wp2_with fail
              go_ret3
              exact ⟨.slice none 0 0, rfl, Kd.R_nil _ _ _ _ _, pw_below_drewN (Below.refl _ _) _⟩
      · have hcap : ¬ c0 = 1 := by omega
        have hcells : ∀ k : Nat, k < n → w1.cell? (ad.add (1 + k)) = some (.int .u8 (rd l0 ((k + 1 : Nat) : Int))) := fun k hk => by
          obtain ⟨ad', e', hc'⟩ := Kd.at_int HR.out ((k + 1 : Nat) : Int) (by omega) (by omega)
          cases e'
          rw [Int.toNat_natCast] at hc'
          rw [Nat.add_comm 1 k]
          exact hc'
        have HCELL := Aside0.mk hcells
        clear hcells
        go_wp2_with fail
        go_quiet (fail)
        go_wp2_with fail
        go_loop [8, 38] (fun v i => ∃ k : Nat, k ≤ n ∧ i = .int .i64 k ∧ v = .int .u64 (rv l0 n k)) (fun _ i => n - (intOf i).toNat)
        case atStart => exact ⟨0, by omega, rfl, rfl⟩
        case round =>
          obtain ⟨k, hk, rfl, rfl⟩ := hrel
          by_cases hlt : k < n
          · have hd2 : decide (k < n) = true := decide_eq_true hlt
            have hc := HCELL.out k hlt
            rw [show ad.add (1 + k) = ⟨ad.block, ad.off + 1 + k, none⟩ by unfold Addr.add; rw [if_neg (by omega), Nat.add_assoc]] at hc
            have Hs := Aside0.mk (show rv l0 n (k + 1) = Go.bits .or .u64 (IntKind.u64.wrap (rv l0 n k * 256)) (IntKind.u64.wrap (rd l0 (k + 1 : Nat))) from rfl)
            generalize rv l0 n k = q at *
            generalize rd l0 ((k + 1 : Nat) : Int) = x at *
            go_wp2_with fail
            exact ⟨⟨k + 1, by omega, by go_num, by rw [Hs.out]⟩, by simp [intOf]; omega⟩
          · obtain rfl : k = n := by omega
            have hd2 : decide (k < k) = false := by simp
            have hvr := rv_range l0 k k
            go_wp2_with fail
            refine (follow_int _ _ hvr.1 hvr.2).mono ?_
            rintro e w2 ⟨rfl, rfl⟩
            by_cases hfol : fol (rv l0 k k).toNat = k
            · have b1 : (((fol (rv l0 k k).toNat : Nat) : Int) != (k : Int)) = false := by simp [hfol]
              have b2 : (fol (rv l0 k k).toNat != k) = false := by simp [hfol]
              have Hfol := Aside0.mk hfol
              clear hfol
              go_wp2_with fail
              refine (HF.out _ _).mono ?_
              rintro e w3 ⟨rfl, ⟨nd, rfl⟩⟩
              by_cases he : (af (rv l0 k k)).2 = 0
              · have b3 : ((af (rv l0 k k)).2 != 0) = false := by simp [he]
                have Hans2 : Aside0 (ans = ((af (rv l0 k k)).1, l0.drop (1 + k), 0)) := ⟨by rw [← Hans.out]; unfold readF; rw [if_neg h0, HN.out, if_neg hshort, if_neg (by rw [Hfol.out]; simp), if_neg (by rw [he]; simp)]⟩
                clear he
                generalize (af (rv l0 k k)).2 = er at *
                generalize (af (rv l0 k k)).1 = xr at *
                obtain rfl := Hans2.out
                have HR3 := Aside0.mk (Kd.C_drewN HR.out (nq + nd))
                by_cases heq : l0.length = 1 + k
                · have hdr : l0.drop (1 + k) = [] := List.drop_eq_nil_of_le (by omega)
                  rw [hdr]
                  go_wp2_with fail
                  refine (bytes_Clone.calls (some ad) 0 [] [] _ (C_empty _) (Nat.le_refl _) rfl).mono ?_
                  rintro e w5 ⟨v1, rfl, hv, hb⟩
                  replace hb := below_then (pw_below_drewN (Below.refl w1.heap.size w1) (nq + nd)) (Nat.le_refl _) hb
                  go_wp2_with fail
                  go_ret3
                  exact ⟨v1, rfl, (by show Kd.R _ _ _ _ _ _ (l0.drop (1 + k)); rw [hdr]; exact hv), hb⟩
                · have heq2 : ¬ 1 + k = l0.length := fun h => heq h.symm
                  go_wp2_with fail
                  rw [show l0.length - (1 + k) = (l0.drop (1 + k)).length by simp]
                  refine (bytes_Clone.calls (some (ad.add (1 + k))) (l0.drop (1 + k)).length (l0.drop (1 + k)) (l0.drop (1 + k)) _ (C_drop HR3.out _) (Nat.le_refl _) (by unfold bytes_Clone.f; rw [if_pos (by simp; omega)])).mono ?_
                  rintro e w5 ⟨v1, rfl, hv, hb⟩
                  replace hb := below_then (pw_below_drewN (Below.refl w1.heap.size w1) (nq + nd)) (Nat.le_refl _) hb
                  generalize l0.drop (1 + k) = l2 at *
                  go_wp2_with fail
                  go_ret3
                  exact ⟨v1, rfl, hv, hb⟩
              · have b3 : ((af (rv l0 k k)).2 != 0) = true := by simp [he]
                obtain rfl : ans = (0, [], (af (rv l0 k k)).2) := by rw [← Hans.out]; unfold readF; rw [if_neg h0, HN.out, if_neg hshort, if_neg (by rw [Hfol.out]; simp), if_pos he]
                clear he
                generalize (af (rv l0 k k)).2 = er at *
                go_wp2_with fail
                go_ret3
                exact ⟨.slice none 0 0, rfl, Kd.R_nil _ _ _ _ _, pw_below_drewN (Below.refl _ _) _⟩
            · have b1 : (((fol (rv l0 k k).toNat : Nat) : Int) != (k : Int)) = true := by rw [bne_iff_ne]; omega
              have b2 : (fol (rv l0 k k).toNat != k) = true := by simp [hfol]
              obtain rfl : ans = (0, [], 4) := by rw [← Hans.out]; unfold readF; rw [if_neg h0, HN.out, if_neg hshort, if_pos hfol]
              clear hfol
              go_wp2_with fail
              go_ret3
              exact ⟨.slice none 0 0, rfl, Kd.R_nil _ _ _ _ _, pw_below_drewN (Below.refl _ _) _⟩
end Go.Proofs.Ytpkkljlgggfmoaa.Ext
