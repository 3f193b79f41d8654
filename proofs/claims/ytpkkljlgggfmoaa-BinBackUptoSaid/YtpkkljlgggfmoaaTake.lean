/- bin.written, bin.TakeNum, bin.TakeInt in the print's form. Conditions: a whole of 64 bits; a row that append bears. -/
import Derived.Test.YtpkkljlgggfmoaaRead
namespace Go.Proofs.Ytpkkljlgggfmoaa.Ext
open Go.RowKit Go.Proofs.YtpkkljlgggfmoaaW.PrintWords Go.Proofs.YtpkkljlgggfmoaaW.PrintLast Go.Proofs.YtpkkljlgggfmoaaW.PrintMore Go.Proofs.Ytpkkljlgggfmoaa.Base Go.Proofs.Ytpkkljlgggfmoaa.Arr
set_option linter.unusedVariables false
set_option linter.unusedSimpArgs false

def bin_written.f (a0 : Int) : Option (List Int) := if 0 ≤ a0 ∧ a0 ≤ 18446744073709551615 then some (wrL (fol a0.toNat) a0.toNat) else none
theorem bin_written.calls (a0 : Int) (r : List Int) (w : World) (h : bin_written.f a0 = some r) :
    Calls Try.prog 29 #[.int .u64 a0] w fun e w' => ∃ v0_ : Value, e = .returned (v0_) ∧ Kd.R (Kd.int .u8) 5 w' w.heap.size (fun _ => True) v0_ r ∧ Below w.heap.size w w' := by
  unfold bin_written.f at h
  split at h
  case isTrue hc =>
    obtain rfl := Option.some.inj h
    have := written_calls a0.toNat (by omega) w
    rw [show ((a0.toNat : Nat) : Int) = a0 by omega] at this
    exact this
  case isFalse => cases h

theorem enters_number (a : Array Value) (W : World) : (callFunc 32 a).run Try.prog W = .ok (.enter 32 a) W := enters_ Try.func32 (by kernel_rfl) rfl a W
theorem enters_whole (a : Array Value) (W : World) : (callFunc 34 a).run Try.prog W = .ok (.enter 34 a) W := enters_ Try.func34 (by kernel_rfl) rfl a W
def numberF (v : Int) : Int × Int := if v > 9007199254740991 then (0, 4) else (wrap64 v, 0)
def wholeF (v : Int) : Int × Int := (wrap64 (Go.bits .xor .u64 (v / 2) (IntKind.u64.wrap (-(Go.bits .and .u64 v 1)))), 0)

def bin_TakeNum.f (l0 : List Int) : Option (Int × List Int × Int) := if l0.length < 140737488355328 then some (readF numberF l0) else none
theorem bin_TakeNum.calls (A0 : Option Addr) (c0 : Nat) (l0 : List Int) (r1 : Int) (r2 : List Int) (r3 : Int) (w : World) (hr0 : Kd.C (Kd.int .u8) w A0 l0.length l0) (hc0 : l0.length ≤ c0) (h : bin_TakeNum.f l0 = some (r1, r2, r3)) :
    Calls Try.prog 22 #[.slice A0 l0.length c0] w fun e w' => ∃ v1_ : Value, e = .returned (.tuple #[.int .i64 r1, v1_, .int .i64 r3]) ∧ Kd.R (Kd.int .u8) 5 w' w.heap.size (fun _ => True) v1_ r2 ∧ Below w.heap.size w w' := by
  unfold bin_TakeNum.f at h
  split at h
  case isTrue hl =>
    have h := Option.some.inj h
    have H := Aside0.mk h
    have HR := Aside0.mk hr0
    clear h hr0
    go_enter Try.func22, Try.ntmps22
    go_wp2_with fail
    refine (read_calls' _ numberF number_as enters_number A0 c0 l0 w HR.out hc0 hl _ H).mono ?_
    rintro e w' ⟨v1, rfl, hv, hb⟩
    go_wp2_with fail
    go_ret3
    exact ⟨v1, rfl, hv, hb⟩
  case isFalse => cases h
def bin_TakeInt.f (l0 : List Int) : Option (Int × List Int × Int) := if l0.length < 140737488355328 then some (readF wholeF l0) else none
theorem bin_TakeInt.calls (A0 : Option Addr) (c0 : Nat) (l0 : List Int) (r1 : Int) (r2 : List Int) (r3 : Int) (w : World) (hr0 : Kd.C (Kd.int .u8) w A0 l0.length l0) (hc0 : l0.length ≤ c0) (h : bin_TakeInt.f l0 = some (r1, r2, r3)) :
    Calls Try.prog 24 #[.slice A0 l0.length c0] w fun e w' => ∃ v1_ : Value, e = .returned (.tuple #[.int .i64 r1, v1_, .int .i64 r3]) ∧ Kd.R (Kd.int .u8) 5 w' w.heap.size (fun _ => True) v1_ r2 ∧ Below w.heap.size w w' := by
  unfold bin_TakeInt.f at h
  split at h
  case isTrue hl =>
    have h := Option.some.inj h
    have H := Aside0.mk h
    have HR := Aside0.mk hr0
    clear h hr0
    go_enter Try.func24, Try.ntmps24
    go_wp2_with fail
    refine (read_calls' _ wholeF whole_as enters_whole A0 c0 l0 w HR.out hc0 hl _ H).mono ?_
    rintro e w' ⟨v1, rfl, hv, hb⟩
    go_wp2_with fail
    go_ret3
    exact ⟨v1, rfl, hv, hb⟩
  case isFalse => cases h
end Go.Proofs.Ytpkkljlgggfmoaa.Ext
