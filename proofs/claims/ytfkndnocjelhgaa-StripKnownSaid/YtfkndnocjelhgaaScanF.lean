/- Both Scans, as the printed texts speak of a function. Condition: a million cells at most; bytes are bytes. -/
import Derived.Test.YtfkndnocjelhgaaScanW
namespace Go.Proofs.Ytfkndnocjelhgaa.Ext
open Go Go.RowKit Go.Proofs.YtfkndnocjelhgaaW.PrintWords Go.Proofs.YtfkndnocjelhgaaW.PrintLast Go.Proofs.YtfkndnocjelhgaaW.PrintMore Go.Proofs.Ytfkndnocjelhgaa.Base Go.Proofs.Ytfkndnocjelhgaa.Arr
set_option linter.unusedVariables false
set_option linter.unusedSimpArgs false

def rowsB (l : List (List Int)) : Bool := l.all bytesB
theorem rows_of {l : List (List Int)} (h : rowsB l = true) : ∀ r ∈ l, Bytes r := fun r hr => bytes_of (List.all_eq_true.1 h r hr)
theorem rows_to {l : List (List Int)} (h : ∀ r ∈ l, Bytes r) : rowsB l = true := List.all_eq_true.2 fun r hr => bytes_to (h r hr)
def strip_Scan.f (l0 : List (List Int)) (a1_0 a1_1 : Int) : Option (List (List Int) × Int) := if rowsB l0 = true ∧ l0.length ≤ 1000000 then some (scanR a1_0 l0 ⟨[], a1_1, true⟩) else none
theorem strip_Scan.calls (A0 : Option Addr) (c0 : Nat) (l0 : List (List Int)) (a1_0 a1_1 : Int) (r1 : List (List Int)) (r2 : Int) (w : World) (hr0 : Kd.C (Kd.slice 5 (Kd.int .u8)) w A0 l0.length l0) (hc0 : l0.length ≤ c0) (h : strip_Scan.f l0 a1_0 a1_1 = some (r1, r2)) :
    Calls Try.prog 26 #[.slice A0 l0.length c0, .agg #[.int .i64 a1_0, .int .i64 a1_1]] w fun e w' => ∃ v0_ : Value, e = .returned (.tuple #[v0_, .int .i64 r2]) ∧ Kd.S (Kd.slice 5 (Kd.int .u8)) 24 w' w.heap.size (fun _ => True) v0_ r1 ∧ Below w.heap.size w w' := by
  unfold strip_Scan.f at h
  split at h
  · rename_i hh
    have hq := Option.some.inj h
    have := Scan_calls w A0 c0 l0 a1_0 a1_1 hr0 hc0 (rows_of hh.1) hh.2
    rw [hq] at this
    exact this
  · cases h
end Go.Proofs.Ytfkndnocjelhgaa.Ext
