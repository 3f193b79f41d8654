/- encorelaw02.spoil, of a row that may begin inside its block: it writes nowhere else. -/
import Derived.Test.YtpkkljlgggfmoaaTake
namespace Go.Proofs.Ytpkkljlgggfmoaa.Ext
open Go.RowKit Go.Proofs.YtpkkljlgggfmoaaW.PrintWords Go.Proofs.YtpkkljlgggfmoaaW.PrintLast Go.Proofs.YtpkkljlgggfmoaaW.PrintMore Go.Proofs.Ytpkkljlgggfmoaa.Base Go.Proofs.Ytpkkljlgggfmoaa.Arr
set_option linter.unusedVariables false
set_option linter.unusedSimpArgs false

set_option maxHeartbeats 2000000 in
set_option maxRecDepth 100000 in
theorem spoil_calls (base : Nat) (ok : Nat → Prop) (u : Value) (l : List Int) (w0 w : World) (hB : Below w0.heap.size w0 w) (hb : w0.heap.size ≤ base) (h : Kd.Q (Kd.int .u8) 5 w base ok u l) :
    Calls Try.prog 28 #[u] w fun e w' => e = .returned (.tuple #[]) ∧ Below w0.heap.size w0 w' ∧ (∀ k, ¬ ok k → w'.heap[k]? = w.heap[k]?) ∧ w'.heap.size = w.heap.size := by
  obtain ⟨A, c, rfl, hc⟩ := Kd.Q_slice h
  have hmax := Kd.C_max (Kd.Q_reads' h).2.2
  by_cases h0 : l.length = 0
  · rw [h0] at h ⊢
    have HB := Aside0.mk hB
    clear hB h
    go_enter Try.func28, Try.ntmps28
    go_wp2_with fail
    go_loopw [2] (fun i wr => i = .int .i64 0 ∧ wr = w) (fun _ _ => 0)
    case atStart => exact ⟨rfl, rfl⟩
    case round =>
      obtain ⟨rfl, rfl⟩ := hrel
      go_wp2_with fail
      first | go_end0 | ((try simp only [Exit.inBlock, Exit.then]); refine bodyPost_ret (results_none rfl _ _ _) rfl ?_)
      exact ⟨rfl, HB.out, fun _ _ => rfl, rfl⟩
  · obtain ⟨g, o, cap, e, hg, hlt, -⟩ := Kd.Q_form h (by omega)
    injection e with e1 e2 e3
    subst e1; subst e3
    generalize hn : l.length = n at *
    have hok : ok g := Kd.Q_ok h g rfl
    have HB := Aside0.mk hB
    have HQ := Aside0.mk h
    clear hB h
    go_enter Try.func28, Try.ntmps28
    go_wp2_with fail
    go_loopw [2] (fun i wr => ∃ (j : Nat) (xs : List Int), j ≤ n ∧ i = .int .i64 (j : Nat) ∧ xs.length = n ∧ Aside0 (Kd.Q (Kd.int .u8) 5 wr base ok (.slice (some ⟨g, o, none⟩) n c) xs) ∧ Aside0 (Below w0.heap.size w0 wr) ∧ Aside0 ((∀ k, ¬ ok k → wr.heap[k]? = w.heap[k]?) ∧ wr.heap.size = w.heap.size)) (fun i _ => n - (intOf i).toNat)
    case atStart => exact ⟨0, l, by omega, rfl, hn, HQ, HB, ⟨fun _ _ => rfl, rfl⟩⟩
    case round =>
      obtain ⟨j, xs, hj, rfl, hx, HQ2, HB2, HK⟩ := hrel
      by_cases hlt2 : j < n
      · have hd : decide ((j : Int) < (n : Int)) = true := decide_eq_true (by omega)
        have hd2 : decide (j < n) = true := decide_eq_true hlt2
        have hcell := Kd.Q_cell (0 : Int) HQ2.out (j : Int) (by omega) (by omega)
        obtain ⟨hcell1, hcell2⟩ := hcell
        rw [Int.toNat_natCast] at hcell1 hcell2
        have HP := Kd.Q_putg HQ2.out (j : Int) (by omega) (by omega) (Go.bits .xor .u8 (rdOf 0 xs j) 90)
        rw [Int.toNat_natCast] at HP
        generalize rdOf 0 xs (j : Int) = x at *
        go_wp2_with fail
        exact ⟨⟨j + 1, xs.set j (Go.bits .xor .u8 x 90), by omega, by rw [show ((j + 1 : Nat) : Int) = (j : Int) + 1 by omega], by rw [List.length_set]; exact hx, ⟨HP.1⟩, ⟨HB2.out.setCell (show w0.heap.size ≤ g by omega) _⟩, ⟨fun k hk => (Below.heap_setCell wr ⟨g, o + j, none⟩ _ k (by rintro rfl; exact hk hok)).trans (HK.out.1 k hk), by rw [← HK.out.2]; simp⟩⟩, by simp [intOf]; omega⟩
      · obtain rfl : j = n := by omega
        have hd : decide ((j : Int) < (j : Int)) = false := by simp
        have hd2 : decide (j < j) = false := by simp
        go_wp2_with fail
        first | go_end0 | ((try simp only [Exit.inBlock, Exit.then]); refine bodyPost_ret (results_none rfl _ _ _) rfl ?_)
        exact ⟨rfl, HB2.out, HK.out.1, HK.out.2⟩
end Go.Proofs.Ytpkkljlgggfmoaa.Ext
