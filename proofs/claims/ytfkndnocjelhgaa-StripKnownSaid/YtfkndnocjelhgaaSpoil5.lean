/- encorelaw05.spoil: it writes into the rows' blocks alone. No condition. -/
import Derived.Test.YtfkndnocjelhgaaSoil
import Derived.Test.YtfkndnocjelhgaaCellsF
namespace Go.Proofs.Ytfkndnocjelhgaa.Ext
open Go Go.RowKit Go.Proofs.YtfkndnocjelhgaaW.PrintWords Go.Proofs.YtfkndnocjelhgaaW.PrintLast Go.Proofs.YtfkndnocjelhgaaW.PrintMore Go.Proofs.Ytfkndnocjelhgaa.Base Go.Proofs.Ytfkndnocjelhgaa.Arr
set_option linter.unusedVariables false
set_option linter.unusedSimpArgs false

set_option maxHeartbeats 4000000 in
set_option maxRecDepth 100000 in
theorem spoil_calls (w0 w : World) (B : Nat) (ok : Nat → Prop) (gl N c : Nat) (hB : Below B w0 w) (hok : ∀ k, ok k → B ≤ k) (h : Soil w ok gl N) (hN : N ≤ 9223372036854775807) :
    Calls Try.prog 18 #[.slice (some ⟨gl, 0, none⟩) N c] w fun e w' => e = .returned (.tuple #[]) ∧ Below B w0 w' ∧ (∀ k, ¬ ok k → w'.heap[k]? = w.heap[k]?) ∧ w'.heap.size = w.heap.size := by
  have HOKB := Aside0.mk hok
  have HSO := Aside0.mk h
  have HB9 := Aside0.mk hB
  clear hok h hB
  go_enter Try.func18, Try.ntmps18
  go_wp2_with fail
  go_loopw [2] (fun i wr => ∃ j : Nat, j ≤ N ∧ i = .int .i64 (j : Nat) ∧ Aside0 (Soil wr ok gl N) ∧ Aside0 (Below B w0 wr) ∧ Aside0 ((∀ k, ¬ ok k → wr.heap[k]? = w.heap[k]?) ∧ wr.heap.size = w.heap.size)) (fun i _ => N - (intOf i).toNat)
  case atStart => exact ⟨0, by omega, rfl, HSO, HB9, ⟨fun _ _ => rfl, rfl⟩⟩
  case round =>
    obtain ⟨i, hi, rfl, HSr, HBr, HKr⟩ := hrel
    clear HB9 HSO
    by_cases hlt2 : i < N
    · have hd : decide ((i : Int) < (N : Int)) = true := decide_eq_true (by omega)
      have hd2 : decide (i < N) = true := decide_eq_true hlt2
      obtain ⟨A, M, c2, hM, hMc, hcell, hrow⟩ := HSr.out.2 i hlt2
      have HCELL := Aside0.mk hcell
      have HROW := Aside0.mk hrow
      clear hcell hrow
      obtain ⟨wo, rfl⟩ : ∃ wo : World, wo = wr := ⟨_, rfl⟩
      go_wp2_with fail
      go_loopw [3] (fun jv wr => ∃ q : Nat, q ≤ M ∧ jv = .int .i64 (q : Nat) ∧ Aside0 (Soil wr ok gl N) ∧ Aside0 (wr.cell? ⟨gl, i, none⟩ = some (.slice A M c2)) ∧ Aside0 (Below B w0 wr) ∧ Aside0 ((∀ k, ¬ ok k → wr.heap[k]? = w.heap[k]?) ∧ wr.heap.size = w.heap.size)) (fun jv _ => M - (intOf jv).toNat)
      case atStart => exact ⟨0, by omega, rfl, HSr, HCELL, HBr, HKr⟩
      case round =>
        obtain ⟨q, hq, rfl, HSq, HCq, HBq, HKq⟩ := hrel
        have K0 := HCq.out
        by_cases hlt3 : q < M
        · have hd3 : decide ((q : Int) < (M : Int)) = true := decide_eq_true (by omega)
          have hd4 : decide (q < M) = true := decide_eq_true hlt3
          obtain ⟨A', M', c', hM', hMc', hcell', hrow'⟩ := HSq.out.2 i hlt2
          have he := Option.some.inj (hcell'.symm.trans K0)
          injection he with he1 he2 he3
          obtain rfl := he1.symm
          obtain rfl := he2.symm
          obtain rfl := he3.symm
          obtain ⟨g, o, rfl, hok, hj⟩ := hrow' (by omega)
          obtain ⟨⟨x, K1⟩, K2⟩ := hj q hlt3
          have HOK := Aside0.mk hok
          clear hrow' hj hok hcell' hM' hMc' HROW HCELL
          go_wp2_with fail
          refine start_ (n := 15) (S := fun w' => w'.cell? ⟨gl, i, none⟩ = some (.slice (some ⟨g, o, none⟩) M c2) ∧ w'.cell? ⟨g, o + q, none⟩ = some (.int .u8 x) ∧ w'.frozen? ⟨g, o + q, none⟩ = false) (ds := [14]) #[false, false, false, false, false, false, false, false, false, false, false, false, false, false, false] (by kernel_rfl) rfl rfl ⟨K0, K1, K2⟩ (fun hHeld => ?_)
          refine pure_ (i := 0) (N := some 19) (v := ?_) (a' := ?_) #[true, false, false, false, false, false, false, false, false, false, false, false, false, false, false] rfl rfl (by kernel_rfl) (fun _ _ _ h => h) (Or.inl ⟨by rfl, ?_⟩) ?_ ?_
          rotate_left
          · intro w'
            go_simp
            with_reducible rfl
          rotate_left
          · simp only [Act.put, List.setIfInBounds_toArray, List.set_cons_zero, List.set_cons_succ, i64_w, i32_w]
            rfl
          refine pure_ (i := 1) (N := some 20) (v := ?_) (a' := ?_) #[true, true, false, false, false, false, false, false, false, false, false, false, false, false, false] rfl rfl (by kernel_rfl) (fun _ _ _ h => h) (Or.inl ⟨by rfl, ?_⟩) ?_ ?_
          rotate_left
          · intro w'
            go_simp
            with_reducible rfl
          rotate_left
          · simp only [Act.put, List.setIfInBounds_toArray, List.set_cons_zero, List.set_cons_succ, i64_w, i32_w]
            rfl
          refine pure_ (i := 2) (N := some 21) (v := ?_) (a' := ?_) #[true, true, true, false, false, false, false, false, false, false, false, false, false, false, false] rfl rfl (by kernel_rfl) (fun _ _ _ h => h) (Or.inl ⟨by rfl, ?_⟩) ?_ ?_
          rotate_left
          · intro w'
            go_simp
            with_reducible rfl
          rotate_left
          · simp only [Act.put, List.setIfInBounds_toArray, List.set_cons_zero, List.set_cons_succ, i64_w, i32_w]
            rfl
          refine pure_ (i := 4) (N := some 23) (v := ?_) (a' := ?_) #[true, true, true, false, true, false, false, false, false, false, false, false, false, false, false] rfl rfl (by kernel_rfl) (fun _ _ _ h => h) (Or.inl ⟨by rfl, ?_⟩) ?_ ?_
          rotate_left
          · intro w'
            go_simp
            with_reducible rfl
          rotate_left
          · simp only [Act.put, List.setIfInBounds_toArray, List.set_cons_zero, List.set_cons_succ, i64_w, i32_w]
            rfl
          refine pure_ (i := 5) (N := some 24) (v := ?_) (a' := ?_) #[true, true, true, false, true, true, false, false, false, false, false, false, false, false, false] rfl rfl (by kernel_rfl) (fun _ _ _ h => h) (Or.inl ⟨by rfl, ?_⟩) ?_ ?_
          rotate_left
          · intro w'
            go_simp
            with_reducible rfl
          rotate_left
          · simp only [Act.put, List.setIfInBounds_toArray, List.set_cons_zero, List.set_cons_succ, i64_w, i32_w]
            rfl
          refine pure_ (i := 6) (N := some 25) (v := ?_) (a' := ?_) #[true, true, true, false, true, true, true, false, false, false, false, false, false, false, false] rfl rfl (by kernel_rfl) (fun _ _ _ h => h) (Or.inl ⟨by rfl, ?_⟩) ?_ ?_
          rotate_left
          · intro w'
            go_simp
            with_reducible rfl
          rotate_left
          · simp only [Act.put, List.setIfInBounds_toArray, List.set_cons_zero, List.set_cons_succ, i64_w, i32_w]
            rfl
          refine pure_ (i := 7) (N := some 26) (v := ?_) (a' := ?_) #[true, true, true, false, true, true, true, true, false, false, false, false, false, false, false] rfl rfl (by kernel_rfl) (fun _ _ _ h => h) (Or.inl ⟨by rfl, ?_⟩) ?_ ?_
          rotate_left
          · intro w'
            go_simp
            with_reducible rfl
          rotate_left
          · simp only [Act.put, List.setIfInBounds_toArray, List.set_cons_zero, List.set_cons_succ, i64_w, i32_w]
            rfl
          refine pure_ (i := 9) (N := some 28) (v := ?_) (a' := ?_) #[true, true, true, false, true, true, true, true, false, true, false, false, false, false, false] rfl rfl (by kernel_rfl) (fun _ _ _ h => h) (Or.inl ⟨by rfl, ?_⟩) ?_ ?_
          rotate_left
          · intro w'
            go_simp
            with_reducible rfl
          rotate_left
          · simp only [Act.put, List.setIfInBounds_toArray, List.set_cons_zero, List.set_cons_succ, i64_w, i32_w]
            rfl
          refine take_ (i := 3) (N := some 22) (v := ?_) (a' := ?_) #[true, true, true, true, true, true, true, true, false, true, false, false, false, false, false] rfl rfl (by kernel_rfl) (fun _ _ _ h => h) (Or.inl ⟨by rfl, ?_⟩) hHeld ?_ ?_
          rotate_left
          · rintro w' ⟨s0, s1, s2⟩
            go_simp
            with_reducible rfl
          rotate_left
          · simp only [Act.put, List.setIfInBounds_toArray, List.set_cons_zero, List.set_cons_succ, i64_w, i32_w]
            rfl
          refine take_ (i := 8) (N := some 27) (v := ?_) (a' := ?_) #[true, true, true, true, true, true, true, true, true, true, false, false, false, false, false] rfl rfl (by kernel_rfl) (fun _ _ _ h => h) (Or.inl ⟨by rfl, ?_⟩) hHeld ?_ ?_
          rotate_left
          · rintro w' ⟨s0, s1, s2⟩
            go_simp
            with_reducible rfl
          rotate_left
          · simp only [Act.put, List.setIfInBounds_toArray, List.set_cons_zero, List.set_cons_succ, i64_w, i32_w]
            rfl
          refine pure_ (i := 10) (N := some 29) (v := ?_) (a' := ?_) #[true, true, true, true, true, true, true, true, true, true, true, false, false, false, false] rfl rfl (by kernel_rfl) (fun _ _ _ h => h) (Or.inl ⟨by rfl, ?_⟩) ?_ ?_
          rotate_left
          · intro w'
            go_simp
            with_reducible rfl
          rotate_left
          · simp only [Act.put, List.setIfInBounds_toArray, List.set_cons_zero, List.set_cons_succ, i64_w, i32_w]
            rfl
          refine take_ (i := 11) (N := some 30) (v := ?_) (a' := ?_) #[true, true, true, true, true, true, true, true, true, true, true, true, false, false, false] rfl rfl (by kernel_rfl) (fun _ _ _ h => h) (Or.inl ⟨by rfl, ?_⟩) hHeld ?_ ?_
          rotate_left
          · rintro w' ⟨s0, s1, s2⟩
            go_simp
            with_reducible rfl
          rotate_left
          · simp only [Act.put, List.setIfInBounds_toArray, List.set_cons_zero, List.set_cons_succ, i64_w, i32_w]
            rfl
          refine pure_ (i := 12) (N := some 31) (v := ?_) (a' := ?_) #[true, true, true, true, true, true, true, true, true, true, true, true, true, false, false] rfl rfl (by kernel_rfl) (fun _ _ _ h => h) (Or.inl ⟨by rfl, ?_⟩) ?_ ?_
          rotate_left
          · intro w'
            go_simp
            with_reducible rfl
          rotate_left
          · simp only [Act.put, List.setIfInBounds_toArray, List.set_cons_zero, List.set_cons_succ, i64_w, i32_w]
            rfl
          refine pure_ (i := 13) (N := some 32) (v := ?_) (a' := ?_) #[true, true, true, true, true, true, true, true, true, true, true, true, true, true, false] rfl rfl (by kernel_rfl) (fun _ _ _ h => h) (Or.inl ⟨by rfl, ?_⟩) ?_ ?_
          rotate_left
          · intro w'
            go_simp
            with_reducible rfl
          rotate_left
          · simp only [Act.put, List.setIfInBounds_toArray, List.set_cons_zero, List.set_cons_succ, i64_w, i32_w]
            rfl
          refine last_ (i := 14) (N := none) #[true, true, true, true, true, true, true, true, true, true, true, true, true, true, true] rfl rfl (by kernel_rfl) (by decide) (fun K hK => ?_)
          refine skip_ (w1 := ?_) (by rfl) rfl ?_ ?_
          rotate_left
          · go_simp
            rfl
          refine hK.out _ _ ?_
          clear hK K
          refine done_ (by kernel_rfl) ?_
          
          go_wp2_with fail
          have HOKX := HOK.out
          have hne : gl ≠ g := fun e => HSq.out.1 (e ▸ HOKX)
          refine ⟨⟨q + 1, by omega, by rw [show ((q + 1 : Nat) : Int) = (q : Int) + 1 by omega], ⟨HSq.out.set (g := g) HOKX⟩, ⟨(World.cell?_setCell_other _ _ _ _ (fun e => hne (congrArg Addr.block e).symm)).trans K0⟩, ⟨(below_drew HBq.out).setCell (show B ≤ g from HOKB.out g HOKX) _⟩, ⟨fun k hk => (Below.heap_setCell _ ⟨g, o + q, none⟩ _ k (fun e => hk (by rw [e]; exact HOKX))).trans (HKq.out.1 k hk), ?_⟩⟩, by simp [intOf]; omega⟩
          have := HKq.out.2
          simpa using this
        · obtain rfl : q = M := by omega
          have hd3 : decide ((q : Int) < (q : Int)) = false := by simp
          have hd4 : decide (q < q) = false := by simp
          go_wp2_with fail
          exact ⟨⟨i + 1, by omega, by rw [show ((i + 1 : Nat) : Int) = (i : Int) + 1 by omega], HSq, HBq, HKq⟩, by simp [intOf]; omega⟩
    · obtain rfl : i = N := by omega
      have hd3 : decide ((i : Int) < (i : Int)) = false := by simp
      have hd4 : decide (i < i) = false := by simp
      go_wp2_with fail
      exact Go.Great.bodyPost_end0 rfl rfl ⟨rfl, HBr.out, HKr.out.1, HKr.out.2⟩
set_option maxHeartbeats 4000000 in
set_option maxRecDepth 100000 in
theorem spoil_nil (w : World) :
    Calls Try.prog 18 #[.slice none 0 0] w fun e w' => e = .returned (.tuple #[]) ∧ w' = w := by
  go_enter Try.func18, Try.ntmps18
  go_wp2_with fail
  go_loopw [2] (fun i wr => i = .int .i64 0 ∧ wr = w) (fun i _ => 0)
  case atStart => exact ⟨rfl, rfl⟩
  case round =>
    obtain ⟨rfl, rfl⟩ := hrel
    go_wp2_with fail
    exact Go.Great.bodyPost_end0 rfl rfl ⟨rfl, rfl⟩
end Go.Proofs.Ytfkndnocjelhgaa.Ext
