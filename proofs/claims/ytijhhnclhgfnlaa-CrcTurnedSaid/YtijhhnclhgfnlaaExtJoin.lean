/- encoreref01.Join comes to its rows, doubled and put over each other. No condition. -/
import Derived.Test.YtijhhnclhgfnlaaExtThrough
namespace Go.Proofs.Ytijhhnclhgfnlaa.Ext
open Go.RowKit Go.Proofs.YtijhhnclhgfnlaaW.PrintWords Go.Proofs.YtijhhnclhgfnlaaW.PrintLast Go.Proofs.YtijhhnclhgfnlaaW.PrintMore Go.Proofs.Ytijhhnclhgfnlaa.Base Go.Proofs.Ytijhhnclhgfnlaa.Arr
set_option linter.unusedVariables false
set_option linter.unusedSimpArgs false

/-- a register goes down behind a bit 0 -/
def rdn (x : Int) : Int := if (Go.bits .and .u32 (Go.bits .xor .u32 x 0) 1) = 1 then Go.bits .xor .u32 (x / 2) 2197175160 else x / 2
theorem rdn_of (x : Int) : encoreref01_down.f x 0 = some (rdn x) := by
  unfold encoreref01_down.f rdn
  split <;> rfl
def rdnk : Nat → Int → Int
  | 0, x => x
  | k + 1, x => rdn (rdnk k x)
/-- the first row, behind i rounds -/
def lstF (i j : Nat) : Int := if j < i then rdnk 8 (2 ^ j % 4294967296) else 0
def lstR (i : Nat) : List Int := (List.range 32).map (lstF i)
theorem lstR_len (i : Nat) : (lstR i).length = 32 := by simp [lstR]
theorem lstR_rd (i j : Nat) (h : j < 32) : rd (lstR i) j = lstF i j := by simp [lstR, rd, h]
theorem rowV_one (L : List Int) : (rowV L).all (·.oneCell') = true := by
  rw [Array.all_eq_true_iff_forall_mem]
  intro x hx
  simp [rowV, nums] at hx
  obtain ⟨y, _, rfl⟩ := hx
  rfl
theorem rowV_set (L : List Int) (i : Nat) (v : Int) : (rowV L).setIfInBounds i (.int .u32 v) = rowV (L.set i v) := by
  simp [rowV, nums, List.map_set]
theorem rowV_zero : rowV (lstR 0) = #[.int .u32 0, .int .u32 0, .int .u32 0, .int .u32 0, .int .u32 0, .int .u32 0, .int .u32 0, .int .u32 0, .int .u32 0, .int .u32 0, .int .u32 0, .int .u32 0, .int .u32 0, .int .u32 0, .int .u32 0, .int .u32 0, .int .u32 0, .int .u32 0, .int .u32 0, .int .u32 0, .int .u32 0, .int .u32 0, .int .u32 0, .int .u32 0, .int .u32 0, .int .u32 0, .int .u32 0, .int .u32 0, .int .u32 0, .int .u32 0, .int .u32 0, .int .u32 0] := by
  simp [rowV, nums, lstR, lstF, List.range, List.range.loop]
theorem lstR_step (i : Nat) (h : i < 32) : (lstR i).set i (rdnk 8 (2 ^ i % 4294967296)) = lstR (i + 1) := by
  apply List.ext_getElem
  · simp [lstR]
  · intro j h1 h2
    simp only [lstR, List.length_map, List.length_range] at h2
    rw [List.getElem_set]
    by_cases e : i = j
    · subst e
      simp [lstR, lstF]
    · rw [if_neg e]
      have hh : (j < i) = (j < i + 1) := by simp; omega
      simp only [lstR, List.getElem_map, List.getElem_range, lstF, hh]
/-- each row through all of them -/
def twice (L : List Int) : List Int := L.map fun x => thr L x 32
def twF (L : List Int) (i j : Nat) : Int := if j < i then thr L (rd L j) 32 else 0
def twR (L : List Int) (i : Nat) : List Int := (List.range 32).map (twF L i)
theorem twR_len (L : List Int) (i : Nat) : (twR L i).length = 32 := by simp [twR]
theorem twR_zero (L : List Int) : twR L 0 = lstR 0 := by simp [twR, lstR, twF, lstF]
theorem twR_step (L : List Int) (i : Nat) (h : i < 32) : (twR L i).set i (thr L (rd L i) 32) = twR L (i + 1) := by
  apply List.ext_getElem
  · simp [twR]
  · intro j h1 h2
    simp only [twR, List.length_map, List.length_range] at h2
    rw [List.getElem_set]
    by_cases e : i = j
    · subst e
      simp [twR, twF]
    · rw [if_neg e]
      have hh : (j < i) = (j < i + 1) := by simp; omega
      simp only [twR, List.getElem_map, List.getElem_range, twF, hh]
theorem twR_all (L : List Int) (hL : L.length = 32) : twR L 32 = twice L := by
  apply List.ext_getElem
  · simp [twR, twice, hL]
  · intro j h1 h2
    simp only [twR, List.length_map, List.length_range] at h1
    simp [twR, twF, twice, h1, rd, hL]
theorem twice_len (L : List Int) (hL : L.length = 32) : (twice L).length = 32 := by simp [twice, hL]
def joinL (L : List Int) : Nat → Int → Int → Int
  | 0, r, _ => r
  | f + 1, r, n => if 0 < n then joinL (twice L) f (if Go.bits .and .i64 n 1 = 1 then thr L r 32 else r) (n / 2) else r

theorem joinL_step (L : List Int) (f : Nat) (R N : Int) (h : 0 < N) (hf : N.toNat ≤ f) : joinL L f R N = joinL (twice L) (f - 1) (if Go.bits .and .i64 N 1 = 1 then thr L R 32 else R) (N / 2) := by
  obtain ⟨f, rfl⟩ : ∃ m, f = m + 1 := ⟨f - 1, by omega⟩
  simp only [joinL, if_pos h, Nat.add_sub_cancel]
theorem joinL_done (L : List Int) (f : Nat) (R N : Int) (h : ¬ 0 < N) : joinL L f R N = R := by
  cases f with
  | zero => rfl
  | succ f => simp only [joinL, if_neg h]

set_option maxHeartbeats 2000000 in
set_option maxRecDepth 100000 in
theorem join_calls (a0 a1 a2 z : Int) (w : World) (Hz : Aside0 (z = joinL (lstR 32) a2.toNat a0 a2)) :
    Calls Try.prog 19 #[.int .u32 a0, .int .u32 a1, .int .i64 a2] w fun e w' => e = .returned (.int .u32 (Go.bits .xor .u32 z a1)) ∧ Below w.heap.size w w' := by
  go_enter Try.func19, Try.ntmps19
  go_wp2_with fail
  obtain ⟨w1, hw1⟩ : ∃ w1 : World, w1 = w.alloc (.cells (rowV (lstR 0)) 41) := ⟨_, rfl⟩
  have hrow1 : HoldsRow w1 w.heap.size 41 (rowV (lstR 0)) := by rw [hw1]; exact HoldsRow.new _ _ _
  have hb1 : Below w.heap.size w w1 := by rw [hw1]; exact (Below.refl _ _).alloc (Nat.le_refl _) _
  rw [rowV_zero] at hw1
  rw [← hw1]
  clear hw1
  go_loopw [8] (fun i wr => ∃ k : Nat, k ≤ 32 ∧ i = .int .i64 k ∧ HoldsRow wr w.heap.size 41 (rowV (lstR k)) ∧ Below w.heap.size w wr) (fun i _ => 32 - (intOf i).toNat)
  case atStart => exact ⟨0, by omega, rfl, hrow1, hb1⟩
  case round =>
    clear hrow1 hb1
    obtain ⟨k, hk, rfl, hrow, hb⟩ := hrel
    by_cases hlt : k < 32
    · have hc := hrow.cell (rowV_get (lstR k) k (by rw [lstR_len]; exact hlt))
      have hf := hrow.free k
      have hd : decide ((k : Int) < 32) = true := by simp; omega
      go_wp2_with fail
      clear hd
      obtain ⟨wo, hwo⟩ : ∃ wo : World, wo = wr.setCell ⟨w.heap.size, k, none⟩ (.int .u32 (2 ^ k % 4294967296)) := ⟨_, rfl⟩
      have hrow1 : HoldsRow wo w.heap.size 41 (rowV ((lstR k).set k (rdnk 0 (2 ^ k % 4294967296)))) := by rw [hwo, ← rowV_set]; exact hrow.set k _
      have hb1 : Below w.heap.size w wo := by rw [hwo]; exact hb.setCell (Nat.le_refl _) _
      rw [← hwo]
      clear hwo hc hf hrow hb
      have Hst := Aside0.mk (lstR_step k hlt)
      generalize (2 ^ k % 4294967296 : Int) = z at *
      go_loopw [9] (fun i wr => ∃ m : Nat, m ≤ 8 ∧ i = .int .i64 m ∧ HoldsRow wr w.heap.size 41 (rowV ((lstR k).set k (rdnk m z))) ∧ Below w.heap.size w wr) (fun i _ => 8 - (intOf i).toNat)
      case atStart => exact ⟨0, by omega, rfl, hrow1, hb1⟩
      case round =>
        clear hrow1 hb1
        obtain ⟨m, hm, rfl, hrow, hb⟩ := hrel
        by_cases hlm : m < 8
        · have hc := hrow.cell (j := k) (v := .int .u32 (rdnk m z)) (by rw [rowV_get _ _ (by simp [lstR_len, hlt])]; simp [rd, lstR_len, hlt])
          have hf := hrow.free k
          have hdm : decide ((m : Int) < 8) = true := by simp; omega
          go_wp2_with fail
          refine (encoreref01_down.calls (rdnk m z) 0 (rdnk (m + 1) z) _ (rdn_of _)).mono ?_
          rintro e w' ⟨rfl, ⟨nd, rfl⟩⟩
          go_wp2_with fail
          go_roundw
          case rel => exact ⟨m + 1, by omega, by go_num, (by have h := (hrow.drewN nd).set k (.int .u32 (rdnk (m + 1) z)); rw [rowV_set, List.set_set] at h; exact h), (pw_below_drewN hb nd).setCell (Nat.le_refl _) _⟩
          case measure => simp [intOf]; omega
        · obtain rfl : m = 8 := by omega
          rw [Hst.out] at hrow
          have hdm : decide (((8 : Nat) : Int) < 8) = false := by simp
          go_wp2_with fail
          go_roundw
          case rel => exact ⟨k + 1, by omega, by go_num, hrow, hb⟩
          case measure => simp [intOf]; omega
    · obtain rfl : k = 32 := by omega
      rw [show ((32 : Nat) : Int) = 32 from rfl]
      have hd : decide ((32 : Int) < 32) = false := by simp
      have HL := Aside0.mk (lstR_len 32)
      go_wp2_with fail
      go_loopw [2, 10] (fun n r wr => ∃ (N R : Int) (f : Nat) (L : List Int), n = .int .i64 N ∧ r = .int .u32 R ∧ Aside0 (L.length = 32) ∧ HoldsRow wr w.heap.size 41 (rowV L) ∧ Below w.heap.size w wr ∧ Aside0 (N.toNat ≤ f) ∧ Aside0 (z = joinL L f R N)) (fun n _ _ => (intOf n).toNat)
      case atStart => exact ⟨a2, a0, a2.toNat, lstR 32, rfl, rfl, HL, hrow, hb, ⟨Nat.le_refl _⟩, Hz⟩
      case round =>
        clear hrow hb HL Hz
        obtain ⟨N, R, f, L, rfl, rfl, HL, hrow, hb, HN, Hz⟩ := hrel
        by_cases hpos : 0 < N
        · have hdp : decide (0 < N) = true := by simpa using hpos
          obtain ⟨R2, HR2⟩ : ∃ R2, Aside0 (R2 = if Go.bits .and .i64 N 1 = 1 then thr L R 32 else R) := ⟨_, ⟨rfl⟩⟩
          have Hz2 : Aside0 (z = joinL (twice L) (f - 1) R2 (N / 2)) := ⟨by rw [Hz.out, HR2.out]; exact joinL_step L f R N hpos HN.out⟩
          have HN2 : Aside0 ((N / 2).toNat ≤ f - 1) := ⟨by have := HN.out; omega⟩
          clear Hz HN
          by_cases hbit : Go.bits .and .i64 N 1 = 1
          case' pos =>
            have hbb : (Go.bits .and .i64 N 1 == 1) = true := beq_iff_eq.mpr hbit
            have HT := Aside0.mk (show thr L R 32 = R2 by rw [HR2.out, if_pos hbit])
            clear hbit
            go_wp2_with (first | (refine wpList_load_row rfl 41 _ rfl w.heap.size rfl 41 (rowV L) (0, 0) _ hrow Try.underlying41 rfl (by rw [rowV_size, HL.out]; kernel_rfl) ?_))
            refine (encoreref01_through.calls L HL.out R _).mono ?_
            rw [HT.out]
            rintro e w3 ⟨rfl, hb3⟩
            have hrow3 := hrow.below hb3 hrow.lt
            have hb4 := below_then hb hb.size hb3
            clear hrow hb hb3 HT HR2
            go_wp2_with fail
          case' neg =>
            have hbb : (Go.bits .and .i64 N 1 == 1) = false := beq_eq_false_iff_ne.mpr hbit
            obtain rfl : R2 = R := by rw [HR2.out, if_neg hbit]
            have hrow3 := hrow
            have hb4 := hb
            clear hrow hb hbit HR2
            generalize wr = w3 at *
            go_wp2_with fail
          all_goals
            clear hdp hbb
            obtain ⟨w4, hw4⟩ : ∃ w4 : World, w4 = w3.alloc (.cells (rowV (lstR 0)) 41) := ⟨_, rfl⟩
            have hA0 : HoldsRow w4 w.heap.size 41 (rowV L) := by rw [hw4]; exact hrow3.alloc _
            have hC0 : HoldsRow w4 w3.heap.size 41 (rowV (twR L 0)) := by rw [hw4, twR_zero]; exact HoldsRow.new _ _ _
            have hB0 : Below w.heap.size w w4 := by rw [hw4]; exact hb4.alloc hb4.size _
            have hlt3 : w.heap.size < w3.heap.size := hrow3.lt
            rw [rowV_zero] at hw4
            rw [← hw4]
            clear hw4 hrow3 hb4
            generalize w3.heap.size = b3 at *
            go_loopw [12] (fun i wr => ∃ k : Nat, k ≤ 32 ∧ i = .int .i64 k ∧ HoldsRow wr w.heap.size 41 (rowV L) ∧ HoldsRow wr b3 41 (rowV (twR L k)) ∧ Below w.heap.size w wr) (fun i _ => 32 - (intOf i).toNat)
            case atStart => exact ⟨0, by omega, rfl, hA0, hC0, hB0⟩
            case round =>
              clear hA0 hC0 hB0
              obtain ⟨k, hk, rfl, hA, hC, hB⟩ := hrel
              by_cases hlt : k < 32
              · have hdk : decide ((k : Int) < 32) = true := by simp; omega
                go_wp2_with fail
                have hk0 := eq_true (show (0 : Int) ≤ (k : Int) by omega)
                have hk1 := eq_true (show (k : Int) < 32 by omega)
                replace hA : HoldsRow wr.drew w.heap.size 41 (rowV L) := hA
                replace hC : HoldsRow wr.drew b3 41 (rowV (twR L k)) := hC
                replace hB : Below w.heap.size w wr.drew := below_drew hB
                refine start_ (n := 8) (S := fun w' => w'.heap[w.heap.size]? = some (.cells (rowV L) 41 (0, 0)) ∧ w'.cell? ⟨w.heap.size, k, none⟩ = some (.int .u32 (rd L k))) (ds := [7]) #[false, false, false, false, false, false, false, false] (by kernel_rfl) rfl rfl ⟨hA, (hA.cell (rowV_get L k (by rw [HL.out]; exact hlt)))⟩ (fun hHeld => ?_)
                generalize wr.drew = wd at hA hC hB hHeld ⊢
                refine pure_ (i := 0) (N := some 44) (v := ?_) (a' := ?_) #[true, false, false, false, false, false, false, false] rfl rfl (by kernel_rfl) (fun _ _ _ h => h) (Or.inl ⟨by rfl, ?_⟩) ?_ ?_
                rotate_left
                · intro w'
                  go_simp
                  with_reducible rfl
                rotate_left
                · simp only [Act.put, List.setIfInBounds_toArray, List.set_cons_zero, List.set_cons_succ, i64_w, i32_w]
                  rfl
                refine pure_ (i := 2) (N := some 46) (v := ?_) (a' := ?_) #[true, false, true, false, false, false, false, false] rfl rfl (by kernel_rfl) (fun _ _ _ h => h) (Or.inl ⟨by rfl, ?_⟩) ?_ ?_
                rotate_left
                · intro w'
                  go_simp
                  with_reducible rfl
                rotate_left
                · simp only [Act.put, List.setIfInBounds_toArray, List.set_cons_zero, List.set_cons_succ, i64_w, i32_w]
                  rfl
                refine pure_ (i := 3) (N := some 47) (v := ?_) (a' := ?_) #[true, false, true, true, false, false, false, false] rfl rfl (by kernel_rfl) (fun _ _ _ h => h) (Or.inl ⟨by rfl, ?_⟩) ?_ ?_
                rotate_left
                · intro w'
                  go_simp
                  with_reducible rfl
                rotate_left
                · simp only [Act.put, List.setIfInBounds_toArray, List.set_cons_zero, List.set_cons_succ, i64_w, i32_w]
                  rfl
                refine take_ (i := 1) (N := some 45) (v := ?_) (a' := ?_) #[true, true, true, true, false, false, false, false] rfl rfl (by kernel_rfl) (fun _ _ _ h => h) (Or.inl ⟨by rfl, ?_⟩) hHeld ?_ ?_
                rotate_left
                · rintro w' ⟨s0, s1⟩
                  refine Eq.trans (exec_load_row 41 (.tmp 7) rfl w.heap.size rfl 41 (rowV L) _ s0 Try.underlying41 rfl (by rw [rowV_size, HL.out]; kernel_rfl)) ?_
                  with_reducible rfl
                rotate_left
                · simp only [Act.put, List.setIfInBounds_toArray, List.set_cons_zero, List.set_cons_succ, i64_w, i32_w]
                  rfl
                refine take_ (i := 4) (N := some 48) (v := ?_) (a' := ?_) #[true, true, true, true, true, false, false, false] rfl rfl (by kernel_rfl) (fun _ _ _ h => h) (Or.inl ⟨by rfl, ?_⟩) hHeld ?_ ?_
                rotate_left
                · rintro w' ⟨s0, s1⟩
                  go_simp
                  with_reducible rfl
                rotate_left
                · simp only [Act.put, List.setIfInBounds_toArray, List.set_cons_zero, List.set_cons_succ, i64_w, i32_w]
                  rfl
                refine one_ (i := 5) (N := some 49) #[true, true, true, true, true, true, false, false] rfl rfl (by kernel_rfl) (by decide) (fun K hK => ?_)
                refine goes_ Try.func24 (by kernel_rfl) rfl #[.agg (rowV L), .int .u32 (rd L k)] (by rfl) rfl rfl (by simp only [List.map_toArray, List.map_cons, List.map_nil]; rfl) ?_
                with_reducible refine (encoreref01_through.calls L HL.out (rd L k) _).mono ?_
                rintro e w5 ⟨rfl, hb5⟩
                refine ⟨_, rfl, ?_⟩
                have hA5 := HoldsRow.below hA hb5 hA.lt
                have hC5 := HoldsRow.below hC hb5 hC.lt
                have hB5 := below_then hB hB.size hb5
                have hcell5 := hC5.cell (rowV_get (twR L k) k (by rw [twR_len]; exact hlt))
                have hfree5 := hC5.free k
                refine hK.out _ _ ⟨hA5, (hA5.cell (rowV_get L k (by rw [HL.out]; exact hlt)))⟩ (fun hHeld => ?_)
                clear hK K
                refine norm_ (a' := ?_) ?_ ?_
                rotate_left
                · show Act.put _ (some 49) _ = _
                  simp only [Act.put, List.setIfInBounds_toArray, List.set_cons_zero, List.set_cons_succ, i64_w, i32_w]
                  rfl
                refine pure_ (i := 6) (N := some 50) (v := ?_) (a' := ?_) #[true, true, true, true, true, true, true, false] rfl rfl (by kernel_rfl) (fun _ _ _ h => h) (Or.inl ⟨by rfl, ?_⟩) ?_ ?_
                rotate_left
                · intro w'
                  go_simp
                  with_reducible rfl
                rotate_left
                · simp only [Act.put, List.setIfInBounds_toArray, List.set_cons_zero, List.set_cons_succ, i64_w, i32_w]
                  rfl
                refine last_ (i := 7) (N := none) #[true, true, true, true, true, true, true, true] rfl rfl (by kernel_rfl) (by decide) (fun K hK => ?_)
                refine skip_ (w1 := ?_) (by rfl) rfl ?_ ?_
                rotate_left
                · go_simp
                  rfl
                refine hK.out _ _ ?_
                clear hK K
                refine done_ (by kernel_rfl) ?_
                have hst := twR_step L k hlt
                have hC6 := hC5.set k (.int .u32 (thr L (rd L k) 32))
                rw [rowV_set, hst] at hC6
                have hA6 := hA5.set_other ⟨b3, k, none⟩ (.int .u32 (thr L (rd L k) 32)) (by simp; omega)
                have hB6 := hB5.setCell (p := ⟨b3, k, none⟩) (Nat.le_of_lt hlt3) (.int .u32 (thr L (rd L k) 32))
                clear hcell5 hfree5 hst
                go_wp2_with fail
                exact ⟨⟨k + 1, by omega, by go_num, hA6, hC6, hB6⟩, by simp [intOf]; omega⟩
              · obtain rfl : k = 32 := by omega
                rw [show ((32 : Nat) : Int) = 32 from rfl]
                have hdk : decide ((32 : Int) < 32) = false := by simp
                rw [twR_all L HL.out] at hC
                have hL2 := twice_len L HL.out
                go_wp2_with (first | (refine wpList_load_row rfl 41 _ rfl b3 rfl 41 (rowV (twice L)) (0, 0) _ hC Try.underlying41 rfl (by rw [rowV_size, hL2]; kernel_rfl) ?_) | (refine wpList_store_row rfl 41 _ _ rfl w.heap.size (rowV (twice L)) rfl rfl 41 (rowV L) hA (by rw [rowV_size, hL2]; kernel_rfl) (by rw [rowV_size, rowV_size, hL2, HL.out]) (rowV_one _) ?_))
                have hA2 := hA.row (rowV (twice L))
                have hB2 := below_setRow hB (rowV (twice L)) (Nat.le_refl w.heap.size)
                go_roundw
                case rel => exact ⟨N / 2, R2, f - 1, twice L, rfl, rfl, ⟨hL2⟩, hA2, hB2, HN2, Hz2⟩
                case measure => simp [intOf]; omega
        · have hdp : decide (0 < N) = false := by simpa using hpos
          go_wp2_with fail
          go_ret
          exact ⟨by rw [Hz.out, joinL_done L f R N (by omega)]; rfl, hb⟩
def encoreref01_Join.f (a0 a1 a2 : Int) : Option Int := some (Go.bits .xor .u32 (joinL (lstR 32) a2.toNat a0 a2) a1)
theorem encoreref01_Join.calls (a0 a1 a2 r : Int) (w : World) (h : encoreref01_Join.f a0 a1 a2 = some r) :
    Calls Try.prog 19 #[.int .u32 a0, .int .u32 a1, .int .i64 a2] w fun e w' => e = .returned (.int .u32 r) ∧ Below w.heap.size w w' := by
  obtain rfl := Option.some.inj h
  exact join_calls a0 a1 a2 _ w ⟨rfl⟩
end Go.Proofs.Ytijhhnclhgfnlaa.Ext
