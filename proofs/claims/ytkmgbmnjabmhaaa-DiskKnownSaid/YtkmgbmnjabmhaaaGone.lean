/- gone of a disk, walked. Condition: a million writes wait at most. -/
import Derived.IntWalk
import Derived.Test.YtkmgbmnjabmhaaaTorn
namespace Go.Proofs.Ytkmgbmnjabmhaaa.Ext
open Go Go.RowKit Go.Proofs.YtkmgbmnjabmhaaaW.PrintWords Go.Proofs.YtkmgbmnjabmhaaaW.PrintLast Go.Proofs.YtkmgbmnjabmhaaaW.PrintMore Go.Proofs.Ytkmgbmnjabmhaaa.Base Go.Proofs.Ytkmgbmnjabmhaaa.Arr
set_option linter.unusedVariables false
set_option linter.unusedSimpArgs false

def cutN (cut : Int) : Nat := (cut % 65).toNat
/-- is the write i not kept -/
def offB (bits : Int) (i : Nat) : Bool := Go.bits .and .u64 (bits / 2 ^ (i % 64)) 1 == 0
def keptTo (s : DS) (bits cut : Int) : Nat → List (Int × List Int)
  | 0 => []
  | i + 1 => match s.waits[i]? with
    | none => keptTo s bits cut i
    | some p => if offB bits i = true then keptTo s bits cut i else keptTo s bits cut i ++ [(p.1, if i + 1 = s.waits.length then tornS s.stays (keptTo s bits cut i) p.1.toNat p.2 (cutN cut) else p.2)]
def goneS (s : DS) (bits cut : Int) : DS := { s with stays := lay s.stays (keptTo s bits cut s.waits.length), waits := [], dead := true, plan := none }
theorem kept_off {s : DS} {bits cut : Int} {i : Nat} {p : Int × List Int} (h : s.waits[i]? = some p) (ho : offB bits i = true) : keptTo s bits cut (i + 1) = keptTo s bits cut i := by
  rw [keptTo, h]
  exact if_pos ho
theorem kept_on {s : DS} {bits cut : Int} {i : Nat} {p : Int × List Int} (h : s.waits[i]? = some p) (ho : offB bits i = false) (hl : i + 1 ≠ s.waits.length) : keptTo s bits cut (i + 1) = keptTo s bits cut i ++ [p] := by
  rw [keptTo, h]
  show (if offB bits i = true then _ else _) = _
  rw [if_neg (by rw [ho]; decide), if_neg hl]
theorem kept_last {s : DS} {bits cut : Int} {i : Nat} {p : Int × List Int} (h : s.waits[i]? = some p) (ho : offB bits i = false) (hl : i + 1 = s.waits.length) : keptTo s bits cut (i + 1) = keptTo s bits cut i ++ [(p.1, tornS s.stays (keptTo s bits cut i) p.1.toNat p.2 (cutN cut))] := by
  rw [keptTo, h]
  show (if offB bits i = true then _ else _) = _
  rw [if_neg (by rw [ho]; decide), if_pos hl]
theorem tornS_len {f : List Int} {l : List (Int × List Int)} {at_ n : Nat} {sec : List Int} (hs : sec.length = 64) (hn : n ≤ 64) (h0 : (secOf f at_).length = 64) (hl : ∀ p ∈ l, p.2.length = 64) : (tornS f l at_ sec n).length = 64 := by
  unfold tornS
  rw [List.length_append, List.length_take, List.length_drop, hs, curS_len h0 hl]
  omega
theorem cutN_walk (cut : Int) : (wrap64 (cut.tmod 65 + 65)).tmod 65 = (cutN cut : Int) := by
  have h := Int.tmod_eq_emod (a := cut) (b := 65)
  have h2 : cut.tmod 65 = cut % 65 ∨ cut.tmod 65 = cut % 65 - 65 := by
    rw [h]
    split
    · left; omega
    · right; rfl
  have h3 : -65 ≤ cut.tmod 65 ∧ cut.tmod 65 ≤ 64 := by omega
  rw [IntWalk.wrap64_in _ (by omega), Int.tmod_eq_emod_of_nonneg (by omega)]
  unfold cutN
  omega
theorem set_sec {W : World} {b : Nat} {t : TypeId} {v : Value} {f l : List Int} (h : HoldsRow W b t (v :: nums .u8 f).toArray) (hl : l.length = f.length) : HoldsRow (W.setCells b 1 (rowK .u8 l).toList) b t (v :: nums .u8 l).toArray := by
  obtain ⟨cur, h1, h2, h3⟩ := setCells_row (nums .u8 l) 1 W (v :: nums .u8 f).toArray h (by rw [nums_length]; simp [nums]; omega)
  have : cur = (v :: nums .u8 l).toArray := by
    apply Array.toList_inj.1
    rw [h3, nums_length]
    simp [nums, hl, Nat.add_comm 1]
  rw [← this]
  exact h1
theorem after_torn {w W w3 w4 : World} {b8 ai : Nat} {se T : List Int} {cs : List Value} {u6 : Value} {K : List (Int × List Int)} (hcs : cs = Value.int .i64 (ai : Nat) :: nums .u8 se) (hse : se.length = 64) (hT : T.length = 64) (TR : HoldsRow W b8 70 cs.toArray) (hb3 : Below W.heap.size W w3)
    (TV : Kd.R wrK 70 W w.heap.size (fun k => k < b8) u6 K) (TB : Below w.heap.size w W) (hb8 : w.heap.size ≤ b8) (hw4 : w4 = w3.setCells b8 1 (rowK .u8 T).toList) :
    w3.there b8 1 (rowK .u8 T).size ∧ HoldsRow w4 b8 70 (Value.int .i64 (ai : Nat) :: nums .u8 T).toArray ∧ Kd.R wrK 70 w4 w.heap.size (fun _ => True) u6 K ∧ Below w.heap.size w w4 := by
  have h3 : HoldsRow w3 b8 70 (Value.int .i64 (ai : Nat) :: nums .u8 se).toArray := by rw [← hcs]; exact TR.below hb3 TR.lt
  refine ⟨there_row h3 1 _ (by rw [rowK_size, hT]; simp [nums, hse]), ?_, ?_, ?_⟩
  · rw [hw4]; exact set_sec h3 (by omega)
  · refine Kd.R_mono (Kd.R_step TV (fun k hk hlt => ?_)) (fun _ _ => trivial)
    rw [hw4, sets_far (show k ≠ b8 by omega)]
    exact hb3.block k hlt
  · rw [hw4]; exact sets_below (TB.trans (hb3.mono TB.size)) hb8 _
theorem DiskTo.then_ {w w1 w2 : World} {base : Nat} {ok : Nat → Prop} {g : Nat} {s s' : DS} (h : DiskTo w w1 base ok g s) (k : ∀ ok1, DiskIs w1 base ok1 g s → DiskTo w1 w2 base ok1 g s') : DiskTo w w2 base ok g s' := by
  obtain ⟨h1, h2, ok1, h3, h4⟩ := h
  exact DiskTo.trans h1 h2 (fun k hk => (h3 k hk).1) (k ok1 h4)
/-- dead, and without a plan -/
theorem to_off {w1 : World} {base : Nat} {ok1 : Nat → Prop} {g : Nat} {s : DS} (dd : Bool) (h : DiskIs w1 base ok1 g s) :
    DiskTo w1 ((w1.setCell ⟨g, 3, none⟩ (.bool dd)).setCell ⟨g, 4, none⟩ (.pointer none)) base ok1 g { s with dead := dd, plan := none } := by
  obtain ⟨gs, m, vw, pp, h1, h2, h3, h4, h5, ⟨o1, o2, o3⟩, ⟨b1, b2, b3⟩, hG⟩ := h
  obtain ⟨r2, r3, r4, r5⟩ := rest_set h1 h2 h3 h4 h5 3 (.bool dd)
  have r1 := h1.set 3 (.bool dd)
  rw [dcells_dead] at r1
  obtain ⟨q2, q3, q4, q5⟩ := rest_set r1 r2 r3 r4 r5 4 (.pointer none)
  have q1 := r1.set 4 (.pointer none)
  rw [dcells_plan] at q1
  have hb1 := (to_set (W := w1) (j := 3) (u := .bool dd) o1 b1)
  have hb2 := (to_set (W := w1.setCell ⟨g, 3, none⟩ (.bool dd)) (j := 4) (u := .pointer none) o1 b1)
  exact DiskTo.trans (hb1.1.trans hb2.1) (hb1.2.then_ hb2.2 (fun k hk => .inl hk)) (fun k hk => .inl hk) (DiskTo.same ⟨gs, m, vw, none, q1, q2, q3, q4, rfl, ⟨o1, o2, o3⟩, ⟨b1, b2, b3⟩, hG⟩)
theorem is_cells {w1 : World} {base : Nat} {ok1 : Nat → Prop} {g : Nat} {s : DS} (h : DiskIs w1 base ok1 g s) : ∃ gs m vw pp, HoldsRow w1 g 65 (dcells gs m s.n vw s.dead pp) := by
  obtain ⟨gs, m, vw, pp, h1, -⟩ := h
  exact ⟨gs, m, vw, pp, h1⟩
theorem cutN_le (cut : Int) : cutN cut ≤ 64 := by unfold cutN; omega
theorem kept_fits {s : DS} (hG : Good s) (bits cut : Int) : ∀ i, Fits s.n (keptTo s bits cut i)
  | 0 => fun p hp => by simp [keptTo] at hp
  | i + 1 => by
    have ih := kept_fits hG bits cut i
    cases h : s.waits[i]? with
    | none => rw [keptTo, h]; exact ih
    | some p =>
      have hp := hG.2.2.2 p (List.mem_of_getElem? h)
      cases ho : offB bits i with
      | true => rw [kept_off h ho]; exact ih
      | false =>
        by_cases hl : i + 1 = s.waits.length
        · rw [kept_last h ho hl]
          intro q hq
          rcases List.mem_append.1 hq with hq | hq
          · exact ih q hq
          · rw [List.mem_singleton.1 hq]
            exact ⟨hp.1, hp.2.1, tornS_len hp.2.2 (cutN_le cut) (secOf_len hG.2.2.1 (by have := hp.2.1; omega)) (fun p hp => (ih p hp).2.2)⟩
        · rw [kept_on h ho hl]
          intro q hq
          rcases List.mem_append.1 hq with hq | hq
          · exact ih q hq
          · rw [List.mem_singleton.1 hq]; exact hp
theorem kept_len (s : DS) (bits cut : Int) : ∀ i, (keptTo s bits cut i).length ≤ i
  | 0 => by simp [keptTo]
  | i + 1 => by
    have ih := kept_len s bits cut i
    rw [keptTo]
    split
    · omega
    · split
      · omega
      · rw [List.length_append]; simp; omega
theorem goneS_good {s : DS} (hG : Good s) (bits cut : Int) : Good (goneS s bits cut) :=
  ⟨hG.1, hG.2.1, lay_len hG.2.2.1 _ (kept_fits hG bits cut _), fun p hp => by simp [goneS] at hp⟩
set_option maxHeartbeats 4000000 in
set_option maxRecDepth 100000 in
theorem gone_calls (w : World) (base : Nat) (ok : Nat → Prop) (g : Nat) (s : DS) (h : DiskIs w base ok g s) (hbw : base ≤ w.heap.size) (hw : s.waits.length ≤ 1000000) (bits cut : Int) :
    Calls Try.prog 34 #[.pointer (some ⟨g, 0, none⟩), .int .u64 bits, .int .i64 cut] w fun e w' => e = .returned (.tuple #[]) ∧ DiskTo w w' base ok g (goneS s bits cut) := by
  have HD := Aside0.mk h
  obtain ⟨gs, m, vw, pp, h1, h2, h3, h4, h5, ⟨o1, o2, o3⟩, ⟨b1, b2, b3⟩, hG⟩ := h
  obtain ⟨A, c, rfl⟩ := Kd.R_slice h4
  have HG := Aside0.mk hG
  have H1 := Aside0.mk h1
  have H4 := Aside0.mk h4
  have HBW := Aside0.mk hbw
  have HW := Aside0.mk hw
  have k2 : w.cell? ⟨g, 2, none⟩ = some (.slice A s.waits.length c) := h1.cell rfl
  clear h1 h2 h3 h4 h5 hG o1 o2 o3 b1 b2 b3 hbw
  go_enter Try.func34, Try.ntmps34
  go_wp2_with fail
  have HRO := Aside0.mk (Kd.R_nil wrK 70 w w.heap.size (fun _ => True))
  go_loopw [6, 14] (fun v i wr => ∃ j : Nat, j ≤ s.waits.length ∧ i = .int .i64 (j : Nat) ∧ Aside0 (Kd.R wrK 70 wr w.heap.size (fun _ => True) v (keptTo s bits cut j)) ∧ Aside0 (Below w.heap.size w wr)) (fun _ i _ => s.waits.length - (intOf i).toNat)
  case atStart => exact ⟨0, by omega, rfl, HRO, ⟨Below.refl _ _⟩⟩
  case round =>
    clear HRO
    obtain ⟨j, hj, rfl, RV, RB⟩ := hrel
    have RD := Aside0.mk (HD.out.below RB.out)
    have RL := Aside0.mk (Kd.R_step H4.out (fun k _ hk => RB.out.block k hk))
    have R1 := Aside0.mk (H1.out.below RB.out H1.out.lt)
    have k2 : wr.cell? ⟨g, 2, none⟩ = some (.slice A s.waits.length c) := R1.out.cell rfl
    by_cases hlt : j < s.waits.length
    · have d1 : decide ((j : Int) < (s.waits.length : Int)) = true := decide_eq_true (by omega)
      have d2 : decide (j < s.waits.length) = true := decide_eq_true hlt
      obtain ⟨gl, cs, ai, se, rfl, hge, htk, hcs, hcl, hrng, hai, h64⟩ := wr_elem RL.out (n := s.n) HG.out.2.2.2 j hlt
      have HGE := Aside0.mk hge
      have HRNG := Aside0.mk hrng
      have HCL := Aside0.mk hcl
      have HCS := Aside0.mk hcs
      have H64 := Aside0.mk h64
      have b0 := eq_true (show (0 : Int) ≤ (j : Int) by omega)
      have b1 := eq_true (show (j : Int) < (s.waits.length : Int) by omega)
      clear htk hrng hcl hcs h64 hge
      have hz := zero_write
      have HOLD := Aside0.mk (z65_size.trans (by rw [List.size_toArray, HCL.out]) : z65.size = cs.toArray.size)
      have hnew := HoldsRow.new wr 70 z65
      have HNEW := Aside0.mk hnew
      have hrow := hnew.row cs.toArray
      obtain ⟨W, hW⟩ : ∃ W : World, W = (wr.alloc (.cells z65 70)).setRow wr.heap.size cs.toArray := ⟨_, rfl⟩
      rw [← hW] at hrow
      have HWW := Aside0.mk hW
      have hbelow : Below wr.heap.size wr W := by rw [hW]; exact Go.Proofs.Ytkmgbmnjabmhaaa.Arr.below_setRow (b := wr.heap.size) (below_alloc (Below.refl _ _) _) _ (Nat.le_refl _)
      obtain ⟨b8, hb8⟩ : ∃ b, b = wr.heap.size := ⟨_, rfl⟩
      have HB8 := Aside0.mk hb8
      rw [← hb8] at hrow
      have TR := Aside0.mk hrow
      have TD := Aside0.mk (RD.out.below hbelow)
      have T1 := Aside0.mk (R1.out.below hbelow R1.out.lt)
      have TV := Aside0.mk (Kd.R_step RV.out (fun k _ hk => hbelow.block k hk))
      have TV8 := Aside0.mk (show Kd.R wrK 70 W w.heap.size (fun k => k < b8) u6 (keptTo s bits cut j) from Kd.R_step (Kd.R_mono (Kd.R_bound RV.out) (fun k hk => by rw [hb8]; exact hk.2.2.1)) (fun k _ hk => hbelow.block k hk))
      have TB := Aside0.mk (RB.out.trans (hbelow.mono RB.out.size))
      have TBB := Aside0.mk (And.intro (hb8 ▸ RB.out.size) (hb8 ▸ hbelow.size))
      clear hW hnew hrow hbelow hb8 RD RL R1 RV RB
      have k2' : W.cell? ⟨g, 2, none⟩ = some (.slice (some ⟨gl, 0, none⟩) s.waits.length c) := T1.out.cell rfl
      cases ho : offB bits j with
      | true =>
        have e := kept_off (cut := cut) HGE.out ho
        rw [← e] at TV
        have ho' : (Go.bits BinOp.and IntKind.u64 (bits / 2 ^ (j % 64)) 1 == 0) = true := ho
        clear e ho
        go_wp2_with (first | (refine wpList_load_mid rfl 70 (.tmp 17) rfl gl (j * 65) rfl cs _ HRNG.out Try.underlying70 rfl (by rw [HCL.out]; kernel_rfl) ?_) | (refine wpList_store_row rfl 70 (.tmp 8) (.tmp 18) rfl wr.heap.size cs.toArray rfl rfl 70 z65 HNEW.out (by rw [List.size_toArray, HCL.out]; kernel_rfl) HOLD.out (all_oneCell_toArray (by rw [HCS.out]; exact fun u hu => wrK.K_one (w := wr) (x := ((ai : Int), se)) ⟨rfl, H64.out⟩ u hu)) ?_; rw [← HWW.out, ← HB8.out]))
        go_roundw
        case rel => exact ⟨j + 1, by omega, by go_num, TV, TB⟩
        case measure => simp [intOf]; omega
      | false =>
        have ho' : (Go.bits BinOp.and IntKind.u64 (bits / 2 ^ (j % 64)) 1 == 0) = false := ho
        by_cases hl : j + 1 = s.waits.length
        · have dl : ((j : Int) == (s.waits.length : Int) - 1) = true := by simp; omega
          have hcw := cutN_walk cut
          have E6 := Aside0.mk (show cs.toArray = wcells ((ai : Int), se) by rw [HCS.out]; rfl)
          have HL := Aside0.mk hl
          have HE := Aside0.mk (kept_last (cut := cut) HGE.out ho hl)
          clear hl ho
          go_wp2_with (first | (refine wpList_load_mid rfl 70 (.tmp 17) rfl gl (j * 65) rfl cs _ HRNG.out Try.underlying70 rfl (by rw [HCL.out]; kernel_rfl) ?_) | (refine wpList_store_row rfl 70 (.tmp 8) (.tmp 18) rfl wr.heap.size cs.toArray rfl rfl 70 z65 HNEW.out (by rw [List.size_toArray, HCL.out]; kernel_rfl) HOLD.out (all_oneCell_toArray (by rw [HCS.out]; exact fun u hu => wrK.K_one (w := wr) (x := ((ai : Int), se)) ⟨rfl, H64.out⟩ u hu)) ?_; rw [← HWW.out, ← HB8.out]) | (refine wpList_load_row rfl 70 (.tmp 8) rfl b8 rfl 70 cs.toArray (0, 0) _ TR.out Try.underlying70 rfl (by rw [List.size_toArray, HCL.out]; kernel_rfl) ?_) | (go_at_call 42; ((with_reducible refine (torn_calls W base ok (fun k => k < b8) g s TD.out u6 (keptTo s bits cut j) (Kd.R_lower TV8.out (Nat.le_trans HBW.out (Nat.le_refl _))) (kept_fits HG.out bits cut j) ai se hai H64.out (cutN cut) (cutN_le cut) cs.toArray E6.out).mono ?_); rintro e w3 ⟨rfl, hb3⟩); have HB3 := Aside0.mk hb3; clear hb3; obtain ⟨T, hT⟩ : ∃ T, T = tornS s.stays (keptTo s bits cut j) ai se (cutN cut) := ⟨_, rfl⟩; rw [← hT]; obtain ⟨w4, hw4⟩ : ∃ w4, w4 = w3.setCells b8 1 (rowK .u8 T).toList := ⟨_, rfl⟩; have HTL := Aside0.mk (show T.length = 64 by rw [hT]; exact tornS_len H64.out (cutN_le cut) (secOf_len HG.out.2.2.1 hai) (fun p hp => (kept_fits HG.out bits cut j p hp).2.2)); obtain ⟨q1, q2, q3, q4⟩ := after_torn HCS.out H64.out HTL.out TR.out HB3.out TV8.out TB.out TBB.out.1 hw4; have HE2 := Aside0.mk (show keptTo s bits cut (j + 1) = keptTo s bits cut j ++ [((ai : Int), T)] by rw [hT]; exact HE.out); have Q1 := Aside0.mk q1; have Q2 := Aside0.mk q2; have Q3 := Aside0.mk q3; have Q4 := Aside0.mk q4; have HW4 := Aside0.mk hw4; clear q1 q2 q3 q4 hw4 hT) | (refine wpList_store_mid rfl 68 (.tmp 41) (.tmp 40) rfl b8 1 (rowK .u8 T) rfl rfl Q1.out (by rw [rowK_size, HTL.out]; kernel_rfl) (rowK_one _ _) ?_; rw [← HW4.out]) | (refine wpList_load_row rfl 70 (.tmp 8) rfl b8 rfl 70 (Value.int .i64 (ai : Nat) :: nums .u8 T).toArray (0, 0) _ Q2.out Try.underlying70 rfl (by rw [List.size_toArray, List.length_cons, nums_length, HTL.out]; kernel_rfl) ?_) | (refine wpList_one_slice rfl 62 70 (.tmp 43) rfl 65 (Value.int .i64 (ai : Nat) :: nums .u8 T).toArray rfl Try.underlying62 (by kernel_rfl) (by decide) (by decide) (by rw [List.size_toArray, List.length_cons, nums_length, HTL.out]) ?_) | (at_builtin; refine Kd.R_append wrK (w0 := w) (W := w4) w.heap.size rfl (.tmp 42) (.tmp 44) 62 70 (.agg z65) 72 rfl Try.underlying62 (by kernel_rfl) z65_size (by decide) (by decide) u6 (keptTo s bits cut j) ((ai : Int), T) (Value.int .i64 (ai : Nat) :: nums .u8 T) (fun _ => True) (fun _ => False) rfl rfl ⟨rfl, HTL.out⟩ (fun _ hk => hk.elim) (fun _ _ => trivial) Q3.out Q4.out Q4.out.size ?aL ?_; (case aL => have := kept_len s bits cut j; have := HW.out; omega); intro v6 w6 ho hb hg hat; rw [← HE2.out] at ho; have TV6 := Aside0.mk ho; have TB6 := Aside0.mk hb; clear ho hb hg hat))
          go_roundw
          case rel => exact ⟨j + 1, by omega, by go_num, TV6, TB6⟩
          case measure => simp [intOf]; omega
        · have dl : ((j : Int) == (s.waits.length : Int) - 1) = false := by simp; omega
          have HE := Aside0.mk (kept_on (cut := cut) HGE.out ho hl)
          clear hl ho
          go_wp2_with (first | (refine wpList_load_mid rfl 70 (.tmp 17) rfl gl (j * 65) rfl cs _ HRNG.out Try.underlying70 rfl (by rw [HCL.out]; kernel_rfl) ?_) | (refine wpList_store_row rfl 70 (.tmp 8) (.tmp 18) rfl wr.heap.size cs.toArray rfl rfl 70 z65 HNEW.out (by rw [List.size_toArray, HCL.out]; kernel_rfl) HOLD.out (all_oneCell_toArray (by rw [HCS.out]; exact fun u hu => wrK.K_one (w := wr) (x := ((ai : Int), se)) ⟨rfl, H64.out⟩ u hu)) ?_; rw [← HWW.out, ← HB8.out]) | (refine wpList_load_row rfl 70 (.tmp 8) rfl b8 rfl 70 cs.toArray (0, 0) _ TR.out Try.underlying70 rfl (by rw [List.size_toArray, HCL.out]; kernel_rfl) ?_) | (refine wpList_one_slice rfl 62 70 (.tmp 43) rfl 65 cs.toArray rfl Try.underlying62 (by kernel_rfl) (by decide) (by decide) (by rw [List.size_toArray, HCL.out]) ?_) | (at_builtin; refine Kd.R_append wrK (w0 := w) (W := W) w.heap.size rfl (.tmp 42) (.tmp 44) 62 70 (.agg z65) 72 rfl Try.underlying62 (by kernel_rfl) z65_size (by decide) (by decide) u6 (keptTo s bits cut j) ((ai : Int), se) cs (fun _ => True) (fun _ => False) rfl rfl ⟨HCS.out, H64.out⟩ (fun _ hk => hk.elim) (fun _ _ => trivial) TV.out TB.out TB.out.size ?aL ?_; (case aL => have := kept_len s bits cut j; have := HW.out; omega); intro v6 w6 ho hb hg hat; rw [← HE.out] at ho; have TV6 := Aside0.mk ho; have TB6 := Aside0.mk hb; clear ho hb hg hat TV TB))
          go_roundw
          case rel => exact ⟨j + 1, by omega, by go_num, TV6, TB6⟩
          case measure => simp [intOf]; omega
    · obtain rfl : j = s.waits.length := by omega
      have d1 : decide ((s.waits.length : Int) < (s.waits.length : Int)) = false := decide_eq_false (by omega)
      have d2 : decide (s.waits.length < s.waits.length) = false := decide_eq_false (by omega)
      have HLL := Aside0.mk (Kd.R_lower RV.out HBW.out)
      have HLF := Aside0.mk (kept_fits HG.out bits cut s.waits.length)
      have HBR := Aside0.mk (Nat.le_trans HBW.out RB.out.size)
      clear hlt hj k2
      go_wp2_with (go_at_call 33; ((with_reducible refine (settle_calls wr base ok (fun _ => True) g s RD.out HBR.out u6 (keptTo s bits cut s.waits.length) HLL.out HLF.out).mono ?_); rintro e w1 ⟨rfl, hto⟩); have HTO := Aside0.mk hto; clear hto; obtain ⟨gs1, m1, vw1, pp1, r1⟩ := is_cells HTO.out.2.2.choose_spec.2; have c3 := r1.cell (j := 3) (v := .bool s.dead) rfl; have c4 := r1.cell (j := 4) (v := .pointer pp1) rfl; have z3 := r1.free 3; have z4 := r1.free 4; clear r1)
      go_end0
      exact ⟨rfl, DiskTo.trans (RB.out.mono HBW.out) (Kept.of_below RB.out _) (fun k hk => .inl hk) (DiskTo.then_ HTO.out (fun ok1 h => to_off true h))⟩
end Go.Proofs.Ytkmgbmnjabmhaaa.Ext
