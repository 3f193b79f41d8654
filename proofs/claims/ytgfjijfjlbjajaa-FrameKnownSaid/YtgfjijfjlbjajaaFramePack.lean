import Derived.Test.YtgfjijfjlbjajaaMid1
import Derived.Test.YtgfjijfjlbjajaaOf
import Derived.ChangeKeysEq
/- frame.sum, frame.Pack, walked. Conditions: a row that append bears. -/
namespace Go.Proofs.Ytgfjijfjlbjajaa.Ext
open Go.RowKit Go.Proofs.YtgfjijfjlbjajaaW.PrintWords Go.Proofs.YtgfjijfjlbjajaaW.PrintLast Go.Proofs.YtgfjijfjlbjajaaW.PrintMore Go.Proofs.Ytgfjijfjlbjajaa.Base Go.Proofs.Ytgfjijfjlbjajaa.Arr Go.Proofs.Ytgfjijfjlbjajaa.Mid
set_option linter.unusedVariables false
set_option linter.unusedSimpArgs false

/-- a sum as four bytes, the highest first -/
def four (s : Int) : List Int := [s / 16777216 % 256, s / 65536 % 256, s / 256 % 256, s % 256]
set_option maxHeartbeats 2000000 in
set_option maxRecDepth 100000 in
theorem frame_sum.calls (A0 : Option Addr) (c0 : Nat) (l0 : List Int) (s : Int) (w : World) (hr0 : Kd.C (Kd.int .u8) w A0 l0.length l0) (hc0 : l0.length ≤ c0) (h : crc_Of.f l0 = some s) :
    Calls Try.prog 25 #[.slice A0 l0.length c0] w fun e w' => e = .returned (.agg (rowK .u8 (four s))) ∧ Below w.heap.size w w' := by
  have H := Aside0.mk h
  have HR := Aside0.mk hr0
  clear h hr0
  go_enter Try.func25, Try.ntmps25
  go_wp2_with fail
  have hrow := HoldsRow.new w 45 (rowK .u8 [0, 0, 0, 0])
  have hb0 := below_alloc (Below.refl w.heap.size w) (.cells (rowK .u8 [0, 0, 0, 0]) 45)
  refine (crc_Of.calls A0 c0 l0 s _ (Kd.C_alloc HR.out _) hc0 H.out).mono ?_
  rintro e w1 ⟨rfl, hb⟩
  have hrow1 := hrow.below (w' := w1) hb (by simp)
  have hb1 := below_then hb0 (by simp) hb
  clear hb hrow hb0 H HR
  have hsz : (rowK .u8 (four s)).size = 4 := rfl
  go_wp2_with (first | (refine wpList_store_row rfl 45 _ _ rfl w.heap.size (rowK .u8 (four s)) rfl rfl 45 (rowK .u8 [0, 0, 0, 0]) hrow1 (by rw [hsz]; kernel_rfl) rfl (rowK_one _ _) ?_))
  exact bodyPost_ret (results_cell_row (p := 2) (ty := 45) rfl _ _ w.heap.size 45 (rowK .u8 (four s)) (0, 0) _ rfl (hrow1.row _) Try.underlying45 rfl (by rw [hsz]; kernel_rfl)) rfl ⟨rfl, below_setRow hb1 _ (Nat.le_refl _)⟩
end Go.Proofs.Ytgfjijfjlbjajaa.Ext

/- frame.Pack, walked. Condition: none beyond a row's own. -/
namespace Go.Proofs.Ytgfjijfjlbjajaa.Ext
open Go.RowKit Go.Proofs.YtgfjijfjlbjajaaW.PrintWords Go.Proofs.YtgfjijfjlbjajaaW.PrintLast Go.Proofs.YtgfjijfjlbjajaaW.PrintMore Go.Proofs.Ytgfjijfjlbjajaa.Base Go.Proofs.Ytgfjijfjlbjajaa.Arr Go.Proofs.Ytgfjijfjlbjajaa.Mid
set_option linter.unusedVariables false
set_option linter.unusedSimpArgs false

set_option maxHeartbeats 2000000 in
set_option maxRecDepth 100000 in
theorem pack_calls (A0 : Option Addr) (c0 : Nat) (l0 : List Int) (w : World) (hr0 : Kd.C (Kd.int .u8) w A0 l0.length l0) (hc0 : l0.length ≤ c0) (hl : l0.length ≤ 8192) (hd : List Int) (hh : bin_Num.f (l0.length : Int) = some (hd, 0)) (hdl : hd.length ≤ 9) (s : Int) (hs : crc_Of.f (hd ++ l0) = some s) :
    Calls Try.prog 11 #[.slice A0 l0.length c0] w fun e w' => ∃ v0_ : Value, e = .returned (.tuple #[v0_, .int .i64 0]) ∧ Kd.R (Kd.int .u8) 5 w' w.heap.size (fun _ => True) v0_ (hd ++ l0 ++ four s) ∧ Below w.heap.size w w' := by
  have hlim : decide ((8192 : Int) < (l0.length : Int)) = false := decide_eq_false (by omega)
  have hlim2 : decide (8192 < l0.length) = false := decide_eq_false (by omega)
  have HR := Aside0.mk hr0
  have HH := Aside0.mk hh
  have HS := Aside0.mk hs
  have HD := Aside0.mk hdl
  have HC0 := Aside0.mk hc0
  have HL := Aside0.mk hl
  clear hr0 hh hs hdl hc0 hl
  go_enter Try.func11, Try.ntmps11
  go_wp2_with fail
  refine (bin_Num.calls (l0.length : Int) hd 0 w HH.out).mono ?_
  rintro e w1 ⟨v1, rfl, h1, b1⟩
  have HO := Aside0.mk h1
  have HB := Aside0.mk b1
  have HSZ := Aside0.mk b1.size
  have HR1 := Aside0.mk (Kd.C_below HR.out b1)
  clear h1 b1 HR
  go_wp2_with (first | (at_builtin; refine Kd.R_append_rows (Kd.int .u8) (w0 := w) w.heap.size rfl (.tmp 20) (.tmp 21) 22 5 (.int .u8 0) 1 rfl Try.underlying22 infoU8 rfl (by decide) (by omega) v1 hd l0 _ _ _ (fun _ => True) (fun _ => False) rfl rfl HO.out HR1.out (fun _ _ h => h) (fun _ h => h.elim) (fun _ _ => trivial) HB.out HSZ.out ?aL ?_; (case aL => have := HD.out; have := HL.out; omega); intro v2 w2 ho hb hg hat; have HO2 := Aside0.mk ho; have HB2 := Aside0.mk hb; clear ho hb hg hat))
  obtain ⟨A2, c2, rfl, hc2⟩ := Kd.Q_slice (Kd.Q_of_R HO2.out)
  have HC2 := Aside0.mk hc2
  clear hc2 HO HB HR1
  have HLO := Aside0.mk (show (hd ++ l0).length ≤ 8201 by rw [List.length_append]; have := HD.out; have := HL.out; omega)
  generalize hlo : hd ++ l0 = lo at *
  have HLL := Aside0.mk hlo
  clear hlo
  go_wp2_with fail
  refine (frame_sum.calls A2 c2 lo s w2 (Kd.R_reads' HO2.out).2.2 HC2.out HS.out).mono ?_
  rintro e w3 ⟨rfl, hb3⟩
  have HO3 := Aside0.mk (Kd.R_below HO2.out hb3)
  have HB3 := Aside0.mk (below_then HB2.out HB2.out.size hb3)
  clear hb3 HO2 HB2
  have hsz : (rowK .u8 (four s)).size = 4 := rfl
  have hrow := HoldsRow.new w3 45 (rowK .u8 [0, 0, 0, 0])
  have hb4 := below_setRow (b := w3.heap.size) (below_alloc HB3.out (.cells (rowK .u8 [0, 0, 0, 0]) 45)) (rowK .u8 (four s)) HB3.out.size
  have hrow4 := hrow.row (rowK .u8 (four s))
  have ho4 : Kd.R (Kd.int .u8) 5 ((w3.alloc (.cells (rowK .u8 [0, 0, 0, 0]) 45)).setRow w3.heap.size (rowK .u8 (four s))) w.heap.size (fun _ => True) (.slice A2 lo.length c2) lo := Kd.R_step HO3.out (fun k _ hk => (setRow_other _ _ k _ (by omega)).trans (Go.heap_alloc_old w3 _ hk))
  have hc4 : Kd.C (Kd.int .u8) ((w3.alloc (.cells (rowK .u8 [0, 0, 0, 0]) 45)).setRow w3.heap.size (rowK .u8 (four s))) (some ⟨w3.heap.size, 0, none⟩) 4 (four s) := (Kd.Q_reads' (Kd.Q_of_R (hrow4.own (L := four s) (e := 45) (Nat.le_refl w3.heap.size) (by show 4 ≤ 9223372036854775807; decide)))).2.2
  have hsz4 : w.heap.size ≤ ((w3.alloc (.cells (rowK .u8 [0, 0, 0, 0]) 45)).setRow w3.heap.size (rowK .u8 (four s))).heap.size := hb4.size
  have HO4 := Aside0.mk ho4
  have HC4 := Aside0.mk hc4
  have HB4 := Aside0.mk hb4
  have HS4 := Aside0.mk hsz4
  have HROW := Aside0.mk hrow
  clear hrow ho4 HO3 hc4 hrow4 hb4 hsz4
  go_wp2_with (first
    | (refine wpList_store_row rfl 45 _ _ rfl w3.heap.size (rowK .u8 (four s)) rfl rfl 45 (rowK .u8 [0, 0, 0, 0]) HROW.out (by rw [hsz]; kernel_rfl) rfl (rowK_one _ _) ?_)
    | (at_builtin; refine Kd.R_append_rows (Kd.int .u8) (w0 := w) w.heap.size rfl (.tmp 25) (.tmp 26) 22 5 (.int .u8 0) 1 rfl Try.underlying22 infoU8 rfl (by decide) (by omega) (.slice A2 lo.length c2) lo (four s) _ _ _ (fun _ => True) (fun _ => False) rfl rfl HO4.out HC4.out (fun _ _ h => h) (fun _ h => h.elim) (fun _ _ => trivial) HB4.out HS4.out ?aL ?_; (case aL => have := HLO.out; omega); intro v5 w5 ho hb hg hat; have HO5 := Aside0.mk ho; have HB5 := Aside0.mk hb; clear ho hb hg hat))
  go_ret2
  exact ⟨v5, rfl, (by rw [HLL.out]; exact HO5.out), HB5.out⟩
def frame_Pack.f (l0 : List Int) : Option (List Int × Int) :=
  if (l0.length : Int) > 8192 then some ([], 5)
  else (bin_Num.f (l0.length : Int)).bind fun q => if q.2 = 0 ∧ q.1.length ≤ 9 then (crc_Of.f (q.1 ++ l0)).bind fun s => some (q.1 ++ l0 ++ four s, 0) else none
theorem frame_Pack.calls (A0 : Option Addr) (c0 : Nat) (l0 : List Int) (r1 : List Int) (r2 : Int) (w : World) (hr0 : Kd.C (Kd.int .u8) w A0 l0.length l0) (hc0 : l0.length ≤ c0) (h : frame_Pack.f l0 = some (r1, r2)) :
    Calls Try.prog 11 #[.slice A0 l0.length c0] w fun e w' => ∃ v0_ : Value, e = .returned (.tuple #[v0_, .int .i64 r2]) ∧ Kd.R (Kd.int .u8) 5 w' w.heap.size (fun _ => True) v0_ r1 ∧ Below w.heap.size w w' := by
  unfold frame_Pack.f at h
  by_cases hl : (l0.length : Int) > 8192
  · rw [if_pos hl] at h
    cases h
    have hlim : decide ((8192 : Int) < (l0.length : Int)) = true := decide_eq_true (by omega)
    have hlim2 : decide (8192 < l0.length) = true := decide_eq_true (by omega)
    go_enter Try.func11, Try.ntmps11
    go_wp2_with fail
    go_ret2
    exact ⟨_, rfl, Kd.R_nil _ _ _ _ _, Below.refl _ _⟩
  · rw [if_neg hl] at h
    obtain ⟨⟨hd, e⟩, h1, h2⟩ := Option.bind_eq_some_iff.mp h
    split at h2
    case isTrue hq =>
      obtain ⟨h3, h4⟩ := hq
      obtain ⟨s, h5, h6⟩ := Option.bind_eq_some_iff.mp h2
      cases h6
      have h3' : e = 0 := h3
      subst h3'
      exact pack_calls A0 c0 l0 w hr0 hc0 (by omega) hd h1 h4 s h5
    case isFalse => cases h2
end Go.Proofs.Ytgfjijfjlbjajaa.Ext

/- '==' of two arrays of four bytes. No condition. -/
namespace Go.Proofs.Ytgfjijfjlbjajaa.Ext
open Go.RowKit Go.Proofs.YtgfjijfjlbjajaaW.PrintWords Go.Proofs.YtgfjijfjlbjajaaW.PrintLast Go.Proofs.YtgfjijfjlbjajaaW.PrintMore Go.Proofs.Ytgfjijfjlbjajaa.Base Go.Proofs.Ytgfjijfjlbjajaa.Arr Go.Proofs.Ytgfjijfjlbjajaa.Mid
set_option linter.unusedVariables false
set_option linter.unusedSimpArgs false

theorem four_size (s : Int) : (rowK .u8 (four s)).size = 4 := rfl
theorem eq_four (w : World) (a0 a1 a2 a3 x0 x1 x2 x3 : Int) :
    (Op.equalIn 10000 45 (.agg #[.int .u8 a0, .int .u8 a1, .int .u8 a2, .int .u8 a3]) (.agg #[.int .u8 x0, .int .u8 x1, .int .u8 x2, .int .u8 x3])).run Try.prog w = .ok (decide ([a0, a1, a2, a3] = [x0, x1, x2, x3])) w := by
  obtain ⟨i0, hi0, _, hsz0, _⟩ := info_parts infoU8
  have hc : Try.prog.cellsOf 5 = 1 := by kernel_rfl
  have hp : ∀ (b0 b1 b2 b3 : Int) (W : World), (part 5 #[.int .u8 b0, .int .u8 b1, .int .u8 b2, .int .u8 b3] 0).run Try.prog W = .ok (.int .u8 b0) W ∧ (part 5 #[.int .u8 b0, .int .u8 b1, .int .u8 b2, .int .u8 b3] 1).run Try.prog W = .ok (.int .u8 b1) W ∧ (part 5 #[.int .u8 b0, .int .u8 b1, .int .u8 b2, .int .u8 b3] 2).run Try.prog W = .ok (.int .u8 b2) W ∧ (part 5 #[.int .u8 b0, .int .u8 b1, .int .u8 b2, .int .u8 b3] 3).run Try.prog W = .ok (.int .u8 b3) W := by
    intro b0 b1 b2 b3 W
    have hu := Try.underlying5
    refine ⟨?_, ?_, ?_, ?_⟩ <;> (go_simp; try rfl)
  rw [show (10000 : Nat) = 9999 + 1 from rfl, run_equalIn_array w 9999 _ _ Try.underlying45 hi0, hc]
  have he : ∀ (a x : Int) (W : World), (Op.equalIn 9999 5 (.int .u8 a) (.int .u8 x)).run Try.prog W = .ok (a == x) W := fun a x W => run_equalIn_int W 9998 5 .u8 .u8 a x Try.underlying5
  simp only [show List.range 4 = [0, 1, 2, 3] from rfl, Op.eqItems, Sem.run_bind, Nat.mul_one, (hp _ _ _ _ _).1, (hp _ _ _ _ _).2.1, (hp _ _ _ _ _).2.2.1, (hp _ _ _ _ _).2.2.2, he, Result.andThen_ok]
  by_cases h0 : a0 = x0
  case neg => rw [if_pos (by simp [h0])]; simp [h0]
  subst h0
  rw [if_neg (by simp)]
  simp only [Sem.run_bind, (hp _ _ _ _ _).1, (hp _ _ _ _ _).2.1, (hp _ _ _ _ _).2.2.1, (hp _ _ _ _ _).2.2.2, he, Result.andThen_ok]
  by_cases h1 : a1 = x1
  case neg => rw [if_pos (by simp [h1])]; simp [h1]
  subst h1
  rw [if_neg (by simp)]
  simp only [Sem.run_bind, (hp _ _ _ _ _).1, (hp _ _ _ _ _).2.1, (hp _ _ _ _ _).2.2.1, (hp _ _ _ _ _).2.2.2, he, Result.andThen_ok]
  by_cases h2 : a2 = x2
  case neg => rw [if_pos (by simp [h2])]; simp [h2]
  subst h2
  rw [if_neg (by simp)]
  simp only [Sem.run_bind, (hp _ _ _ _ _).1, (hp _ _ _ _ _).2.1, (hp _ _ _ _ _).2.2.1, (hp _ _ _ _ _).2.2.2, he, Result.andThen_ok]
  by_cases h3 : a3 = x3
  case neg => rw [if_pos (by simp [h3])]; simp [h3]
  subst h3
  rw [if_neg (by simp)]
  simp
end Go.Proofs.Ytgfjijfjlbjajaa.Ext
