/- frame.Pack, walked. Condition: none beyond a row's own. -/
import Derived.Test.YtgfjijfjlbjajaaFrameSum
namespace Go.Proofs.Ytgfjijfjlbjajaa.Ext
open Go.RowKit Go.Proofs.YtgfjijfjlbjajaaW.PrintWords Go.Proofs.YtgfjijfjlbjajaaW.PrintLast Go.Proofs.YtgfjijfjlbjajaaW.PrintMore Go.Proofs.Ytgfjijfjlbjajaa.Base Go.Proofs.Ytgfjijfjlbjajaa.Arr Go.Proofs.Ytgfjijfjlbjajaa.Mid
set_option linter.unusedVariables false
set_option linter.unusedSimpArgs false

set_option maxHeartbeats 2000000 in
set_option maxRecDepth 100000 in
theorem pack_calls (A0 : Option Addr) (c0 : Nat) (l0 : List Int) (w : World) (hr0 : Kd.C (Kd.int .u8) w A0 l0.length l0) (hc0 : l0.length ≤ c0) (hl : l0.length ≤ 8192) (hd : List Int) (hh : bin_Num.f (l0.length : Int) = some (hd, 0)) (hdl : hd.length ≤ 9) (s : Int) (hs : crc_Of.f (hd ++ l0) = some s) :
    Calls Try.prog 11 #[.slice A0 l0.length c0] w fun e w' => ∃ v0_ : Value, e = .returned (.tuple #[v0_, .int .i64 0]) ∧ Kd.R (Kd.int .u8) 5 w' w.heap.size (fun _ => True) v0_ (hd ++ l0 ++ four s) ∧ Below w.heap.size w w' := by
  have hlim : decide ((8192 : Int) < (l0.length : Int)) = false := decide_eq_false (by omega)
  have hlim2 : decide (8192 < l0.length) = false := decide_eq_false (by omega)
  have HR := Aside0.mk hr0
  have HH := Aside0.mk hh
  have HS := Aside0.mk hs
  have HD := Aside0.mk hdl
  have HC0 := Aside0.mk hc0
  have HL := Aside0.mk hl
  clear hr0 hh hs hdl hc0 hl
  go_enter Try.func11, Try.ntmps11
  go_wp2_with fail
  refine (bin_Num.calls (l0.length : Int) hd 0 w HH.out).mono ?_
  rintro e w1 ⟨v1, rfl, h1, b1⟩
  have HO := Aside0.mk h1
  have HB := Aside0.mk b1
  have HSZ := Aside0.mk b1.size
  have HR1 := Aside0.mk (Kd.C_below HR.out b1)
  clear h1 b1 HR
  go_wp2_with (first | (at_builtin; refine Kd.R_append_rows (Kd.int .u8) (w0 := w) w.heap.size rfl (.tmp 20) (.tmp 21) 22 5 (.int .u8 0) 1 rfl Try.underlying22 infoU8 rfl (by decide) (by omega) v1 hd l0 _ _ _ (fun _ => True) (fun _ => False) rfl rfl HO.out HR1.out (fun _ _ h => h) (fun _ h => h.elim) (fun _ _ => trivial) HB.out HSZ.out ?aL ?_; (case aL => have := HD.out; have := HL.out; omega); intro v2 w2 ho hb hg hat; have HO2 := Aside0.mk ho; have HB2 := Aside0.mk hb; clear ho hb hg hat))
  obtain ⟨A2, c2, rfl, hc2⟩ := Kd.Q_slice (Kd.Q_of_R HO2.out)
  have HC2 := Aside0.mk hc2
  clear hc2 HO HB HR1
  have HLO := Aside0.mk (show (hd ++ l0).length ≤ 8201 by rw [List.length_append]; have := HD.out; have := HL.out; omega)
  generalize hlo : hd ++ l0 = lo at *
  have HLL := Aside0.mk hlo
  clear hlo
  go_wp2_with fail
  refine (frame_sum.calls A2 c2 lo s w2 (Kd.R_reads' HO2.out).2.2 HC2.out HS.out).mono ?_
  rintro e w3 ⟨rfl, hb3⟩
  have HO3 := Aside0.mk (Kd.R_below HO2.out hb3)
  have HB3 := Aside0.mk (below_then HB2.out HB2.out.size hb3)
  clear hb3 HO2 HB2
  have hsz : (rowK .u8 (four s)).size = 4 := rfl
  have hrow := HoldsRow.new w3 45 (rowK .u8 [0, 0, 0, 0])
  have hb4 := below_setRow (b := w3.heap.size) (below_alloc HB3.out (.cells (rowK .u8 [0, 0, 0, 0]) 45)) (rowK .u8 (four s)) HB3.out.size
  have hrow4 := hrow.row (rowK .u8 (four s))
  have ho4 : Kd.R (Kd.int .u8) 5 ((w3.alloc (.cells (rowK .u8 [0, 0, 0, 0]) 45)).setRow w3.heap.size (rowK .u8 (four s))) w.heap.size (fun _ => True) (.slice A2 lo.length c2) lo := Kd.R_step HO3.out (fun k _ hk => (setRow_other _ _ k _ (by omega)).trans (Go.heap_alloc_old w3 _ hk))
  have hc4 : Kd.C (Kd.int .u8) ((w3.alloc (.cells (rowK .u8 [0, 0, 0, 0]) 45)).setRow w3.heap.size (rowK .u8 (four s))) (some ⟨w3.heap.size, 0, none⟩) 4 (four s) := (Kd.Q_reads' (Kd.Q_of_R (hrow4.own (L := four s) (e := 45) (Nat.le_refl w3.heap.size) (by show 4 ≤ 9223372036854775807; decide)))).2.2
  have hsz4 : w.heap.size ≤ ((w3.alloc (.cells (rowK .u8 [0, 0, 0, 0]) 45)).setRow w3.heap.size (rowK .u8 (four s))).heap.size := hb4.size
  have HO4 := Aside0.mk ho4
  have HC4 := Aside0.mk hc4
  have HB4 := Aside0.mk hb4
  have HS4 := Aside0.mk hsz4
  have HROW := Aside0.mk hrow
  clear hrow ho4 HO3 hc4 hrow4 hb4 hsz4
  go_wp2_with (first
    | (refine wpList_store_row rfl 45 _ _ rfl w3.heap.size (rowK .u8 (four s)) rfl rfl 45 (rowK .u8 [0, 0, 0, 0]) HROW.out (by rw [hsz]; kernel_rfl) rfl (rowK_one _ _) ?_)
    | (at_builtin; refine Kd.R_append_rows (Kd.int .u8) (w0 := w) w.heap.size rfl (.tmp 25) (.tmp 26) 22 5 (.int .u8 0) 1 rfl Try.underlying22 infoU8 rfl (by decide) (by omega) (.slice A2 lo.length c2) lo (four s) _ _ _ (fun _ => True) (fun _ => False) rfl rfl HO4.out HC4.out (fun _ _ h => h) (fun _ h => h.elim) (fun _ _ => trivial) HB4.out HS4.out ?aL ?_; (case aL => have := HLO.out; omega); intro v5 w5 ho hb hg hat; have HO5 := Aside0.mk ho; have HB5 := Aside0.mk hb; clear ho hb hg hat))
  go_ret2
  exact ⟨v5, rfl, (by rw [HLL.out]; exact HO5.out), HB5.out⟩
def frame_Pack.f (l0 : List Int) : Option (List Int × Int) :=
  if (l0.length : Int) > 8192 then some ([], 5)
  else (bin_Num.f (l0.length : Int)).bind fun q => if q.2 = 0 ∧ q.1.length ≤ 9 then (crc_Of.f (q.1 ++ l0)).bind fun s => some (q.1 ++ l0 ++ four s, 0) else none
theorem frame_Pack.calls (A0 : Option Addr) (c0 : Nat) (l0 : List Int) (r1 : List Int) (r2 : Int) (w : World) (hr0 : Kd.C (Kd.int .u8) w A0 l0.length l0) (hc0 : l0.length ≤ c0) (h : frame_Pack.f l0 = some (r1, r2)) :
    Calls Try.prog 11 #[.slice A0 l0.length c0] w fun e w' => ∃ v0_ : Value, e = .returned (.tuple #[v0_, .int .i64 r2]) ∧ Kd.R (Kd.int .u8) 5 w' w.heap.size (fun _ => True) v0_ r1 ∧ Below w.heap.size w w' := by
  unfold frame_Pack.f at h
  by_cases hl : (l0.length : Int) > 8192
  · rw [if_pos hl] at h
    cases h
    have hlim : decide ((8192 : Int) < (l0.length : Int)) = true := decide_eq_true (by omega)
    have hlim2 : decide (8192 < l0.length) = true := decide_eq_true (by omega)
    go_enter Try.func11, Try.ntmps11
    go_wp2_with fail
    go_ret2
    exact ⟨_, rfl, Kd.R_nil _ _ _ _ _, Below.refl _ _⟩
  · rw [if_neg hl] at h
    obtain ⟨⟨hd, e⟩, h1, h2⟩ := Option.bind_eq_some_iff.mp h
    split at h2
    case isTrue hq =>
      obtain ⟨h3, h4⟩ := hq
      obtain ⟨s, h5, h6⟩ := Option.bind_eq_some_iff.mp h2
      cases h6
      have h3' : e = 0 := h3
      subst h3'
      exact pack_calls A0 c0 l0 w hr0 hc0 (by omega) hd h1 h4 s h5
    case isFalse => cases h2
end Go.Proofs.Ytgfjijfjlbjajaa.Ext
