/- encoreref05.Scan, walked. Condition: a million cells at most; bytes are bytes. -/
import Derived.Test.YtfkndnocjelhgaaScanW
import Derived.Test.YtfkndnocjelhgaaStripReadsW
namespace Go.Proofs.Ytfkndnocjelhgaa.Ext
open Go Go.RowKit Go.Proofs.YtfkndnocjelhgaaW.PrintWords Go.Proofs.YtfkndnocjelhgaaW.PrintLast Go.Proofs.YtfkndnocjelhgaaW.PrintMore Go.Proofs.Ytfkndnocjelhgaa.Base Go.Proofs.Ytfkndnocjelhgaa.Arr
set_option linter.unusedVariables false
set_option linter.unusedSimpArgs false

set_option maxHeartbeats 4000000 in
set_option maxRecDepth 100000 in
theorem RScan_calls (w : World) (A : Option Addr) (c : Nat) (l : List (List Int)) (g e : Int) (hr : (Kd.slice 5 (Kd.int .u8)).C w A l.length l) (hc : l.length ≤ c) (hb : ∀ r ∈ l, Bytes r) (hl : l.length ≤ 1000000) :
    Calls Try.prog 27 #[.slice A l.length c, .agg #[.int .i64 g, .int .i64 e]] w fun en w' => ∃ v, en = .returned (.tuple #[v, .int .i64 (scanR g l ⟨[], e, true⟩).2]) ∧ Kd.S (Kd.slice 5 (Kd.int .u8)) 24 w' w.heap.size (fun _ => True) v (scanR g l ⟨[], e, true⟩).1 ∧ Below w.heap.size w w' := by
  have HR := Aside0.mk hr
  have HC := Aside0.mk hc
  have HBY := Aside0.mk hb
  have HL := Aside0.mk hl
  clear hr hc hb hl
  obtain ⟨W1, hW1⟩ : ∃ W1, W1 = w.alloc (.cells #[.int .i64 g, .int .i64 e] 31) := ⟨_, rfl⟩
  obtain ⟨Sb, hSb⟩ : ∃ Sb, Sb = w.heap.size := ⟨_, rfl⟩
  have P1 := Aside0.mk (show HoldsRow W1 Sb 31 #[.int .i64 g, .int .i64 e] by rw [hW1, hSb]; exact HoldsRow.new _ _ _)
  have B1 := Aside0.mk (show Below w.heap.size w W1 by rw [hW1]; exact below_alloc (Below.refl _ _) _)
  have HSB := Aside0.mk (show Sb = w.heap.size ∧ W1.heap.size = Sb + 1 by rw [hW1, hSb]; exact ⟨rfl, alloc_size _ _⟩)
  have HW1 := Aside0.mk (show W1 = w.alloc (.cells #[.int .i64 g, .int .i64 e] 31) from hW1)
  have HSB' := Aside0.mk hSb
  clear hW1 hSb
  go_enter Try.func27, Try.ntmps27
  go_wp2_with fail
  rw [← HW1.out, ← HSB'.out]
  go_loopw [6, 7, 8] (fun v ep i wr => ∃ (j : Nat) (st : Sc) (av : Option Addr) (cv : Nat), j ≤ l.length ∧ v = .slice av st.runs.length cv ∧ ep = .int .i64 st.epoch ∧ i = .int .i64 (j : Nat) ∧ Aside0 (ScI g l ⟨[], e, true⟩ j st) ∧ Aside0 (Kd.S (Kd.slice 5 (Kd.int .u8)) 24 wr W1.heap.size (fun _ => True) (.slice av st.runs.length cv) st.runs) ∧ Aside0 (HoldsRow wr Sb 31 #[.int .i64 g, .int .i64 e]) ∧ Aside0 (Below w.heap.size w wr ∧ W1.heap.size ≤ wr.heap.size)) (fun _ _ i _ => l.length - (intOf i).toNat)
  case atStart => exact ⟨0, ⟨[], e, true⟩, none, 0, by omega, rfl, rfl, rfl, ⟨ScI.start g l e⟩, ⟨Kd.S_nil _ _ _ _ _⟩, P1, ⟨B1.out, Nat.le_refl _⟩⟩
  case round =>
    obtain ⟨j, st, av, cv, hj, rfl, rfl, rfl, I, R, P, B⟩ := hrel
    clear P1 B1
    by_cases hlt : j < l.length
    · obtain ⟨ad, cs, rfl, -, ⟨A5, c5, rfl, hl5, hr5⟩, hcell⟩ := Kd.C_get (Kd.C_below HR.out B.out.1) ([] : List Int) (j : Int) (by omega) (by omega)
      rw [Int.toNat_natCast] at hcell hl5 hr5
      have K : wr.cell? (ad.add j) = some (.slice A5 (l.getD j []).length c5) := by
        have h : wr.cell? (ad.add (j * 1 + 0)) = some (.slice A5 (l.getD j []).length c5) := hcell 0 _ rfl
        rw [Nat.mul_one] at h
        exact h
      have hby : Bytes (l.getD j []) := by
        rw [List.getD_eq_getElem?_getD, List.getElem?_eq_getElem hlt]
        exact HBY.out _ (List.getElem_mem _)
      obtain ⟨kr, href⟩ := ref_read (l.getD j []) hby
      have hstop := fun h => I.out.stop hlt h
      have hnext := fun h => I.out.next hlt h
      have hdl := readT_err (l.getD j [])
      obtain ⟨m, hm⟩ : ∃ m, m = (l.getD j []).length := ⟨_, rfl⟩
      obtain ⟨s1, s2, bg, dat, er, hT⟩ : ∃ s1 s2 bg dat er, readT (l.getD j []) = (s1, s2, bg, dat, er) := ⟨_, _, _, _, _, rfl⟩
      rw [hT] at href hstop hnext hdl
      have hread := encoreref05_Read.calls kr A5 c5 (l.getD j []) s1 s2 bg dat er wr hr5 hl5 href
      rw [← hm] at K hread
      have HST := Aside0.mk hstop
      have HNX := Aside0.mk hnext
      have HDL := Aside0.mk (show dat.length ≤ 47 from hdl)
      have HRD := Aside0.mk hread
      have d1 : decide ((j : Int) < (l.length : Int)) = true := decide_eq_true (by omega)
      have b0 := eq_true (show (0 : Int) ≤ (j : Int) by omega)
      have b1 := eq_true (show (j : Int) < (l.length : Int) by omega)
      clear hcell hl5 hr5 hby hread hstop hnext hdl hm hT href
      go_wp2_with fail
      refine HRD.out.mono ?_
      rintro e3 w3 ⟨v3, rfl, hD, hb3⟩
      obtain ⟨A3, c3, hv3⟩ := Kd.R_slice hD
      subst hv3
      have R3 := Aside0.mk (Kd.S_below R.out hb3)
      have P3 := Aside0.mk (P.out.below hb3 P.out.lt)
      have B3 := Aside0.mk (And.intro (B.out.1.trans (hb3.mono B.out.1.size)) (Nat.le_trans B.out.2 hb3.size))
      obtain ⟨g9, hg9⟩ : ∃ g9, g9 = w3.heap.size := ⟨_, rfl⟩
      obtain ⟨W4, hW4⟩ : ∃ W4, W4 = (w3.alloc (.cells #[.int .i64 0, .int .i64 0] 31)).setRow w3.heap.size #[.int .i64 s1, .int .i64 s2] := ⟨_, rfl⟩
      have HNEW := Aside0.mk (show HoldsRow (w3.alloc (.cells #[.int .i64 0, .int .i64 0] 31)) w3.heap.size 31 s00 from HoldsRow.new _ _ _)
      have hb4 : Below w3.heap.size w3 W4 := by rw [hW4]; exact Go.Proofs.Ytfkndnocjelhgaa.Arr.below_setRow (below_alloc (Below.refl w3.heap.size w3) _) _ (Nat.le_refl _)
      have Q4 := Aside0.mk (show HoldsRow W4 g9 31 #[.int .i64 s1, .int .i64 s2] by rw [hW4, hg9]; exact HNEW.out.row _)
      have R4 := Aside0.mk (Kd.S_below R3.out hb4)
      have P4 := Aside0.mk (P3.out.below hb4 P3.out.lt)
      have D4 := Aside0.mk (show Kd.R (Kd.int .u8) 5 W4 wr.heap.size (fun _ => True) (.slice A3 dat.length c3) dat from Kd.R_below hD hb4)
      have B4 := Aside0.mk (And.intro (B3.out.1.trans (hb4.mono B3.out.1.size)) (Nat.le_trans B3.out.2 hb4.size))
      have HG9 := Aside0.mk hg9
      have HW4 := Aside0.mk hW4
      have HGG := Aside0.mk (show W1.heap.size ≤ g9 by rw [hg9]; exact B3.out.2)
      have K0 : W4.cell? ⟨w3.heap.size, 0, none⟩ = some (.int .i64 s1) := by rw [← hg9]; exact Q4.out.cell rfl
      have K1 : W4.cell? ⟨w3.heap.size, 1, none⟩ = some (.int .i64 s2) := by rw [← hg9]; exact Q4.out.cell rfl
      have K2 : W4.cell? ⟨Sb, 0, none⟩ = some (.int .i64 g) := P4.out.cell rfl
      have hsz2 : (#[Value.int .i64 s1, Value.int .i64 s2] : Array Value).size = 2 := rfl
      clear hD hb3 hb4 hW4 hg9 R3 P3 B3 R P B K
      by_cases her : er = 0
      case neg =>
        have e0 : (er == 0) = false := beq_eq_false_iff_ne.2 her
        have e1 : (er != 0) = true := bne_iff_ne.2 her
        have hs := Aside0.mk (HST.out (.inl her))
        go_wp2_with (refine wpList_store_row rfl 31 (.tmp 9) (.tmp 27) rfl w3.heap.size #[.int .i64 s1, .int .i64 s2] rfl rfl 31 s00 HNEW.out (by kernel_rfl) rfl (by simp [Value.oneCell']) ?_; rw [← HW4.out])
        go_ret2
        exact ⟨_, by rw [hs.out] <;> rfl, by rw [hs.out]; exact Kd.S_lower R4.out (by have := HSB.out; omega), B4.out.1⟩
      subst her
      by_cases hs1 : s1 = g
      case neg =>
        have e0 : (s1 == g) = false := beq_eq_false_iff_ne.2 hs1
        have e1 : (s1 != g) = true := bne_iff_ne.2 hs1
        have hs := Aside0.mk (HST.out (.inr (.inl hs1)))
        go_wp2_with (refine wpList_store_row rfl 31 (.tmp 9) (.tmp 27) rfl w3.heap.size #[.int .i64 s1, .int .i64 s2] rfl rfl 31 s00 HNEW.out (by kernel_rfl) rfl (by simp [Value.oneCell']) ?_; rw [← HW4.out])
        go_ret2
        exact ⟨_, by rw [hs.out] <;> rfl, by rw [hs.out]; exact Kd.S_lower R4.out (by have := HSB.out; omega), B4.out.1⟩
      subst hs1
      by_cases hs2 : s2 < st.epoch
      case pos =>
        have e0 : decide (s2 < st.epoch) = true := decide_eq_true hs2
        have hs := Aside0.mk (HST.out (.inr (.inr (.inl hs2))))
        go_wp2_with (refine wpList_store_row rfl 31 (.tmp 9) (.tmp 27) rfl w3.heap.size #[.int .i64 s1, .int .i64 s2] rfl rfl 31 s00 HNEW.out (by kernel_rfl) rfl (by simp [Value.oneCell']) ?_; rw [← HW4.out])
        go_ret2
        exact ⟨_, by rw [hs.out] <;> rfl, by rw [hs.out]; exact Kd.S_lower R4.out (by have := HSB.out; omega), B4.out.1⟩
      have e0 : decide (s2 < st.epoch) = false := decide_eq_false hs2
      cases bg with
      | true =>
        have hnb : ¬ badS s1 st (s1, s2, true, dat, 0) := by
          rintro (h | h | h | ⟨h, -⟩)
          · exact h rfl
          · exact h rfl
          · exact hs2 h
          · exact absurd (show true = false from h) (by decide)
        obtain ⟨xs, hxs⟩ : ∃ xs, xs = st.runs ++ [[]] := ⟨_, rfl⟩
        have HN := Aside0.mk (HNX.out hnb)
        have hns : nextS st (s1, s2, true, dat, 0) = ⟨appLast xs dat, s2, false⟩ := by rw [hxs]; rfl
        rw [hns] at HN
        have hxl : xs.length = st.runs.length + 1 := by rw [hxs]; simp
        have HXL := Aside0.mk (show xs.length ≤ j + 1 by have := I.out.len; omega)
        have hpos : 0 < xs.length := by omega
        have HXROW := Aside0.mk (show (xs.getD (xs.length - 1) []).length ≤ 47 * l.length by
          rw [hxs, List.getD_eq_getElem?_getD]
          cases hq : (st.runs ++ [[]])[(st.runs ++ [[]]).length - 1]? with
          | none => exact Nat.zero_le _
          | some q =>
            rcases List.mem_append.1 (List.mem_of_getElem? hq) with h | h
            · exact Nat.le_trans (I.out.row q h) (Nat.mul_le_mul_left _ hj)
            · rw [List.mem_singleton.1 h]; exact Nat.zero_le _)
        have HRL := Aside0.mk I.out.len
        have HXS := Aside0.mk hxs
        have HXLEN := Aside0.mk hxl
        have HPOS0 := Aside0.mk hpos
        have PQ4 := Aside0.mk (show HoldsRow W4 w3.heap.size 31 #[.int .i64 s1, .int .i64 s2] by rw [← HG9.out]; exact Q4.out)
        clear hns hxs hxl hpos hnb
        go_wp2_with (first | (refine wpList_store_row rfl 31 (.tmp 9) (.tmp 27) rfl w3.heap.size #[.int .i64 s1, .int .i64 s2] rfl rfl 31 s00 HNEW.out (by kernel_rfl) rfl (by simp [Value.oneCell']) ?_; rw [← HW4.out]) | (at_builtin; refine Kd.S_append (Kd.slice 5 (Kd.int .u8)) (w0 := W4) (W := W4) W1.heap.size rfl (.tmp 65) (.tmp 66) 26 24 (.slice none 0 0) 24 rfl Try.underlying26 (by kernel_rfl) rfl (by decide) (by decide) (.slice av st.runs.length cv) st.runs [] [.slice none 0 0] (fun _ => True) (fun _ => False) rfl rfl ⟨_, rfl, Kd.R_nil _ _ _ _ _⟩ (fun _ h => h.elim) (fun _ _ => trivial) (Kd.S_mono R4.out (fun _ _ => ⟨trivial, fun h => h⟩)) (Below.refl _ _) B4.out.2 ?aM ?_; (case aM => have := HRL.out; have := HL.out; omega); intro v5 w5 ho5 hb5 hg5 hat5; rw [← HXS.out] at ho5; obtain ⟨ax, cx, e5⟩ := Kd.S_slice ho5; subst e5; have RT := Aside0.mk ho5; have hgr : ∀ b T cs, T ≠ 24 → HoldsRow W4 b T cs → HoldsRow w5 b T cs := (fun b T cs hT hb => row_typed hb hg5 (Kd.S_typed R4.out) hT); have PT := Aside0.mk (hgr _ _ _ (by decide) P4.out); have QT := Aside0.mk (hgr _ _ _ (by decide) PQ4.out); have DT := Aside0.mk (Kd.R_over' D4.out (Kd.S_typed R4.out) (by decide) hg5); have BT := Aside0.mk (show Below w.heap.size w w5 ∧ W1.heap.size ≤ w5.heap.size from ⟨B4.out.1.grown hg5 B4.out.1.size (fun k h => by have := Kd.S_base R4.out k h; have := HSB.out; omega), Nat.le_trans B4.out.2 hg5.size⟩); have hpos := HPOS0.out; clear hgr ho5 hb5 hg5 hat5; obtain ⟨gl, A6, c6, oki, hax, hgb, hgl, hcell, hfro, hrow, hokg, hH⟩ := last_elem RT.out rfl hpos; subst hax; obtain ⟨x, hx⟩ : ∃ x, x = xs.getD (xs.length - 1) [] := ⟨_, rfl⟩; rw [← hx] at hcell hrow hH; have f1 := eq_true (show (0 : Int) ≤ ((xs.length - 1 : Nat) : Int) by omega); have f2 := eq_true (show ((xs.length - 1 : Nat) : Int) < (xs.length : Int) by omega); have f3 : wrap64 ((xs.length : Int) - 1) = ((xs.length - 1 : Nat) : Int) := (by have := HXL.out; have := HL.out; unfold wrap64; omega); have HROW := Aside0.mk hrow; have HHH := Aside0.mk hH; have HOKG := Aside0.mk hokg; have HX := Aside0.mk hx; have HCE := Aside0.mk hcell; have HFR := Aside0.mk hfro; have HPOS := Aside0.mk hpos; have HXB := Aside0.mk (show x.length ≤ 47 * l.length by rw [hx]; exact HXROW.out); clear hrow hH hokg hx hgb hgl; first | rw [← HXLEN.out] | skip) | (at_builtin; refine Kd.R_append_rows (Kd.int .u8) (w0 := w5) (W := w5) W1.heap.size rfl (.tmp 77) (.tmp 78) 24 5 (.int .u8 0) 1 rfl Try.underlying24 (by kernel_rfl) rfl (by decide) (by decide) (.slice A6 x.length c6) x dat A3 dat.length c3 (fun k => oki k ∨ w5.heap.size ≤ k) (fun _ => False) rfl rfl (Kd.R_mono HROW.out (fun k hk => .inl hk)) (Kd.R_reads' DT.out).2.2 (fun _ _ h => h) (fun _ h => h.elim) (fun k hk => .inr hk) (Below.refl _ _) BT.out.2 ?aL ?_; (case aL => have := HXB.out; have := HL.out; have := HDL.out; have : 47 * l.length ≤ 47 * 1000000 := Nat.mul_le_mul_left _ HL.out; omega); intro v6 w6 ho hb6 hg6 hat; obtain ⟨h8, h9, h10, h11, h12⟩ := scan_back (T := 31) (by decide) (by decide) RT.out HHH.out HPOS.out HX.out HROW.out HOKG.out hg6 ho (by have := HSB.out; omega) PT.out QT.out HCE.out HFR.out; have G6 := Aside0.mk hg6; have BB6 := Aside0.mk hb6; have HOB := Aside0.mk (show ∀ k, (Value.slice A6 x.length c6).ownBlock = some k → W1.heap.size ≤ k from fun k hk => Kd.R_base HROW.out k hk); obtain ⟨A7, c7, e7⟩ := Kd.R_slice ho; subst e7; obtain ⟨q7, hq7⟩ : ∃ q7, q7 = (x ++ dat).length := ⟨_, rfl⟩; rw [← hq7] at h8 h9 h10 ⊢; have R8 := Aside0.mk h8; have P8 := Aside0.mk h9; have Q8 := Aside0.mk h10; clear h8 h9 h10 ho hb6 hg6 hat hq7))
        have hw1 : wrap64 ((j : Int) + 1) = ((j + 1 : Nat) : Int) := by have := HL.out; unfold wrap64; omega
        have hgl := Kd.S_base R8.out gl (by simp [Value.ownBlock])
        have hSbw := HSB.out
        obtain ⟨W7, hW7⟩ : ∃ W7, W7 = w6.setCell ⟨gl, xs.length - 1, none⟩ (.slice A7 q7 c7) := ⟨_, rfl⟩
        have h6 : Below w.heap.size w w6 := BT.out.1.grown G6.out BT.out.1.size (fun k h => by have := HOB.out k h; omega)
        have h7 : Below w.heap.size w W7 := by rw [hW7]; exact h6.setCell (p := ⟨gl, xs.length - 1, none⟩) (show w.heap.size ≤ gl by omega) _
        have hs7 : W1.heap.size ≤ W7.heap.size := by
          have h1 := BT.out.2
          have h2 := G6.out.size
          have h3 : w6.heap.size ≤ W7.heap.size := by rw [hW7]; exact (KeepsOthers.setCell w6 _ _).size
          omega
        rw [← hW7] at R8 P8 ⊢
        refine ⟨⟨j + 1, ⟨appLast xs dat, s2, false⟩, some ⟨gl, 0, none⟩, cx, by omega, by rw [show (Sc.mk (appLast xs dat) s2 false).runs = appLast xs dat from rfl, appLast_len], rfl, by rw [hw1], HN, ⟨?_⟩, ⟨?_⟩, ⟨h7, hs7⟩⟩, ?_⟩
        · show Kd.S (Kd.slice 5 (Kd.int .u8)) 24 _ W1.heap.size (fun _ => True) (.slice (some ⟨gl, 0, none⟩) (appLast xs dat).length cx) (appLast xs dat)
          rw [appLast_len]
          exact R8.out
        · exact P8.out
        · rw [hw1]
          show l.length - ((j + 1 : Nat) : Int).toNat < l.length - (j : Int).toNat
          omega
      | false =>
        by_cases hj0 : j = 0
        · subst hj0
          have e1 : ((0 : Nat) == 0) = true := rfl
          have hs := Aside0.mk (HST.out (.inr (.inr (.inr ⟨rfl, .inl (I.out.first.trans e1)⟩))))
          go_wp2_with (refine wpList_store_row rfl 31 (.tmp 9) (.tmp 27) rfl w3.heap.size #[.int .i64 s1, .int .i64 s2] rfl rfl 31 s00 HNEW.out (by kernel_rfl) rfl (by simp [Value.oneCell']) ?_; rw [← HW4.out])
          go_ret2
          exact ⟨_, by rw [hs.out] <;> rfl, by rw [hs.out]; exact Kd.S_lower R4.out (by have := HSB.out; omega), B4.out.1⟩
        have e1 : (j == 0) = false := by simpa using hj0
        have e11 : ((j : Int) == 0) = false := by rw [beq_eq_false_iff_ne]; omega
        have e12 := eq_false hj0
        by_cases hs4 : st.epoch < s2
        case pos =>
          have e2 : decide (st.epoch < s2) = true := decide_eq_true hs4
          have hs := Aside0.mk (HST.out (.inr (.inr (.inr ⟨rfl, .inr (fun h => by have : s2 = st.epoch := h; omega)⟩))))
          go_wp2_with (refine wpList_store_row rfl 31 (.tmp 9) (.tmp 27) rfl w3.heap.size #[.int .i64 s1, .int .i64 s2] rfl rfl 31 s00 HNEW.out (by kernel_rfl) rfl (by simp [Value.oneCell']) ?_; rw [← HW4.out])
          go_ret2
          exact ⟨_, by rw [hs.out] <;> rfl, by rw [hs.out]; exact Kd.S_lower R4.out (by have := HSB.out; omega), B4.out.1⟩
        have e2 : decide (st.epoch < s2) = false := decide_eq_false hs4
        have hs3 : s2 = st.epoch := by omega
        have hnb : ¬ badS s1 st (s1, s2, false, dat, 0) := by
          rintro (h | h | h | ⟨-, h | h⟩)
          · exact h rfl
          · exact h rfl
          · exact hs2 h
          · rw [I.out.first, e1] at h; exact absurd h (by decide)
          · exact h hs3
        obtain ⟨xs, hxs⟩ : ∃ xs, xs = st.runs := ⟨_, rfl⟩
        have HN := Aside0.mk (HNX.out hnb)
        have hns : nextS st (s1, s2, false, dat, 0) = ⟨appLast xs dat, s2, false⟩ := by rw [hxs]; rfl
        rw [hns] at HN
        have HXL := Aside0.mk (show xs.length ≤ j + 1 by rw [hxs]; have := I.out.len; omega)
        have hpos : 0 < xs.length := by rw [hxs]; exact List.length_pos_iff.2 (I.out.ne hj0)
        have HXROW := Aside0.mk (show (xs.getD (xs.length - 1) []).length ≤ 47 * l.length by
          rw [hxs, List.getD_eq_getElem?_getD]
          cases hq : st.runs[st.runs.length - 1]? with
          | none => exact Nat.zero_le _
          | some q => exact Nat.le_trans (I.out.row q (List.mem_of_getElem? hq)) (Nat.mul_le_mul_left _ hj))
        have RT := Aside0.mk (show Kd.S (Kd.slice 5 (Kd.int .u8)) 24 W4 W1.heap.size (fun _ => True) (.slice av xs.length cv) xs by rw [hxs]; exact R4.out)
        rw [← hxs]
        have PT := P4
        have QT := Aside0.mk (show HoldsRow W4 w3.heap.size 31 #[.int .i64 s1, .int .i64 s2] by rw [← HG9.out]; exact Q4.out)
        have DT := D4
        have BT := B4
        have HEP := Aside0.mk hs3
        clear hns hxs P4 Q4 D4 B4 R4 hs3
        obtain ⟨gl, A6, c6, oki, hax, hgb, hgl, hcell, hfro, hrow, hokg, hH⟩ := last_elem RT.out rfl hpos
        subst hax
        obtain ⟨x, hx⟩ : ∃ x, x = xs.getD (xs.length - 1) [] := ⟨_, rfl⟩
        rw [← hx] at hcell hrow hH
        have f1 := eq_true (show (0 : Int) ≤ ((xs.length - 1 : Nat) : Int) by omega)
        have f2 := eq_true (show ((xs.length - 1 : Nat) : Int) < (xs.length : Int) by omega)
        have f3 : wrap64 ((xs.length : Int) - 1) = ((xs.length - 1 : Nat) : Int) := by have := HXL.out; have := HL.out; unfold wrap64; omega
        have HROW := Aside0.mk hrow
        have HHH := Aside0.mk hH
        have HOKG := Aside0.mk hokg
        have HX := Aside0.mk hx
        have HCE := Aside0.mk hcell
        have HFR := Aside0.mk hfro
        have HPOS := Aside0.mk hpos
        have HXB := Aside0.mk (show x.length ≤ 47 * l.length by rw [hx]; exact HXROW.out)
        clear hrow hH hokg hx hgb hgl
        go_wp2_with (first | (refine wpList_store_row rfl 31 (.tmp 9) (.tmp 27) rfl w3.heap.size #[.int .i64 s1, .int .i64 s2] rfl rfl 31 s00 HNEW.out (by kernel_rfl) rfl (by simp [Value.oneCell']) ?_; rw [← HW4.out]) | (at_builtin; refine Kd.R_append_rows (Kd.int .u8) (w0 := W4) (W := W4) W1.heap.size rfl (.tmp 77) (.tmp 78) 24 5 (.int .u8 0) 1 rfl Try.underlying24 (by kernel_rfl) rfl (by decide) (by decide) (.slice A6 x.length c6) x dat A3 dat.length c3 (fun k => oki k ∨ W4.heap.size ≤ k) (fun _ => False) rfl rfl (Kd.R_mono HROW.out (fun k hk => .inl hk)) (Kd.R_reads' DT.out).2.2 (fun _ _ h => h) (fun _ h => h.elim) (fun k hk => .inr hk) (Below.refl _ _) BT.out.2 ?aL ?_; (case aL => have := HXB.out; have := HL.out; have := HDL.out; have : 47 * l.length ≤ 47 * 1000000 := Nat.mul_le_mul_left _ HL.out; omega); intro v6 w6 ho hb6 hg6 hat; obtain ⟨h8, h9, h10, h11, h12⟩ := scan_back (T := 31) (by decide) (by decide) RT.out HHH.out HPOS.out HX.out HROW.out HOKG.out hg6 ho (by have := HSB.out; omega) PT.out QT.out HCE.out HFR.out; have G6 := Aside0.mk hg6; have BB6 := Aside0.mk hb6; have HOB := Aside0.mk (show ∀ k, (Value.slice A6 x.length c6).ownBlock = some k → W1.heap.size ≤ k from fun k hk => Kd.R_base HROW.out k hk); obtain ⟨A7, c7, e7⟩ := Kd.R_slice ho; subst e7; obtain ⟨q7, hq7⟩ : ∃ q7, q7 = (x ++ dat).length := ⟨_, rfl⟩; rw [← hq7] at h8 h9 h10 ⊢; have R8 := Aside0.mk h8; have P8 := Aside0.mk h9; have Q8 := Aside0.mk h10; clear h8 h9 h10 ho hb6 hg6 hat hq7))
        have hw1 : wrap64 ((j : Int) + 1) = ((j + 1 : Nat) : Int) := by have := HL.out; unfold wrap64; omega
        have hgl := Kd.S_base R8.out gl (by simp [Value.ownBlock])
        have hSbw := HSB.out
        obtain ⟨W7, hW7⟩ : ∃ W7, W7 = w6.setCell ⟨gl, xs.length - 1, none⟩ (.slice A7 q7 c7) := ⟨_, rfl⟩
        have h6 : Below w.heap.size w w6 := BT.out.1.grown G6.out BT.out.1.size (fun k h => by have := HOB.out k h; omega)
        have h7 : Below w.heap.size w W7 := by rw [hW7]; exact h6.setCell (p := ⟨gl, xs.length - 1, none⟩) (show w.heap.size ≤ gl by omega) _
        have hs7 : W1.heap.size ≤ W7.heap.size := by
          have h1 := BT.out.2
          have h2 := G6.out.size
          have h3 : w6.heap.size ≤ W7.heap.size := by rw [hW7]; exact (KeepsOthers.setCell w6 _ _).size
          omega
        rw [← hW7] at R8 P8 ⊢
        refine ⟨⟨j + 1, ⟨appLast xs dat, s2, false⟩, some ⟨gl, 0, none⟩, cv, by omega, by rw [show (Sc.mk (appLast xs dat) s2 false).runs = appLast xs dat from rfl, appLast_len], rfl, by rw [hw1], HN, ⟨?_⟩, ⟨?_⟩, ⟨h7, hs7⟩⟩, ?_⟩
        · show Kd.S (Kd.slice 5 (Kd.int .u8)) 24 _ W1.heap.size (fun _ => True) (.slice (some ⟨gl, 0, none⟩) (appLast xs dat).length cv) (appLast xs dat)
          rw [appLast_len]
          exact R8.out
        · exact P8.out
        · rw [hw1]
          show l.length - ((j + 1 : Nat) : Int).toNat < l.length - (j : Int).toNat
          omega
    · obtain rfl : j = l.length := by omega
      have d1 : decide ((l.length : Int) < (l.length : Int)) = false := decide_eq_false (by omega)
      have hd := Aside0.mk I.out.done
      clear hlt
      go_wp2_with fail
      go_ret2
      exact ⟨_, by rw [hd.out] <;> rfl, by rw [hd.out]; exact Kd.S_lower R.out (by have := HSB.out; omega), B.out.1⟩
end Go.Proofs.Ytfkndnocjelhgaa.Ext
