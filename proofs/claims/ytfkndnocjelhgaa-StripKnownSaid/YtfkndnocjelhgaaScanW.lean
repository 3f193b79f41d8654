/- strip.Scan, walked. Condition: a million cells at most; bytes are bytes. -/
import Derived.Test.YtfkndnocjelhgaaScan
namespace Go.Proofs.Ytfkndnocjelhgaa.Ext
open Go Go.RowKit Go.Proofs.YtfkndnocjelhgaaW.PrintWords Go.Proofs.YtfkndnocjelhgaaW.PrintLast Go.Proofs.YtfkndnocjelhgaaW.PrintMore Go.Proofs.Ytfkndnocjelhgaa.Base Go.Proofs.Ytfkndnocjelhgaa.Arr
set_option linter.unusedVariables false
set_option linter.unusedSimpArgs false

theorem cell_move {W W1 : World} {b o : Nat} (h : W1.heap[b]? = W.heap[b]?) : W1.cell? ⟨b, o, none⟩ = W.cell? ⟨b, o, none⟩ := by simp [World.cell?, h]
theorem frozen_move {W W1 : World} {b o : Nat} (h : W1.heap[b]? = W.heap[b]?) : W1.frozen? ⟨b, o, none⟩ = W.frozen? ⟨b, o, none⟩ := by simp [World.frozen?, h]
theorem row_typed {W w5 : World} {b T e : Nat} {cs : Array Value} {v : Value} (hb : HoldsRow W b T cs) (hg : W.grownBy w5 v.ownBlock) (ht : ∀ k, v.ownBlock = some k → ∃ cells, W.heap[k]? = some (.cells cells e (0, 0))) (hT : T ≠ e) : HoldsRow w5 b T cs := by
  refine hr_move hb (hg.block b hb.lt (fun h => ?_))
  obtain ⟨cells, hc⟩ := ht b h.symm
  rw [show W.heap[b]? = _ from hb] at hc
  injection hc with hc
  injection hc with _ h2 _
  exact hT h2
theorem DataAt.grown {W w5 : World} {base : Nat} {u v : Value} {l : List Int} (h : DataAt W base v l) (hg : W.grownBy w5 u.ownBlock) (ht : ∀ k, u.ownBlock = some k → ∃ cells, W.heap[k]? = some (.cells cells 24 (0, 0))) : DataAt w5 base v l := by
  rcases h with h | ⟨gb, b, h1, h2, h3⟩
  · exact .inl h
  · exact .inr ⟨gb, b, h1, row_typed h2 hg ht (by decide), h3⟩
theorem DataAt.rows {W : World} {base : Nat} {A : Option Addr} {l : List Int} (h : DataAt W base (.slice A l.length l.length) l) : Kd.C (Kd.int .u8) W A l.length l := by
  obtain ⟨A', e, hc⟩ := h.form
  injection e with e _ _
  subst e
  exact hc
/-- what a cell's data, put behind the last run, leave -/
theorem scan_back {W w6 : World} {base gl Sb g9 : Nat} {c2 : Nat} {A6 : Option Addr} {c6 : Nat} {oki : Nat → Prop} {xs : List (List Int)} {x d : List Int} {v6 : Value} {T : Nat} {cs9 csb : Array Value} (hT : T ≠ 5) (hT2 : T ≠ 24)
    (hS : Kd.S (Kd.slice 5 (Kd.int .u8)) 24 W base (fun _ => True) (.slice (some ⟨gl, 0, none⟩) xs.length c2) xs)
    (hH : Kd.H (Kd.slice 5 (Kd.int .u8)) 24 W base (fun _ => True) (.slice (some ⟨gl, 0, none⟩) xs.length c2) xs ((xs.length - 1 : Nat) : Int) oki [.slice A6 x.length c6]) (h0 : 0 < xs.length) (hx : x = xs.getD (xs.length - 1) [])
    (hR : Kd.R (Kd.int .u8) 5 W base oki (.slice A6 x.length c6) x) (hok : ∀ k, oki k → k ≠ gl) (hg : W.grownBy w6 (Value.slice A6 x.length c6).ownBlock) (ho : Kd.R (Kd.int .u8) 5 w6 base (fun k => oki k ∨ W.heap.size ≤ k) v6 (x ++ d))
    (hSb : Sb < base) (hP : HoldsRow W Sb T csb) (hQ : HoldsRow W g9 T cs9) (hcell : W.cell? ⟨gl, xs.length - 1, none⟩ = some (.slice A6 x.length c6)) (hfro : W.frozen? ⟨gl, xs.length - 1, none⟩ = false) :
    Kd.S (Kd.slice 5 (Kd.int .u8)) 24 (w6.setCell ⟨gl, xs.length - 1, none⟩ v6) base (fun _ => True) (.slice (some ⟨gl, 0, none⟩) xs.length c2) (appLast xs d) ∧ HoldsRow (w6.setCell ⟨gl, xs.length - 1, none⟩ v6) Sb T csb ∧ HoldsRow (w6.setCell ⟨gl, xs.length - 1, none⟩ v6) g9 T cs9 ∧
      w6.cell? ⟨gl, xs.length - 1, none⟩ = some (.slice A6 x.length c6) ∧ w6.frozen? ⟨gl, xs.length - 1, none⟩ = false := by
  have hgl : base ≤ gl := Kd.S_base hS gl (by simp [Value.ownBlock])
  have hglt : gl < W.heap.size := Kd.S_lt hS gl (by simp [Value.ownBlock])
  obtain ⟨cl, hcl⟩ := Kd.S_typed hS gl (by simp [Value.ownBlock])
  have hne : ∀ b cs, HoldsRow W b T cs → b ≠ gl ∧ some b ≠ (Value.slice A6 x.length c6).ownBlock := by
    intro b cs hb
    refine ⟨fun e => ?_, fun e => ?_⟩
    · subst e
      rw [show W.heap[b]? = _ from hb] at hcl
      injection hcl with hcl
      injection hcl with _ h2 _
      exact hT2 h2
    · obtain ⟨cells, hc⟩ := Kd.R_typed hR b e.symm
      rw [show W.heap[b]? = _ from hb] at hc
      injection hc with hc
      injection hc with _ h2 _
      exact hT h2
  have hmv : ∀ b cs, HoldsRow W b T cs → HoldsRow (w6.setCell ⟨gl, xs.length - 1, none⟩ v6) b T cs := fun b cs hb => hr_move hb ((Below.heap_setCell w6 ⟨gl, xs.length - 1, none⟩ v6 b (hne b cs hb).1).trans (hg.block b hb.lt (hne b cs hb).2))
  have hb6 : w6.heap[gl]? = W.heap[gl]? := hg.block gl hglt (fun e => hok gl (hR.1 gl e.symm) rfl)
  exact ⟨last_back hH h0 hx rfl hR hg ho, hmv _ _ hP, hmv _ _ hQ, (cell_move hb6).trans hcell, (frozen_move hb6).trans hfro⟩
set_option maxHeartbeats 4000000 in
set_option maxRecDepth 100000 in
theorem Scan_calls (w : World) (A : Option Addr) (c : Nat) (l : List (List Int)) (g e : Int) (hr : (Kd.slice 5 (Kd.int .u8)).C w A l.length l) (hc : l.length ≤ c) (hb : ∀ r ∈ l, Bytes r) (hl : l.length ≤ 1000000) :
    Calls Try.prog 26 #[.slice A l.length c, .agg #[.int .i64 g, .int .i64 e]] w fun en w' => ∃ v, en = .returned (.tuple #[v, .int .i64 (scanR g l ⟨[], e, true⟩).2]) ∧ Kd.S (Kd.slice 5 (Kd.int .u8)) 24 w' w.heap.size (fun _ => True) v (scanR g l ⟨[], e, true⟩).1 ∧ Below w.heap.size w w' := by
  have HR := Aside0.mk hr
  have HC := Aside0.mk hc
  have HBY := Aside0.mk hb
  have HL := Aside0.mk hl
  clear hr hc hb hl
  obtain ⟨W1, hW1⟩ : ∃ W1, W1 = w.alloc (.cells #[.int .i64 g, .int .i64 e] 23) := ⟨_, rfl⟩
  obtain ⟨Sb, hSb⟩ : ∃ Sb, Sb = w.heap.size := ⟨_, rfl⟩
  have P1 := Aside0.mk (show HoldsRow W1 Sb 23 #[.int .i64 g, .int .i64 e] by rw [hW1, hSb]; exact HoldsRow.new _ _ _)
  have B1 := Aside0.mk (show Below w.heap.size w W1 by rw [hW1]; exact below_alloc (Below.refl _ _) _)
  have HSB := Aside0.mk (show Sb = w.heap.size ∧ W1.heap.size = Sb + 1 by rw [hW1, hSb]; exact ⟨rfl, alloc_size _ _⟩)
  have HW1 := Aside0.mk (show W1 = w.alloc (.cells #[.int .i64 g, .int .i64 e] 23) from hW1)
  have HSB' := Aside0.mk hSb
  clear hW1 hSb
  go_enter Try.func26, Try.ntmps26
  go_wp2_with fail
  rw [← HW1.out, ← HSB'.out]
  go_loopw [4, 5, 6, 17] (fun v n f i wr => ∃ (j : Nat) (st : Sc) (av : Option Addr) (cv : Nat), j ≤ l.length ∧ v = .slice av st.runs.length cv ∧ n = .int .i64 (j : Nat) ∧ f = .bool (j == 0) ∧ i = .int .i64 (j : Nat) ∧ Aside0 (ScI g l ⟨[], e, true⟩ j st) ∧ Aside0 (Kd.S (Kd.slice 5 (Kd.int .u8)) 24 wr W1.heap.size (fun _ => True) (.slice av st.runs.length cv) st.runs) ∧ Aside0 (HoldsRow wr Sb 23 #[.int .i64 g, .int .i64 st.epoch]) ∧ Aside0 (Below w.heap.size w wr ∧ W1.heap.size ≤ wr.heap.size)) (fun _ _ _ i _ => l.length - (intOf i).toNat)
  case atStart => exact ⟨0, ⟨[], e, true⟩, none, 0, by omega, rfl, rfl, rfl, rfl, ⟨ScI.start g l e⟩, ⟨Kd.S_nil _ _ _ _ _⟩, P1, ⟨B1.out, Nat.le_refl _⟩⟩
  case round =>
    obtain ⟨j, st, av, cv, hj, rfl, rfl, rfl, rfl, I, R, P, B⟩ := hrel
    clear P1 B1
    by_cases hlt : j < l.length
    · obtain ⟨ad, cs, rfl, -, ⟨A5, c5, rfl, hl5, hr5⟩, hcell⟩ := Kd.C_get (Kd.C_below HR.out B.out.1) ([] : List Int) (j : Int) (by omega) (by omega)
      rw [Int.toNat_natCast] at hcell hl5 hr5
      have K : wr.cell? (ad.add j) = some (.slice A5 (l.getD j []).length c5) := by
        have h : wr.cell? (ad.add (j * 1 + 0)) = some (.slice A5 (l.getD j []).length c5) := hcell 0 _ rfl
        rw [Nat.mul_one] at h
        exact h
      have hby : Bytes (l.getD j []) := by
        rw [List.getD_eq_getElem?_getD, List.getElem?_eq_getElem hlt]
        exact HBY.out _ (List.getElem_mem _)
      have hread := Read_T wr A5 c5 (l.getD j []) hr5 hl5 hby
      have hstop := fun h => I.out.stop hlt h
      have hnext := fun h => I.out.next hlt h
      have hdl := readT_err (l.getD j [])
      obtain ⟨m, hm⟩ : ∃ m, m = (l.getD j []).length := ⟨_, rfl⟩
      rw [← hm] at K hread
      obtain ⟨s1, s2, bg, dat, er, hT⟩ : ∃ s1 s2 bg dat er, readT (l.getD j []) = (s1, s2, bg, dat, er) := ⟨_, _, _, _, _, rfl⟩
      rw [hT] at hread hstop hnext hdl
      have HST := Aside0.mk hstop
      have HNX := Aside0.mk hnext
      have HDL := Aside0.mk (show dat.length ≤ 47 from hdl)
      have HRD := Aside0.mk hread
      have d1 : decide ((j : Int) < (l.length : Int)) = true := decide_eq_true (by omega)
      have b0 := eq_true (show (0 : Int) ≤ (j : Int) by omega)
      have b1 := eq_true (show (j : Int) < (l.length : Int) by omega)
      clear hcell hl5 hr5 hby hread hstop hnext hdl hm hT
      go_wp2_with fail
      refine HRD.out.mono ?_
      rintro e3 w3 ⟨v3, rfl, hD, hb3⟩
      obtain ⟨A3, hv3, -⟩ := hD.form
      have hD' : DataAt w3 wr.heap.size v3 dat := hD
      subst hv3
      have R3 := Aside0.mk (Kd.S_below R.out hb3)
      have P3 := Aside0.mk (P.out.below hb3 P.out.lt)
      have B3 := Aside0.mk (And.intro (B.out.1.trans (hb3.mono B.out.1.size)) (Nat.le_trans B.out.2 hb3.size))
      obtain ⟨g9, hg9⟩ : ∃ g9, g9 = w3.heap.size := ⟨_, rfl⟩
      obtain ⟨W4, hW4⟩ : ∃ W4, W4 = (w3.alloc (.cells #[.int .i64 0, .int .i64 0] 23)).setRow w3.heap.size #[.int .i64 s1, .int .i64 s2] := ⟨_, rfl⟩
      have HNEW := Aside0.mk (show HoldsRow (w3.alloc (.cells #[.int .i64 0, .int .i64 0] 23)) w3.heap.size 23 s00 from HoldsRow.new _ _ _)
      have hb4 : Below w3.heap.size w3 W4 := by rw [hW4]; exact Go.Proofs.Ytfkndnocjelhgaa.Arr.below_setRow (below_alloc (Below.refl w3.heap.size w3) _) _ (Nat.le_refl _)
      have Q4 := Aside0.mk (show HoldsRow W4 g9 23 #[.int .i64 s1, .int .i64 s2] by rw [hW4, hg9]; exact HNEW.out.row _)
      have R4 := Aside0.mk (Kd.S_below R3.out hb4)
      have P4 := Aside0.mk (P3.out.below hb4 P3.out.lt)
      have D4 := Aside0.mk (DataAt.below hD' hb4)
      have B4 := Aside0.mk (And.intro (B3.out.1.trans (hb4.mono B3.out.1.size)) (Nat.le_trans B3.out.2 hb4.size))
      have HG9 := Aside0.mk hg9
      have HW4 := Aside0.mk hW4
      have HGG := Aside0.mk (show W1.heap.size ≤ g9 by rw [hg9]; exact B3.out.2)
      have K0 : W4.cell? ⟨w3.heap.size, 0, none⟩ = some (.int .i64 s1) := by rw [← hg9]; exact Q4.out.cell rfl
      have K1 : W4.cell? ⟨w3.heap.size, 1, none⟩ = some (.int .i64 s2) := by rw [← hg9]; exact Q4.out.cell rfl
      have K2 : W4.cell? ⟨Sb, 0, none⟩ = some (.int .i64 g) := P4.out.cell rfl
      have K3 : W4.cell? ⟨Sb, 1, none⟩ = some (.int .i64 st.epoch) := P4.out.cell rfl
      have hsz2 : (#[Value.int .i64 s1, Value.int .i64 s2] : Array Value).size = 2 := rfl
      clear hD hD' hb3 hb4 hW4 hg9 R3 P3 B3 R P B K
      by_cases her : er = 0
      case neg =>
        have e0 : (er == 0) = false := beq_eq_false_iff_ne.2 her
        have e1 : (er != 0) = true := bne_iff_ne.2 her
        have hs := Aside0.mk (HST.out (.inl her))
        go_wp2_with (refine wpList_store_row rfl 23 (.tmp 9) (.tmp 24) rfl w3.heap.size #[.int .i64 s1, .int .i64 s2] rfl rfl 23 s00 HNEW.out (by kernel_rfl) rfl (by simp [Value.oneCell']) ?_; rw [← HW4.out])
        go_ret2
        exact ⟨_, by rw [hs.out] <;> rfl, by rw [hs.out]; exact Kd.S_lower R4.out (by have := HSB.out; omega), B4.out.1⟩
      subst her
      by_cases hs1 : s1 = g
      case neg =>
        have e0 : (s1 == g) = false := beq_eq_false_iff_ne.2 hs1
        have e1 : (s1 != g) = true := bne_iff_ne.2 hs1
        have hs := Aside0.mk (HST.out (.inr (.inl hs1)))
        go_wp2_with (refine wpList_store_row rfl 23 (.tmp 9) (.tmp 24) rfl w3.heap.size #[.int .i64 s1, .int .i64 s2] rfl rfl 23 s00 HNEW.out (by kernel_rfl) rfl (by simp [Value.oneCell']) ?_; rw [← HW4.out])
        go_ret2
        exact ⟨_, by rw [hs.out] <;> rfl, by rw [hs.out]; exact Kd.S_lower R4.out (by have := HSB.out; omega), B4.out.1⟩
      subst hs1
      by_cases hs2 : s2 < st.epoch
      case pos =>
        have e0 : decide (s2 < st.epoch) = true := decide_eq_true hs2
        have hs := Aside0.mk (HST.out (.inr (.inr (.inl hs2))))
        go_wp2_with (refine wpList_store_row rfl 23 (.tmp 9) (.tmp 24) rfl w3.heap.size #[.int .i64 s1, .int .i64 s2] rfl rfl 23 s00 HNEW.out (by kernel_rfl) rfl (by simp [Value.oneCell']) ?_; rw [← HW4.out])
        go_ret2
        exact ⟨_, by rw [hs.out] <;> rfl, by rw [hs.out]; exact Kd.S_lower R4.out (by have := HSB.out; omega), B4.out.1⟩
      have e0 : decide (s2 < st.epoch) = false := decide_eq_false hs2
      cases bg with
      | true =>
        have hnb : ¬ badS s1 st (s1, s2, true, dat, 0) := by
          rintro (h | h | h | ⟨h, -⟩)
          · exact h rfl
          · exact h rfl
          · exact hs2 h
          · exact absurd (show true = false from h) (by decide)
        obtain ⟨xs, hxs⟩ : ∃ xs, xs = st.runs ++ [[]] := ⟨_, rfl⟩
        have HN := Aside0.mk (HNX.out hnb)
        have hns : nextS st (s1, s2, true, dat, 0) = ⟨appLast xs dat, s2, false⟩ := by rw [hxs]; rfl
        rw [hns] at HN
        have hxl : xs.length = st.runs.length + 1 := by rw [hxs]; simp
        have HXL := Aside0.mk (show xs.length ≤ j + 1 by have := I.out.len; omega)
        have hpos : 0 < xs.length := by omega
        have HXROW := Aside0.mk (show (xs.getD (xs.length - 1) []).length ≤ 47 * l.length by
          rw [hxs, List.getD_eq_getElem?_getD]
          cases hq : (st.runs ++ [[]])[(st.runs ++ [[]]).length - 1]? with
          | none => exact Nat.zero_le _
          | some q =>
            rcases List.mem_append.1 (List.mem_of_getElem? hq) with h | h
            · exact Nat.le_trans (I.out.row q h) (Nat.mul_le_mul_left _ hj)
            · rw [List.mem_singleton.1 h]; exact Nat.zero_le _)
        have HRL := Aside0.mk I.out.len
        have HXS := Aside0.mk hxs
        have HXLEN := Aside0.mk hxl
        have HPOS0 := Aside0.mk hpos
        have PQ4 := Aside0.mk (show HoldsRow W4 w3.heap.size 23 #[.int .i64 s1, .int .i64 s2] by rw [← HG9.out]; exact Q4.out)
        clear hns hxs hxl hpos hnb
        go_wp2_with (first | (refine wpList_store_row rfl 23 (.tmp 9) (.tmp 24) rfl w3.heap.size #[.int .i64 s1, .int .i64 s2] rfl rfl 23 s00 HNEW.out (by kernel_rfl) rfl (by simp [Value.oneCell']) ?_; rw [← HW4.out]) | (at_builtin; refine Kd.S_append (Kd.slice 5 (Kd.int .u8)) (w0 := W4) (W := W4) W1.heap.size rfl (.tmp 61) (.tmp 62) 26 24 (.slice none 0 0) 24 rfl Try.underlying26 (by kernel_rfl) rfl (by decide) (by decide) (.slice av st.runs.length cv) st.runs [] [.slice none 0 0] (fun _ => True) (fun _ => False) rfl rfl ⟨_, rfl, Kd.R_nil _ _ _ _ _⟩ (fun _ h => h.elim) (fun _ _ => trivial) (Kd.S_mono R4.out (fun _ _ => ⟨trivial, fun h => h⟩)) (Below.refl _ _) B4.out.2 ?aM ?_; (case aM => have := HRL.out; have := HL.out; omega); intro v5 w5 ho5 hb5 hg5 hat5; rw [← HXS.out] at ho5; obtain ⟨ax, cx, e5⟩ := Kd.S_slice ho5; subst e5; have RT := Aside0.mk ho5; have hgr : ∀ b T cs, T ≠ 24 → HoldsRow W4 b T cs → HoldsRow w5 b T cs := (fun b T cs hT hb => row_typed hb hg5 (Kd.S_typed R4.out) hT); have PT := Aside0.mk (hgr _ _ _ (by decide) P4.out); have QT := Aside0.mk (hgr _ _ _ (by decide) PQ4.out); have DT := Aside0.mk (D4.out.grown hg5 (Kd.S_typed R4.out)); have BT := Aside0.mk (show Below w.heap.size w w5 ∧ W1.heap.size ≤ w5.heap.size from ⟨B4.out.1.grown hg5 B4.out.1.size (fun k h => by have := Kd.S_base R4.out k h; have := HSB.out; omega), Nat.le_trans B4.out.2 hg5.size⟩); have hpos := HPOS0.out; clear hgr ho5 hb5 hg5 hat5; obtain ⟨gl, A6, c6, oki, hax, hgb, hgl, hcell, hfro, hrow, hokg, hH⟩ := last_elem RT.out rfl hpos; subst hax; obtain ⟨x, hx⟩ : ∃ x, x = xs.getD (xs.length - 1) [] := ⟨_, rfl⟩; rw [← hx] at hcell hrow hH; have f1 := eq_true (show (0 : Int) ≤ ((xs.length - 1 : Nat) : Int) by omega); have f2 := eq_true (show ((xs.length - 1 : Nat) : Int) < (xs.length : Int) by omega); have f3 : wrap64 ((xs.length : Int) - 1) = ((xs.length - 1 : Nat) : Int) := (by have := HXL.out; have := HL.out; unfold wrap64; omega); have HROW := Aside0.mk hrow; have HHH := Aside0.mk hH; have HOKG := Aside0.mk hokg; have HX := Aside0.mk hx; have HCE := Aside0.mk hcell; have HFR := Aside0.mk hfro; have HPOS := Aside0.mk hpos; have HXB := Aside0.mk (show x.length ≤ 47 * l.length by rw [hx]; exact HXROW.out); clear hrow hH hokg hx hgb hgl; first | rw [← HXLEN.out] | skip) | (at_builtin; refine Kd.R_append_rows (Kd.int .u8) (w0 := w5) (W := w5) W1.heap.size rfl (.tmp 72) (.tmp 73) 24 5 (.int .u8 0) 1 rfl Try.underlying24 (by kernel_rfl) rfl (by decide) (by decide) (.slice A6 x.length c6) x dat A3 dat.length dat.length (fun k => oki k ∨ w5.heap.size ≤ k) (fun _ => False) rfl rfl (Kd.R_mono HROW.out (fun k hk => .inl hk)) DT.out.rows (fun _ _ h => h) (fun _ h => h.elim) (fun k hk => .inr hk) (Below.refl _ _) BT.out.2 ?aL ?_; (case aL => have := HXB.out; have := HL.out; have := HDL.out; have : 47 * l.length ≤ 47 * 1000000 := Nat.mul_le_mul_left _ HL.out; omega); intro v6 w6 ho hb6 hg6 hat; obtain ⟨h8, h9, h10, h11, h12⟩ := scan_back (T := 23) (by decide) (by decide) RT.out HHH.out HPOS.out HX.out HROW.out HOKG.out hg6 ho (by have := HSB.out; omega) PT.out QT.out HCE.out HFR.out; have G6 := Aside0.mk hg6; have BB6 := Aside0.mk hb6; have HOB := Aside0.mk (show ∀ k, (Value.slice A6 x.length c6).ownBlock = some k → W1.heap.size ≤ k from fun k hk => Kd.R_base HROW.out k hk); obtain ⟨A7, c7, e7⟩ := Kd.R_slice ho; subst e7; obtain ⟨q7, hq7⟩ : ∃ q7, q7 = (x ++ dat).length := ⟨_, rfl⟩; rw [← hq7] at h8 h9 h10 ⊢; have R8 := Aside0.mk h8; have P8 := Aside0.mk h9; have Q8 := Aside0.mk h10; clear h8 h9 h10 ho hb6 hg6 hat hq7) | (refine wpList_load_row rfl 23 (.tmp 9) rfl w3.heap.size rfl 23 #[.int .i64 s1, .int .i64 s2] (0, 0) _ (show HoldsRow _ w3.heap.size 23 #[.int .i64 s1, .int .i64 s2] from Q8.out) Try.underlying23 rfl (by kernel_rfl) ?_) | (refine wpList_store_row rfl 23 (.tmp 3) (.tmp 76) rfl Sb #[.int .i64 s1, .int .i64 s2] rfl rfl 23 #[.int .i64 s1, .int .i64 st.epoch] P8.out (by kernel_rfl) rfl (by simp [Value.oneCell']) ?_))
        have hw1 : wrap64 ((j : Int) + 1) = ((j + 1 : Nat) : Int) := by have := HL.out; unfold wrap64; omega
        have hgl := Kd.S_base R8.out gl (by simp [Value.ownBlock])
        have hSbw := HSB.out
        obtain ⟨W7, hW7⟩ : ∃ W7, W7 = w6.setCell ⟨gl, xs.length - 1, none⟩ (.slice A7 q7 c7) := ⟨_, rfl⟩
        have h6 : Below w.heap.size w w6 := BT.out.1.grown G6.out BT.out.1.size (fun k h => by have := HOB.out k h; omega)
        have h7 : Below w.heap.size w W7 := by rw [hW7]; exact h6.setCell (p := ⟨gl, xs.length - 1, none⟩) (show w.heap.size ≤ gl by omega) _
        have hs7 : W1.heap.size ≤ W7.heap.size := by
          have h1 := BT.out.2
          have h2 := G6.out.size
          have h3 : w6.heap.size ≤ W7.heap.size := by rw [hW7]; exact (KeepsOthers.setCell w6 _ _).size
          omega
        rw [← hW7] at R8 P8 ⊢
        have h8 := Go.Proofs.Ytfkndnocjelhgaa.Arr.below_setRow (B := w.heap.size) (b := Sb) h7 #[.int .i64 s1, .int .i64 s2] (by omega)
        have hs8 := (Go.Proofs.Ytfkndnocjelhgaa.Arr.below_setRow (B := Sb) (b := Sb) (Below.refl Sb W7) #[.int .i64 s1, .int .i64 s2] (Nat.le_refl _)).size
        refine ⟨⟨j + 1, ⟨appLast xs dat, s2, false⟩, some ⟨gl, 0, none⟩, cx, by omega, by rw [show (Sc.mk (appLast xs dat) s2 false).runs = appLast xs dat from rfl, appLast_len], by rw [hw1], by simp, by rw [hw1], HN, ⟨?_⟩, ⟨?_⟩, ⟨h8, Nat.le_trans hs7 hs8⟩⟩, ?_⟩
        · show Kd.S (Kd.slice 5 (Kd.int .u8)) 24 _ W1.heap.size (fun _ => True) (.slice (some ⟨gl, 0, none⟩) (appLast xs dat).length cx) (appLast xs dat)
          rw [appLast_len]
          exact Kd.S_mono (Kd.S_step (Kd.S_bound R8.out) (fun k hk _ => setRow_other W7 Sb k _ (by have := hk.2.1; omega))) (fun _ _ => trivial)
        · exact P8.out.row _
        · rw [hw1]
          show l.length - ((j + 1 : Nat) : Int).toNat < l.length - (j : Int).toNat
          omega
      | false =>
        by_cases hj0 : j = 0
        · subst hj0
          have e1 : ((0 : Nat) == 0) = true := rfl
          have hs := Aside0.mk (HST.out (.inr (.inr (.inr ⟨rfl, .inl (I.out.first.trans e1)⟩))))
          go_wp2_with (refine wpList_store_row rfl 23 (.tmp 9) (.tmp 24) rfl w3.heap.size #[.int .i64 s1, .int .i64 s2] rfl rfl 23 s00 HNEW.out (by kernel_rfl) rfl (by simp [Value.oneCell']) ?_; rw [← HW4.out])
          go_ret2
          exact ⟨_, by rw [hs.out] <;> rfl, by rw [hs.out]; exact Kd.S_lower R4.out (by have := HSB.out; omega), B4.out.1⟩
        have e1 : (j == 0) = false := by simpa using hj0
        by_cases hs3 : s2 = st.epoch
        case neg =>
          have e2 : (s2 == st.epoch) = false := beq_eq_false_iff_ne.2 hs3
          have hs := Aside0.mk (HST.out (.inr (.inr (.inr ⟨rfl, .inr hs3⟩))))
          go_wp2_with (refine wpList_store_row rfl 23 (.tmp 9) (.tmp 24) rfl w3.heap.size #[.int .i64 s1, .int .i64 s2] rfl rfl 23 s00 HNEW.out (by kernel_rfl) rfl (by simp [Value.oneCell']) ?_; rw [← HW4.out])
          go_ret2
          exact ⟨_, by rw [hs.out] <;> rfl, by rw [hs.out]; exact Kd.S_lower R4.out (by have := HSB.out; omega), B4.out.1⟩
        have e2 : (s2 == st.epoch) = true := by rw [hs3]; exact beq_self_eq_true _
        have hnb : ¬ badS s1 st (s1, s2, false, dat, 0) := by
          rintro (h | h | h | ⟨-, h | h⟩)
          · exact h rfl
          · exact h rfl
          · exact hs2 h
          · rw [I.out.first, e1] at h; exact absurd h (by decide)
          · exact h hs3
        obtain ⟨xs, hxs⟩ : ∃ xs, xs = st.runs := ⟨_, rfl⟩
        have HN := Aside0.mk (HNX.out hnb)
        have hns : nextS st (s1, s2, false, dat, 0) = ⟨appLast xs dat, s2, false⟩ := by rw [hxs]; rfl
        rw [hns] at HN
        have HXL := Aside0.mk (show xs.length ≤ j + 1 by rw [hxs]; have := I.out.len; omega)
        have hpos : 0 < xs.length := by rw [hxs]; exact List.length_pos_iff.2 (I.out.ne hj0)
        have HXROW := Aside0.mk (show (xs.getD (xs.length - 1) []).length ≤ 47 * l.length by
          rw [hxs, List.getD_eq_getElem?_getD]
          cases hq : st.runs[st.runs.length - 1]? with
          | none => exact Nat.zero_le _
          | some q => exact Nat.le_trans (I.out.row q (List.mem_of_getElem? hq)) (Nat.mul_le_mul_left _ hj))
        have RT := Aside0.mk (show Kd.S (Kd.slice 5 (Kd.int .u8)) 24 W4 W1.heap.size (fun _ => True) (.slice av xs.length cv) xs by rw [hxs]; exact R4.out)
        rw [← hxs]
        have PT := P4
        have QT := Aside0.mk (show HoldsRow W4 w3.heap.size 23 #[.int .i64 s1, .int .i64 s2] by rw [← HG9.out]; exact Q4.out)
        have DT := D4
        have BT := B4
        have HEP := Aside0.mk hs3
        clear hns hxs P4 Q4 D4 B4 R4 hs3
        obtain ⟨gl, A6, c6, oki, hax, hgb, hgl, hcell, hfro, hrow, hokg, hH⟩ := last_elem RT.out rfl hpos
        subst hax
        obtain ⟨x, hx⟩ : ∃ x, x = xs.getD (xs.length - 1) [] := ⟨_, rfl⟩
        rw [← hx] at hcell hrow hH
        have f1 := eq_true (show (0 : Int) ≤ ((xs.length - 1 : Nat) : Int) by omega)
        have f2 := eq_true (show ((xs.length - 1 : Nat) : Int) < (xs.length : Int) by omega)
        have f3 : wrap64 ((xs.length : Int) - 1) = ((xs.length - 1 : Nat) : Int) := by have := HXL.out; have := HL.out; unfold wrap64; omega
        have HROW := Aside0.mk hrow
        have HHH := Aside0.mk hH
        have HOKG := Aside0.mk hokg
        have HX := Aside0.mk hx
        have HCE := Aside0.mk hcell
        have HFR := Aside0.mk hfro
        have HPOS := Aside0.mk hpos
        have HXB := Aside0.mk (show x.length ≤ 47 * l.length by rw [hx]; exact HXROW.out)
        clear hrow hH hokg hx hgb hgl
        go_wp2_with (first | (refine wpList_store_row rfl 23 (.tmp 9) (.tmp 24) rfl w3.heap.size #[.int .i64 s1, .int .i64 s2] rfl rfl 23 s00 HNEW.out (by kernel_rfl) rfl (by simp [Value.oneCell']) ?_; rw [← HW4.out]) | (at_builtin; refine Kd.R_append_rows (Kd.int .u8) (w0 := W4) (W := W4) W1.heap.size rfl (.tmp 72) (.tmp 73) 24 5 (.int .u8 0) 1 rfl Try.underlying24 (by kernel_rfl) rfl (by decide) (by decide) (.slice A6 x.length c6) x dat A3 dat.length dat.length (fun k => oki k ∨ W4.heap.size ≤ k) (fun _ => False) rfl rfl (Kd.R_mono HROW.out (fun k hk => .inl hk)) DT.out.rows (fun _ _ h => h) (fun _ h => h.elim) (fun k hk => .inr hk) (Below.refl _ _) BT.out.2 ?aL ?_; (case aL => have := HXB.out; have := HL.out; have := HDL.out; have : 47 * l.length ≤ 47 * 1000000 := Nat.mul_le_mul_left _ HL.out; omega); intro v6 w6 ho hb6 hg6 hat; obtain ⟨h8, h9, h10, h11, h12⟩ := scan_back (T := 23) (by decide) (by decide) RT.out HHH.out HPOS.out HX.out HROW.out HOKG.out hg6 ho (by have := HSB.out; omega) PT.out QT.out HCE.out HFR.out; have G6 := Aside0.mk hg6; have BB6 := Aside0.mk hb6; have HOB := Aside0.mk (show ∀ k, (Value.slice A6 x.length c6).ownBlock = some k → W1.heap.size ≤ k from fun k hk => Kd.R_base HROW.out k hk); obtain ⟨A7, c7, e7⟩ := Kd.R_slice ho; subst e7; obtain ⟨q7, hq7⟩ : ∃ q7, q7 = (x ++ dat).length := ⟨_, rfl⟩; rw [← hq7] at h8 h9 h10 ⊢; have R8 := Aside0.mk h8; have P8 := Aside0.mk h9; have Q8 := Aside0.mk h10; clear h8 h9 h10 ho hb6 hg6 hat hq7) | (refine wpList_load_row rfl 23 (.tmp 9) rfl w3.heap.size rfl 23 #[.int .i64 s1, .int .i64 s2] (0, 0) _ (show HoldsRow _ w3.heap.size 23 #[.int .i64 s1, .int .i64 s2] from Q8.out) Try.underlying23 rfl (by kernel_rfl) ?_) | (refine wpList_store_row rfl 23 (.tmp 3) (.tmp 76) rfl Sb #[.int .i64 s1, .int .i64 s2] rfl rfl 23 #[.int .i64 s1, .int .i64 st.epoch] P8.out (by kernel_rfl) rfl (by simp [Value.oneCell']) ?_))
        have hw1 : wrap64 ((j : Int) + 1) = ((j + 1 : Nat) : Int) := by have := HL.out; unfold wrap64; omega
        have hgl := Kd.S_base R8.out gl (by simp [Value.ownBlock])
        have hSbw := HSB.out
        obtain ⟨W7, hW7⟩ : ∃ W7, W7 = w6.setCell ⟨gl, xs.length - 1, none⟩ (.slice A7 q7 c7) := ⟨_, rfl⟩
        have h6 : Below w.heap.size w w6 := BT.out.1.grown G6.out BT.out.1.size (fun k h => by have := HOB.out k h; omega)
        have h7 : Below w.heap.size w W7 := by rw [hW7]; exact h6.setCell (p := ⟨gl, xs.length - 1, none⟩) (show w.heap.size ≤ gl by omega) _
        have hs7 : W1.heap.size ≤ W7.heap.size := by
          have h1 := BT.out.2
          have h2 := G6.out.size
          have h3 : w6.heap.size ≤ W7.heap.size := by rw [hW7]; exact (KeepsOthers.setCell w6 _ _).size
          omega
        rw [← hW7] at R8 P8 ⊢
        have h8 := Go.Proofs.Ytfkndnocjelhgaa.Arr.below_setRow (B := w.heap.size) (b := Sb) h7 #[.int .i64 s1, .int .i64 s2] (by omega)
        have hs8 := (Go.Proofs.Ytfkndnocjelhgaa.Arr.below_setRow (B := Sb) (b := Sb) (Below.refl Sb W7) #[.int .i64 s1, .int .i64 s2] (Nat.le_refl _)).size
        refine ⟨⟨j + 1, ⟨appLast xs dat, s2, false⟩, some ⟨gl, 0, none⟩, cv, by omega, by rw [show (Sc.mk (appLast xs dat) s2 false).runs = appLast xs dat from rfl, appLast_len], by rw [hw1], by simp, by rw [hw1], HN, ⟨?_⟩, ⟨?_⟩, ⟨h8, Nat.le_trans hs7 hs8⟩⟩, ?_⟩
        · show Kd.S (Kd.slice 5 (Kd.int .u8)) 24 _ W1.heap.size (fun _ => True) (.slice (some ⟨gl, 0, none⟩) (appLast xs dat).length cv) (appLast xs dat)
          rw [appLast_len]
          exact Kd.S_mono (Kd.S_step (Kd.S_bound R8.out) (fun k hk _ => setRow_other W7 Sb k _ (by have := hk.2.1; omega))) (fun _ _ => trivial)
        · exact P8.out.row _
        · rw [hw1]
          show l.length - ((j + 1 : Nat) : Int).toNat < l.length - (j : Int).toNat
          omega
    · obtain rfl : j = l.length := by omega
      have d1 : decide ((l.length : Int) < (l.length : Int)) = false := decide_eq_false (by omega)
      have hd := Aside0.mk I.out.done
      clear hlt
      go_wp2_with fail
      go_ret2
      exact ⟨_, by rw [hd.out] <;> rfl, by rw [hd.out]; exact Kd.S_lower R.out (by have := HSB.out; omega), B.out.1⟩
end Go.Proofs.Ytfkndnocjelhgaa.Ext
