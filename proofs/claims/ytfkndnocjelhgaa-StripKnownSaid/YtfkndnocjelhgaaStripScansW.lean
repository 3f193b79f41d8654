/- encorelaw05.StripScans, walked with the plain law at hand. Condition: bytes are bytes; rows that lie somewhere. -/
import Derived.Test.YtfkndnocjelhgaaScanF
import Derived.Test.YtfkndnocjelhgaaRefScan
namespace Go.Proofs.Ytfkndnocjelhgaa.Ext
open Go Go.RowKit Go.Proofs.YtfkndnocjelhgaaW.PrintWords Go.Proofs.YtfkndnocjelhgaaW.PrintLast Go.Proofs.YtfkndnocjelhgaaW.PrintMore Go.Proofs.Ytfkndnocjelhgaa.Base Go.Proofs.Ytfkndnocjelhgaa.Arr
set_option linter.unusedVariables false
set_option linter.unusedSimpArgs false

theorem appLast_rows (l : List (List Int)) (d : List Int) (n m : Nat) (hl : ∀ r ∈ l, r.length ≤ n) (hd : d.length ≤ m) : ∀ r ∈ appLast l d, r.length ≤ n + m := appLast_bound l d n m hl hd
theorem scanR_bound (g : Int) : ∀ (l : List (List Int)) (st : Sc) (n m : Nat), (∀ r ∈ st.runs, r.length ≤ n) → st.runs.length ≤ m → (∀ r ∈ (scanR g l st).1, r.length ≤ n + 47 * l.length) ∧ (scanR g l st).1.length ≤ m + l.length
  | [], st, n, m, h1, h2 => ⟨fun r hr => Nat.le_trans (h1 r hr) (Nat.le_add_right _ _), Nat.le_trans h2 (Nat.le_add_right _ _)⟩
  | c :: cs, st, n, m, h1, h2 => by
    rw [scanR_cons]
    by_cases hb : badS g st (readT c)
    · rw [if_pos hb]
      exact ⟨fun r hr => Nat.le_trans (h1 r hr) (Nat.le_add_right _ _), Nat.le_trans h2 (Nat.le_add_right _ _)⟩
    · rw [if_neg hb]
      have hr : ∀ r ∈ (nextS st (readT c)).runs, r.length ≤ n + 47 := by
        refine appLast_bound _ _ n 47 (fun r hr => ?_) (readT_err c)
        split at hr
        · rcases List.mem_append.1 hr with h | h
          · exact h1 r h
          · rw [List.mem_singleton.1 h]; exact Nat.zero_le _
        · exact h1 r hr
      have hl : (nextS st (readT c)).runs.length ≤ m + 1 := by
        unfold nextS
        rw [appLast_len]
        split
        · simp; omega
        · omega
      obtain ⟨i1, i2⟩ := scanR_bound g cs (nextS st (readT c)) (n + 47) (m + 1) hr hl
      refine ⟨fun r hr => ?_, ?_⟩
      · have := i1 r hr
        simp only [List.length_cons]
        omega
      · simp only [List.length_cons]
        have : (scanR g cs (nextS st (readT c))).1.length ≤ m + 1 + cs.length := i2
        show (scanR g cs (nextS st (readT c))).1.length ≤ _
        omega
def sizedB (l : List (List Int)) : Bool := l.all fun r => decide (r.length < 140737488355328)
theorem sized_to {l : List (List Int)} (h : ∀ r ∈ l, r.length < 140737488355328) : sizedB l = true := List.all_eq_true.2 fun r hr => by simpa using h r hr
def encorelaw05_StripScans.f (l0 : List (List Int)) (a1_0 a1_1 : Int) : Option Bool := if rowsB l0 = true ∧ sizedB l0 = true then some true else none
set_option maxHeartbeats 4000000 in
set_option maxRecDepth 100000 in
theorem encorelaw05_StripScans.calls (A0 : Option Addr) (c0 : Nat) (l0 : List (List Int)) (g e : Int) (r : Bool) (w : World) (hr0 : Kd.C (Kd.slice 5 (Kd.int .u8)) w A0 l0.length l0) (hc0 : l0.length ≤ c0) (h : encorelaw05_StripScans.f l0 g e = some r) :
    Calls Try.prog 7 #[.slice A0 l0.length c0, .agg #[.int .i64 g, .int .i64 e]] w fun en w' => en = .returned (.bool r) ∧ Below w.heap.size w w' := by
  unfold encorelaw05_StripScans.f at h
  split at h
  case isFalse => cases h
  case isTrue hh =>
  cases h
  obtain ⟨q, hq⟩ : ∃ q, q = min l0.length 60 := ⟨_, rfl⟩
  have hql : q ≤ l0.length := by omega
  have hq2 : q ≤ 60 := by omega
  obtain ⟨l, hl⟩ : ∃ l, l = l0.take q := ⟨_, rfl⟩
  have hll : l.length = q := by rw [hl, List.length_take]; omega
  have HB := Aside0.mk (show Kd.C (Kd.slice 5 (Kd.int .u8)) w A0 q l by
    have := Kd.C_take hr0 hql
    rw [← hl, hll] at this
    exact this)
  have HBY := Aside0.mk (show ∀ r ∈ l, Bytes r from fun r hr => rows_of hh.1 r (by rw [hl] at hr; exact List.mem_of_mem_take hr))
  have HSI := Aside0.mk (show ∀ r ∈ l, r.length < 140737488355328 from fun r hr => by
    have := List.all_eq_true.1 hh.2 r (by rw [hl] at hr; exact List.mem_of_mem_take hr)
    simpa using this)
  have hmin : min (l0.length : Int) 60 = (q : Int) := by omega
  have HLL := Aside0.mk hll
  have f0 := eq_true (show (0 : Int) ≤ (q : Int) by omega)
  have f1 := eq_true (show (q : Int) ≤ (c0 : Int) by omega)
  have f2 := eq_true (show q ≤ c0 by omega)
  have HQC := Aside0.mk (show q ≤ c0 by omega)
  have HQ2 := Aside0.mk hq2
  obtain ⟨W1, hW1⟩ : ∃ W1, W1 = w.alloc (.cells #[.int .i64 g, .int .i64 e] 23) := ⟨_, rfl⟩
  obtain ⟨Sb, hSb⟩ : ∃ Sb, Sb = w.heap.size := ⟨_, rfl⟩
  have P1 := Aside0.mk (show HoldsRow W1 Sb 23 #[.int .i64 g, .int .i64 e] by rw [hW1, hSb]; exact HoldsRow.new _ _ _)
  have B1 := Aside0.mk (show Below w.heap.size w W1 by rw [hW1]; exact below_alloc (Below.refl _ _) _)
  have HSB := Aside0.mk (show Sb = w.heap.size ∧ W1.heap.size = Sb + 1 by rw [hW1, hSb]; exact ⟨rfl, alloc_size _ _⟩)
  have HW1 := Aside0.mk hW1
  have HSB' := Aside0.mk hSb
  clear hW1 hSb hq hl hll hr0 hc0 hql hq2 hh
  go_enter Try.func7, Try.ntmps7
  go_wp2_with fail
  rw [← HW1.out, ← HSB'.out]
  go_loopw [5, 6] (fun v i wr => ∃ (j : Nat) (av : Option Addr) (cv : Nat), j ≤ q ∧ v = .slice av j cv ∧ i = .int .i64 (j : Nat) ∧ Aside0 (Kd.R (Kd.slice 5 (Kd.int .u8)) 24 wr W1.heap.size (fun _ => True) (.slice av j cv) (l.take j)) ∧ Aside0 (HoldsRow wr Sb 23 #[.int .i64 g, .int .i64 e]) ∧ Aside0 (Below w.heap.size w wr ∧ W1.heap.size ≤ wr.heap.size)) (fun _ i _ => q - (intOf i).toNat)
  case atStart => exact ⟨0, none, 0, by omega, rfl, rfl, ⟨Kd.R_nil _ _ _ _ _⟩, P1, ⟨B1.out, Nat.le_refl _⟩⟩
  case round =>
    obtain ⟨j, av, cv, hj, rfl, rfl, R, P, B⟩ := hrel
    clear P1 B1
    by_cases hlt : j < q
    · obtain ⟨ad, cs, rfl, -, ⟨A5, c5, rfl, hl5, hr5⟩, hcell⟩ := Kd.C_get (Kd.C_below HB.out B.out.1) ([] : List Int) (j : Int) (by omega) (by omega)
      rw [Int.toNat_natCast] at hcell hl5 hr5
      have K : wr.cell? (ad.add j) = some (.slice A5 (l.getD j []).length c5) := by
        have h : wr.cell? (ad.add (j * 1 + 0)) = some (.slice A5 (l.getD j []).length c5) := hcell 0 _ rfl
        rw [Nat.mul_one] at h
        exact h
      have hjl : j < l.length := by rw [HLL.out]; exact hlt
      have hmem : l.getD j [] ∈ l := by
        rw [List.getD_eq_getElem?_getD, List.getElem?_eq_getElem hjl]
        exact List.getElem_mem _
      have hcp := encoreref00_CopyBytes.calls A5 c5 (l.getD j []) (l.getD j []) wr hr5 hl5 (copy_eq _ (HSI.out _ hmem))
      have HT := Aside0.mk (show l.take (j + 1) = l.take j ++ [l.getD j []] by
        rw [List.take_add_one, List.getElem?_eq_getElem hjl, List.getD_eq_getElem?_getD, List.getElem?_eq_getElem hjl]; rfl)
      have HTL := Aside0.mk (show (l.take j).length = j by rw [List.length_take]; omega)
      have HTL1 := Aside0.mk (show (l.take (j + 1)).length = j + 1 by rw [List.length_take]; omega)
      obtain ⟨x, hx⟩ : ∃ x, x = l.getD j [] := ⟨_, rfl⟩
      rw [← hx] at K hcp HT
      have HCP := Aside0.mk hcp
      have d1 : decide ((j : Int) < (q : Int)) = true := decide_eq_true (by omega)
      have b0 := eq_true (show (0 : Int) ≤ (j : Int) by omega)
      have b1 := eq_true (show (j : Int) < (q : Int) by omega)
      have hw1 : wrap64 ((j : Int) + 1) = ((j + 1 : Nat) : Int) := by have := HQ2.out; unfold wrap64; omega
      clear hcell hl5 hr5 hmem hcp hx hjl
      go_wp2_with fail
      refine HCP.out.mono ?_
      rintro e3 w3 ⟨v3, rfl, ho3, hb3⟩
      obtain ⟨A3, c3, rfl⟩ := Kd.R_slice ho3
      have R3 := Aside0.mk (Kd.R_below R.out hb3)
      have P3 := Aside0.mk (P.out.below hb3 P.out.lt)
      have B3 := Aside0.mk (And.intro (B.out.1.trans (hb3.mono B.out.1.size)) (Nat.le_trans B.out.2 hb3.size))
      have O3 := Aside0.mk ho3
      have HS3 := Aside0.mk hb3.size
      have HOW := Aside0.mk (show ∀ k, (Value.slice av j cv).ownBlock = some k → k < wr.heap.size from fun k hk => Kd.R_lt R.out k hk)
      have HB2 := Aside0.mk B.out.2
      clear ho3 hb3 R P B
      go_wp2_with (at_builtin; refine Kd.R_append (Kd.slice 5 (Kd.int .u8)) (w0 := w3) (W := w3) W1.heap.size rfl (.tmp 22) (.tmp 28) 26 24 (.slice none 0 0) 24 rfl Try.underlying26 (by kernel_rfl) rfl (by decide) (by decide) (.slice av j cv) (l.take j) x [.slice A3 x.length c3] (fun _ => True) (fun k => wr.heap.size ≤ k) rfl rfl ⟨_, rfl, Kd.R_lower (Kd.R_mono (Kd.R_bound O3.out) (fun k hk => hk.2.1)) HB2.out⟩ (fun k hk => ⟨trivial, fun h => by have := HOW.out k h.symm; omega⟩) (fun _ _ => trivial) R3.out (Below.refl _ _) B3.out.2 ?aL ?_; (case aL => rw [HTL.out]; have := HQ2.out; omega); intro v5 w5 ho5 hb5 hg5 hat5; rw [← HT.out] at ho5; obtain ⟨A7, c7, e7⟩ := Kd.R_slice ho5; rw [HTL1.out] at e7; subst e7; have R5 := Aside0.mk ho5; have P5 := Aside0.mk (row_typed (T := 23) P3.out hg5 (Kd.R_typed R3.out) (by decide)); have B5 := Aside0.mk (show Below w.heap.size w w5 ∧ W1.heap.size ≤ w5.heap.size from ⟨B3.out.1.grown hg5 B3.out.1.size (fun k hk => by have := Kd.R_base R3.out k hk; have := HSB.out; omega), Nat.le_trans B3.out.2 hg5.size⟩); clear ho5 hb5 hg5 hat5)
      refine ⟨⟨j + 1, A7, c7, by omega, rfl, rfl, R5, P5, B5⟩, ?_⟩
      show q - ((j : Int) + 1).toNat < q - (j : Int).toNat
      omega
    · obtain rfl : j = q := by omega
      have d1 : decide ((j : Int) < (j : Int)) = false := decide_eq_false (by omega)
      have htl : l.take j = l := by rw [← HLL.out, List.take_length]
      rw [htl] at R
      have K0 : wr.cell? ⟨Sb, 0, none⟩ = some (.int .i64 g) := P.out.cell rfl
      have K1 : wr.cell? ⟨Sb, 1, none⟩ = some (.int .i64 e) := P.out.cell rfl
      have R2 := Aside0.mk (show Kd.R (Kd.slice 5 (Kd.int .u8)) 24 wr W1.heap.size (fun k => k < wr.heap.size) (.slice av j cv) l from Kd.R_mono (Kd.R_bound R.out) (fun k hk => hk.2.2.1))
      clear hlt htl R f0 f1 f2
      go_wp2_with fail
      have hrd := Kd.R_reads' R2.out
      have hsc1 := Scan_calls wr av cv l g e hrd.2.2 (by rw [HLL.out]; exact hrd.2.1) HBY.out (by rw [HLL.out]; have := HQ2.out; omega)
      rw [HLL.out] at hsc1
      refine hsc1.mono ?_
      rintro en w3 ⟨v3, rfl, hs3, hb3⟩
      have S3 := Aside0.mk hs3
      have R3 := Aside0.mk (Kd.R_below R2.out hb3)
      have P3 := Aside0.mk (P.out.below hb3 P.out.lt)
      have B3 := Aside0.mk (B.out.1.trans (hb3.mono B.out.1.size))
      have HBS := Aside0.mk (show w.heap.size ≤ wr.heap.size from B.out.1.size)
      have K0 : w3.cell? ⟨Sb, 0, none⟩ = some (.int .i64 g) := P3.out.cell rfl
      have K1 : w3.cell? ⟨Sb, 1, none⟩ = some (.int .i64 e) := P3.out.cell rfl
      clear hrd hsc1 hs3 hb3 R2 P B
      obtain ⟨A3, c3, rfl⟩ := Kd.S_slice S3.out
      go_wp2_with fail
      refine (stamp5_calls w3 g e).mono ?_
      rintro en w4 ⟨rfl, hb4⟩
      have S4 := Aside0.mk (Kd.S_below S3.out hb4)
      have R4 := Aside0.mk (Kd.R_below R3.out hb4)
      have B4 := Aside0.mk (B3.out.trans (hb4.mono B3.out.size))
      clear hb4 S3 R3 B3 P3 K0 K1
      go_wp2_with fail
      have hsc := RScan_calls w4 A0 c0 l g e (by rw [HLL.out]; exact Kd.C_below HB.out B4.out) (by rw [HLL.out]; exact HQC.out) HBY.out (by rw [HLL.out]; have := HQ2.out; omega)
      rw [HLL.out] at hsc
      refine hsc.mono ?_
      rintro en w5 ⟨v5, rfl, hs5, hb5⟩
      have T5 := Aside0.mk hs5
      have S5 := Aside0.mk (Kd.S_below S4.out hb5)
      have R5 := Aside0.mk (Kd.R_below R4.out hb5)
      have B5 := Aside0.mk (B4.out.trans (hb5.mono B4.out.size))
      clear hsc hs5 hb5 S4 R4 B4
      obtain ⟨A5, c5, rfl⟩ := Kd.S_slice T5.out
      obtain ⟨hbd1, hbd2⟩ := scanR_bound g l ⟨[], e, true⟩ 0 0 (fun r hr => by simp at hr) (Nat.le_refl _)
      obtain ⟨X, hX⟩ : ∃ X, X = (scanR g l ⟨[], e, true⟩).1 := ⟨_, rfl⟩
      obtain ⟨n, hn⟩ : ∃ n, n = (scanR g l ⟨[], e, true⟩).2 := ⟨_, rfl⟩
      rw [← hX] at S5 T5 hbd1 hbd2 ⊢
      rw [← hn]
      have HXR := Aside0.mk (show ∀ r ∈ X, r.length ≤ 3000 from fun r hr => by have := hbd1 r hr; have := HQ2.out; have := HLL.out; omega)
      have HXN := Aside0.mk (show X.length ≤ 60 by have := HLL.out; have := HQ2.out; omega)
      clear hbd1 hbd2 hX hn
      go_wp2_with fail
      have hs3 := Kd.S_reads' S5.out
      have ht3 := Kd.S_reads' T5.out
      refine (encoreref04_Same.calls (3000 + 1 + X.length + 1) A3 c3 X A5 c5 X true w5 hs3.2.2 hs3.2.1 ht3.2.2 ht3.2.1 (same_refl X 3000 (by decide) HXR.out (by have := HXN.out; omega))).mono ?_
      rintro en w6 ⟨rfl, hd6⟩
      have hb6 := hd6.below
      have S6 := Aside0.mk (Kd.S_below S5.out hb6)
      have R6 := Aside0.mk (Kd.R_below R5.out hb6)
      have B6 := Aside0.mk (B5.out.trans (hb6.mono B5.out.size))
      clear hs3 ht3 hd6 hb6 S5 T5 R5 B5
      go_wp2_with fail
      have hspoil : Calls Try.prog 18 #[.slice A3 X.length c3] w6 fun e w' => e = .returned (.tuple #[]) ∧ Below w.heap.size w w' ∧ ∀ k, k < wr.heap.size → w'.heap[k]? = w6.heap[k]? := by
        obtain ⟨inner, hi⟩ := Kd.S_own S6.out
        rcases hi.2 with ⟨hv, -⟩ | ⟨gl, cap, cur, hv, -⟩
        · rw [hv]
          exact (spoil_nil w6).mono (by rintro e w' ⟨rfl, rfl⟩; exact ⟨rfl, B6.out, fun _ _ => rfl⟩)
        · injection hv with h1 h2 h3
          subst h1
          have hsoil := soil_of_R (Kd.S_R S6.out)
          refine (spoil_calls w w6 w.heap.size _ gl X.length c3 B6.out (fun k hk => Nat.le_trans HBS.out hk.1) hsoil (by have := HXN.out; omega)).mono ?_
          rintro e w' ⟨rfl, h4, h5, -⟩
          exact ⟨rfl, h4, fun k hk => h5 k (fun h => by have := h.1; omega)⟩
      refine hspoil.mono ?_
      rintro en w7 ⟨rfl, hb7, hk7⟩
      have B7 := Aside0.mk hb7
      have R7 := Aside0.mk (Kd.R_step R6.out (fun k hk _ => hk7 k hk))
      clear hspoil hb7 hk7 S6 R6 B6
      go_wp2_with fail
      have hR := Kd.R_reads' R7.out
      obtain ⟨M, hM, hM2⟩ : ∃ M, (∀ r ∈ l, r.length ≤ M) ∧ M ≤ 9223372036854775807 := ⟨140737488355328, fun r hr => Nat.le_of_lt (HSI.out r hr), by decide⟩
      have hsm := encoreref04_Same.calls (M + 1 + l.length + 1) av cv l A0 c0 l true w7 hR.2.2 (by rw [HLL.out]; exact hR.2.1) (by rw [HLL.out]; exact Kd.C_below HB.out B7.out) (by rw [HLL.out]; exact HQC.out) (same_refl l M hM2 hM (by rw [HLL.out]; have := HQ2.out; omega))
      have hll := HLL.out
      refine Calls.mono (show Calls Try.prog 15 #[.slice av j cv, .slice A0 j c0] w7 _ by rw [hll] at hsm; exact hsm) ?_
      rintro en w8 ⟨rfl, hd8⟩
      have B8 := Aside0.mk (B7.out.trans (hd8.below.mono B7.out.size))
      clear hd8 hsm hR hll hM hM2
      go_wp2_with fail
      refine (works_calls w8).mono ?_
      rintro en w9 ⟨rfl, hb9⟩
      have B9 := Aside0.mk (B8.out.trans (hb9.mono B8.out.size))
      go_wp2_with fail
      go_ret
      exact ⟨rfl, B9.out⟩
end Go.Proofs.Ytfkndnocjelhgaa.Ext
