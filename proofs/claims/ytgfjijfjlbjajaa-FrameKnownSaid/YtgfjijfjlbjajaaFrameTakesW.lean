/- FrameTakes answers true, walked with the plain law at hand: for every row of bytes. Condition: bytes. -/
import Derived.Test.YtgfjijfjlbjajaaFramePacksW
import Derived.Test.YtgfjijfjlbjajaaFrameAllR
import Derived.Test.YtgfjijfjlbjajaaSoil
namespace Go.Proofs.Ytgfjijfjlbjajaa.Ext
open Go.RowKit Go.Proofs.YtgfjijfjlbjajaaW.PrintWords Go.Proofs.YtgfjijfjlbjajaaW.PrintLast Go.Proofs.YtgfjijfjlbjajaaW.PrintMore Go.Proofs.Ytgfjijfjlbjajaa.Base Go.Proofs.Ytgfjijfjlbjajaa.Arr Go.Proofs.Ytgfjijfjlbjajaa.Mid Go.Proofs.Ytgfjijfjlbjajaa.BinMath Go.Proofs.Ytgfjijfjlbjajaa.BinLink Go.Proofs.Ytgfjijfjlbjajaa.FrameLink
set_option linter.unusedVariables false
set_option linter.unusedSimpArgs false
attribute [local go_sem] max2_int min2_int max_two min_two max_three min_three max_four min_four

def encorelaw04_FrameTakes.f (l0 : List Int) : Option Bool := if ∀ x ∈ l0, 0 ≤ x ∧ x < 256 then some true else none
theorem F_came {w : World} {A : Option Addr} {n : Nat} {xs : List Int} (h : Kd.C (Kd.int .u8) w A n xs) : Kd.F (Kd.int .u8) w (fun _ => True) A n xs := fun W' hW => Kd.Heap.C (Kd.heap_int .u8) (fun k hk => hW k trivial hk) h
theorem next_len {x : List Int} (h : Bytes x) (hl : x.length ≤ 3000) : (nextR x).1.length ≤ 3000 ∧ (nextR x).2.1.length ≤ 3000 := by
  unfold nextR
  have := read_len numberF x
  split
  · split
    · simp
    · split
      · simp
      · split
        · simp only [List.length_take, List.length_drop]
          omega
        · simp
  · simp
set_option maxHeartbeats 8000000 in
set_option maxRecDepth 100000 in
theorem takes_calls (A0 : Option Addr) (c0 : Nat) (l0 : List Int) (w : World) (hr0 : Kd.C (Kd.int .u8) w A0 l0.length l0) (hc0 : l0.length ≤ c0) (hb : Bytes l0) :
    Calls Try.prog 7 #[.slice A0 l0.length c0] w fun e w' => e = .returned (.bool true) ∧ Below w.heap.size w w' := by
  obtain ⟨m, hm1, hm2, hm3, hm4⟩ := min_facts l0.length 3000
  rw [show ((3000 : Nat) : Int) = 3000 from rfl] at hm1
  have hlt : (l0.take m).length = m := by rw [List.length_take]; omega
  have hbt := hb.take m
  obtain ⟨i0, hi0, _, hsz0, _⟩ := info_parts infoU8
  have hcut := cut_to (P := Try.prog) 22 5 .i64 Try.underlying22 hi0 A0 l0.length c0 (m : Int) (by omega) (by omega) hc0
  rw [Int.toNat_natCast] at hcut
  obtain ⟨k, hk⟩ : ∃ k : Nat, 100000 ≤ k := ⟨100000, Nat.le_refl _⟩
  have HR := Aside0.mk (C_take_any hr0 m hm3)
  have HCOPY := Aside0.mk (copy_eq (l0.take m) (by omega))
  have hn1 := next_eq hbt (by omega)
  have hn2 := ref_next_eq hbt (by omega) k (by omega)
  have ha1 := all_eq hbt (by omega)
  have ha2 := ref_all_eq hbt (by omega) k (by omega)
  have hnl := next_len hbt (by omega)
  have hal := allR_len ((l0.take m).length + 1) (l0.take m) [] 3001 hbt (by omega) (fun z hz => by cases hz)
  rw [List.length_nil] at hal
  have HC0 := Aside0.mk (show m ≤ c0 by omega)
  have HM := Aside0.mk hm4
  clear hr0 hb hbt hc0 hm3 hm4 hk
  generalize l0.take m = b at *
  obtain ⟨⟨p, r, e⟩, hq⟩ : ∃ q, q = nextR b := ⟨_, rfl⟩
  obtain ⟨⟨y, n, g⟩, hq2⟩ : ∃ q, q = allR (b.length + 1) b [] := ⟨_, rfl⟩
  rw [← hq] at hn1 hn2 hnl
  rw [← hq2] at ha1 ha2 hal
  subst hlt
  have HN1 := Aside0.mk hn1
  have HN2 := Aside0.mk hn2
  have HA1 := Aside0.mk ha1
  have HA2 := Aside0.mk ha2
  have HNL := Aside0.mk hnl
  have HAL := Aside0.mk (show y.length ≤ 3000 ∧ ∀ z ∈ y, z.length < 3001 from ⟨by have h1 : y.length ≤ 0 + b.length := hal.1; have := HM.out; omega, hal.2⟩)
  clear hn1 hn2 ha1 ha2 hnl hal hq hq2
  go_enter Try.func7, Try.ntmps7
  go_wp2_with fail
  refine (encoreref00_CopyBytes.calls A0 c0 b b w HR.out HC0.out HCOPY.out).mono ?_
  rintro e w1 ⟨v1, rfl, h1, b1⟩
  obtain ⟨A1, c1, rfl, hc1, -⟩ := Kd.Q_reads (Kd.Q_of_R h1)
  have HIN := Aside0.mk (Q_hold (Kd.Q_of_R h1))
  have HB1 := Aside0.mk b1
  have HS1 := Aside0.mk b1.size
  have HCC := Aside0.mk hc1
  clear h1 b1 hc1 hm1 hm2 hcut
  go_wp2_with fail
  refine (frame_Next.calls A1 c1 b p r e w1 (Kd.Q_reads' HIN.out).2.2 HCC.out HN1.out).mono ?_
  rintro e' w2 ⟨v2, v3, rfl, h2, h3, b2⟩
  obtain ⟨A2, c2, rfl⟩ := Kd.R_slice h2
  obtain ⟨A3, c3, rfl⟩ := Kd.R_slice h3
  have HIN2 := Aside0.mk (Kd.Q_below HIN.out b2)
  have HP2 := Aside0.mk (Kd.R_mono (ok' := fun _ => True) h2 (fun _ _ => trivial))
  have HR2 := Aside0.mk (Kd.R_mono (ok' := fun _ => True) h3 (fun _ _ => trivial))
  have HB2 := Aside0.mk (below_then HB1.out HB1.out.size b2)
  have HZ2 := Aside0.mk b2.size
  clear h2 h3 b2 HIN
  go_wp2_with fail
  refine (encoreref04_Next.calls k A0 c0 b p r e w2 (Kd.C_below HR.out HB2.out) HC0.out HN2.out).mono ?_
  rintro e' w3 ⟨v4, v5, rfl, h4, h5, b3⟩
  obtain ⟨A4, c4, rfl⟩ := Kd.R_slice h4
  obtain ⟨A5, c5, rfl⟩ := Kd.R_slice h5
  have HIN3 := Aside0.mk (Kd.Q_below HIN2.out b3)
  have HP3 := Aside0.mk (Kd.R_below HP2.out b3)
  have HR3 := Aside0.mk (Kd.R_below HR2.out b3)
  have HX3 := Aside0.mk (Kd.R_reads' h4)
  have HY3 := Aside0.mk (Kd.R_reads' h5)
  have HB3 := Aside0.mk (below_then HB2.out HB2.out.size b3)
  have HZ3 := Aside0.mk (Nat.le_trans HZ2.out b3.size)
  clear h4 h5 b3 HIN2 HP2 HR2
  go_wp2_with fail
  refine (frame_All.calls A1 c1 b y n g w3 (Kd.Q_reads' HIN3.out).2.2 HCC.out HA1.out).mono ?_
  rintro e' w4 ⟨v6, rfl, h6, b4⟩
  obtain ⟨A6, c6, rfl⟩ := Kd.S_slice h6
  have HIN4 := Aside0.mk (Kd.Q_below HIN3.out b4)
  have HP4 := Aside0.mk (Kd.R_below HP3.out b4)
  have HR4 := Aside0.mk (Kd.R_below HR3.out b4)
  have HX4 := Aside0.mk (Kd.C_below HX3.out.2.2 b4)
  have HY4 := Aside0.mk (Kd.C_below HY3.out.2.2 b4)
  have HL4 := Aside0.mk (Kd.R_lower (Kd.S_R h6) HZ3.out)
  have HB4 := Aside0.mk (below_then HB3.out HB3.out.size b4)
  have HZ4 := Aside0.mk (Nat.le_trans HZ3.out b4.size)
  clear h6 b4 HIN3 HP3 HR3
  go_wp2_with fail
  refine (encoreref04_All.calls k (fun _ => True) A0 c0 b y n g w4 (Kd.V_mk HC0.out (F_came (Kd.C_below HR.out HB4.out))) HA2.out).mono ?_
  rintro e' w5 ⟨v7, rfl, h7, b5⟩
  obtain ⟨A7, c7, rfl⟩ := Kd.S_slice h7
  have HIN5 := Aside0.mk (Kd.Q_below HIN4.out b5)
  have HP5 := Aside0.mk (Kd.R_below HP4.out b5)
  have HR5 := Aside0.mk (Kd.R_below HR4.out b5)
  have HX5 := Aside0.mk (Kd.C_below HX4.out b5)
  have HY5 := Aside0.mk (Kd.C_below HY4.out b5)
  have HL5 := Aside0.mk (Kd.R_below HL4.out b5)
  have HM5 := Aside0.mk (Kd.S_reads' h7)
  have HB5 := Aside0.mk (below_then HB4.out HB4.out.size b5)
  have HZ5 := Aside0.mk (Nat.le_trans HZ4.out b5.size)
  clear h7 b5 HIN4 HP4 HR4 HX4 HY4 HL4
  go_wp2_with fail
  refine (encoreref00_EqBytes.calls (p.length + 1) A2 c2 p A4 c4 p true _ (Kd.R_reads' HP5.out).2.2 (Kd.R_reads' HP5.out).2.1 HX5.out HX3.out.2.1 (eq_same p (by have := HNL.out.1; omega) _ (by omega))).mono ?_
  rintro e' w6 ⟨rfl, ⟨d6, rfl⟩⟩
  have HIN6 := Aside0.mk (Kd.Q_drewN HIN5.out d6)
  have HP6 := Aside0.mk (Kd.R_drewN HP5.out d6)
  have HR6 := Aside0.mk (Kd.R_drewN HR5.out d6)
  have HY6 := Aside0.mk (Kd.C_drewN HY5.out d6)
  have HL6 := Aside0.mk (Kd.R_drewN HL5.out d6)
  have HM6 := Aside0.mk (And.intro HM5.out.2.1 (Kd.C_drewN HM5.out.2.2 d6))
  have HB6 := Aside0.mk (pw_below_drewN HB5.out d6)
  have HZ6 := Aside0.mk (show w1.heap.size ≤ (w5.drewN d6).heap.size from HZ5.out)
  clear HIN5 HP5 HR5 HX5 HY5 HL5 HM5
  generalize w5.drewN d6 = w6 at *
  have t1 : (e != e) = false := by simp
  have t2 : (n != n) = false := by simp
  have t3 : (g != g) = false := by simp
  go_wp2_with fail
  refine (encoreref00_EqBytes.calls (r.length + 1) A3 c3 r A5 c5 r true _ (Kd.R_reads' HR6.out).2.2 (Kd.R_reads' HR6.out).2.1 HY6.out HY3.out.2.1 (eq_same r (by have := HNL.out.2; omega) _ (by omega))).mono ?_
  rintro e' w7 ⟨rfl, ⟨d7, rfl⟩⟩
  have HIN7 := Aside0.mk (Kd.Q_drewN HIN6.out d7)
  have HP7 := Aside0.mk (Kd.R_drewN HP6.out d7)
  have HR7 := Aside0.mk (Kd.R_drewN HR6.out d7)
  have HL7 := Aside0.mk (Kd.R_drewN HL6.out d7)
  have HM7 := Aside0.mk (And.intro HM6.out.1 (Kd.C_drewN HM6.out.2 d7))
  have HB7 := Aside0.mk (pw_below_drewN HB6.out d7)
  have HZ7 := Aside0.mk (show w1.heap.size ≤ (w6.drewN d7).heap.size from HZ6.out)
  clear HIN6 HP6 HR6 HY6 HL6 HM6
  generalize w6.drewN d7 = w7 at *
  go_wp2_with fail
  refine (encoreref04_Same.calls (3001 + y.length + 1) A6 c6 y A7 c7 y true _ (Kd.R_reads' HL7.out).2.2 (Kd.R_reads' HL7.out).2.1 HM7.out.2 HM7.out.1 (same_same y (by have := HAL.out.1; omega) 3001 HAL.out.2 (by omega) _ (by omega))).mono ?_
  rintro e' w8 ⟨rfl, ⟨d8, rfl⟩⟩
  have HIN8 := Aside0.mk (Kd.Q_drewN HIN7.out d8)
  have HP8 := Aside0.mk (Kd.R_drewN HP7.out d8)
  have HR8 := Aside0.mk (Kd.R_drewN HR7.out d8)
  have HL8 := Aside0.mk (Kd.R_drewN HL7.out d8)
  have HB8 := Aside0.mk (pw_below_drewN HB7.out d8)
  have HZ8 := Aside0.mk (show w1.heap.size ≤ (w7.drewN d8).heap.size from HZ7.out)
  clear HIN7 HP7 HR7 HL7 HM7
  generalize w7.drewN d8 = w8 at *
  obtain ⟨L, hL⟩ : ∃ L, L = Value.slice A6 y.length c6 := ⟨_, rfl⟩
  have HLT := Aside0.mk (fun (k : Nat) (hk : some k ≠ L.ownBlock) => (And.intro trivial hk : True ∧ some k ≠ L.ownBlock))
  obtain ⟨W, hW⟩ : ∃ W : World, W = w8.alloc (.cells #[.slice A2 p.length c2, .slice A3 r.length c3] 22) := ⟨_, rfl⟩
  have HLW := Aside0.mk (show Kd.R (Kd.slice 5 (Kd.int .u8)) 22 W w1.heap.size (fun _ => True) L y by rw [hL, hW]; exact Kd.R_alloc HL8.out _)
  have HPW := Aside0.mk (show Kd.R (Kd.int .u8) 5 W w1.heap.size (fun k => some k ≠ L.ownBlock) (.slice A2 p.length c2) p by rw [hW, hL]; exact Kd.R_mono (Kd.R_apart' (Kd.R_alloc HP8.out _) (Kd.R_typed (Kd.R_alloc HL8.out _)) (by decide)) (fun _ hk => hk.2))
  have HRW := Aside0.mk (show Kd.R (Kd.int .u8) 5 W w1.heap.size (fun k => some k ≠ L.ownBlock) (.slice A3 r.length c3) r by rw [hW, hL]; exact Kd.R_mono (Kd.R_apart' (Kd.R_alloc HR8.out _) (Kd.R_typed (Kd.R_alloc HL8.out _)) (by decide)) (fun _ hk => hk.2))
  have hrowW : HoldsRow W w8.heap.size 22 #[.slice A2 p.length c2, .slice A3 r.length c3] := by rw [hW]; exact HoldsRow.new _ _ _
  have HRR := Aside0.mk (show ReadsRow (fun (x : List Int) cs => (x = p ∧ cs = [Value.slice A2 p.length c2]) ∨ (x = r ∧ cs = [Value.slice A3 r.length c3])) 1 W (some ⟨w8.heap.size, 0, none⟩) 2 [p, r] from ⟨rfl, by decide, fun _ => ⟨_, rfl, fun j q hj => by
    rcases j with _ | _ | j
    · obtain rfl := Option.some.inj hj
      exact ⟨_, rfl, .inl ⟨rfl, rfl⟩, fun i u hu => by
        rcases i with _ | i
        · obtain rfl := Option.some.inj hu
          exact hrowW.cell (j := 0) rfl
        · simp at hu⟩
    · obtain rfl := Option.some.inj hj
      exact ⟨_, rfl, .inr ⟨rfl, rfl⟩, fun i u hu => by
        rcases i with _ | i
        · obtain rfl := Option.some.inj hu
          exact hrowW.cell (j := 1) rfl
        · simp at hu⟩
    · simp at hj⟩⟩)
  have HKM := Aside0.mk (fun (x : List Int) (cs : List Value) (h : (x = p ∧ cs = [Value.slice A2 p.length c2]) ∨ (x = r ∧ cs = [Value.slice A3 r.length c3])) => (show (Kd.slice 5 (Kd.int .u8)).M W w1.heap.size (fun k => some k ≠ L.ownBlock) x cs from by
    rcases h with ⟨rfl, rfl⟩ | ⟨rfl, rfl⟩
    · exact Kd.M_row HPW.out
    · exact Kd.M_row HRW.out))
  have HBW := Aside0.mk (show Below w.heap.size w W by rw [hW]; exact below_alloc HB8.out _)
  have HBS := Aside0.mk (show Below w1.heap.size W W from Below.refl _ _)
  have HZW := Aside0.mk (show w1.heap.size ≤ W.heap.size by have := HZ8.out; rw [hW]; simp; omega)
  have HINW := Aside0.mk (show Kd.Q (Kd.int .u8) 5 W w.heap.size (fun k => w.heap.size ≤ k ∧ k < w1.heap.size) (.slice A1 b.length c1) b by rw [hW]; exact Kd.Q_below HIN8.out (below_alloc (Below.refl _ _) _))
  have HWW := Aside0.mk hW
  have HLL := Aside0.mk hL
  clear hW hL hrowW HLT HIN8 HP8 HR8 HL8 HB8 HZ8
  go_wp2_with (first | (at_builtin; refine Kd.R_append_rows (Kd.slice 5 (Kd.int .u8)) (w0 := W) w1.heap.size rfl (.tmp 80) (.tmp 83) 38 22 (.slice none 0 0) 24 rfl Try.underlying38 infoRow rfl (by decide) (by omega) (Value.slice A6 y.length c6) y [p, r] (some ⟨w8.heap.size, 0, none⟩) 2 2 (fun _ => True) (fun k => some k ≠ L.ownBlock) rfl rfl (by rw [← HWW.out, ← HLL.out]; exact HLW.out) (by rw [← HWW.out]; exact HRR.out) (by rw [← HWW.out]; exact HKM.out) (fun k hk => ⟨trivial, by rw [← HLL.out]; exact hk⟩) (fun _ _ => trivial) (by rw [← HWW.out]; exact HBS.out) (by rw [← HWW.out]; exact HZW.out) ?aL ?_; (case aL => have := HAL.out.1; omega); intro v9 w9 ho hb hg hat; rw [← HWW.out, ← HLL.out] at hg; have HO9 := Aside0.mk ho; have HG9 := Aside0.mk hg; clear ho hb hg hat))
  obtain ⟨gl, cap, rfl, hgl, hlt9, cells9, hcells9⟩ := Kd.R_form HO9.out (by simp)
  have hsoil := soil_of_R HO9.out
  have hlen : (y ++ [p, r]).length = y.length + 2 := by simp
  obtain ⟨N, hN⟩ : ∃ N, N = (y ++ [p, r]).length := ⟨_, rfl⟩
  rw [← hN] at hsoil ⊢
  have hNb : N ≤ 3002 := by have := HAL.out.1; omega
  have hLb : ∀ k, L.ownBlock = some k → w1.heap.size ≤ k := Kd.R_base HLW.out
  have HB9 := Aside0.mk (pw_below_grown HBW.out L.ownBlock HBW.out.size HG9.out (fun k hk => Nat.le_trans HS1.out (hLb k hk)))
  have HIN9 := Aside0.mk (Kd.Q_step HINW.out (fun k hk hlt => HG9.out.block k hlt (fun he => by have := hLb k he.symm; have := hk.2; omega)))
  have HSO := Aside0.mk hsoil
  have HZ9 := Aside0.mk (show w1.heap.size ≤ w9.heap.size from Nat.le_trans HZW.out HG9.out.size)
  clear hN hsoil hLb hlen hgl hlt9 hcells9 HO9 HG9 HINW HBW HBS HZW HLW HPW HRW HRR HKM HWW HLL
  go_loopw [16] (fun i wr => ∃ j : Nat, j ≤ N ∧ i = .int .i64 (j : Nat) ∧ Aside0 (Soil wr (fun k => w1.heap.size ≤ k ∧ k ≠ gl ∧ True) gl N) ∧ Aside0 (Below w.heap.size w wr) ∧ Aside0 (∀ k, k < w1.heap.size → wr.heap[k]? = w9.heap[k]?)) (fun i _ => N - (intOf i).toNat)
  case atStart => exact ⟨0, by omega, rfl, HSO, HB9, ⟨fun _ _ => rfl⟩⟩
  case round =>
    obtain ⟨i, hi, rfl, HSr, HBr, HKr⟩ := hrel
    clear HB9 HSO
    by_cases hlt2 : i < N
    · have hd : decide ((i : Int) < (N : Int)) = true := decide_eq_true (by omega)
      have hd2 : decide (i < N) = true := decide_eq_true hlt2
      obtain ⟨A, M, c, hM, hMc, hcell, hrow⟩ := HSr.out.2 i hlt2
      have HCELL := Aside0.mk hcell
      have HROW := Aside0.mk hrow
      clear hcell hrow
      obtain ⟨wo, rfl⟩ : ∃ wo : World, wo = wr := ⟨_, rfl⟩
      go_wp2_with fail
      go_loopw [17] (fun jv wr => ∃ q : Nat, q ≤ M ∧ jv = .int .i64 (q : Nat) ∧ Aside0 (Soil wr (fun k => w1.heap.size ≤ k ∧ k ≠ gl ∧ True) gl N) ∧ Aside0 (wr.cell? ⟨gl, i, none⟩ = some (.slice A M c)) ∧ Aside0 (Below w.heap.size w wr) ∧ Aside0 (∀ k, k < w1.heap.size → wr.heap[k]? = w9.heap[k]?)) (fun jv _ => M - (intOf jv).toNat)
      case atStart => exact ⟨0, by omega, rfl, HSr, HCELL, HBr, HKr⟩
      case round =>
        obtain ⟨q, hq, rfl, HSq, HCq, HBq, HKq⟩ := hrel
        have K0 := HCq.out
        by_cases hlt3 : q < M
        · have hd3 : decide ((q : Int) < (M : Int)) = true := decide_eq_true (by omega)
          have hd4 : decide (q < M) = true := decide_eq_true hlt3
          obtain ⟨A', M', c', hM', hMc', hcell', hrow'⟩ := HSq.out.2 i hlt2
          have he := Option.some.inj (hcell'.symm.trans K0)
          injection he with he1 he2 he3
          obtain rfl := he1.symm
          obtain rfl := he2.symm
          obtain rfl := he3.symm
          obtain ⟨g, o, rfl, hok, hj⟩ := hrow' (by omega)
          obtain ⟨⟨x, K1⟩, K2⟩ := hj q hlt3
          have HOK := Aside0.mk hok
          clear hrow' hj hok hcell' hM' hMc' HROW HCELL
          go_wp2_with fail
          refine start_ (n := 15) (S := fun w' => w'.cell? ⟨gl, i, none⟩ = some (.slice (some ⟨g, o, none⟩) M c) ∧ w'.cell? ⟨g, o + q, none⟩ = some (.int .u8 x) ∧ w'.frozen? ⟨g, o + q, none⟩ = false) (ds := [14]) #[false, false, false, false, false, false, false, false, false, false, false, false, false, false, false] (by kernel_rfl) rfl rfl ⟨K0, K1, K2⟩ (fun hHeld => ?_)
          refine pure_ (i := 0) (N := some 100) (v := ?_) (a' := ?_) #[true, false, false, false, false, false, false, false, false, false, false, false, false, false, false] rfl rfl (by kernel_rfl) (fun _ _ _ h => h) (Or.inl ⟨by rfl, ?_⟩) ?_ ?_
          rotate_left
          · intro w'
            go_simp
            with_reducible rfl
          rotate_left
          · simp only [Act.put, List.setIfInBounds_toArray, List.set_cons_zero, List.set_cons_succ, i64_w, i32_w]
            rfl
          refine pure_ (i := 1) (N := some 101) (v := ?_) (a' := ?_) #[true, true, false, false, false, false, false, false, false, false, false, false, false, false, false] rfl rfl (by kernel_rfl) (fun _ _ _ h => h) (Or.inl ⟨by rfl, ?_⟩) ?_ ?_
          rotate_left
          · intro w'
            go_simp
            with_reducible rfl
          rotate_left
          · simp only [Act.put, List.setIfInBounds_toArray, List.set_cons_zero, List.set_cons_succ, i64_w, i32_w]
            rfl
          refine pure_ (i := 2) (N := some 102) (v := ?_) (a' := ?_) #[true, true, true, false, false, false, false, false, false, false, false, false, false, false, false] rfl rfl (by kernel_rfl) (fun _ _ _ h => h) (Or.inl ⟨by rfl, ?_⟩) ?_ ?_
          rotate_left
          · intro w'
            go_simp
            with_reducible rfl
          rotate_left
          · simp only [Act.put, List.setIfInBounds_toArray, List.set_cons_zero, List.set_cons_succ, i64_w, i32_w]
            rfl
          refine pure_ (i := 4) (N := some 104) (v := ?_) (a' := ?_) #[true, true, true, false, true, false, false, false, false, false, false, false, false, false, false] rfl rfl (by kernel_rfl) (fun _ _ _ h => h) (Or.inl ⟨by rfl, ?_⟩) ?_ ?_
          rotate_left
          · intro w'
            go_simp
            with_reducible rfl
          rotate_left
          · simp only [Act.put, List.setIfInBounds_toArray, List.set_cons_zero, List.set_cons_succ, i64_w, i32_w]
            rfl
          refine pure_ (i := 5) (N := some 105) (v := ?_) (a' := ?_) #[true, true, true, false, true, true, false, false, false, false, false, false, false, false, false] rfl rfl (by kernel_rfl) (fun _ _ _ h => h) (Or.inl ⟨by rfl, ?_⟩) ?_ ?_
          rotate_left
          · intro w'
            go_simp
            with_reducible rfl
          rotate_left
          · simp only [Act.put, List.setIfInBounds_toArray, List.set_cons_zero, List.set_cons_succ, i64_w, i32_w]
            rfl
          refine pure_ (i := 6) (N := some 106) (v := ?_) (a' := ?_) #[true, true, true, false, true, true, true, false, false, false, false, false, false, false, false] rfl rfl (by kernel_rfl) (fun _ _ _ h => h) (Or.inl ⟨by rfl, ?_⟩) ?_ ?_
          rotate_left
          · intro w'
            go_simp
            with_reducible rfl
          rotate_left
          · simp only [Act.put, List.setIfInBounds_toArray, List.set_cons_zero, List.set_cons_succ, i64_w, i32_w]
            rfl
          refine pure_ (i := 7) (N := some 107) (v := ?_) (a' := ?_) #[true, true, true, false, true, true, true, true, false, false, false, false, false, false, false] rfl rfl (by kernel_rfl) (fun _ _ _ h => h) (Or.inl ⟨by rfl, ?_⟩) ?_ ?_
          rotate_left
          · intro w'
            go_simp
            with_reducible rfl
          rotate_left
          · simp only [Act.put, List.setIfInBounds_toArray, List.set_cons_zero, List.set_cons_succ, i64_w, i32_w]
            rfl
          refine pure_ (i := 9) (N := some 109) (v := ?_) (a' := ?_) #[true, true, true, false, true, true, true, true, false, true, false, false, false, false, false] rfl rfl (by kernel_rfl) (fun _ _ _ h => h) (Or.inl ⟨by rfl, ?_⟩) ?_ ?_
          rotate_left
          · intro w'
            go_simp
            with_reducible rfl
          rotate_left
          · simp only [Act.put, List.setIfInBounds_toArray, List.set_cons_zero, List.set_cons_succ, i64_w, i32_w]
            rfl
          refine take_ (i := 3) (N := some 103) (v := ?_) (a' := ?_) #[true, true, true, true, true, true, true, true, false, true, false, false, false, false, false] rfl rfl (by kernel_rfl) (fun _ _ _ h => h) (Or.inl ⟨by rfl, ?_⟩) hHeld ?_ ?_
          rotate_left
          · rintro w' ⟨s0, s1, s2⟩
            go_simp
            with_reducible rfl
          rotate_left
          · simp only [Act.put, List.setIfInBounds_toArray, List.set_cons_zero, List.set_cons_succ, i64_w, i32_w]
            rfl
          refine take_ (i := 8) (N := some 108) (v := ?_) (a' := ?_) #[true, true, true, true, true, true, true, true, true, true, false, false, false, false, false] rfl rfl (by kernel_rfl) (fun _ _ _ h => h) (Or.inl ⟨by rfl, ?_⟩) hHeld ?_ ?_
          rotate_left
          · rintro w' ⟨s0, s1, s2⟩
            go_simp
            with_reducible rfl
          rotate_left
          · simp only [Act.put, List.setIfInBounds_toArray, List.set_cons_zero, List.set_cons_succ, i64_w, i32_w]
            rfl
          refine pure_ (i := 10) (N := some 110) (v := ?_) (a' := ?_) #[true, true, true, true, true, true, true, true, true, true, true, false, false, false, false] rfl rfl (by kernel_rfl) (fun _ _ _ h => h) (Or.inl ⟨by rfl, ?_⟩) ?_ ?_
          rotate_left
          · intro w'
            go_simp
            with_reducible rfl
          rotate_left
          · simp only [Act.put, List.setIfInBounds_toArray, List.set_cons_zero, List.set_cons_succ, i64_w, i32_w]
            rfl
          refine take_ (i := 11) (N := some 111) (v := ?_) (a' := ?_) #[true, true, true, true, true, true, true, true, true, true, true, true, false, false, false] rfl rfl (by kernel_rfl) (fun _ _ _ h => h) (Or.inl ⟨by rfl, ?_⟩) hHeld ?_ ?_
          rotate_left
          · rintro w' ⟨s0, s1, s2⟩
            go_simp
            with_reducible rfl
          rotate_left
          · simp only [Act.put, List.setIfInBounds_toArray, List.set_cons_zero, List.set_cons_succ, i64_w, i32_w]
            rfl
          refine pure_ (i := 12) (N := some 112) (v := ?_) (a' := ?_) #[true, true, true, true, true, true, true, true, true, true, true, true, true, false, false] rfl rfl (by kernel_rfl) (fun _ _ _ h => h) (Or.inl ⟨by rfl, ?_⟩) ?_ ?_
          rotate_left
          · intro w'
            go_simp
            with_reducible rfl
          rotate_left
          · simp only [Act.put, List.setIfInBounds_toArray, List.set_cons_zero, List.set_cons_succ, i64_w, i32_w]
            rfl
          refine pure_ (i := 13) (N := some 113) (v := ?_) (a' := ?_) #[true, true, true, true, true, true, true, true, true, true, true, true, true, true, false] rfl rfl (by kernel_rfl) (fun _ _ _ h => h) (Or.inl ⟨by rfl, ?_⟩) ?_ ?_
          rotate_left
          · intro w'
            go_simp
            with_reducible rfl
          rotate_left
          · simp only [Act.put, List.setIfInBounds_toArray, List.set_cons_zero, List.set_cons_succ, i64_w, i32_w]
            rfl
          refine last_ (i := 14) (N := none) #[true, true, true, true, true, true, true, true, true, true, true, true, true, true, true] rfl rfl (by kernel_rfl) (by decide) (fun K hK => ?_)
          refine skip_ (w1 := ?_) (by rfl) rfl ?_ ?_
          rotate_left
          · go_simp
            rfl
          refine hK.out _ _ ?_
          clear hK K
          refine done_ (by kernel_rfl) ?_
          go_wp2_with fail
          have HOKX := HOK.out
          exact ⟨⟨q + 1, by omega, by rw [show ((q + 1 : Nat) : Int) = (q : Int) + 1 by omega], ⟨HSq.out.set (g := g) HOKX⟩, ⟨(World.cell?_setCell_other _ _ _ _ (fun e => HOKX.2.1 (congrArg Addr.block e))).trans K0⟩, ⟨(below_drew HBq.out).setCell (show w.heap.size ≤ g by have := HOKX.1; have := HS1.out; omega) _⟩, ⟨fun k hk => (Below.heap_setCell _ ⟨g, o + q, none⟩ _ k (by rintro rfl; have := HOKX.1; omega)).trans (HKq.out k hk)⟩⟩, by simp [intOf]; omega⟩
        · obtain rfl : q = M := by omega
          have hd3 : decide ((q : Int) < (q : Int)) = false := by simp
          have hd4 : decide (q < q) = false := by simp
          go_wp2_with fail
          exact ⟨⟨i + 1, by omega, by rw [show ((i + 1 : Nat) : Int) = (i : Int) + 1 by omega], HSq, HBq, HKq⟩, by simp [intOf]; omega⟩
    · obtain rfl : i = N := by omega
      have hd : decide ((i : Int) < (i : Int)) = false := by simp
      have hd2 : decide (i < i) = false := by simp
      have HIN10 := Aside0.mk (Kd.Q_step HIN9.out (fun k hk _ => HKr.out k hk.2))
      have HR10 := Aside0.mk (Kd.C_below HR.out HBr.out)
      go_wp2_with fail
      refine (encoreref00_EqBytes.calls (b.length + 1) A1 c1 b A0 c0 b true _ (Kd.Q_reads' HIN10.out).2.2 HCC.out HR10.out HC0.out (eq_same b (by have := HM.out; omega) _ (by omega))).mono ?_
      rintro e' w11 ⟨rfl, ⟨d11, rfl⟩⟩
      have HB11 := Aside0.mk (pw_below_drewN HBr.out d11)
      go_wp2_with fail
      refine (encorelaw04_works.calls true _ rfl).mono ?_
      rintro e' w12 ⟨rfl, hb12⟩
      have HB12 := Aside0.mk (below_then HB11.out HB11.out.size hb12)
      clear hb12
      go_wp2_with fail
      go_ret
      exact ⟨rfl, HB12.out⟩
theorem encorelaw04_FrameTakes.calls (A0 : Option Addr) (c0 : Nat) (l0 : List Int) (r : Bool) (w : World) (hr0 : Kd.C (Kd.int .u8) w A0 l0.length l0) (hc0 : l0.length ≤ c0) (h : encorelaw04_FrameTakes.f l0 = some r) :
    Calls Try.prog 7 #[.slice A0 l0.length c0] w fun e w' => e = .returned (.bool r) ∧ Below w.heap.size w w' := by
  unfold encorelaw04_FrameTakes.f at h
  split at h
  case isTrue hc =>
    obtain rfl := Option.some.inj h
    exact takes_calls A0 c0 l0 w hr0 hc0 hc
  case isFalse => cases h
end Go.Proofs.Ytgfjijfjlbjajaa.Ext
