/- FrameTurned answers true, walked with the plain law at hand: for every row of bytes and bit. Condition: bytes. -/
import Derived.Test.YtgfjijfjlbjajaaFramePacksW
import Derived.Test.YtgfjijfjlbjajaaFrameFlip
import Derived.Test.YtgfjijfjlbjajaaCrcLink
namespace Go.Proofs.Ytgfjijfjlbjajaa.Ext
open Go.RowKit Go.Proofs.YtgfjijfjlbjajaaW.PrintWords Go.Proofs.YtgfjijfjlbjajaaW.PrintLast Go.Proofs.YtgfjijfjlbjajaaW.PrintMore Go.Proofs.Ytgfjijfjlbjajaa.Base Go.Proofs.Ytgfjijfjlbjajaa.Arr Go.Proofs.Ytgfjijfjlbjajaa.Mid Go.Proofs.Ytgfjijfjlbjajaa.BinMath Go.Proofs.Ytgfjijfjlbjajaa.BinLink Go.Proofs.Ytgfjijfjlbjajaa.FrameLink
set_option linter.unusedVariables false
set_option linter.unusedSimpArgs false
attribute [local go_sem] max2_int min2_int max_two min_two max_three min_three max_four min_four

def encorelaw04_FrameTurned.f (l0 : List Int) (a1 : Int) : Option Bool := if ∀ x ∈ l0, 0 ≤ x ∧ x < 256 then some true else none
theorem xor_flip (y s : Nat) (hy : y < 256) (hs : s < 8) : Go.bits .xor .u8 (y : Int) (IntKind.u8.wrap (2 ^ s)) = ((y ^^^ 2 ^ s : Nat) : Int) := by
  have : ∀ y : Fin 256, ∀ s : Fin 8, Go.bits .xor .u8 (y.val : Int) (IntKind.u8.wrap (2 ^ s.val)) = ((y.val ^^^ 2 ^ s.val : Nat) : Int) := by decide +kernel
  exact this ⟨y, hy⟩ ⟨s, hs⟩
theorem bring_nat (a : Int) (n : Nat) (hn : 0 < n) (hb : n ≤ 281474976710656) : ∃ m : Nat, m < n ∧ encoreref00_Bring.f a (n : Int) = some (m : Int) := by
  unfold encoreref00_Bring.f
  rw [if_neg (by omega), if_neg (by omega)]
  have h1 := Int.tmod_lt_of_pos a (show (0 : Int) < (n : Int) by omega)
  have h2 := Int.lt_tmod_of_pos a (show (0 : Int) < (n : Int) by omega)
  generalize Int.tmod a (n : Int) = q at *
  by_cases h : q < 0
  · rw [if_pos h]
    refine ⟨(q + n).toNat, by omega, ?_⟩
    congr 1
    unfold wrap64
    omega
  · rw [if_neg h]
    exact ⟨q.toNat, by omega, by congr 1; omega⟩
theorem turn_arith (b p hd nn n1 n8 h8 K P q s : Nat) (hb : b ≤ 500) (hh : hd ≤ 9) (hpl : p = hd + b + 4) (hnn : nn = b + 4) (hn1 : n1 = nn + 1) (hn8 : n8 = 8 * nn) (hh8 : h8 = 8 * hd) (hK : K < n8) (hP : P = h8 + K) (hq : q = P / 8) (hs : s = P % 8) :
    wrap64 ((b : Int) + 4) = (nn : Int) ∧ wrap64 ((nn : Int) + 1) = (n1 : Int) ∧ wrap64 ((p : Int) - (nn : Int)) = (hd : Int) ∧ wrap64 (8 * (hd : Int)) = (h8 : Int) ∧ wrap64 (8 * (nn : Int)) = (n8 : Int) ∧ wrap64 ((h8 : Int) + (K : Int)) = (P : Int) ∧ Int.tdiv (P : Int) 8 = (q : Int) ∧ Int.tmod (P : Int) 8 = (s : Int) ∧ wrap64 (q : Int) = (q : Int) := by
  have hP2 : P ≤ 5000 := by omega
  refine ⟨by unfold wrap64; omega, by unfold wrap64; omega, by unfold wrap64; omega, by unfold wrap64; omega, by unfold wrap64; omega, by unfold wrap64; omega, ?_, ?_, ?_⟩
  · rw [hq]; exact (Int.tdiv_eq_ediv_of_nonneg (by omega)).trans (by omega)
  · rw [hs]; exact (Int.tmod_eq_emod_of_nonneg (by omega)).trans (by omega)
  · have : q ≤ 5000 := by omega
    clear hq hs hP hK hh8 hn8 hn1 hnn hpl
    unfold wrap64
    omega
theorem turn_arith2 (b p hd nn n1 n8 h8 K P q s : Nat) (hh : 1 ≤ hd) (hpl : p = hd + b + 4) (hnn : nn = b + 4) (hn1 : n1 = nn + 1) (hn8 : n8 = 8 * nn) (hh8 : h8 = 8 * hd) (hK : K < n8) (hP : P = h8 + K) (hq : q = P / 8) (hs : s = P % 8) :
    decide ((p : Int) < (n1 : Int)) = false ∧ decide (p < n1) = false ∧ q < p ∧ hd ≤ q ∧ s < 8 :=
  ⟨decide_eq_false (by omega), decide_eq_false (by omega), by omega, by omega, by omega⟩
set_option maxHeartbeats 8000000 in
set_option maxRecDepth 100000 in
theorem turned_calls (A0 : Option Addr) (c0 : Nat) (l0 : List Int) (a1 : Int) (w : World) (hr0 : Kd.C (Kd.int .u8) w A0 l0.length l0) (hc0 : l0.length ≤ c0) (hb : Bytes l0) :
    Calls Try.prog 5 #[.slice A0 l0.length c0, .int .i64 a1] w fun e w' => e = .returned (.bool true) ∧ Below w.heap.size w w' := by
  obtain ⟨m, hm1, hm2, hm3, hm4⟩ := min_facts l0.length 500
  rw [show ((500 : Nat) : Int) = 500 from rfl] at hm1
  have hlt : (l0.take m).length = m := by rw [List.length_take]; omega
  have hbt := hb.take m
  obtain ⟨i0, hi0, _, hsz0, _⟩ := info_parts infoU8
  have hcut := cut_to (P := Try.prog) 22 5 .i64 Try.underlying22 hi0 A0 l0.length c0 (m : Int) (by omega) (by omega) hc0
  rw [Int.toNat_natCast] at hcut
  have HR := Aside0.mk (C_take_any hr0 m hm3)
  have HP1 := Aside0.mk (pack_eq hbt (by omega))
  have HC0 := Aside0.mk (show m ≤ c0 by omega)
  clear hr0 hb hc0 hm3
  generalize l0.take m = b at *
  subst hlt
  have hpl := pk_len b
  have hwl : (W b.length).length = fol b.length + 1 := W_len _
  have hfl := fol_le b.length
  obtain ⟨p, hp⟩ : ∃ p, p = pk b := ⟨_, rfl⟩
  obtain ⟨hd, hhd⟩ : ∃ h, h = (W b.length).length := ⟨_, rfl⟩
  obtain ⟨nn, hnn⟩ : ∃ n : Nat, n = b.length + 4 := ⟨_, rfl⟩
  obtain ⟨n1, hn1⟩ : ∃ n : Nat, n = nn + 1 := ⟨_, rfl⟩
  obtain ⟨n8, hn8⟩ : ∃ n : Nat, n = 8 * nn := ⟨_, rfl⟩
  obtain ⟨h8, hh8⟩ : ∃ n : Nat, n = 8 * hd := ⟨_, rfl⟩
  obtain ⟨K, hK, hbr⟩ := bring_nat a1 n8 (by omega) (by omega)
  obtain ⟨P, hP⟩ : ∃ n : Nat, n = h8 + K := ⟨_, rfl⟩
  obtain ⟨q, hq⟩ : ∃ n : Nat, n = P / 8 := ⟨_, rfl⟩
  obtain ⟨s, hs⟩ : ∃ n : Nat, n = P % 8 := ⟨_, rfl⟩
  rw [← hp, ← hhd] at hpl
  rw [← hhd] at hwl
  rw [← hp] at HP1
  obtain ⟨e1, e2, e3, e4, e5, e6, e7, e8, e9⟩ := turn_arith b.length p.length hd nn n1 n8 h8 K P q s (by omega) (by omega) hpl hnn hn1 hn8 hh8 hK hP hq hs
  obtain ⟨d1, d2, hqp, hqh, hs8⟩ := turn_arith2 b.length p.length hd nn n1 n8 h8 K P q s (by omega) hpl hnn hn1 hn8 hh8 hK hP hq hs
  have f1 : decide ((p.length : Int) < (b.length : Int) + 4 + 1) = false := decide_eq_false (by omega)
  have f3 : wrap64 ((p.length : Int) - ((b.length : Int) + 4)) = (hd : Int) := by rw [show (b.length : Int) + 4 = (nn : Int) by omega]; exact e3
  have f5 : wrap64 (8 * ((b.length : Int) + 4)) = (n8 : Int) := by rw [show (b.length : Int) + 4 = (nn : Int) by omega]; exact e5
  clear f1 f3 f5
  have HE := Aside0.mk (And.intro e6 (And.intro e7 (And.intro e8 (And.intro e9 (And.intro hqp hs8)))))
  have HBR := Aside0.mk hbr
  have HQH := Aside0.mk hqh
  have HHD := Aside0.mk hhd
  have HPP := Aside0.mk hp
  have HBB := Aside0.mk hbt
  have HM := Aside0.mk hm4
  clear e6 e7 e8 e9 hqp hs8
  clear hpl hwl hfl hp hhd hnn hn1 hn8 hh8 hK hbr hP hq hs hqh hbt hm4
  go_enter Try.func5, Try.ntmps5
  go_wp2_with fail
  refine (frame_Pack.calls A0 c0 b p 0 w HR.out HC0.out HP1.out).mono ?_
  rintro e w1 ⟨v1, rfl, h1, b1⟩
  obtain ⟨A1, c1, rfl, hc1, -⟩ := Kd.Q_reads (Kd.Q_of_R h1)
  have HQ1 := Aside0.mk (Kd.Q_of_R h1)
  have HB1 := Aside0.mk b1
  have HC1 := Aside0.mk hc1
  clear h1 b1 hc1 hm1 hm2 hcut
  go_wp2_with fail
  refine (encoreref00_Bring.calls a1 n8 K w1 HBR.out).mono ?_
  rintro e w2 ⟨rfl, ⟨d2_, rfl⟩⟩
  have HQ2 := Aside0.mk (Kd.Q_drewN HQ1.out d2_)
  have HB2 := Aside0.mk (pw_below_drewN HB1.out d2_)
  clear HQ1 HB1
  generalize w1.drewN d2_ = w2 at *
  obtain ⟨e6, e7, e8, e9, hqp, hs8⟩ := HE.out
  rw [e4]
  clear e1 e2 e3 e4 e5 d1 d2
  obtain ⟨g, o, cap, e, hg, hglt, -⟩ := Kd.Q_form HQ2.out (by omega)
  injection e with e1_ e2_ e3_
  subst e1_; subst e3_
  have HG := Aside0.mk hg
  obtain ⟨hcell1, hcell2⟩ := Kd.Q_cell (0 : Int) HQ2.out (q : Int) (by omega) (by omega)
  rw [Int.toNat_natCast] at hcell1 hcell2
  clear hg hglt
  have hbp := (pk_bytes HBB.out (by have := HM.out; omega)).at_ (q : Int)
  rw [← HPP.out] at hbp
  obtain ⟨y, hy⟩ : ∃ y : Nat, rd p (q : Int) = (y : Int) := ⟨(rd p (q : Int)).toNat, by omega⟩
  have hy2 : rdOf 0 p (q : Int) = (y : Int) := hy
  rw [hy2] at hcell1
  have HY := Aside0.mk hy
  have HY8 := Aside0.mk hbp
  have HQP := Aside0.mk hqp
  have HS8 := Aside0.mk hs8
  clear hy hy2 hbp
  go_wp2_with fail
  have K0 := And.intro hcell1 hcell2
  refine start_ (n := 14) (S := fun w' => w'.cell? ⟨g, o + q, none⟩ = some (.int .u8 (y : Nat)) ∧ w'.frozen? ⟨g, o + q, none⟩ = false) (ds := [13]) #[false, false, false, false, false, false, false, false, false, false, false, false, false, false] (by kernel_rfl) rfl rfl (K0) (fun hHeld => ?_)
  refine pure_ (i := 0) (N := some 44) (v := ?_) (a' := ?_) #[true, false, false, false, false, false, false, false, false, false, false, false, false, false] rfl rfl (by kernel_rfl) (fun _ _ _ h => h) (Or.inl ⟨by rfl, ?_⟩) ?_ ?_
  rotate_left
  · intro w'
    go_simp
    with_reducible rfl
  rotate_left
  · simp only [Act.put, List.setIfInBounds_toArray, List.set_cons_zero, List.set_cons_succ, i64_w, i32_w]
    rfl
  refine pure_ (i := 1) (N := some 45) (v := ?_) (a' := ?_) #[true, true, false, false, false, false, false, false, false, false, false, false, false, false] rfl rfl (by kernel_rfl) (fun _ _ _ h => h) (Or.inl ⟨by rfl, ?_⟩) ?_ ?_
  rotate_left
  · intro w'
    go_simp
    with_reducible rfl
  rotate_left
  · simp only [Act.put, List.setIfInBounds_toArray, List.set_cons_zero, List.set_cons_succ, i64_w, i32_w]
    rfl
  refine pure_ (i := 2) (N := some 46) (v := ?_) (a' := ?_) #[true, true, true, false, false, false, false, false, false, false, false, false, false, false] rfl rfl (by kernel_rfl) (fun _ _ _ h => h) (Or.inl ⟨by rfl, ?_⟩) ?_ ?_
  rotate_left
  · intro w'
    go_simp
    with_reducible rfl
  rotate_left
  · simp only [Act.put, List.setIfInBounds_toArray, List.set_cons_zero, List.set_cons_succ, i64_w, i32_w]
    rfl
  refine pure_ (i := 3) (N := some 47) (v := ?_) (a' := ?_) #[true, true, true, true, false, false, false, false, false, false, false, false, false, false] rfl rfl (by kernel_rfl) (fun _ _ _ h => h) (Or.inl ⟨by rfl, ?_⟩) ?_ ?_
  rotate_left
  · intro w'
    go_simp
    with_reducible rfl
  rotate_left
  · simp only [Act.put, List.setIfInBounds_toArray, List.set_cons_zero, List.set_cons_succ, i64_w, i32_w]
    rfl
  refine pure_ (i := 4) (N := some 48) (v := ?_) (a' := ?_) #[true, true, true, true, true, false, false, false, false, false, false, false, false, false] rfl rfl (by kernel_rfl) (fun _ _ _ h => h) (Or.inl ⟨by rfl, ?_⟩) ?_ ?_
  rotate_left
  · intro w'
    go_simp
    with_reducible rfl
  rotate_left
  · simp only [Act.put, List.setIfInBounds_toArray, List.set_cons_zero, List.set_cons_succ, i64_w, i32_w]
    rfl
  refine pure_ (i := 5) (N := some 49) (v := ?_) (a' := ?_) #[true, true, true, true, true, true, false, false, false, false, false, false, false, false] rfl rfl (by kernel_rfl) (fun _ _ _ h => h) (Or.inl ⟨by rfl, ?_⟩) ?_ ?_
  rotate_left
  · intro w'
    go_simp
    with_reducible rfl
  rotate_left
  · simp only [Act.put, List.setIfInBounds_toArray, List.set_cons_zero, List.set_cons_succ, i64_w, i32_w]
    rfl
  refine pure_ (i := 6) (N := some 50) (v := ?_) (a' := ?_) #[true, true, true, true, true, true, true, false, false, false, false, false, false, false] rfl rfl (by kernel_rfl) (fun _ _ _ h => h) (Or.inl ⟨by rfl, ?_⟩) ?_ ?_
  rotate_left
  · intro w'
    go_simp
    with_reducible rfl
  rotate_left
  · simp only [Act.put, List.setIfInBounds_toArray, List.set_cons_zero, List.set_cons_succ, i64_w, i32_w]
    rfl
  refine pure_ (i := 8) (N := some 52) (v := ?_) (a' := ?_) #[true, true, true, true, true, true, true, false, true, false, false, false, false, false] rfl rfl (by kernel_rfl) (fun _ _ _ h => h) (Or.inl ⟨by rfl, ?_⟩) ?_ ?_
  rotate_left
  · intro w'
    go_simp
    with_reducible rfl
  rotate_left
  · simp only [Act.put, List.setIfInBounds_toArray, List.set_cons_zero, List.set_cons_succ, i64_w, i32_w]
    rfl
  refine pure_ (i := 9) (N := some 53) (v := ?_) (a' := ?_) #[true, true, true, true, true, true, true, false, true, true, false, false, false, false] rfl rfl (by kernel_rfl) (fun _ _ _ h => h) (Or.inl ⟨by rfl, ?_⟩) ?_ ?_
  rotate_left
  · intro w'
    go_simp
    with_reducible rfl
  rotate_left
  · simp only [Act.put, List.setIfInBounds_toArray, List.set_cons_zero, List.set_cons_succ, i64_w, i32_w]
    rfl
  refine pure_ (i := 10) (N := some 54) (v := ?_) (a' := ?_) #[true, true, true, true, true, true, true, false, true, true, true, false, false, false] rfl rfl (by kernel_rfl) (fun _ _ _ h => h) (Or.inl ⟨by rfl, ?_⟩) ?_ ?_
  rotate_left
  · intro w'
    go_simp
    with_reducible rfl
  rotate_left
  · simp only [Act.put, List.setIfInBounds_toArray, List.set_cons_zero, List.set_cons_succ, i64_w, i32_w]
    rfl
  refine take_ (i := 7) (N := some 51) (v := ?_) (a' := ?_) #[true, true, true, true, true, true, true, true, true, true, true, false, false, false] rfl rfl (by kernel_rfl) (fun _ _ _ h => h) (Or.inl ⟨by rfl, ?_⟩) hHeld ?_ ?_
  rotate_left
  · intro w' s0
    go_simp
    with_reducible rfl
  rotate_left
  · simp only [Act.put, List.setIfInBounds_toArray, List.set_cons_zero, List.set_cons_succ, i64_w, i32_w]
    rfl
  refine pure_ (i := 11) (N := some 55) (v := ?_) (a' := ?_) #[true, true, true, true, true, true, true, true, true, true, true, true, false, false] rfl rfl (by kernel_rfl) (fun _ _ _ h => h) (Or.inl ⟨by rfl, ?_⟩) ?_ ?_
  rotate_left
  · intro w'
    go_simp
    with_reducible rfl
  rotate_left
  · simp only [Act.put, List.setIfInBounds_toArray, List.set_cons_zero, List.set_cons_succ, i64_w, i32_w]
    rfl
  refine pure_ (i := 12) (N := some 56) (v := ?_) (a' := ?_) #[true, true, true, true, true, true, true, true, true, true, true, true, true, false] rfl rfl (by kernel_rfl) (fun _ _ _ h => h) (Or.inl ⟨by rfl, ?_⟩) ?_ ?_
  rotate_left
  · intro w'
    go_simp
    with_reducible rfl
  rotate_left
  · simp only [Act.put, List.setIfInBounds_toArray, List.set_cons_zero, List.set_cons_succ, i64_w, i32_w]
    rfl
  refine last_ (i := 13) (N := none) #[true, true, true, true, true, true, true, true, true, true, true, true, true, true] rfl rfl (by kernel_rfl) (by decide) (fun K hK => ?_)
  refine skip_ (w1 := ?_) (by rfl) rfl ?_ ?_
  rotate_left
  · go_simp
    rfl
  refine hK.out _ _ ?_
  clear hK K
  refine done_ (by kernel_rfl) ?_
  
  have hxor : Go.bits .xor .u8 (y : Int) (IntKind.u8.wrap (2 ^ s)) = ((y ^^^ 2 ^ s : Nat) : Int) := xor_flip y s (by have := HY8.out; rw [HY.out] at this; omega) HS8.out
  have HP := Kd.Q_putg HQ2.out (q : Int) (by omega) (by have := HQP.out; omega) ((y ^^^ 2 ^ s : Nat) : Int)
  rw [Int.toNat_natCast] at HP
  rw [hxor]
  have HQ3 := Aside0.mk (Kd.Q_drew HP.1)
  have HB3 := Aside0.mk (below_drew (HB2.out.setCell (show w.heap.size ≤ (⟨g, o + q, none⟩ : Addr).block from HG.out) (.int .u8 ((y ^^^ 2 ^ s : Nat) : Int))))
  have hnext : frame_Next.f (p.set q ((y ^^^ 2 ^ s : Nat) : Int)) = some ([], [], 40) := by
    have hpb : Bytes p := by rw [HPP.out]; exact pk_bytes HBB.out (by have := HM.out; omega)
    have hz : y ^^^ 2 ^ s < 256 := Nat.xor_lt_two_pow (n := 8) (by have := HY8.out; rw [HY.out] at this; omega) (by have := HS8.out; have : 2 ^ s ≤ 2 ^ 7 := Nat.pow_le_pow_right (by decide) (by omega); omega)
    have hpl : p.length ≤ 600 := by rw [HPP.out, pk_len]; have := W_le b.length; have := HM.out; omega
    rw [next_eq (set_bytes hpb q _ (by omega)) (by rw [List.length_set]; omega)]
    have hf := flip_next HBB.out (by have := HM.out; omega) q s y (by have := HQH.out; rw [HHD.out] at this; exact this) (by rw [← HPP.out]; exact HQP.out) HS8.out (by rw [← HPP.out]; exact HY.out)
    rw [← HPP.out] at hf
    rw [hf]
  have HNX := Aside0.mk hnext
  have hplen : (p.set q ((y ^^^ 2 ^ s : Nat) : Int)).length = p.length := List.length_set
  generalize p.set q ((y ^^^ 2 ^ s : Nat) : Int) = p2 at *
  generalize (w2.setCell ⟨g, o + q, none⟩ (.int .u8 ((y ^^^ 2 ^ s : Nat) : Int))).drew = w3 at *
  rw [← hplen]
  clear hnext hxor HP e6 e7 e8 e9 K0 hHeld hcell1 hcell2
  have HQ4 := Aside0.mk (show Kd.Q (Kd.int .u8) 5 w3 w.heap.size (fun _ => True) (.slice (some ⟨g, o, none⟩) p2.length c1) p2 by rw [hplen]; exact HQ3.out)
  clear hplen HQ3 hqp
  go_wp2_with fail
  refine (frame_Next.calls (some ⟨g, o, none⟩) c1 p2 [] [] 40 w3 (Kd.Q_reads' HQ4.out).2.2 (Kd.Q_reads' HQ4.out).2.1 HNX.out).mono ?_
  rintro e w4 ⟨v4, v5, rfl, h4, h5, b4⟩
  obtain ⟨A4, c4, rfl, -, -⟩ := Kd.Q_reads (Kd.Q_of_R h4)
  have HB4 := Aside0.mk (below_then HB3.out HB3.out.size b4)
  clear h4 h5 b4
  go_wp2_with fail
  refine (encorelaw04_works.calls true _ rfl).mono ?_
  rintro e w5 ⟨rfl, hb5⟩
  have HB5 := Aside0.mk (below_then HB4.out HB4.out.size hb5)
  clear hb5
  go_wp2_with fail
  go_ret
  exact ⟨rfl, HB5.out⟩
theorem encorelaw04_FrameTurned.calls (A0 : Option Addr) (c0 : Nat) (l0 : List Int) (a1 : Int) (r : Bool) (w : World) (hr0 : Kd.C (Kd.int .u8) w A0 l0.length l0) (hc0 : l0.length ≤ c0) (h : encorelaw04_FrameTurned.f l0 a1 = some r) :
    Calls Try.prog 5 #[.slice A0 l0.length c0, .int .i64 a1] w fun e w' => e = .returned (.bool r) ∧ Below w.heap.size w w' := by
  unfold encorelaw04_FrameTurned.f at h
  split at h
  case isTrue hc =>
    obtain rfl := Option.some.inj h
    exact turned_calls A0 c0 l0 a1 w hr0 hc0 hc
  case isFalse => cases h
end Go.Proofs.Ytgfjijfjlbjajaa.Ext
