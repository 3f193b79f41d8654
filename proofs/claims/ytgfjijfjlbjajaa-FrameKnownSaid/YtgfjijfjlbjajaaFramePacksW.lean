/- FramePacks answers true, walked with the plain law at hand: for every row of bytes and number. Condition: bytes. -/
import Derived.Test.YtgfjijfjlbjajaaFrameLink
namespace Go.Proofs.Ytgfjijfjlbjajaa.Ext
open Go.RowKit Go.Proofs.YtgfjijfjlbjajaaW.PrintWords Go.Proofs.YtgfjijfjlbjajaaW.PrintLast Go.Proofs.YtgfjijfjlbjajaaW.PrintMore Go.Proofs.Ytgfjijfjlbjajaa.Base Go.Proofs.Ytgfjijfjlbjajaa.Arr Go.Proofs.Ytgfjijfjlbjajaa.Mid Go.Proofs.Ytgfjijfjlbjajaa.BinMath Go.Proofs.Ytgfjijfjlbjajaa.BinLink Go.Proofs.Ytgfjijfjlbjajaa.FrameLink
set_option linter.unusedVariables false
set_option linter.unusedSimpArgs false
attribute [local go_sem] max2_int min2_int max_two min_two max_three min_three max_four min_four

theorem C_take_any {w : World} {A : Option Addr} {l : List Int} (h : Kd.C (Kd.int .u8) w A l.length l) (m : Nat) (hm : m ≤ l.length) : Kd.C (Kd.int .u8) w A m (l.take m) := by
  have hl : (l.take m).length = m := by rw [List.length_take]; omega
  cases A with
  | some ad => have := C_take h m; rw [hl] at this; exact this
  | none =>
    cases l with
    | nil => obtain rfl : m = 0 := by simpa using hm
             exact C_empty none
    | cons x l => obtain ⟨ad, e, _⟩ := h.2.2 (by simp); cases e
theorem min_facts (n q : Nat) : ∃ m : Nat, (if (q : Int) < (n : Int) then (q : Int) else (n : Int)) = (m : Int) ∧ (if q < n then q else n) = m ∧ m ≤ n ∧ m ≤ q := by
  by_cases h : q < n
  · exact ⟨q, by rw [if_pos (by omega)], by rw [if_pos h], by omega, Nat.le_refl _⟩
  · exact ⟨n, by rw [if_neg (by omega)], by rw [if_neg h], Nat.le_refl _, by omega⟩
def encorelaw04_FramePacks.f (l0 : List Int) (a1 : Int) : Option Bool := if ∀ x ∈ l0, 0 ≤ x ∧ x < 256 then some true else none
theorem Q_hold {e : Nat} {w : World} {base : Nat} {ok : Nat → Prop} {v : Value} {xs : List Int} (h : Kd.Q (Kd.int .u8) e w base ok v xs) : Kd.Q (Kd.int .u8) e w base (fun k => base ≤ k ∧ k < w.heap.size) v xs :=
  Kd.Q_mono (Kd.Q_bound h) (fun k hk => ⟨hk.2.1, hk.2.2.1⟩)

set_option maxHeartbeats 8000000 in
set_option maxRecDepth 100000 in
theorem packs_calls (A0 : Option Addr) (c0 : Nat) (l0 : List Int) (a1 : Int) (w : World) (hr0 : Kd.C (Kd.int .u8) w A0 l0.length l0) (hc0 : l0.length ≤ c0) (hb : Bytes l0) :
    Calls Try.prog 3 #[.slice A0 l0.length c0, .int .i64 a1] w fun e w' => e = .returned (.bool true) ∧ Below w.heap.size w w' := by
  obtain ⟨m, hm1, hm2, hm3, hm4⟩ := min_facts l0.length 3000
  rw [show ((3000 : Nat) : Int) = 3000 from rfl] at hm1
  have hlt : (l0.take m).length = m := by rw [List.length_take]; omega
  have hbt := hb.take m
  obtain ⟨i0, hi0, _, hsz0, _⟩ := info_parts infoU8
  have hcut := cut_to (P := Try.prog) 22 5 .i64 Try.underlying22 hi0 A0 l0.length c0 (m : Int) (by omega) (by omega) hc0
  rw [Int.toNat_natCast] at hcut
  obtain ⟨k, hk⟩ : ∃ k : Nat, 100000 ≤ k := ⟨100000, Nat.le_refl _⟩
  have HR := Aside0.mk (C_take_any hr0 m hm3)
  have HCOPY := Aside0.mk (copy_eq (l0.take m) (by omega))
  have HP1 := Aside0.mk (pack_eq hbt (by omega))
  have HP2 := Aside0.mk (ref_pack_eq hbt (by omega) k hk)
  have HPL := Aside0.mk (pk_len (l0.take m))
  have HS1 := Aside0.mk (size_eq a1)
  have HS2 := Aside0.mk (ref_size_eq a1 k (by omega))
  have hwl := W_le (l0.take m).length
  have hs3 : frame_Size.f (m : Int) = some ((pk (l0.take m)).length : Int) := by
    rw [size_eq]
    unfold sizeR
    rw [if_neg (by omega), if_neg (by omega), Int.toNat_natCast, pk_len, hlt]
    congr 1
  have HS3 := Aside0.mk hs3
  have HPP := Aside0.mk (show 0 < (pk (l0.take m)).length by rw [pk_len]; omega)
  have HPB := Aside0.mk (show (pk (l0.take m)).length ≤ 3013 by rw [pk_len]; omega)
  have HC0 := Aside0.mk (show m ≤ c0 by omega)
  have HM := Aside0.mk hm4
  have HLT := Aside0.mk hlt
  clear hr0 hb hbt hc0 hlt hwl hs3 hm3 hm4 HPL hk
  generalize l0.take m = b at *
  obtain ⟨p, hp⟩ : ∃ p, p = pk b := ⟨_, rfl⟩
  rw [← hp] at HP1 HP2 HS3 HPB HPP
  clear hp
  have hmm := HLT.out
  subst hmm
  clear HLT
  obtain ⟨sz, hsz⟩ : ∃ s, s = sizeR a1 := ⟨_, rfl⟩
  rw [← hsz] at HS1 HS2
  clear hsz
  go_enter Try.func3, Try.ntmps3
  go_wp2_with fail
  refine (encoreref00_CopyBytes.calls A0 c0 b b w HR.out HC0.out HCOPY.out).mono ?_
  rintro e w1 ⟨v1, rfl, h1, b1⟩
  obtain ⟨A1, c1, rfl, hc1, -⟩ := Kd.Q_reads (Kd.Q_of_R h1)
  have HIN := Aside0.mk (Q_hold (Kd.Q_of_R h1))
  have HB1 := Aside0.mk b1
  have HS1s := Aside0.mk b1.size
  have HCC := Aside0.mk hc1
  clear h1 b1 hc1
  go_wp2_with fail
  refine (frame_Pack.calls A1 c1 b p 0 w1 (Kd.Q_reads' HIN.out).2.2 HCC.out HP1.out).mono ?_
  rintro e w2 ⟨v2, rfl, h2, b2⟩
  obtain ⟨A2, c2, rfl, hc2, -⟩ := Kd.Q_reads (Kd.Q_of_R h2)
  have HQ2 := Aside0.mk (Q_hold (Kd.Q_of_R h2))
  have HIN2 := Aside0.mk (Kd.Q_below HIN.out b2)
  have HB2 := Aside0.mk (below_then HB1.out HB1.out.size b2)
  have HC2 := Aside0.mk hc2
  clear h2 b2 hc2 HIN
  go_wp2_with fail
  refine (encoreref04_Pack.calls k A0 c0 b p 0 w2 (Kd.C_below HR.out HB2.out) HC0.out HP2.out).mono ?_
  rintro e w3 ⟨v3, rfl, h3, b3⟩
  obtain ⟨A3, c3, rfl, hc3, -⟩ := Kd.Q_reads (Kd.Q_of_R h3)
  have HQ3 := Aside0.mk (Q_hold (Kd.Q_of_R h3))
  have HQ2' := Aside0.mk (Kd.Q_below HQ2.out b3)
  have HIN3 := Aside0.mk (Kd.Q_below HIN2.out b3)
  have HB3 := Aside0.mk (below_then HB2.out HB2.out.size b3)
  have HC3 := Aside0.mk hc3
  clear h3 b3 hc3 HIN2 HQ2
  have t1 : (sz != sz) = false := by simp
  have t2 : (((p.length : Nat) : Int) != ((p.length : Nat) : Int)) = false := by simp
  have t3 : (p.length != p.length) = false := by simp
  go_wp2_with fail
  refine (encoreref00_EqBytes.calls (p.length + 1) A2 c2 p A3 c3 p true _ (Kd.Q_reads' HQ2'.out).2.2 HC2.out (Kd.Q_reads' HQ3.out).2.2 HC3.out (eq_same p (by have := HPB.out; omega) _ (by omega))).mono ?_
  rintro e w4 ⟨rfl, ⟨d4, rfl⟩⟩
  have HIN4 := Aside0.mk (Kd.Q_drewN HIN3.out d4)
  have HQ2 := Aside0.mk (Kd.Q_drewN HQ2'.out d4)
  have HB4 := Aside0.mk (pw_below_drewN HB3.out d4)
  clear HQ2' HQ3 HB3 HIN3
  generalize w3.drewN d4 = w4 at *
  go_wp2_with fail
  refine (frame_Size.calls a1 sz w4 HS1.out).mono ?_
  rintro e w5 ⟨rfl, hb5⟩
  have HIN5 := Aside0.mk (Kd.Q_below HIN4.out hb5)
  have HQ2a := Aside0.mk (Kd.Q_below HQ2.out hb5)
  have HB5 := Aside0.mk (below_then HB4.out HB4.out.size hb5)
  clear hb5 HIN4 HQ2 HB4
  go_wp2_with fail
  refine (encoreref04_Size.calls k a1 sz w5 HS2.out).mono ?_
  rintro e w6 ⟨rfl, hb6⟩
  have HIN6 := Aside0.mk (Kd.Q_below HIN5.out hb6)
  have HQ2b := Aside0.mk (Kd.Q_below HQ2a.out hb6)
  have HB6 := Aside0.mk (below_then HB5.out HB5.out.size hb6)
  clear hb6 HIN5 HQ2a HB5
  go_wp2_with fail
  refine (frame_Size.calls (b.length : Int) (p.length : Int) w6 HS3.out).mono ?_
  rintro e w7 ⟨rfl, hb7⟩
  have HIN7 := Aside0.mk (Kd.Q_below HIN6.out hb7)
  have HQ7 := Aside0.mk (Kd.Q_below HQ2b.out hb7)
  have HB7 := Aside0.mk (below_then HB6.out HB6.out.size hb7)
  clear hb7 HIN6 HQ2b HB6
  obtain ⟨g, o, cap, e, hg, hglt, -⟩ := Kd.Q_form HQ7.out HPP.out
  injection e with e1 e2 e3
  subst e1; subst e3
  have hok := Kd.Q_ok HQ7.out g rfl
  have HOK := Aside0.mk hok
  generalize hn : p.length = n at *
  have HN := Aside0.mk hn
  have hn13 : n ≤ 3013 := by have := HPB.out; omega
  clear hn hok hg hglt
  go_wp2_with fail
  go_loopw [10] (fun i wr => ∃ (j : Nat) (xs : List Int), j ≤ n ∧ i = .int .i64 (j : Nat) ∧ xs.length = n ∧ Aside0 (Kd.Q (Kd.int .u8) 5 wr w1.heap.size (fun k => w1.heap.size ≤ k ∧ k < w2.heap.size) (.slice (some ⟨g, o, none⟩) n c2) xs) ∧ Aside0 (Below w.heap.size w wr) ∧ Aside0 (∀ k, k < w1.heap.size → wr.heap[k]? = w7.heap[k]?)) (fun i _ => n - (intOf i).toNat)
  case atStart => exact ⟨0, p, by omega, rfl, HN.out, HQ7, HB7, ⟨fun _ _ => rfl⟩⟩
  case round =>
    obtain ⟨j, xs, hj, rfl, hx, HQr, HBr, HK⟩ := hrel
    by_cases hlt2 : j < n
    · have hd : decide ((j : Int) < (n : Int)) = true := decide_eq_true (by omega)
      have hd2 : decide (j < n) = true := decide_eq_true hlt2
      obtain ⟨hcell1, hcell2⟩ := Kd.Q_cell (0 : Int) HQr.out (j : Int) (by omega) (by omega)
      rw [Int.toNat_natCast] at hcell1 hcell2
      have HP := Kd.Q_putg HQr.out (j : Int) (by omega) (by omega) (0 : Int)
      rw [Int.toNat_natCast] at HP
      generalize rdOf 0 xs (j : Int) = x at *
      go_wp2_with fail
      exact ⟨⟨j + 1, xs.set j 0, by omega, by rw [show ((j + 1 : Nat) : Int) = (j : Int) + 1 by omega], by rw [List.length_set]; exact hx, ⟨HP.1⟩, ⟨HBr.out.setCell (show w.heap.size ≤ g by have := HOK.out.1; have := HS1s.out; omega) _⟩, ⟨fun k hk => (Below.heap_setCell wr ⟨g, o + j, none⟩ _ k (by rintro rfl; have := HOK.out.1; omega)).trans (HK.out k hk)⟩⟩, by simp [intOf]; omega⟩
    · obtain rfl : j = n := by omega
      have hd : decide ((j : Int) < (j : Int)) = false := by simp
      have hd2 : decide (j < j) = false := by simp
      have HIN8 := Aside0.mk (Kd.Q_move HIN7.out (fun k hk => HK.out k hk.2))
      have HR8 := Aside0.mk (Kd.C_below HR.out HBr.out)
      go_wp2_with fail
      refine (encoreref00_EqBytes.calls (b.length + 1) A1 c1 b A0 c0 b true _ (Kd.Q_reads' HIN8.out).2.2 HCC.out HR8.out HC0.out (eq_same b (by have := HM.out; omega) _ (by omega))).mono ?_
      rintro e w9 ⟨rfl, ⟨d9, rfl⟩⟩
      have HB9 := Aside0.mk (pw_below_drewN HBr.out d9)
      go_wp2_with fail
      refine (encorelaw04_works.calls true _ rfl).mono ?_
      rintro e w10 ⟨rfl, hb10⟩
      have HB10 := Aside0.mk (below_then HB9.out HB9.out.size hb10)
      clear hb10
      go_wp2_with fail
      go_ret
      exact ⟨rfl, HB10.out⟩
theorem encorelaw04_FramePacks.calls (A0 : Option Addr) (c0 : Nat) (l0 : List Int) (a1 : Int) (r : Bool) (w : World) (hr0 : Kd.C (Kd.int .u8) w A0 l0.length l0) (hc0 : l0.length ≤ c0) (h : encorelaw04_FramePacks.f l0 a1 = some r) :
    Calls Try.prog 3 #[.slice A0 l0.length c0, .int .i64 a1] w fun e w' => e = .returned (.bool r) ∧ Below w.heap.size w w' := by
  unfold encorelaw04_FramePacks.f at h
  split at h
  case isTrue hc =>
    obtain rfl := Option.some.inj h
    exact packs_calls A0 c0 l0 a1 w hr0 hc0 hc
  case isFalse => cases h
end Go.Proofs.Ytgfjijfjlbjajaa.Ext
