/- The document's Front and Read are the program's. Plain lists; condition: bytes are bytes. -/
import Derived.Test.YtfkndnocjelhgaaStripCellsW
import Derived.Test.YtfkndnocjelhgaaBase3
import Derived.Test.YtfkndnocjelhgaaBase4
namespace Go.Proofs.Ytfkndnocjelhgaa.Ext
open Go Go.RowKit Go.Proofs.YtfkndnocjelhgaaW.PrintWords Go.Proofs.YtfkndnocjelhgaaW.PrintLast Go.Proofs.YtfkndnocjelhgaaW.PrintMore Go.Proofs.Ytfkndnocjelhgaa.Base Go.Proofs.Ytfkndnocjelhgaa.Arr
set_option linter.unusedVariables false
set_option linter.unusedSimpArgs false

theorem or_i64 (a b : Nat) (ha : a < 4294967296) (hb : b < 4294967296) : Go.bits .or .i64 (a : Int) (b : Int) = ((a ||| b : Nat) : Int) := by
  show IntKind.i64.wrap ((BitVec.ofInt 64 (a : Int) ||| BitVec.ofInt 64 (b : Int)).toNat : Int) = _
  rw [BitVec.toNat_or, ofInt_nat64 a (by omega), ofInt_nat64 b (by omega)]
  have h : a ||| b < 2 ^ 32 := Nat.or_lt_two_pow (by omega) (by omega)
  exact IntWalk.i64_in _ (by omega)
def ofN (a b c d : Nat) : Nat := a * 16777216 + b * 65536 + c * 256 + d
theorem wrap_small (d : Nat) (h : d < 4294967296) : wrap64 (d : Int) = (d : Int) := by unfold wrap64; omega
theorem wrap_mul (a m : Nat) (h : a < 256 ∧ m ≤ 16777216) : wrap64 ((wrap64 (a : Int)) * (m : Int)) = ((a * m : Nat) : Int) := by
  have h1 : a * m ≤ 256 * 16777216 := Nat.mul_le_mul (by omega) h.2
  rw [wrap_small a (by omega), ← Int.natCast_mul]
  generalize a * m = q at *
  unfold wrap64
  omega
theorem or_two (x y m : Nat) (k : Nat) (hm : m = 2 ^ k) (hx : x * m < 4294967296) (hy : y < m) (hy2 : y < 4294967296) : Go.bits .or .i64 ((x * m : Nat) : Int) (y : Int) = ((x * m + y : Nat) : Int) := by
  rw [or_i64 (x * m) y hx hy2]
  subst hm
  rw [or_hi k x y hy]
theorem of_or (a b c d : Nat) (ha : a < 256) (hb : b < 256) (hc : c < 256) (hd : d < 256) : Go.bits .or .i64 (Go.bits .or .i64 (Go.bits .or .i64 (wrap64 ((wrap64 (a : Int)) * 16777216)) (wrap64 ((wrap64 (b : Int)) * 65536))) (wrap64 ((wrap64 (c : Int)) * 256))) (wrap64 (d : Int)) = (ofN a b c d : Int) := by
  have w1 : wrap64 ((wrap64 (a : Int)) * 16777216) = ((a * 16777216 : Nat) : Int) := wrap_mul a 16777216 ⟨ha, by decide⟩
  have w2 : wrap64 ((wrap64 (b : Int)) * 65536) = ((b * 65536 : Nat) : Int) := wrap_mul b 65536 ⟨hb, by decide⟩
  have w3 : wrap64 ((wrap64 (c : Int)) * 256) = ((c * 256 : Nat) : Int) := wrap_mul c 256 ⟨hc, by decide⟩
  have w4 : wrap64 (d : Int) = (d : Int) := wrap_small d (Nat.lt_trans hd (by decide))
  rw [w1, w2, w3, w4]
  clear w1 w2 w3 w4
  obtain ⟨p, hp⟩ : ∃ p, p = a * 256 + b := ⟨_, rfl⟩
  obtain ⟨q, hq⟩ : ∃ q, q = p * 256 + c := ⟨_, rfl⟩
  have hp2 : p < 65536 := by omega
  have hq2 : q < 16777216 := by omega
  have s1 : a * 16777216 + b * 65536 = p * 65536 := by rw [hp, Nat.add_mul, Nat.mul_assoc]
  have s2 : p * 65536 + c * 256 = q * 256 := by rw [hq, Nat.add_mul, Nat.mul_assoc]
  have s3 : q * 256 + d = ofN a b c d := by rw [hq, hp]; unfold ofN; rw [Nat.add_mul, Nat.add_mul, Nat.add_mul, Nat.mul_assoc, Nat.mul_assoc, Nat.mul_assoc]
  rw [or_two a (b * 65536) 16777216 24 rfl (by omega) (by omega) (by omega), s1, or_two p (c * 256) 65536 16 rfl (by omega) (by omega) (by omega), s2, or_two q d 256 8 rfl (by omega) (by omega) (by omega), s3]
theorem ref_of (l : List Int) (hl : l.length = 4) (hb : Bytes l) : encoreref05_of.f l = some (ofN (rd l 0).toNat (rd l 1).toNat (rd l 2).toNat (rd l 3).toNat : Int) := by
  have h0 := hb.at_ 0
  have h1 := hb.at_ 1
  have h2 := hb.at_ 2
  have h3 := hb.at_ 3
  have e0 : rd l 0 = ((rd l 0).toNat : Int) := by have : rd l ((0 : Nat) : Int) = rd l 0 := rfl
                                                  omega
  have e1 : rd l 1 = ((rd l 1).toNat : Int) := by have : rd l ((1 : Nat) : Int) = rd l 1 := rfl
                                                  omega
  have e2 : rd l 2 = ((rd l 2).toNat : Int) := by have : rd l ((2 : Nat) : Int) = rd l 2 := rfl
                                                  omega
  have e3 : rd l 3 = ((rd l 3).toNat : Int) := by have : rd l ((3 : Nat) : Int) = rd l 3 := rfl
                                                  omega
  have k0 : (rd l 0).toNat < 256 := by have : rd l ((0 : Nat) : Int) = rd l 0 := rfl
                                       omega
  have k1 : (rd l 1).toNat < 256 := by have : rd l ((1 : Nat) : Int) = rd l 1 := rfl
                                       omega
  have k2 : (rd l 2).toNat < 256 := by have : rd l ((2 : Nat) : Int) = rd l 2 := rfl
                                       omega
  have k3 : (rd l 3).toNat < 256 := by have : rd l ((3 : Nat) : Int) = rd l 3 := rfl
                                       omega
  have h := of_or _ _ _ _ k0 k1 k2 k3
  rw [← e0, ← e1, ← e2, ← e3] at h
  unfold encoreref05_of.f
  rw [hl, if_pos (by decide), if_pos (by decide), if_pos (by decide), if_pos (by decide), h]
theorem rd_take (l : List Int) (n j : Nat) (h : j < n) : rd (l.take n) (j : Int) = rd l (j : Int) := by
  rw [rd_nat, rd_nat, List.getD_eq_getElem?_getD, List.getD_eq_getElem?_getD, List.getElem?_take_of_lt h]
theorem rd_drop (l : List Int) (n j : Nat) : rd (l.drop n) (j : Int) = rd l ((n + j : Nat) : Int) := by
  rw [rd_nat, rd_nat, List.getD_eq_getElem?_getD, List.getD_eq_getElem?_getD, List.getElem?_drop]
theorem ref_front (b : List Int) (hb : Bytes b) : encoreref05_Front.f b = some (if b.length = 64 then ((stampV b : Int) / 4294967296, (stampV b : Int) % 4294967296, 0) else (0, 0, 2)) := by
  unfold encoreref05_Front.f
  by_cases hl : b.length = 64
  · rw [if_pos (by omega), if_pos (by omega), if_pos hl]
    have h0 := ref_of (b.take 4) (by rw [List.length_take]; omega) (hb.take 4)
    have h1 := ref_of ((b.take 8).drop 4) (by rw [List.length_drop, List.length_take]; omega) ((hb.take 8).drop 4)
    have a0 : rd (b.take 4) 0 = rd b ((0 : Nat) : Int) := rd_take b 4 0 (by decide)
    have a1 : rd (b.take 4) 1 = rd b ((1 : Nat) : Int) := rd_take b 4 1 (by decide)
    have a2 : rd (b.take 4) 2 = rd b ((2 : Nat) : Int) := rd_take b 4 2 (by decide)
    have a3 : rd (b.take 4) 3 = rd b ((3 : Nat) : Int) := rd_take b 4 3 (by decide)
    have c0 : rd ((b.take 8).drop 4) 0 = rd b ((4 : Nat) : Int) := (rd_drop (b.take 8) 4 0).trans (rd_take b 8 4 (by decide))
    have c1 : rd ((b.take 8).drop 4) 1 = rd b ((5 : Nat) : Int) := (rd_drop (b.take 8) 4 1).trans (rd_take b 8 5 (by decide))
    have c2 : rd ((b.take 8).drop 4) 2 = rd b ((6 : Nat) : Int) := (rd_drop (b.take 8) 4 2).trans (rd_take b 8 6 (by decide))
    have c3 : rd ((b.take 8).drop 4) 3 = rd b ((7 : Nat) : Int) := (rd_drop (b.take 8) 4 3).trans (rd_take b 8 7 (by decide))
    rw [a0, a1, a2, a3] at h0
    rw [c0, c1, c2, c3] at h1
    rw [h0, Option.bind_some, if_pos (by decide), if_pos (by omega), h1, Option.bind_some]
    have v : ∀ j : Nat, j < 8 → rd (b.take 8) (j : Int) = rd b (j : Int) := fun j hj => rd_take b 8 j hj
    have hs : stampV b = ofN (rd b ((0 : Nat) : Int)).toNat (rd b ((1 : Nat) : Int)).toNat (rd b ((2 : Nat) : Int)).toNat (rd b ((3 : Nat) : Int)).toNat * 4294967296 + ofN (rd b ((4 : Nat) : Int)).toNat (rd b ((5 : Nat) : Int)).toNat (rd b ((6 : Nat) : Int)).toNat (rd b ((7 : Nat) : Int)).toNat := by
      unfold stampV
      simp only [valN, v 0 (by decide), v 1 (by decide), v 2 (by decide), v 3 (by decide), v 4 (by decide), v 5 (by decide), v 6 (by decide), v 7 (by decide)]
      unfold ofN
      omega
    have l4 := hb.at_ 4
    have l5 := hb.at_ 5
    have l6 := hb.at_ 6
    have l7 := hb.at_ 7
    have hlt : ofN (rd b ((4 : Nat) : Int)).toNat (rd b ((5 : Nat) : Int)).toNat (rd b ((6 : Nat) : Int)).toNat (rd b ((7 : Nat) : Int)).toNat < 4294967296 := by unfold ofN; omega
    generalize ofN (rd b ((4 : Nat) : Int)).toNat (rd b ((5 : Nat) : Int)).toNat (rd b ((6 : Nat) : Int)).toNat (rd b ((7 : Nat) : Int)).toNat = x at *
    generalize ofN (rd b ((0 : Nat) : Int)).toNat (rd b ((1 : Nat) : Int)).toNat (rd b ((2 : Nat) : Int)).toNat (rd b ((3 : Nat) : Int)).toNat = y at *
    rw [hs]
    have e1 : ((y * 4294967296 + x : Nat) : Int) / 4294967296 = (y : Int) := by omega
    have e2 : ((y * 4294967296 + x : Nat) : Int) % 4294967296 = (x : Int) := by omega
    rw [e1, e2]
  · rw [if_neg (by omega), if_neg hl]
/-- noughts from x on -/
def ZF (b : List Int) (x : Nat) : Prop := ∀ i : Nat, x ≤ i → i < 56 → rd b (i : Int) = 0
theorem zf_iff (b : List Int) (hl : b.length = 64) (n : Nat) (hn : n ≤ 47) : splice b (9 + n) (List.replicate (47 - n) 0) = b ↔ ZF b (9 + n) := by
  have hs := fun i => splice_get b (9 + n) (List.replicate (47 - n) (0 : Int)) (by rw [List.length_replicate, hl]; omega) i
  constructor
  · intro h i h1 h2
    have := hs i
    rw [h, List.length_replicate, if_neg (by omega), if_pos (by omega), List.getElem?_replicate, if_pos (by omega)] at this
    rw [rd_nat, List.getD_eq_getElem?_getD, this]; rfl
  · intro h
    apply List.ext_getElem?
    intro i
    rw [hs i, List.length_replicate]
    by_cases h1 : i < 9 + n
    · rw [if_pos h1]
    · rw [if_neg h1]
      by_cases h2 : i < 56
      · rw [if_pos (by omega), List.getElem?_replicate, if_pos (by omega)]
        have := h i (by omega) h2
        rw [rd_nat, List.getD_eq_getElem?_getD, List.getElem?_eq_getElem (by omega : i < b.length)] at this
        rw [List.getElem?_eq_getElem (by omega : i < b.length)]
        exact congrArg some this.symm
      · rw [if_neg (by omega)]
theorem ref_z (b : List Int) (hl : b.length = 64) (n : Nat) (hn : n ≤ 47) (g e : Int) : ∀ d x : Nat, x + d = 56 → 9 + n ≤ x → (ZF b x → encoreref05_Read.l0 (d + 1) b (n : Int) (x : Int) g e = some (g, e, decide (rd b 8 ≥ 128), (b.drop 9).take n, 0)) ∧ (¬ ZF b x → encoreref05_Read.l0 (d + 1) b (n : Int) (x : Int) g e = some (0, 0, false, [], 4))
  | 0, x, hx, hx2 => by
    have hz : ZF b x := fun i h1 h2 => by omega
    refine ⟨fun _ => ?_, fun h => absurd hz h⟩
    have hw : wrap64 (9 + (n : Int)) = ((9 + n : Nat) : Int) := by unfold wrap64; omega
    rw [encoreref05_Read.l0, if_neg (by omega), if_pos (by omega), hw, if_pos (by omega), if_pos (by omega), Int.toNat_natCast, copy_eq _ (by rw [List.length_drop, List.length_take]; omega), Option.bind_some, List.drop_take, Nat.add_sub_cancel_left]
  | d + 1, x, hx, hx2 => by
    have ih := ref_z b hl n hn g e d (x + 1) (by omega) (by omega)
    have hw : wrap64 ((x : Int) + 1) = ((x + 1 : Nat) : Int) := by unfold wrap64; omega
    have hstep : encoreref05_Read.l0 (d + 1 + 1) b (n : Int) (x : Int) g e = if rd b (x : Int) = 0 then encoreref05_Read.l0 (d + 1) b (n : Int) ((x + 1 : Nat) : Int) g e else some (0, 0, false, [], 4) := by
      generalize d + 1 = F
      rw [encoreref05_Read.l0, if_pos (by omega), if_pos (by omega), if_pos (by omega), hw]
    rw [hstep]
    by_cases h0 : rd b (x : Int) = 0
    · rw [if_pos h0]
      have hiff : ZF b x ↔ ZF b (x + 1) := ⟨fun h i h1 h2 => h i (by omega) h2, fun h i h1 h2 => by
        by_cases he : i = x
        · rw [he]; exact h0
        · exact h i (by omega) h2⟩
      rw [hiff]
      exact ih
    · rw [if_neg h0]
      exact ⟨fun h => absurd (h x (Nat.le_refl _) (by omega)) h0, fun _ => rfl⟩
theorem and127 : ∀ n : Nat, n < 256 → wrap64 (Go.bits .and .u8 (n : Int) 127) = ((n % 128 : Nat) : Int) := by decide +kernel
theorem ref_read (b : List Int) (hb : Bytes b) : ∃ k, encoreref05_Read.f k b = some (readT b) := by
  unfold readT
  by_cases hl : b.length = 64
  · rw [if_neg (fun h => h hl)]
    have h8 := hb.at_ 8
    obtain ⟨hd, hhd⟩ : ∃ hd : Nat, rd b ((8 : Nat) : Int) = (hd : Int) := ⟨(rd b ((8 : Nat) : Int)).toNat, by omega⟩
    have hhd' : rd b 8 = (hd : Int) := hhd
    have hd256 : hd < 256 := by omega
    have hN : headN b = hd % 128 := by unfold headN; rw [hhd']; rfl
    have ht : ∀ k, 9 ≤ k → encoreref05_turned.f k (b.take 8) = some (b.take 8).reverse := fun k hk => turned_eq _ (by rw [List.length_take]; omega) k (by rw [List.length_take]; omega)
    have he : ∀ k, 9 ≤ k → encoreref00_EqBytes.f k (b.take 8).reverse (b.drop 56) = some (decide (backOK b)) := fun k hk => by
      rw [eq_dec _ _ (by rw [List.length_reverse, List.length_take]; omega) k (by rw [List.length_reverse, List.length_take]; omega)]
      congr 1
      unfold backOK
      by_cases h : b.take 8 = (b.drop 56).reverse
      · rw [decide_eq_true h, decide_eq_true (by rw [h, List.reverse_reverse])]
      · rw [decide_eq_false h, decide_eq_false (fun h2 => h (by rw [← h2, List.reverse_reverse]))]
    have hf := ref_front b hb
    rw [if_pos hl] at hf
    have hunf : ∀ k, 9 ≤ k → encoreref05_Read.f k b = if decide (backOK b) = true then (if ((stampV b : Int) / 4294967296) = 0 then (encoreref05_Read.j0 k b ((hd % 128 : Nat) : Int) true ((stampV b : Int) / 4294967296) ((stampV b : Int) % 4294967296)) else (if ((hd % 128 : Nat) : Int) < 1 then (encoreref05_Read.j0 k b ((hd % 128 : Nat) : Int) true ((stampV b : Int) / 4294967296) ((stampV b : Int) % 4294967296)) else (encoreref05_Read.j0 k b ((hd % 128 : Nat) : Int) (decide (((hd % 128 : Nat) : Int) > 47)) ((stampV b : Int) / 4294967296) ((stampV b : Int) % 4294967296)))) else some (0, 0, false, [], 3) := by
      intro k hk
      unfold encoreref05_Read.f
      rw [hf, Option.bind_some, if_pos rfl, if_pos (by omega), ht k hk, Option.bind_some, if_pos (by omega), he k hk, Option.bind_some, if_pos (show (8 : Int) < (b.length : Int) by omega), hhd', and127 hd hd256]
    by_cases hbk : backOK b
    · by_cases hbad : stampV b / 4294967296 = 0 ∨ headN b < 1 ∨ 47 < headN b
      · have hC : readC b = 4 := by unfold readC; rw [if_neg (fun h => h hbk), if_pos hbad]
        have hj : ∀ k g e, encoreref05_Read.j0 (k + 1) b ((hd % 128 : Nat) : Int) true g e = some (0, 0, false, [], 4) := fun k g e => by rw [encoreref05_Read.j0, if_pos rfl]
        refine ⟨9 + 1, ?_⟩
        rw [hunf _ (by decide), decide_eq_true hbk, if_pos rfl, hC, if_pos (show (4 : Int) ≠ 0 by decide)]
        by_cases h1 : ((stampV b : Int) / 4294967296) = 0
        · rw [if_pos h1, hj]
        · rw [if_neg h1]
          by_cases h2 : ((hd % 128 : Nat) : Int) < 1
          · rw [if_pos h2, hj]
          · rw [if_neg h2, decide_eq_true (show ((hd % 128 : Nat) : Int) > 47 by rw [hN] at hbad; omega), hj]
      · have hn47 : headN b ≤ 47 := by omega
        obtain ⟨n, hn⟩ : ∃ n, n = headN b := ⟨_, rfl⟩
        have hn2 : hd % 128 = n := by rw [hn, hN]
        have hz := ref_z b hl n (by omega) ((stampV b : Int) / 4294967296) ((stampV b : Int) % 4294967296) (47 - n) (9 + n) (by omega) (Nat.le_refl _)
        have hge : decide (rd b 8 ≥ 128) = decide (128 ≤ (rd b 8).toNat) := by
          rw [hhd', Int.toNat_natCast]
          by_cases h : 128 ≤ hd
          · rw [decide_eq_true h, decide_eq_true (by omega)]
          · rw [decide_eq_false h, decide_eq_false (by omega)]
        have hw : wrap64 (9 + (n : Int)) = ((9 + n : Nat) : Int) := by unfold wrap64; omega
        have hup : ∀ q k r, encoreref05_Read.l0 k b (n : Int) ((9 + n : Nat) : Int) ((stampV b : Int) / 4294967296) ((stampV b : Int) % 4294967296) = some r → encoreref05_Read.l0 (k + q) b (n : Int) ((9 + n : Nat) : Int) ((stampV b : Int) / 4294967296) ((stampV b : Int) % 4294967296) = some r := by
          intro q k r h
          induction q with
          | zero => exact h
          | succ q ih => exact (encoreref05_Read.mono_l (k + q)).2 _ _ _ _ _ r ih
        have hgo : ∀ r, encoreref05_Read.l0 (47 - n + 1) b (n : Int) ((9 + n : Nat) : Int) ((stampV b : Int) / 4294967296) ((stampV b : Int) % 4294967296) = some r → encoreref05_Read.f (47 - n + 1 + 9 + 1) b = some r := by
          intro r h
          have h9 := hup 9 _ r h
          have hF : 9 ≤ 47 - n + 1 + 9 + 1 := by omega
          generalize 47 - n + 1 + 9 = F at *
          rw [hunf _ hF, decide_eq_true hbk, if_pos rfl, hn2, if_neg (by omega), if_neg (by omega), decide_eq_false (by omega), encoreref05_Read.j0, if_neg (by decide), hw]
          exact h9
        refine ⟨47 - n + 1 + 9 + 1, ?_⟩
        by_cases hzz : zerosOK b
        · have hC : readC b = 0 := by unfold readC; rw [if_neg (fun h => h hbk), if_neg hbad, if_neg (fun h => h hzz)]
          rw [if_neg (fun h => h hC), ← hge, ← hn]
          unfold zerosOK at hzz
          rw [← hn] at hzz
          exact hgo _ (hz.1 ((zf_iff b hl n (by omega)).1 hzz))
        · have hC : readC b = 4 := by unfold readC; rw [if_neg (fun h => h hbk), if_neg hbad, if_pos hzz]
          rw [hC, if_pos (show (4 : Int) ≠ 0 by decide)]
          unfold zerosOK at hzz
          rw [← hn] at hzz
          exact hgo _ (hz.2 (fun h => hzz ((zf_iff b hl n (by omega)).2 h)))
    · have hC : readC b = 3 := by unfold readC; rw [if_pos hbk]
      refine ⟨9, ?_⟩
      rw [hunf 9 (Nat.le_refl _), decide_eq_false hbk, if_neg (show ¬ false = true by decide), hC, if_pos (show (3 : Int) ≠ 0 by decide)]
  · rw [if_pos hl]
    refine ⟨0, ?_⟩
    have hf := ref_front b hb
    rw [if_neg hl] at hf
    unfold encoreref05_Read.f
    rw [hf, Option.bind_some, if_neg (by decide)]
end Go.Proofs.Ytfkndnocjelhgaa.Ext
