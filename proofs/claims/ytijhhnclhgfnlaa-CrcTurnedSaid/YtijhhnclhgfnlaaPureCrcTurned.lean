/- Bytes that differ within 32 bits one behind the other have unlike sums, for every row of bytes. No condition beyond the row's own. -/
import Derived.Test.YtijhhnclhgfnlaaLaws2
import Derived.Test.YtijhhnclhgfnlaaCrcLink
import Derived.Test.YtijhhnclhgfnlaaCrcProps
import Derived.Laws.BitsAllLaws
namespace Go.Proofs.Ytijhhnclhgfnlaa.Pure
open Go.RowKit Go.Proofs.Ytijhhnclhgfnlaa.Laws Go.Proofs.YtijhhnclhgfnlaaW.PrintWords Go.Proofs.YtijhhnclhgfnlaaW.PrintLast Go.Proofs.YtijhhnclhgfnlaaW.PrintMore Go.Proofs.Ytijhhnclhgfnlaa.Base Go.Proofs.Ytijhhnclhgfnlaa.Ext Go.Proofs.Ytijhhnclhgfnlaa.CrcMath Go.Proofs.Ytijhhnclhgfnlaa.CrcLink
set_option linter.unusedVariables false
set_option linter.unusedSimpArgs false

/-! ### one bit -/
theorem down_e (i : Nat) (h : i + 1 < 32) : down (e (i + 1)) = e i := by
  have : ∀ i, i < 31 → down (e (i + 1)) = e i := by decide +kernel
  exact this i (by omega)
theorem dk_e (i : Nat) (h : i < 32) : dk i (e i) = 1#32 := by
  have : ∀ i, i < 32 → dk i (e i) = 1#32 := by decide +kernel
  exact this i h
theorem flip_byte : ∀ x s : Nat, x < 256 → s < 8 → BitVec.ofInt 32 ((x ^^^ 2 ^ s : Nat) : Int) = BitVec.ofInt 32 (x : Int) ^^^ e s := by
  intro x s hx hs
  apply toI_inj
  have h1 : x ^^^ 2 ^ s < 256 := Nat.xor_lt_two_pow (n := 8) hx (by
    have : 2 ^ s ≤ 2 ^ 7 := Nat.pow_le_pow_right (by omega) (by omega)
    omega)
  rw [toI_ofInt _ (by omega) (by omega)]
  unfold toI
  rw [BitVec.toNat_xor]
  have h2 : (BitVec.ofInt 32 (x : Int) : R).toNat = x := by
    have := toI_ofInt (x : Int) (by omega) (by omega)
    unfold toI at this
    omega
  have h3 : (e s).toNat = 2 ^ s := by
    have : ∀ s, s < 8 → (e s).toNat = 2 ^ s := by decide
    exact this s hs
  rw [h2, h3]
theorem bstep_flip (r : R) (x s : Nat) (hx : x < 256) (hs : s < 8) : bstep r ((x ^^^ 2 ^ s : Nat) : Int) = bstep r x ^^^ dk 8 (e s) := by
  unfold bstep
  rw [flip_byte x s hx hs, show r ^^^ (BitVec.ofInt 32 (x : Int) ^^^ e s) = (r ^^^ BitVec.ofInt 32 (x : Int)) ^^^ e s by ac_rfl, dk_xor]
theorem fold_flip (c : List Int) (q s : Nat) (x : Nat) (hq : q < c.length) (hx : rd c q = x) (hx8 : x < 256) (hs : s < 8) (r : R) :
    (c.set q ((x ^^^ 2 ^ s : Nat) : Int)).foldl bstep r = c.foldl bstep r ^^^ dk (8 * c.length - (8 * q + s)) 1#32 := by
  have hc : c = c.take q ++ (x : Int) :: c.drop (q + 1) := by
    have h1 : c[q] = (x : Int) := by rw [← hx]; simp [rd, hq]
    rw [← h1, ← List.drop_eq_getElem_cons hq, List.take_append_drop]
  have hset : c.set q ((x ^^^ 2 ^ s : Nat) : Int) = c.take q ++ ((x ^^^ 2 ^ s : Nat) : Int) :: c.drop (q + 1) := by
    rw [List.set_eq_take_append_cons_drop, if_pos hq]
  rw [hset]
  conv => rhs; rw [hc]
  simp only [List.foldl_append, List.foldl_cons]
  rw [bstep_flip _ x s hx8 hs, fold_xor]
  congr 1
  rw [← dk_add, List.length_drop]
  have hl : (c.take q ++ (x : Int) :: c.drop (q + 1)).length = c.length := by rw [← hc]
  rw [hl]
  have h2 : 8 * (c.length - (q + 1)) + 8 = (8 * c.length - (8 * q + s)) + s := by omega
  rw [h2, dk_add, dk_e s (by omega)]
theorem sumB_nonzero (r : R) (i : Nat) (hi : i < 32) (h : r.getLsbD i = true) : sumB e r (i + 1) ≠ 0#32 := by
  intro h0
  have := sumB_bit r (i + 1) i (by omega) hi
  rw [h0, h] at this
  simp at this

/-! ### the loop -/
theorem turned_end (b c : List Int) (hb : Bytes b) (hc : Bytes c) (m : Nat) (w : R) (hm : moreB 0#32 c = moreB 0#32 b ^^^ dk m w) (t : Bool) (ht : t = decide (w ≠ 0#32)) (k : Nat) (x2 K i : Int) :
    encorelaw01_CrcTurned.j2 (k + 1) b x2 c K t i false = some true := by
  simp only [encorelaw01_CrcTurned.j2]
  rw [if_neg (by decide), of_eq b hb, of_eq c hc]
  simp only [Option.bind_some]
  have h : ((toI (moreB 0#32 b) == toI (moreB 0#32 c)) == (!t)) = true := by
    rw [hm, ht]
    by_cases hw : w = 0#32
    · subst hw
      rw [dk_zero]
      simp
    · have hne : dk m w ≠ 0#32 := fun h => hw (dk_inj_zero m w h)
      have h1 : (toI (moreB 0#32 b) == toI (moreB 0#32 b ^^^ dk m w)) = false := by
        rw [beq_eq_false_iff_ne]
        intro h2
        have h3 := toI_inj h2
        apply hne
        have h4 : moreB 0#32 b ^^^ moreB 0#32 b = moreB 0#32 b ^^^ (moreB 0#32 b ^^^ dk m w) := by rw [← h3]
        rw [← BitVec.xor_assoc, BitVec.xor_self, BitVec.zero_xor] at h4
        exact h4.symm
      rw [h1]
      simp [hw]
  rw [if_pos h]
  rfl
theorem turn_bit (r : R) (i : Nat) (hi : i < 32) : Go.bits .and .u32 (shr .u32 (toI r) (i : Int)) 1 = toI (sel (r.getLsbD i) 1#32) := by
  have hsh : shr .u32 (toI r) (i : Int) = toI (r >>> i) := by
    show toI r / 2 ^ min ((i : Int).toNat) 32 = _
    rw [Int.toNat_natCast, show min i 32 = i by omega, toI_shr]
  have h1 : (1 : Int) = toI 1#32 := rfl
  rw [hsh, h1, bits_and, and_one, BitVec.getLsbD_ushiftRight]
  rfl
theorem next_i (i : Nat) (hi : i < 32) : wrap64 ((i : Int) + 1) = ((i + 1 : Nat) : Int) := by unfold wrap64; omega
theorem sum_i (K i : Nat) (h : K + i ≤ 9223372036854775807) : wrap64 ((K : Int) + (i : Int)) = ((K + i : Nat) : Int) := by unfold wrap64; omega
theorem eight_i (n : Nat) (h : n ≤ 140737488355328) : wrap64 (8 * (n : Int)) = ((8 * n : Nat) : Int) := by unfold wrap64; omega
theorem quo_i (p : Nat) (h : p ≤ 9223372036854775807) : wrap64 (Int.tdiv (p : Int) 8) = ((p / 8 : Nat) : Int) := by
  rw [show Int.tdiv (p : Int) 8 = ((p / 8 : Nat) : Int) from rfl]
  unfold wrap64
  omega
theorem rem_i (p : Nat) : Int.tmod (p : Int) 8 = ((p % 8 : Nat) : Int) := rfl
theorem shl_i (s : Nat) (hs : s < 8) : shl .u8 1 (s : Int) = ((2 ^ s : Nat) : Int) := by
  have : ∀ s : Nat, s < 8 → shl .u8 1 (s : Int) = ((2 ^ s : Nat) : Int) := by decide +kernel
  exact this s hs
theorem pow_i (s : Nat) (hs : s < 8) : 2 ^ s < 256 := by
  have : 2 ^ s ≤ 2 ^ 7 := Nat.pow_le_pow_right (by omega) (by omega)
  omega
theorem xor_i (x s : Nat) (hx : x < 256) (hs : s < 8) : x ^^^ 2 ^ s < 256 := Nat.xor_lt_two_pow (n := 8) hx (pow_i s hs)
theorem not_xor (a b : R) : ~~~ (a ^^^ b) = ~~~ a ^^^ b := by rw [← BitVec.allOnes_xor (x := a ^^^ b), ← BitVec.allOnes_xor (x := a), BitVec.xor_assoc]
theorem more_flip (b c : List Int) (q s x p K i : Nat) (r : R) (hl : c.length = b.length) (hq : q < c.length) (hx : rd c q = x) (hx8 : x < 256) (hs : s < 8) (hp : 8 * q + s = K + i) (hin : K + i < 8 * b.length) (hi : i < 32) (hbit : r.getLsbD i = true)
    (hm : moreB 0#32 c = moreB 0#32 b ^^^ dk (8 * b.length - K) (sumB e r i)) : moreB 0#32 (c.set q ((x ^^^ 2 ^ s : Nat) : Int)) = moreB 0#32 b ^^^ dk (8 * b.length - K) (sumB e r (i + 1)) := by
  have hfl := fold_flip c q s x hq hx hx8 hs (~~~ 0#32)
  rw [hp] at hfl
  have e1 : moreB 0#32 (c.set q ((x ^^^ 2 ^ s : Nat) : Int)) = moreB 0#32 c ^^^ dk (8 * c.length - (K + i)) 1#32 := by
    unfold moreB
    rw [hfl, not_xor]
  rw [e1, hm, hl]
  simp only [sumB, hbit, sel, if_true]
  rw [dk_xor, BitVec.xor_assoc]
  congr 2
  rw [show 8 * b.length - K = (8 * b.length - (K + i)) + i by omega, dk_add, dk_e i hi]
theorem turned_loop (b : List Int) (hb : Bytes b) (hn : b.length ≤ 140737488351232) (r : R) (K : Nat) (hK : K < 8 * b.length) (d : Nat) : ∀ (k i : Nat) (c : List Int), i + d = 32 → 2 * d + 2 ≤ k → c.length = b.length → Bytes c →
    moreB 0#32 c = moreB 0#32 b ^^^ dk (8 * b.length - K) (sumB e r i) →
    encorelaw01_CrcTurned.l0 k b (toI r) c K (decide (sumB e r i ≠ 0#32)) i = some true := by
  induction d with
  | zero =>
    intro k i c hi hk hl hc hm
    obtain ⟨k, rfl⟩ : ∃ n, k = n + 2 := ⟨k - 2, by omega⟩
    simp only [encorelaw01_CrcTurned.l0]
    rw [if_neg (by omega)]
    exact turned_end b c hb hc _ _ hm _ rfl k _ _ _
  | succ d ih =>
    intro k i c hi hk hl hc hm
    obtain ⟨k, rfl⟩ : ∃ n, k = n + 2 := ⟨k - 2, by omega⟩
    simp only [encorelaw01_CrcTurned.l0]
    rw [if_pos (by omega)]
    rw [sum_i K i (by omega), eight_i b.length (by omega)]
    by_cases hin : K + i < 8 * b.length
    · rw [decide_eq_true (show ((K + i : Nat) : Int) < ((8 * b.length : Nat) : Int) by omega)]
      simp only [encorelaw01_CrcTurned.j2]
      rw [if_pos trivial, if_pos (by omega), sum_i K i (by omega)]
      rw [turn_bit r i (by omega), next_i i (by omega)]
      cases hbit : r.getLsbD i with
      | false =>
        rw [if_neg (by decide)]
        have hs : sumB e r (i + 1) = sumB e r i := by simp [sumB, hbit, sel]
        have := ih k (i + 1) c (by omega) (by omega) hl hc (by rw [hs]; exact hm)
        rw [hs] at this
        exact this
      | true =>
        rw [if_pos (by decide)]
        rw [quo_i (K + i) (by omega), rem_i, if_pos (by omega), if_pos (by omega), if_pos (by omega), Int.toNat_natCast]
        have hqlt : (K + i) / 8 < c.length := by omega
        have hs8 : (K + i) % 8 < 8 := by omega
        have hdiv : 8 * ((K + i) / 8) + (K + i) % 8 = K + i := Nat.div_add_mod _ _
        generalize (K + i) / 8 = q at *
        generalize (K + i) % 8 = s at *
        have hbyte := hc c[q] (List.getElem_mem hqlt)
        obtain ⟨x, hx⟩ := Int.eq_ofNat_of_zero_le hbyte.1
        have hx8 : x < 256 := by have := hbyte.2; rw [hx] at this; omega
        have hrd : rd c (q : Int) = (x : Int) := by
          have e1 : rd c (q : Int) = c[q] := by simp [rd, hqlt]
          rw [e1, hx]
        rw [hrd, shl_i s hs8, u8_xor_nat x _ hx8 (pow_i s hs8)]
        have hm2 := more_flip b c q s x 0 K i r hl hqlt hrd hx8 hs8 hdiv hin (by omega) hbit hm
        have hne : decide (sumB e r (i + 1) ≠ 0#32) = true := decide_eq_true (sumB_nonzero r i (by omega) hbit)
        have hx9 := xor_i x s hx8 hs8
        have hbytes : Bytes (c.set q ((x ^^^ 2 ^ s : Nat) : Int)) := by
          intro y hy
          rcases List.mem_or_eq_of_mem_set hy with h | h
          · exact hc y h
          · subst h
            omega
        have h := ih k (i + 1) _ (by omega) (by omega) (by rw [List.length_set]; exact hl) hbytes hm2
        rw [hne] at h
        exact h
    · rw [decide_eq_false (show ¬ ((K + i : Nat) : Int) < ((8 * b.length : Nat) : Int) by omega)]
      exact turned_end b c hb hc _ _ hm _ rfl k _ _ _
theorem bring_eq (i n : Int) (hn : 0 < n) (hn2 : n ≤ 9223372036854775807) : ∃ K : Nat, encoreref00_Bring.f i n = some (K : Int) ∧ (K : Int) < n := by
  unfold encoreref00_Bring.f
  rw [if_neg (by omega), if_neg (by omega)]
  have h1 : Int.tmod i n < n := Int.tmod_lt_of_pos i hn
  have h2 : -n < Int.tmod i n := Int.lt_tmod_of_pos i hn
  by_cases h : Int.tmod i n < 0
  · rw [if_pos h, show wrap64 (Int.tmod i n + n) = Int.tmod i n + n by unfold wrap64; omega]
    exact ⟨(Int.tmod i n + n).toNat, by rw [Int.toNat_of_nonneg (by omega)], by omega⟩
  · rw [if_neg h]
    exact ⟨(Int.tmod i n).toNat, by rw [Int.toNat_of_nonneg (by omega)], by omega⟩
theorem turned_j0 (k : Nat) (b : List Int) (x y : Int) : encorelaw01_CrcTurned.j0 (k + 1) b x y true = some true := by
  simp only [encorelaw01_CrcTurned.j0]
  rw [if_pos trivial]
  rfl
theorem turned_j1 (k : Nat) (hk : 66 ≤ k) (b : List Int) (hb : Bytes b) (hl : b.length ≤ 140737488351232) (h0 : b.length ≠ 0) (x : Int) (r : R) : encorelaw01_CrcTurned.j0 (k + 1) b x (toI r) false = some true := by
  simp only [encorelaw01_CrcTurned.j0]
  rw [if_neg (by decide), copy_eq b (by omega), Option.bind_some]
  have hw8 : wrap64 (8 * (b.length : Int)) = 8 * (b.length : Int) := by unfold wrap64; omega
  obtain ⟨K, hK, hKlt⟩ := bring_eq x (8 * (b.length : Int)) (by omega) (by omega)
  rw [hw8, hK, Option.bind_some]
  have h := turned_loop b hb (by omega) r K (by omega) 32 k 0 b (by omega) hk rfl hb (by simp [sumB, dk_zero])
  have h1 : decide (sumB e r 0 ≠ 0#32) = false := by simp [sumB]
  have h2 : ((0 : Nat) : Int) = 0 := rfl
  rw [h1, h2] at h
  exact h
theorem turned_law (k : Nat) (hk : 66 ≤ k) (l0 : List Int) (hb : Bytes l0) (hl : l0.length ≤ 140737488351232) (a1 : Int) (r : R) : encorelaw01_CrcTurned.f (k + 1) l0 a1 (toI r) = some true := by
  unfold encorelaw01_CrcTurned.f
  by_cases h0 : (l0.length : Int) = 0
  · rw [if_pos h0]
    exact turned_j0 k l0 a1 _
  · rw [if_neg h0]
    cases (toI r == 0) with
    | true => exact turned_j0 k l0 a1 _
    | false => exact turned_j1 k hk l0 hb hl (by omega) a1 r
theorem CrcTurned : encorelaw01_CrcTurned.Pure := by
  intro l0 a1 a2 _ hl hw _ h2
  obtain ⟨k, hk⟩ : ∃ k : Nat, 66 ≤ k := ⟨66, Nat.le_refl _⟩
  have h := turned_law k hk l0 (bytes_of_wf hw) (by omega) a1 (BitVec.ofInt 32 a2)
  rw [u32_of_wf h2] at h
  exact ⟨_, h⟩
end Go.Proofs.Ytijhhnclhgfnlaa.Pure
