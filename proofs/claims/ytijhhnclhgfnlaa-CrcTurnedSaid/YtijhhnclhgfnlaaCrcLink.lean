/- What the walked functions come to, in the words of the plain law of checksums. -/
import Derived.Test.YtijhhnclhgfnlaaExtWorks
import Derived.Test.YtijhhnclhgfnlaaExtJoin
import Derived.Test.YtijhhnclhgfnlaaCrcMath
namespace Go.Proofs.Ytijhhnclhgfnlaa.CrcLink
open Go.RowKit Go.Proofs.YtijhhnclhgfnlaaW.PrintWords Go.Proofs.Ytijhhnclhgfnlaa.Base Go.Proofs.Ytijhhnclhgfnlaa.Ext Go.Proofs.Ytijhhnclhgfnlaa.CrcMath
set_option linter.unusedVariables false
set_option linter.unusedSimpArgs false

/-- each is a byte -/
def Bytes (l : List Int) : Prop := ∀ x ∈ l, 0 ≤ x ∧ x < 256
theorem bytes_of_wf {l : List Int} (h : ∀ x ∈ l, (Lit.int .u8 x).wf = true) : Bytes l := fun x hx => by
  have := h x hx
  simp [Lit.wf, IntKind.min, IntKind.max, IntKind.signed, IntKind.bits] at this
  omega
theorem u32_of_wf {x : Int} (h : (Lit.int .u32 x).wf = true) : toI (BitVec.ofInt 32 x) = x := by
  simp [Lit.wf, IntKind.min, IntKind.max, IntKind.signed, IntKind.bits] at h
  exact toI_ofInt x (by omega) (by omega)
theorem i64_of_wf {x : Int} (h : (Lit.int .i64 x).wf = true) : -9223372036854775808 ≤ x ∧ x ≤ 9223372036854775807 := by
  simp [Lit.wf, IntKind.min, IntKind.max, IntKind.signed, IntKind.bits] at h
  omega

theorem dn_toI (r : R) : dn (toI r) = toI (down r) := by
  unfold dn
  have h1 : (1 : Int) = toI 1#32 := rfl
  have hp : (2197175160 : Int) = toI poly := rfl
  have h2 : toI r / (2 : Int) = toI (r >>> 1) := toI_shr r 1
  rw [h2, h1, bits_and, toI_neg, hp, bits_and, and_one, neg_sel, bits_xor]
  rfl
theorem dnk_toI (k : Nat) (r : R) : dnk k (toI r) = toI (dk k r) := by
  induction k with
  | zero => rfl
  | succ k ih => simp only [dnk, dk, ih, dn_toI]
theorem rdn_bit (r x : R) : encoreref01_down.f (toI r) (toI x) = some (toI ((r >>> 1) ^^^ sel ((r ^^^ x).getLsbD 0) poly)) := by
  unfold encoreref01_down.f
  have h1 : (1 : Int) = toI 1#32 := rfl
  have hp : (2197175160 : Int) = toI poly := rfl
  have h2 : toI r / (2 : Int) = toI (r >>> 1) := toI_shr r 1
  rw [h2, bits_xor, h1, bits_and, and_one, hp, bits_xor]
  cases (r ^^^ x).getLsbD 0 with
  | true => rw [if_pos (by rfl)]; rfl
  | false => rw [if_neg (by decide)]; simp [sel]
theorem rdn_toI (r : R) : rdn (toI r) = toI (down r) := by
  have h := rdn_of (toI r)
  have h0 : (0 : Int) = toI 0#32 := rfl
  rw [h0, rdn_bit] at h
  have := Option.some.inj h
  rw [← this]
  simp [down]
theorem rdnk_toI (k : Nat) (r : R) : rdnk k (toI r) = toI (dk k r) := by
  induction k with
  | zero => rfl
  | succ k ih => simp only [rdnk, dk, ih, rdn_toI]

/-! ### crc.More, crc.Of -/
theorem nib_toI (r : R) : nib (toI r) = toI (dk 4 r) := by
  unfold nib
  have h15 : (15 : Int) = toI 15#32 := rfl
  have h2 : toI r / (16 : Int) = toI (r >>> 4) := toI_shr r 4
  rw [h2, h15, bits_and, dnk_toI, bits_xor, ← nibble]
theorem byteStep_toI (r : R) (x : Int) (h0 : 0 ≤ x) (h1 : x < 256) : byteStep (toI r) x = toI (bstep r x) := by
  unfold byteStep bstep
  have hx : x % 4294967296 = toI (BitVec.ofInt 32 x) := by rw [toI_ofInt x h0 (by omega)]; omega
  rw [hx, bits_xor]
  simp only [nibs, nib_toI]
  rw [← dk_add]
theorem fold_toI (l : List Int) (h : Bytes l) (r : R) : l.foldl byteStep (toI r) = toI (l.foldl bstep r) := by
  induction l generalizing r with
  | nil => rfl
  | cons x l ih =>
    simp only [List.foldl_cons]
    rw [byteStep_toI r x (h x (by simp)).1 (h x (by simp)).2, ih (fun y hy => h y (by simp [hy]))]
theorem flip_toI (r : R) : flip32 (toI r) = toI (~~~ r) := by
  unfold flip32
  have hm : IntKind.u32.max = toI 0xffffffff#32 := by decide
  rw [hm, bits_xor]
  rfl
theorem more_eq (s : R) (l : List Int) (h : Bytes l) : crc_More.f (toI s) l = some (toI (moreB s l)) := by
  unfold crc_More.f moreB
  rw [flip_toI, fold_toI l h, flip_toI]
theorem of_eq (l : List Int) (h : Bytes l) : crc_Of.f l = some (toI (moreB 0#32 l)) := by
  have := more_eq 0#32 l h
  exact this

/-! ### the reference's More -/
theorem ref_bits (l : List Int) (h : Bytes l) (hl : l.length ≤ 9223372036854775807) (r x : R) (i : Int) (h0 : 0 ≤ i) (h1 : i < l.length) (hx : rd l i = toI x) (hx8 : x >>> 8 = 0#32) (d : Nat) : ∀ (k m : Nat) (q : R), m + d = 8 → q ^^^ (x >>> m) = dk m (r ^^^ x) → d < k →
    encoreref01_More.l1 k l (toI q) i m = encoreref01_More.l0 (k - d - 1) l (toI (dk 8 (r ^^^ x))) (i + 1) := by
  induction d with
  | zero =>
    intro k m q hm hq hk
    obtain ⟨k, rfl⟩ : ∃ n, k = n + 1 := ⟨k - 1, by omega⟩
    obtain rfl : m = 8 := by omega
    simp only [encoreref01_More.l1]
    rw [if_neg (by omega), show wrap64 (i + 1) = i + 1 by unfold wrap64; omega]
    rw [hx8] at hq
    rw [← hq]
    simp
  | succ d ih =>
    intro k m q hm hq hk
    obtain ⟨k, rfl⟩ : ∃ n, k = n + 1 := ⟨k - 1, by omega⟩
    simp only [encoreref01_More.l1]
    have hs : shr .u32 ((rd l i) % 4294967296) m = toI (x >>> m) := by
      rw [hx, Int.emod_eq_of_lt (toI_range x).1 (toI_range x).2]
      show toI x / 2 ^ min ((m : Int).toNat) 32 = _
      rw [Int.toNat_natCast, show min m 32 = m by omega, toI_shr]
    rw [if_pos (by omega), if_pos h0, if_pos h1, if_pos (by omega), hs, rdn_bit]
    simp only [Option.bind_some]
    rw [show wrap64 ((m : Int) + 1) = ((m + 1 : Nat) : Int) by unfold wrap64; omega]
    rw [ih k (m + 1) _ (by omega) ?_ (by omega)]
    · congr 1
      omega
    · have h2 : dk (m + 1) (r ^^^ x) = down (q ^^^ (x >>> m)) := by rw [hq]; rfl
      rw [h2]
      unfold down
      rw [BitVec.ushiftRight_xor_distrib, ← BitVec.shiftRight_add]
      ac_rfl
theorem byte_small (x : Int) (h0 : 0 ≤ x) (h1 : x < 256) : (BitVec.ofInt 32 x : R) >>> 8 = 0#32 := by
  apply toI_inj
  rw [← toI_shr, toI_ofInt x h0 (by omega)]
  show x / 2 ^ 8 = 0
  omega
theorem ref_loop (l : List Int) (h : Bytes l) (hl : l.length ≤ 140737488355328) (d : Nat) : ∀ (k i : Nat) (r : R), i + d = l.length → 10 * d < k →
    encoreref01_More.l0 k l (toI r) i = some (toI (~~~ ((l.drop i).foldl bstep r))) := by
  induction d with
  | zero =>
    intro k i r hi hk
    obtain ⟨k, rfl⟩ : ∃ n, k = n + 1 := ⟨k - 1, by omega⟩
    simp only [encoreref01_More.l0]
    rw [if_neg (by omega), List.drop_eq_nil_of_le (by omega)]
    have := flip_toI r
    unfold flip32 at this
    have hm : IntKind.u32.max = 4294967295 := by decide
    rw [hm] at this
    have hm2 : (4294967295 : Int) = toI 0xffffffff#32 := rfl
    rw [hm2, bits_xor, BitVec.xor_comm, ← bits_xor, ← hm2, this]
    rfl
  | succ d ih =>
    intro k i r hi hk
    obtain ⟨k, rfl⟩ : ∃ n, k = n + 1 := ⟨k - 1, by omega⟩
    simp only [encoreref01_More.l0]
    rw [if_pos (by omega)]
    have hlt : i < l.length := by omega
    have hx : rd l (i : Int) = l[i] := by simp [rd, hlt]
    have hb := h l[i] (List.getElem_mem hlt)
    have hx2 : rd l (i : Int) = toI (BitVec.ofInt 32 l[i]) := by rw [hx, toI_ofInt _ hb.1 (by omega)]
    rw [show (0 : Int) = ((0 : Nat) : Int) from rfl, ref_bits l h (by omega) r (BitVec.ofInt 32 l[i]) i (by omega) (by omega) hx2 (byte_small _ hb.1 hb.2) 8 k 0 r (by omega) (by simp [dk]) (by omega)]
    rw [show ((i : Int) + 1) = ((i + 1 : Nat) : Int) by omega, ih _ (i + 1) _ (by omega) (by omega)]
    rw [List.drop_eq_getElem_cons hlt]
    rfl
theorem ref_more_eq (s : R) (l : List Int) (h : Bytes l) (hl : l.length ≤ 140737488355328) (k : Nat) (hk : 10 * l.length < k) : encoreref01_More.f k (toI s) l = some (toI (moreB s l)) := by
  unfold encoreref01_More.f moreB
  have h2 : Go.bits .xor .u32 (toI s) 4294967295 = toI (~~~ s) := by
    rw [← flip_toI]
    unfold flip32
    have hm : IntKind.u32.max = toI 0xffffffff#32 := by decide
    have hm2 : (4294967295 : Int) = toI 0xffffffff#32 := rfl
    rw [hm, hm2, bits_xor, bits_xor, BitVec.xor_comm]
  rw [h2]
  exact ref_loop l h hl l.length k 0 _ (by omega) hk
theorem ref_of_eq (l : List Int) (h : Bytes l) (hl : l.length ≤ 140737488355328) (k : Nat) (hk : 10 * l.length < k) : encoreref01_Of.f k l = some (toI (moreB 0#32 l)) := by
  have := ref_more_eq 0#32 l h hl k hk
  have h0 : toI 0#32 = 0 := rfl
  rw [h0] at this
  simp [encoreref01_Of.f, this]

/-! ### the product, Join -/
theorem times_loop (n : Nat) : ∀ (k : Nat) (a b p : R), a <<< n = 0#32 → n < k → crc_times.l0 k (toI a) (toI b) (toI p) = some (toI (tm n a b p)) := by
  induction n with
  | zero =>
    intro k a b p ha hk
    obtain ⟨k, rfl⟩ : ∃ n, k = n + 1 := ⟨k - 1, by omega⟩
    have ha0 : a = 0#32 := by simpa using ha
    subst ha0
    simp only [crc_times.l0]
    rw [if_pos (show toI 0#32 = 0 from rfl)]
    rfl
  | succ n ih =>
    intro k a b p ha hk
    obtain ⟨k, rfl⟩ : ∃ n, k = n + 1 := ⟨k - 1, by omega⟩
    simp only [crc_times.l0]
    by_cases h0 : toI a = 0
    · rw [if_pos h0]
      have ha0 : a = 0#32 := toI_inj (by rw [h0]; rfl)
      subst ha0
      rw [tm_zero]
    · rw [if_neg h0]
      have hd : crc_down.f (toI b) = some (toI (down b)) := by rw [← dn_toI]; rfl
      rw [hd]
      simp only [Option.bind_some]
      have hm : toI a / 2147483648 = toI (sel a.msb 1#32) := by
        have := toI_shr a 31
        rw [show ((2 : Int) ^ 31) = 2147483648 from rfl] at this
        rw [this]
        congr 1
        apply BitVec.eq_of_getLsbD_eq
        intro i hi
        rw [BitVec.getLsbD_ushiftRight]
        by_cases h : i = 0
        · subst h
          rw [BitVec.msb_eq_getLsbD_last]
          cases h31 : a.getLsbD 31 <;> simp [sel, h31]
        · rw [BitVec.getLsbD_of_ge a _ (by omega)]
          have : (1#32 : R).getLsbD i = false := by rw [BitVec.getLsbD_one]; simp [h]
          cases a.msb <;> simp [sel, this]
      have hsel : -(sel a.msb 1#32) &&& b = sel a.msb b := by
        cases a.msb
        · simp [sel]
        · show (-1#32) &&& b = b
          rw [show (-1#32 : R) = BitVec.allOnes 32 by decide, BitVec.allOnes_and]
      rw [hm, toI_neg, bits_and, hsel, bits_xor, toI_dbl]
      exact ih k (a <<< 1) (down b) _ (by rw [← BitVec.shiftLeft_add, Nat.add_comm 1 n]; exact ha) (by omega)
theorem times_eq (a b : R) (k : Nat) (hk : 32 < k) : crc_times.f k (toI a) (toI b) = some (toI (tm 32 a b 0#32)) := times_loop 32 k a b 0#32 (shl_all a) hk
theorem and_i64_one (n : Int) : Go.bits .and .i64 n 1 = n % 2 := by
  have h : ∀ v : BitVec 64, (v &&& 1#64).toNat = v.toNat % 2 := fun v => by
    rw [BitVec.toNat_and]
    exact Nat.and_one_is_mod _
  show IntKind.i64.wrap ((BitVec.ofInt 64 n &&& BitVec.ofInt 64 1).toNat : Int) = _
  have h1 : (BitVec.ofInt 64 1) = 1#64 := rfl
  rw [h1, h, BitVec.toNat_ofInt, IntKind.wrap_i64]
  simp only [Int.natCast_emod]
  rw [Int.toNat_of_nonneg (by omega)]
  omega
theorem join_loop (s : R) (n : Nat) : ∀ (k m : Nat) (f : R), n + 40 ≤ k → crc_Join.l0 k (toI f) (toI s) (n : Int) (toI (dk m one)) = some (toI (dk (m * n) f ^^^ s)) := by
  induction n using Nat.strongRecOn with
  | _ n ih =>
    intro k m f hk
    obtain ⟨k, rfl⟩ : ∃ n, k = n + 1 := ⟨k - 1, by omega⟩
    simp only [crc_Join.l0]
    by_cases hn : (n : Int) > 0
    · rw [if_pos hn, and_i64_one, times_eq _ _ k (by omega), times_eq _ _ k (by omega)]
      simp only [Option.bind_some]
      rw [tm_power, tm_power, ← dk_add, show (n : Int) / 2 = ((n / 2 : Nat) : Int) by omega]
      by_cases hb : (n : Int) % 2 = 1
      · rw [if_pos hb, ih (n / 2) (by omega) k (m + m) _ (by omega), ← dk_add]
        congr 4
        have : n = n / 2 + n / 2 + 1 := by omega
        conv => rhs; rw [this]
        rw [Nat.mul_add, Nat.mul_add, Nat.add_mul]
        omega
      · rw [if_neg hb, ih (n / 2) (by omega) k (m + m) _ (by omega)]
        congr 4
        have : n = n / 2 + n / 2 := by omega
        conv => rhs; rw [this]
        rw [Nat.mul_add, Nat.add_mul]
    · rw [if_neg hn]
      obtain rfl : n = 0 := by omega
      rw [bits_xor]
      rfl
theorem join_neg (s f : R) (n : Int) (hn : n ≤ 0) (x : Int) (k : Nat) (hk : 0 < k) : crc_Join.l0 k (toI f) (toI s) n x = some (toI (f ^^^ s)) := by
  obtain ⟨k, rfl⟩ : ∃ n, k = n + 1 := ⟨k - 1, by omega⟩
  simp only [crc_Join.l0]
  rw [if_neg (by omega), bits_xor]
theorem join_eq (f s : R) (n : Int) (k : Nat) (hk : n.toNat + 40 ≤ k) : crc_Join.f k (toI f) (toI s) n = some (toI (dk (8 * n.toNat) f ^^^ s)) := by
  unfold crc_Join.f
  have h8 : (8388608 : Int) = toI (dk 8 one) := by decide +kernel
  by_cases hn : 0 < n
  · have h := join_loop s n.toNat k 8 f hk
    rw [Int.toNat_of_nonneg (by omega)] at h
    rw [h8]
    exact h
  · rw [join_neg s f n (by omega) _ k (by omega)]
    have : n.toNat = 0 := by omega
    rw [this]
    rfl

/-! ### the reference's Join -/
def lm (m : Nat) : List Int := (List.range 32).map fun i => toI (dk m (e i))
theorem lm_rd (m i : Nat) (h : i < 32) : rd (lm m) i = toI (dk m (e i)) := by simp [lm, rd, h]
theorem thr_toI (m : Nat) (r : R) (n : Nat) (hn : n ≤ 32) : thr (lm m) (toI r) n = toI (sumB (fun i => dk m (e i)) r n) := by
  induction n with
  | zero => rfl
  | succ n ih =>
    simp only [thr, sumB]
    have h1 : (1 : Int) = toI 1#32 := rfl
    rw [toI_shr, h1, bits_and, and_one, ih (by omega), lm_rd m n (by omega), BitVec.getLsbD_ushiftRight]
    cases hb : r.getLsbD (n + 0) with
    | true =>
      rw [if_pos (by rfl), bits_xor]
      rw [Nat.add_zero] at hb
      simp [hb, sel]
    | false =>
      rw [if_neg (by decide)]
      rw [Nat.add_zero] at hb
      simp [hb, sel]
theorem thr_all (m : Nat) (r : R) : thr (lm m) (toI r) 32 = toI (dk m r) := by
  rw [thr_toI m r 32 (by omega), ← linear_sum (dk m) (dk_xor m) (dk_zero m)]
theorem twice_lm (m : Nat) : twice (lm m) = lm (m + m) := by
  unfold twice
  conv => lhs; rw [show lm m = (List.range 32).map fun i => toI (dk m (e i)) from rfl]
  rw [List.map_map]
  apply List.map_congr_left
  intro i _
  show thr (lm m) (toI (dk m (e i))) 32 = _
  rw [thr_all, dk_add]
theorem joinL_eq (n : Nat) : ∀ (f m : Nat) (r : R), n ≤ f → joinL (lm m) f (toI r) (n : Int) = toI (dk (m * n) r) := by
  induction n using Nat.strongRecOn with
  | _ n ih =>
    intro f m r hf
    by_cases hn : (0 : Int) < n
    · obtain ⟨f, rfl⟩ : ∃ q, f = q + 1 := ⟨f - 1, by omega⟩
      simp only [joinL]
      rw [if_pos hn, and_i64_one, thr_all, twice_lm, show (n : Int) / 2 = ((n / 2 : Nat) : Int) by omega]
      by_cases hb : (n : Int) % 2 = 1
      · rw [if_pos hb, ih (n / 2) (by omega) f (m + m) _ (by omega), ← dk_add]
        congr 2
        have : n = n / 2 + n / 2 + 1 := by omega
        conv => rhs; rw [this]
        rw [Nat.mul_add, Nat.mul_add, Nat.add_mul]
        omega
      · rw [if_neg hb, ih (n / 2) (by omega) f (m + m) _ (by omega)]
        congr 2
        have : n = n / 2 + n / 2 := by omega
        conv => rhs; rw [this]
        rw [Nat.mul_add, Nat.add_mul]
    · rw [joinL_done _ _ _ _ hn]
      obtain rfl : n = 0 := by omega
      rfl
theorem lstR_lm : lstR 32 = lm 8 := by
  unfold lstR lm
  apply List.map_congr_left
  intro i hi
  have hi : i < 32 := by simpa using hi
  unfold lstF
  rw [if_pos hi]
  have h : (2 : Int) ^ i % 4294967296 = toI (e i) := by
    have : ∀ i, i < 32 → (2 : Int) ^ i % 4294967296 = toI (e i) := by decide +kernel
    exact this i hi
  rw [h, rdnk_toI]
theorem ref_join_eq (f s : R) (n : Int) : encoreref01_Join.f (toI f) (toI s) n = some (toI (dk (8 * n.toNat) f ^^^ s)) := by
  unfold encoreref01_Join.f
  rw [lstR_lm]
  by_cases hn : 0 ≤ n
  · have h := joinL_eq n.toNat n.toNat 8 f (Nat.le_refl _)
    rw [Int.toNat_of_nonneg hn] at h
    rw [h, bits_xor]
  · rw [joinL_done _ _ _ _ (by omega), bits_xor]
    have : n.toNat = 0 := by omega
    rw [this]
    rfl

/-! ### EqBytes, CopyBytes -/
theorem eq_loop (l : List Int) (hl : l.length ≤ 140737488355328) (d : Nat) : ∀ (k i : Nat), i + d = l.length → d < k → encoreref00_EqBytes.l0 k l l i = some true := by
  induction d with
  | zero =>
    intro k i hi hk
    obtain ⟨k, rfl⟩ : ∃ n, k = n + 1 := ⟨k - 1, by omega⟩
    simp only [encoreref00_EqBytes.l0]
    rw [if_neg (by omega)]
  | succ d ih =>
    intro k i hi hk
    obtain ⟨k, rfl⟩ : ∃ n, k = n + 1 := ⟨k - 1, by omega⟩
    simp only [encoreref00_EqBytes.l0]
    rw [if_pos (by omega), if_pos (by omega), if_pos (by omega), if_pos trivial, show wrap64 ((i : Int) + 1) = ((i + 1 : Nat) : Int) by unfold wrap64; omega]
    exact ih k (i + 1) (by omega) (by omega)
theorem eq_same (l : List Int) (hl : l.length ≤ 140737488355328) (k : Nat) (hk : l.length < k) : encoreref00_EqBytes.f k l l = some true := by
  unfold encoreref00_EqBytes.f
  rw [if_pos rfl]
  exact eq_loop l hl l.length k 0 (by omega) hk
theorem copy_eq (l : List Int) (hl : l.length < 140737488355328) : encoreref00_CopyBytes.f l = some l := by
  unfold encoreref00_CopyBytes.f
  rw [if_pos (by simpa using hl)]
  simp
end Go.Proofs.Ytijhhnclhgfnlaa.CrcLink
