import Derived.Laws.Entries
import Derived.RowKit
/- The plain law of checksums, over registers of 32 bits: no program in sight. -/
namespace Go.Proofs.Ytgfjijfjlbjajaa.CrcMath
open Go Go.RowKit
set_option linter.unusedVariables false
set_option linter.unusedSimpArgs false

abbrev R := BitVec 32
def toI (r : R) : Int := (r.toNat : Int)
theorem toI_range (r : R) : 0 ≤ toI r ∧ toI r < 4294967296 := by
  unfold toI
  have := r.isLt
  omega
theorem toI_inj {a b : R} (h : toI a = toI b) : a = b := by
  unfold toI at h
  exact BitVec.eq_of_toNat_eq (by omega)
theorem toI_ofInt (x : Int) (h0 : 0 ≤ x) (h1 : x < 4294967296) : toI (BitVec.ofInt 32 x) = x := by
  unfold toI
  rw [BitVec.toNat_ofInt]
  omega
theorem ofInt_toI (r : R) : BitVec.ofInt 32 (toI r) = r := by
  apply toI_inj
  exact toI_ofInt _ (toI_range r).1 (toI_range r).2
theorem wrap_u32 (n : Nat) (h : n < 4294967296) : IntKind.u32.wrap (n : Int) = n := by
  simp only [IntKind.wrap]
  simp [IntKind.bits, IntKind.signed]
  omega
theorem bits_xor (a b : R) : bits .xor .u32 (toI a) (toI b) = toI (a ^^^ b) := by
  show IntKind.u32.wrap ((BitVec.ofInt 32 (toI a) ^^^ BitVec.ofInt 32 (toI b)).toNat : Int) = _
  rw [ofInt_toI, ofInt_toI]
  exact wrap_u32 _ (a ^^^ b).isLt
theorem bits_and (a b : R) : bits .and .u32 (toI a) (toI b) = toI (a &&& b) := by
  show IntKind.u32.wrap ((BitVec.ofInt 32 (toI a) &&& BitVec.ofInt 32 (toI b)).toNat : Int) = _
  rw [ofInt_toI, ofInt_toI]
  exact wrap_u32 _ (a &&& b).isLt
theorem toI_shr (a : R) (n : Nat) : toI a / ((2 : Int) ^ n) = toI (a >>> n) := by
  unfold toI
  rw [BitVec.toNat_ushiftRight, Nat.shiftRight_eq_div_pow]
  norm_cast
theorem toI_neg (a : R) : (-(toI a)) % 4294967296 = toI (-a) := by
  unfold toI
  rw [BitVec.toNat_neg]
  have := a.isLt
  omega
theorem toI_dbl (a : R) : (toI a * (2 : Int)) % (4294967296 : Int) = toI (a <<< 1) := by
  unfold toI
  rw [BitVec.toNat_shiftLeft, Nat.shiftLeft_eq]
  omega

/-! ### a register goes down by a place -/
def poly : R := 0x82F63B78#32
def sel (c : Bool) (x : R) : R := if c then x else 0#32
def down (r : R) : R := (r >>> 1) ^^^ sel (r.getLsbD 0) poly
theorem sel_xor (c d : Bool) (x : R) : sel (c ^^ d) x = sel c x ^^^ sel d x := by
  cases c <;> cases d <;> simp [sel]
theorem sel_xor_right (c : Bool) (x y : R) : sel c (x ^^^ y) = sel c x ^^^ sel c y := by
  cases c <;> simp [sel]
theorem down_xor (a b : R) : down (a ^^^ b) = down a ^^^ down b := by
  unfold down
  rw [BitVec.ushiftRight_xor_distrib, BitVec.getLsbD_xor, sel_xor]
  ac_rfl
theorem down_zero : down 0#32 = 0#32 := by decide
theorem and_one (r : R) : r &&& 1#32 = sel (r.getLsbD 0) 1#32 := by
  apply BitVec.eq_of_getLsbD_eq
  intro i hi
  rw [BitVec.getLsbD_and]
  by_cases h : i = 0
  · subst h
    cases h0 : r.getLsbD 0 <;> simp [sel]
  · have : (1#32 : R).getLsbD i = false := by
      rw [BitVec.getLsbD_one]
      simp [h]
    cases h0 : r.getLsbD 0 <;> simp [sel, this]
theorem neg_sel (c : Bool) : -(sel c 1#32) &&& poly = sel c poly := by cases c <;> decide
def dk : Nat → R → R
  | 0, r => r
  | k + 1, r => down (dk k r)
theorem dk_xor (k : Nat) (a b : R) : dk k (a ^^^ b) = dk k a ^^^ dk k b := by
  induction k with
  | zero => rfl
  | succ k ih => simp only [dk, ih, down_xor]
theorem dk_zero (k : Nat) : dk k 0#32 = 0#32 := by
  induction k with
  | zero => rfl
  | succ k ih => simp only [dk, ih, down_zero]
theorem dk_add (m n : Nat) (r : R) : dk (m + n) r = dk m (dk n r) := by
  induction m with
  | zero => simp [dk]
  | succ m ih => rw [Nat.succ_add]; simp only [dk, ih]
theorem dk_down (n : Nat) (r : R) : dk n (down r) = down (dk n r) := by
  have h := dk_add n 1 r
  have h2 := dk_add 1 n r
  rw [Nat.add_comm] at h
  simp only [dk] at h h2
  rw [← h, h2]
theorem dk_comm (m n : Nat) (r : R) : dk m (dk n r) = dk n (dk m r) := by rw [← dk_add, ← dk_add, Nat.add_comm]
theorem down_even (r : R) (h : r.getLsbD 0 = false) : down r = r >>> 1 := by
  unfold down
  rw [h]
  simp [sel]
/-- down loses nothing -/
theorem down_inj_zero (r : R) (h : down r = 0#32) : r = 0#32 := by
  unfold down at h
  cases h0 : r.getLsbD 0 with
  | true =>
    rw [h0] at h
    have h31 : ((r >>> 1) ^^^ sel true poly).getLsbD 31 = false := by rw [h]; decide
    rw [BitVec.getLsbD_xor, BitVec.getLsbD_ushiftRight, BitVec.getLsbD_of_ge r (1 + 31) (by omega)] at h31
    have : (sel true poly).getLsbD 31 = true := by decide
    rw [this] at h31
    exact absurd h31 (by decide)
  | false =>
    rw [h0] at h
    have h1 : r >>> 1 = 0#32 := by simpa [sel] using h
    apply BitVec.eq_of_getLsbD_eq
    intro i hi
    cases i with
    | zero => rw [h0]; simp
    | succ i =>
      have h2 : (r >>> 1).getLsbD i = false := by rw [h1]; simp
      rw [BitVec.getLsbD_ushiftRight] at h2
      rw [show i + 1 = 1 + i by omega, h2]
      simp
theorem dk_inj_zero (k : Nat) (r : R) (h : dk k r = 0#32) : r = 0#32 := by
  induction k with
  | zero => exact h
  | succ k ih => exact ih (down_inj_zero _ h)

/-! ### the sum of what a register's bits become -/
def sumB (g : Nat → R) (r : R) : Nat → R
  | 0 => 0#32
  | i + 1 => sumB g r i ^^^ sel (r.getLsbD i) (g i)
def e (i : Nat) : R := 1#32 <<< i
theorem e_bit (i j : Nat) (hi : i < 32) (hj : j < 32) : (e i).getLsbD j = decide (i = j) := by
  unfold e
  rw [BitVec.getLsbD_shiftLeft, BitVec.getLsbD_one]
  by_cases h : i = j
  · subst h
    simp [hi]
  · simp only [h, decide_false]
    by_cases h2 : j < i
    · simp [h2]
    · simp [show ¬ j - i = 0 by omega]
theorem sumB_bit (r : R) (n j : Nat) (hn : n ≤ 32) (hj : j < 32) : (sumB e r n).getLsbD j = (decide (j < n) && r.getLsbD j) := by
  induction n with
  | zero => simp [sumB]
  | succ n ih =>
    simp only [sumB, BitVec.getLsbD_xor]
    rw [ih (by omega)]
    have hs : (sel (r.getLsbD n) (e n)).getLsbD j = (r.getLsbD n && decide (n = j)) := by
      cases h : r.getLsbD n <;> simp [sel, e_bit n j (by omega) hj]
    rw [hs]
    by_cases h : n = j
    · subst h
      simp
    · have h1 : decide (j < n + 1) = decide (j < n) := by simp; omega
      rw [h1]
      simp [h]
theorem sumB_all (r : R) : sumB e r 32 = r := by
  apply BitVec.eq_of_getLsbD_eq
  intro j hj
  rw [sumB_bit r 32 j (by omega) hj]
  simp [hj]
theorem sumB_map (f : R → R) (hx : ∀ a b, f (a ^^^ b) = f a ^^^ f b) (h0 : f 0#32 = 0#32) (r : R) (n : Nat) : f (sumB e r n) = sumB (fun i => f (e i)) r n := by
  induction n with
  | zero => simp [sumB, h0]
  | succ n ih =>
    simp only [sumB, hx, ih]
    cases h : r.getLsbD n <;> simp [sel, h0]
/-- a linear map is the sum of what the bits become -/
theorem linear_sum (f : R → R) (hx : ∀ a b, f (a ^^^ b) = f a ^^^ f b) (h0 : f 0#32 = 0#32) (r : R) : f r = sumB (fun i => f (e i)) r 32 := by
  rw [← sumB_map f hx h0, sumB_all]
theorem sumB_congr (g g' : Nat → R) (r : R) (n : Nat) (h : ∀ i, i < n → g i = g' i) : sumB g r n = sumB g' r n := by
  induction n with
  | zero => rfl
  | succ n ih => simp only [sumB]; rw [ih (fun i hi => h i (by omega)), h n (by omega)]

/-! ### the product of two rows -/
def one : R := 0x80000000#32
def tm : Nat → R → R → R → R
  | 0, _, _, p => p
  | n + 1, a, b, p => tm n (a <<< 1) (down b) (p ^^^ sel a.msb b)
theorem tm_p (n : Nat) : ∀ a b p q, tm n a b (p ^^^ q) = p ^^^ tm n a b q := by
  induction n with
  | zero => intro a b p q; rfl
  | succ n ih =>
    intro a b p q
    simp only [tm]
    rw [show p ^^^ q ^^^ sel a.msb b = p ^^^ (q ^^^ sel a.msb b) by ac_rfl, ih]
theorem sel_dk (c : Bool) (m : Nat) (b : R) : sel c (dk m b) = dk m (sel c b) := by cases c <;> simp [sel, dk_zero]
theorem tm_dk (n m : Nat) : ∀ a b p, tm n a (dk m b) (dk m p) = dk m (tm n a b p) := by
  induction n with
  | zero => intro a b p; rfl
  | succ n ih =>
    intro a b p
    simp only [tm]
    rw [← dk_down, sel_dk, ← dk_xor, ih]
theorem tm_lin (n : Nat) : ∀ a a' b p p', tm n (a ^^^ a') b (p ^^^ p') = tm n a b p ^^^ tm n a' b p' := by
  induction n with
  | zero => intro a a' b p p'; rfl
  | succ n ih =>
    intro a a' b p p'
    simp only [tm]
    rw [BitVec.shiftLeft_xor_distrib, BitVec.msb_xor, sel_xor]
    rw [show p ^^^ p' ^^^ (sel a.msb b ^^^ sel a'.msb b) = (p ^^^ sel a.msb b) ^^^ (p' ^^^ sel a'.msb b) by ac_rfl, ih]
theorem tm_zero (n : Nat) : ∀ b p, tm n 0#32 b p = p := by
  induction n with
  | zero => intro b p; rfl
  | succ n ih => intro b p; simp only [tm]; rw [show (0#32 : R) <<< 1 = 0#32 by decide, ih]; simp [sel]
theorem tm_one (a : R) : tm 32 a one 0#32 = a := by
  have h := linear_sum (fun a => tm 32 a one 0#32) (fun a b => by
    have := tm_lin 32 a b one 0#32 0#32
    simpa using this) (tm_zero 32 one 0#32) a
  rw [h, sumB_congr _ e a 32 ?_, sumB_all]
  intro i hi
  have : ∀ i, i < 32 → tm 32 (e i) one 0#32 = e i := by decide +kernel
  exact this i hi
theorem tm_power (a : R) (m : Nat) : tm 32 a (dk m one) 0#32 = dk m a := by
  have h := tm_dk 32 m a one 0#32
  rw [dk_zero, tm_one] at h
  exact h
theorem shl_all (a : R) : a <<< 32 = 0#32 := by
  apply BitVec.eq_of_getLsbD_eq
  intro i hi
  rw [BitVec.getLsbD_shiftLeft]
  simp [hi]

/-! ### four bits at a time -/
theorem nibble (r : R) : dk 4 r = (r >>> 4) ^^^ dk 4 (r &&& 15#32) := by
  have hsplit : r = (r &&& 0xfffffff0#32) ^^^ (r &&& 15#32) := by
    apply BitVec.eq_of_getLsbD_eq
    intro i hi
    rw [BitVec.getLsbD_xor, BitVec.getLsbD_and, BitVec.getLsbD_and]
    have : ∀ i, i < 32 → (0xfffffff0#32 : R).getLsbD i = !(15#32 : R).getLsbD i := by decide +kernel
    rw [this i hi]
    cases r.getLsbD i <;> cases (15#32 : R).getLsbD i <;> rfl
  have hev : dk 4 (r &&& 0xfffffff0#32) = r >>> 4 := by
    have h0 : (r &&& 0xfffffff0#32).getLsbD 0 = false := by rw [BitVec.getLsbD_and]; simp
    have h1 : ((r &&& 0xfffffff0#32) >>> 1).getLsbD 0 = false := by rw [BitVec.getLsbD_ushiftRight, BitVec.getLsbD_and]; simp
    have h2 : ((r &&& 0xfffffff0#32) >>> 1 >>> 1).getLsbD 0 = false := by rw [BitVec.getLsbD_ushiftRight, BitVec.getLsbD_ushiftRight, BitVec.getLsbD_and]; simp
    have h3 : ((r &&& 0xfffffff0#32) >>> 1 >>> 1 >>> 1).getLsbD 0 = false := by rw [BitVec.getLsbD_ushiftRight, BitVec.getLsbD_ushiftRight, BitVec.getLsbD_ushiftRight, BitVec.getLsbD_and]; simp
    simp only [dk]
    rw [down_even _ h0, down_even _ h1, down_even _ h2, down_even _ h3]
    apply BitVec.eq_of_getLsbD_eq
    intro i hi
    simp only [BitVec.getLsbD_ushiftRight, BitVec.getLsbD_and]
    by_cases h : 4 + i < 32
    · have : ∀ i, i < 32 → 4 ≤ i → (0xfffffff0#32 : R).getLsbD i = true := by decide +kernel
      rw [show 1 + (1 + (1 + (1 + i))) = 4 + i by omega, this (4 + i) h (by omega)]
      simp
    · rw [BitVec.getLsbD_of_ge r _ (by omega), BitVec.getLsbD_of_ge r _ (by omega)]
      simp
  conv => lhs; rw [hsplit]
  rw [dk_xor, hev]
/-- a byte goes in -/
def bstep (r : R) (x : Int) : R := dk 8 (r ^^^ BitVec.ofInt 32 x)
def moreB (s : R) (l : List Int) : R := ~~~ (l.foldl bstep (~~~ s))
end Go.Proofs.Ytgfjijfjlbjajaa.CrcMath

/- Checksums of rows one behind the other, and put over each other: the plain law. -/
namespace Go.Proofs.Ytgfjijfjlbjajaa.CrcMath
open Go Go.RowKit
set_option linter.unusedVariables false
set_option linter.unusedSimpArgs false

theorem bstep_xor (r q : R) (x : Int) : bstep (r ^^^ q) x = bstep r x ^^^ dk 8 q := by
  unfold bstep
  rw [show r ^^^ q ^^^ BitVec.ofInt 32 x = (r ^^^ BitVec.ofInt 32 x) ^^^ q by ac_rfl, dk_xor]
theorem fold_xor (l : List Int) : ∀ r q, l.foldl bstep (r ^^^ q) = l.foldl bstep r ^^^ dk (8 * l.length) q := by
  induction l with
  | nil => intro r q; rfl
  | cons x l ih =>
    intro r q
    simp only [List.foldl_cons, List.length_cons]
    rw [bstep_xor, ih, ← dk_add, Nat.mul_add]
theorem more_append (s : R) (a b : List Int) : moreB (moreB s a) b = moreB s (a ++ b) := by
  unfold moreB
  rw [BitVec.not_not, List.foldl_append]
theorem join_append (a b : List Int) : dk (8 * b.length) (moreB 0#32 a) ^^^ moreB 0#32 b = moreB 0#32 (a ++ b) := by
  have h1 : moreB 0#32 (a ++ b) = moreB (moreB 0#32 a) b := (more_append _ _ _).symm
  rw [h1]
  unfold moreB
  generalize ~~~ (a.foldl bstep (~~~ 0#32)) = x
  have h2 : ~~~ x = ~~~ 0#32 ^^^ x := by
    rw [show (~~~ 0#32 : R) = BitVec.allOnes 32 by decide]
    exact (BitVec.allOnes_xor).symm
  rw [h2, fold_xor]
  generalize b.foldl bstep (~~~ 0#32) = y
  rw [← BitVec.allOnes_xor (x := y ^^^ _), ← BitVec.allOnes_xor (x := y)]
  ac_rfl
end Go.Proofs.Ytgfjijfjlbjajaa.CrcMath
