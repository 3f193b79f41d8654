import Derived.Test.YtgfjijfjlbjajaaOf
import Derived.Test.YtgfjijfjlbjajaaCrcMath
import Derived.Test.YtgfjijfjlbjajaaBinLink
import Derived.Laws.BitsAllLaws
/- What the walked functions come to, in the words of the plain law of checksums. -/
namespace Go.Proofs.Ytgfjijfjlbjajaa.CrcLink
open Go.RowKit Go.Proofs.YtgfjijfjlbjajaaW.PrintWords Go.Proofs.Ytgfjijfjlbjajaa.Base Go.Proofs.Ytgfjijfjlbjajaa.Ext Go.Proofs.Ytgfjijfjlbjajaa.CrcMath
open Go.Proofs.Ytgfjijfjlbjajaa.BinMath (Bytes bytes_of_wf i64_of_wf)
set_option linter.unusedVariables false
set_option linter.unusedSimpArgs false

theorem u32_of_wf {x : Int} (h : (Lit.int .u32 x).wf = true) : toI (BitVec.ofInt 32 x) = x := by
  simp [Lit.wf, IntKind.min, IntKind.max, IntKind.signed, IntKind.bits] at h
  exact toI_ofInt x (by omega) (by omega)
theorem dn_toI (r : R) : dn (toI r) = toI (down r) := by
  unfold dn
  have h1 : (1 : Int) = toI 1#32 := rfl
  have hp : (2197175160 : Int) = toI poly := rfl
  have h2 : toI r / (2 : Int) = toI (r >>> 1) := toI_shr r 1
  rw [h2, h1, bits_and, toI_neg, hp, bits_and, and_one, neg_sel, bits_xor]
  rfl
theorem dnk_toI (k : Nat) (r : R) : dnk k (toI r) = toI (dk k r) := by
  induction k with
  | zero => rfl
  | succ k ih => simp only [dnk, dk, ih, dn_toI]
theorem rdn_bit (r x : R) : encoreref01_down.f (toI r) (toI x) = some (toI ((r >>> 1) ^^^ sel ((r ^^^ x).getLsbD 0) poly)) := by
  unfold encoreref01_down.f
  have h1 : (1 : Int) = toI 1#32 := rfl
  have hp : (2197175160 : Int) = toI poly := rfl
  have h2 : toI r / (2 : Int) = toI (r >>> 1) := toI_shr r 1
  rw [h2, bits_xor, h1, bits_and, and_one, hp, bits_xor]
  cases (r ^^^ x).getLsbD 0 with
  | true => rw [if_pos (by rfl)]; rfl
  | false => rw [if_neg (by decide)]; simp [sel]
/-! ### crc.More, crc.Of -/
theorem nib_toI (r : R) : nib (toI r) = toI (dk 4 r) := by
  unfold nib
  have h15 : (15 : Int) = toI 15#32 := rfl
  have h2 : toI r / (16 : Int) = toI (r >>> 4) := toI_shr r 4
  rw [h2, h15, bits_and, dnk_toI, bits_xor, ← nibble]
theorem byteStep_toI (r : R) (x : Int) (h0 : 0 ≤ x) (h1 : x < 256) : byteStep (toI r) x = toI (bstep r x) := by
  unfold byteStep bstep
  have hx : x % 4294967296 = toI (BitVec.ofInt 32 x) := by rw [toI_ofInt x h0 (by omega)]; omega
  rw [hx, bits_xor]
  simp only [nibs, nib_toI]
  rw [← dk_add]
theorem fold_toI (l : List Int) (h : Bytes l) (r : R) : l.foldl byteStep (toI r) = toI (l.foldl bstep r) := by
  induction l generalizing r with
  | nil => rfl
  | cons x l ih =>
    simp only [List.foldl_cons]
    rw [byteStep_toI r x (h x (by simp)).1 (h x (by simp)).2, ih (fun y hy => h y (by simp [hy]))]
theorem flip_toI (r : R) : flip32 (toI r) = toI (~~~ r) := by
  unfold flip32
  have hm : IntKind.u32.max = toI 0xffffffff#32 := by decide
  rw [hm, bits_xor]
  rfl
theorem more_eq (s : R) (l : List Int) (h : Bytes l) : crc_More.f (toI s) l = some (toI (moreB s l)) := by
  unfold crc_More.f moreB
  rw [flip_toI, fold_toI l h, flip_toI]
theorem of_eq (l : List Int) (h : Bytes l) : crc_Of.f l = some (toI (moreB 0#32 l)) := by
  have := more_eq 0#32 l h
  exact this

/-! ### the reference's More -/
theorem ref_bits (l : List Int) (h : Bytes l) (hl : l.length ≤ 9223372036854775807) (r x : R) (i : Int) (h0 : 0 ≤ i) (h1 : i < l.length) (hx : rd l i = toI x) (hx8 : x >>> 8 = 0#32) (d : Nat) : ∀ (k m : Nat) (q : R), m + d = 8 → q ^^^ (x >>> m) = dk m (r ^^^ x) → d < k →
    encoreref01_More.l1 k l (toI q) i m = encoreref01_More.l0 (k - d - 1) l (toI (dk 8 (r ^^^ x))) (i + 1) := by
  induction d with
  | zero =>
    intro k m q hm hq hk
    obtain ⟨k, rfl⟩ : ∃ n, k = n + 1 := ⟨k - 1, by omega⟩
    obtain rfl : m = 8 := by omega
    simp only [encoreref01_More.l1]
    rw [if_neg (by omega), show wrap64 (i + 1) = i + 1 by unfold wrap64; omega]
    rw [hx8] at hq
    rw [← hq]
    simp
  | succ d ih =>
    intro k m q hm hq hk
    obtain ⟨k, rfl⟩ : ∃ n, k = n + 1 := ⟨k - 1, by omega⟩
    simp only [encoreref01_More.l1]
    have hs : shr .u32 ((rd l i) % 4294967296) m = toI (x >>> m) := by
      rw [hx, Int.emod_eq_of_lt (toI_range x).1 (toI_range x).2]
      show toI x / 2 ^ min ((m : Int).toNat) 32 = _
      rw [Int.toNat_natCast, show min m 32 = m by omega, toI_shr]
    rw [if_pos (by omega), if_pos h0, if_pos h1, if_pos (by omega), hs, rdn_bit]
    simp only [Option.bind_some]
    rw [show wrap64 ((m : Int) + 1) = ((m + 1 : Nat) : Int) by unfold wrap64; omega]
    rw [ih k (m + 1) _ (by omega) ?_ (by omega)]
    · congr 1
      omega
    · have h2 : dk (m + 1) (r ^^^ x) = down (q ^^^ (x >>> m)) := by rw [hq]; rfl
      rw [h2]
      unfold down
      rw [BitVec.ushiftRight_xor_distrib, ← BitVec.shiftRight_add]
      ac_rfl
theorem byte_small (x : Int) (h0 : 0 ≤ x) (h1 : x < 256) : (BitVec.ofInt 32 x : R) >>> 8 = 0#32 := by
  apply toI_inj
  rw [← toI_shr, toI_ofInt x h0 (by omega)]
  show x / 2 ^ 8 = 0
  omega
theorem ref_loop (l : List Int) (h : Bytes l) (hl : l.length ≤ 140737488355328) (d : Nat) : ∀ (k i : Nat) (r : R), i + d = l.length → 10 * d < k →
    encoreref01_More.l0 k l (toI r) i = some (toI (~~~ ((l.drop i).foldl bstep r))) := by
  induction d with
  | zero =>
    intro k i r hi hk
    obtain ⟨k, rfl⟩ : ∃ n, k = n + 1 := ⟨k - 1, by omega⟩
    simp only [encoreref01_More.l0]
    rw [if_neg (by omega), List.drop_eq_nil_of_le (by omega)]
    have := flip_toI r
    unfold flip32 at this
    have hm : IntKind.u32.max = 4294967295 := by decide
    rw [hm] at this
    have hm2 : (4294967295 : Int) = toI 0xffffffff#32 := rfl
    rw [hm2, bits_xor, BitVec.xor_comm, ← bits_xor, ← hm2, this]
    rfl
  | succ d ih =>
    intro k i r hi hk
    obtain ⟨k, rfl⟩ : ∃ n, k = n + 1 := ⟨k - 1, by omega⟩
    simp only [encoreref01_More.l0]
    rw [if_pos (by omega)]
    have hlt : i < l.length := by omega
    have hx : rd l (i : Int) = l[i] := by simp [rd, hlt]
    have hb := h l[i] (List.getElem_mem hlt)
    have hx2 : rd l (i : Int) = toI (BitVec.ofInt 32 l[i]) := by rw [hx, toI_ofInt _ hb.1 (by omega)]
    rw [show (0 : Int) = ((0 : Nat) : Int) from rfl, ref_bits l h (by omega) r (BitVec.ofInt 32 l[i]) i (by omega) (by omega) hx2 (byte_small _ hb.1 hb.2) 8 k 0 r (by omega) (by simp [dk]) (by omega)]
    rw [show ((i : Int) + 1) = ((i + 1 : Nat) : Int) by omega, ih _ (i + 1) _ (by omega) (by omega)]
    rw [List.drop_eq_getElem_cons hlt]
    rfl
theorem ref_more_eq (s : R) (l : List Int) (h : Bytes l) (hl : l.length ≤ 140737488355328) (k : Nat) (hk : 10 * l.length < k) : encoreref01_More.f k (toI s) l = some (toI (moreB s l)) := by
  unfold encoreref01_More.f moreB
  have h2 : Go.bits .xor .u32 (toI s) 4294967295 = toI (~~~ s) := by
    rw [← flip_toI]
    unfold flip32
    have hm : IntKind.u32.max = toI 0xffffffff#32 := by decide
    have hm2 : (4294967295 : Int) = toI 0xffffffff#32 := rfl
    rw [hm, hm2, bits_xor, bits_xor, BitVec.xor_comm]
  rw [h2]
  exact ref_loop l h hl l.length k 0 _ (by omega) hk
theorem ref_of_eq (l : List Int) (h : Bytes l) (hl : l.length ≤ 140737488355328) (k : Nat) (hk : 10 * l.length < k) : encoreref01_Of.f k l = some (toI (moreB 0#32 l)) := by
  have := ref_more_eq 0#32 l h hl k hk
  have h0 : toI 0#32 = 0 := rfl
  rw [h0] at this
  simp [encoreref01_Of.f, this]

end Go.Proofs.Ytgfjijfjlbjajaa.CrcLink

/- One bit of a row that is turned turns its sum. No condition but a row of bytes. -/
namespace Go.Proofs.Ytgfjijfjlbjajaa.CrcFlip
open Go.RowKit Go.Proofs.YtgfjijfjlbjajaaW.PrintWords Go.Proofs.Ytgfjijfjlbjajaa.Base Go.Proofs.Ytgfjijfjlbjajaa.Ext Go.Proofs.Ytgfjijfjlbjajaa.CrcMath Go.Proofs.Ytgfjijfjlbjajaa.CrcLink
set_option linter.unusedVariables false
set_option linter.unusedSimpArgs false

/-! ### one bit -/
theorem down_e (i : Nat) (h : i + 1 < 32) : down (e (i + 1)) = e i := by
  have : ∀ i, i < 31 → down (e (i + 1)) = e i := by decide +kernel
  exact this i (by omega)
theorem dk_e (i : Nat) (h : i < 32) : dk i (e i) = 1#32 := by
  have : ∀ i, i < 32 → dk i (e i) = 1#32 := by decide +kernel
  exact this i h
theorem flip_byte : ∀ x s : Nat, x < 256 → s < 8 → BitVec.ofInt 32 ((x ^^^ 2 ^ s : Nat) : Int) = BitVec.ofInt 32 (x : Int) ^^^ e s := by
  intro x s hx hs
  apply toI_inj
  have h1 : x ^^^ 2 ^ s < 256 := Nat.xor_lt_two_pow (n := 8) hx (by
    have : 2 ^ s ≤ 2 ^ 7 := Nat.pow_le_pow_right (by omega) (by omega)
    omega)
  rw [toI_ofInt _ (by omega) (by omega)]
  unfold toI
  rw [BitVec.toNat_xor]
  have h2 : (BitVec.ofInt 32 (x : Int) : R).toNat = x := by
    have := toI_ofInt (x : Int) (by omega) (by omega)
    unfold toI at this
    omega
  have h3 : (e s).toNat = 2 ^ s := by
    have : ∀ s, s < 8 → (e s).toNat = 2 ^ s := by decide
    exact this s hs
  rw [h2, h3]
theorem bstep_flip (r : R) (x s : Nat) (hx : x < 256) (hs : s < 8) : bstep r ((x ^^^ 2 ^ s : Nat) : Int) = bstep r x ^^^ dk 8 (e s) := by
  unfold bstep
  rw [flip_byte x s hx hs, show r ^^^ (BitVec.ofInt 32 (x : Int) ^^^ e s) = (r ^^^ BitVec.ofInt 32 (x : Int)) ^^^ e s by ac_rfl, dk_xor]
theorem fold_flip (c : List Int) (q s : Nat) (x : Nat) (hq : q < c.length) (hx : rd c q = x) (hx8 : x < 256) (hs : s < 8) (r : R) :
    (c.set q ((x ^^^ 2 ^ s : Nat) : Int)).foldl bstep r = c.foldl bstep r ^^^ dk (8 * c.length - (8 * q + s)) 1#32 := by
  have hc : c = c.take q ++ (x : Int) :: c.drop (q + 1) := by
    have h1 : c[q] = (x : Int) := by rw [← hx]; simp [rd, hq]
    rw [← h1, ← List.drop_eq_getElem_cons hq, List.take_append_drop]
  have hset : c.set q ((x ^^^ 2 ^ s : Nat) : Int) = c.take q ++ ((x ^^^ 2 ^ s : Nat) : Int) :: c.drop (q + 1) := by
    rw [List.set_eq_take_append_cons_drop, if_pos hq]
  rw [hset]
  conv => rhs; rw [hc]
  simp only [List.foldl_append, List.foldl_cons]
  rw [bstep_flip _ x s hx8 hs, fold_xor]
  congr 1
  rw [← dk_add, List.length_drop]
  have hl : (c.take q ++ (x : Int) :: c.drop (q + 1)).length = c.length := by rw [← hc]
  rw [hl]
  have h2 : 8 * (c.length - (q + 1)) + 8 = (8 * c.length - (8 * q + s)) + s := by omega
  rw [h2, dk_add, dk_e s (by omega)]
theorem not_xor (a b : R) : ~~~ (a ^^^ b) = ~~~ a ^^^ b := by rw [← BitVec.allOnes_xor (x := a ^^^ b), ← BitVec.allOnes_xor (x := a), BitVec.xor_assoc]
theorem more_turn (c : List Int) (q s x : Nat) (hq : q < c.length) (hx : rd c q = x) (hx8 : x < 256) (hs : s < 8) : moreB 0#32 (c.set q ((x ^^^ 2 ^ s : Nat) : Int)) ≠ moreB 0#32 c := by
  intro h
  have hfl := fold_flip c q s x hq hx hx8 hs (~~~ 0#32)
  have e1 : moreB 0#32 (c.set q ((x ^^^ 2 ^ s : Nat) : Int)) = moreB 0#32 c ^^^ dk (8 * c.length - (8 * q + s)) 1#32 := by
    unfold moreB
    rw [hfl, not_xor]
  rw [e1] at h
  have h0 : dk (8 * c.length - (8 * q + s)) 1#32 = 0#32 := by
    have := congrArg (fun z => moreB 0#32 c ^^^ z) h
    simpa [← BitVec.xor_assoc] using this
  exact absurd (dk_inj_zero _ _ h0) (by decide)
end Go.Proofs.Ytgfjijfjlbjajaa.CrcFlip
