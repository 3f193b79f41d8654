/- Of three rows put over each other the sum is the three sums put over each other, for any three rows. No condition beyond the row's own. -/
import Derived.Test.YtijhhnclhgfnlaaLaws3
import Derived.Test.YtijhhnclhgfnlaaCrcLink
import Derived.Test.YtijhhnclhgfnlaaCrcProps
import Derived.Laws.BitsAllLaws
namespace Go.Proofs.Ytijhhnclhgfnlaa.Pure
open Go.RowKit Go.Proofs.Ytijhhnclhgfnlaa.Laws Go.Proofs.YtijhhnclhgfnlaaW.PrintWords Go.Proofs.YtijhhnclhgfnlaaW.PrintLast Go.Proofs.YtijhhnclhgfnlaaW.PrintMore Go.Proofs.Ytijhhnclhgfnlaa.Base Go.Proofs.Ytijhhnclhgfnlaa.Ext Go.Proofs.Ytijhhnclhgfnlaa.CrcMath Go.Proofs.Ytijhhnclhgfnlaa.CrcLink
set_option linter.unusedVariables false
set_option linter.unusedSimpArgs false

def x3 (a b c : Int) : Int := Go.bits .xor .u8 (Go.bits .xor .u8 a b) c
def ov (a b c : List Int) : Nat → List Int
  | 0 => []
  | i + 1 => ov a b c i ++ [x3 (rd a i) (rd b i) (rd c i)]
theorem ov_len (a b c : List Int) (i : Nat) : (ov a b c i).length = i := by
  induction i with
  | zero => rfl
  | succ i ih => simp [ov, ih]
theorem x3_nat (x y z : Nat) (hx : x < 256) (hy : y < 256) (hz : z < 256) : x3 x y z = ((x ^^^ y ^^^ z : Nat) : Int) ∧ x ^^^ y ^^^ z < 256 := by
  have h1 : x ^^^ y < 256 := Nat.xor_lt_two_pow (n := 8) hx hy
  have h2 : x ^^^ y ^^^ z < 256 := Nat.xor_lt_two_pow (n := 8) h1 hz
  refine ⟨?_, h2⟩
  unfold x3
  rw [u8_xor_nat x y hx hy, u8_xor_nat _ z h1 hz]
theorem ofInt_nat (x : Nat) (h : x < 256) : (BitVec.ofInt 32 (x : Int) : R).toNat = x := by
  have := toI_ofInt (x : Int) (by omega) (by omega)
  unfold toI at this
  omega
theorem x3_bits (x y z : Nat) (hx : x < 256) (hy : y < 256) (hz : z < 256) : (BitVec.ofInt 32 (x3 x y z) : R) = BitVec.ofInt 32 (x : Int) ^^^ BitVec.ofInt 32 (y : Int) ^^^ BitVec.ofInt 32 (z : Int) := by
  obtain ⟨h1, h2⟩ := x3_nat x y z hx hy hz
  apply BitVec.eq_of_toNat_eq
  rw [h1, BitVec.toNat_xor, BitVec.toNat_xor, ofInt_nat _ h2, ofInt_nat x hx, ofInt_nat y hy, ofInt_nat z hz]
theorem rd_nat {l : List Int} (h : Bytes l) (i : Nat) (hi : i < l.length) : ∃ x : Nat, x < 256 ∧ rd l (i : Int) = x ∧ l[i] = x := by
  have hb := h l[i] (List.getElem_mem hi)
  obtain ⟨x, hx⟩ := Int.eq_ofNat_of_zero_le hb.1
  exact ⟨x, by omega, by rw [← hx]; simp [rd, hi], hx⟩
theorem over_fold (a b c : List Int) (ha : Bytes a) (hb : Bytes b) (hc : Bytes c) (i : Nat) (h1 : i ≤ a.length) (h2 : i ≤ b.length) (h3 : i ≤ c.length) (r s t : R) :
    (ov a b c i).foldl bstep (r ^^^ s ^^^ t) = (a.take i).foldl bstep r ^^^ (b.take i).foldl bstep s ^^^ (c.take i).foldl bstep t := by
  induction i with
  | zero => rfl
  | succ i ih =>
    obtain ⟨x, hx, ex, fx⟩ := rd_nat ha i (by omega)
    obtain ⟨y, hy, ey, fy⟩ := rd_nat hb i (by omega)
    obtain ⟨z, hz, ez, fz⟩ := rd_nat hc i (by omega)
    simp only [ov]
    rw [List.take_succ_eq_append_getElem (show i < a.length by omega), List.take_succ_eq_append_getElem (show i < b.length by omega), List.take_succ_eq_append_getElem (show i < c.length by omega)]
    rw [List.foldl_append, List.foldl_append, List.foldl_append, List.foldl_append, ih (by omega) (by omega) (by omega), ex, ey, ez, fx, fy, fz]
    simp only [List.foldl_cons, List.foldl_nil]
    unfold bstep
    rw [x3_bits x y z hx hy hz, ← dk_xor, ← dk_xor]
    congr 1
    ac_rfl
theorem over_bytes (a b c : List Int) (ha : Bytes a) (hb : Bytes b) (hc : Bytes c) (i : Nat) (h1 : i ≤ a.length) (h2 : i ≤ b.length) (h3 : i ≤ c.length) : Bytes (ov a b c i) := by
  induction i with
  | zero => intro x hx; simp [ov] at hx
  | succ i ih =>
    obtain ⟨x, hx, ex, _⟩ := rd_nat ha i (by omega)
    obtain ⟨y, hy, ey, _⟩ := rd_nat hb i (by omega)
    obtain ⟨z, hz, ez, _⟩ := rd_nat hc i (by omega)
    intro q hq
    simp only [ov] at hq
    rcases List.mem_append.1 hq with h | h
    · exact ih (by omega) (by omega) (by omega) q h
    · rw [ex, ey, ez] at h
      obtain ⟨e1, e2⟩ := x3_nat x y z hx hy hz
      simp only [List.mem_singleton] at h
      rw [h, e1]
      omega
theorem bytes_take {l : List Int} (h : Bytes l) (n : Nat) : Bytes (l.take n) := fun x hx => h x (List.mem_of_mem_take hx)
theorem not_three (a b c : R) : ~~~ (a ^^^ b ^^^ c) = ~~~ a ^^^ ~~~ b ^^^ ~~~ c := by
  rw [← BitVec.allOnes_xor (x := a ^^^ b ^^^ c), ← BitVec.allOnes_xor (x := a), ← BitVec.allOnes_xor (x := b), ← BitVec.allOnes_xor (x := c)]
  have h : (BitVec.allOnes 32 : R) = BitVec.allOnes 32 ^^^ BitVec.allOnes 32 ^^^ BitVec.allOnes 32 := by decide
  conv => lhs; rw [h]
  ac_rfl
theorem over_more (a b c : List Int) (ha : Bytes a) (hb : Bytes b) (hc : Bytes c) (i : Nat) (h1 : i ≤ a.length) (h2 : i ≤ b.length) (h3 : i ≤ c.length) :
    moreB 0#32 (ov a b c i) = moreB 0#32 (a.take i) ^^^ moreB 0#32 (b.take i) ^^^ moreB 0#32 (c.take i) := by
  unfold moreB
  rw [← not_three, ← over_fold a b c ha hb hc i h1 h2 h3]
  rw [show (~~~ 0#32 ^^^ ~~~ 0#32 ^^^ ~~~ 0#32 : R) = ~~~ 0#32 by decide]
theorem over_end (a b c : List Int) (ha : Bytes a) (hb : Bytes b) (hc : Bytes c) (n : Nat) (h1 : n ≤ a.length) (h2 : n ≤ b.length) (h3 : n ≤ c.length) (k : Nat) :
    encorelaw01_CrcOver.l0 (k + 1) a b c n (ov a b c n) n = some true := by
  simp only [encorelaw01_CrcOver.l0]
  rw [if_neg (by omega), of_eq _ (over_bytes a b c ha hb hc n h1 h2 h3), Option.bind_some, if_pos (by omega), if_pos (by omega), Int.toNat_natCast, of_eq _ (bytes_take ha n), Option.bind_some, if_pos (by omega), of_eq _ (bytes_take hb n), Option.bind_some,
    if_pos (by omega), of_eq _ (bytes_take hc n), Option.bind_some, bits_xor, bits_xor, over_more a b c ha hb hc n h1 h2 h3, if_pos rfl]
  rfl
theorem over_loop (a b c : List Int) (ha : Bytes a) (hb : Bytes b) (hc : Bytes c) (n : Nat) (h1 : n ≤ a.length) (h2 : n ≤ b.length) (h3 : n ≤ c.length) (hn : n ≤ 140737488351232) (k : Nat) (d : Nat) : ∀ i, i + d = n →
    encorelaw01_CrcOver.l0 (k + 1 + d) a b c n (ov a b c i) i = some true := by
  induction d with
  | zero =>
    intro i hi
    obtain rfl : i = n := by omega
    exact over_end a b c ha hb hc i h1 h2 h3 k
  | succ d ih =>
    intro i hi
    rw [show k + 1 + (d + 1) = (k + 1 + d) + 1 by omega]
    simp only [encorelaw01_CrcOver.l0]
    rw [if_pos (by omega), if_pos (by omega), if_pos (by omega), if_pos (by omega), if_pos (by omega), ov_len, if_pos (by omega), show wrap64 ((i : Int) + 1) = ((i + 1 : Nat) : Int) by unfold wrap64; omega]
    exact ih (i + 1) (by omega)
theorem mn_nat (x y : Nat) : mn (x : Int) (y : Int) = ((min x y : Nat) : Int) := by
  unfold mn
  split <;> omega
theorem CrcOver : encorelaw01_CrcOver.Pure := by
  intro l0 l1 l2 _ h0 w0 _ h1 w1 _ h2 w2
  obtain ⟨k, hk⟩ : ∃ k : Nat, k = k := ⟨0, rfl⟩
  have h := over_loop l0 l1 l2 (bytes_of_wf w0) (bytes_of_wf w1) (bytes_of_wf w2) (min (min l0.length l1.length) l2.length) (by omega) (by omega) (by omega) (by omega) k (min (min l0.length l1.length) l2.length) 0 (by omega)
  refine ⟨k + 1 + min (min l0.length l1.length) l2.length, ?_⟩
  unfold encorelaw01_CrcOver.f
  rw [mn_nat, mn_nat]
  exact h
end Go.Proofs.Ytijhhnclhgfnlaa.Pure
