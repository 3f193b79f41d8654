/- The plain law of chapter 2's wholes: how many bytes follow, what a whole's bytes are, what is read of them. -/
import Derived.Test.YtpkkljlgggfmoaaBinWorks
import Derived.Lib.ItoaNum
namespace Go.Proofs.Ytpkkljlgggfmoaa.BinMath
open Go Go.RowKit Go.Proofs.YtpkkljlgggfmoaaW.PrintWords Go.Proofs.YtpkkljlgggfmoaaW.PrintMore Go.Proofs.Ytpkkljlgggfmoaa.Base Go.Proofs.Ytpkkljlgggfmoaa.Ext
set_option linter.unusedVariables false
set_option linter.unusedSimpArgs false

/-- each is a byte -/
def Bytes (l : List Int) : Prop := ∀ x ∈ l, 0 ≤ x ∧ x < 256
theorem bytes_of_wf {l : List Int} (h : ∀ x ∈ l, (Lit.int .u8 x).wf = true) : Bytes l := fun x hx => by
  have := h x hx
  simp [Lit.wf, IntKind.min, IntKind.max, IntKind.signed, IntKind.bits] at this
  omega
theorem i64_of_wf {x : Int} (h : (Lit.int .i64 x).wf = true) : -9223372036854775808 ≤ x ∧ x ≤ 9223372036854775807 := by
  simp [Lit.wf, IntKind.min, IntKind.max, IntKind.signed, IntKind.bits] at h
  omega
theorem Bytes.at_ {l : List Int} (h : Bytes l) (i : Int) : 0 ≤ rd l i ∧ rd l i < 256 := by
  unfold rd
  rw [List.getD_eq_getElem?_getD]
  cases hx : l[i.toNat]? with
  | none => simp
  | some x => exact h x (List.mem_of_getElem? hx)
theorem Bytes.drop {l : List Int} (h : Bytes l) (n : Nat) : Bytes (l.drop n) := fun x hx => h x (List.mem_of_mem_drop hx)
theorem Bytes.take {l : List Int} (h : Bytes l) (n : Nat) : Bytes (l.take n) := fun x hx => h x (List.mem_of_mem_take hx)

/-! ### bits of wholes of 64 -/
theorem wrap_u64 (n : Int) (h0 : 0 ≤ n) (h : n < 18446744073709551616) : IntKind.u64.wrap n = n := by
  simp only [IntKind.wrap]
  simp [IntKind.bits, IntKind.signed]
  omega
theorem wrap_u64' (n : Int) : IntKind.u64.wrap n = n % 18446744073709551616 := by
  simp only [IntKind.wrap]
  simp [IntKind.bits, IntKind.signed]
theorem ofInt_nat64 (n : Nat) (h : n < 18446744073709551616) : (BitVec.ofInt 64 (n : Int)).toNat = n := by
  rw [BitVec.toNat_ofInt]
  omega
theorem or64 (a b : Nat) (ha : a < 18446744073709551616) (hb : b < 18446744073709551616) : bits .or .u64 (a : Int) (b : Int) = ((a ||| b : Nat) : Int) := by
  show IntKind.u64.wrap ((BitVec.ofInt 64 (a : Int) ||| BitVec.ofInt 64 (b : Int)).toNat : Int) = _
  have h := (BitVec.ofInt 64 (a : Int) ||| BitVec.ofInt 64 (b : Int)).isLt
  rw [wrap_u64 _ (by omega) (by omega), BitVec.toNat_or, ofInt_nat64 a ha, ofInt_nat64 b hb]
theorem and64 (a b : Nat) (ha : a < 18446744073709551616) (hb : b < 18446744073709551616) : bits .and .u64 (a : Int) (b : Int) = ((a &&& b : Nat) : Int) := by
  show IntKind.u64.wrap ((BitVec.ofInt 64 (a : Int) &&& BitVec.ofInt 64 (b : Int)).toNat : Int) = _
  have h := (BitVec.ofInt 64 (a : Int) &&& BitVec.ofInt 64 (b : Int)).isLt
  rw [wrap_u64 _ (by omega) (by omega), BitVec.toNat_and, ofInt_nat64 a ha, ofInt_nat64 b hb]
theorem xor64 (a b : Nat) (ha : a < 18446744073709551616) (hb : b < 18446744073709551616) : bits .xor .u64 (a : Int) (b : Int) = ((a ^^^ b : Nat) : Int) := by
  show IntKind.u64.wrap ((BitVec.ofInt 64 (a : Int) ^^^ BitVec.ofInt 64 (b : Int)).toNat : Int) = _
  have h := (BitVec.ofInt 64 (a : Int) ^^^ BitVec.ofInt 64 (b : Int)).isLt
  rw [wrap_u64 _ (by omega) (by omega), BitVec.toNat_xor, ofInt_nat64 a ha, ofInt_nat64 b hb]
theorem xor_ones (a : Nat) (ha : a < 18446744073709551616) : a ^^^ 18446744073709551615 = 18446744073709551615 - a := by
  have h : (BitVec.ofNat 64 a ^^^ BitVec.allOnes 64) = ~~~ (BitVec.ofNat 64 a) := by rw [BitVec.xor_allOnes]
  have h2 := congrArg BitVec.toNat h
  rw [BitVec.toNat_xor, BitVec.toNat_not, BitVec.toNat_allOnes, BitVec.toNat_ofNat] at h2
  rw [show a % 2 ^ 64 = a by omega] at h2
  exact h2

/-! ### how many bytes follow -/
theorem fol_spec (v : Nat) (hv : v < 18446744073709551616) : (fol v < 8 → v < 2 ^ (7 * (fol v + 1))) ∧ (0 < fol v → 2 ^ (7 * fol v) ≤ v) := by
  by_cases h0 : v = 0
  · subst h0
    have : fol 0 = 0 := by decide
    rw [this]
    simp
  · obtain ⟨h1, h2, h3⟩ := Lib.bitLenAux_bounds 64 v (by omega) h0
    have e : Lib.bitLen v = Lib.bitLenAux 64 v := rfl
    unfold fol
    rw [e]
    generalize Lib.bitLenAux 64 v = L at h1 h2 h3
    refine ⟨fun h => ?_, fun h => ?_⟩
    · refine Nat.lt_of_lt_of_le h3 (Nat.pow_le_pow_right (by decide) ?_)
      omega
    · refine Nat.le_trans (Nat.pow_le_pow_right (by decide) ?_) h2
      omega
theorem fol_eq (v n : Nat) (hv : v < 18446744073709551616) (hn : n ≤ 8) (h1 : n < 8 → v < 2 ^ (7 * (n + 1))) (h2 : 0 < n → 2 ^ (7 * n) ≤ v) : fol v = n := by
  obtain ⟨s1, s2⟩ := fol_spec v hv
  have hf := fol_le v
  rcases Nat.lt_trichotomy (fol v) n with h | h | h
  · have a := s1 (by omega)
    have b := h2 (by omega)
    have := Nat.pow_le_pow_right (n := 2) (by decide) (show 7 * (fol v + 1) ≤ 7 * n by omega)
    omega
  · exact h
  · have a := h1 (by omega)
    have b := s2 (by omega)
    have := Nat.pow_le_pow_right (n := 2) (by decide) (show 7 * (n + 1) ≤ 7 * fol v by omega)
    omega
theorem lt_fol (v m : Nat) (hv : v < 18446744073709551616) (hm : m < 8) : 2 ^ (7 * (m + 1)) ≤ v ↔ m < fol v := by
  obtain ⟨s1, s2⟩ := fol_spec v hv
  constructor
  · intro h
    apply Nat.lt_of_not_le
    intro hle
    have a := s1 (by omega)
    have := Nat.pow_le_pow_right (n := 2) (by decide) (show 7 * (fol v + 1) ≤ 7 * (m + 1) by omega)
    omega
  · intro h
    have b := s2 (by omega)
    have := Nat.pow_le_pow_right (n := 2) (by decide) (show 7 * (m + 1) ≤ 7 * fol v by omega)
    omega
/-- what is left for the first byte -/
theorem top_lt (v : Nat) (hv : v < 18446744073709551616) : v / 256 ^ fol v < 2 ^ (7 - fol v) := by
  obtain ⟨s1, _⟩ := fol_spec v hv
  have hf := fol_le v
  rw [Nat.div_lt_iff_lt_mul (Nat.pow_pos (by decide)), show (256 : Nat) = 2 ^ 8 from rfl, ← Nat.pow_mul, ← Nat.pow_add]
  by_cases h8 : fol v = 8
  · rw [h8]
    exact hv
  · rw [show 7 - fol v + 8 * fol v = 7 * (fol v + 1) by omega]
    exact s1 (by omega)

/-! ### the first byte -/
/-- the first byte, of what is left for it -/
def hb (n : Nat) (y : Int) : Int := bits .or .u8 y (bits .xor .u8 IntKind.u8.max (255 / 2 ^ n))
theorem headI_eq (v : Nat) (hv : v < 18446744073709551616) : headI (fol v) v = hb (fol v) ((v / 256 ^ fol v : Nat) : Int) := by
  have h := top_lt v hv
  have h2 : 2 ^ (7 - fol v) ≤ 2 ^ 7 := Nat.pow_le_pow_right (by decide) (by omega)
  unfold headI hb
  rw [Nat.mod_eq_of_lt (by omega)]
theorem hb_all : ∀ n : Fin 9, ∀ y : Fin 128, y.val < 2 ^ (7 - n.val) → lead (hb n.val (y.val : Int)) = n.val ∧ (hb n.val (y.val : Int)).toNat &&& (127 / 2 ^ n.val) = y.val ∧ 0 ≤ hb n.val (y.val : Int) ∧ hb n.val (y.val : Int) < 256 := by decide +kernel
theorem hb_spec (n y : Nat) (hn : n ≤ 8) (hy : y < 2 ^ (7 - n)) : lead (hb n y) = n ∧ (hb n y).toNat &&& (127 / 2 ^ n) = y ∧ 0 ≤ hb n y ∧ hb n y < 256 := by
  have h2 : 2 ^ (7 - n) ≤ 2 ^ 7 := Nat.pow_le_pow_right (by decide) (by omega)
  exact hb_all ⟨n, by omega⟩ ⟨y, by omega⟩ hy
theorem lead_all : ∀ x : Fin 256, hb (lead (x.val : Int)) ((x.val &&& (127 / 2 ^ lead (x.val : Int)) : Nat) : Int) = (x.val : Int) ∧ x.val &&& (127 / 2 ^ lead (x.val : Int)) < 2 ^ (7 - lead (x.val : Int)) := by decide +kernel
theorem lead_spec (x : Int) (h0 : 0 ≤ x) (h1 : x < 256) : hb (lead x) ((x.toNat &&& (127 / 2 ^ lead x) : Nat) : Int) = x ∧ x.toNat &&& (127 / 2 ^ lead x) < 2 ^ (7 - lead x) := by
  have h := lead_all ⟨x.toNat, by omega⟩
  simp only [show ((x.toNat : Nat) : Int) = x by omega] at h
  exact h
/-- the heads stand as how many follow -/
theorem hb_val : ∀ n : Fin 9, ∀ y : Fin 128, y.val < 2 ^ (7 - n.val) → hb n.val (y.val : Int) = ((256 - 2 ^ (8 - n.val) + y.val : Nat) : Int) := by decide +kernel
theorem hb_is (n y : Nat) (hn : n ≤ 8) (hy : y < 2 ^ (7 - n)) : hb n y = ((256 - 2 ^ (8 - n) + y : Nat) : Int) := by
  have h2 : 2 ^ (7 - n) ≤ 2 ^ 7 := Nat.pow_le_pow_right (by decide) (by omega)
  have := hb_val ⟨n, by omega⟩ ⟨y, by omega⟩ hy
  exact this
theorem hb_up (n m y z : Nat) (h : n < m) (hm : m ≤ 8) (hy : y < 2 ^ (7 - n)) (hz : z < 2 ^ (7 - m)) : hb n y < hb m z := by
  rw [hb_is n y (by omega) hy, hb_is m z hm hz]
  have h1 : 2 ^ (8 - n) = 2 * 2 ^ (7 - n) := by rw [show 8 - n = 7 - n + 1 by omega, Nat.pow_succ]; omega
  have h2 : 2 ^ (8 - m) ≤ 2 ^ (7 - n) := Nat.pow_le_pow_right (by decide) (by omega)
  have h3 : 2 ^ (8 - n) ≤ 2 ^ 8 := Nat.pow_le_pow_right (by decide) (by omega)
  omega
theorem hb_same (n y z : Nat) (hn : n ≤ 8) (hy : y < 2 ^ (7 - n)) (hz : z < 2 ^ (7 - n)) (h : y < z) : hb n y < hb n z := by
  rw [hb_is n y hn hy, hb_is n z hn hz]
  omega

/-! ### what is read -/
/-- the whole behind the first byte, plainly -/
def vN (l : List Int) (n : Nat) : Nat → Nat
  | 0 => (rd l 0).toNat &&& (127 / 2 ^ n)
  | k + 1 => vN l n k * 256 + (rd l ((k + 1 : Nat) : Int)).toNat
theorem vN_lt {l : List Int} (h : Bytes l) (n : Nat) (hn : (rd l 0).toNat &&& (127 / 2 ^ n) < 2 ^ (7 - n)) (k : Nat) : vN l n k < 2 ^ (7 - n) * 256 ^ k := by
  induction k with
  | zero => simpa [vN] using hn
  | succ k ih =>
    have hx := h.at_ ((k + 1 : Nat) : Int)
    simp only [vN]
    rw [Nat.pow_succ, ← Nat.mul_assoc]
    omega
theorem room (n k : Nat) (hn : n ≤ 8) (hk : k ≤ n) : 2 ^ (7 - n) * 256 ^ k ≤ 18446744073709551616 := by
  have h1 : 256 ^ k ≤ 256 ^ n := Nat.pow_le_pow_right (by decide) hk
  refine Nat.le_trans (Nat.mul_le_mul_left _ h1) ?_
  have : ∀ n : Fin 9, 2 ^ (7 - n.val) * 256 ^ n.val ≤ 18446744073709551616 := by decide
  exact this ⟨n, by omega⟩
theorem div127 (n : Nat) : ((127 : Int) / 2 ^ n) = ((127 / 2 ^ n : Nat) : Int) := by norm_cast
set_option maxRecDepth 4000 in
theorem rv_eq {l : List Int} (h : Bytes l) (n : Nat) (hn : n ≤ 8) (hy : (rd l 0).toNat &&& (127 / 2 ^ n) < 2 ^ (7 - n)) (k : Nat) (hk : k ≤ n) : rv l n k = (vN l n k : Int) := by
  induction k with
  | zero =>
    have hx := h.at_ 0
    simp only [rv, vN]
    rw [wrap_u64 _ hx.1 (by omega), div127]
    have e : rd l 0 = ((rd l 0).toNat : Int) := by omega
    have e2 := and64 (rd l 0).toNat (127 / 2 ^ n) (by omega) (by have := Nat.div_le_self 127 (2 ^ n); omega)
    rw [← e] at e2
    exact e2
  | succ k ih =>
    have hx := h.at_ ((k + 1 : Nat) : Int)
    have hl := vN_lt h n hy (k + 1)
    have hr := room n (k + 1) hn hk
    simp only [vN] at hl
    simp only [rv, vN]
    rw [ih (by omega), wrap_u64 _ hx.1 (by omega), wrap_u64 _ (by omega) (by omega)]
    generalize rd l ((k + 1 : Nat) : Int) = x at *
    obtain ⟨y, rfl⟩ := Int.eq_ofNat_of_zero_le hx.1
    rw [Int.toNat_natCast] at *
    rw [show ((vN l n k : Int) * 256) = ((vN l n k * 256 : Nat) : Int) by push_cast; rfl, or64 _ _ (by omega) (by omega)]
    have := Nat.two_pow_add_eq_or_of_lt (i := 8) (b := y) (by omega) (vN l n k)
    rw [show (2 : Nat) ^ 8 = 256 from rfl] at this
    rw [Nat.mul_comm (vN l n k) 256, ← this]
/-- its digits are the bytes -/
theorem vN_div {l : List Int} (h : Bytes l) (n k j : Nat) (hj : j ≤ k) : vN l n k / 256 ^ j = vN l n (k - j) := by
  induction j with
  | zero => simp
  | succ j ih =>
    rw [Nat.pow_succ, ← Nat.div_div_eq_div_mul, ih (by omega)]
    obtain ⟨m, hm⟩ : ∃ m, k - j = m + 1 := ⟨k - j - 1, by omega⟩
    rw [show k - (j + 1) = m by omega, hm]
    have hx := h.at_ ((m + 1 : Nat) : Int)
    simp only [vN]
    omega
theorem vN_digit {l : List Int} (h : Bytes l) (n k j : Nat) (hj : j < k) : ((vN l n k / 256 ^ j % 256 : Nat) : Int) = rd l ((k - j : Nat) : Int) := by
  rw [vN_div h n k j (by omega)]
  obtain ⟨m, hm⟩ : ∃ m, k - j = m + 1 := ⟨k - j - 1, by omega⟩
  rw [hm]
  have hx := h.at_ ((m + 1 : Nat) : Int)
  simp only [vN]
  omega
theorem be_vN {l : List Int} (h : Bytes l) (n : Nat) (hl : n < l.length) (j : Nat) (hj : j ≤ n) : be j (vN l n n) = (l.drop (n - j + 1)).take j := by
  induction j with
  | zero => simp [be]
  | succ j ih =>
    simp only [be]
    rw [vN_digit h n n j (by omega), ih (by omega)]
    rw [show n - (j + 1) + 1 = n - j by omega]
    have hlt : n - j < l.length := by omega
    rw [List.drop_eq_getElem_cons hlt, List.take_succ_cons]
    congr 1
    simp [rd, List.getD_eq_getElem?_getD, hlt]
/-- what was read, written again, is what stood there -/
theorem again {l : List Int} (h : Bytes l) (hl : lead (rd l 0) < l.length) (hf : fol (vN l (lead (rd l 0)) (lead (rd l 0))) = lead (rd l 0)) :
    wrL (lead (rd l 0)) (vN l (lead (rd l 0)) (lead (rd l 0))) ++ l.drop (1 + lead (rd l 0)) = l := by
  have hx := h.at_ 0
  obtain ⟨s1, s2⟩ := lead_spec (rd l 0) hx.1 hx.2
  have hle := lead_le (rd l 0)
  generalize hn : lead (rd l 0) = n at *
  have hv : vN l n n < 18446744073709551616 := Nat.lt_of_lt_of_le (vN_lt h n s2 n) (room n n hle (Nat.le_refl _))
  have hh : headI n (vN l n n) = rd l 0 := by
    have := headI_eq (vN l n n) hv
    rw [hf] at this
    rw [this, vN_div h n n n (Nat.le_refl _), Nat.sub_self]
    simp only [vN]
    exact s1
  unfold wrL
  rw [hh, be_vN h n hl n (Nat.le_refl _), Nat.sub_self, Nat.zero_add]
  cases l with
  | nil => simp at hl
  | cons x l =>
    simp only [List.drop_succ_cons, List.drop_zero, rd, List.getD_cons_zero, List.cons_append]
    rw [show 1 + n = n + 1 by omega, List.drop_succ_cons]
    show x :: (l.take n ++ l.drop n) = x :: l
    rw [List.take_append_drop]

/-! ### what is written is read -/
theorem wrL_len (n v : Nat) : (wrL n v).length = n + 1 := by simp [wrL, be_len]
theorem be_bytes (n v : Nat) : Bytes (be n v) := by
  induction n with
  | zero => intro x hx; simp [be] at hx
  | succ n ih =>
    intro x hx
    simp only [be, List.mem_cons] at hx
    rcases hx with rfl | hx
    · omega
    · exact ih x hx
theorem wrL_bytes (v : Nat) (hv : v < 18446744073709551616) : Bytes (wrL (fol v) v) := by
  have hs := hb_spec (fol v) (v / 256 ^ fol v) (fol_le v) (top_lt v hv)
  intro x hx
  simp only [wrL, List.mem_cons] at hx
  rcases hx with rfl | hx
  · rw [headI_eq v hv]
    exact hs.2.2
  · exact be_bytes _ _ x hx
theorem rd_wrL0 (n v : Nat) (r : List Int) : rd (wrL n v ++ r) 0 = headI n v := by simp [wrL, rd]
theorem be_get (n v j : Nat) (hj : j < n) : (be n v)[j]? = some ((v / 256 ^ (n - 1 - j) % 256 : Nat) : Int) := by
  induction n generalizing j with
  | zero => omega
  | succ n ih =>
    simp only [be]
    cases j with
    | zero => simp
    | succ j =>
      rw [List.getElem?_cons_succ, ih j (by omega)]
      rw [show n + 1 - 1 - (j + 1) = n - 1 - j by omega]
theorem rd_wrL (n v j : Nat) (r : List Int) (hj : j < n) : rd (wrL n v ++ r) ((j + 1 : Nat) : Int) = ((v / 256 ^ (n - 1 - j) % 256 : Nat) : Int) := by
  have h := be_get n v j hj
  unfold rd
  rw [Int.toNat_natCast, List.getD_eq_getElem?_getD]
  simp only [wrL, List.cons_append, List.getElem?_cons_succ]
  rw [List.getElem?_append_left (by rw [be_len]; exact hj), h]
  rfl
theorem vN_wrL (v : Nat) (hv : v < 18446744073709551616) (r : List Int) (k : Nat) (hk : k ≤ fol v) : vN (wrL (fol v) v ++ r) (fol v) k = v / 256 ^ (fol v - k) := by
  have hs := hb_spec (fol v) (v / 256 ^ fol v) (fol_le v) (top_lt v hv)
  induction k with
  | zero =>
    simp only [vN]
    rw [rd_wrL0, headI_eq v hv]
    exact hs.2.1
  | succ k ih =>
    simp only [vN]
    rw [ih (by omega), rd_wrL _ _ _ _ (by omega)]
    rw [show fol v - 1 - k = fol v - (k + 1) by omega]
    obtain ⟨m, hm⟩ : ∃ m, fol v - k = m + 1 := ⟨fol v - k - 1, by omega⟩
    rw [hm, show fol v - (k + 1) = m by omega, Nat.pow_succ, ← Nat.div_div_eq_div_mul]
    omega
theorem lead_wrL (v : Nat) (hv : v < 18446744073709551616) (r : List Int) : lead (rd (wrL (fol v) v ++ r) 0) = fol v := by
  have hs := hb_spec (fol v) (v / 256 ^ fol v) (fol_le v) (top_lt v hv)
  rw [rd_wrL0, headI_eq v hv]
  exact hs.1
theorem rv_wrL (v : Nat) (hv : v < 18446744073709551616) (r : List Int) (hr : Bytes r) : rv (wrL (fol v) v ++ r) (fol v) (fol v) = (v : Int) := by
  have hb : Bytes (wrL (fol v) v ++ r) := fun x hx => by
    rcases List.mem_append.1 hx with h | h
    · exact wrL_bytes v hv x h
    · exact hr x h
  have hx := hb.at_ 0
  have s2 := (lead_spec _ hx.1 hx.2).2
  rw [lead_wrL v hv r] at s2
  rw [rv_eq hb (fol v) (fol_le v) s2 (fol v) (Nat.le_refl _), vN_wrL v hv r _ (Nat.le_refl _)]
  simp
/-- what was written, with anything behind it, is read as it was -/
theorem read_written (af : Int → Int × Int) (v : Nat) (hv : v < 18446744073709551616) (r : List Int) (hr : Bytes r) (h0 : (af v).2 = 0) : readF af (wrL (fol v) v ++ r) = ((af v).1, r, 0) := by
  have hl : (wrL (fol v) v ++ r).length = fol v + 1 + r.length := by rw [List.length_append, wrL_len]
  have hle := lead_wrL v hv r
  unfold readF
  rw [if_neg (by omega), hle, if_neg (by omega), rv_wrL v hv r hr]
  rw [if_neg (by simp), if_neg (by rw [h0]; simp)]
  rw [show 1 + fol v = (wrL (fol v) v).length by rw [wrL_len]; omega, List.drop_left]
/-- a beginning of it is too short -/
theorem read_short (af : Int → Int × Int) (v : Nat) (hv : v < 18446744073709551616) (r : List Int) (j : Nat) (hj : j ≤ fol v) : readF af ((wrL (fol v) v ++ r).take j) = (0, [], 3) := by
  have hl : ((wrL (fol v) v ++ r).take j).length = j := by rw [List.length_take, List.length_append, wrL_len]; omega
  unfold readF
  by_cases h0 : j = 0
  · rw [if_pos (by omega)]
  · have hle := lead_wrL v hv r
    have e : rd ((wrL (fol v) v ++ r).take j) 0 = rd (wrL (fol v) v ++ r) 0 := by
      simp [rd, List.getD_eq_getElem?_getD, List.getElem?_take, show 0 < j by omega]
    rw [if_neg (by omega), e, hle, if_pos (by omega)]
end Go.Proofs.Ytpkkljlgggfmoaa.BinMath
