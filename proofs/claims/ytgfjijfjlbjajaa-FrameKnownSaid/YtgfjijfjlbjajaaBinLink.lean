import Derived.Test.YtgfjijfjlbjajaaMid1
import Derived.Lib.ItoaNum
/- The plain law of chapter 2's wholes: how many bytes follow, what a whole's bytes are, what is read of them. -/
namespace Go.Proofs.Ytgfjijfjlbjajaa.BinMath
open Go Go.RowKit Go.Proofs.YtgfjijfjlbjajaaW.PrintWords Go.Proofs.YtgfjijfjlbjajaaW.PrintMore Go.Proofs.Ytgfjijfjlbjajaa.Base Go.Proofs.Ytgfjijfjlbjajaa.Ext
set_option linter.unusedVariables false
set_option linter.unusedSimpArgs false

/-- each is a byte -/
def Bytes (l : List Int) : Prop := ∀ x ∈ l, 0 ≤ x ∧ x < 256
theorem bytes_of_wf {l : List Int} (h : ∀ x ∈ l, (Lit.int .u8 x).wf = true) : Bytes l := fun x hx => by
  have := h x hx
  simp [Lit.wf, IntKind.min, IntKind.max, IntKind.signed, IntKind.bits] at this
  omega
theorem i64_of_wf {x : Int} (h : (Lit.int .i64 x).wf = true) : -9223372036854775808 ≤ x ∧ x ≤ 9223372036854775807 := by
  simp [Lit.wf, IntKind.min, IntKind.max, IntKind.signed, IntKind.bits] at h
  omega
theorem Bytes.at_ {l : List Int} (h : Bytes l) (i : Int) : 0 ≤ rd l i ∧ rd l i < 256 := by
  unfold rd
  rw [List.getD_eq_getElem?_getD]
  cases hx : l[i.toNat]? with
  | none => simp
  | some x => exact h x (List.mem_of_getElem? hx)
theorem Bytes.drop {l : List Int} (h : Bytes l) (n : Nat) : Bytes (l.drop n) := fun x hx => h x (List.mem_of_mem_drop hx)
theorem Bytes.take {l : List Int} (h : Bytes l) (n : Nat) : Bytes (l.take n) := fun x hx => h x (List.mem_of_mem_take hx)

/-! ### bits of wholes of 64 -/
theorem wrap_u64 (n : Int) (h0 : 0 ≤ n) (h : n < 18446744073709551616) : IntKind.u64.wrap n = n := by
  simp only [IntKind.wrap]
  simp [IntKind.bits, IntKind.signed]
  omega
theorem wrap_u64' (n : Int) : IntKind.u64.wrap n = n % 18446744073709551616 := by
  simp only [IntKind.wrap]
  simp [IntKind.bits, IntKind.signed]
theorem ofInt_nat64 (n : Nat) (h : n < 18446744073709551616) : (BitVec.ofInt 64 (n : Int)).toNat = n := by
  rw [BitVec.toNat_ofInt]
  omega
theorem or64 (a b : Nat) (ha : a < 18446744073709551616) (hb : b < 18446744073709551616) : bits .or .u64 (a : Int) (b : Int) = ((a ||| b : Nat) : Int) := by
  show IntKind.u64.wrap ((BitVec.ofInt 64 (a : Int) ||| BitVec.ofInt 64 (b : Int)).toNat : Int) = _
  have h := (BitVec.ofInt 64 (a : Int) ||| BitVec.ofInt 64 (b : Int)).isLt
  rw [wrap_u64 _ (by omega) (by omega), BitVec.toNat_or, ofInt_nat64 a ha, ofInt_nat64 b hb]
theorem and64 (a b : Nat) (ha : a < 18446744073709551616) (hb : b < 18446744073709551616) : bits .and .u64 (a : Int) (b : Int) = ((a &&& b : Nat) : Int) := by
  show IntKind.u64.wrap ((BitVec.ofInt 64 (a : Int) &&& BitVec.ofInt 64 (b : Int)).toNat : Int) = _
  have h := (BitVec.ofInt 64 (a : Int) &&& BitVec.ofInt 64 (b : Int)).isLt
  rw [wrap_u64 _ (by omega) (by omega), BitVec.toNat_and, ofInt_nat64 a ha, ofInt_nat64 b hb]

/-! ### how many bytes follow -/
theorem fol_spec (v : Nat) (hv : v < 18446744073709551616) : (fol v < 8 → v < 2 ^ (7 * (fol v + 1))) ∧ (0 < fol v → 2 ^ (7 * fol v) ≤ v) := by
  by_cases h0 : v = 0
  · subst h0
    have : fol 0 = 0 := by decide
    rw [this]
    simp
  · obtain ⟨h1, h2, h3⟩ := Lib.bitLenAux_bounds 64 v (by omega) h0
    have e : Lib.bitLen v = Lib.bitLenAux 64 v := rfl
    unfold fol
    rw [e]
    generalize Lib.bitLenAux 64 v = L at h1 h2 h3
    refine ⟨fun h => ?_, fun h => ?_⟩
    · refine Nat.lt_of_lt_of_le h3 (Nat.pow_le_pow_right (by decide) ?_)
      omega
    · refine Nat.le_trans (Nat.pow_le_pow_right (by decide) ?_) h2
      omega
theorem fol_eq (v n : Nat) (hv : v < 18446744073709551616) (hn : n ≤ 8) (h1 : n < 8 → v < 2 ^ (7 * (n + 1))) (h2 : 0 < n → 2 ^ (7 * n) ≤ v) : fol v = n := by
  obtain ⟨s1, s2⟩ := fol_spec v hv
  have hf := fol_le v
  rcases Nat.lt_trichotomy (fol v) n with h | h | h
  · have a := s1 (by omega)
    have b := h2 (by omega)
    have := Nat.pow_le_pow_right (n := 2) (by decide) (show 7 * (fol v + 1) ≤ 7 * n by omega)
    omega
  · exact h
  · have a := h1 (by omega)
    have b := s2 (by omega)
    have := Nat.pow_le_pow_right (n := 2) (by decide) (show 7 * (n + 1) ≤ 7 * fol v by omega)
    omega
theorem lt_fol (v m : Nat) (hv : v < 18446744073709551616) (hm : m < 8) : 2 ^ (7 * (m + 1)) ≤ v ↔ m < fol v := by
  obtain ⟨s1, s2⟩ := fol_spec v hv
  constructor
  · intro h
    apply Nat.lt_of_not_le
    intro hle
    have a := s1 (by omega)
    have := Nat.pow_le_pow_right (n := 2) (by decide) (show 7 * (fol v + 1) ≤ 7 * (m + 1) by omega)
    omega
  · intro h
    have b := s2 (by omega)
    have := Nat.pow_le_pow_right (n := 2) (by decide) (show 7 * (m + 1) ≤ 7 * fol v by omega)
    omega
/-- what is left for the first byte -/
theorem top_lt (v : Nat) (hv : v < 18446744073709551616) : v / 256 ^ fol v < 2 ^ (7 - fol v) := by
  obtain ⟨s1, _⟩ := fol_spec v hv
  have hf := fol_le v
  rw [Nat.div_lt_iff_lt_mul (Nat.pow_pos (by decide)), show (256 : Nat) = 2 ^ 8 from rfl, ← Nat.pow_mul, ← Nat.pow_add]
  by_cases h8 : fol v = 8
  · rw [h8]
    exact hv
  · rw [show 7 - fol v + 8 * fol v = 7 * (fol v + 1) by omega]
    exact s1 (by omega)

/-! ### the first byte -/
/-- the first byte, of what is left for it -/
def hb (n : Nat) (y : Int) : Int := bits .or .u8 y (bits .xor .u8 IntKind.u8.max (255 / 2 ^ n))
theorem headI_eq (v : Nat) (hv : v < 18446744073709551616) : headI (fol v) v = hb (fol v) ((v / 256 ^ fol v : Nat) : Int) := by
  have h := top_lt v hv
  have h2 : 2 ^ (7 - fol v) ≤ 2 ^ 7 := Nat.pow_le_pow_right (by decide) (by omega)
  unfold headI hb
  rw [Nat.mod_eq_of_lt (by omega)]
theorem hb_all : ∀ n : Fin 9, ∀ y : Fin 128, y.val < 2 ^ (7 - n.val) → lead (hb n.val (y.val : Int)) = n.val ∧ (hb n.val (y.val : Int)).toNat &&& (127 / 2 ^ n.val) = y.val ∧ 0 ≤ hb n.val (y.val : Int) ∧ hb n.val (y.val : Int) < 256 := by decide +kernel
theorem hb_spec (n y : Nat) (hn : n ≤ 8) (hy : y < 2 ^ (7 - n)) : lead (hb n y) = n ∧ (hb n y).toNat &&& (127 / 2 ^ n) = y ∧ 0 ≤ hb n y ∧ hb n y < 256 := by
  have h2 : 2 ^ (7 - n) ≤ 2 ^ 7 := Nat.pow_le_pow_right (by decide) (by omega)
  exact hb_all ⟨n, by omega⟩ ⟨y, by omega⟩ hy
theorem lead_all : ∀ x : Fin 256, hb (lead (x.val : Int)) ((x.val &&& (127 / 2 ^ lead (x.val : Int)) : Nat) : Int) = (x.val : Int) ∧ x.val &&& (127 / 2 ^ lead (x.val : Int)) < 2 ^ (7 - lead (x.val : Int)) := by decide +kernel
theorem lead_spec (x : Int) (h0 : 0 ≤ x) (h1 : x < 256) : hb (lead x) ((x.toNat &&& (127 / 2 ^ lead x) : Nat) : Int) = x ∧ x.toNat &&& (127 / 2 ^ lead x) < 2 ^ (7 - lead x) := by
  have h := lead_all ⟨x.toNat, by omega⟩
  simp only [show ((x.toNat : Nat) : Int) = x by omega] at h
  exact h
/-- the heads stand as how many follow -/
theorem hb_val : ∀ n : Fin 9, ∀ y : Fin 128, y.val < 2 ^ (7 - n.val) → hb n.val (y.val : Int) = ((256 - 2 ^ (8 - n.val) + y.val : Nat) : Int) := by decide +kernel
theorem hb_is (n y : Nat) (hn : n ≤ 8) (hy : y < 2 ^ (7 - n)) : hb n y = ((256 - 2 ^ (8 - n) + y : Nat) : Int) := by
  have h2 : 2 ^ (7 - n) ≤ 2 ^ 7 := Nat.pow_le_pow_right (by decide) (by omega)
  have := hb_val ⟨n, by omega⟩ ⟨y, by omega⟩ hy
  exact this
theorem hb_up (n m y z : Nat) (h : n < m) (hm : m ≤ 8) (hy : y < 2 ^ (7 - n)) (hz : z < 2 ^ (7 - m)) : hb n y < hb m z := by
  rw [hb_is n y (by omega) hy, hb_is m z hm hz]
  have h1 : 2 ^ (8 - n) = 2 * 2 ^ (7 - n) := by rw [show 8 - n = 7 - n + 1 by omega, Nat.pow_succ]; omega
  have h2 : 2 ^ (8 - m) ≤ 2 ^ (7 - n) := Nat.pow_le_pow_right (by decide) (by omega)
  have h3 : 2 ^ (8 - n) ≤ 2 ^ 8 := Nat.pow_le_pow_right (by decide) (by omega)
  omega
theorem hb_same (n y z : Nat) (hn : n ≤ 8) (hy : y < 2 ^ (7 - n)) (hz : z < 2 ^ (7 - n)) (h : y < z) : hb n y < hb n z := by
  rw [hb_is n y hn hy, hb_is n z hn hz]
  omega

/-! ### what is read -/
/-- the whole behind the first byte, plainly -/
def vN (l : List Int) (n : Nat) : Nat → Nat
  | 0 => (rd l 0).toNat &&& (127 / 2 ^ n)
  | k + 1 => vN l n k * 256 + (rd l ((k + 1 : Nat) : Int)).toNat
theorem vN_lt {l : List Int} (h : Bytes l) (n : Nat) (hn : (rd l 0).toNat &&& (127 / 2 ^ n) < 2 ^ (7 - n)) (k : Nat) : vN l n k < 2 ^ (7 - n) * 256 ^ k := by
  induction k with
  | zero => simpa [vN] using hn
  | succ k ih =>
    have hx := h.at_ ((k + 1 : Nat) : Int)
    simp only [vN]
    rw [Nat.pow_succ, ← Nat.mul_assoc]
    omega
theorem room (n k : Nat) (hn : n ≤ 8) (hk : k ≤ n) : 2 ^ (7 - n) * 256 ^ k ≤ 18446744073709551616 := by
  have h1 : 256 ^ k ≤ 256 ^ n := Nat.pow_le_pow_right (by decide) hk
  refine Nat.le_trans (Nat.mul_le_mul_left _ h1) ?_
  have : ∀ n : Fin 9, 2 ^ (7 - n.val) * 256 ^ n.val ≤ 18446744073709551616 := by decide
  exact this ⟨n, by omega⟩
theorem div127 (n : Nat) : ((127 : Int) / 2 ^ n) = ((127 / 2 ^ n : Nat) : Int) := by norm_cast
set_option maxRecDepth 4000 in
theorem rv_eq {l : List Int} (h : Bytes l) (n : Nat) (hn : n ≤ 8) (hy : (rd l 0).toNat &&& (127 / 2 ^ n) < 2 ^ (7 - n)) (k : Nat) (hk : k ≤ n) : rv l n k = (vN l n k : Int) := by
  induction k with
  | zero =>
    have hx := h.at_ 0
    simp only [rv, vN]
    rw [wrap_u64 _ hx.1 (by omega), div127]
    have e : rd l 0 = ((rd l 0).toNat : Int) := by omega
    have e2 := and64 (rd l 0).toNat (127 / 2 ^ n) (by omega) (by have := Nat.div_le_self 127 (2 ^ n); omega)
    rw [← e] at e2
    exact e2
  | succ k ih =>
    have hx := h.at_ ((k + 1 : Nat) : Int)
    have hl := vN_lt h n hy (k + 1)
    have hr := room n (k + 1) hn hk
    simp only [vN] at hl
    simp only [rv, vN]
    rw [ih (by omega), wrap_u64 _ hx.1 (by omega), wrap_u64 _ (by omega) (by omega)]
    generalize rd l ((k + 1 : Nat) : Int) = x at *
    obtain ⟨y, rfl⟩ := Int.eq_ofNat_of_zero_le hx.1
    rw [Int.toNat_natCast] at *
    rw [show ((vN l n k : Int) * 256) = ((vN l n k * 256 : Nat) : Int) by push_cast; rfl, or64 _ _ (by omega) (by omega)]
    have := Nat.two_pow_add_eq_or_of_lt (i := 8) (b := y) (by omega) (vN l n k)
    rw [show (2 : Nat) ^ 8 = 256 from rfl] at this
    rw [Nat.mul_comm (vN l n k) 256, ← this]
/-- its digits are the bytes -/
theorem vN_div {l : List Int} (h : Bytes l) (n k j : Nat) (hj : j ≤ k) : vN l n k / 256 ^ j = vN l n (k - j) := by
  induction j with
  | zero => simp
  | succ j ih =>
    rw [Nat.pow_succ, ← Nat.div_div_eq_div_mul, ih (by omega)]
    obtain ⟨m, hm⟩ : ∃ m, k - j = m + 1 := ⟨k - j - 1, by omega⟩
    rw [show k - (j + 1) = m by omega, hm]
    have hx := h.at_ ((m + 1 : Nat) : Int)
    simp only [vN]
    omega
theorem vN_digit {l : List Int} (h : Bytes l) (n k j : Nat) (hj : j < k) : ((vN l n k / 256 ^ j % 256 : Nat) : Int) = rd l ((k - j : Nat) : Int) := by
  rw [vN_div h n k j (by omega)]
  obtain ⟨m, hm⟩ : ∃ m, k - j = m + 1 := ⟨k - j - 1, by omega⟩
  rw [hm]
  have hx := h.at_ ((m + 1 : Nat) : Int)
  simp only [vN]
  omega
theorem be_vN {l : List Int} (h : Bytes l) (n : Nat) (hl : n < l.length) (j : Nat) (hj : j ≤ n) : be j (vN l n n) = (l.drop (n - j + 1)).take j := by
  induction j with
  | zero => simp [be]
  | succ j ih =>
    simp only [be]
    rw [vN_digit h n n j (by omega), ih (by omega)]
    rw [show n - (j + 1) + 1 = n - j by omega]
    have hlt : n - j < l.length := by omega
    rw [List.drop_eq_getElem_cons hlt, List.take_succ_cons]
    congr 1
    simp [rd, List.getD_eq_getElem?_getD, hlt]
/-- what was read, written again, is what stood there -/
theorem again {l : List Int} (h : Bytes l) (hl : lead (rd l 0) < l.length) (hf : fol (vN l (lead (rd l 0)) (lead (rd l 0))) = lead (rd l 0)) :
    wrL (lead (rd l 0)) (vN l (lead (rd l 0)) (lead (rd l 0))) ++ l.drop (1 + lead (rd l 0)) = l := by
  have hx := h.at_ 0
  obtain ⟨s1, s2⟩ := lead_spec (rd l 0) hx.1 hx.2
  have hle := lead_le (rd l 0)
  generalize hn : lead (rd l 0) = n at *
  have hv : vN l n n < 18446744073709551616 := Nat.lt_of_lt_of_le (vN_lt h n s2 n) (room n n hle (Nat.le_refl _))
  have hh : headI n (vN l n n) = rd l 0 := by
    have := headI_eq (vN l n n) hv
    rw [hf] at this
    rw [this, vN_div h n n n (Nat.le_refl _), Nat.sub_self]
    simp only [vN]
    exact s1
  unfold wrL
  rw [hh, be_vN h n hl n (Nat.le_refl _), Nat.sub_self, Nat.zero_add]
  cases l with
  | nil => simp at hl
  | cons x l =>
    simp only [List.drop_succ_cons, List.drop_zero, rd, List.getD_cons_zero, List.cons_append]
    rw [show 1 + n = n + 1 by omega, List.drop_succ_cons]
    show x :: (l.take n ++ l.drop n) = x :: l
    rw [List.take_append_drop]

/-! ### what is written is read -/
theorem wrL_len (n v : Nat) : (wrL n v).length = n + 1 := by simp [wrL, be_len]
theorem be_bytes (n v : Nat) : Bytes (be n v) := by
  induction n with
  | zero => intro x hx; simp [be] at hx
  | succ n ih =>
    intro x hx
    simp only [be, List.mem_cons] at hx
    rcases hx with rfl | hx
    · omega
    · exact ih x hx
theorem wrL_bytes (v : Nat) (hv : v < 18446744073709551616) : Bytes (wrL (fol v) v) := by
  have hs := hb_spec (fol v) (v / 256 ^ fol v) (fol_le v) (top_lt v hv)
  intro x hx
  simp only [wrL, List.mem_cons] at hx
  rcases hx with rfl | hx
  · rw [headI_eq v hv]
    exact hs.2.2
  · exact be_bytes _ _ x hx
theorem rd_wrL0 (n v : Nat) (r : List Int) : rd (wrL n v ++ r) 0 = headI n v := by simp [wrL, rd]
theorem be_get (n v j : Nat) (hj : j < n) : (be n v)[j]? = some ((v / 256 ^ (n - 1 - j) % 256 : Nat) : Int) := by
  induction n generalizing j with
  | zero => omega
  | succ n ih =>
    simp only [be]
    cases j with
    | zero => simp
    | succ j =>
      rw [List.getElem?_cons_succ, ih j (by omega)]
      rw [show n + 1 - 1 - (j + 1) = n - 1 - j by omega]
theorem rd_wrL (n v j : Nat) (r : List Int) (hj : j < n) : rd (wrL n v ++ r) ((j + 1 : Nat) : Int) = ((v / 256 ^ (n - 1 - j) % 256 : Nat) : Int) := by
  have h := be_get n v j hj
  unfold rd
  rw [Int.toNat_natCast, List.getD_eq_getElem?_getD]
  simp only [wrL, List.cons_append, List.getElem?_cons_succ]
  rw [List.getElem?_append_left (by rw [be_len]; exact hj), h]
  rfl
theorem vN_wrL (v : Nat) (hv : v < 18446744073709551616) (r : List Int) (k : Nat) (hk : k ≤ fol v) : vN (wrL (fol v) v ++ r) (fol v) k = v / 256 ^ (fol v - k) := by
  have hs := hb_spec (fol v) (v / 256 ^ fol v) (fol_le v) (top_lt v hv)
  induction k with
  | zero =>
    simp only [vN]
    rw [rd_wrL0, headI_eq v hv]
    exact hs.2.1
  | succ k ih =>
    simp only [vN]
    rw [ih (by omega), rd_wrL _ _ _ _ (by omega)]
    rw [show fol v - 1 - k = fol v - (k + 1) by omega]
    obtain ⟨m, hm⟩ : ∃ m, fol v - k = m + 1 := ⟨fol v - k - 1, by omega⟩
    rw [hm, show fol v - (k + 1) = m by omega, Nat.pow_succ, ← Nat.div_div_eq_div_mul]
    omega
theorem lead_wrL (v : Nat) (hv : v < 18446744073709551616) (r : List Int) : lead (rd (wrL (fol v) v ++ r) 0) = fol v := by
  have hs := hb_spec (fol v) (v / 256 ^ fol v) (fol_le v) (top_lt v hv)
  rw [rd_wrL0, headI_eq v hv]
  exact hs.1
theorem rv_wrL (v : Nat) (hv : v < 18446744073709551616) (r : List Int) (hr : Bytes r) : rv (wrL (fol v) v ++ r) (fol v) (fol v) = (v : Int) := by
  have hb : Bytes (wrL (fol v) v ++ r) := fun x hx => by
    rcases List.mem_append.1 hx with h | h
    · exact wrL_bytes v hv x h
    · exact hr x h
  have hx := hb.at_ 0
  have s2 := (lead_spec _ hx.1 hx.2).2
  rw [lead_wrL v hv r] at s2
  rw [rv_eq hb (fol v) (fol_le v) s2 (fol v) (Nat.le_refl _), vN_wrL v hv r _ (Nat.le_refl _)]
  simp
/-- what was written, with anything behind it, is read as it was -/
theorem read_written (af : Int → Int × Int) (v : Nat) (hv : v < 18446744073709551616) (r : List Int) (hr : Bytes r) (h0 : (af v).2 = 0) : readF af (wrL (fol v) v ++ r) = ((af v).1, r, 0) := by
  have hl : (wrL (fol v) v ++ r).length = fol v + 1 + r.length := by rw [List.length_append, wrL_len]
  have hle := lead_wrL v hv r
  unfold readF
  rw [if_neg (by omega), hle, if_neg (by omega), rv_wrL v hv r hr]
  rw [if_neg (by simp), if_neg (by rw [h0]; simp)]
  rw [show 1 + fol v = (wrL (fol v) v).length by rw [wrL_len]; omega, List.drop_left]
/-- a beginning of it is too short -/
theorem read_short (af : Int → Int × Int) (v : Nat) (hv : v < 18446744073709551616) (r : List Int) (j : Nat) (hj : j ≤ fol v) : readF af ((wrL (fol v) v ++ r).take j) = (0, [], 3) := by
  have hl : ((wrL (fol v) v ++ r).take j).length = j := by rw [List.length_take, List.length_append, wrL_len]; omega
  unfold readF
  by_cases h0 : j = 0
  · rw [if_pos (by omega)]
  · have hle := lead_wrL v hv r
    have e : rd ((wrL (fol v) v ++ r).take j) 0 = rd (wrL (fol v) v ++ r) 0 := by
      simp [rd, List.getD_eq_getElem?_getD, List.getElem?_take, show 0 < j by omega]
    rw [if_neg (by omega), e, hle, if_pos (by omega)]
end Go.Proofs.Ytgfjijfjlbjajaa.BinMath

/- What chapter 2's walked functions come to, in the words of the plain law of wholes. -/
namespace Go.Proofs.Ytgfjijfjlbjajaa.BinLink
open Go Go.RowKit Go.Proofs.YtgfjijfjlbjajaaW.PrintWords Go.Proofs.YtgfjijfjlbjajaaW.PrintMore Go.Proofs.Ytgfjijfjlbjajaa.Base Go.Proofs.Ytgfjijfjlbjajaa.Ext Go.Proofs.Ytgfjijfjlbjajaa.Mid Go.Proofs.Ytgfjijfjlbjajaa.BinMath
set_option linter.unusedVariables false
set_option linter.unusedSimpArgs false

/-- a whole's bytes -/
def W (v : Nat) : List Int := wrL (fol v) v
theorem W_len (v : Nat) : (W v).length = fol v + 1 := wrL_len _ _
theorem W_le (v : Nat) : (W v).length ≤ 9 := by have := fol_le v; rw [W_len]; omega
theorem written_eq (v : Nat) (hv : v < 18446744073709551616) : bin_written.f (v : Int) = some (W v) := by
  unfold bin_written.f
  rw [if_pos (by omega), Int.toNat_natCast]
  rfl

/-! ### the reference's bytes -/
theorem shr_nat (k : IntKind) (v e : Nat) (he : e ≤ k.bits) : shr k (v : Int) (e : Int) = ((v / 2 ^ e : Nat) : Int) := by
  unfold shr
  rw [Int.toNat_natCast, Nat.min_eq_left he]
  norm_cast
/-- the reference's end: the ones that tell how many follow -/
def fin (more : Nat) (out : List Int) : List Int := if more < 8 then out.set 0 (bits .or .u8 (rd out 0) ((shr .i64 65280 more) % 256)) else out
theorem bytes_l1 (v : Nat) (hv : v < 18446744073709551616) (more : Nat) (hm : more ≤ 8) (m : Nat) : ∀ (k : Nat) (out : List Int), m ≤ 8 → out.length ≤ 9 - m → 0 < out.length + m →
    encoreref02_bytes.l1 (k + m + 1) v more out ((m : Int) - 1) = some (fin more (out ++ be m v)) := by
  induction m with
  | zero =>
    intro k out _ hl hp
    simp only [encoreref02_bytes.l1, be, List.append_nil]
    rw [if_neg (by omega)]
    unfold fin
    by_cases h8 : more < 8
    · rw [if_pos (by omega), if_pos (by omega), if_pos (by omega), if_pos h8]
      rfl
    · rw [if_neg (by omega), if_neg h8]
  | succ m ih =>
    intro k out h8 hl hp
    rw [show k + (m + 1) + 1 = (k + m + 1) + 1 by omega]
    rw [encoreref02_bytes.l1]
    rw [show ((m + 1 : Nat) : Int) - 1 = (m : Int) by omega]
    rw [show wrap64 (8 * (m : Int)) = ((8 * m : Nat) : Int) by unfold wrap64; omega, show wrap64 ((m : Int) - 1) = (m : Int) - 1 by unfold wrap64; omega]
    rw [if_pos (by omega), if_pos (by omega), if_pos (by omega), shr_nat .u64 v (8 * m) (by show 8 * m ≤ 64; omega)]
    have h := ih k (out ++ [((v / 2 ^ (8 * m) : Nat) : Int) % 256]) (by omega) (by simp; omega) (by simp; omega)
    rw [h]
    simp only [be, List.append_assoc, List.singleton_append]
    rw [show (256 : Nat) = 2 ^ 8 from rfl, ← Nat.pow_mul]
    simp
theorem ones_all : ∀ n : Fin 8, (shr .i64 65280 (n.val : Int)) % 256 = bits .xor .u8 IntKind.u8.max (255 / 2 ^ n.val) := by decide +kernel
theorem bytes_j1 (v : Nat) (hv : v < 18446744073709551616) (k : Nat) (hk : 11 ≤ k) : encoreref02_bytes.j1 k v (fol v) = some (W v) := by
  have hf := fol_le v
  obtain ⟨k, rfl⟩ : ∃ q, k = q + 2 := ⟨k - 2, by omega⟩
  simp only [encoreref02_bytes.j1]
  by_cases h8 : fol v = 8
  · rw [if_pos (by omega), if_pos (by simp)]
    simp only [encoreref02_bytes.j2, List.nil_append]
    rw [h8, show mn ((8 : Nat) : Int) 7 = ((8 : Nat) : Int) - 1 by decide]
    obtain ⟨q, rfl⟩ : ∃ q, k = q + 8 + 1 := ⟨k - 9, by omega⟩
    rw [bytes_l1 v hv 8 (by omega) 8 q [255] (by omega) (by simp) (by simp)]
    have ht := top_lt v hv
    rw [h8] at ht
    have hh := headI_eq v hv
    rw [h8] at hh
    unfold W wrL
    rw [h8, hh, hb_is 8 _ (by omega) ht]
    have : v / 256 ^ 8 = 0 := by simp at ht; omega
    rw [this]
    simp [fin]
  · rw [if_neg (by omega)]
    simp only [encoreref02_bytes.j2]
    rw [show mn ((fol v : Nat) : Int) 7 = ((fol v + 1 : Nat) : Int) - 1 by unfold mn; split <;> omega]
    obtain ⟨q, rfl⟩ : ∃ q, k = q + (fol v + 1) + 1 := ⟨k - (fol v + 2), by omega⟩
    rw [bytes_l1 v hv (fol v) (by omega) (fol v + 1) q [] (by omega) (by simp) (by omega)]
    unfold fin
    rw [if_pos (by omega), ones_all ⟨fol v, by omega⟩]
    rfl
theorem bytes_l0 (v : Nat) (hv : v < 18446744073709551616) (d : Nat) : ∀ (m k : Nat), m + d = fol v → 11 ≤ k → encoreref02_bytes.l0 (k + d + 1) v m = some (W v) := by
  induction d with
  | zero =>
    intro m k hm hk
    have hf := fol_le v
    obtain rfl : m = fol v := by omega
    simp only [encoreref02_bytes.l0]
    by_cases h8 : fol v < 8
    · rw [if_pos (by omega), show wrap64 (7 * wrap64 ((fol v : Int) + 1)) = ((7 * (fol v + 1) : Nat) : Int) by unfold wrap64; omega, if_pos (by omega), shr_nat .u64 v _ (by show 7 * (fol v + 1) ≤ 64; omega)]
      have h := (lt_fol v (fol v) hv h8).1
      have h0 : v / 2 ^ (7 * (fol v + 1)) = 0 := Nat.div_eq_of_lt (by
        apply Nat.lt_of_not_le
        intro hc
        exact absurd (h hc) (by omega))
      rw [h0, if_neg (by simp)]
      exact bytes_j1 v hv k hk
    · rw [if_neg (by omega)]
      exact bytes_j1 v hv k hk
  | succ d ih =>
    intro m k hm hk
    have hf := fol_le v
    rw [show k + (d + 1) + 1 = (k + d + 1) + 1 by omega]
    simp only [encoreref02_bytes.l0]
    rw [if_pos (by omega), show wrap64 (7 * wrap64 ((m : Int) + 1)) = ((7 * (m + 1) : Nat) : Int) by unfold wrap64; omega, if_pos (by omega), shr_nat .u64 v _ (by show 7 * (m + 1) ≤ 64; omega)]
    have h := (lt_fol v m hv (by omega)).2 (by omega)
    have h0 : 0 < v / 2 ^ (7 * (m + 1)) := Nat.div_pos h (Nat.pow_pos (by decide))
    rw [if_pos (by omega), show wrap64 ((m : Int) + 1) = ((m + 1 : Nat) : Int) by unfold wrap64; omega]
    exact ih (m + 1) k (by omega) hk
theorem bytes_eq (v : Nat) (hv : v < 18446744073709551616) (k : Nat) (hk : 20 ≤ k) : encoreref02_bytes.f k v = some (W v) := by
  have hf := fol_le v
  unfold encoreref02_bytes.f
  obtain ⟨q, rfl⟩ : ∃ q, k = q + fol v + 1 := ⟨k - fol v - 1, by omega⟩
  exact bytes_l0 v hv (fol v) 0 q (by omega) (by omega)

/-! ### Num, Int, Text -/
def numR (n : Int) : List Int × Int := if n < 0 then ([], 9) else if n > 9007199254740991 then ([], 9) else (W n.toNat, 0)
theorem num_eq (n : Int) : bin_Num.f n = some (numR n) := by
  unfold bin_Num.f numR
  split
  · rfl
  · split
    · rfl
    · obtain ⟨m, rfl⟩ := Int.eq_ofNat_of_zero_le (show 0 ≤ n by omega)
      rw [wrap_u64 _ (by omega) (by omega), written_eq m (by omega)]
      rfl
theorem ref_num_eq (n : Int) (k : Nat) (hk : 20 ≤ k) : encoreref02_Num.f k n = some (numR n) := by
  unfold encoreref02_Num.f numR
  split
  · rfl
  · split
    · rfl
    · obtain ⟨m, rfl⟩ := Int.eq_ofNat_of_zero_le (show 0 ≤ n by omega)
      rw [wrap_u64 _ (by omega) (by omega), bytes_eq m (by omega) k hk]
      rfl
theorem numR_nat (n : Nat) : numR (n : Int) = if (n : Int) > 9007199254740991 then ([], 9) else (W n, 0) := by
  unfold numR
  rw [if_neg (by omega), Int.toNat_natCast]

/-! ### EqBytes, CopyBytes -/
theorem eq_loop (l : List Int) (hl : l.length ≤ 140737488355328) (d : Nat) : ∀ (k i : Nat), i + d = l.length → d < k → encoreref00_EqBytes.l0 k l l i = some true := by
  induction d with
  | zero =>
    intro k i hi hk
    obtain ⟨k, rfl⟩ : ∃ n, k = n + 1 := ⟨k - 1, by omega⟩
    simp only [encoreref00_EqBytes.l0]
    rw [if_neg (by omega)]
  | succ d ih =>
    intro k i hi hk
    obtain ⟨k, rfl⟩ : ∃ n, k = n + 1 := ⟨k - 1, by omega⟩
    simp only [encoreref00_EqBytes.l0]
    rw [if_pos (by omega), if_pos (by omega), if_pos (by omega), if_pos trivial, show wrap64 ((i : Int) + 1) = ((i + 1 : Nat) : Int) by unfold wrap64; omega]
    exact ih k (i + 1) (by omega) (by omega)
theorem eq_same (l : List Int) (hl : l.length ≤ 140737488355328) (k : Nat) (hk : l.length < k) : encoreref00_EqBytes.f k l l = some true := by
  unfold encoreref00_EqBytes.f
  rw [if_pos rfl]
  exact eq_loop l hl l.length k 0 (by omega) hk
theorem copy_eq (l : List Int) (hl : l.length < 140737488355328) : encoreref00_CopyBytes.f l = some l := by
  unfold encoreref00_CopyBytes.f
  rw [if_pos (by simpa using hl)]
  simp

/-! ### what is read -/
/-- a whole of 64 bits off bytes, how many it has, what is told -/
def takeR (l : List Int) : Nat × Nat × Int :=
  if l.length = 0 then (0, 0, 3)
  else if l.length ≤ lead (rd l 0) then (0, 0, 3)
  else if fol (vN l (lead (rd l 0)) (lead (rd l 0))) ≠ lead (rd l 0) then (0, 0, 4)
  else (vN l (lead (rd l 0)) (lead (rd l 0)), 1 + lead (rd l 0), 0)
theorem vN_lt64 {l : List Int} (h : Bytes l) : vN l (lead (rd l 0)) (lead (rd l 0)) < 18446744073709551616 := by
  have hx := h.at_ 0
  have s2 := (lead_spec _ hx.1 hx.2).2
  exact Nat.lt_of_lt_of_le (vN_lt h _ s2 _) (room _ _ (lead_le _) (Nat.le_refl _))
theorem rv_lead {l : List Int} (h : Bytes l) : rv l (lead (rd l 0)) (lead (rd l 0)) = (vN l (lead (rd l 0)) (lead (rd l 0)) : Int) := by
  have hx := h.at_ 0
  exact rv_eq h _ (lead_le _) (lead_spec _ hx.1 hx.2).2 _ (Nat.le_refl _)
theorem takeR_lt {l : List Int} (h : Bytes l) : (takeR l).1 < 18446744073709551616 := by
  have := vN_lt64 h
  unfold takeR
  split
  · simp
  · split
    · simp
    · split
      · simp
      · exact this
theorem takeR_room {l : List Int} : (takeR l).2.1 ≤ l.length := by
  unfold takeR
  split
  · simp
  · split
    · simp
    · split
      · simp
      · show 1 + lead (rd l 0) ≤ l.length
        omega
theorem read_take (af : Int → Int × Int) {l : List Int} (h : Bytes l) : readF af l = if (takeR l).2.2 ≠ 0 then (0, [], (takeR l).2.2) else if (af (takeR l).1).2 ≠ 0 then (0, [], (af (takeR l).1).2) else ((af (takeR l).1).1, l.drop (takeR l).2.1, 0) := by
  unfold readF takeR
  by_cases h0 : l.length = 0
  · rw [if_pos h0, if_pos h0, if_pos (by decide)]
  · rw [if_neg h0, if_neg h0]
    by_cases h1 : l.length ≤ lead (rd l 0)
    · rw [if_pos h1, if_pos h1, if_pos (by decide)]
    · rw [if_neg h1, if_neg h1, rv_lead h, Int.toNat_natCast]
      by_cases h2 : fol (vN l (lead (rd l 0)) (lead (rd l 0))) ≠ lead (rd l 0)
      · rw [if_pos h2, if_pos h2, if_pos (by decide)]
      · rw [if_neg h2, if_neg h2]
        simp
theorem cond_all : ∀ x : Fin 256, ∀ m : Fin 8, (m.val < lead (x.val : Int) → bits .and .u8 (shr .u8 (x.val : Int) (wrap64 (7 - (m.val : Int)))) 1 = 1) ∧ (m.val = lead (x.val : Int) → bits .and .u8 (shr .u8 (x.val : Int) (wrap64 (7 - (m.val : Int)))) 1 ≠ 1) := by decide +kernel
theorem first_all : ∀ x : Fin 256, ∀ n : Fin 9, (if (n.val : Int) < 7 then IntKind.u64.wrap (bits .and .u8 (x.val : Int) (shr .u8 127 (n.val : Int))) else 0) = bits .and .u64 (IntKind.u64.wrap (x.val : Int)) (127 / 2 ^ n.val) := by decide +kernel
theorem take_l1 {l : List Int} (h : Bytes l) (hl : l.length < 140737488355328) (n : Nat) (hn : n ≤ 8) (hy : (rd l 0).toNat &&& (127 / 2 ^ n) < 2 ^ (7 - n)) (hr : n < l.length) (d : Nat) : ∀ (j k : Nat), j + d = n → 20 ≤ k →
    encoreref02_take.l1 (k + d + 1) l n (rv l n j) ((j : Int) + 1) = some (if fol (vN l n n) ≠ n then (0, 0, 4) else ((vN l n n : Int), ((1 + n : Nat) : Int), 0)) := by
  induction d with
  | zero =>
    intro j k hj hk
    obtain rfl : j = n := by omega
    simp only [encoreref02_take.l1]
    have hv : vN l j j < 18446744073709551616 := Nat.lt_of_lt_of_le (vN_lt h j hy j) (room j j hn (Nat.le_refl _))
    rw [if_neg (by omega), rv_eq h j hn hy j (Nat.le_refl _), bytes_eq _ hv k hk, Option.bind_some, W_len, show wrap64 (1 + (j : Int)) = ((1 + j : Nat) : Int) by unfold wrap64; omega]
    by_cases hf : fol (vN l j j) = j
    · rw [if_pos (by omega), if_neg (by omega)]
    · rw [if_neg (by omega), if_pos hf]
  | succ d ih =>
    intro j k hj hk
    rw [show k + (d + 1) + 1 = (k + d + 1) + 1 by omega]
    rw [encoreref02_take.l1]
    rw [if_pos (by omega), if_pos (by omega), if_pos (by omega)]
    have := ih (j + 1) k (by omega) hk
    rw [← this]
    simp only [rv]
    rw [show wrap64 ((j : Int) + 1 + 1) = ((j + 1 : Nat) : Int) + 1 by unfold wrap64; omega, show (j : Int) + 1 = ((j + 1 : Nat) : Int) by omega]
theorem take_j1 {l : List Int} (h : Bytes l) (hl : l.length < 140737488355328) (h0 : l.length ≠ 0) (k : Nat) (hk : 40 ≤ k) :
    encoreref02_take.j1 k l (lead (rd l 0)) = some (((takeR l).1 : Int), ((takeR l).2.1 : Int), (takeR l).2.2) := by
  have hx := h.at_ 0
  have hle := lead_le (rd l 0)
  have s2 := (lead_spec _ hx.1 hx.2).2
  have hfa := first_all ⟨(rd l 0).toNat, by omega⟩ ⟨lead (rd l 0), by omega⟩
  simp only [show (((rd l 0).toNat : Nat) : Int) = rd l 0 by omega] at hfa
  obtain ⟨q, rfl⟩ : ∃ q, k = q + 2 := ⟨k - 2, by omega⟩
  unfold takeR
  rw [if_neg h0]
  generalize hn : lead (rd l 0) = n at *
  simp only [encoreref02_take.j1]
  rw [show wrap64 (1 + (n : Int)) = ((1 + n : Nat) : Int) by unfold wrap64; omega]
  by_cases h1 : l.length ≤ n
  · rw [if_pos (by omega), if_pos h1]
    rfl
  · rw [if_neg (by omega), if_neg h1]
    obtain ⟨p, rfl⟩ : ∃ p, q = p + n + 1 := ⟨q - n - 1, by omega⟩
    have hl1 := take_l1 h hl n hle s2 (by omega) n 0 p (by omega) (by omega)
    have e : (if fol (vN l n n) ≠ n then ((0, 0, 4) : Int × Int × Int) else ((vN l n n : Int), ((1 + n : Nat) : Int), 0)) = (((if fol (vN l n n) ≠ n then ((0, 0, 4) : Nat × Nat × Int) else (vN l n n, 1 + n, 0)).1 : Int), ((if fol (vN l n n) ≠ n then ((0, 0, 4) : Nat × Nat × Int) else (vN l n n, 1 + n, 0)).2.1 : Int), (if fol (vN l n n) ≠ n then ((0, 0, 4) : Nat × Nat × Int) else (vN l n n, 1 + n, 0)).2.2) := by split <;> rfl
    rw [e] at hl1
    have hrv : rv l n 0 = bits .and .u64 (IntKind.u64.wrap (rd l 0)) (127 / 2 ^ n) := rfl
    rw [hrv, ← hfa] at hl1
    by_cases h7 : (n : Int) < 7
    · rw [if_pos h7, if_pos (by omega), if_pos (by omega)]
      rw [if_pos h7] at hl1
      simp only [encoreref02_take.j2]
      exact hl1
    · rw [if_neg h7]
      rw [if_neg h7] at hl1
      simp only [encoreref02_take.j2]
      exact hl1
theorem take_l0 {l : List Int} (h : Bytes l) (hl : l.length < 140737488355328) (h0 : l.length ≠ 0) (d : Nat) : ∀ (m k : Nat), m + d = lead (rd l 0) → 40 ≤ k →
    encoreref02_take.l0 (k + d + 1) l m = some (((takeR l).1 : Int), ((takeR l).2.1 : Int), (takeR l).2.2) := by
  have hx := h.at_ 0
  have hle := lead_le (rd l 0)
  induction d with
  | zero =>
    intro m k hm hk
    simp only [encoreref02_take.l0]
    by_cases h8 : m < 8
    · have hc := (cond_all ⟨(rd l 0).toNat, by omega⟩ ⟨m, h8⟩).2
      simp only [show (((rd l 0).toNat : Nat) : Int) = rd l 0 by omega] at hc
      rw [if_pos (by omega), if_pos (by omega), if_pos (by unfold wrap64; omega), if_neg (hc (by omega))]
      obtain rfl : m = lead (rd l 0) := by omega
      exact take_j1 h hl h0 k hk
    · rw [if_neg (by omega)]
      obtain rfl : m = lead (rd l 0) := by omega
      exact take_j1 h hl h0 k hk
  | succ d ih =>
    intro m k hm hk
    rw [show k + (d + 1) + 1 = (k + d + 1) + 1 by omega]
    simp only [encoreref02_take.l0]
    have hc := (cond_all ⟨(rd l 0).toNat, by omega⟩ ⟨m, by omega⟩).1
    simp only [show (((rd l 0).toNat : Nat) : Int) = rd l 0 by omega] at hc
    rw [if_pos (by omega), if_pos (by omega), if_pos (by unfold wrap64; omega), if_pos (hc (by omega)), show wrap64 ((m : Int) + 1) = ((m + 1 : Nat) : Int) by unfold wrap64; omega]
    exact ih (m + 1) k (by omega) hk
theorem take_eq {l : List Int} (h : Bytes l) (hl : l.length < 140737488355328) (k : Nat) (hk : 60 ≤ k) : encoreref02_take.f k l = some (((takeR l).1 : Int), ((takeR l).2.1 : Int), (takeR l).2.2) := by
  unfold encoreref02_take.f
  by_cases h0 : l.length = 0
  · rw [if_pos (by omega)]
    unfold takeR
    rw [if_pos h0]
    rfl
  · rw [if_neg (by omega)]
    have hle := lead_le (rd l 0)
    obtain ⟨q, rfl⟩ : ∃ q, k = q + lead (rd l 0) + 1 := ⟨k - lead (rd l 0) - 1, by omega⟩
    exact take_l0 h hl h0 (lead (rd l 0)) 0 q (by omega) (by omega)

/-! ### TakeNum, TakeInt, TakeText -/
theorem takeNum_eq (l : List Int) (hl : l.length < 140737488355328) : bin_TakeNum.f l = some (readF numberF l) := by
  unfold bin_TakeNum.f
  rw [if_pos hl]
theorem numberF_eq (v : Nat) (hv : v < 18446744073709551616) : numberF v = if v > 9007199254740991 then (0, 4) else ((v : Int), 0) := by
  unfold numberF
  by_cases h : v > 9007199254740991
  · rw [if_pos (by omega), if_pos h]
  · rw [if_neg (by omega), if_neg h]
    congr 1
    unfold wrap64
    omega
theorem ref_takeNum_eq {l : List Int} (h : Bytes l) (hl : l.length < 140737488355328) (k : Nat) (hk : 60 ≤ k) : encoreref02_TakeNum.f k l = some (readF numberF l) := by
  unfold encoreref02_TakeNum.f
  have hv := takeR_lt h
  have hr := @takeR_room l
  have e := read_take numberF h
  rw [numberF_eq _ hv] at e
  rw [take_eq h hl k hk]
  simp only [Option.bind_some]
  by_cases h0 : (takeR l).2.2 = 0
  · rw [if_pos h0]
    rw [if_neg (fun hc => hc h0)] at e
    by_cases h1 : (takeR l).1 > 9007199254740991
    · rw [if_pos h1, if_pos (show ((0, 4) : Int × Int).2 ≠ 0 by decide)] at e
      rw [e, if_pos (by omega)]
    · rw [if_neg h1, if_neg (show ¬ ((((takeR l).1 : Int), 0) : Int × Int).2 ≠ 0 by simp)] at e
      rw [e, if_neg (by omega), if_pos (by omega), if_pos (by omega), Int.toNat_natCast, copy_eq _ (by simp; omega), Option.bind_some]
      rw [show wrap64 ((takeR l).1 : Int) = ((takeR l).1 : Int) by unfold wrap64; omega]
  · rw [if_neg h0]
    rw [if_pos h0] at e
    rw [e]
theorem read_num_nonneg {l : List Int} (h : Bytes l) : 0 ≤ (readF numberF l).1 := by
  have hv := takeR_lt h
  rw [read_take numberF h, numberF_eq _ hv]
  split
  · exact Int.le_refl _
  · split
    · exact Int.le_refl _
    · split
      · exact Int.le_refl _
      · exact Int.natCast_nonneg _
theorem read_len (af : Int → Int × Int) (l : List Int) : (readF af l).2.1.length ≤ l.length := by
  unfold readF
  split
  · simp
  · split
    · simp
    · split
      · simp
      · split
        · simp
        · simp
theorem read_bytes (af : Int → Int × Int) {l : List Int} (h : Bytes l) : Bytes (readF af l).2.1 := by
  have hn : Bytes [] := fun x hx => by cases hx
  unfold readF
  split
  · exact hn
  · split
    · exact hn
    · split
      · exact hn
      · split
        · exact hn
        · exact h.drop _
end Go.Proofs.Ytgfjijfjlbjajaa.BinLink
