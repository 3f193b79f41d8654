/- What chapter 2's walked functions come to, in the words of the plain law of wholes. -/
import Derived.Test.YtpkkljlgggfmoaaBinMath
namespace Go.Proofs.Ytpkkljlgggfmoaa.BinLink
open Go Go.RowKit Go.Proofs.YtpkkljlgggfmoaaW.PrintWords Go.Proofs.YtpkkljlgggfmoaaW.PrintMore Go.Proofs.Ytpkkljlgggfmoaa.Base Go.Proofs.Ytpkkljlgggfmoaa.Ext Go.Proofs.Ytpkkljlgggfmoaa.Mid Go.Proofs.Ytpkkljlgggfmoaa.Tt Go.Proofs.Ytpkkljlgggfmoaa.BinMath
set_option linter.unusedVariables false
set_option linter.unusedSimpArgs false

/-- a whole's bytes -/
def W (v : Nat) : List Int := wrL (fol v) v
theorem W_len (v : Nat) : (W v).length = fol v + 1 := wrL_len _ _
theorem W_le (v : Nat) : (W v).length ≤ 9 := by have := fol_le v; rw [W_len]; omega
theorem written_eq (v : Nat) (hv : v < 18446744073709551616) : bin_written.f (v : Int) = some (W v) := by
  unfold bin_written.f
  rw [if_pos (by omega), Int.toNat_natCast]
  rfl

/-! ### the reference's bytes -/
theorem shr_nat (k : IntKind) (v e : Nat) (he : e ≤ k.bits) : shr k (v : Int) (e : Int) = ((v / 2 ^ e : Nat) : Int) := by
  unfold shr
  rw [Int.toNat_natCast, Nat.min_eq_left he]
  norm_cast
/-- the reference's end: the ones that tell how many follow -/
def fin (more : Nat) (out : List Int) : List Int := if more < 8 then out.set 0 (bits .or .u8 (rd out 0) ((shr .i64 65280 more) % 256)) else out
theorem bytes_l1 (v : Nat) (hv : v < 18446744073709551616) (more : Nat) (hm : more ≤ 8) (m : Nat) : ∀ (k : Nat) (out : List Int), m ≤ 8 → out.length ≤ 9 - m → 0 < out.length + m →
    encoreref02_bytes.l1 (k + m + 1) v more out ((m : Int) - 1) = some (fin more (out ++ be m v)) := by
  induction m with
  | zero =>
    intro k out _ hl hp
    simp only [encoreref02_bytes.l1, be, List.append_nil]
    rw [if_neg (by omega)]
    unfold fin
    by_cases h8 : more < 8
    · rw [if_pos (by omega), if_pos (by omega), if_pos (by omega), if_pos h8]
      rfl
    · rw [if_neg (by omega), if_neg h8]
  | succ m ih =>
    intro k out h8 hl hp
    rw [show k + (m + 1) + 1 = (k + m + 1) + 1 by omega]
    rw [encoreref02_bytes.l1]
    rw [show ((m + 1 : Nat) : Int) - 1 = (m : Int) by omega]
    rw [show wrap64 (8 * (m : Int)) = ((8 * m : Nat) : Int) by unfold wrap64; omega, show wrap64 ((m : Int) - 1) = (m : Int) - 1 by unfold wrap64; omega]
    rw [if_pos (by omega), if_pos (by omega), if_pos (by omega), shr_nat .u64 v (8 * m) (by show 8 * m ≤ 64; omega)]
    have h := ih k (out ++ [((v / 2 ^ (8 * m) : Nat) : Int) % 256]) (by omega) (by simp; omega) (by simp; omega)
    rw [h]
    simp only [be, List.append_assoc, List.singleton_append]
    rw [show (256 : Nat) = 2 ^ 8 from rfl, ← Nat.pow_mul]
    simp
theorem ones_all : ∀ n : Fin 8, (shr .i64 65280 (n.val : Int)) % 256 = bits .xor .u8 IntKind.u8.max (255 / 2 ^ n.val) := by decide +kernel
theorem bytes_j1 (v : Nat) (hv : v < 18446744073709551616) (k : Nat) (hk : 11 ≤ k) : encoreref02_bytes.j1 k v (fol v) = some (W v) := by
  have hf := fol_le v
  obtain ⟨k, rfl⟩ : ∃ q, k = q + 2 := ⟨k - 2, by omega⟩
  simp only [encoreref02_bytes.j1]
  by_cases h8 : fol v = 8
  · rw [if_pos (by omega), if_pos (by simp)]
    simp only [encoreref02_bytes.j2, List.nil_append]
    rw [h8, show mn ((8 : Nat) : Int) 7 = ((8 : Nat) : Int) - 1 by decide]
    obtain ⟨q, rfl⟩ : ∃ q, k = q + 8 + 1 := ⟨k - 9, by omega⟩
    rw [bytes_l1 v hv 8 (by omega) 8 q [255] (by omega) (by simp) (by simp)]
    have ht := top_lt v hv
    rw [h8] at ht
    have hh := headI_eq v hv
    rw [h8] at hh
    unfold W wrL
    rw [h8, hh, hb_is 8 _ (by omega) ht]
    have : v / 256 ^ 8 = 0 := by simp at ht; omega
    rw [this]
    simp [fin]
  · rw [if_neg (by omega)]
    simp only [encoreref02_bytes.j2]
    rw [show mn ((fol v : Nat) : Int) 7 = ((fol v + 1 : Nat) : Int) - 1 by unfold mn; split <;> omega]
    obtain ⟨q, rfl⟩ : ∃ q, k = q + (fol v + 1) + 1 := ⟨k - (fol v + 2), by omega⟩
    rw [bytes_l1 v hv (fol v) (by omega) (fol v + 1) q [] (by omega) (by simp) (by omega)]
    unfold fin
    rw [if_pos (by omega), ones_all ⟨fol v, by omega⟩]
    rfl
theorem bytes_l0 (v : Nat) (hv : v < 18446744073709551616) (d : Nat) : ∀ (m k : Nat), m + d = fol v → 11 ≤ k → encoreref02_bytes.l0 (k + d + 1) v m = some (W v) := by
  induction d with
  | zero =>
    intro m k hm hk
    have hf := fol_le v
    obtain rfl : m = fol v := by omega
    simp only [encoreref02_bytes.l0]
    by_cases h8 : fol v < 8
    · rw [if_pos (by omega), show wrap64 (7 * wrap64 ((fol v : Int) + 1)) = ((7 * (fol v + 1) : Nat) : Int) by unfold wrap64; omega, if_pos (by omega), shr_nat .u64 v _ (by show 7 * (fol v + 1) ≤ 64; omega)]
      have h := (lt_fol v (fol v) hv h8).1
      have h0 : v / 2 ^ (7 * (fol v + 1)) = 0 := Nat.div_eq_of_lt (by
        apply Nat.lt_of_not_le
        intro hc
        exact absurd (h hc) (by omega))
      rw [h0, if_neg (by simp)]
      exact bytes_j1 v hv k hk
    · rw [if_neg (by omega)]
      exact bytes_j1 v hv k hk
  | succ d ih =>
    intro m k hm hk
    have hf := fol_le v
    rw [show k + (d + 1) + 1 = (k + d + 1) + 1 by omega]
    simp only [encoreref02_bytes.l0]
    rw [if_pos (by omega), show wrap64 (7 * wrap64 ((m : Int) + 1)) = ((7 * (m + 1) : Nat) : Int) by unfold wrap64; omega, if_pos (by omega), shr_nat .u64 v _ (by show 7 * (m + 1) ≤ 64; omega)]
    have h := (lt_fol v m hv (by omega)).2 (by omega)
    have h0 : 0 < v / 2 ^ (7 * (m + 1)) := Nat.div_pos h (Nat.pow_pos (by decide))
    rw [if_pos (by omega), show wrap64 ((m : Int) + 1) = ((m + 1 : Nat) : Int) by unfold wrap64; omega]
    exact ih (m + 1) k (by omega) hk
theorem bytes_eq (v : Nat) (hv : v < 18446744073709551616) (k : Nat) (hk : 20 ≤ k) : encoreref02_bytes.f k v = some (W v) := by
  have hf := fol_le v
  unfold encoreref02_bytes.f
  obtain ⟨q, rfl⟩ : ∃ q, k = q + fol v + 1 := ⟨k - fol v - 1, by omega⟩
  exact bytes_l0 v hv (fol v) 0 q (by omega) (by omega)

/-! ### Num, Int, Text -/
def numR (n : Int) : List Int × Int := if n < 0 then ([], 9) else if n > 9007199254740991 then ([], 9) else (W n.toNat, 0)
theorem num_eq (n : Int) : bin_Num.f n = some (numR n) := by
  unfold bin_Num.f numR
  split
  · rfl
  · split
    · rfl
    · obtain ⟨m, rfl⟩ := Int.eq_ofNat_of_zero_le (show 0 ≤ n by omega)
      rw [wrap_u64 _ (by omega) (by omega), written_eq m (by omega)]
      rfl
theorem ref_num_eq (n : Int) (k : Nat) (hk : 20 ≤ k) : encoreref02_Num.f k n = some (numR n) := by
  unfold encoreref02_Num.f numR
  split
  · rfl
  · split
    · rfl
    · obtain ⟨m, rfl⟩ := Int.eq_ofNat_of_zero_le (show 0 ≤ n by omega)
      rw [wrap_u64 _ (by omega) (by omega), bytes_eq m (by omega) k hk]
      rfl
/-- ints as wholes, by turns -/
def zig (n : Int) : Nat := if n < 0 then (-2 * n - 1).toNat else (2 * n).toNat
theorem zig_lt (n : Int) (h : -9223372036854775808 ≤ n ∧ n ≤ 9223372036854775807) : zig n < 18446744073709551616 := by
  unfold zig
  split <;> omega
theorem int_eq (n : Int) (h : -9223372036854775808 ≤ n ∧ n ≤ 9223372036854775807) : bin_Int.f n = some (W (zig n)) := by
  have hz := zig_lt n h
  unfold bin_Int.f
  have e : bits .xor .u64 (IntKind.u64.wrap (IntKind.u64.wrap n * 2)) (IntKind.u64.wrap (n / 9223372036854775808)) = (zig n : Int) := by
    unfold zig at *
    by_cases hn : n < 0
    · rw [if_pos hn] at *
      have e1 : IntKind.u64.wrap (IntKind.u64.wrap n * 2) = ((2 * n + 18446744073709551616).toNat : Int) := by rw [wrap_u64', wrap_u64']; omega
      have e2 : IntKind.u64.wrap (n / 9223372036854775808) = ((18446744073709551615 : Nat) : Int) := by rw [wrap_u64']; omega
      rw [e1, e2, xor64 _ _ (by omega) (by omega), xor_ones _ (by omega)]
      omega
    · rw [if_neg hn] at *
      have e1 : IntKind.u64.wrap (IntKind.u64.wrap n * 2) = ((2 * n).toNat : Int) := by rw [wrap_u64', wrap_u64']; omega
      have e2 : IntKind.u64.wrap (n / 9223372036854775808) = ((0 : Nat) : Int) := by rw [wrap_u64']; omega
      rw [e1, e2, xor64 _ _ (by omega) (by omega), Nat.xor_zero]
  rw [e, written_eq _ hz]
  rfl
theorem ref_int_eq (n : Int) (h : -9223372036854775808 ≤ n ∧ n ≤ 9223372036854775807) (k : Nat) (hk : 20 ≤ k) : encoreref02_Int.f k n = some (W (zig n)) := by
  have hz := zig_lt n h
  unfold encoreref02_Int.f
  by_cases hn : n < 0
  · have e : IntKind.u64.wrap (IntKind.u64.wrap (IntKind.u64.wrap (wrap64 (-(wrap64 (n + 1)))) * 2) + 1) = (zig n : Int) := by
      unfold zig wrap64
      rw [if_pos hn, wrap_u64', wrap_u64', wrap_u64']
      omega
    rw [if_pos hn, e, bytes_eq _ hz k hk]
    rfl
  · have e : IntKind.u64.wrap (IntKind.u64.wrap n * 2) = (zig n : Int) := by
      unfold zig
      rw [if_neg hn, wrap_u64', wrap_u64']
      omega
    rw [if_neg hn, e, bytes_eq _ hz k hk]
    rfl
def textR (s : ByteArray) (most : Int) : List Int × Int := if (s.size : Int) > 9007199254740991 then ([], 5) else if (s.size : Int) > most then ([], 5) else (W s.size ++ bytesOf s, 0)
theorem numR_nat (n : Nat) : numR (n : Int) = if (n : Int) > 9007199254740991 then ([], 9) else (W n, 0) := by
  unfold numR
  rw [if_neg (by omega), Int.toNat_natCast]
theorem text_eq (s : ByteArray) (most : Int) (hs : s.size ≤ 140737488351232) : bin_Text.f s most = some (textR s most) := by
  have hl := W_le s.size
  unfold bin_Text.f textR
  rw [num_eq, numR_nat, if_neg (by omega), if_neg (by omega)]
  simp only [Option.bind_some]
  rw [if_pos trivial]
  by_cases hm : (s.size : Int) > most
  · rw [if_pos hm, if_pos hm]
  · rw [if_neg hm, if_neg hm, if_pos (by omega)]
theorem ref_text_eq (s : ByteArray) (most : Int) (hs : s.size ≤ 140737488351232) (k : Nat) (hk : 20 ≤ k) : encoreref02_Text.f k s most = some (textR s most) := by
  have hl := W_le s.size
  unfold encoreref02_Text.f textR
  rw [ref_num_eq _ k hk, numR_nat, if_neg (by omega), if_neg (by omega)]
  simp only [Option.bind_some]
  rw [if_pos trivial]
  by_cases hm : (s.size : Int) > most
  · rw [if_pos hm, if_pos hm]
  · rw [if_neg hm, if_neg hm, if_pos (by omega)]

/-! ### EqBytes, CopyBytes -/
theorem eq_loop (l : List Int) (hl : l.length ≤ 140737488355328) (d : Nat) : ∀ (k i : Nat), i + d = l.length → d < k → encoreref00_EqBytes.l0 k l l i = some true := by
  induction d with
  | zero =>
    intro k i hi hk
    obtain ⟨k, rfl⟩ : ∃ n, k = n + 1 := ⟨k - 1, by omega⟩
    simp only [encoreref00_EqBytes.l0]
    rw [if_neg (by omega)]
  | succ d ih =>
    intro k i hi hk
    obtain ⟨k, rfl⟩ : ∃ n, k = n + 1 := ⟨k - 1, by omega⟩
    simp only [encoreref00_EqBytes.l0]
    rw [if_pos (by omega), if_pos (by omega), if_pos (by omega), if_pos trivial, show wrap64 ((i : Int) + 1) = ((i + 1 : Nat) : Int) by unfold wrap64; omega]
    exact ih k (i + 1) (by omega) (by omega)
theorem eq_same (l : List Int) (hl : l.length ≤ 140737488355328) (k : Nat) (hk : l.length < k) : encoreref00_EqBytes.f k l l = some true := by
  unfold encoreref00_EqBytes.f
  rw [if_pos rfl]
  exact eq_loop l hl l.length k 0 (by omega) hk
theorem copy_eq (l : List Int) (hl : l.length < 140737488355328) : encoreref00_CopyBytes.f l = some l := by
  unfold encoreref00_CopyBytes.f
  rw [if_pos (by simpa using hl)]
  simp

/-! ### what is read -/
/-- a whole of 64 bits off bytes, how many it has, what is told -/
def takeR (l : List Int) : Nat × Nat × Int :=
  if l.length = 0 then (0, 0, 3)
  else if l.length ≤ lead (rd l 0) then (0, 0, 3)
  else if fol (vN l (lead (rd l 0)) (lead (rd l 0))) ≠ lead (rd l 0) then (0, 0, 4)
  else (vN l (lead (rd l 0)) (lead (rd l 0)), 1 + lead (rd l 0), 0)
theorem vN_lt64 {l : List Int} (h : Bytes l) : vN l (lead (rd l 0)) (lead (rd l 0)) < 18446744073709551616 := by
  have hx := h.at_ 0
  have s2 := (lead_spec _ hx.1 hx.2).2
  exact Nat.lt_of_lt_of_le (vN_lt h _ s2 _) (room _ _ (lead_le _) (Nat.le_refl _))
theorem rv_lead {l : List Int} (h : Bytes l) : rv l (lead (rd l 0)) (lead (rd l 0)) = (vN l (lead (rd l 0)) (lead (rd l 0)) : Int) := by
  have hx := h.at_ 0
  exact rv_eq h _ (lead_le _) (lead_spec _ hx.1 hx.2).2 _ (Nat.le_refl _)
theorem takeR_lt {l : List Int} (h : Bytes l) : (takeR l).1 < 18446744073709551616 := by
  have := vN_lt64 h
  unfold takeR
  split
  · simp
  · split
    · simp
    · split
      · simp
      · exact this
theorem takeR_room {l : List Int} : (takeR l).2.1 ≤ l.length := by
  unfold takeR
  split
  · simp
  · split
    · simp
    · split
      · simp
      · show 1 + lead (rd l 0) ≤ l.length
        omega
theorem read_take (af : Int → Int × Int) {l : List Int} (h : Bytes l) : readF af l = if (takeR l).2.2 ≠ 0 then (0, [], (takeR l).2.2) else if (af (takeR l).1).2 ≠ 0 then (0, [], (af (takeR l).1).2) else ((af (takeR l).1).1, l.drop (takeR l).2.1, 0) := by
  unfold readF takeR
  by_cases h0 : l.length = 0
  · rw [if_pos h0, if_pos h0, if_pos (by decide)]
  · rw [if_neg h0, if_neg h0]
    by_cases h1 : l.length ≤ lead (rd l 0)
    · rw [if_pos h1, if_pos h1, if_pos (by decide)]
    · rw [if_neg h1, if_neg h1, rv_lead h, Int.toNat_natCast]
      by_cases h2 : fol (vN l (lead (rd l 0)) (lead (rd l 0))) ≠ lead (rd l 0)
      · rw [if_pos h2, if_pos h2, if_pos (by decide)]
      · rw [if_neg h2, if_neg h2]
        simp
theorem cond_all : ∀ x : Fin 256, ∀ m : Fin 8, (m.val < lead (x.val : Int) → bits .and .u8 (shr .u8 (x.val : Int) (wrap64 (7 - (m.val : Int)))) 1 = 1) ∧ (m.val = lead (x.val : Int) → bits .and .u8 (shr .u8 (x.val : Int) (wrap64 (7 - (m.val : Int)))) 1 ≠ 1) := by decide +kernel
theorem first_all : ∀ x : Fin 256, ∀ n : Fin 9, (if (n.val : Int) < 7 then IntKind.u64.wrap (bits .and .u8 (x.val : Int) (shr .u8 127 (n.val : Int))) else 0) = bits .and .u64 (IntKind.u64.wrap (x.val : Int)) (127 / 2 ^ n.val) := by decide +kernel
theorem take_l1 {l : List Int} (h : Bytes l) (hl : l.length < 140737488355328) (n : Nat) (hn : n ≤ 8) (hy : (rd l 0).toNat &&& (127 / 2 ^ n) < 2 ^ (7 - n)) (hr : n < l.length) (d : Nat) : ∀ (j k : Nat), j + d = n → 20 ≤ k →
    encoreref02_take.l1 (k + d + 1) l n (rv l n j) ((j : Int) + 1) = some (if fol (vN l n n) ≠ n then (0, 0, 4) else ((vN l n n : Int), ((1 + n : Nat) : Int), 0)) := by
  induction d with
  | zero =>
    intro j k hj hk
    obtain rfl : j = n := by omega
    simp only [encoreref02_take.l1]
    have hv : vN l j j < 18446744073709551616 := Nat.lt_of_lt_of_le (vN_lt h j hy j) (room j j hn (Nat.le_refl _))
    rw [if_neg (by omega), rv_eq h j hn hy j (Nat.le_refl _), bytes_eq _ hv k hk, Option.bind_some, W_len, show wrap64 (1 + (j : Int)) = ((1 + j : Nat) : Int) by unfold wrap64; omega]
    by_cases hf : fol (vN l j j) = j
    · rw [if_pos (by omega), if_neg (by omega)]
    · rw [if_neg (by omega), if_pos hf]
  | succ d ih =>
    intro j k hj hk
    rw [show k + (d + 1) + 1 = (k + d + 1) + 1 by omega]
    rw [encoreref02_take.l1]
    rw [if_pos (by omega), if_pos (by omega), if_pos (by omega)]
    have := ih (j + 1) k (by omega) hk
    rw [← this]
    simp only [rv]
    rw [show wrap64 ((j : Int) + 1 + 1) = ((j + 1 : Nat) : Int) + 1 by unfold wrap64; omega, show (j : Int) + 1 = ((j + 1 : Nat) : Int) by omega]
theorem take_j1 {l : List Int} (h : Bytes l) (hl : l.length < 140737488355328) (h0 : l.length ≠ 0) (k : Nat) (hk : 40 ≤ k) :
    encoreref02_take.j1 k l (lead (rd l 0)) = some (((takeR l).1 : Int), ((takeR l).2.1 : Int), (takeR l).2.2) := by
  have hx := h.at_ 0
  have hle := lead_le (rd l 0)
  have s2 := (lead_spec _ hx.1 hx.2).2
  have hfa := first_all ⟨(rd l 0).toNat, by omega⟩ ⟨lead (rd l 0), by omega⟩
  simp only [show (((rd l 0).toNat : Nat) : Int) = rd l 0 by omega] at hfa
  obtain ⟨q, rfl⟩ : ∃ q, k = q + 2 := ⟨k - 2, by omega⟩
  unfold takeR
  rw [if_neg h0]
  generalize hn : lead (rd l 0) = n at *
  simp only [encoreref02_take.j1]
  rw [show wrap64 (1 + (n : Int)) = ((1 + n : Nat) : Int) by unfold wrap64; omega]
  by_cases h1 : l.length ≤ n
  · rw [if_pos (by omega), if_pos h1]
    rfl
  · rw [if_neg (by omega), if_neg h1]
    obtain ⟨p, rfl⟩ : ∃ p, q = p + n + 1 := ⟨q - n - 1, by omega⟩
    have hl1 := take_l1 h hl n hle s2 (by omega) n 0 p (by omega) (by omega)
    have e : (if fol (vN l n n) ≠ n then ((0, 0, 4) : Int × Int × Int) else ((vN l n n : Int), ((1 + n : Nat) : Int), 0)) = (((if fol (vN l n n) ≠ n then ((0, 0, 4) : Nat × Nat × Int) else (vN l n n, 1 + n, 0)).1 : Int), ((if fol (vN l n n) ≠ n then ((0, 0, 4) : Nat × Nat × Int) else (vN l n n, 1 + n, 0)).2.1 : Int), (if fol (vN l n n) ≠ n then ((0, 0, 4) : Nat × Nat × Int) else (vN l n n, 1 + n, 0)).2.2) := by split <;> rfl
    rw [e] at hl1
    have hrv : rv l n 0 = bits .and .u64 (IntKind.u64.wrap (rd l 0)) (127 / 2 ^ n) := rfl
    rw [hrv, ← hfa] at hl1
    by_cases h7 : (n : Int) < 7
    · rw [if_pos h7, if_pos (by omega), if_pos (by omega)]
      rw [if_pos h7] at hl1
      simp only [encoreref02_take.j2]
      exact hl1
    · rw [if_neg h7]
      rw [if_neg h7] at hl1
      simp only [encoreref02_take.j2]
      exact hl1
theorem take_l0 {l : List Int} (h : Bytes l) (hl : l.length < 140737488355328) (h0 : l.length ≠ 0) (d : Nat) : ∀ (m k : Nat), m + d = lead (rd l 0) → 40 ≤ k →
    encoreref02_take.l0 (k + d + 1) l m = some (((takeR l).1 : Int), ((takeR l).2.1 : Int), (takeR l).2.2) := by
  have hx := h.at_ 0
  have hle := lead_le (rd l 0)
  induction d with
  | zero =>
    intro m k hm hk
    simp only [encoreref02_take.l0]
    by_cases h8 : m < 8
    · have hc := (cond_all ⟨(rd l 0).toNat, by omega⟩ ⟨m, h8⟩).2
      simp only [show (((rd l 0).toNat : Nat) : Int) = rd l 0 by omega] at hc
      rw [if_pos (by omega), if_pos (by omega), if_pos (by unfold wrap64; omega), if_neg (hc (by omega))]
      obtain rfl : m = lead (rd l 0) := by omega
      exact take_j1 h hl h0 k hk
    · rw [if_neg (by omega)]
      obtain rfl : m = lead (rd l 0) := by omega
      exact take_j1 h hl h0 k hk
  | succ d ih =>
    intro m k hm hk
    rw [show k + (d + 1) + 1 = (k + d + 1) + 1 by omega]
    simp only [encoreref02_take.l0]
    have hc := (cond_all ⟨(rd l 0).toNat, by omega⟩ ⟨m, by omega⟩).1
    simp only [show (((rd l 0).toNat : Nat) : Int) = rd l 0 by omega] at hc
    rw [if_pos (by omega), if_pos (by omega), if_pos (by unfold wrap64; omega), if_pos (hc (by omega)), show wrap64 ((m : Int) + 1) = ((m + 1 : Nat) : Int) by unfold wrap64; omega]
    exact ih (m + 1) k (by omega) hk
theorem take_eq {l : List Int} (h : Bytes l) (hl : l.length < 140737488355328) (k : Nat) (hk : 60 ≤ k) : encoreref02_take.f k l = some (((takeR l).1 : Int), ((takeR l).2.1 : Int), (takeR l).2.2) := by
  unfold encoreref02_take.f
  by_cases h0 : l.length = 0
  · rw [if_pos (by omega)]
    unfold takeR
    rw [if_pos h0]
    rfl
  · rw [if_neg (by omega)]
    have hle := lead_le (rd l 0)
    obtain ⟨q, rfl⟩ : ∃ q, k = q + lead (rd l 0) + 1 := ⟨k - lead (rd l 0) - 1, by omega⟩
    exact take_l0 h hl h0 (lead (rd l 0)) 0 q (by omega) (by omega)

/-! ### TakeNum, TakeInt, TakeText -/
theorem takeNum_eq (l : List Int) (hl : l.length < 140737488355328) : bin_TakeNum.f l = some (readF numberF l) := by
  unfold bin_TakeNum.f
  rw [if_pos hl]
theorem takeInt_eq (l : List Int) (hl : l.length < 140737488355328) : bin_TakeInt.f l = some (readF wholeF l) := by
  unfold bin_TakeInt.f
  rw [if_pos hl]
/-- a whole as an int, by turns -/
def zag (v : Nat) : Int := if v % 2 = 1 then -((v / 2 : Nat) : Int) - 1 else ((v / 2 : Nat) : Int)
theorem wholeF_eq (v : Nat) (hv : v < 18446744073709551616) : wholeF v = (zag v, 0) := by
  unfold wholeF zag
  have e1 : (1 : Int) = ((1 : Nat) : Int) := rfl
  rw [e1, and64 v 1 hv (by omega), Nat.and_one_is_mod]
  rw [show (v : Int) / 2 = ((v / 2 : Nat) : Int) by omega]
  by_cases h : v % 2 = 1
  · have e2 : IntKind.u64.wrap (-((v % 2 : Nat) : Int)) = ((18446744073709551615 : Nat) : Int) := by rw [wrap_u64']; omega
    rw [e2, xor64 _ _ (by omega) (by omega), xor_ones _ (by omega), if_pos h]
    congr 1
    unfold wrap64
    omega
  · have e2 : IntKind.u64.wrap (-((v % 2 : Nat) : Int)) = ((0 : Nat) : Int) := by rw [wrap_u64']; omega
    rw [e2, xor64 _ _ (by omega) (by omega), Nat.xor_zero, if_neg h]
    congr 1
    unfold wrap64
    omega
theorem zag_zig (n : Int) : zag (zig n) = n := by
  unfold zag zig
  split <;> split <;> omega
theorem zig_zag (v : Nat) : zig (zag v) = v := by
  unfold zag zig
  split <;> split <;> omega
theorem zag_range (v : Nat) (hv : v < 18446744073709551616) : -9223372036854775808 ≤ zag v ∧ zag v ≤ 9223372036854775807 := by
  unfold zag
  split <;> omega
theorem numberF_eq (v : Nat) (hv : v < 18446744073709551616) : numberF v = if v > 9007199254740991 then (0, 4) else ((v : Int), 0) := by
  unfold numberF
  by_cases h : v > 9007199254740991
  · rw [if_pos (by omega), if_pos h]
  · rw [if_neg (by omega), if_neg h]
    congr 1
    unfold wrap64
    omega
theorem ref_takeNum_eq {l : List Int} (h : Bytes l) (hl : l.length < 140737488355328) (k : Nat) (hk : 60 ≤ k) : encoreref02_TakeNum.f k l = some (readF numberF l) := by
  unfold encoreref02_TakeNum.f
  have hv := takeR_lt h
  have hr := @takeR_room l
  have e := read_take numberF h
  rw [numberF_eq _ hv] at e
  rw [take_eq h hl k hk]
  simp only [Option.bind_some]
  by_cases h0 : (takeR l).2.2 = 0
  · rw [if_pos h0]
    rw [if_neg (fun hc => hc h0)] at e
    by_cases h1 : (takeR l).1 > 9007199254740991
    · rw [if_pos h1, if_pos (show ((0, 4) : Int × Int).2 ≠ 0 by decide)] at e
      rw [e, if_pos (by omega)]
    · rw [if_neg h1, if_neg (show ¬ ((((takeR l).1 : Int), 0) : Int × Int).2 ≠ 0 by simp)] at e
      rw [e, if_neg (by omega), if_pos (by omega), if_pos (by omega), Int.toNat_natCast, copy_eq _ (by simp; omega), Option.bind_some]
      rw [show wrap64 ((takeR l).1 : Int) = ((takeR l).1 : Int) by unfold wrap64; omega]
  · rw [if_neg h0]
    rw [if_pos h0] at e
    rw [e]
theorem ref_takeInt_eq {l : List Int} (h : Bytes l) (hl : l.length < 140737488355328) (k : Nat) (hk : 60 ≤ k) : encoreref02_TakeInt.f k l = some (readF wholeF l) := by
  unfold encoreref02_TakeInt.f
  have hv := takeR_lt h
  have hr := @takeR_room l
  have e := read_take wholeF h
  rw [wholeF_eq _ hv] at e
  rw [take_eq h hl k hk]
  simp only [Option.bind_some]
  by_cases h0 : (takeR l).2.2 = 0
  · rw [if_neg (fun hc => hc h0), if_neg (show ¬ ((zag (takeR l).1, 0) : Int × Int).2 ≠ 0 by simp)] at e
    rw [e, if_pos h0, Int.tmod_eq_emod_of_nonneg (by omega), Int.tdiv_eq_ediv_of_nonneg (by omega)]
    unfold zag
    by_cases h1 : (takeR l).1 % 2 = 1
    · rw [if_pos (by omega), if_pos h1, if_pos (show (0 : Int) ≤ ((takeR l).2.1 : Int) by omega), if_pos (show ((takeR l).2.1 : Int) ≤ (l.length : Int) by omega), Int.toNat_natCast, copy_eq _ (by simp; omega), Option.bind_some]
      congr 2
      rw [wrap_u64']
      unfold wrap64
      omega
    · rw [if_neg (by omega), if_neg h1, if_pos (show (0 : Int) ≤ ((takeR l).2.1 : Int) by omega), if_pos (show ((takeR l).2.1 : Int) ≤ (l.length : Int) by omega), Int.toNat_natCast, copy_eq _ (by simp; omega), Option.bind_some]
      have e2 : wrap64 (IntKind.u64.wrap (((takeR l).1 : Int) / 2)) = (((takeR l).1 / 2 : Nat) : Int) := by
        rw [wrap_u64']
        unfold wrap64
        omega
      rw [e2]
  · rw [if_pos h0] at e
    rw [if_neg h0, e]
/-- a text off bytes -/
def textOff (l : List Int) (most : Int) : ByteArray × List Int × Int :=
  if (readF numberF l).2.2 = 0 then
    if (readF numberF l).1 > most then (⟨#[]⟩, [], 5)
    else if (readF numberF l).1 > ((readF numberF l).2.1.length : Int) then (⟨#[]⟩, [], 3)
    else (strOfNums ((readF numberF l).2.1.take (readF numberF l).1.toNat), (readF numberF l).2.1.drop (readF numberF l).1.toNat, 0)
  else (⟨#[]⟩, [], (readF numberF l).2.2)
theorem read_num_nonneg {l : List Int} (h : Bytes l) : 0 ≤ (readF numberF l).1 := by
  have hv := takeR_lt h
  rw [read_take numberF h, numberF_eq _ hv]
  split
  · exact Int.le_refl _
  · split
    · exact Int.le_refl _
    · split
      · exact Int.le_refl _
      · exact Int.natCast_nonneg _
theorem read_len (af : Int → Int × Int) (l : List Int) : (readF af l).2.1.length ≤ l.length := by
  unfold readF
  split
  · simp
  · split
    · simp
    · split
      · simp
      · split
        · simp
        · simp
theorem read_bytes (af : Int → Int × Int) {l : List Int} (h : Bytes l) : Bytes (readF af l).2.1 := by
  have hn : Bytes [] := fun x hx => by cases hx
  unfold readF
  split
  · exact hn
  · split
    · exact hn
    · split
      · exact hn
      · split
        · exact hn
        · exact h.drop _
theorem takeText_eq {l : List Int} (h : Bytes l) (hl : l.length < 140737488355328) (most : Int) : bin_TakeText.f l most = some (textOff l most) := by
  unfold bin_TakeText.f textOff
  rw [takeNum_eq l hl]
  simp only [Option.bind_some]
  have h0 := read_num_nonneg h
  generalize readF numberF l = q at *
  split
  · split
    · rfl
    · split
      · rfl
      · rw [if_pos (by omega)]
  · rfl
theorem ref_takeText_eq {l : List Int} (h : Bytes l) (hl : l.length < 140737488355328) (most : Int) (k : Nat) (hk : 60 ≤ k) : encoreref02_TakeText.f k l most = some (textOff l most) := by
  unfold encoreref02_TakeText.f textOff
  rw [ref_takeNum_eq h hl k hk]
  simp only [Option.bind_some]
  have h0 := read_num_nonneg h
  have hle := read_len numberF l
  generalize readF numberF l = q at *
  split
  · split
    · rfl
    · split
      · rfl
      · rw [if_pos (by omega), copy_eq _ (by simp; omega), Option.bind_some]
  · rfl
end Go.Proofs.Ytpkkljlgggfmoaa.BinLink
