/- Numbers stand among each other as their bytes do, for every two numbers. No condition. -/
import Derived.Test.YtpkkljlgggfmoaaLaws1
import Derived.Test.YtpkkljlgggfmoaaBinLink
namespace Go.Proofs.Ytpkkljlgggfmoaa.Pure
open Go.RowKit Go.Proofs.Ytpkkljlgggfmoaa.Laws Go.Proofs.YtpkkljlgggfmoaaW.PrintWords Go.Proofs.YtpkkljlgggfmoaaW.PrintLast Go.Proofs.Ytpkkljlgggfmoaa.Base Go.Proofs.Ytpkkljlgggfmoaa.Ext Go.Proofs.Ytpkkljlgggfmoaa.Mid Go.Proofs.Ytpkkljlgggfmoaa.Tt Go.Proofs.Ytpkkljlgggfmoaa.BinMath Go.Proofs.Ytpkkljlgggfmoaa.BinLink
set_option linter.unusedVariables false
set_option linter.unusedSimpArgs false

theorem rd_W0 (v : Nat) (hv : v < 18446744073709551616) : rd (W v) 0 = hb (fol v) ((v / 256 ^ fol v : Nat) : Int) := by
  have := rd_wrL0 (fol v) v []
  rw [List.append_nil] at this
  rw [← headI_eq v hv]
  exact this
theorem rd_W (v j : Nat) (hj : j < fol v) : rd (W v) ((j + 1 : Nat) : Int) = ((v / 256 ^ (fol v - 1 - j) % 256 : Nat) : Int) := by
  have := rd_wrL (fol v) v j [] hj
  rw [List.append_nil] at this
  exact this
theorem lt_of_div {m n c : Nat} (h : m / c < n / c) : m < n := by
  apply Nat.lt_of_not_le
  intro hle
  have := Nat.div_le_div_right (c := c) hle
  omega
theorem first_loop (m n : Nat) (hm : m < 18446744073709551616) (hn : n < 18446744073709551616) (hf : fol m = fol n) (d : Nat) : ∀ (j k : Nat), j + d = fol m → m / 256 ^ d = n / 256 ^ d → 2 * d + 2 ≤ k →
    encorelaw02_first.l0 k (W m) (W n) ((j + 1 : Nat) : Int) = some (decide (m < n)) := by
  have l1 := W_len m
  have l2 := W_len n
  induction d with
  | zero =>
    intro j k hj he hk
    obtain ⟨k, rfl⟩ : ∃ q, k = q + 2 := ⟨k - 2, by omega⟩
    rw [encorelaw02_first.l0, if_neg (by omega), encorelaw02_first.j1, if_neg (by decide)]
    have : m = n := by simpa using he
    rw [this]
    simp
  | succ d ih =>
    intro j k hj he hk
    obtain ⟨k, rfl⟩ : ∃ q, k = q + 2 := ⟨k - 2, by omega⟩
    rw [encorelaw02_first.l0, if_pos (by omega), encorelaw02_first.j1, if_pos (by simp; omega), if_pos (by omega), if_pos (by omega), if_pos (by omega)]
    rw [rd_W m j (by omega), rd_W n j (by omega), ← hf, show fol m - 1 - j = d by omega]
    have e1 : m / 256 ^ (d + 1) = m / 256 ^ d / 256 := by rw [Nat.pow_succ, ← Nat.div_div_eq_div_mul]
    have e2 : n / 256 ^ (d + 1) = n / 256 ^ d / 256 := by rw [Nat.pow_succ, ← Nat.div_div_eq_div_mul]
    rw [e1, e2] at he
    by_cases hd : m / 256 ^ d % 256 = n / 256 ^ d % 256
    · rw [if_pos (by rw [hd]), show wrap64 (((j + 1 : Nat) : Int) + 1) = ((j + 1 + 1 : Nat) : Int) by have := fol_le m; unfold wrap64; omega]
      exact ih (j + 1) k (by omega) (by omega) (by omega)
    · rw [if_neg (by omega)]
      congr 1
      apply decide_eq_decide.mpr
      constructor
      · intro h
        exact lt_of_div (c := 256 ^ d) (by omega)
      · intro h
        have := Nat.div_le_div_right (c := 256 ^ d) (Nat.le_of_lt h)
        omega
theorem fol_lt {m n : Nat} (hm : m < 18446744073709551616) (hn : n < 18446744073709551616) (h : fol m < fol n) : m < n := by
  have hf := fol_le n
  have a := (fol_spec m hm).1 (by omega)
  have b := (fol_spec n hn).2 (by omega)
  have := Nat.pow_le_pow_right (n := 2) (by decide) (show 7 * (fol m + 1) ≤ 7 * fol n by omega)
  omega
theorem first_eq (m n : Nat) (hm : m < 18446744073709551616) (hn : n < 18446744073709551616) (k : Nat) (hk : 24 ≤ k) : encorelaw02_first.f k (W m) (W n) = some (decide (m < n)) := by
  have l1 := W_len m
  have l2 := W_len n
  have f1 := fol_le m
  have f2 := fol_le n
  have t1 := top_lt m hm
  have t2 := top_lt n hn
  unfold encorelaw02_first.f
  obtain ⟨k, rfl⟩ : ∃ q, k = q + 2 := ⟨k - 2, by omega⟩
  rw [encorelaw02_first.l0, if_pos (by omega), encorelaw02_first.j1, if_pos (by simp; omega), if_pos (by omega), if_pos (by omega), if_pos (by omega)]
  rw [rd_W0 m hm, rd_W0 n hn]
  rcases Nat.lt_trichotomy (fol m) (fol n) with h | h | h
  · have h1 := hb_up (fol m) (fol n) _ _ h f2 t1 t2
    have h2 := fol_lt hm hn h
    rw [if_neg (by omega), decide_eq_true h1, decide_eq_true h2]
  · rw [← h] at t2 ⊢
    by_cases he : m / 256 ^ fol m = n / 256 ^ fol m
    · rw [if_pos (by rw [he]), show wrap64 (0 + 1) = ((0 + 1 : Nat) : Int) by unfold wrap64; omega]
      exact first_loop m n hm hn h (fol m) 0 k (by omega) he (by omega)
    · by_cases hlt : m / 256 ^ fol m < n / 256 ^ fol m
      · have h1 := hb_same (fol m) _ _ f1 t1 t2 hlt
        rw [if_neg (by omega), decide_eq_true h1, decide_eq_true (lt_of_div hlt)]
      · have h1 := hb_same (fol m) _ _ f1 t2 t1 (by omega)
        have h2 : n < m := lt_of_div (c := 256 ^ fol m) (by omega)
        rw [if_neg (by omega), decide_eq_false (by omega), decide_eq_false (by omega)]
  · have h1 := hb_up (fol n) (fol m) _ _ h f1 t2 t1
    have h2 := fol_lt hn hm h
    rw [if_neg (by omega), decide_eq_false (by omega), decide_eq_false (by omega)]
theorem bring_eq (a : Int) : ∃ m : Nat, m < 9007199254740992 ∧ encoreref00_Bring.f a 9007199254740992 = some (m : Int) := by
  unfold encoreref00_Bring.f
  rw [if_neg (by omega), if_neg (by omega)]
  have h1 := Int.tmod_lt_of_pos a (show (0 : Int) < 9007199254740992 by omega)
  have h2 := Int.lt_tmod_of_pos a (show (0 : Int) < 9007199254740992 by omega)
  by_cases h : Int.tmod a 9007199254740992 < 0
  · rw [if_pos h]
    refine ⟨(Int.tmod a 9007199254740992 + 9007199254740992).toNat, by omega, ?_⟩
    congr 1
    unfold wrap64
    omega
  · rw [if_neg h]
    exact ⟨(Int.tmod a 9007199254740992).toNat, by omega, by congr 1; omega⟩
theorem BinOrder : encorelaw02_BinOrder.Pure := by
  intro a0 a1 _ _
  obtain ⟨m, hm, e0⟩ := bring_eq a0
  obtain ⟨n, hn, e1⟩ := bring_eq a1
  refine ⟨40, ?_⟩
  unfold encorelaw02_BinOrder.f
  rw [e0, e1, Option.bind_some, Option.bind_some, num_eq, num_eq, Option.bind_some, Option.bind_some, numR_nat, numR_nat, if_neg (show ¬ ((m : Int) > 9007199254740991) by omega), if_neg (show ¬ ((n : Int) > 9007199254740991) by omega), if_pos rfl, if_pos rfl]
  rw [first_eq m n (by omega) (by omega) _ (by omega), Option.bind_some, if_pos (by simp), first_eq n m (by omega) (by omega) _ (by omega), Option.bind_some, if_pos (by simp)]
  rfl
end Go.Proofs.Ytpkkljlgggfmoaa.Pure
