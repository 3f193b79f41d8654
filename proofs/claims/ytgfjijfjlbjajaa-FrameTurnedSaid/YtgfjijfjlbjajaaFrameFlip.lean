/- A frame of which one bit behind the number is turned has a wrong sum. No condition but bytes. -/
import Derived.Test.YtgfjijfjlbjajaaFrameLink
namespace Go.Proofs.Ytgfjijfjlbjajaa.FrameLink
open Go Go.RowKit Go.Proofs.YtgfjijfjlbjajaaW.PrintWords Go.Proofs.YtgfjijfjlbjajaaW.PrintMore Go.Proofs.Ytgfjijfjlbjajaa.Base Go.Proofs.Ytgfjijfjlbjajaa.Ext Go.Proofs.Ytgfjijfjlbjajaa.Mid Go.Proofs.Ytgfjijfjlbjajaa.BinMath Go.Proofs.Ytgfjijfjlbjajaa.BinLink
open Go.Proofs.Ytgfjijfjlbjajaa.CrcMath (toI toI_range toI_inj moreB)
open Go.Proofs.Ytgfjijfjlbjajaa.CrcFlip (more_turn)
set_option linter.unusedVariables false
set_option linter.unusedSimpArgs false

theorem four_inj {a b : Int} (ha : 0 ≤ a ∧ a < 4294967296) (hb : 0 ≤ b ∧ b < 4294967296) (h : four a = four b) : a = b := by
  simp only [four, List.cons.injEq, and_true] at h
  obtain ⟨h1, h2, h3, h4⟩ := h
  omega
theorem xor_ne (y s : Nat) : y ^^^ 2 ^ s ≠ y := by
  intro h
  have h2 : y ^^^ (y ^^^ 2 ^ s) = y ^^^ y := by rw [h]
  rw [← Nat.xor_assoc, Nat.xor_self, Nat.zero_xor] at h2
  have := Nat.pow_pos (n := s) (show 0 < 2 by decide)
  omega
theorem set_ne {l : List Int} {i : Nat} {z : Int} (hi : i < l.length) (hz : z ≠ rd l i) : l.set i z ≠ l := by
  intro h
  have h1 := congrArg (fun q => q[i]?) h
  simp only [List.getElem?_set_self hi] at h1
  apply hz
  unfold rd
  rw [Int.toNat_natCast, List.getD_eq_getElem?_getD, ← h1]
  rfl
theorem set_bytes {l : List Int} (h : Bytes l) (i : Nat) (z : Int) (hz : 0 ≤ z ∧ z < 256) : Bytes (l.set i z) := by
  intro x hx
  rcases List.mem_or_eq_of_mem_set hx with h1 | rfl
  · exact h x h1
  · exact hz
theorem flip_next {b : List Int} (hb : Bytes b) (hl : b.length ≤ 8192) (q s y : Nat) (hq0 : (W b.length).length ≤ q) (hq : q < (pk b).length) (hs : s < 8) (hy : rd (pk b) q = y) : nextR ((pk b).set q ((y ^^^ 2 ^ s : Nat) : Int)) = ([], [], 40) := by
  have hpl := pk_len b
  have hrd := (pk_bytes hb hl).at_ (q : Int)
  rw [hy] at hrd
  have hy8 : y < 256 := by omega
  have hp2 : 2 ^ s < 256 := by
    have : 2 ^ s ≤ 2 ^ 7 := Nat.pow_le_pow_right (by decide) (by omega)
    omega
  have hz8 : y ^^^ 2 ^ s < 256 := Nat.xor_lt_two_pow (n := 8) hy8 hp2
  have hne := xor_ne y s
  generalize hz : y ^^^ 2 ^ s = z at *
  have hv : b.length < 18446744073709551616 := by omega
  obtain ⟨S, hS⟩ : ∃ S, S = sumB (W b.length ++ b) := ⟨_, rfl⟩
  have hpk : pk b = W b.length ++ (b ++ four S) := by unfold pk; rw [hS, List.append_assoc]
  obtain ⟨j, hj⟩ : ∃ j, j = q - (W b.length).length := ⟨_, rfl⟩
  have hset : (pk b).set q (z : Int) = W b.length ++ (b ++ four S).set j (z : Int) := by
    rw [hpk, List.set_append_right _ _ hq0, hj]
  obtain ⟨r, hr⟩ : ∃ r, r = (b ++ four S).set j (z : Int) := ⟨_, rfl⟩
  have hrl : r.length = b.length + 4 := by rw [hr, List.length_set, List.length_append, four_len]
  have hrb : Bytes r := by rw [hr]; exact set_bytes (bytes_append hb (four_bytes S)) _ _ (by omega)
  have hn0 : (numberF (b.length : Int)) = ((b.length : Int), 0) := by rw [numberF_eq _ hv, if_neg (by omega)]
  have hread : readF numberF (W b.length ++ r) = ((b.length : Int), r, 0) := by
    have := read_written numberF b.length hv r hrb (by rw [hn0])
    rw [hn0] at this
    exact this
  rw [hset, ← hr]
  unfold nextR
  rw [hread, if_pos rfl, if_neg (by show ¬ ((b.length : Int) > 8192); omega)]
  simp only [Int.toNat_natCast]
  rw [if_neg (by omega)]
  have e1 : (W b.length ++ r).length - r.length + b.length = (W b.length).length + b.length := by rw [List.length_append]; omega
  have e2 : (W b.length ++ r).take ((W b.length).length + b.length) = W b.length ++ r.take b.length := by
    rw [List.take_append, List.take_of_length_le (by omega), Nat.add_sub_cancel_left]
  rw [e1, e2]
  by_cases hjb : j < b.length
  · have hr2 : r = b.set j (z : Int) ++ four S := by rw [hr, List.set_append_left _ _ hjb]
    have hbl : (b.set j (z : Int)).length = b.length := List.length_set
    have e3 : r.take b.length = b.set j (z : Int) := by rw [hr2, ← hbl]; exact List.take_left
    have e4 : (r.drop b.length).take 4 = four S := by
      rw [hr2, ← hbl, List.drop_left]
      rfl
    rw [e3, e4]
    have hws : W b.length ++ b.set j (z : Int) = (W b.length ++ b).set q (z : Int) := by
      rw [List.set_append_right _ _ hq0, hj]
    have hql : q < (W b.length ++ b).length := by rw [List.length_append]; omega
    have hyc : rd (W b.length ++ b) q = (y : Int) := by
      rw [← hy, hpk, ← List.append_assoc]
      unfold rd
      rw [Int.toNat_natCast, List.getD_eq_getElem?_getD, List.getD_eq_getElem?_getD, List.getElem?_append_left hql]
    have hmt := more_turn (W b.length ++ b) q s y hql hyc hy8 hs
    rw [hz] at hmt
    rw [hws, if_neg]
    intro hf
    rw [hS] at hf
    apply hmt
    apply toI_inj
    exact four_inj (toI_range _) (toI_range _) hf
  · have hr2 : r = b ++ (four S).set (j - b.length) (z : Int) := by rw [hr, List.set_append_right _ _ (by omega)]
    have e3 : r.take b.length = b := by rw [hr2]; exact List.take_left
    have e4 : (r.drop b.length).take 4 = (four S).set (j - b.length) (z : Int) := by
      rw [hr2, List.drop_left, List.take_of_length_le (by rw [List.length_set, four_len]; omega)]
    rw [e3, e4, ← hS, if_neg]
    intro hf
    have hjl : j - b.length < (four S).length := by rw [four_len]; omega
    refine set_ne hjl ?_ hf.symm
    have hyc : rd (four S) ((j - b.length : Nat) : Int) = (y : Int) := by
      rw [← hy, hpk]
      unfold rd
      rw [Int.toNat_natCast, Int.toNat_natCast, List.getD_eq_getElem?_getD, List.getD_eq_getElem?_getD, List.getElem?_append_right hq0, ← hj, List.getElem?_append_right (by omega)]
    rw [hyc]
    omega
end Go.Proofs.Ytgfjijfjlbjajaa.FrameLink
