/- What chapter 4's walked functions come to, in the words of the plain laws of sums and wholes. -/
import Derived.Test.YtgfjijfjlbjajaaWorks4
import Derived.Test.YtgfjijfjlbjajaaBinLink
import Derived.Test.YtgfjijfjlbjajaaCrcLink
namespace Go.Proofs.Ytgfjijfjlbjajaa.FrameLink
open Go Go.RowKit Go.Proofs.YtgfjijfjlbjajaaW.PrintWords Go.Proofs.YtgfjijfjlbjajaaW.PrintMore Go.Proofs.Ytgfjijfjlbjajaa.Base Go.Proofs.Ytgfjijfjlbjajaa.Ext Go.Proofs.Ytgfjijfjlbjajaa.Mid Go.Proofs.Ytgfjijfjlbjajaa.BinMath Go.Proofs.Ytgfjijfjlbjajaa.BinLink
open Go.Proofs.Ytgfjijfjlbjajaa.CrcMath (toI toI_range moreB)
open Go.Proofs.Ytgfjijfjlbjajaa.CrcLink (of_eq ref_of_eq)
set_option linter.unusedVariables false
set_option linter.unusedSimpArgs false

/-- a row's sum -/
def sumB (l : List Int) : Int := toI (moreB 0#32 l)
theorem sum_eq {l : List Int} (h : Bytes l) : crc_Of.f l = some (sumB l) := of_eq l h
theorem four_len (s : Int) : (four s).length = 4 := rfl
theorem four_bytes (s : Int) : Bytes (four s) := by
  intro x hx
  simp only [four, List.mem_cons, List.not_mem_nil, or_false] at hx
  rcases hx with rfl | rfl | rfl | rfl <;> omega
theorem bytes_append {a b : List Int} (ha : Bytes a) (hb : Bytes b) : Bytes (a ++ b) := fun x hx => by
  rcases List.mem_append.1 hx with h | h
  · exact ha x h
  · exact hb x h
theorem W_bytes (v : Nat) (hv : v < 18446744073709551616) : Bytes (W v) := wrL_bytes v hv
theorem ref_sum_eq {l : List Int} (h : Bytes l) (hl : l.length ≤ 140737488355328) (k : Nat) (hk : 10 * l.length < k) : encoreref04_sum.f k l = some (four (sumB l)) := by
  unfold encoreref04_sum.f
  rw [ref_of_eq l h hl k hk]
  rfl
/-- a payload's frame -/
def pk (l : List Int) : List Int := W l.length ++ l ++ four (sumB (W l.length ++ l))
theorem pk_len (l : List Int) : (pk l).length = (W l.length).length + l.length + 4 := by
  unfold pk
  rw [List.length_append, List.length_append, four_len]
theorem pk_bytes {l : List Int} (h : Bytes l) (hl : l.length ≤ 8192) : Bytes (pk l) := bytes_append (bytes_append (W_bytes _ (by omega)) h) (four_bytes _)
theorem pack_eq {l : List Int} (h : Bytes l) (hl : l.length ≤ 8192) : frame_Pack.f l = some (pk l, 0) := by
  have hw := W_le l.length
  unfold frame_Pack.f
  rw [if_neg (by omega), num_eq, numR_nat, if_neg (by omega), Option.bind_some, if_pos ⟨rfl, hw⟩, sum_eq (bytes_append (W_bytes _ (by omega)) h), Option.bind_some]
  rfl
theorem pack_big {l : List Int} (hl : ¬ l.length ≤ 8192) : frame_Pack.f l = some ([], 5) := by
  unfold frame_Pack.f
  rw [if_pos (by omega)]
theorem ref_pack_eq {l : List Int} (h : Bytes l) (hl : l.length ≤ 8192) (k : Nat) (hk : 100000 ≤ k) : encoreref04_Pack.f k l = some (pk l, 0) := by
  have hw := W_le l.length
  have hlen : (W l.length ++ l).length = (W l.length).length + l.length := List.length_append
  unfold encoreref04_Pack.f
  rw [if_neg (by omega), ref_num_eq _ k (by omega), numR_nat, if_neg (by omega), Option.bind_some, if_pos (by show (W l.length).length + l.length < _; omega), Option.bind_some]
  show ((encoreref04_sum.f k (W l.length ++ l)).bind _) = _
  rw [ref_sum_eq (bytes_append (W_bytes _ (by omega)) h) (by omega) k (by omega), Option.bind_some]
  show (if (W l.length ++ l).length + (four (sumB (W l.length ++ l))).length < 140737488355328 then some (W l.length ++ l ++ four (sumB (W l.length ++ l)), (0 : Int)) else none) = _
  rw [if_pos (by rw [four_len]; omega)]
  rfl
theorem ref_pack_big {l : List Int} (hl : ¬ l.length ≤ 8192) (k : Nat) : encoreref04_Pack.f k l = some ([], 5) := by
  unfold encoreref04_Pack.f
  rw [if_pos (by omega)]
/-- how many bytes a frame has -/
def sizeR (n : Int) : Int := if n < 0 then 0 else if n > 8192 then 0 else ((W n.toNat).length : Int) + n + 4
theorem size_eq (n : Int) : frame_Size.f n = some (sizeR n) := by
  unfold frame_Size.f sizeR
  split
  · rfl
  · split
    · rfl
    · have hw := W_le n.toNat
      rw [num_eq]
      unfold numR
      rw [if_neg (by omega), if_neg (by omega), Option.bind_some]
      congr 1
      unfold wrap64
      simp only
      omega
theorem ref_size_eq (n : Int) (k : Nat) (hk : 20 ≤ k) : encoreref04_Size.f k n = some (sizeR n) := by
  unfold encoreref04_Size.f sizeR
  rw [ref_num_eq _ k hk, Option.bind_some]
  unfold numR
  have hw := W_le n.toNat
  by_cases h0 : n < 0
  · rw [if_pos h0, if_pos h0, if_neg (by decide)]
  · rw [if_neg h0, if_neg h0]
    by_cases h1 : n > 9007199254740991
    · rw [if_pos h1, if_neg (by decide), if_pos (by omega)]
    · rw [if_neg h1, if_pos rfl]
      by_cases h2 : n > 8192
      · rw [if_pos h2, if_pos h2]
      · rw [if_neg h2, if_neg h2]
        congr 1
        unfold wrap64
        simp only
        omega
/-! ### what is taken off -/
/-- a number that was read whole: how it stands -/
theorem num_ok {l : List Int} (h : Bytes l) (h0 : (readF numberF l).2.2 = 0) : ∃ v : Nat, (readF numberF l).1 = v ∧ W v ++ (readF numberF l).2.1 = l ∧ v ≤ 9007199254740991 := by
  have hv := takeR_lt h
  have e := read_take numberF h
  rw [numberF_eq _ hv] at e
  by_cases c : (takeR l).2.2 = 0
  · rw [if_neg (fun hc => hc c)] at e
    by_cases h1 : (takeR l).1 > 9007199254740991
    · rw [if_pos h1, if_pos (show ((0, 4) : Int × Int).2 ≠ 0 by decide)] at e
      rw [e] at h0
      exact absurd h0 (by decide)
    · rw [if_neg h1, if_neg (show ¬ ((((takeR l).1 : Int), 0) : Int × Int).2 ≠ 0 by simp)] at e
      rw [e]
      refine ⟨(takeR l).1, rfl, ?_, by omega⟩
      unfold takeR at c ⊢
      by_cases c0 : l.length = 0
      · rw [if_pos c0] at c
        exact absurd c (by decide)
      · rw [if_neg c0] at c ⊢
        by_cases c1 : l.length ≤ lead (rd l 0)
        · rw [if_pos c1] at c
          exact absurd c (by decide)
        · rw [if_neg c1] at c ⊢
          by_cases c2 : fol (vN l (lead (rd l 0)) (lead (rd l 0))) ≠ lead (rd l 0)
          · rw [if_pos c2] at c
            exact absurd c (by decide)
          · rw [if_neg c2]
            have c3 : fol (vN l (lead (rd l 0)) (lead (rd l 0))) = lead (rd l 0) := Decidable.not_not.mp c2
            have := again h (by omega) c3
            unfold W
            rw [c3]
            exact this
  · rw [if_pos c] at e
    rw [e] at h0
    exact absurd h0 c
/-- the first frame's payload, what stands behind it, what is told -/
def nextR (l : List Int) : List Int × List Int × Int :=
  if (readF numberF l).2.2 = 0 then
    if (readF numberF l).1 > 8192 then ([], [], 5)
    else if (readF numberF l).2.1.length < (readF numberF l).1.toNat + 4 then ([], [], 3)
    else if four (sumB (l.take (l.length - (readF numberF l).2.1.length + (readF numberF l).1.toNat))) = ((readF numberF l).2.1.drop (readF numberF l).1.toNat).take 4 then ((readF numberF l).2.1.take (readF numberF l).1.toNat, (readF numberF l).2.1.drop ((readF numberF l).1.toNat + 4), 0)
    else ([], [], 40)
  else ([], [], (readF numberF l).2.2)
theorem next_eq {l : List Int} (h : Bytes l) (hl : l.length < 140737488355328) : frame_Next.f l = some (nextR l) := by
  unfold frame_Next.f firstF nextR
  rw [takeNum_eq l hl, Option.bind_some]
  by_cases h0 : (readF numberF l).2.2 = 0
  · obtain ⟨v, ev, hw, hv⟩ := num_ok h h0
    have hlen := congrArg List.length hw
    rw [List.length_append, W_len] at hlen
    rw [if_pos h0, if_neg (fun hc => hc h0), ev, Int.toNat_natCast]
    generalize (readF numberF l).2.1 = r at *
    by_cases h1 : (v : Int) > 8192
    · rw [if_pos h1, if_pos h1, Option.bind_some, if_pos (by decide)]
    · rw [if_neg h1, if_neg h1, if_pos ⟨by omega, by omega, hl⟩]
      by_cases h2 : r.length < v + 4
      · rw [if_pos h2, if_pos (by omega), Option.bind_some, if_pos (by decide)]
      · rw [if_neg h2, if_neg (by omega), sum_eq (h.take _), Option.bind_some]
        have hfr : l.length - r.length = (W v).length := by rw [W_len]; omega
        have hd : l.drop (l.length - r.length) = r := by
          rw [hfr]
          conv => lhs; rw [← hw]
          exact List.drop_left
        have e1 : l.drop (l.length - r.length + v) = r.drop v := by rw [← List.drop_drop, hd]
        have e2 : l.drop (l.length - r.length + v + 4) = r.drop (v + 4) := by rw [Nat.add_assoc, ← List.drop_drop, hd]
        rw [e1]
        by_cases h3 : four (sumB (l.take (l.length - r.length + v))) = (r.drop v).take 4
        · rw [if_pos h3, if_pos h3, Option.bind_some, if_neg (by simp), if_pos (by refine ⟨?_, ?_, ?_, ?_, hl⟩ <;> simp only <;> omega)]
          simp only [Int.toNat_natCast]
          rw [e2, hd, Nat.add_sub_cancel_left]
        · rw [if_neg h3, if_neg h3, Option.bind_some, if_pos (by decide)]
  · rw [if_neg h0, if_pos h0, Option.bind_some, if_pos h0]
end Go.Proofs.Ytgfjijfjlbjajaa.FrameLink
