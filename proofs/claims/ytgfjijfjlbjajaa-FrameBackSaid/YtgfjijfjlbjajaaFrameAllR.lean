/- What Next and All of the document's answer come to, and frame.All: the same. Conditions: bytes that append bears. -/
import Derived.Test.YtgfjijfjlbjajaaFrameLink
import Derived.Test.YtgfjijfjlbjajaaFrameAll
namespace Go.Proofs.Ytgfjijfjlbjajaa.FrameLink
open Go Go.RowKit Go.Proofs.YtgfjijfjlbjajaaW.PrintWords Go.Proofs.YtgfjijfjlbjajaaW.PrintMore Go.Proofs.Ytgfjijfjlbjajaa.Base Go.Proofs.Ytgfjijfjlbjajaa.Ext Go.Proofs.Ytgfjijfjlbjajaa.Mid Go.Proofs.Ytgfjijfjlbjajaa.BinMath Go.Proofs.Ytgfjijfjlbjajaa.BinLink
set_option linter.unusedVariables false
set_option linter.unusedSimpArgs false

theorem eq_dec_loop (a b : List Int) (hl : a.length ≤ 140737488355328) (hab : a.length = b.length) (d : Nat) : ∀ (k i : Nat), i + d = a.length → d < k → encoreref00_EqBytes.l0 k a b i = some (decide (a.drop i = b.drop i)) := by
  induction d with
  | zero =>
    intro k i hi hk
    obtain ⟨k, rfl⟩ : ∃ n, k = n + 1 := ⟨k - 1, by omega⟩
    unfold encoreref00_EqBytes.l0
    rw [if_neg (by omega), List.drop_eq_nil_of_le (by omega), List.drop_eq_nil_of_le (by omega)]
    simp
  | succ d ih =>
    intro k i hi hk
    obtain ⟨k, rfl⟩ : ∃ n, k = n + 1 := ⟨k - 1, by omega⟩
    unfold encoreref00_EqBytes.l0
    have ea : a.drop i = rd a i :: a.drop (i + 1) := by
      rw [List.drop_eq_getElem_cons (show i < a.length by omega)]
      congr 1
      unfold rd
      rw [Int.toNat_natCast, List.getD_eq_getElem?_getD, List.getElem?_eq_getElem (by omega)]
      rfl
    have eb : b.drop i = rd b i :: b.drop (i + 1) := by
      rw [List.drop_eq_getElem_cons (show i < b.length by omega)]
      congr 1
      unfold rd
      rw [Int.toNat_natCast, List.getD_eq_getElem?_getD, List.getElem?_eq_getElem (by omega)]
      rfl
    rw [if_pos (by omega), if_pos (by omega), if_pos (by omega)]
    by_cases h : rd a i = rd b i
    · rw [if_pos h, show wrap64 ((i : Int) + 1) = ((i + 1 : Nat) : Int) by unfold wrap64; omega, ih k (i + 1) (by omega) (by omega), ea, eb, h]
      simp
    · rw [if_neg h, ea, eb]
      simp [h]
theorem eq_dec (a b : List Int) (hl : a.length ≤ 140737488355328) (hab : a.length = b.length) (k : Nat) (hk : a.length < k) : encoreref00_EqBytes.f k a b = some (decide (a = b)) := by
  unfold encoreref00_EqBytes.f
  rw [if_pos (by omega)]
  have := eq_dec_loop a b hl hab a.length k 0 (by omega) hk
  simpa using this
theorem ref_next_eq {l : List Int} (h : Bytes l) (hl : l.length < 140737488355328) (k : Nat) (hk : 10 * l.length + 60 < k) : encoreref04_Next.f k l = some (nextR l) := by
  unfold encoreref04_Next.f nextR
  rw [ref_takeNum_eq h hl k (by omega), Option.bind_some]
  by_cases h0 : (readF numberF l).2.2 = 0
  · obtain ⟨v, ev, hw, hv⟩ := num_ok h h0
    have hlen := congrArg List.length hw
    rw [List.length_append, W_len] at hlen
    rw [if_pos h0, if_pos h0, ev, Int.toNat_natCast]
    generalize (readF numberF l).2.1 = r at *
    by_cases h1 : (v : Int) > 8192
    · rw [if_pos h1, if_pos h1]
    · have e1 : wrap64 ((v : Int) + 4) = ((v + 4 : Nat) : Int) := by unfold wrap64; omega
      have e2 : wrap64 ((l.length : Int) - (r.length : Int)) = ((l.length - r.length : Nat) : Int) := by unfold wrap64; omega
      have e3 : wrap64 (((l.length - r.length : Nat) : Int) + (v : Int)) = ((l.length - r.length + v : Nat) : Int) := by unfold wrap64; omega
      rw [if_neg h1, if_neg h1]
      simp only [e1, e2, e3, Int.toNat_natCast]
      clear e1 e2 e3
      by_cases h2 : r.length < v + 4
      · rw [if_pos h2, if_pos (by omega)]
      · rw [if_neg h2, if_neg (by omega), if_pos (by omega), if_pos (by omega), ref_sum_eq (h.take _) (by rw [List.length_take]; omega) k (by rw [List.length_take]; omega), Option.bind_some, if_pos (by omega), if_pos (by omega), if_pos (by omega)]
        have hd : (r.take (v + 4)).drop v = (r.drop v).take 4 := by rw [List.drop_take]; congr 1; omega
        have hd4 : ((r.drop v).take 4).length = 4 := by rw [List.length_take, List.length_drop]; omega
        rw [hd, eq_dec _ _ (by rw [four_len]; omega) (by rw [four_len, hd4]) k (by rw [four_len]; omega), Option.bind_some]
        by_cases h3 : four (sumB (l.take (l.length - r.length + v))) = (r.drop v).take 4
        · rw [if_pos h3, decide_eq_true h3, if_pos rfl, if_pos (by omega), copy_eq _ (by rw [List.length_take]; omega), Option.bind_some, if_pos (by omega), copy_eq _ (by rw [List.length_drop]; omega), Option.bind_some]
        · rw [if_neg h3, decide_eq_false h3, if_neg (by decide)]
  · rw [if_neg h0, if_neg h0]
/-- all that are whole, what is left, what is told -/
def allR : Nat → List Int → List (List Int) → List (List Int) × Int × Int
  | 0, x, y => (y, (x.length : Int), 0)
  | k + 1, x, y => if x.length = 0 then (y, 0, 0) else if (nextR x).2.2 = 0 then allR k (nextR x).2.1 (y ++ [(nextR x).1]) else if (nextR x).2.2 = 3 then (y, (x.length : Int), 0) else ([], 0, (nextR x).2.2)
/-- what stands behind a frame is shorter, and bytes -/
theorem next_less {x : List Int} (h : Bytes x) (h0 : (nextR x).2.2 = 0) : (nextR x).2.1.length < x.length ∧ Bytes (nextR x).2.1 ∧ Bytes (nextR x).1 := by
  unfold nextR at h0 ⊢
  by_cases c0 : (readF numberF x).2.2 = 0
  · obtain ⟨v, ev, hw, hv⟩ := num_ok h c0
    have hbr := read_bytes numberF h
    have hlen := congrArg List.length hw
    rw [List.length_append, W_len] at hlen
    rw [if_pos c0] at h0 ⊢
    split at h0
    · exact absurd h0 (by decide)
    · rename_i c1
      rw [if_neg c1]
      split at h0
      · exact absurd h0 (by decide)
      · rename_i c2
        rw [if_neg c2]
        split at h0
        · rename_i c3
          rw [if_pos c3]
          exact ⟨by rw [List.length_drop]; omega, hbr.drop _, hbr.take _⟩
        · exact absurd h0 (by decide)
  · rw [if_neg c0] at h0
    exact absurd h0 c0
/-- first, as Next has it -/
theorem first_of_next {x : List Int} (h : Bytes x) (hl : x.length < 140737488355328) : ∃ q, firstF x = some q ∧ q.2.2.2 = (nextR x).2.2 ∧ (q.2.2.2 = 0 → (0 < q.1 ∧ q.1 ≤ q.2.1 ∧ q.2.2.1 = q.2.1 + 4 ∧ q.2.2.1 ≤ (x.length : Int)) ∧ (nextR x).1 = (x.drop q.1.toNat).take (q.2.1.toNat - q.1.toNat) ∧ (nextR x).2.1 = x.drop q.2.2.1.toNat) := by
  have e := next_eq h hl
  unfold frame_Next.f at e
  obtain ⟨q, hq, e⟩ := Option.bind_eq_some_iff.mp e
  refine ⟨q, hq, ?_⟩
  by_cases c : q.2.2.2 ≠ 0
  · rw [if_pos c] at e
    have e2 := Option.some.inj e
    rw [← e2]
    exact ⟨rfl, fun h0 => absurd h0 c⟩
  · have c' : q.2.2.2 = 0 := Decidable.not_not.mp c
    rw [if_neg c] at e
    split at e
    · rename_i hc
      have e2 := Option.some.inj e
      rw [← e2]
      exact ⟨c', fun _ => ⟨⟨hc.1, hc.2.1, hc.2.2.1, hc.2.2.2.1⟩, rfl, rfl⟩⟩
    · cases e
theorem allF_eq (k : Nat) : ∀ (x : List Int) (y : List (List Int)), Bytes x → x.length < k → x.length + y.length < 5864062014805 → allF k x y = some (allR k x y) := by
  induction k with
  | zero => intro x y h hk; omega
  | succ k ih =>
    intro x y h hk hy
    unfold allF allR
    by_cases c0 : x.length = 0
    · rw [if_pos c0, if_pos c0]
    · rw [if_neg c0, if_neg c0]
      obtain ⟨q, hq, e, hz⟩ := first_of_next h (by omega)
      rw [hq, Option.bind_some, e]
      by_cases c1 : (nextR x).2.2 = 0
      · obtain ⟨hc, e1, e2⟩ := hz (by rw [e]; exact c1)
        have hn := next_less h c1
        rw [if_pos c1, if_pos c1, if_pos ⟨hc.1, hc.2.1, hc.2.2.1, hc.2.2.2, by omega, by omega⟩, ← e1, ← e2]
        exact ih _ _ hn.2.1 (by omega) (by rw [List.length_append, List.length_singleton]; omega)
      · rw [if_neg c1, if_neg c1]
        split <;> rfl
theorem all_eq {l : List Int} (h : Bytes l) (hl : l.length < 5864062014805) : frame_All.f l = some (allR (l.length + 1) l []) := by
  unfold frame_All.f
  exact allF_eq _ _ _ h (by omega) (by simpa using hl)
theorem ref_all_loop (j : Nat) : ∀ (k : Nat) (x : List Int) (y : List (List Int)), Bytes x → x.length < j → x.length + y.length < 5864062014805 → 10 * x.length + 60 < k → encoreref04_All.l0 (k + j) x y = some (allR j x y) := by
  induction j with
  | zero => intro k x y h hk; omega
  | succ j ih =>
    intro k x y h hk hy hkk
    rw [← Nat.add_assoc]
    unfold encoreref04_All.l0 allR
    by_cases c0 : x.length = 0
    · rw [if_neg (by omega), if_pos c0, c0]
      rfl
    · rw [if_pos (by omega), if_neg c0, ref_next_eq h (by omega) _ (by omega), Option.bind_some]
      by_cases c1 : (nextR x).2.2 = 0
      · have hn := next_less h c1
        rw [if_neg (by rw [c1]; decide), if_pos c1, if_pos (by omega), if_pos c1]
        exact ih _ _ _ hn.2.1 (by omega) (by rw [List.length_append, List.length_singleton]; omega) (by omega)
      · rw [if_neg c1, if_neg c1]
        split <;> rfl
theorem ref_all_eq {l : List Int} (h : Bytes l) (hl : l.length < 5864062014805) (k : Nat) (hk : 11 * l.length + 62 < k) : encoreref04_All.f k l = some (allR (l.length + 1) l []) := by
  unfold encoreref04_All.f
  obtain ⟨q, rfl⟩ : ∃ q, k = q + (l.length + 1) := ⟨k - (l.length + 1), by omega⟩
  exact ref_all_loop (l.length + 1) q l [] h (by omega) (by simpa using hl) (by omega)
/-- what Same says of a list and itself -/
theorem same_loop (y : List (List Int)) (hl : y.length ≤ 140737488355328) (hy : ∀ x ∈ y, x.length ≤ 140737488355328) (M : Nat) (hM : ∀ x ∈ y, x.length < M) (d : Nat) : ∀ (k i : Nat), i + d = y.length → M + d < k → encoreref04_Same.l0 k y y i = some true := by
  induction d with
  | zero =>
    intro k i hi hk
    obtain ⟨k, rfl⟩ : ∃ n, k = n + 1 := ⟨k - 1, by omega⟩
    unfold encoreref04_Same.l0
    rw [if_neg (by omega)]
  | succ d ih =>
    intro k i hi hk
    obtain ⟨k, rfl⟩ : ∃ n, k = n + 1 := ⟨k - 1, by omega⟩
    unfold encoreref04_Same.l0
    have hm : rd_L1 y i ∈ y := by
      unfold rd_L1
      rw [Int.toNat_natCast, List.getD_eq_getElem?_getD, List.getElem?_eq_getElem (by omega)]
      exact List.getElem_mem _
    rw [if_pos (by omega), if_pos (by omega), if_pos (by omega), eq_same _ (hy _ hm) k (by have := hM _ hm; omega), Option.bind_some, if_pos rfl, show wrap64 ((i : Int) + 1) = ((i + 1 : Nat) : Int) by unfold wrap64; omega]
    exact ih k (i + 1) (by omega) (by omega)
theorem same_same (y : List (List Int)) (hl : y.length ≤ 140737488355328) (M : Nat) (hM : ∀ x ∈ y, x.length < M) (hM2 : M ≤ 140737488355328) (k : Nat) (hk : M + y.length < k) : encoreref04_Same.f k y y = some true := by
  unfold encoreref04_Same.f
  rw [if_pos rfl]
  exact same_loop y hl (fun x hx => by have := hM x hx; omega) M hM y.length k 0 (by omega) hk
/-- how long what All takes off is -/
theorem allR_len (k : Nat) : ∀ (x : List Int) (y : List (List Int)) (M : Nat), Bytes x → x.length < M → (∀ z ∈ y, z.length < M) → (allR k x y).1.length ≤ y.length + x.length ∧ ∀ z ∈ (allR k x y).1, z.length < M := by
  induction k with
  | zero => intro x y M h hx hy; exact ⟨Nat.le_add_right _ _, hy⟩
  | succ k ih =>
    intro x y M h hx hy
    unfold allR
    split
    · exact ⟨Nat.le_add_right _ _, hy⟩
    · split
      · rename_i c0 c1
        have hn := next_less h c1
        have hp : (nextR x).1.length < M := by
          have e := first_of_next h
          by_cases hb : x.length < 140737488355328
          · obtain ⟨q, _, e, hz⟩ := e hb
            rw [(hz (by rw [e]; exact c1)).2.1, List.length_take, List.length_drop]
            omega
          · unfold nextR
            split
            · split
              · simp; omega
              · split
                · simp; omega
                · split
                  · have := read_len numberF x
                    simp only [List.length_take]
                    omega
                  · simp; omega
            · simp; omega
        have := ih (nextR x).2.1 (y ++ [(nextR x).1]) M hn.2.1 (by omega) (fun z hz => by
          rcases List.mem_append.1 hz with hz | hz
          · exact hy z hz
          · rw [List.mem_singleton.1 hz]; exact hp)
        rw [List.length_append, List.length_singleton] at this
        exact ⟨by omega, this.2⟩
      · split
        · exact ⟨Nat.le_add_right _ _, hy⟩
        · exact ⟨by simp, fun z hz => by cases hz⟩
end Go.Proofs.Ytgfjijfjlbjajaa.FrameLink
