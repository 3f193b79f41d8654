/- What Next and All of the document's answer come to, and frame.All: the same. Conditions: bytes that append bears. -/
import Derived.Test.YtgfjijfjlbjajaaFrameLink
import Derived.Test.YtgfjijfjlbjajaaFrameAll
namespace Go.Proofs.Ytgfjijfjlbjajaa.FrameLink
open Go Go.RowKit Go.Proofs.YtgfjijfjlbjajaaW.PrintWords Go.Proofs.YtgfjijfjlbjajaaW.PrintMore Go.Proofs.Ytgfjijfjlbjajaa.Base Go.Proofs.Ytgfjijfjlbjajaa.Ext Go.Proofs.Ytgfjijfjlbjajaa.Mid Go.Proofs.Ytgfjijfjlbjajaa.BinMath Go.Proofs.Ytgfjijfjlbjajaa.BinLink
set_option linter.unusedVariables false
set_option linter.unusedSimpArgs false

theorem eq_dec_loop (a b : List Int) (hl : a.length ≤ 140737488355328) (hab : a.length = b.length) (d : Nat) : ∀ (k i : Nat), i + d = a.length → d < k → encoreref00_EqBytes.l0 k a b i = some (decide (a.drop i = b.drop i)) := by
  induction d with
  | zero =>
    intro k i hi hk
    obtain ⟨k, rfl⟩ : ∃ n, k = n + 1 := ⟨k - 1, by omega⟩
    unfold encoreref00_EqBytes.l0
    rw [if_neg (by omega), List.drop_eq_nil_of_le (by omega), List.drop_eq_nil_of_le (by omega)]
    simp
  | succ d ih =>
    intro k i hi hk
    obtain ⟨k, rfl⟩ : ∃ n, k = n + 1 := ⟨k - 1, by omega⟩
    unfold encoreref00_EqBytes.l0
    have ea : a.drop i = rd a i :: a.drop (i + 1) := by
      rw [List.drop_eq_getElem_cons (show i < a.length by omega)]
      congr 1
      unfold rd
      rw [Int.toNat_natCast, List.getD_eq_getElem?_getD, List.getElem?_eq_getElem (by omega)]
      rfl
    have eb : b.drop i = rd b i :: b.drop (i + 1) := by
      rw [List.drop_eq_getElem_cons (show i < b.length by omega)]
      congr 1
      unfold rd
      rw [Int.toNat_natCast, List.getD_eq_getElem?_getD, List.getElem?_eq_getElem (by omega)]
      rfl
    rw [if_pos (by omega), if_pos (by omega), if_pos (by omega)]
    by_cases h : rd a i = rd b i
    · rw [if_pos h, show wrap64 ((i : Int) + 1) = ((i + 1 : Nat) : Int) by unfold wrap64; omega, ih k (i + 1) (by omega) (by omega), ea, eb, h]
      simp
    · rw [if_neg h, ea, eb]
      simp [h]
theorem eq_dec (a b : List Int) (hl : a.length ≤ 140737488355328) (hab : a.length = b.length) (k : Nat) (hk : a.length < k) : encoreref00_EqBytes.f k a b = some (decide (a = b)) := by
  unfold encoreref00_EqBytes.f
  rw [if_pos (by omega)]
  have := eq_dec_loop a b hl hab a.length k 0 (by omega) hk
  simpa using this
theorem ref_next_eq {l : List Int} (h : Bytes l) (hl : l.length < 140737488355328) (k : Nat) (hk : 10 * l.length + 60 < k) : encoreref04_Next.f k l = some (nextR l) := by
  unfold encoreref04_Next.f nextR
  rw [ref_takeNum_eq h hl k (by omega), Option.bind_some]
  by_cases h0 : (readF numberF l).2.2 = 0
  · obtain ⟨v, ev, hw, hv⟩ := num_ok h h0
    have hlen := congrArg List.length hw
    rw [List.length_append, W_len] at hlen
    rw [if_pos h0, if_pos h0, ev, Int.toNat_natCast]
    generalize (readF numberF l).2.1 = r at *
    by_cases h1 : (v : Int) > 8192
    · rw [if_pos h1, if_pos h1]
    · have e1 : wrap64 ((v : Int) + 4) = ((v + 4 : Nat) : Int) := by unfold wrap64; omega
      have e2 : wrap64 ((l.length : Int) - (r.length : Int)) = ((l.length - r.length : Nat) : Int) := by unfold wrap64; omega
      have e3 : wrap64 (((l.length - r.length : Nat) : Int) + (v : Int)) = ((l.length - r.length + v : Nat) : Int) := by unfold wrap64; omega
      rw [if_neg h1, if_neg h1]
      simp only [e1, e2, e3, Int.toNat_natCast]
      clear e1 e2 e3
      by_cases h2 : r.length < v + 4
      · rw [if_pos h2, if_pos (by omega)]
      · rw [if_neg h2, if_neg (by omega), if_pos (by omega), if_pos (by omega), ref_sum_eq (h.take _) (by rw [List.length_take]; omega) k (by rw [List.length_take]; omega), Option.bind_some, if_pos (by omega), if_pos (by omega), if_pos (by omega)]
        have hd : (r.take (v + 4)).drop v = (r.drop v).take 4 := by rw [List.drop_take]; congr 1; omega
        have hd4 : ((r.drop v).take 4).length = 4 := by rw [List.length_take, List.length_drop]; omega
        rw [hd, eq_dec _ _ (by rw [four_len]; omega) (by rw [four_len, hd4]) k (by rw [four_len]; omega), Option.bind_some]
        by_cases h3 : four (sumB (l.take (l.length - r.length + v))) = (r.drop v).take 4
        · rw [if_pos h3, decide_eq_true h3, if_pos rfl, if_pos (by omega), copy_eq _ (by rw [List.length_take]; omega), Option.bind_some, if_pos (by omega), copy_eq _ (by rw [List.length_drop]; omega), Option.bind_some]
        · rw [if_neg h3, decide_eq_false h3, if_neg (by decide)]
  · rw [if_neg h0, if_neg h0]
/-- all that are whole, what is left, what is told -/
def allR : Nat → List Int → List (List Int) → List (List Int) × Int × Int
  | 0, x, y => (y, (x.length : Int), 0)
  | k + 1, x, y => if x.length = 0 then (y, 0, 0) else if (nextR x).2.2 = 0 then allR k (nextR x).2.1 (y ++ [(nextR x).1]) else if (nextR x).2.2 = 3 then (y, (x.length : Int), 0) else ([], 0, (nextR x).2.2)
/-- what stands behind a frame is shorter, and bytes -/
theorem next_less {x : List Int} (h : Bytes x) (h0 : (nextR x).2.2 = 0) : (nextR x).2.1.length < x.length ∧ Bytes (nextR x).2.1 ∧ Bytes (nextR x).1 := by
  unfold nextR at h0 ⊢
  by_cases c0 : (readF numberF x).2.2 = 0
  · obtain ⟨v, ev, hw, hv⟩ := num_ok h c0
    have hbr := read_bytes numberF h
    have hlen := congrArg List.length hw
    rw [List.length_append, W_len] at hlen
    rw [if_pos c0] at h0 ⊢
    split at h0
    · exact absurd h0 (by decide)
    · rename_i c1
      rw [if_neg c1]
      split at h0
      · exact absurd h0 (by decide)
      · rename_i c2
        rw [if_neg c2]
        split at h0
        · rename_i c3
          rw [if_pos c3]
          exact ⟨by rw [List.length_drop]; omega, hbr.drop _, hbr.take _⟩
        · exact absurd h0 (by decide)
  · rw [if_neg c0] at h0
    exact absurd h0 c0
/-- first, as Next has it -/
theorem first_of_next {x : List Int} (h : Bytes x) (hl : x.length < 140737488355328) : ∃ q, firstF x = some q ∧ q.2.2.2 = (nextR x).2.2 ∧ (q.2.2.2 = 0 → (0 < q.1 ∧ q.1 ≤ q.2.1 ∧ q.2.2.1 = q.2.1 + 4 ∧ q.2.2.1 ≤ (x.length : Int)) ∧ (nextR x).1 = (x.drop q.1.toNat).take (q.2.1.toNat - q.1.toNat) ∧ (nextR x).2.1 = x.drop q.2.2.1.toNat) := by
  have e := next_eq h hl
  unfold frame_Next.f at e
  obtain ⟨q, hq, e⟩ := Option.bind_eq_some_iff.mp e
  refine ⟨q, hq, ?_⟩
  by_cases c : q.2.2.2 ≠ 0
  · rw [if_pos c] at e
    have e2 := Option.some.inj e
    rw [← e2]
    exact ⟨rfl, fun h0 => absurd h0 c⟩
  · have c' : q.2.2.2 = 0 := Decidable.not_not.mp c
    rw [if_neg c] at e
    split at e
    · rename_i hc
      have e2 := Option.some.inj e
      rw [← e2]
      exact ⟨c', fun _ => ⟨⟨hc.1, hc.2.1, hc.2.2.1, hc.2.2.2.1⟩, rfl, rfl⟩⟩
    · cases e
theorem allF_eq (k : Nat) : ∀ (x : List Int) (y : List (List Int)), Bytes x → x.length < k → x.length + y.length < 5864062014805 → allF k x y = some (allR k x y) := by
  induction k with
  | zero => intro x y h hk; omega
  | succ k ih =>
    intro x y h hk hy
    unfold allF allR
    by_cases c0 : x.length = 0
    · rw [if_pos c0, if_pos c0]
    · rw [if_neg c0, if_neg c0]
      obtain ⟨q, hq, e, hz⟩ := first_of_next h (by omega)
      rw [hq, Option.bind_some, e]
      by_cases c1 : (nextR x).2.2 = 0
      · obtain ⟨hc, e1, e2⟩ := hz (by rw [e]; exact c1)
        have hn := next_less h c1
        rw [if_pos c1, if_pos c1, if_pos ⟨hc.1, hc.2.1, hc.2.2.1, hc.2.2.2, by omega, by omega⟩, ← e1, ← e2]
        exact ih _ _ hn.2.1 (by omega) (by rw [List.length_append, List.length_singleton]; omega)
      · rw [if_neg c1, if_neg c1]
        split <;> rfl
theorem all_eq {l : List Int} (h : Bytes l) (hl : l.length < 5864062014805) : frame_All.f l = some (allR (l.length + 1) l []) := by
  unfold frame_All.f
  exact allF_eq _ _ _ h (by omega) (by simpa using hl)
theorem ref_all_loop (j : Nat) : ∀ (k : Nat) (x : List Int) (y : List (List Int)), Bytes x → x.length < j → x.length + y.length < 5864062014805 → 10 * x.length + 60 < k → encoreref04_All.l0 (k + j) x y = some (allR j x y) := by
  induction j with
  | zero => intro k x y h hk; omega
  | succ j ih =>
    intro k x y h hk hy hkk
    rw [← Nat.add_assoc]
    unfold encoreref04_All.l0 allR
    by_cases c0 : x.length = 0
    · rw [if_neg (by omega), if_pos c0, c0]
      rfl
    · rw [if_pos (by omega), if_neg c0, ref_next_eq h (by omega) _ (by omega), Option.bind_some]
      by_cases c1 : (nextR x).2.2 = 0
      · have hn := next_less h c1
        rw [if_neg (by rw [c1]; decide), if_pos c1, if_pos (by omega), if_pos c1]
        exact ih _ _ _ hn.2.1 (by omega) (by rw [List.length_append, List.length_singleton]; omega) (by omega)
      · rw [if_neg c1, if_neg c1]
        split <;> rfl
theorem ref_all_eq {l : List Int} (h : Bytes l) (hl : l.length < 5864062014805) (k : Nat) (hk : 11 * l.length + 62 < k) : encoreref04_All.f k l = some (allR (l.length + 1) l []) := by
  unfold encoreref04_All.f
  obtain ⟨q, rfl⟩ : ∃ q, k = q + (l.length + 1) := ⟨k - (l.length + 1), by omega⟩
  exact ref_all_loop (l.length + 1) q l [] h (by omega) (by simpa using hl) (by omega)
/-- what Same says of a list and itself -/
theorem same_loop (y : List (List Int)) (hl : y.length ≤ 140737488355328) (hy : ∀ x ∈ y, x.length ≤ 140737488355328) (M : Nat) (hM : ∀ x ∈ y, x.length < M) (d : Nat) : ∀ (k i : Nat), i + d = y.length → M + d < k → encoreref04_Same.l0 k y y i = some true := by
  induction d with
  | zero =>
    intro k i hi hk
    obtain ⟨k, rfl⟩ : ∃ n, k = n + 1 := ⟨k - 1, by omega⟩
    unfold encoreref04_Same.l0
    rw [if_neg (by omega)]
  | succ d ih =>
    intro k i hi hk
    obtain ⟨k, rfl⟩ : ∃ n, k = n + 1 := ⟨k - 1, by omega⟩
    unfold encoreref04_Same.l0
    have hm : rd_L1 y i ∈ y := by
      unfold rd_L1
      rw [Int.toNat_natCast, List.getD_eq_getElem?_getD, List.getElem?_eq_getElem (by omega)]
      exact List.getElem_mem _
    rw [if_pos (by omega), if_pos (by omega), if_pos (by omega), eq_same _ (hy _ hm) k (by have := hM _ hm; omega), Option.bind_some, if_pos rfl, show wrap64 ((i : Int) + 1) = ((i + 1 : Nat) : Int) by unfold wrap64; omega]
    exact ih k (i + 1) (by omega) (by omega)
theorem same_same (y : List (List Int)) (hl : y.length ≤ 140737488355328) (M : Nat) (hM : ∀ x ∈ y, x.length < M) (hM2 : M ≤ 140737488355328) (k : Nat) (hk : M + y.length < k) : encoreref04_Same.f k y y = some true := by
  unfold encoreref04_Same.f
  rw [if_pos rfl]
  exact same_loop y hl (fun x hx => by have := hM x hx; omega) M hM y.length k 0 (by omega) hk
/-- how long what All takes off is -/
theorem allR_len (k : Nat) : ∀ (x : List Int) (y : List (List Int)) (M : Nat), Bytes x → x.length < M → (∀ z ∈ y, z.length < M) → (allR k x y).1.length ≤ y.length + x.length ∧ ∀ z ∈ (allR k x y).1, z.length < M := by
  induction k with
  | zero => intro x y M h hx hy; exact ⟨Nat.le_add_right _ _, hy⟩
  | succ k ih =>
    intro x y M h hx hy
    unfold allR
    split
    · exact ⟨Nat.le_add_right _ _, hy⟩
    · split
      · rename_i c0 c1
        have hn := next_less h c1
        have hp : (nextR x).1.length < M := by
          have e := first_of_next h
          by_cases hb : x.length < 140737488355328
          · obtain ⟨q, _, e, hz⟩ := e hb
            rw [(hz (by rw [e]; exact c1)).2.1, List.length_take, List.length_drop]
            omega
          · unfold nextR
            split
            · split
              · simp; omega
              · split
                · simp; omega
                · split
                  · have := read_len numberF x
                    simp only [List.length_take]
                    omega
                  · simp; omega
            · simp; omega
        have := ih (nextR x).2.1 (y ++ [(nextR x).1]) M hn.2.1 (by omega) (fun z hz => by
          rcases List.mem_append.1 hz with hz | hz
          · exact hy z hz
          · rw [List.mem_singleton.1 hz]; exact hp)
        rw [List.length_append, List.length_singleton] at this
        exact ⟨by omega, this.2⟩
      · split
        · exact ⟨Nat.le_add_right _ _, hy⟩
        · exact ⟨by simp, fun z hz => by cases hz⟩
/-! ### frames one behind the other, cut short -/
theorem read_num (v : Nat) (hv : v ≤ 8192) (r : List Int) (hr : Bytes r) : readF numberF (W v ++ r) = ((v : Int), r, 0) := by
  have hn0 : numberF (v : Int) = ((v : Int), 0) := by rw [numberF_eq _ (by omega), if_neg (by omega)]
  have := read_written numberF v (by omega) r hr (by rw [hn0])
  rw [hn0] at this
  exact this
theorem next_pack {p r : List Int} (hp : Bytes p) (hl : p.length ≤ 8192) (hr : Bytes r) : nextR (pk p ++ r) = (p, r, 0) := by
  have e : pk p ++ r = W p.length ++ (p ++ four (sumB (W p.length ++ p)) ++ r) := by unfold pk; simp only [List.append_assoc]
  have hb : Bytes (p ++ four (sumB (W p.length ++ p)) ++ r) := bytes_append (bytes_append hp (four_bytes _)) hr
  unfold nextR
  rw [e, read_num _ hl _ hb]
  simp only
  rw [if_pos trivial, if_neg (by omega)]
  simp only [Int.toNat_natCast]
  have h4 := four_len (sumB (W p.length ++ p))
  have hlen : (p ++ four (sumB (W p.length ++ p)) ++ r).length = p.length + 4 + r.length := by rw [List.length_append, List.length_append, h4]
  rw [if_neg (by omega)]
  have e1 : (W p.length ++ (p ++ four (sumB (W p.length ++ p)) ++ r)).length - (p ++ four (sumB (W p.length ++ p)) ++ r).length + p.length = (W p.length ++ p).length := by
    simp only [List.length_append]
    omega
  have e2 : (W p.length ++ (p ++ four (sumB (W p.length ++ p)) ++ r)).take (W p.length ++ p).length = W p.length ++ p := by
    rw [show W p.length ++ (p ++ four (sumB (W p.length ++ p)) ++ r) = (W p.length ++ p) ++ (four (sumB (W p.length ++ p)) ++ r) by simp only [List.append_assoc]]
    exact List.take_left
  have e3 : (p ++ four (sumB (W p.length ++ p)) ++ r).drop p.length = four (sumB (W p.length ++ p)) ++ r := by rw [List.append_assoc]; exact List.drop_left
  have e4 : (four (sumB (W p.length ++ p)) ++ r).take 4 = four (sumB (W p.length ++ p)) := by
    conv => lhs; rw [← h4]
    exact List.take_left
  rw [e1, e2, e3, e4, if_pos rfl]
  have e5 : (p ++ four (sumB (W p.length ++ p)) ++ r).take p.length = p := by rw [List.append_assoc]; exact List.take_left
  have e6 : (p ++ four (sumB (W p.length ++ p)) ++ r).drop (p.length + 4) = r := by
    rw [← List.drop_drop, e3]
    exact List.drop_left (l₁ := four (sumB (W p.length ++ p)))
  rw [e5, e6]
theorem next_short {p : List Int} (hp : Bytes p) (hl : p.length ≤ 8192) (m : Nat) (hm : m < (pk p).length) : nextR ((pk p).take m) = ([], [], 3) := by
  have hw := W_len p.length
  have hpl := pk_len p
  have e : pk p = W p.length ++ (p ++ four (sumB (W p.length ++ p))) := by unfold pk; simp only [List.append_assoc]
  have hb : Bytes (p ++ four (sumB (W p.length ++ p))) := bytes_append hp (four_bytes _)
  by_cases h : m ≤ fol p.length
  · have hr : readF numberF ((pk p).take m) = (0, [], 3) := by
      rw [e]
      exact read_short numberF p.length (by omega) _ m h
    unfold nextR
    rw [hr, if_neg (by decide)]
  · have e2 : (pk p).take m = W p.length ++ (p ++ four (sumB (W p.length ++ p))).take (m - (W p.length).length) := by
      rw [e, List.take_append, List.take_of_length_le (by omega)]
    unfold nextR
    rw [e2, read_num _ hl _ (hb.take _)]
    simp only
    rw [if_pos trivial, if_neg (by omega)]
    simp only [Int.toNat_natCast]
    rw [if_pos (by rw [List.length_take, List.length_append, four_len]; omega)]
/-- frames, one behind the other -/
def joined (P : List (List Int)) : List Int := (P.map pk).flatten
theorem joined_nil : joined [] = [] := rfl
theorem joined_cons (p : List Int) (P : List (List Int)) : joined (p :: P) = pk p ++ joined P := rfl
theorem joined_snoc (P : List (List Int)) (p : List Int) : joined (P ++ [p]) = joined P ++ pk p := by
  unfold joined
  rw [List.map_append, List.flatten_append]
  simp
theorem joined_bytes {P : List (List Int)} (h : ∀ p ∈ P, Bytes p ∧ p.length ≤ 8192) : Bytes (joined P) := by
  induction P with
  | nil => intro x hx; cases hx
  | cons p P ih =>
    rw [joined_cons]
    exact bytes_append (pk_bytes (h p (by simp)).1 (h p (by simp)).2) (ih (fun q hq => h q (by simp [hq])))
/-- how many are whole -/
def whole : List (List Int) → Nat → Nat
  | [], _ => 0
  | p :: P, at_ => if (pk p).length ≤ at_ then whole P (at_ - (pk p).length) + 1 else 0
theorem whole_le (P : List (List Int)) : ∀ at_, whole P at_ ≤ P.length := by
  induction P with
  | nil => intro a; exact Nat.le_refl _
  | cons p P ih =>
    intro a
    unfold whole
    split
    · have := ih (a - (pk p).length)
      simp only [List.length_cons]
      omega
    · exact Nat.zero_le _
theorem whole_iff (P : List (List Int)) : ∀ (at_ n : Nat), n ≤ P.length → ((joined (P.take n)).length ≤ at_ ↔ n ≤ whole P at_) := by
  induction P with
  | nil =>
    intro a n hn
    obtain rfl : n = 0 := by simpa using hn
    simp [joined, whole]
  | cons p P ih =>
    intro a n hn
    cases n with
    | zero => simp [joined]
    | succ n =>
      have hn' : n ≤ P.length := by simpa using hn
      rw [List.take_succ_cons, joined_cons, List.length_append]
      unfold whole
      by_cases c : (pk p).length ≤ a
      · rw [if_pos c]
        have := ih (a - (pk p).length) n hn'
        omega
      · rw [if_neg c]
        omega
theorem all_back (P : List (List Int)) : ∀ (k at_ : Nat) (y : List (List Int)), (∀ p ∈ P, Bytes p ∧ p.length ≤ 8192) → at_ ≤ (joined P).length → at_ < k →
    allR k ((joined P).take at_) y = (y ++ P.take (whole P at_), ((at_ - (joined (P.take (whole P at_))).length : Nat) : Int), 0) := by
  induction P with
  | nil =>
    intro k a y h ha hk
    obtain ⟨k, rfl⟩ : ∃ n, k = n + 1 := ⟨k - 1, by omega⟩
    have ha0 : a = 0 := by simpa [joined] using ha
    subst ha0
    simp [allR, joined, whole]
  | cons p P ih =>
    intro k a y h ha hk
    obtain ⟨k, rfl⟩ : ∃ n, k = n + 1 := ⟨k - 1, by omega⟩
    have hp := h p (by simp)
    have hP : ∀ q ∈ P, Bytes q ∧ q.length ≤ 8192 := fun q hq => h q (by simp [hq])
    have hpl := pk_len p
    have hjl : (joined (p :: P)).length = (pk p).length + (joined P).length := by rw [joined_cons, List.length_append]
    have hal : ((joined (p :: P)).take a).length = a := by rw [List.length_take]; omega
    unfold allR
    by_cases c0 : a = 0
    · subst c0
      rw [if_pos (by simp)]
      have hw : whole (p :: P) 0 = 0 := by unfold whole; rw [if_neg (by omega)]
      rw [hw]
      simp [joined]
    · rw [if_neg (by rw [hal]; exact c0)]
      by_cases c : (pk p).length ≤ a
      · have e : (joined (p :: P)).take a = pk p ++ (joined P).take (a - (pk p).length) := by
          rw [joined_cons, List.take_append, List.take_of_length_le c]
        have hn := next_pack hp.1 hp.2 ((joined_bytes hP).take (a - (pk p).length))
        rw [e, hn]
        simp only
        rw [if_pos trivial, ih k (a - (pk p).length) (y ++ [p]) hP (by omega) (by omega)]
        have hw : whole (p :: P) a = whole P (a - (pk p).length) + 1 := by rw [whole, if_pos c]
        rw [hw, List.take_succ_cons, joined_cons, List.length_append, List.append_assoc]
        have hle := (whole_iff P (a - (pk p).length) (whole P (a - (pk p).length)) (whole_le P _)).mpr (Nat.le_refl _)
        simp only [List.cons_append, List.nil_append, Prod.mk.injEq, and_true, true_and]
        omega
      · have e : (joined (p :: P)).take a = (pk p).take a := by rw [joined_cons, List.take_append_of_le_length (by omega)]
        have hn := next_short hp.1 hp.2 a (by omega)
        have hw : whole (p :: P) a = 0 := by rw [whole, if_neg c]
        rw [e, hn, hw]
        simp only
        rw [if_neg (by decide), if_pos (by decide), ← e, hal]
        simp [joined]
/-- where they end -/
def endsL (P : List (List Int)) : List Int := (List.range (P.length + 1)).map fun q => ((joined (P.take q)).length : Int)
theorem endsL_len (P : List (List Int)) : (endsL P).length = P.length + 1 := by unfold endsL; simp
theorem endsL_snoc (P : List (List Int)) (p : List Int) : endsL (P ++ [p]) = endsL P ++ [((joined (P ++ [p])).length : Int)] := by
  unfold endsL
  rw [List.length_append, List.length_singleton, List.range_succ, List.map_append]
  congr 1
  · apply List.map_congr_left
    intro q hq
    have := List.mem_range.1 hq
    rw [List.take_append_of_le_length (by omega)]
  · rw [List.map_singleton, List.take_of_length_le (by simp)]
theorem endsL_at (P : List (List Int)) (q : Nat) (hq : q ≤ P.length) : rd (endsL P) (q : Int) = ((joined (P.take q)).length : Int) := by
  unfold rd endsL
  rw [Int.toNat_natCast, List.getD_eq_getElem?_getD, List.getElem?_map, List.getElem?_range (by omega)]
  rfl
end Go.Proofs.Ytgfjijfjlbjajaa.FrameLink
