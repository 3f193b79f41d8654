import Derived.Test.YthnjkmjcacoajaaKJournalKeeps30
/- What Next and All of the document's answer come to, and frame.All: the same. Conditions: bytes that append bears. -/
namespace Go.Proofs.Ythnjkmjcacoajaa.FrameLink
open Go Go.RowKit Go.Proofs.YthnjkmjcacoajaaW.PrintWords Go.Proofs.YthnjkmjcacoajaaW.PrintMore Go.Proofs.Ythnjkmjcacoajaa.FrBase Go.Proofs.Ythnjkmjcacoajaa.Fr Go.Proofs.Ythnjkmjcacoajaa.FrMid Go.Proofs.Ythnjkmjcacoajaa.BinMath Go.Proofs.Ythnjkmjcacoajaa.BinLink
set_option linter.unusedVariables false
set_option linter.unusedSimpArgs false

/-- all that are whole, what is left, what is told -/
def allR : Nat → List Int → List (List Int) → List (List Int) × Int × Int
  | 0, x, y => (y, (x.length : Int), 0)
  | k + 1, x, y => if x.length = 0 then (y, 0, 0) else if (nextR x).2.2 = 0 then allR k (nextR x).2.1 (y ++ [(nextR x).1]) else if (nextR x).2.2 = 3 then (y, (x.length : Int), 0) else ([], 0, (nextR x).2.2)
/-- what stands behind a frame is shorter, and bytes -/
theorem next_less {x : List Int} (h : Bytes x) (h0 : (nextR x).2.2 = 0) : (nextR x).2.1.length < x.length ∧ Bytes (nextR x).2.1 ∧ Bytes (nextR x).1 := by
  unfold nextR at h0 ⊢
  by_cases c0 : (readF numberF x).2.2 = 0
  · obtain ⟨v, ev, hw, hv⟩ := num_ok h c0
    have hbr := read_bytes numberF h
    have hlen := congrArg List.length hw
    rw [List.length_append, W_len] at hlen
    rw [if_pos c0] at h0 ⊢
    split at h0
    · exact absurd h0 (by decide)
    · rename_i c1
      rw [if_neg c1]
      split at h0
      · exact absurd h0 (by decide)
      · rename_i c2
        rw [if_neg c2]
        split at h0
        · rename_i c3
          rw [if_pos c3]
          exact ⟨by rw [List.length_drop]; omega, hbr.drop _, hbr.take _⟩
        · exact absurd h0 (by decide)
  · rw [if_neg c0] at h0
    exact absurd h0 c0
/-- first, as Next has it -/
theorem first_of_next {x : List Int} (h : Bytes x) (hl : x.length < 140737488355328) : ∃ q, firstF x = some q ∧ q.2.2.2 = (nextR x).2.2 ∧ (q.2.2.2 = 0 → (0 < q.1 ∧ q.1 ≤ q.2.1 ∧ q.2.2.1 = q.2.1 + 4 ∧ q.2.2.1 ≤ (x.length : Int)) ∧ (nextR x).1 = (x.drop q.1.toNat).take (q.2.1.toNat - q.1.toNat) ∧ (nextR x).2.1 = x.drop q.2.2.1.toNat) := by
  have e := next_eq h hl
  unfold frame_Next.f at e
  obtain ⟨q, hq, e⟩ := Option.bind_eq_some_iff.mp e
  refine ⟨q, hq, ?_⟩
  by_cases c : q.2.2.2 ≠ 0
  · rw [if_pos c] at e
    have e2 := Option.some.inj e
    rw [← e2]
    exact ⟨rfl, fun h0 => absurd h0 c⟩
  · have c' : q.2.2.2 = 0 := Decidable.not_not.mp c
    rw [if_neg c] at e
    split at e
    · rename_i hc
      have e2 := Option.some.inj e
      rw [← e2]
      exact ⟨c', fun _ => ⟨⟨hc.1, hc.2.1, hc.2.2.1, hc.2.2.2.1⟩, rfl, rfl⟩⟩
    · cases e
theorem allF_eq (k : Nat) : ∀ (x : List Int) (y : List (List Int)), Bytes x → x.length < k → x.length + y.length < 5864062014805 → allF k x y = some (allR k x y) := by
  induction k with
  | zero => intro x y h hk; omega
  | succ k ih =>
    intro x y h hk hy
    unfold allF allR
    by_cases c0 : x.length = 0
    · rw [if_pos c0, if_pos c0]
    · rw [if_neg c0, if_neg c0]
      obtain ⟨q, hq, e, hz⟩ := first_of_next h (by omega)
      rw [hq, Option.bind_some, e]
      by_cases c1 : (nextR x).2.2 = 0
      · obtain ⟨hc, e1, e2⟩ := hz (by rw [e]; exact c1)
        have hn := next_less h c1
        rw [if_pos c1, if_pos c1, if_pos ⟨hc.1, hc.2.1, hc.2.2.1, hc.2.2.2, by omega, by omega⟩, ← e1, ← e2]
        exact ih _ _ hn.2.1 (by omega) (by rw [List.length_append, List.length_singleton]; omega)
      · rw [if_neg c1, if_neg c1]
        split <;> rfl
theorem all_eq {l : List Int} (h : Bytes l) (hl : l.length < 5864062014805) : frame_All.f l = some (allR (l.length + 1) l []) := by
  unfold frame_All.f
  exact allF_eq _ _ _ h (by omega) (by simpa using hl)
/-- how long what All takes off is -/
theorem allR_len (k : Nat) : ∀ (x : List Int) (y : List (List Int)) (M : Nat), Bytes x → x.length < M → (∀ z ∈ y, z.length < M) → (allR k x y).1.length ≤ y.length + x.length ∧ ∀ z ∈ (allR k x y).1, z.length < M := by
  induction k with
  | zero => intro x y M h hx hy; exact ⟨Nat.le_add_right _ _, hy⟩
  | succ k ih =>
    intro x y M h hx hy
    unfold allR
    split
    · exact ⟨Nat.le_add_right _ _, hy⟩
    · split
      · rename_i c0 c1
        have hn := next_less h c1
        have hp : (nextR x).1.length < M := by
          have e := first_of_next h
          by_cases hb : x.length < 140737488355328
          · obtain ⟨q, _, e, hz⟩ := e hb
            rw [(hz (by rw [e]; exact c1)).2.1, List.length_take, List.length_drop]
            omega
          · unfold nextR
            split
            · split
              · simp; omega
              · split
                · simp; omega
                · split
                  · have := read_len numberF x
                    simp only [List.length_take]
                    omega
                  · simp; omega
            · simp; omega
        have := ih (nextR x).2.1 (y ++ [(nextR x).1]) M hn.2.1 (by omega) (fun z hz => by
          rcases List.mem_append.1 hz with hz | hz
          · exact hy z hz
          · rw [List.mem_singleton.1 hz]; exact hp)
        rw [List.length_append, List.length_singleton] at this
        exact ⟨by omega, this.2⟩
      · split
        · exact ⟨Nat.le_add_right _ _, hy⟩
        · exact ⟨by simp, fun z hz => by cases hz⟩
/-! ### frames one behind the other, cut short -/
theorem read_num (v : Nat) (hv : v ≤ 8192) (r : List Int) (hr : Bytes r) : readF numberF (W v ++ r) = ((v : Int), r, 0) := by
  have hn0 : numberF (v : Int) = ((v : Int), 0) := by rw [numberF_eq _ (by omega), if_neg (by omega)]
  have := read_written numberF v (by omega) r hr (by rw [hn0])
  rw [hn0] at this
  exact this
theorem next_pack {p r : List Int} (hp : Bytes p) (hl : p.length ≤ 8192) (hr : Bytes r) : nextR (pk p ++ r) = (p, r, 0) := by
  have e : pk p ++ r = W p.length ++ (p ++ four (sumB (W p.length ++ p)) ++ r) := by unfold pk; simp only [List.append_assoc]
  have hb : Bytes (p ++ four (sumB (W p.length ++ p)) ++ r) := bytes_append (bytes_append hp (four_bytes _)) hr
  unfold nextR
  rw [e, read_num _ hl _ hb]
  simp only
  rw [if_pos trivial, if_neg (by omega)]
  simp only [Int.toNat_natCast]
  have h4 := four_len (sumB (W p.length ++ p))
  have hlen : (p ++ four (sumB (W p.length ++ p)) ++ r).length = p.length + 4 + r.length := by rw [List.length_append, List.length_append, h4]
  rw [if_neg (by omega)]
  have e1 : (W p.length ++ (p ++ four (sumB (W p.length ++ p)) ++ r)).length - (p ++ four (sumB (W p.length ++ p)) ++ r).length + p.length = (W p.length ++ p).length := by
    simp only [List.length_append]
    omega
  have e2 : (W p.length ++ (p ++ four (sumB (W p.length ++ p)) ++ r)).take (W p.length ++ p).length = W p.length ++ p := by
    rw [show W p.length ++ (p ++ four (sumB (W p.length ++ p)) ++ r) = (W p.length ++ p) ++ (four (sumB (W p.length ++ p)) ++ r) by simp only [List.append_assoc]]
    exact List.take_left
  have e3 : (p ++ four (sumB (W p.length ++ p)) ++ r).drop p.length = four (sumB (W p.length ++ p)) ++ r := by rw [List.append_assoc]; exact List.drop_left
  have e4 : (four (sumB (W p.length ++ p)) ++ r).take 4 = four (sumB (W p.length ++ p)) := by
    conv => lhs; rw [← h4]
    exact List.take_left
  rw [e1, e2, e3, e4, if_pos rfl]
  have e5 : (p ++ four (sumB (W p.length ++ p)) ++ r).take p.length = p := by rw [List.append_assoc]; exact List.take_left
  have e6 : (p ++ four (sumB (W p.length ++ p)) ++ r).drop (p.length + 4) = r := by
    rw [← List.drop_drop, e3]
    exact List.drop_left (l₁ := four (sumB (W p.length ++ p)))
  rw [e5, e6]
theorem next_short {p : List Int} (hp : Bytes p) (hl : p.length ≤ 8192) (m : Nat) (hm : m < (pk p).length) : nextR ((pk p).take m) = ([], [], 3) := by
  have hw := W_len p.length
  have hpl := pk_len p
  have e : pk p = W p.length ++ (p ++ four (sumB (W p.length ++ p))) := by unfold pk; simp only [List.append_assoc]
  have hb : Bytes (p ++ four (sumB (W p.length ++ p))) := bytes_append hp (four_bytes _)
  by_cases h : m ≤ fol p.length
  · have hr : readF numberF ((pk p).take m) = (0, [], 3) := by
      rw [e]
      exact read_short numberF p.length (by omega) _ m h
    unfold nextR
    rw [hr, if_neg (by decide)]
  · have e2 : (pk p).take m = W p.length ++ (p ++ four (sumB (W p.length ++ p))).take (m - (W p.length).length) := by
      rw [e, List.take_append, List.take_of_length_le (by omega)]
    unfold nextR
    rw [e2, read_num _ hl _ (hb.take _)]
    simp only
    rw [if_pos trivial, if_neg (by omega)]
    simp only [Int.toNat_natCast]
    rw [if_pos (by rw [List.length_take, List.length_append, four_len]; omega)]
/-- frames, one behind the other -/
def joined (P : List (List Int)) : List Int := (P.map pk).flatten
theorem joined_nil : joined [] = [] := rfl
theorem joined_cons (p : List Int) (P : List (List Int)) : joined (p :: P) = pk p ++ joined P := rfl
theorem joined_snoc (P : List (List Int)) (p : List Int) : joined (P ++ [p]) = joined P ++ pk p := by
  unfold joined
  rw [List.map_append, List.flatten_append]
  simp
theorem joined_bytes {P : List (List Int)} (h : ∀ p ∈ P, Bytes p ∧ p.length ≤ 8192) : Bytes (joined P) := by
  induction P with
  | nil => intro x hx; cases hx
  | cons p P ih =>
    rw [joined_cons]
    exact bytes_append (pk_bytes (h p (by simp)).1 (h p (by simp)).2) (ih (fun q hq => h q (by simp [hq])))
/-- how many are whole -/
def whole : List (List Int) → Nat → Nat
  | [], _ => 0
  | p :: P, at_ => if (pk p).length ≤ at_ then whole P (at_ - (pk p).length) + 1 else 0
theorem whole_le (P : List (List Int)) : ∀ at_, whole P at_ ≤ P.length := by
  induction P with
  | nil => intro a; exact Nat.le_refl _
  | cons p P ih =>
    intro a
    unfold whole
    split
    · have := ih (a - (pk p).length)
      simp only [List.length_cons]
      omega
    · exact Nat.zero_le _
theorem whole_iff (P : List (List Int)) : ∀ (at_ n : Nat), n ≤ P.length → ((joined (P.take n)).length ≤ at_ ↔ n ≤ whole P at_) := by
  induction P with
  | nil =>
    intro a n hn
    obtain rfl : n = 0 := by simpa using hn
    simp [joined, whole]
  | cons p P ih =>
    intro a n hn
    cases n with
    | zero => simp [joined]
    | succ n =>
      have hn' : n ≤ P.length := by simpa using hn
      rw [List.take_succ_cons, joined_cons, List.length_append]
      unfold whole
      by_cases c : (pk p).length ≤ a
      · rw [if_pos c]
        have := ih (a - (pk p).length) n hn'
        omega
      · rw [if_neg c]
        omega
theorem all_back (P : List (List Int)) : ∀ (k at_ : Nat) (y : List (List Int)), (∀ p ∈ P, Bytes p ∧ p.length ≤ 8192) → at_ ≤ (joined P).length → at_ < k →
    allR k ((joined P).take at_) y = (y ++ P.take (whole P at_), ((at_ - (joined (P.take (whole P at_))).length : Nat) : Int), 0) := by
  induction P with
  | nil =>
    intro k a y h ha hk
    obtain ⟨k, rfl⟩ : ∃ n, k = n + 1 := ⟨k - 1, by omega⟩
    have ha0 : a = 0 := by simpa [joined] using ha
    subst ha0
    simp [allR, joined, whole]
  | cons p P ih =>
    intro k a y h ha hk
    obtain ⟨k, rfl⟩ : ∃ n, k = n + 1 := ⟨k - 1, by omega⟩
    have hp := h p (by simp)
    have hP : ∀ q ∈ P, Bytes q ∧ q.length ≤ 8192 := fun q hq => h q (by simp [hq])
    have hpl := pk_len p
    have hjl : (joined (p :: P)).length = (pk p).length + (joined P).length := by rw [joined_cons, List.length_append]
    have hal : ((joined (p :: P)).take a).length = a := by rw [List.length_take]; omega
    unfold allR
    by_cases c0 : a = 0
    · subst c0
      rw [if_pos (by simp)]
      have hw : whole (p :: P) 0 = 0 := by unfold whole; rw [if_neg (by omega)]
      rw [hw]
      simp [joined]
    · rw [if_neg (by rw [hal]; exact c0)]
      by_cases c : (pk p).length ≤ a
      · have e : (joined (p :: P)).take a = pk p ++ (joined P).take (a - (pk p).length) := by
          rw [joined_cons, List.take_append, List.take_of_length_le c]
        have hn := next_pack hp.1 hp.2 ((joined_bytes hP).take (a - (pk p).length))
        rw [e, hn]
        simp only
        rw [if_pos trivial, ih k (a - (pk p).length) (y ++ [p]) hP (by omega) (by omega)]
        have hw : whole (p :: P) a = whole P (a - (pk p).length) + 1 := by rw [whole, if_pos c]
        rw [hw, List.take_succ_cons, joined_cons, List.length_append, List.append_assoc]
        have hle := (whole_iff P (a - (pk p).length) (whole P (a - (pk p).length)) (whole_le P _)).mpr (Nat.le_refl _)
        simp only [List.cons_append, List.nil_append, Prod.mk.injEq, and_true, true_and]
        omega
      · have e : (joined (p :: P)).take a = (pk p).take a := by rw [joined_cons, List.take_append_of_le_length (by omega)]
        have hn := next_short hp.1 hp.2 a (by omega)
        have hw : whole (p :: P) a = 0 := by rw [whole, if_neg c]
        rw [e, hn, hw]
        simp only
        rw [if_neg (by decide), if_pos (by decide), ← e, hal]
        simp [joined]
end Go.Proofs.Ythnjkmjcacoajaa.FrameLink

