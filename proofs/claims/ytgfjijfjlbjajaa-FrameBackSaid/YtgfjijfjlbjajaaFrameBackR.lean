/- Frames one behind the other, cut short, are taken out as they were put in. Conditions: bytes, payloads of 8192 at most. -/
import Derived.Test.YtgfjijfjlbjajaaFrameAllR
namespace Go.Proofs.Ytgfjijfjlbjajaa.FrameLink
open Go Go.RowKit Go.Proofs.YtgfjijfjlbjajaaW.PrintWords Go.Proofs.YtgfjijfjlbjajaaW.PrintMore Go.Proofs.Ytgfjijfjlbjajaa.Base Go.Proofs.Ytgfjijfjlbjajaa.Ext Go.Proofs.Ytgfjijfjlbjajaa.Mid Go.Proofs.Ytgfjijfjlbjajaa.BinMath Go.Proofs.Ytgfjijfjlbjajaa.BinLink
set_option linter.unusedVariables false
set_option linter.unusedSimpArgs false

theorem read_num (v : Nat) (hv : v ≤ 8192) (r : List Int) (hr : Bytes r) : readF numberF (W v ++ r) = ((v : Int), r, 0) := by
  have hn0 : numberF (v : Int) = ((v : Int), 0) := by rw [numberF_eq _ (by omega), if_neg (by omega)]
  have := read_written numberF v (by omega) r hr (by rw [hn0])
  rw [hn0] at this
  exact this
theorem next_pack {p r : List Int} (hp : Bytes p) (hl : p.length ≤ 8192) (hr : Bytes r) : nextR (pk p ++ r) = (p, r, 0) := by
  have e : pk p ++ r = W p.length ++ (p ++ four (sumB (W p.length ++ p)) ++ r) := by unfold pk; simp only [List.append_assoc]
  have hb : Bytes (p ++ four (sumB (W p.length ++ p)) ++ r) := bytes_append (bytes_append hp (four_bytes _)) hr
  unfold nextR
  rw [e, read_num _ hl _ hb]
  simp only
  rw [if_pos trivial, if_neg (by omega)]
  simp only [Int.toNat_natCast]
  have h4 := four_len (sumB (W p.length ++ p))
  have hlen : (p ++ four (sumB (W p.length ++ p)) ++ r).length = p.length + 4 + r.length := by rw [List.length_append, List.length_append, h4]
  rw [if_neg (by omega)]
  have e1 : (W p.length ++ (p ++ four (sumB (W p.length ++ p)) ++ r)).length - (p ++ four (sumB (W p.length ++ p)) ++ r).length + p.length = (W p.length ++ p).length := by
    simp only [List.length_append]
    omega
  have e2 : (W p.length ++ (p ++ four (sumB (W p.length ++ p)) ++ r)).take (W p.length ++ p).length = W p.length ++ p := by
    rw [show W p.length ++ (p ++ four (sumB (W p.length ++ p)) ++ r) = (W p.length ++ p) ++ (four (sumB (W p.length ++ p)) ++ r) by simp only [List.append_assoc]]
    exact List.take_left
  have e3 : (p ++ four (sumB (W p.length ++ p)) ++ r).drop p.length = four (sumB (W p.length ++ p)) ++ r := by rw [List.append_assoc]; exact List.drop_left
  have e4 : (four (sumB (W p.length ++ p)) ++ r).take 4 = four (sumB (W p.length ++ p)) := by
    conv => lhs; rw [← h4]
    exact List.take_left
  rw [e1, e2, e3, e4, if_pos rfl]
  have e5 : (p ++ four (sumB (W p.length ++ p)) ++ r).take p.length = p := by rw [List.append_assoc]; exact List.take_left
  have e6 : (p ++ four (sumB (W p.length ++ p)) ++ r).drop (p.length + 4) = r := by
    rw [← List.drop_drop, e3]
    exact List.drop_left (l₁ := four (sumB (W p.length ++ p)))
  rw [e5, e6]
theorem next_short {p : List Int} (hp : Bytes p) (hl : p.length ≤ 8192) (m : Nat) (hm : m < (pk p).length) : nextR ((pk p).take m) = ([], [], 3) := by
  have hw := W_len p.length
  have hpl := pk_len p
  have e : pk p = W p.length ++ (p ++ four (sumB (W p.length ++ p))) := by unfold pk; simp only [List.append_assoc]
  have hb : Bytes (p ++ four (sumB (W p.length ++ p))) := bytes_append hp (four_bytes _)
  by_cases h : m ≤ fol p.length
  · have hr : readF numberF ((pk p).take m) = (0, [], 3) := by
      rw [e]
      exact read_short numberF p.length (by omega) _ m h
    unfold nextR
    rw [hr, if_neg (by decide)]
  · have e2 : (pk p).take m = W p.length ++ (p ++ four (sumB (W p.length ++ p))).take (m - (W p.length).length) := by
      rw [e, List.take_append, List.take_of_length_le (by omega)]
    unfold nextR
    rw [e2, read_num _ hl _ (hb.take _)]
    simp only
    rw [if_pos trivial, if_neg (by omega)]
    simp only [Int.toNat_natCast]
    rw [if_pos (by rw [List.length_take, List.length_append, four_len]; omega)]
/-- frames, one behind the other -/
def joined (P : List (List Int)) : List Int := (P.map pk).flatten
theorem joined_nil : joined [] = [] := rfl
theorem joined_cons (p : List Int) (P : List (List Int)) : joined (p :: P) = pk p ++ joined P := rfl
theorem joined_snoc (P : List (List Int)) (p : List Int) : joined (P ++ [p]) = joined P ++ pk p := by
  unfold joined
  rw [List.map_append, List.flatten_append]
  simp
theorem joined_bytes {P : List (List Int)} (h : ∀ p ∈ P, Bytes p ∧ p.length ≤ 8192) : Bytes (joined P) := by
  induction P with
  | nil => intro x hx; cases hx
  | cons p P ih =>
    rw [joined_cons]
    exact bytes_append (pk_bytes (h p (by simp)).1 (h p (by simp)).2) (ih (fun q hq => h q (by simp [hq])))
/-- how many are whole -/
def whole : List (List Int) → Nat → Nat
  | [], _ => 0
  | p :: P, at_ => if (pk p).length ≤ at_ then whole P (at_ - (pk p).length) + 1 else 0
theorem whole_le (P : List (List Int)) : ∀ at_, whole P at_ ≤ P.length := by
  induction P with
  | nil => intro a; exact Nat.le_refl _
  | cons p P ih =>
    intro a
    unfold whole
    split
    · have := ih (a - (pk p).length)
      simp only [List.length_cons]
      omega
    · exact Nat.zero_le _
theorem whole_iff (P : List (List Int)) : ∀ (at_ n : Nat), n ≤ P.length → ((joined (P.take n)).length ≤ at_ ↔ n ≤ whole P at_) := by
  induction P with
  | nil =>
    intro a n hn
    obtain rfl : n = 0 := by simpa using hn
    simp [joined, whole]
  | cons p P ih =>
    intro a n hn
    cases n with
    | zero => simp [joined]
    | succ n =>
      have hn' : n ≤ P.length := by simpa using hn
      rw [List.take_succ_cons, joined_cons, List.length_append]
      unfold whole
      by_cases c : (pk p).length ≤ a
      · rw [if_pos c]
        have := ih (a - (pk p).length) n hn'
        omega
      · rw [if_neg c]
        omega
theorem all_back (P : List (List Int)) : ∀ (k at_ : Nat) (y : List (List Int)), (∀ p ∈ P, Bytes p ∧ p.length ≤ 8192) → at_ ≤ (joined P).length → at_ < k →
    allR k ((joined P).take at_) y = (y ++ P.take (whole P at_), ((at_ - (joined (P.take (whole P at_))).length : Nat) : Int), 0) := by
  induction P with
  | nil =>
    intro k a y h ha hk
    obtain ⟨k, rfl⟩ : ∃ n, k = n + 1 := ⟨k - 1, by omega⟩
    have ha0 : a = 0 := by simpa [joined] using ha
    subst ha0
    simp [allR, joined, whole]
  | cons p P ih =>
    intro k a y h ha hk
    obtain ⟨k, rfl⟩ : ∃ n, k = n + 1 := ⟨k - 1, by omega⟩
    have hp := h p (by simp)
    have hP : ∀ q ∈ P, Bytes q ∧ q.length ≤ 8192 := fun q hq => h q (by simp [hq])
    have hpl := pk_len p
    have hjl : (joined (p :: P)).length = (pk p).length + (joined P).length := by rw [joined_cons, List.length_append]
    have hal : ((joined (p :: P)).take a).length = a := by rw [List.length_take]; omega
    unfold allR
    by_cases c0 : a = 0
    · subst c0
      rw [if_pos (by simp)]
      have hw : whole (p :: P) 0 = 0 := by unfold whole; rw [if_neg (by omega)]
      rw [hw]
      simp [joined]
    · rw [if_neg (by rw [hal]; exact c0)]
      by_cases c : (pk p).length ≤ a
      · have e : (joined (p :: P)).take a = pk p ++ (joined P).take (a - (pk p).length) := by
          rw [joined_cons, List.take_append, List.take_of_length_le c]
        have hn := next_pack hp.1 hp.2 ((joined_bytes hP).take (a - (pk p).length))
        rw [e, hn]
        simp only
        rw [if_pos trivial, ih k (a - (pk p).length) (y ++ [p]) hP (by omega) (by omega)]
        have hw : whole (p :: P) a = whole P (a - (pk p).length) + 1 := by rw [whole, if_pos c]
        rw [hw, List.take_succ_cons, joined_cons, List.length_append, List.append_assoc]
        have hle := (whole_iff P (a - (pk p).length) (whole P (a - (pk p).length)) (whole_le P _)).mpr (Nat.le_refl _)
        simp only [List.cons_append, List.nil_append, Prod.mk.injEq, and_true, true_and]
        omega
      · have e : (joined (p :: P)).take a = (pk p).take a := by rw [joined_cons, List.take_append_of_le_length (by omega)]
        have hn := next_short hp.1 hp.2 a (by omega)
        have hw : whole (p :: P) a = 0 := by rw [whole, if_neg c]
        rw [e, hn, hw]
        simp only
        rw [if_neg (by decide), if_pos (by decide), ← e, hal]
        simp [joined]
/-- where they end -/
def endsL (P : List (List Int)) : List Int := (List.range (P.length + 1)).map fun q => ((joined (P.take q)).length : Int)
theorem endsL_len (P : List (List Int)) : (endsL P).length = P.length + 1 := by unfold endsL; simp
theorem endsL_snoc (P : List (List Int)) (p : List Int) : endsL (P ++ [p]) = endsL P ++ [((joined (P ++ [p])).length : Int)] := by
  unfold endsL
  rw [List.length_append, List.length_singleton, List.range_succ, List.map_append]
  congr 1
  · apply List.map_congr_left
    intro q hq
    have := List.mem_range.1 hq
    rw [List.take_append_of_le_length (by omega)]
  · rw [List.map_singleton, List.take_of_length_le (by simp)]
theorem endsL_at (P : List (List Int)) (q : Nat) (hq : q ≤ P.length) : rd (endsL P) (q : Int) = ((joined (P.take q)).length : Int) := by
  unfold rd endsL
  rw [Int.toNat_natCast, List.getD_eq_getElem?_getD, List.getElem?_map, List.getElem?_range (by omega)]
  rfl
end Go.Proofs.Ytgfjijfjlbjajaa.FrameLink
