/- strip.Scan, walked. Condition: a million cells at most; bytes are bytes. -/
import Derived.Test.YtfkndnocjelhgaaPlain5
namespace Go.Proofs.Ytfkndnocjelhgaa.Ext
open Go Go.RowKit Go.Proofs.YtfkndnocjelhgaaW.PrintWords Go.Proofs.YtfkndnocjelhgaaW.PrintLast Go.Proofs.YtfkndnocjelhgaaW.PrintMore Go.Proofs.Ytfkndnocjelhgaa.Base Go.Proofs.Ytfkndnocjelhgaa.Arr
set_option linter.unusedVariables false
set_option linter.unusedSimpArgs false

/-- the last run made longer -/
def appLast (l : List (List Int)) (d : List Int) : List (List Int) := l.set (l.length - 1) (l.getD (l.length - 1) [] ++ d)
structure Sc where
  runs : List (List Int)
  epoch : Int
  first : Bool
def badS (g : Int) (st : Sc) (t : Int × Int × Bool × List Int × Int) : Prop := t.2.2.2.2 ≠ 0 ∨ t.1 ≠ g ∨ t.2.1 < st.epoch ∨ (t.2.2.1 = false ∧ (st.first = true ∨ t.2.1 ≠ st.epoch))
instance (g : Int) (st : Sc) (t : Int × Int × Bool × List Int × Int) : Decidable (badS g st t) := by unfold badS; infer_instance
def nextS (st : Sc) (t : Int × Int × Bool × List Int × Int) : Sc := ⟨appLast (if t.2.2.1 = true then st.runs ++ [[]] else st.runs) t.2.2.2.1, t.2.1, false⟩
def scanR (g : Int) : List (List Int) → Sc → List (List Int) × Int
  | [], st => (st.runs, 0)
  | c :: cs, st => if badS g st (readT c) then (st.runs, 0) else ((scanR g cs (nextS st (readT c))).1, (scanR g cs (nextS st (readT c))).2 + 1)
theorem scanR_cons (g : Int) (c : List Int) (cs : List (List Int)) (st : Sc) : scanR g (c :: cs) st = if badS g st (readT c) then (st.runs, 0) else ((scanR g cs (nextS st (readT c))).1, (scanR g cs (nextS st (readT c))).2 + 1) := rfl
theorem appLast_len (l : List (List Int)) (d : List Int) : (appLast l d).length = l.length := by unfold appLast; rw [List.length_set]
theorem appLast_bound (l : List (List Int)) (d : List Int) (n m : Nat) (hl : ∀ r ∈ l, r.length ≤ n) (hd : d.length ≤ m) : ∀ r ∈ appLast l d, r.length ≤ n + m := fun r hr => by
  unfold appLast at hr
  rcases List.mem_or_eq_of_mem_set hr with h | h
  · exact Nat.le_trans (hl r h) (Nat.le_add_right _ _)
  · rw [h, List.length_append]
    have : (l.getD (l.length - 1) []).length ≤ n := by
      rw [List.getD_eq_getElem?_getD]
      cases hq : l[l.length - 1]? with
      | none => exact Nat.zero_le _
      | some q => exact hl q (List.mem_of_getElem? hq)
    omega
/-- between two rounds: j cells count so far -/
structure ScI (g : Int) (l : List (List Int)) (st0 : Sc) (j : Nat) (st : Sc) : Prop where
  eq : scanR g l st0 = ((scanR g (l.drop j) st).1, (scanR g (l.drop j) st).2 + (j : Int))
  first : st.first = (j == 0)
  ne : j ≠ 0 → st.runs ≠ []
  len : st.runs.length ≤ j
  row : ∀ r ∈ st.runs, r.length ≤ 47 * j
theorem ScI.start (g : Int) (l : List (List Int)) (e : Int) : ScI g l ⟨[], e, true⟩ 0 ⟨[], e, true⟩ := ⟨by rw [List.drop_zero]; simp, rfl, fun h => absurd rfl h, Nat.le_refl _, fun r hr => by simp at hr⟩
theorem ScI.next {g : Int} {l : List (List Int)} {st0 st : Sc} {j : Nat} (h : ScI g l st0 j st) (hj : j < l.length) (hb : ¬ badS g st (readT (l.getD j []))) : ScI g l st0 (j + 1) (nextS st (readT (l.getD j []))) := by
  have hc : l.drop j = l.getD j [] :: l.drop (j + 1) := by
    rw [List.drop_eq_getElem_cons hj, List.getD_eq_getElem?_getD, List.getElem?_eq_getElem hj]; rfl
  have hbg : st.runs = [] → (readT (l.getD j [])).2.2.1 = true := by
    intro he
    have hj0 : j = 0 := by
      by_cases h0 : j = 0
      · exact h0
      · exact absurd he (h.ne h0)
    have hf : st.first = true := by rw [h.first, hj0]; rfl
    cases hq : (readT (l.getD j [])).2.2.1 with
    | true => rfl
    | false => exact absurd (show badS g st (readT (l.getD j [])) from .inr (.inr (.inr ⟨hq, .inl hf⟩))) hb
  refine ⟨?_, by show false = (j + 1 == 0); simp, fun _ => ?_, ?_, ?_⟩
  · rw [h.eq, hc, scanR_cons, if_neg hb]
    simp only [Int.natCast_add, Prod.mk.injEq, true_and]
    omega
  · intro he
    have hl0 : (nextS st (readT (l.getD j []))).runs.length = 0 := by rw [he]; rfl
    unfold nextS at hl0
    rw [appLast_len] at hl0
    split at hl0
    · simp at hl0
    · rename_i hq
      exact hq (hbg (List.eq_nil_of_length_eq_zero hl0))
  · unfold nextS
    rw [appLast_len]
    have := h.len
    split
    · simp; omega
    · omega
  · unfold nextS
    have hd := readT_err (l.getD j [])
    have h1 := appLast_bound (if (readT (l.getD j [])).2.2.1 = true then st.runs ++ [[]] else st.runs) (readT (l.getD j [])).2.2.2.1 (47 * j) 47 (fun r hr => by
      split at hr
      · rcases List.mem_append.1 hr with hq | hq
        · exact h.row r hq
        · rw [List.mem_singleton.1 hq]; exact Nat.zero_le _
      · exact h.row r hr) hd
    intro r hr
    have := h1 r hr
    omega
theorem ScI.stop {g : Int} {l : List (List Int)} {st0 st : Sc} {j : Nat} (h : ScI g l st0 j st) (hj : j < l.length) (hb : badS g st (readT (l.getD j []))) : scanR g l st0 = (st.runs, (j : Int)) := by
  have hc : l.drop j = l.getD j [] :: l.drop (j + 1) := by
    rw [List.drop_eq_getElem_cons hj, List.getD_eq_getElem?_getD, List.getElem?_eq_getElem hj]; rfl
  rw [h.eq, hc, scanR_cons, if_pos hb]
  simp
theorem ScI.done {g : Int} {l : List (List Int)} {st0 st : Sc} (h : ScI g l st0 l.length st) : scanR g l st0 = (st.runs, (l.length : Int)) := by
  rw [h.eq, List.drop_length]
  simp [scanR]
/-- the last run, lent for an append -/
theorem last_elem {W : World} {base : Nat} {A : Option Addr} {n c : Nat} {xs : List (List Int)} (h : Kd.S (Kd.slice 5 (Kd.int .u8)) 24 W base (fun _ => True) (.slice A n c) xs) (hn : n = xs.length) (h0 : 0 < n) :
    ∃ (gl : Nat) (A2 : Option Addr) (c2 : Nat) (oki : Nat → Prop), A = some ⟨gl, 0, none⟩ ∧ base ≤ gl ∧ gl < W.heap.size ∧ W.cell? ⟨gl, n - 1, none⟩ = some (.slice A2 (xs.getD (n - 1) []).length c2) ∧ W.frozen? ⟨gl, n - 1, none⟩ = false ∧
      Kd.R (Kd.int .u8) 5 W base oki (.slice A2 (xs.getD (n - 1) []).length c2) (xs.getD (n - 1) []) ∧ (∀ k, oki k → k ≠ gl) ∧ Kd.H (Kd.slice 5 (Kd.int .u8)) 24 W base (fun _ => True) (.slice (some ⟨gl, 0, none⟩) n c) xs ((n - 1 : Nat) : Int) oki [.slice A2 (xs.getD (n - 1) []).length c2] := by
  subst hn
  obtain ⟨gl, cap, hv, hb, hlt, -⟩ := Kd.S_form h h0
  injection hv with h1 h2 h3
  subst h1; subst h3
  obtain ⟨oki, cs, -, hM, hcc, hfr, hok, hH⟩ := Kd.S_elem h ([] : List Int) ((xs.length - 1 : Nat) : Int) (by omega) (by omega)
  rw [Int.toNat_natCast] at hM hcc hfr
  obtain ⟨v, rfl, hr⟩ := hM
  obtain ⟨A2, c2, rfl⟩ := Kd.R_slice hr
  have hc0 := hcc 0 _ rfl
  have hf0 := hfr 0
  have e : (xs.length - 1) * (Kd.slice 5 (Kd.int .u8)).sz + 0 = xs.length - 1 := by show (xs.length - 1) * 1 + 0 = _; omega
  rw [e] at hc0 hf0
  exact ⟨gl, A2, c2, oki, rfl, hb, hlt, hc0, hf0, hr, fun k hk => (hok k hk).2, hH⟩
/-- the run that was made longer, put back -/
theorem last_back {W w1 : World} {base gl n c : Nat} {A2 : Option Addr} {c2 : Nat} {oki : Nat → Prop} {xs : List (List Int)} {x d : List Int} {v1 : Value} (hH : Kd.H (Kd.slice 5 (Kd.int .u8)) 24 W base (fun _ => True) (.slice (some ⟨gl, 0, none⟩) n c) xs ((n - 1 : Nat) : Int) oki [.slice A2 x.length c2]) (h0 : 0 < n) (hx : x = xs.getD (n - 1) []) (hn : n = xs.length)
    (hR : Kd.R (Kd.int .u8) 5 W base oki (.slice A2 x.length c2) x) (hg : W.grownBy w1 (Value.slice A2 x.length c2).ownBlock) (ho : Kd.R (Kd.int .u8) 5 w1 base (fun k => oki k ∨ W.heap.size ≤ k) v1 (x ++ d)) :
    Kd.S (Kd.slice 5 (Kd.int .u8)) 24 (w1.setCell ⟨gl, n - 1, none⟩ v1) base (fun _ => True) (.slice (some ⟨gl, 0, none⟩) n c) (appLast xs d) := by
  have h1 := Kd.H_grown (Kd.H_widen hH) hg (fun k hk => .inl (hR.1 k hk))
  have h2 := (Kd.S_seg0 h1 (by omega) (by omega) (seg := [v1]) (j := 0) (x' := x ++ d) (okp := fun k => oki k ∨ W.heap.size ≤ k) (by show 0 + 1 ≤ 1; omega) ⟨v1, rfl, ho⟩ (fun k hk => hk.imp id (fun h => ⟨trivial, h⟩))).1
  have e : (((n - 1 : Nat) : Int).toNat * (Kd.slice 5 (Kd.int .u8)).sz + 0) = n - 1 := by rw [Int.toNat_natCast]; show (n - 1) * 1 + 0 = _; omega
  rw [e] at h2
  unfold appLast
  rw [← hn, ← hx]
  rw [Int.toNat_natCast] at h2
  exact h2
end Go.Proofs.Ytfkndnocjelhgaa.Ext
