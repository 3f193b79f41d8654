/- What Scan makes of runs one behind the other: plain law. No condition. -/
import Derived.Test.YtfkndnocjelhgaaScanF
import Derived.Test.YtfkndnocjelhgaaCellLaw
namespace Go.Proofs.Ytfkndnocjelhgaa.Ext
open Go Go.RowKit Go.Proofs.YtfkndnocjelhgaaW.PrintWords Go.Proofs.YtfkndnocjelhgaaW.PrintLast Go.Proofs.YtfkndnocjelhgaaW.PrintMore Go.Proofs.Ytfkndnocjelhgaa.Base Go.Proofs.Ytfkndnocjelhgaa.Arr
set_option linter.unusedVariables false
set_option linter.unusedSimpArgs false

/-- all of these cells count -/
def okS (g : Int) : List (List Int) → Sc → Prop
  | [], _ => True
  | c :: cs, st => ¬ badS g st (readT c) ∧ okS g cs (nextS st (readT c))
/-- the state behind cells -/
def runS : List (List Int) → Sc → Sc
  | [], st => st
  | c :: cs, st => runS cs (nextS st (readT c))
theorem runS_app (A B : List (List Int)) : ∀ st, runS (A ++ B) st = runS B (runS A st) := by
  induction A with
  | nil => intro st; rfl
  | cons c cs ih => intro st; exact ih _
theorem okS_app (g : Int) (A B : List (List Int)) : ∀ st, okS g (A ++ B) st ↔ okS g A st ∧ okS g B (runS A st) := by
  induction A with
  | nil => intro st; exact ⟨fun h => ⟨trivial, h⟩, fun h => h.2⟩
  | cons c cs ih =>
    intro st
    show (_ ∧ okS g (cs ++ B) _) ↔ (_ ∧ okS g cs _) ∧ okS g B _
    rw [ih]
    exact ⟨fun h => ⟨⟨h.1, h.2.1⟩, h.2.2⟩, fun h => ⟨h.1.1, h.1.2, h.2⟩⟩
theorem scan_app (g : Int) (A B : List (List Int)) : ∀ st, okS g A st → scanR g (A ++ B) st = ((scanR g B (runS A st)).1, (scanR g B (runS A st)).2 + (A.length : Int)) := by
  induction A with
  | nil => intro st _; simp [runS]
  | cons c cs ih =>
    intro st h
    obtain ⟨h1, h2⟩ := h
    have e := ih _ h2
    rw [List.cons_append, scanR_cons, if_neg h1, e]
    show (_, _) = ((scanR g B (runS cs (nextS st (readT c)))).1, _)
    rw [List.length_cons]
    congr 1
    show _ = (scanR g B (runS cs (nextS st (readT c)))).2 + _
    rw [Int.natCast_add]
    simp only []
    omega
theorem scan_ok (g : Int) (A : List (List Int)) (st : Sc) (h : okS g A st) : scanR g A st = ((runS A st).runs, (A.length : Int)) := by
  have e := scan_app g A [] st h
  rw [List.append_nil] at e
  rw [e]
  simp [scanR]
theorem scan_stop (g : Int) (A : List (List Int)) (c : List Int) (B : List (List Int)) (st : Sc) (h : okS g A st) (hb : badS g (runS A st) (readT c)) : scanR g (A ++ c :: B) st = ((runS A st).runs, (A.length : Int)) := by
  rw [scan_app g A (c :: B) st h, scanR_cons, if_pos hb]
  simp
/-- the zero cell does not count -/
theorem z64_bad (g : Int) (st : Sc) : badS g st (readT (List.replicate 64 0)) := by
  left
  show (readT (List.replicate 64 0)).2.2.2.2 ≠ 0
  decide +kernel
theorem scan_z (g : Int) (st : Sc) (n : Nat) : scanR g (List.replicate n (List.replicate 64 0)) st = (st.runs, 0) := by
  cases n with
  | zero => rfl
  | succ n => rw [List.replicate_succ, scanR_cons, if_pos (z64_bad g st)]

/-- what a run's own cell answers -/
theorem readT_cell (g e : Nat) (f : Bool) (p : List Int) (hg0 : 0 < g) (hg : g < 4294967296) (he : e < 4294967296) (hp0 : 0 < p.length) (hp : p.length ≤ 47) :
    readT (cellOf g e f p) = ((g : Int), (e : Int), f, p, 0) := by
  obtain ⟨h1, h2, h3⟩ := read_cell g e f p hg0 hg he hp0 hp
  unfold readT
  rw [if_neg (fun h => h (cellOf_len g e f p hp)), if_neg (fun h => h h1), h2, data_cell g e f p hp, front_cell g e f p hg he]
  have e1 := stampN_div g e he
  have e2 := stampN_mod g e he
  have e3 : ((stampN g e : Int) / 4294967296) = (g : Int) := by omega
  have e4 : ((stampN g e : Int) % 4294967296) = (e : Int) := by omega
  rw [e3, e4]
  have e5 : decide (128 ≤ (rd (cellOf g e f p) 8).toNat) = f := by
    cases f with
    | true => exact decide_eq_true (h3.2 rfl)
    | false => exact decide_eq_false (fun h => by have := h3.1 h; cases this)
  rw [e5]
/-- a run's cells, from the j-th on -/
def tailC (g e : Nat) (b : List Int) : Nat → Nat → List (List Int)
  | 0, _ => []
  | n + 1, j => cellOf g e (j == 0) (pieceOf b j) :: tailC g e b n (j + 1)
theorem tailC_snoc (g e : Nat) (b : List Int) : ∀ n j, tailC g e b (n + 1) j = tailC g e b n j ++ [cellOf g e (j + n == 0) (pieceOf b (j + n))]
  | 0, j => rfl
  | n + 1, j => by
    show _ :: tailC g e b (n + 1) (j + 1) = (_ :: tailC g e b n (j + 1)) ++ _
    rw [tailC_snoc g e b n (j + 1), List.cons_append, show j + 1 + n = j + (n + 1) by omega]
theorem cells_tail (g e : Nat) (b : List Int) : ∀ n, n ≤ pieces b.length → cellsOf g e b (upto b.length n) = tailC g e b n 0
  | 0, _ => rfl
  | n + 1, h => by
    rw [upto_succ b.length n (by omega), cellsOf_snoc, cells_tail g e b n (by omega), tailC_snoc, upto_length _ _ (by omega), Nat.zero_add]
theorem run_tail (g e : Nat) (b : List Int) : runCells g e b = tailC g e b (pieces b.length) 0 := cells_tail g e b _ (Nat.le_refl _)
theorem tailC_len (g e : Nat) (b : List Int) : ∀ n j, (tailC g e b n j).length = n
  | 0, _ => rfl
  | n + 1, j => by show (tailC g e b n (j + 1)).length + 1 = _; rw [tailC_len]
theorem appLast_snoc (l : List (List Int)) (x d : List Int) : appLast (l ++ [x]) d = l ++ [x ++ d] := by
  unfold appLast
  rw [List.length_append, List.length_singleton, Nat.add_sub_cancel]
  rw [List.getD_eq_getElem?_getD, List.getElem?_append_right (Nat.le_refl _), Nat.sub_self]
  show (l ++ [x]).set l.length (x ++ d) = _
  rw [List.set_append_right _ _ (Nat.le_refl _), Nat.sub_self]
  rfl
theorem take_piece (b : List Int) (j : Nat) : b.take (47 * j) ++ pieceOf b j = b.take (47 * (j + 1)) := by
  unfold pieceOf
  rw [show 47 * (j + 1) = 47 * j + 47 by omega, List.take_add]
  congr 1
  unfold pieceL
  apply List.ext_getElem?
  intro k
  rw [List.getElem?_take, List.getElem?_take, List.getElem?_drop]
  by_cases h : k < 47
  · rw [if_pos h]
    by_cases h2 : k < min 47 (b.length - 47 * j)
    · rw [if_pos h2]
    · rw [if_neg h2, List.getElem?_eq_none (by omega)]
  · rw [if_neg h, if_neg (by omega)]
/-- the pieces behind the first, scanned -/
theorem scan_tail (g e : Nat) (b : List Int) (hg0 : 0 < g) (hg : g < 4294967296) (he : e < 4294967296) (rs : List (List Int)) : ∀ n j, 0 < j → j + n = pieces b.length →
    okS (g : Int) (tailC g e b n j) ⟨rs ++ [b.take (47 * j)], (e : Int), false⟩ ∧ runS (tailC g e b n j) ⟨rs ++ [b.take (47 * j)], (e : Int), false⟩ = ⟨rs ++ [b], (e : Int), false⟩
  | 0, j, hj, h => by
    refine ⟨trivial, ?_⟩
    show (⟨rs ++ [b.take (47 * j)], (e : Int), false⟩ : Sc) = _
    rw [List.take_of_length_le (by unfold pieces at h; omega)]
  | n + 1, j, hj, h => by
    have hpl := pieceOf_len b j
    have hR := readT_cell g e (j == 0) (pieceOf b j) hg0 hg he (by rw [hpl]; unfold pieceL; unfold pieces at h; omega) (by rw [hpl]; exact pieceL_le _ _)
    have hj0 : (j == 0) = false := by simp; omega
    rw [hj0] at hR
    have hN : nextS ⟨rs ++ [b.take (47 * j)], (e : Int), false⟩ (readT (cellOf g e (j == 0) (pieceOf b j))) = ⟨rs ++ [b.take (47 * (j + 1))], (e : Int), false⟩ := by
      rw [hj0, hR]
      unfold nextS
      simp only [Bool.false_eq_true, if_false]
      rw [appLast_snoc, take_piece]
    obtain ⟨i1, i2⟩ := scan_tail g e b hg0 hg he rs n (j + 1) (by omega) (by omega)
    refine ⟨⟨?_, ?_⟩, ?_⟩
    · rw [hj0, hR]
      rintro (h | h | h | ⟨_, h | h⟩)
      · exact h rfl
      · exact h rfl
      · exact Int.lt_irrefl _ h
      · cases h
      · exact h rfl
    · rw [hN]; exact i1
    · show runS _ (nextS _ _) = _
      rw [hN]; exact i2
theorem scan_run (g e : Nat) (b : List Int) (hg0 : 0 < g) (hg : g < 4294967296) (he : e < 4294967296) (hb : 0 < b.length) (st : Sc) (hs : st.epoch ≤ (e : Int)) :
    okS (g : Int) (runCells g e b) st ∧ runS (runCells g e b) st = ⟨st.runs ++ [b], (e : Int), false⟩ := by
  obtain ⟨n, hn⟩ : ∃ n, pieces b.length = n + 1 := ⟨pieces b.length - 1, by unfold pieces; omega⟩
  rw [run_tail, hn]
  have hpl := pieceOf_len b 0
  have hR := readT_cell g e true (pieceOf b 0) hg0 hg he (by rw [hpl]; unfold pieceL; omega) (by rw [hpl]; exact pieceL_le _ _)
  have hN : nextS st (readT (cellOf g e true (pieceOf b 0))) = ⟨st.runs ++ [b.take (47 * 1)], (e : Int), false⟩ := by
    rw [hR]
    unfold nextS
    simp only [if_true]
    rw [appLast_snoc]
    have := take_piece b 0
    rw [Nat.mul_zero, List.take_zero] at this
    rw [this]
  obtain ⟨i1, i2⟩ := scan_tail g e b hg0 hg he st.runs n 1 (by omega) (by omega)
  refine ⟨⟨?_, ?_⟩, ?_⟩
  · show ¬ badS (g : Int) st (readT (cellOf g e true (pieceOf b 0)))
    rw [hR]
    rintro (h | h | h | ⟨h, _⟩)
    · exact h rfl
    · exact h rfl
    · exact absurd h (by show ¬ (e : Int) < st.epoch; omega)
    · cases h
  · show okS (g : Int) _ (nextS st (readT (cellOf g e true (pieceOf b 0))))
    rw [hN]; exact i1
  · show runS _ (nextS st (readT (cellOf g e true (pieceOf b 0)))) = _
    rw [hN]; exact i2
/-- runs one behind the other, from the i-th on -/
def laidL (g : Nat) : Nat → List (List Int) → List (List Int)
  | _, [] => []
  | i, b :: bs => runCells g (3 + i / 2) b ++ laidL g (i + 1) bs
theorem scan_laid (g : Nat) (hg0 : 0 < g) (hg : g < 4294967296) : ∀ (bs : List (List Int)) (i : Nat) (st : Sc), i + bs.length ≤ 1000000 → (∀ b ∈ bs, 0 < b.length) → st.epoch ≤ ((3 + i / 2 : Nat) : Int) →
    okS (g : Int) (laidL g i bs) st ∧ (runS (laidL g i bs) st).runs = st.runs ++ bs
  | [], i, st, _, _, _ => ⟨trivial, by show st.runs = _; rw [List.append_nil]⟩
  | b :: bs, i, st, hi, hb, hs => by
    rw [List.length_cons] at hi
    obtain ⟨h1, h2⟩ := scan_run g (3 + i / 2) b hg0 hg (by omega) (hb b (List.mem_cons_self ..)) st hs
    obtain ⟨i1, i2⟩ := scan_laid g hg0 hg bs (i + 1) ⟨st.runs ++ [b], ((3 + i / 2 : Nat) : Int), false⟩ (by omega) (fun x hx => hb x (List.mem_cons_of_mem _ hx)) (by show ((3 + i / 2 : Nat) : Int) ≤ _; omega)
    show okS _ (_ ++ _) _ ∧ (runS (_ ++ _) _).runs = _
    rw [okS_app, runS_app, h2]
    refine ⟨⟨h1, i1⟩, ?_⟩
    rw [i2, List.append_assoc]
    rfl
end Go.Proofs.Ytfkndnocjelhgaa.Ext
