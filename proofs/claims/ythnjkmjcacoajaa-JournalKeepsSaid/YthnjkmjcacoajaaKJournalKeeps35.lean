import Derived.Test.YthnjkmjcacoajaaKJournalKeeps33
import Derived.Test.YthnjkmjcacoajaaKJournalKeeps34
section
/- A cell that is written over a sector in part: plain. No condition. -/
namespace Go.Proofs.Ythnjkmjcacoajaa.Jn
open Go Go.RowKit Go.Proofs.YthnjkmjcacoajaaW.PrintWords Go.Proofs.YthnjkmjcacoajaaW.PrintLast Go.Proofs.YthnjkmjcacoajaaW.PrintMore Go.Proofs.Ythnjkmjcacoajaa.Base Go.Proofs.Ythnjkmjcacoajaa.Arr
open Go.Proofs.Ythnjkmjcacoajaa.Ext (rd_mix back_rd rd_take8 backOK stampV stampN readT readC valN cellOf cellOf_len cellOf_bytes front_cell edgeL edgeL_len cellOf_eq cell0_take cell0_back Bytes)
set_option linter.unusedVariables false
set_option linter.unusedSimpArgs false
set_option maxRecDepth 100000

/-! ### numbers: front, end, and the greatest stamp that was tried -/
structure InvN (f b V : Nat) : Prop where
  le : b ≤ V
  pre : ∀ k : Nat, V / 256 ^ k = b / 256 ^ k → f / 256 ^ k = b / 256 ^ k
theorem InvN.mono {f b V V' : Nat} (h : InvN f b V) (hV : V ≤ V') : InvN f b V' := by
  refine ⟨Nat.le_trans h.le hV, fun k hk => h.pre k ?_⟩
  have h1 : b / 256 ^ k ≤ V / 256 ^ k := Nat.div_le_div_right h.le
  have h2 : V / 256 ^ k ≤ V' / 256 ^ k := Nat.div_le_div_right hV
  omega
theorem InvN.same (f V : Nat) (h : f ≤ V) : InvN f f V := ⟨h, fun _ _ => rfl⟩
theorem mixN_div (n f m : Nat) (hm : 0 < m) : (n / m * m + f % m) / m = n / m := by
  rw [Nat.add_comm, Nat.add_mul_div_right _ _ hm, Nat.div_eq_of_lt (Nat.mod_lt _ hm), Nat.zero_add]
theorem pow_pos' (k : Nat) : 0 < 256 ^ k := Nat.pow_pos (by decide)
theorem InvN.front {f b V n : Nat} (h : InvN f b V) (hV : V ≤ n) (q : Nat) : InvN (n / 256 ^ q * 256 ^ q + f % 256 ^ q) b n ∧ (n / 256 ^ q * 256 ^ q + f % 256 ^ q = b → n / 256 ^ q * 256 ^ q + f % 256 ^ q = f ∧ f = b) := by
  have h' := h.mono hV
  have key : n / 256 ^ q = b / 256 ^ q → n / 256 ^ q * 256 ^ q + f % 256 ^ q = f := fun e => by
    rw [e, ← h'.pre q e]
    rw [Nat.mul_comm]
    exact Nat.div_add_mod f _
  constructor
  · refine ⟨h'.le, fun k hk => ?_⟩
    by_cases hkq : q ≤ k
    · obtain ⟨j, rfl⟩ : ∃ j, k = q + j := ⟨k - q, by omega⟩
      rw [← hk, Nat.pow_add, ← Nat.div_div_eq_div_mul, mixN_div _ _ _ (pow_pos' q), Nat.div_div_eq_div_mul]
    · obtain ⟨j, rfl⟩ : ∃ j, q = k + j := ⟨q - k, by omega⟩
      rw [key (by rw [Nat.pow_add, ← Nat.div_div_eq_div_mul, ← Nat.div_div_eq_div_mul, hk])]
      exact h'.pre k hk
  · intro e
    have h1 : n / 256 ^ q = b / 256 ^ q := by rw [← e, mixN_div _ _ _ (pow_pos' q)]
    have h2 := key h1
    exact ⟨h2, h2.symm.trans e⟩
theorem InvN.back {b n : Nat} (hb : b ≤ n) (q : Nat) : InvN n (b / 256 ^ q * 256 ^ q + n % 256 ^ q) n := by
  refine ⟨?_, fun k hk => hk⟩
  have h1 : b / 256 ^ q ≤ n / 256 ^ q := Nat.div_le_div_right hb
  have h2 := Nat.mul_le_mul_right (256 ^ q) h1
  have h3 := Nat.div_add_mod n (256 ^ q)
  rw [Nat.mul_comm] at h3
  omega
/-! ### bytes -/
theorem byte_at {l : List Int} (h : Bytes l) (i : Nat) : 0 ≤ rd l (i : Int) ∧ rd l (i : Int) < 256 := by
  unfold rd
  rw [Int.toNat_natCast, List.getD_eq_getElem?_getD]
  cases hq : l[i]? with
  | none => exact ⟨Int.le_refl _, by decide⟩
  | some x => exact h x (List.mem_of_getElem? hq)
def B (l : List Int) (i : Nat) : Nat := (rd l (i : Int)).toNat
theorem B_lt {l : List Int} (h : Bytes l) (i : Nat) : B l i < 256 := by have := byte_at h i; unfold B; omega
theorem B_inj {l l' : List Int} (h : Bytes l) (h' : Bytes l') {i : Nat} (he : B l i = B l' i) : rd l (i : Int) = rd l' (i : Int) := by
  have := byte_at h i; have := byte_at h' i; unfold B at he; omega
theorem ext_rd {l l' : List Int} (hl : l.length = 64) (hl' : l'.length = 64) (h : ∀ i : Nat, i < 64 → rd l (i : Int) = rd l' (i : Int)) : l = l' := by
  refine List.ext_getElem (by rw [hl, hl']) fun i h1 h2 => ?_
  have := h i (by omega)
  unfold rd at this
  rw [Int.toNat_natCast, List.getD_eq_getElem?_getD, List.getD_eq_getElem?_getD, List.getElem?_eq_getElem h1, List.getElem?_eq_getElem h2] at this
  exact this
theorem stamp_B (l : List Int) : stampV l = (B l 0 * 16777216 + B l 1 * 65536 + B l 2 * 256 + B l 3) * 4294967296 + (B l 4 * 16777216 + B l 5 * 65536 + B l 6 * 256 + B l 7) := by
  unfold stampV
  simp only [valN, B, rd_take8 l 0 (by decide), rd_take8 l 1 (by decide), rd_take8 l 2 (by decide), rd_take8 l 3 (by decide), rd_take8 l 4 (by decide), rd_take8 l 5 (by decide), rd_take8 l 6 (by decide), rd_take8 l 7 (by decide)]
  omega
/-- what the end says -/
def backV (l : List Int) : Nat := (B l 63 * 16777216 + B l 62 * 65536 + B l 61 * 256 + B l 60) * 4294967296 + (B l 59 * 16777216 + B l 58 * 65536 + B l 57 * 256 + B l 56)
theorem back_of {x : List Int} (hl : x.length = 64) (h : backOK x) : stampV x = backV x := by
  have e : ∀ i, i < 8 → B x (56 + i) = B x (7 - i) := fun i hi => by unfold B; rw [back_rd x hl h i hi]
  have e0 := e 0 (by decide); have e1 := e 1 (by decide); have e2 := e 2 (by decide); have e3 := e 3 (by decide)
  have e4 := e 4 (by decide); have e5 := e 5 (by decide); have e6 := e 6 (by decide); have e7 := e 7 (by decide)
  rw [stamp_B]
  unfold backV
  rw [e0, e1, e2, e3, e4, e5, e6, e7]
theorem back_cell (g e : Nat) (f : Bool) (p : List Int) (hp : p.length ≤ 47) : backOK (cellOf g e f p) := by
  have h8 : (edgeL (stampN g e)).length = 8 := edgeL_len _
  unfold backOK
  rw [cellOf_eq, cell0_take _ _ _ h8, cell0_back _ _ p h8 hp, List.reverse_reverse]
theorem mix_len (C S : List Int) (cut : Nat) (hC : C.length = 64) (hS : S.length = 64) (h : cut ≤ 64) : (C.take cut ++ S.drop cut).length = 64 := by
  rw [List.length_append, List.length_take, List.length_drop]; omega
theorem B_mix {C X : List Int} (hC : C.length = 64) (hX : X.length = 64) (cut : Nat) (hc : cut ≤ 64) (i : Nat) : B (C.take cut ++ X.drop cut) i = if i < cut then B C i else B X i := by
  unfold B
  rw [rd_mix C X cut hC hX hc i]
  split <;> rfl
theorem mix_read {x : List Int} (h : (readT x).2.2.2.2 = 0) (hl : x.length = 64) : backOK x := by
  unfold readT at h
  rw [if_neg (by omega)] at h
  by_cases hr : readC x = 0
  · unfold readC at hr
    by_cases hb : backOK x
    · exact hb
    · rw [if_pos hb] at hr; cases hr
  · rw [if_pos hr] at h
    exact absurd h hr
/-- front of a mixture -/
theorem mix_front {C X : List Int} (hC : C.length = 64) (hX : X.length = 64) (bC : Bytes C) (bX : Bytes X) (cut : Nat) (hc : cut ≤ 8) : stampV (C.take cut ++ X.drop cut) = stampV C / 256 ^ (8 - cut) * 256 ^ (8 - cut) + stampV X % 256 ^ (8 - cut) := by
  have hm := B_mix hC hX cut (by omega)
  have c0 := B_lt bC 0; have c1 := B_lt bC 1; have c2 := B_lt bC 2; have c3 := B_lt bC 3; have c4 := B_lt bC 4; have c5 := B_lt bC 5; have c6 := B_lt bC 6; have c7 := B_lt bC 7
  have x0 := B_lt bX 0; have x1 := B_lt bX 1; have x2 := B_lt bX 2; have x3 := B_lt bX 3; have x4 := B_lt bX 4; have x5 := B_lt bX 5; have x6 := B_lt bX 6; have x7 := B_lt bX 7
  rw [stamp_B, stamp_B C, stamp_B X]
  simp only [hm]
  generalize B C 0 = c0 at *; generalize B C 1 = c1 at *; generalize B C 2 = c2 at *; generalize B C 3 = c3 at *; generalize B C 4 = c4 at *; generalize B C 5 = c5 at *; generalize B C 6 = c6 at *; generalize B C 7 = c7 at *
  generalize B X 0 = x0 at *; generalize B X 1 = x1 at *; generalize B X 2 = x2 at *; generalize B X 3 = x3 at *; generalize B X 4 = x4 at *; generalize B X 5 = x5 at *; generalize B X 6 = x6 at *; generalize B X 7 = x7 at *
  clear hm hC hX bC bX
  obtain rfl | rfl | rfl | rfl | rfl | rfl | rfl | rfl | rfl : cut = 0 ∨ cut = 1 ∨ cut = 2 ∨ cut = 3 ∨ cut = 4 ∨ cut = 5 ∨ cut = 6 ∨ cut = 7 ∨ cut = 8 := by omega
  all_goals simp only [Nat.reduceLT, if_true, if_false, Nat.reduceSub, Nat.reducePow, reduceIte]
  all_goals omega
theorem mix_back {C X : List Int} (hC : C.length = 64) (hX : X.length = 64) (bC : Bytes C) (bX : Bytes X) (r : Nat) (hr : r ≤ 8) : backV (C.take (56 + r) ++ X.drop (56 + r)) = backV X / 256 ^ r * 256 ^ r + backV C % 256 ^ r := by
  have hm := B_mix hC hX (56 + r) (by omega)
  have c0 := B_lt bC 63; have c1 := B_lt bC 62; have c2 := B_lt bC 61; have c3 := B_lt bC 60; have c4 := B_lt bC 59; have c5 := B_lt bC 58; have c6 := B_lt bC 57; have c7 := B_lt bC 56
  have x0 := B_lt bX 63; have x1 := B_lt bX 62; have x2 := B_lt bX 61; have x3 := B_lt bX 60; have x4 := B_lt bX 59; have x5 := B_lt bX 58; have x6 := B_lt bX 57; have x7 := B_lt bX 56
  unfold backV
  simp only [hm]
  generalize B C 63 = c0 at *; generalize B C 62 = c1 at *; generalize B C 61 = c2 at *; generalize B C 60 = c3 at *; generalize B C 59 = c4 at *; generalize B C 58 = c5 at *; generalize B C 57 = c6 at *; generalize B C 56 = c7 at *
  generalize B X 63 = x0 at *; generalize B X 62 = x1 at *; generalize B X 61 = x2 at *; generalize B X 60 = x3 at *; generalize B X 59 = x4 at *; generalize B X 58 = x5 at *; generalize B X 57 = x6 at *; generalize B X 56 = x7 at *
  clear hm hC hX bC bX
  obtain rfl | rfl | rfl | rfl | rfl | rfl | rfl | rfl | rfl : r = 0 ∨ r = 1 ∨ r = 2 ∨ r = 3 ∨ r = 4 ∨ r = 5 ∨ r = 6 ∨ r = 7 ∨ r = 8 := by omega
  all_goals simp only [Nat.reduceLT, if_true, if_false, Nat.reduceSub, Nat.reducePow, Nat.reduceAdd, reduceIte]
  all_goals omega
theorem mix_back_old {C X : List Int} (hC : C.length = 64) (hX : X.length = 64) (cut : Nat) (hc : cut ≤ 56) : backV (C.take cut ++ X.drop cut) = backV X := by
  have hm := B_mix hC hX cut (by omega)
  unfold backV
  rw [hm, hm, hm, hm, hm, hm, hm, hm]
  simp only [show ¬ 63 < cut by omega, show ¬ 62 < cut by omega, show ¬ 61 < cut by omega, show ¬ 60 < cut by omega, show ¬ 59 < cut by omega, show ¬ 58 < cut by omega, show ¬ 57 < cut by omega, show ¬ 56 < cut by omega, if_false]
theorem mix_front_new {C X : List Int} (hC : C.length = 64) (hX : X.length = 64) (cut : Nat) (h8 : 8 ≤ cut) (hc : cut ≤ 64) : stampV (C.take cut ++ X.drop cut) = stampV C := by
  have hm := B_mix hC hX cut hc
  rw [stamp_B, stamp_B C]
  rw [hm, hm, hm, hm, hm, hm, hm, hm]
  simp only [show 0 < cut by omega, show 1 < cut by omega, show 2 < cut by omega, show 3 < cut by omega, show 4 < cut by omega, show 5 < cut by omega, show 6 < cut by omega, show 7 < cut by omega, if_true]
theorem stamp_inj {a0 a1 a2 a3 a4 a5 a6 a7 b0 b1 b2 b3 b4 b5 b6 b7 : Nat} (h : (a0 * 16777216 + a1 * 65536 + a2 * 256 + a3) * 4294967296 + (a4 * 16777216 + a5 * 65536 + a6 * 256 + a7) = (b0 * 16777216 + b1 * 65536 + b2 * 256 + b3) * 4294967296 + (b4 * 16777216 + b5 * 65536 + b6 * 256 + b7))
    (ha : a0 < 256 ∧ a1 < 256 ∧ a2 < 256 ∧ a3 < 256 ∧ a4 < 256 ∧ a5 < 256 ∧ a6 < 256 ∧ a7 < 256) (hb : b0 < 256 ∧ b1 < 256 ∧ b2 < 256 ∧ b3 < 256 ∧ b4 < 256 ∧ b5 < 256 ∧ b6 < 256 ∧ b7 < 256) : a0 = b0 ∧ a1 = b1 ∧ a2 = b2 ∧ a3 = b3 ∧ a4 = b4 ∧ a5 = b5 ∧ a6 = b6 ∧ a7 = b7 := by
  refine ⟨?_, ?_, ?_, ?_, ?_, ?_, ?_, ?_⟩ <;> omega
theorem old_eq {C X : List Int} (hC : C.length = 64) (hX : X.length = 64) (bC : Bytes C) (bX : Bytes X) (cut : Nat) (hc : cut ≤ 8) (h : stampV (C.take cut ++ X.drop cut) = stampV X) : C.take cut ++ X.drop cut = X := by
  have hm := B_mix hC hX cut (by omega)
  have bm : Bytes (C.take cut ++ X.drop cut) := fun x hx => (List.mem_append.1 hx).elim (fun q => bC x (List.mem_of_mem_take q)) (fun q => bX x (List.mem_of_mem_drop q))
  have hb := B_lt bm
  have hx := B_lt bX
  rw [stamp_B, stamp_B X] at h
  obtain ⟨q0, q1, q2, q3, q4, q5, q6, q7⟩ := stamp_inj h ⟨hb 0, hb 1, hb 2, hb 3, hb 4, hb 5, hb 6, hb 7⟩ ⟨hx 0, hx 1, hx 2, hx 3, hx 4, hx 5, hx 6, hx 7⟩
  refine ext_rd (mix_len C X cut hC hX (by omega)) hX fun i hi => ?_
  by_cases h8 : i < 8
  · obtain rfl | rfl | rfl | rfl | rfl | rfl | rfl | rfl : i = 0 ∨ i = 1 ∨ i = 2 ∨ i = 3 ∨ i = 4 ∨ i = 5 ∨ i = 6 ∨ i = 7 := by omega
    all_goals exact B_inj bm bX (by assumption)
  · rw [rd_mix C X cut hC hX (by omega) i, if_neg (by omega)]
theorem new_eq {C X : List Int} (hC : C.length = 64) (hX : X.length = 64) (kC : backOK C) (cut : Nat) (hc : cut ≤ 64) (h57 : 56 ≤ cut) (hb : backOK (C.take cut ++ X.drop cut)) : C.take cut ++ X.drop cut = C := by
  refine ext_rd (mix_len C X cut hC hX hc) hC fun i hi => ?_
  by_cases h1 : i < cut
  · rw [rd_mix C X cut hC hX hc i, if_pos h1]
  · have := back_rd _ (mix_len C X cut hC hX hc) hb (i - 56) (by omega)
    have h2 := back_rd C hC kC (i - 56) (by omega)
    rw [show 56 + (i - 56) = i by omega] at this h2
    rw [this, h2, rd_mix C X cut hC hX hc, if_pos (by omega)]
end Go.Proofs.Ythnjkmjcacoajaa.Jn
end

section
/- A sector of a journal, and what a torn write leaves of it: plain. No condition beyond those stated. -/
namespace Go.Proofs.Ythnjkmjcacoajaa.Jn
open Go Go.RowKit Go.Proofs.YthnjkmjcacoajaaW.PrintWords Go.Proofs.YthnjkmjcacoajaaW.PrintLast Go.Proofs.YthnjkmjcacoajaaW.PrintMore Go.Proofs.Ythnjkmjcacoajaa.Base Go.Proofs.Ythnjkmjcacoajaa.Arr
open Go.Proofs.Ythnjkmjcacoajaa.Ext (backOK stampV stampN readT readC cellOf cellOf_len cellOf_bytes front_cell stampN_mod stampN_div Bytes runCells)
set_option linter.unusedVariables false
set_option linter.unusedSimpArgs false

theorem mixE (f n e : Nat) (hn : n % 4294967296 = e) (hf : f % 4294967296 ≤ e) (k : Nat) (hk : k ≤ 8) : f % 4294967296 ≤ (n / 256 ^ k * 256 ^ k + f % 256 ^ k) % 4294967296 ∧ (n / 256 ^ k * 256 ^ k + f % 256 ^ k) % 4294967296 ≤ e / 16777216 * 16777216 + 16777215 := by
  obtain rfl | rfl | rfl | rfl | rfl | rfl | rfl | rfl | rfl : k = 0 ∨ k = 1 ∨ k = 2 ∨ k = 3 ∨ k = 4 ∨ k = 5 ∨ k = 6 ∨ k = 7 ∨ k = 8 := by omega
  all_goals simp only [Nat.reducePow]
  all_goals omega
theorem mixL (b n e : Nat) (hn : n % 4294967296 = e) (hb : b % 4294967296 ≤ e) (k : Nat) (hk : k ≤ 8) : (b / 256 ^ k * 256 ^ k + n % 256 ^ k) % 4294967296 ≤ e := by
  obtain rfl | rfl | rfl | rfl | rfl | rfl | rfl | rfl | rfl : k = 0 ∨ k = 1 ∨ k = 2 ∨ k = 3 ∨ k = 4 ∨ k = 5 ∨ k = 6 ∨ k = 7 ∨ k = 8 := by omega
  all_goals simp only [Nat.reducePow]
  all_goals omega
/-- a sector that was written by stamps up to (G, e) -/
structure SecW (X : List Int) (G e : Nat) : Prop where
  len : X.length = 64
  by_ : Bytes X
  inv : InvN (stampV X) (backV X) (stampN G e)
  be : backV X % 4294967296 ≤ stampV X % 4294967296
theorem stampN_le {G G' e e' : Nat} (h : G ≤ G') (he : e ≤ e') : stampN G e ≤ stampN G' e' := by unfold stampN; omega
theorem SecW.mono {X : List Int} {G G' e e' : Nat} (h : SecW X G e) (hG : G ≤ G') (he : e ≤ e') : SecW X G' e' := ⟨h.len, h.by_, h.inv.mono (stampN_le hG he), h.be⟩
theorem secw_zero (G e : Nat) : SecW (List.replicate 64 0) G e := by
  have h1 : stampV (List.replicate 64 0) = 0 := by decide +kernel
  have h2 : backV (List.replicate 64 0) = 0 := by decide +kernel
  refine ⟨List.length_replicate, fun x hx => by rw [List.eq_of_mem_replicate hx]; decide, ?_, by rw [h1, h2]; decide⟩
  rw [h1, h2]
  exact InvN.same 0 _ (Nat.zero_le _)
/-- what a cell of a stamp is -/
structure CellIs (C : List Int) (G e : Nat) : Prop where
  len : C.length = 64
  by_ : Bytes C
  ok : backOK C
  st : stampV C = stampN G e
theorem cell_is (G e : Nat) (f : Bool) (p : List Int) (hp : p.length ≤ 47) (hb : Bytes p) (hG : G < 4294967296) (he : e < 4294967296) : CellIs (cellOf G e f p) G e :=
  ⟨cellOf_len G e f p hp, cellOf_bytes G e f p hp hb, back_cell G e f p hp, front_cell G e f p hG he⟩
theorem run_is {G e : Nat} {b c : List Int} (hb : Bytes b) (hG : G < 4294967296) (he : e < 4294967296) (h : c ∈ runCells G e b) : CellIs c G e := by
  obtain ⟨f, p, hp, rfl, hpb⟩ := run_mem h
  exact cell_is G e f p hp (hpb hb) hG he
theorem CellIs.secw {C : List Int} {G e : Nat} (h : CellIs C G e) : SecW C G e := by
  have hb := back_of h.len h.ok
  refine ⟨h.len, h.by_, ?_, by rw [hb]; exact Nat.le_refl _⟩
  rw [← hb, h.st]
  exact InvN.same _ _ (Nat.le_refl _)
/-- a torn write: valid it is only as the new cell or the old sector; its epoch is bounded -/
theorem SecW.tear {X C : List Int} {G e : Nat} (h : SecW X G e) (he : e < 4294967296) (hf : stampV X % 4294967296 ≤ e) (hne : backV X ≠ stampN G e) (hC : CellIs C G e) (cut : Nat) (hc : cut ≤ 64) :
    SecW (C.take cut ++ X.drop cut) G e ∧ (backOK (C.take cut ++ X.drop cut) → C.take cut ++ X.drop cut = C ∨ C.take cut ++ X.drop cut = X) ∧ stampV X % 4294967296 ≤ stampV (C.take cut ++ X.drop cut) % 4294967296 ∧ stampV (C.take cut ++ X.drop cut) % 4294967296 ≤ e / 16777216 * 16777216 + 16777215 := by
  have hl := mix_len C X cut hC.len h.len hc
  have bm : Bytes (C.take cut ++ X.drop cut) := fun x hx => (List.mem_append.1 hx).elim (fun q => hC.by_ x (List.mem_of_mem_take q)) (fun q => h.by_ x (List.mem_of_mem_drop q))
  have hmod := stampN_mod G e he
  by_cases h8 : cut ≤ 8
  · have e1 := mix_front hC.len h.len hC.by_ h.by_ cut h8
    have e2 := mix_back_old hC.len h.len cut (by omega)
    rw [hC.st] at e1
    obtain ⟨a1, a2⟩ := h.inv.front (Nat.le_refl (stampN G e)) (8 - cut)
    obtain ⟨m1, m2⟩ := mixE (stampV X) (stampN G e) e hmod hf (8 - cut) (by omega)
    rw [← e1] at a1 a2 m1 m2
    refine ⟨⟨hl, bm, by rw [e2]; exact a1, by rw [e2]; exact Nat.le_trans h.be m1⟩, fun hb => .inr ?_, m1, m2⟩
    have hv := back_of hl hb
    rw [e2] at hv
    exact old_eq hC.len h.len hC.by_ h.by_ cut h8 (a2 hv).1
  · have e1 := mix_front_new hC.len h.len cut (by omega) hc
    rw [hC.st] at e1
    have hle : stampV X % 4294967296 ≤ stampV (C.take cut ++ X.drop cut) % 4294967296 := by rw [e1, hmod]; exact hf
    have hbd : stampV (C.take cut ++ X.drop cut) % 4294967296 ≤ e / 16777216 * 16777216 + 16777215 := by rw [e1, hmod]; omega
    by_cases h56 : cut ≤ 56
    · have e2 := mix_back_old hC.len h.len cut h56
      refine ⟨⟨hl, bm, ?_, by rw [e2]; exact Nat.le_trans h.be hle⟩, fun hb => ?_, hle, hbd⟩
      · rw [e1, e2]
        exact ⟨h.inv.le, fun k hk => hk⟩
      · have hv := back_of hl hb
        rw [e1, e2] at hv
        exact absurd hv.symm hne
    · obtain ⟨r, rfl⟩ : ∃ r, cut = 56 + r := ⟨cut - 56, by omega⟩
      have e2 := mix_back hC.len h.len hC.by_ h.by_ r (by omega)
      have hcb := back_of hC.len hC.ok
      rw [hC.st] at hcb
      rw [← hcb] at e2
      refine ⟨⟨hl, bm, ?_, ?_⟩, fun hb => .inl (new_eq hC.len h.len hC.ok _ hc (by omega) hb), hle, hbd⟩
      · rw [e1, e2]
        exact InvN.back h.inv.le r
      · rw [e1, e2, hmod]
        exact mixL _ _ _ hmod (Nat.le_trans h.be hf) r (by omega)
end Go.Proofs.Ythnjkmjcacoajaa.Jn
end

section
/- A laying during which the power goes: what is left of it, sector by sector: plain. No condition beyond those stated. -/
namespace Go.Proofs.Ythnjkmjcacoajaa.Jn
open Go Go.RowKit Go.Proofs.YthnjkmjcacoajaaW.PrintWords Go.Proofs.YthnjkmjcacoajaaW.PrintLast Go.Proofs.YthnjkmjcacoajaaW.PrintMore Go.Proofs.Ythnjkmjcacoajaa.Base Go.Proofs.Ythnjkmjcacoajaa.Arr
open Go.Proofs.Ythnjkmjcacoajaa.Dk (DS DiskIs DiskTo writeF flushF doingF secOf secOf_put thereE there_ok lay lay_snoc lay_len curS curS_snoc goneS keptTo kept_off kept_on kept_last kept_fits tornS cutN cutN_le offB Fits Good)
set_option linter.unusedVariables false
set_option linter.unusedSimpArgs false

theorem lay_cur {n : Nat} {f : List Int} (hf : f.length = n * 64) {j : Nat} (hj : j < n) : ∀ (m : Nat) (l : List (Int × List Int)), l.length = m → Fits n l → secOf (lay f l) j = curS f l j
  | 0, l, hm, _ => by
    obtain rfl := List.eq_nil_of_length_eq_zero hm
    rfl
  | m + 1, l, hm, hl => by
    have hne : l ≠ [] := fun e => by rw [e] at hm; simp at hm
    obtain ⟨l', p, rfl⟩ : ∃ l' p, l = l' ++ [p] := ⟨l.dropLast, l.getLast hne, (List.dropLast_concat_getLast hne).symm⟩
    have hl' : Fits n l' := fun q hq => hl q (by simp [hq])
    have hp := hl p (by simp)
    rw [lay_snoc, secOf_put (lay_len hf l' hl') (by have := hp.1; have := hp.2.1; omega) hj hp.2.2, curS_snoc, lay_cur hf hj m l' (by simpa using hm) hl']
    by_cases e : j = p.1.toNat
    · rw [if_pos e, if_pos (by have := hp.1; omega)]
    · rw [if_neg e, if_neg (by have := hp.1; omega)]
/-- rows that were put over rows, each in part -/
structure Torn (R R' : List (List Int)) (at_ : Nat) (l : List (List Int)) : Prop where
  len : R'.length = R.length
  room : at_ + l.length ≤ R.length
  out : ∀ i, i < R.length → ¬ (at_ ≤ i ∧ i < at_ + l.length) → R'.getD i [] = R.getD i []
  in_ : ∀ i, i < l.length → ∃ cut : Nat, cut ≤ 64 ∧ R'.getD (at_ + i) [] = (l.getD i []).take cut ++ (R.getD (at_ + i) []).drop cut
theorem waitsOf_get : ∀ (l : List (List Int)) (at_ : Int) (i : Nat) (h : i < l.length), (waitsOf at_ l)[i]? = some (at_ + (i : Int), l.getD i [])
  | c :: cs, at_, 0, _ => by simp [waitsOf]
  | c :: cs, at_, i + 1, h => by
    have h' : i < cs.length := by rw [List.length_cons] at h; omega
    show (waitsOf (at_ + 1) cs)[i]? = _
    rw [waitsOf_get cs (at_ + 1) i h']
    have e : at_ + 1 + (i : Int) = at_ + ((i + 1 : Nat) : Int) := by omega
    rw [e]
    rfl
theorem waitsOf_len : ∀ (l : List (List Int)) (at_ : Int), (waitsOf at_ l).length = l.length
  | [], _ => rfl
  | c :: cs, at_ => by
    show (waitsOf (at_ + 1) cs).length + 1 = _
    rw [waitsOf_len cs]
    rfl
/-- what a fall keeps of writes of sectors one behind the other -/
theorem kept_cur {s : DS} {at_ : Nat} {l : List (List Int)} (hw : s.waits = waitsOf (at_ : Int) l) (hl : ∀ c ∈ l, c.length = 64) (hs : ∀ i, i < l.length → (secOf s.stays (at_ + i)).length = 64) (bits cut : Int) : ∀ j, j ≤ l.length →
    (∀ q, ¬ (at_ ≤ q ∧ q < at_ + j) → curS s.stays (keptTo s bits cut j) q = secOf s.stays q) ∧ ∀ i, i < j → ∃ c : Nat, c ≤ 64 ∧ curS s.stays (keptTo s bits cut j) (at_ + i) = (l.getD i []).take c ++ (secOf s.stays (at_ + i)).drop c
  | 0, _ => ⟨fun q _ => rfl, fun i hi => absurd hi (Nat.not_lt_zero _)⟩
  | j + 1, hj => by
    obtain ⟨h1, h2⟩ := kept_cur hw hl hs bits cut j (by omega)
    have hge : s.waits[j]? = some (((at_ + j : Nat) : Int), l.getD j []) := by
      rw [hw, waitsOf_get l _ j (by omega)]
      have e : (at_ : Int) + (j : Int) = ((at_ + j : Nat) : Int) := by omega
      rw [e]
    have hlen : (l.getD j []).length = 64 := hl _ (getD_mem (by omega))
    have hat := h1 (at_ + j) (by omega)
    have hsl := hs j (by omega)
    have hwl : s.waits.length = l.length := by rw [hw, waitsOf_len]
    cases ho : offB bits j with
    | true =>
      rw [kept_off hge ho]
      refine ⟨fun q hq => h1 q (by omega), fun i hi => ?_⟩
      by_cases hij : i = j
      · subst hij
        exact ⟨0, by omega, by rw [hat]; simp⟩
      · exact h2 i (by omega)
    | false =>
      have key : ∀ x : List Int, (∃ c : Nat, c ≤ 64 ∧ x = (l.getD j []).take c ++ (secOf s.stays (at_ + j)).drop c) → (∀ q, ¬ (at_ ≤ q ∧ q < at_ + (j + 1)) → curS s.stays (keptTo s bits cut j ++ [(((at_ + j : Nat) : Int), x)]) q = secOf s.stays q) ∧ ∀ i, i < j + 1 → ∃ c : Nat, c ≤ 64 ∧ curS s.stays (keptTo s bits cut j ++ [(((at_ + j : Nat) : Int), x)]) (at_ + i) = (l.getD i []).take c ++ (secOf s.stays (at_ + i)).drop c := by
        intro x hx
        refine ⟨fun q hq => ?_, fun i hi => ?_⟩
        · rw [curS_snoc, if_neg (by show ¬ ((at_ + j : Nat) : Int) = (q : Int); omega)]
          exact h1 q (by omega)
        · by_cases hij : i = j
          · subst hij
            rw [curS_snoc, if_pos rfl]
            exact hx
          · rw [curS_snoc, if_neg (by show ¬ ((at_ + j : Nat) : Int) = ((at_ + i : Nat) : Int); omega)]
            exact h2 i (by omega)
      by_cases hlast : j + 1 = s.waits.length
      · rw [kept_last hge ho hlast]
        refine key _ ⟨cutN cut, cutN_le cut, ?_⟩
        unfold tornS
        rw [Int.toNat_natCast, hat]
      · rw [kept_on hge ho hlast]
        exact key _ ⟨64, Nat.le_refl _, by rw [List.take_of_length_le (by omega), List.drop_of_length_le (by omega), List.append_nil]⟩
def upS (d : DS) : DS := { d with dead := false, plan := none }
theorem gone_torn {d s : DS} {at_ j : Nat} {l : List (List Int)} (hd : Calm d) (hn : s.n = d.n) (hst : s.stays = d.stays) (hj : j ≤ l.length) (hw : s.waits = waitsOf (at_ : Int) (l.take j)) (hr : at_ + l.length ≤ d.n) (hl : ∀ c ∈ l, c.length = 64) (bits cut : Int) :
    Calm (upS (goneS s bits cut)) ∧ (goneS s bits cut).n = d.n ∧ (goneS s bits cut).dead = true ∧ Torn (rowsD d) (rowsD (upS (goneS s bits cut))) at_ l := by
  have hlj : (l.take j).length = j := by rw [List.length_take]; omega
  have hlt : ∀ c ∈ l.take j, c.length = 64 := fun c hc => hl c (List.mem_of_mem_take hc)
  have hsl : s.stays.length = s.n * 64 := by rw [hst, hn]; exact hd.len
  have hfit : ∀ i, i ≤ j → Fits s.n (keptTo s bits cut i) := fun i _ => kept_fits ⟨by rw [hn]; exact hd.n1, by rw [hn]; exact hd.n2, hsl, fun p hp => by
    rw [hw] at hp
    obtain ⟨q, hq⟩ := List.getElem?_of_mem hp
    have hql : q < (l.take j).length := by
      have := (List.getElem?_eq_some_iff.1 hq).1
      rw [waitsOf_len] at this
      exact this
    rw [waitsOf_get _ _ q hql] at hq
    injection hq with hq
    subst hq
    rw [hlj] at hql
    exact ⟨by show (0 : Int) ≤ (at_ : Int) + (q : Int); omega, by show (at_ : Int) + (q : Int) < (s.n : Int); omega, hlt _ (getD_mem (by omega))⟩⟩ bits cut i
  obtain ⟨k1, k2⟩ := kept_cur hw hlt (fun i hi => Dk.secOf_len hsl (by omega)) bits cut j (by omega)
  have hwl : s.waits.length = j := by rw [hw, waitsOf_len, hlj]
  have hlen : (lay s.stays (keptTo s bits cut s.waits.length)).length = s.n * 64 := by rw [hwl]; exact lay_len hsl _ (hfit j (Nat.le_refl _))
  have hcalm : Calm (upS (goneS s bits cut)) := ⟨rfl, rfl, hlen, by show 1 ≤ s.n; rw [hn]; exact hd.n1, by show s.n ≤ 512; rw [hn]; exact hd.n2⟩
  have hsec : ∀ i, i < d.n → (rowsD (upS (goneS s bits cut))).getD i [] = curS s.stays (keptTo s bits cut j) i := fun i hi => by
    rw [calm_row hcalm i (by show i < s.n; omega)]
    show secOf (lay s.stays (keptTo s bits cut s.waits.length)) i = _
    rw [hwl]
    exact lay_cur hsl (by omega) _ _ rfl (hfit j (Nat.le_refl _))
  refine ⟨hcalm, hn, rfl, ⟨?_, by rw [calm_len]; exact hr, fun i hi ho => ?_, fun i hi => ?_⟩⟩
  · rw [calm_len, calm_len]; exact hn
  · rw [calm_len] at hi
    rw [hsec i hi, calm_row hd i hi, k1 i (by omega), hst]
  · rw [hsec (at_ + i) (by omega), calm_row hd (at_ + i) (by omega), ← hst]
    by_cases hij : i < j
    · obtain ⟨c, c1, c2⟩ := k2 i hij
      rw [getD_take hij] at c2
      exact ⟨c, c1, c2⟩
    · exact ⟨0, by omega, by rw [k1 (at_ + i) (by omega)]; simp⟩
theorem doing_fall {d : DS} (h : (doingF d).1 ≠ 0) : ∃ bits cut, doingF d = (30, goneS d bits cut) := by
  unfold doingF at h ⊢
  split
  · rename_i hp
    rw [hp] at h
    exact absurd rfl h
  · rename_i l b c hp
    rw [hp] at h
    simp only at h
    split
    · rename_i hl
      rw [if_pos hl] at h
      exact absurd rfl h
    · exact ⟨b, c, rfl⟩
theorem there_fine {d : DS} {at_ : Int} (hd : d.dead = false) (h0 : 0 ≤ at_) (h1 : at_ < d.n) : thereE d at_ = 0 := by
  unfold thereE
  rw [hd, if_neg (by decide), if_neg (by omega), if_neg (by omega)]
theorem write_fall {d : DS} {at_ : Int} {c : List Int} (hd : d.dead = false) (h0 : 0 ≤ at_) (h1 : at_ < d.n) (hc : c.length = 64) (h : (writeF d at_ c).1 ≠ 0) : ∃ bits cut, writeF d at_ c = (30, goneS d bits cut) := by
  unfold writeF at h ⊢
  rw [if_neg (fun q => q (there_fine hd h0 h1)), if_neg (fun q => q hc)] at h ⊢
  by_cases h3 : (doingF d).1 ≠ 0
  · rw [if_pos h3]
    exact doing_fall h3
  · rw [if_neg h3] at h
    exact absurd rfl h
theorem writes_fall : ∀ (l : List (List Int)) (d : DS) (at_ : Int), d.dead = false → 0 ≤ at_ → at_ + (l.length : Int) ≤ d.n → (∀ c ∈ l, c.length = 64) → (writesF d at_ l).1 ≠ 0 → ∃ (j : Nat) (s : DS) (bits cut : Int), j ≤ l.length ∧ s.n = d.n ∧ s.stays = d.stays ∧ s.waits = d.waits ++ waitsOf at_ (l.take j) ∧ writesF d at_ l = (30, goneS s bits cut)
  | [], d, at_, _, _, _, _, h => absurd rfl h
  | c :: cs, d, at_, hd, h0, h1, hc, h => by
    rw [List.length_cons] at h1
    unfold writesF at h ⊢
    by_cases hw : (writeF d at_ c).1 ≠ 0
    · rw [if_pos hw]
      obtain ⟨bits, cut, e⟩ := write_fall hd h0 (by omega) (hc c (by simp)) hw
      exact ⟨0, d, bits, cut, by omega, rfl, rfl, by simp [waitsOf], e⟩
    · rw [if_neg hw] at h ⊢
      obtain ⟨_, _, _, e1, e2, e3, e4⟩ := write_ok (Decidable.not_not.1 hw)
      obtain ⟨j, s, bits, cut, f1, f2, f3, f4, f5⟩ := writes_fall cs (writeF d at_ c).2 (at_ + 1) (e4.trans hd) (by omega) (by rw [e1]; omega) (fun x hx => hc x (by simp [hx])) h
      refine ⟨j + 1, s, bits, cut, by rw [List.length_cons]; omega, f2.trans e1, f3.trans e2, ?_, f5⟩
      rw [f4, e3, List.append_assoc]
      rfl
/-- a laying that the power ended -/
theorem put_fall {d : DS} {at_ : Nat} {l : List (List Int)} (hd : Calm d) (hr : at_ + l.length ≤ d.n) (hl : ∀ c ∈ l, c.length = 64) (h : (putF d (at_ : Int) l).1 ≠ 0) :
    (putF d (at_ : Int) l).1 = 30 ∧ (putF d (at_ : Int) l).2.dead = true ∧ (putF d (at_ : Int) l).2.n = d.n ∧ Calm (upS (putF d (at_ : Int) l).2) ∧ Torn (rowsD d) (rowsD (upS (putF d (at_ : Int) l).2)) at_ l := by
  unfold putF at h ⊢
  by_cases h1 : (writesF d at_ l).1 ≠ 0
  · rw [if_pos h1]
    obtain ⟨j, s, bits, cut, f1, f2, f3, f4, f5⟩ := writes_fall l d at_ hd.dead (by omega) (by omega) hl h1
    rw [hd.waits, List.nil_append] at f4
    obtain ⟨g1, g2, g3, g4⟩ := gone_torn hd f2 f3 f1 f4 hr hl bits cut
    rw [f5]
    exact ⟨rfl, g3, g2, g1, g4⟩
  · rw [if_neg h1] at h ⊢
    obtain ⟨e1, e2, e3, e4, -, -⟩ := writes_ok l d at_ (Decidable.not_not.1 h1)
    rw [hd.waits, List.nil_append] at e3
    have hfl : ∃ bits cut, flushF (writesF d at_ l).2 = (30, goneS (writesF d at_ l).2 bits cut) := by
      unfold flushF at h ⊢
      rw [e4, hd.dead, if_neg (by decide)] at h ⊢
      by_cases h3 : (doingF (writesF d at_ l).2).1 = 0
      · rw [if_pos h3] at h
        exact absurd rfl h
      · rw [if_neg h3]
        exact doing_fall h3
    obtain ⟨bits, cut, ef⟩ := hfl
    obtain ⟨g1, g2, g3, g4⟩ := gone_torn (j := l.length) hd e1 e2 (Nat.le_refl _) (by rw [List.take_length]; exact e3) hr hl bits cut
    rw [ef]
    exact ⟨rfl, g3, g2, g1, g4⟩
end Go.Proofs.Ythnjkmjcacoajaa.Jn
end

section
/- All sectors of a journal: which generation writes where; what a torn laying leaves of them: plain. No condition beyond those stated. -/
namespace Go.Proofs.Ythnjkmjcacoajaa.Jn
open Go Go.RowKit Go.Proofs.YthnjkmjcacoajaaW.PrintWords Go.Proofs.YthnjkmjcacoajaaW.PrintLast Go.Proofs.YthnjkmjcacoajaaW.PrintMore Go.Proofs.Ythnjkmjcacoajaa.Base Go.Proofs.Ythnjkmjcacoajaa.Arr
open Go.Proofs.Ythnjkmjcacoajaa.Ext (backOK stampV stampN readT readC cellOf stampN_mod stampN_div Bytes runCells pieces)
set_option linter.unusedVariables false
set_option linter.unusedSimpArgs false

def parN (n i : Nat) : Nat := if i < 2 then i else if i < 2 + (n - 2) / 2 then 0 else 1
/-- the generation whose cells come next into a sector, or lie there -/
def clsG (n g i : Nat) : Nat := if parN n i = g % 2 then g else g + 1
theorem cls_up (n g i : Nat) : clsG n g i ≤ clsG n (g + 1) i := by
  unfold clsG
  split <;> split <;> omega
theorem cls_area {n g i fr sc : Nat} (hf : firstN n (g : Int) = (fr : Int)) (hs : secN n = (sc : Int)) (h1 : fr ≤ i) (h2 : i < fr + sc) : clsG n g i = g := by
  have hs' : (n - 2) / 2 = sc := by unfold secN at hs; omega
  unfold firstN at hf
  rw [hs] at hf
  rcases Nat.mod_two_eq_zero_or_one g with hm | hm
  · have e : (g : Int) % 2 = 0 := by omega
    rw [e] at hf
    have hfr : fr = 2 := by omega
    have hp : parN n i = 0 := by unfold parN; rw [hs', if_neg (by omega), if_pos (by omega)]
    unfold clsG
    rw [hp, if_pos hm.symm]
  · have e : (g : Int) % 2 = 1 := by omega
    rw [e] at hf
    have hfr : fr = 2 + sc := by omega
    have hp : parN n i = 1 := by unfold parN; rw [hs', if_neg (by omega), if_neg (by omega)]
    unfold clsG
    rw [hp, if_pos hm.symm]
theorem cls_other {n g i fr sc : Nat} (hf : firstN n ((g + 1 : Nat) : Int) = (fr : Int)) (hs : secN n = (sc : Int)) (h1 : fr ≤ i) (h2 : i < fr + sc) : clsG n g i = g + 1 := by
  have h := cls_area hf hs h1 h2
  have hp : parN n i = (g + 1) % 2 := by
    unfold clsG at h
    split at h
    · assumption
    · omega
  unfold clsG
  rw [hp, if_neg (by omega)]
theorem cls_head (n g : Nat) : clsG n g ((g + 1) % 2) = g + 1 := by
  have hp : parN n ((g + 1) % 2) = (g + 1) % 2 := by unfold parN; rw [if_pos (Nat.mod_lt _ (by decide))]
  unfold clsG
  rw [hp, if_neg (by omega)]
theorem cls_one (n : Nat) : clsG n 1 1 = 1 := rfl
/-- a sector of a journal that lives -/
structure SecS (X : List Int) (G e : Nat) : Prop where
  w : SecW X G e
  fe : stampV X % 4294967296 ≤ e
  st : stampV X % 4294967296 < e ∨ backV X = stampV X
theorem CellIs.secs {C : List Int} {G e : Nat} (h : CellIs C G e) (he : e < 4294967296) : SecS C G e :=
  ⟨h.secw, by rw [h.st, stampN_mod G e he]; exact Nat.le_refl _, .inr (back_of h.len h.ok).symm⟩
theorem SecS.mono {X : List Int} {G G' e : Nat} (h : SecS X G e) (hG : G ≤ G') : SecS X G' e := ⟨h.w.mono hG (Nat.le_refl _), h.fe, h.st⟩
theorem ep_nat (X : List Int) : epF X = ((stampV X % 4294967296 : Nat) : Int) := by unfold epF; omega
theorem ne_of {X : List Int} {G e : Nat} (h : SecS X G e) (he : e < 4294967296) (hx : epF X < (e : Int) ∨ gnF X < (G : Int)) : backV X ≠ stampN G e := by
  intro q
  have h1 := stampN_mod G e he
  have h2 := stampN_div G e he
  have h3 := h.w.be
  rw [q, h1] at h3
  have h4 := h.fe
  rcases h.st with s | s
  · omega
  · rw [q] at s
    rcases hx with x | x
    · rw [ep_nat] at x; omega
    · unfold gnF at x
      rw [← s] at x
      omega
def SInv (R : List (List Int)) (n g e : Nat) : Prop := ∀ i, i < n → SecS (R.getD i []) (clsG n g i) e
def topE (e : Nat) : Nat := e / 16777216 * 16777216 + 16777215
/-- the sectors behind a fall -/
structure SDown (R : List (List Int)) (n g e : Nat) : Prop where
  w : ∀ i, i < n → SecW (R.getD i []) (clsG n g i) e
  top : ∀ i, i < n → stampV (R.getD i []) % 4294967296 ≤ topE e
theorem SInv.up {R : List (List Int)} {n g e : Nat} (h : SInv R n g e) : SInv R n (g + 1) e := fun i hi => (h i hi).mono (cls_up n g i)
theorem SInv.down {R : List (List Int)} {n g e : Nat} (h : SInv R n g e) : SDown R n g e := ⟨fun i hi => (h i hi).w, fun i hi => by have := (h i hi).fe; unfold topE; omega⟩
theorem SDown.up {R : List (List Int)} {n g e : Nat} (h : SDown R n g e) : SDown R n (g + 1) e := ⟨fun i hi => (h.w i hi).mono (cls_up n g i) (Nat.le_refl _), h.top⟩
theorem SInv.put {R R' l : List (List Int)} {at_ n g e G : Nat} (h : SInv R n g e) (hp : Put R R' at_ l) (hn : R.length = n) (he : e < 4294967296) (hl : ∀ c ∈ l, CellIs c G e) (hc : ∀ i, at_ ≤ i → i < at_ + l.length → clsG n g i = G) : SInv R' n g e := fun i hi => by
  rw [hp.get i (by omega)]
  by_cases hr : at_ ≤ i ∧ i < at_ + l.length
  · rw [if_pos hr, hc i hr.1 hr.2]
    exact (hl _ (getD_mem (by omega))).secs he
  · rw [if_neg hr]
    exact h i hi
theorem put_ep {R R' l : List (List Int)} {at_ n g e G : Nat} (h : SInv R n g e) (hp : Put R R' at_ l) (hn : R.length = n) (he : e < 4294967296) (hl : ∀ c ∈ l, CellIs c G e) : ∀ i, i < n → stampV (R.getD i []) % 4294967296 ≤ stampV (R'.getD i []) % 4294967296 := fun i hi => by
  rw [hp.get i (by omega)]
  by_cases hr : at_ ≤ i ∧ i < at_ + l.length
  · rw [if_pos hr, (hl _ (getD_mem (by omega))).st, stampN_mod G e he]
    exact (h i hi).fe
  · rw [if_neg hr]
    exact Nat.le_refl _
theorem SInv.torn {R R' l : List (List Int)} {at_ n g e G : Nat} (h : SInv R n g e) (hp : Torn R R' at_ l) (hn : R.length = n) (he : e < 4294967296) (hl : ∀ c ∈ l, CellIs c G e) (hc : ∀ i, at_ ≤ i → i < at_ + l.length → clsG n g i = G) (hx : ∀ i, i < l.length → epF (R.getD (at_ + i) []) < (e : Int) ∨ gnF (R.getD (at_ + i) []) < (G : Int)) :
    SDown R' n g e ∧ (∀ i, i < n → stampV (R.getD i []) % 4294967296 ≤ stampV (R'.getD i []) % 4294967296) ∧ ∀ i, i < l.length → (readT (R'.getD (at_ + i) [])).2.2.2.2 = 0 → R'.getD (at_ + i) [] = l.getD i [] ∨ R'.getD (at_ + i) [] = R.getD (at_ + i) [] := by
  have hroom := hp.room
  have key : ∀ i, i < l.length → SecW (R'.getD (at_ + i) []) G e ∧ (backOK (R'.getD (at_ + i) []) → R'.getD (at_ + i) [] = l.getD i [] ∨ R'.getD (at_ + i) [] = R.getD (at_ + i) []) ∧ stampV (R.getD (at_ + i) []) % 4294967296 ≤ stampV (R'.getD (at_ + i) []) % 4294967296 ∧ stampV (R'.getD (at_ + i) []) % 4294967296 ≤ topE e := fun i hi => by
    obtain ⟨cut, hcut, e1⟩ := hp.in_ i hi
    have hs := h (at_ + i) (by omega)
    rw [hc (at_ + i) (by omega) (by omega)] at hs
    rw [e1]
    exact hs.w.tear he hs.fe (ne_of hs he (hx i hi)) (hl _ (getD_mem hi)) cut hcut
  have split : ∀ i, i < n → (∃ j, j < l.length ∧ i = at_ + j) ∨ R'.getD i [] = R.getD i [] := fun i hi => by
    by_cases hr : at_ ≤ i ∧ i < at_ + l.length
    · exact .inl ⟨i - at_, by omega, by omega⟩
    · exact .inr (hp.out i (by omega) hr)
  refine ⟨⟨fun i hi => ?_, fun i hi => ?_⟩, fun i hi => ?_, fun i hi hr => ?_⟩
  · rcases split i hi with ⟨j, hj, rfl⟩ | q
    · rw [hc (at_ + j) (by omega) (by omega)]
      exact (key j hj).1
    · rw [q]; exact (h i hi).w
  · rcases split i hi with ⟨j, hj, rfl⟩ | q
    · exact (key j hj).2.2.2
    · rw [q]
      have := (h i hi).fe
      unfold topE
      omega
  · rcases split i hi with ⟨j, hj, rfl⟩ | q
    · exact (key j hj).2.2.1
    · rw [q]; exact Nat.le_refl _
  · exact (key i hi).2.1 (mix_read hr (key i hi).1.len)
theorem epoch_mono {R R' : List (List Int)} {n : Nat} (hn : R.length = n) (hn' : R'.length = n) (h : ∀ i, i < n → stampV (R.getD i []) % 4294967296 ≤ stampV (R'.getD i []) % 4294967296) : epochF R ≤ epochF R' := by
  refine epochF_le (epochF_range R').1 fun r hr => ?_
  obtain ⟨i, hi, rfl⟩ := mem_getD hr
  have h1 := h i (by omega)
  have h2 := epoch_ge (getD_mem (a := R') (i := i) (by omega))
  rw [ep_nat] at h2 ⊢
  omega
theorem SDown.secs {R : List (List Int)} {n g e : Nat} (h : SDown R n g e) (hn : R.length = n) : Secs R := fun r hr => by
  obtain ⟨i, hi, rfl⟩ := mem_getD hr
  exact ⟨(h.w i (by omega)).len, (h.w i (by omega)).by_⟩
theorem SDown.epoch {R : List (List Int)} {n g e : Nat} (h : SDown R n g e) (hn : R.length = n) : epochF R ≤ (topE e : Int) := by
  refine epochF_le (by unfold topE; omega) fun r hr => ?_
  obtain ⟨i, hi, rfl⟩ := mem_getD hr
  have := h.top i (by omega)
  rw [ep_nat]
  omega
/-- a later opening: the epoch is above all that stands there -/
theorem SDown.open_ {R : List (List Int)} {n g e e' : Nat} (h : SDown R n g e) (hn : R.length = n) (he : e ≤ e') (he' : (e' : Int) = epochF R + 1) : SInv R n g e' := fun i hi => by
  have h2 := epoch_ge (getD_mem (a := R) (i := i) (by omega))
  rw [ep_nat] at h2
  exact ⟨(h.w i hi).mono (Nat.le_refl _) he, by omega, .inl (by omega)⟩
end Go.Proofs.Ythnjkmjcacoajaa.Jn
end

section
/- What a scan makes of a run that was laid in part: plain. No condition beyond those stated. -/
namespace Go.Proofs.Ythnjkmjcacoajaa.Jn
open Go Go.RowKit Go.Proofs.YthnjkmjcacoajaaW.PrintWords Go.Proofs.YthnjkmjcacoajaaW.PrintLast Go.Proofs.YthnjkmjcacoajaaW.PrintMore Go.Proofs.Ythnjkmjcacoajaa.Base Go.Proofs.Ythnjkmjcacoajaa.Arr
open Go.Proofs.Ythnjkmjcacoajaa.Ext (readT cellOf Bytes runCells runCells_len pieces pieceOf pieceOf_len pieceL tailC tailC_snoc tailC_len run_tail scanR badS okS runS Sc scan_app scan_ok scan_stop scan_run scan_z)
open Go.Proofs.Ythnjkmjcacoajaa.FrameLink (pk joined joined_nil joined_cons all_back whole whole_le allR pk_len)
set_option linter.unusedVariables false
set_option linter.unusedSimpArgs false

theorem tailC_take (g e : Nat) (b : List Int) : ∀ t n j, t ≤ n → (tailC g e b n j).take t = tailC g e b t j
  | 0, _, _, _ => rfl
  | t + 1, n + 1, j, h => by
    show (_ :: tailC g e b n (j + 1)).take (t + 1) = _ :: tailC g e b t (j + 1)
    rw [List.take_succ_cons, tailC_take g e b t n (j + 1) (by omega)]
theorem piece_take (b : List Int) (t k : Nat) (hk : k < t) : pieceOf (b.take (47 * t)) k = pieceOf b k := by
  unfold pieceOf pieceL
  apply List.ext_getElem?
  intro i
  rw [List.getElem?_take, List.getElem?_take, List.getElem?_drop, List.getElem?_drop, List.getElem?_take, List.length_take]
  by_cases h : i < 47
  · by_cases h2 : 47 * k + i < b.length
    · rw [if_pos (by omega), if_pos (by omega), if_pos (by omega)]
    · rw [if_neg (by omega), if_neg (by omega)]
  · rw [if_neg (by omega), if_neg (by omega)]
theorem tailC_cut (g e : Nat) (b : List Int) (t : Nat) : ∀ n j, j + n ≤ t → tailC g e (b.take (47 * t)) n j = tailC g e b n j
  | 0, _, _ => rfl
  | n + 1, j, h => by
    show cellOf g e (j == 0) (pieceOf (b.take (47 * t)) j) :: tailC g e (b.take (47 * t)) n (j + 1) = cellOf g e (j == 0) (pieceOf b j) :: tailC g e b n (j + 1)
    rw [piece_take b t j (by omega), tailC_cut g e b t n (j + 1) (by omega)]
theorem run_take (g e : Nat) (b : List Int) (t : Nat) (ht : t ≤ pieces b.length) : (runCells g e b).take t = runCells g e (b.take (47 * t)) := by
  have hp : pieces (b.take (47 * t)).length = t := by
    rw [List.length_take]
    unfold pieces at ht ⊢
    omega
  rw [run_tail, run_tail, hp, tailC_take g e b t _ 0 ht, tailC_cut g e b t t 0 (by omega)]
/-- the longest common beginning -/
theorem common (X L : List (List Int)) : ∀ m, m ≤ X.length → m ≤ L.length → ∃ t, t ≤ m ∧ L.take t = X.take t ∧ (t < m → L.getD t [] ≠ X.getD t [])
  | 0, _, _ => ⟨0, Nat.le_refl _, by simp, fun h => absurd h (Nat.lt_irrefl _)⟩
  | m + 1, h1, h2 => by
    obtain ⟨t, t1, t2, t3⟩ := common X L m (by omega) (by omega)
    by_cases hm : t = m
    · subst hm
      by_cases he : L.getD t [] = X.getD t []
      · refine ⟨t + 1, Nat.le_refl _, ?_, fun h => absurd h (Nat.lt_irrefl _)⟩
        rw [List.take_add_one, List.take_add_one, t2]
        rw [List.getD_eq_getElem?_getD, List.getD_eq_getElem?_getD, List.getElem?_eq_getElem (by omega), List.getElem?_eq_getElem (by omega)] at he
        rw [List.getElem?_eq_getElem (by omega), List.getElem?_eq_getElem (by omega)]
        simp only [Option.getD_some] at he
        rw [he]
      · exact ⟨t, by omega, t2, fun _ => he⟩
    · exact ⟨t, by omega, t2, fun _ => t3 (by omega)⟩
theorem drop_cons {L : List (List Int)} {t : Nat} (h : t < L.length) : L.drop t = L.getD t [] :: L.drop (t + 1) := by
  rw [List.getD_eq_getElem?_getD, List.getElem?_eq_getElem h]
  exact List.drop_eq_getElem_cons h
/-- cells that were laid in part over others, behind a state of which nothing newer is known -/
theorem scan_torn {g e : Nat} {b : List Int} {L C : List (List Int)} {st : Sc} (hg0 : 0 < g) (hg : g < 4294967296) (he : e < 4294967296) (hb : 0 < b.length) (hs : st.epoch ≤ (e : Int)) (hlen : L.length = C.length) (hX : pieces b.length ≤ C.length)
    (hT : ∀ i, i < pieces b.length → (readT (L.getD i [])).2.2.2.2 = 0 → L.getD i [] = (runCells g e b).getD i [] ∨ L.getD i [] = C.getD i [])
    (hO : ∀ i, pieces b.length ≤ i → i < C.length → L.getD i [] = C.getD i [])
    (hbad : ∀ c, C.head? = some c → badS (g : Int) st (readT c)) (hC : ∀ c ∈ C, epF c < (e : Int) ∨ gnF c < (g : Int)) :
    ∃ n, (scanR (g : Int) L st).1 = st.runs ∨ (scanR (g : Int) L st).1 = st.runs ++ [b.take n] := by
  have hXl := runCells_len g e b
  obtain ⟨t, t1, t2, t3⟩ := common (runCells g e b) L (pieces b.length) (by omega) (by omega)
  have hold : t < L.length → (L.getD t [] = C.getD t [] ∨ (readT (L.getD t [])).2.2.2.2 ≠ 0) := fun hl => by
    by_cases hr : (readT (L.getD t [])).2.2.2.2 = 0
    · by_cases ht : t < pieces b.length
      · rcases hT t ht hr with q | q
        · exact absurd q (t3 ht)
        · exact .inl q
      · exact .inl (hO t (by omega) (by omega))
    · exact .inr hr
  by_cases h0 : t = 0
  · subst h0
    refine ⟨0, .inl ?_⟩
    cases hL : L with
    | nil => rfl
    | cons c cs =>
      rw [Ext.scanR_cons, if_pos]
      have hc : L.getD 0 [] = c := by rw [hL]; rfl
      have := hold (by rw [hL]; simp)
      rw [hc] at this
      rcases this with q | q
      · refine hbad c ?_
        rw [q]
        cases hC' : C with
        | nil => rw [hL, hC'] at hlen; cases hlen
        | cons x xs => rfl
      · exact .inl q
  · refine ⟨47 * t, .inr ?_⟩
    have hsp : L = runCells g e (b.take (47 * t)) ++ L.drop t := by
      have := (List.take_append_drop t L).symm
      rw [t2, run_take g e b t t1] at this
      exact this
    obtain ⟨s1, s2⟩ := scan_run g e (b.take (47 * t)) hg0 hg he (by rw [List.length_take]; omega) st hs
    have hend : (scanR (g : Int) (runCells g e (b.take (47 * t)) ++ L.drop t) st).1 = st.runs ++ [b.take (47 * t)] := by
      by_cases hl : t < L.length
      · rw [drop_cons hl, scan_stop _ _ _ _ _ s1, s2]
        rw [s2]
        rcases hold hl with q | q
        · rw [q]
          have hm : C.getD t [] ∈ C := getD_mem (by omega)
          rcases hC _ hm with x | x
          · exact bad_of (.inl x)
          · exact bad_of (.inr (by omega))
        · exact .inl q
      · rw [List.drop_eq_nil_of_le (by omega), List.append_nil, scan_ok _ _ _ s1, s2]
    rw [← hsp] at hend
    exact hend
/-- frames of which only a beginning is there -/
theorem outTo_cut {rs : List (List Int)} {out ps : List (List Int)} (h : outTo rs rs.length = some out) (hp : ∀ p ∈ ps, Ext.Bytes p ∧ p.length ≤ 8192) (n : Nat) : ∃ k, k ≤ ps.length ∧ outTo (rs ++ [(joined ps).take n]) (rs ++ [(joined ps).take n]).length = some (out ++ ps.take k) := by
  have hmin : (joined ps).take n = (joined ps).take (min n (joined ps).length) := by
    by_cases q : n ≤ (joined ps).length
    · rw [Nat.min_eq_left q]
    · rw [Nat.min_eq_right (by omega), List.take_length, List.take_of_length_le (by omega)]
  have hfr := all_back ps (((joined ps).take n).length + 1) (min n (joined ps).length) [] hp (Nat.min_le_right _ _) (by rw [List.length_take]; omega)
  rw [← hmin] at hfr
  refine ⟨whole ps (min n (joined ps).length), whole_le _ _, ?_⟩
  rw [List.length_append, List.length_singleton]
  show (outTo (rs ++ [(joined ps).take n]) rs.length).bind _ = _
  have hx : (rs ++ [(joined ps).take n]).getD rs.length [] = (joined ps).take n := by rw [getD_app, if_neg (Nat.lt_irrefl _), Nat.sub_self]; rfl
  rw [outTo_pre rs _ _ (Nat.le_refl _), h, Option.bind_some, hx]
  show (if (allR (((joined ps).take n).length + 1) ((joined ps).take n) []).2.2 ≠ 0 then none else some (out ++ (allR (((joined ps).take n).length + 1) ((joined ps).take n) []).1)) = _
  rw [hfr, if_neg (by simp), List.nil_append]
end Go.Proofs.Ythnjkmjcacoajaa.Jn
end

section
/- A journal that lives, and what lies on its disk when the power has gone: plain. No condition beyond those stated. -/
namespace Go.Proofs.Ythnjkmjcacoajaa.Jn
open Go Go.RowKit Go.Proofs.YthnjkmjcacoajaaW.PrintWords Go.Proofs.YthnjkmjcacoajaaW.PrintLast Go.Proofs.YthnjkmjcacoajaaW.PrintMore Go.Proofs.Ythnjkmjcacoajaa.Base Go.Proofs.Ythnjkmjcacoajaa.Arr
open Go.Proofs.Ythnjkmjcacoajaa.Dk (DS)
open Go.Proofs.Ythnjkmjcacoajaa.Ext (backOK stampV stampN readT readC cellOf stampN_mod stampN_div Bytes runCells runCells_len pieces run_one scanR badS okS runS Sc scan_app scan_ok scan_stop scan_run)
open Go.Proofs.Ythnjkmjcacoajaa.FrameLink (pk joined joined_nil joined_cons pk_len)
set_option linter.unusedVariables false
set_option linter.unusedSimpArgs false

structure Live (d : DS) (s : JS) (l : List (List Int)) (m : Nat) : Prop where
  j : JInv d s l m
  si : SInv (rowsD d) d.n s.gen.toNat s.epoch.toNat
  ep : s.epoch ≤ epochF (rowsD d) + 1
/-- what a disk without a journal at work holds: rows R of n -/
structure DownR (R : List (List Int)) (n g e : Nat) (out : List (List Int)) : Prop where
  g0 : 0 < g
  g1 : g < 4294967296
  hd : (headF R).1 = (g : Int)
  sc : scanF (areaF R n (g : Int)) (g : Int) (headF R).2 = some out
  pay : Pay out
  sd : SDown R n g e
  ep : (e : Int) ≤ epochF R + 1
structure Down (d : DS) (g e : Nat) (out : List (List Int)) : Prop where
  calm : Calm d
  n6 : 6 ≤ d.n
  r : DownR (rowsD d) d.n g e out
theorem epoch_room {E e : Nat} (h : E ≤ topE e + 1) (he : e / 16777216 ≤ 253) : E < 4294967296 ∧ E / 16777216 ≤ e / 16777216 + 1 := by unfold topE at h; omega
/-- Open of what is left -/
theorem open_down {d : DS} {g e : Nat} {out : List (List Int)} (h : Down d g e out) (he : e / 16777216 ≤ 253) : ∃ s, openF d = (0, d, some (s, out)) ∧ Live d s out out.length ∧ s.gen = (g : Int) ∧ s.epoch.toNat / 16777216 ≤ e / 16777216 + 1 ∧ s.count = out.length ∧ s.synced = out.length := by
  have hln := calm_len d
  have hn5 := h.calm.n2
  have h0 := epochF_range (rowsD d)
  have htop := h.r.sd.epoch hln
  obtain ⟨E, hE⟩ : ∃ E : Nat, (E : Int) = epochF (rowsD d) + 1 := ⟨(epochF (rowsD d) + 1).toNat, by omega⟩
  obtain ⟨r1, r2⟩ := epoch_room (E := E) (e := e) (by omega) he
  obtain ⟨fr, sc, hf, hsc, hn, hsc2⟩ := area_nums d.n (g : Int) ⟨h.n6, hn5⟩
  obtain ⟨A, C, e1, e2, e3, e4, e5⟩ := scan_split (g : Int) (areaF (rowsD d) d.n g) ⟨[], (headF (rowsD d)).2, true⟩ (scanQ (areaF (rowsD d) d.n g) g (headF (rowsD d)).2).1 (scanQ (areaF (rowsD d) d.n g) g (headF (rowsD d)).2).2 rfl
  have hal := area_len (R := rowsD d) hf hsc (by rw [hln]; exact hn)
  have hA : A.length ≤ sc := by
    have := congrArg List.length e1
    rw [hal, List.length_append] at this
    omega
  have hb := Body.found hln h.n6 hn5 (h.r.sd.secs hln) h.r.hd h.r.g0 h.r.g1 hE r1 e2.symm h.r.sc
  obtain ⟨o1, o2⟩ := open_reads h.calm hb (by omega) h.r.pay (by omega)
  refine ⟨_, o1, ⟨o2, ?_, ?_⟩, rfl, ?_, rfl, rfl⟩
  · show SInv (rowsD d) d.n ((g : Int)).toNat (epochF (rowsD d) + 1).toNat
    rw [← hE, Int.toNat_natCast, Int.toNat_natCast]
    exact h.r.sd.open_ hln (by have := h.r.ep; omega) hE
  · exact Int.le_refl _
  · show (epochF (rowsD d) + 1).toNat / 16777216 ≤ _
    rw [← hE, Int.toNat_natCast]
    exact r2
/-- a journal that lives, if it is left -/
theorem Live.down {d : DS} {s : JS} {l : List (List Int)} {m : Nat} (h : Live d s l m) : Down d s.gen.toNat s.epoch.toNat (l.take m) := by
  obtain ⟨r1, r2, r3⟩ := h.j.body.reads
  have hg := h.j.gen
  have he := h.j.ep
  rw [r1] at r2
  exact ⟨h.j.calm, h.j.body.n6, h.j.body.g0, h.j.body.g1, r1, r2, pay_take h.j.pay m, h.si.down, by have := h.ep; omega⟩
theorem torn_other {R R' l : List (List Int)} {at_ n : Nat} {g : Int} {fr sc : Nat} (h : Torn R R' at_ l) (hf : firstN n g = (fr : Int)) (hs : secN n = (sc : Int)) (hn : fr + sc ≤ R.length) (ho : at_ + l.length ≤ fr ∨ fr + sc ≤ at_) : areaF R' n g = areaF R n g := by
  rw [area_take _ n g fr sc hf hs, area_take _ n g fr sc hf hs]
  have hl1 : ((R'.drop fr).take sc).length = sc := by rw [List.length_take, List.length_drop, h.len]; omega
  have hl2 : ((R.drop fr).take sc).length = sc := by rw [List.length_take, List.length_drop]; omega
  refine ext_getD (by rw [hl1, hl2]) fun i hi => ?_
  rw [hl1] at hi
  rw [getD_take hi, getD_take hi, getD_drop, getD_drop, h.out _ (by omega) (by omega)]
theorem torn_heads {R R' l : List (List Int)} {at_ : Nat} (h : Torn R R' at_ l) (h2 : 2 ≤ at_) : headF R' = headF R := by
  have := h.room
  rw [headF_eq, headF_eq]
  by_cases hl : 2 ≤ R.length
  · rw [h.out 0 (by omega) (by omega), h.out 1 (by omega) (by omega)]
  · omega
/-- a Sync that the power ended: a beginning of what waited is there -/
theorem Body.torn {R R' : List (List Int)} {n g e u : Nat} {out ps : List (List Int)} {fr sc at_ : Nat} (h : Body R n g e u out) (hS : SInv R n g e) (hep : (e : Int) ≤ epochF R + 1) (hpo : Pay out) (hf : firstN n g = (fr : Int)) (hsc : secN n = (sc : Int)) (hn : fr + sc ≤ n) (h2 : 2 ≤ fr) (ha : at_ = fr + u) (hps : Pay ps) (hb0 : 0 < (joined ps).length) (hk : u + pieces (joined ps).length ≤ sc) (hp : Torn R R' at_ (runCells g e (joined ps))) :
    ∃ k, k ≤ ps.length ∧ DownR R' n g e (out ++ ps.take k) := by
  obtain ⟨eh, A, C, h1, hh, har, hA, hok, hou, hbad, hC⟩ := h.rest
  have hlen := runCells_len g e (joined ps)
  have hjb : Ext.Bytes (joined ps) := FrameLink.joined_bytes hps
  have hln := h.len
  have hal := area_len (R := R) hf hsc (by rw [hln]; exact hn)
  have hal' := area_len (R := R') hf hsc (by rw [hp.len, hln]; exact hn)
  have hACl : A.length + C.length = sc := by rw [← List.length_append, ← har, hal]
  have hCat : ∀ i, i < C.length → C.getD i [] = R.getD (at_ + i) [] := fun i hi => by
    have e1 : (areaF R n (g : Int)).getD (u + i) [] = C.getD i [] := by rw [har, getD_app, if_neg (by omega), hA, Nat.add_sub_cancel_left]
    rw [← e1, area_take _ n g fr sc hf hsc, getD_take (by omega), getD_drop, ha, Nat.add_assoc]
  have hLat : ∀ i, i < C.length → ((areaF R' n (g : Int)).drop u).getD i [] = R'.getD (at_ + i) [] := fun i hi => by
    rw [getD_drop, area_take _ n g fr sc hf hsc, getD_take (by omega), getD_drop, ha, Nat.add_assoc]
  obtain ⟨t1, t2, t3⟩ := hS.torn (G := g) hp hln h.e1 (fun c hc => run_is hjb h.g1 h.e1 hc) (fun i i1 i2 => cls_area hf hsc (by omega) (by rw [hlen] at i2; omega)) (fun i hi => by
    rw [hlen] at hi
    rw [← hCat i (by omega)]
    exact hC _ (getD_mem (by omega)))
  have hst : (runS A ⟨[], eh, true⟩).epoch ≤ (e : Int) := run_epoch g e A _ hok h1 (fun c hc => (h.all c (area_mem (n := n) (g := (g : Int)) (by rw [har]; exact List.mem_append_left _ hc))).1)
  have hpre : (areaF R' n (g : Int)).take u = A := by
    refine ext_getD (by rw [List.length_take, hal', hA]; omega) fun i hi => ?_
    rw [List.length_take] at hi
    rw [getD_take (by omega), area_take _ n g fr sc hf hsc, getD_take (by omega), getD_drop, hp.out _ (by omega) (by omega)]
    have e1 : (areaF R n (g : Int)).getD i [] = A.getD i [] := by rw [har, getD_app, if_pos (by omega)]
    rw [← e1, area_take _ n g fr sc hf hsc, getD_take (by omega), getD_drop]
  obtain ⟨nn, hsn⟩ := scan_torn (L := (areaF R' n (g : Int)).drop u) (C := C) (st := runS A ⟨[], eh, true⟩) h.g0 h.g1 h.e1 hb0 hst (by rw [List.length_drop, hal']; omega) (by omega)
    (fun i hi hr => by
      rw [hLat i (by omega)] at hr ⊢
      rw [hCat i (by omega)]
      exact t3 i (by rw [hlen]; exact hi) hr)
    (fun i hi hiC => by rw [hLat i hiC, hCat i hiC, hp.out _ (by omega) (by rw [hlen]; omega)])
    hbad hC
  have harea : areaF R' n (g : Int) = A ++ (areaF R' n (g : Int)).drop u := by
    have := (List.take_append_drop u (areaF R' n (g : Int))).symm
    rw [hpre] at this
    exact this
  have hh' : headF R' = ((g : Int), eh) := by rw [torn_heads hp (by omega), hh]
  have hscan : (scanQ (areaF R' n (g : Int)) (g : Int) eh).1 = (scanR (g : Int) ((areaF R' n (g : Int)).drop u) (runS A ⟨[], eh, true⟩)).1 := by
    unfold scanQ
    rw [harea, scan_app _ _ _ _ hok, List.drop_left' hA]
  have hepm := epoch_mono hln (hp.len.trans hln) t2
  have fin : ∀ k, scanF (areaF R' n (g : Int)) (g : Int) eh = some (out ++ ps.take k) → DownR R' n g e (out ++ ps.take k) := fun k hk => by
    refine ⟨h.g0, h.g1, by rw [hh'], by rw [hh']; exact hk, fun p hp => ?_, t1, by omega⟩
    rcases List.mem_append.1 hp with q | q
    · exact hpo p q
    · exact hps p (List.mem_of_mem_take q)
  rcases hsn with q | q
  · refine ⟨0, Nat.zero_le _, fin 0 ?_⟩
    unfold scanF
    rw [hscan, q, hou, List.take_zero, List.append_nil]
  · obtain ⟨k, k1, k2⟩ := outTo_cut hou hps nn
    refine ⟨k, k1, fin k ?_⟩
    unfold scanF
    rw [hscan, q]
    exact k2
end Go.Proofs.Ythnjkmjcacoajaa.Jn
end

section
/- Sync, Checkpoint and Append of a journal that lives: what they leave, also where the power goes: plain. No condition beyond those stated. -/
namespace Go.Proofs.Ythnjkmjcacoajaa.Jn
open Go Go.RowKit Go.Proofs.YthnjkmjcacoajaaW.PrintWords Go.Proofs.YthnjkmjcacoajaaW.PrintLast Go.Proofs.YthnjkmjcacoajaaW.PrintMore Go.Proofs.Ythnjkmjcacoajaa.Base Go.Proofs.Ythnjkmjcacoajaa.Arr
open Go.Proofs.Ythnjkmjcacoajaa.Dk (DS)
open Go.Proofs.Ythnjkmjcacoajaa.Ext (backOK stampV stampN readT readC cellOf stampN_mod stampN_div Bytes runCells runCells_len pieces run_one)
open Go.Proofs.Ythnjkmjcacoajaa.FrameLink (pk joined joined_nil joined_cons pk_len)
set_option linter.unusedVariables false
set_option linter.unusedSimpArgs false

theorem areas_apart {n g fr fr' sc : Nat} (hf : firstN n ((g + 1 : Nat) : Int) = (fr : Int)) (hf' : firstN n (g : Int) = (fr' : Int)) (hs : secN n = (sc : Int)) : fr + sc = fr' ∨ fr' + sc = fr := by
  unfold firstN at hf hf'
  rw [hs] at hf hf'
  rcases Nat.mod_two_eq_zero_or_one g with hm | hm
  · have e1 : (g : Int) % 2 = 0 := by omega
    have e2 : ((g + 1 : Nat) : Int) % 2 = 1 := by omega
    rw [e1] at hf'
    rw [e2] at hf
    omega
  · have e1 : (g : Int) % 2 = 1 := by omega
    have e2 : ((g + 1 : Nat) : Int) % 2 = 0 := by omega
    rw [e1] at hf'
    rw [e2] at hf
    omega
theorem step_cases (i : Nat) (r : List Int) (b : Int × Int) : headStep i r b = b ∨ ((readT r).1 % 2 = (i : Int) ∧ headStep i r b = ((readT r).1, (readT r).2.1) ∧ b.1 < (readT r).1 ∧ (readT r).2.2.2.2 = 0 ∧ (readT r).2.2.1 = true ∧ (readT r).2.2.2.1 = [1]) := by
  unfold headStep
  split
  · rename_i h
    exact .inr ⟨h.2.2.2.1, rfl, h.2.2.2.2, h.1, h.2.1, h.2.2.1⟩
  · exact .inl rfl
theorem step_bad (i : Nat) (r : List Int) (b : Int × Int) (h : (readT r).2.2.2.2 ≠ 0) : headStep i r b = b := if_neg (fun q => h q.1)
/-- the head's own sector tells, whatever became of the other one -/
theorem head_lost {R R' : List (List Int)} {g : Nat} {eh : Int} (hg : 0 < g) (hh : headF R = ((g : Int), eh)) (hs : R'.getD (g % 2) [] = R.getD (g % 2) []) (hb : (readT (R'.getD ((g + 1) % 2) [])).2.2.2.2 ≠ 0) : headF R' = ((g : Int), eh) := by
  rw [headF_eq] at hh ⊢
  rcases Nat.mod_two_eq_zero_or_one g with hm | hm
  · rw [hm] at hs
    rw [show (g + 1) % 2 = 1 by omega] at hb
    rw [step_bad 1 _ _ hb, hs]
    rcases step_cases 1 (R.getD 1 []) (headStep 0 (R.getD 0 []) (0, 0)) with q | ⟨q1, q2, _⟩
    · rw [q] at hh; exact hh
    · rw [q2] at hh
      have := congrArg Prod.fst hh
      simp only at this
      omega
  · rw [hm] at hs
    rw [show (g + 1) % 2 = 0 by omega] at hb
    rw [step_bad 0 _ _ hb, hs]
    rcases step_cases 1 (R.getD 1 []) (headStep 0 (R.getD 0 []) (0, 0)) with q | ⟨q1, q2, q3, q4, q5, q6⟩
    · rw [q] at hh
      rcases step_cases 0 (R.getD 0 []) (0, 0) with x | ⟨x1, x2, _⟩
      · rw [x] at hh
        have := congrArg Prod.fst hh
        simp only at this
        omega
      · rw [x2] at hh
        have := congrArg Prod.fst hh
        simp only at this
        omega
    · rw [q2] at hh
      have h0 := step_ge 0 (R.getD 0 []) (0, 0)
      unfold headStep at h0 ⊢
      rw [if_pos ⟨q4, q5, q6, q1, by
        have h1 := congrArg Prod.fst hh
        simp only at h1
        show (0 : Int) < _
        omega⟩]
      exact hh
/-- a checkpoint's run that the power ended -/
theorem Body.torn1 {R R' : List (List Int)} {n g e u : Nat} {out ps : List (List Int)} {fr sc : Nat} (h : Body R n g e u out) (hS : SInv R n g e) (hep : (e : Int) ≤ epochF R + 1) (hpo : Pay out) (hg : g + 1 < 4294967296) (hf : firstN n ((g + 1 : Nat) : Int) = (fr : Int)) (hsc : secN n = (sc : Int)) (hn : fr + sc ≤ n) (h2 : 2 ≤ fr) (hps : Pay ps) (hk : pieces (joined ps).length ≤ sc) (hp : Torn R R' fr (runCells (g + 1) e (joined ps))) : DownR R' n g e out := by
  obtain ⟨r1, r2, r3⟩ := h.reads
  rw [r1] at r2
  have hjb : Bytes (joined ps) := FrameLink.joined_bytes hps
  have hlen := runCells_len (g + 1) e (joined ps)
  have hln := h.len
  obtain ⟨fr', sc', hf', hsc', hn', _⟩ := area_nums n (g : Int) ⟨h.n6, h.n5⟩
  obtain rfl : sc' = sc := by omega
  have hap := areas_apart hf hf' hsc
  obtain ⟨t1, t2, t3⟩ := hS.torn (G := g + 1) hp hln h.e1 (fun c hc => run_is hjb hg h.e1 hc) (fun i i1 i2 => cls_other hf hsc i1 (by rw [hlen] at i2; omega)) (fun i hi => by
    have hm := getD_mem (a := R) (i := fr + i) (by rw [hlen] at hi; omega)
    rcases (h.all _ hm).2 with q | q
    · exact .inl q
    · exact .inr (by omega))
  have hepm := epoch_mono hln (hp.len.trans hln) t2
  have ha := torn_other (g := (g : Int)) hp hf' hsc (by omega) (by rw [hlen]; omega)
  have hh := torn_heads hp h2
  exact ⟨h.g0, h.g1, by rw [hh]; exact r1, by rw [ha, hh]; exact r2, hpo, t1, by omega⟩
/-- a checkpoint's head that the power ended -/
theorem Body.torn2 {R R1 R2 : List (List Int)} {n g e u : Nat} {out ps : List (List Int)} {fr sc : Nat} (h : Body R n g e u out) (hS : SInv R n g e) (hep : (e : Int) ≤ epochF R + 1) (hpo : Pay out) (hg : g + 1 < 4294967296) (hf : firstN n ((g + 1 : Nat) : Int) = (fr : Int)) (hsc : secN n = (sc : Int)) (hn : fr + sc ≤ n) (h2 : 2 ≤ fr) (hps : Pay ps) (hb0 : 0 < (joined ps).length) (hk : pieces (joined ps).length ≤ sc) (hp : Put R R1 fr (runCells (g + 1) e (joined ps))) (hp2 : Torn R1 R2 ((g + 1) % 2) (runCells (g + 1) e [1])) : DownR R2 n g e out ∨ DownR R2 n (g + 1) e ps := by
  obtain ⟨r1, r2, r3⟩ := h.reads
  rw [r1] at r2
  have hjb : Bytes (joined ps) := FrameLink.joined_bytes hps
  have hone : runCells (g + 1) e [1] = [cellOf (g + 1) e true [1]] := run_one (g + 1) e [1] (by decide) (by decide)
  have h1b : Bytes [1] := fun x hx => by rw [List.mem_singleton.1 hx]; decide
  have hlen := runCells_len (g + 1) e (joined ps)
  have hlen1 : (runCells (g + 1) e [1]).length = 1 := by rw [hone]; rfl
  have hln := h.len
  have h6 := h.n6
  have hm2 : (g + 1) % 2 < 2 := Nat.mod_lt _ (by decide)
  have hgm2 : g % 2 < 2 := Nat.mod_lt _ (by decide)
  obtain ⟨fr', sc', hf', hsc', hn', _⟩ := area_nums n (g : Int) ⟨h.n6, h.n5⟩
  obtain rfl : sc' = sc := by omega
  have hap := areas_apart hf hf' hsc
  have hge := firstN_ge n (g : Int)
  have hcl : ∀ c ∈ runCells (g + 1) e (joined ps), CellIs c (g + 1) e := fun c hc => run_is hjb hg h.e1 hc
  have hS1 : SInv R1 n g e := hS.put hp hln h.e1 hcl (fun i i1 i2 => cls_other hf hsc i1 (by rw [hlen] at i2; omega))
  have he1 := epoch_mono hln (hp.len.trans hln) (put_ep hS hp hln h.e1 hcl)
  have hl1 : R1.length = n := hp.len.trans hln
  have hl2 : R2.length = n := hp2.len.trans hl1
  obtain ⟨t1, t2, t3⟩ := hS1.torn (G := g + 1) hp2 hl1 h.e1 (fun c hc => run_is h1b hg h.e1 hc) (fun i i1 i2 => by
    rw [hlen1] at i2
    obtain rfl : i = (g + 1) % 2 := by omega
    exact cls_head n g) (fun i hi => by
    rw [hlen1] at hi
    obtain rfl : i = 0 := by omega
    rw [Nat.add_zero, hp.get _ (by omega), if_neg (by omega)]
    have hm := getD_mem (a := R) (i := (g + 1) % 2) (by omega)
    rcases (h.all _ hm).2 with q | q
    · exact .inl q
    · exact .inr (by omega))
  have he2 := epoch_mono hl1 hl2 t2
  have hh1 : headF R1 = headF R := by
    rw [headF_eq, headF_eq, hp.get 0 (by omega), if_neg (by omega), hp.get 1 (by omega), if_neg (by omega)]
  have ha1 := area_same (g := (g : Int)) hp hf' hsc (by omega) (by rw [hlen]; omega)
  have ha2 := torn_other (g := (g : Int)) hp2 hf' hsc (by rw [hp.len]; omega) (.inl (by rw [hlen1]; omega))
  have hold : headF R2 = headF R → DownR R2 n g e out := fun hh => ⟨h.g0, h.g1, by rw [hh]; exact r1, by rw [ha2, ha1, hh]; exact r2, hpo, t1, by omega⟩
  have ht3 := t3 0 (by rw [hlen1]; decide)
  rw [Nat.add_zero] at ht3
  have hrow : ∀ i, i < 2 → i ≠ (g + 1) % 2 → R2.getD i [] = R1.getD i [] := fun i hi hne => hp2.out i (by omega) (by rw [hlen1]; omega)
  have hpair : headF R = ((g : Int), (headF R).2) := by rw [← r1]
  by_cases hv : (readT (R2.getD ((g + 1) % 2) [])).2.2.2.2 = 0
  · rcases ht3 hv with q | q
    · refine .inr ?_
      have hput : Put R1 R2 ((g + 1) % 2) (runCells (g + 1) e [1]) := ⟨hp2.len, hp2.room, fun i hi => by
        by_cases hc : (g + 1) % 2 ≤ i ∧ i < (g + 1) % 2 + (runCells (g + 1) e [1]).length
        · rw [if_pos hc]
          rw [hlen1] at hc
          obtain rfl : i = (g + 1) % 2 := by omega
          rw [Nat.sub_self]
          exact q
        · rw [if_neg hc]
          exact hp2.out i hi hc⟩
      have hb2 := h.ckpt hg hf hsc hn h2 hps hb0 hk hp hput
      obtain ⟨b1, b2, b3⟩ := hb2.reads
      rw [b1] at b2
      exact ⟨by omega, hg, b1, b2, hps, t1.up, by omega⟩
    · refine .inl (hold ?_)
      rw [← hh1, headF_eq, headF_eq]
      have row : ∀ i, i < 2 → R2.getD i [] = R1.getD i [] := fun i hi => by
        by_cases hc : i = (g + 1) % 2
        · subst hc; exact q
        · exact hrow i hi hc
      rw [row 0 (by decide), row 1 (by decide)]
  · refine .inl (hold ?_)
    rw [hpair]
    refine head_lost h.g0 hpair ?_ hv
    rw [hrow _ hgm2 (by omega), hp.get _ (by omega), if_neg (by omega)]
/-! ### a journal's acts -/
theorem up_down {d' : DS} {n g e : Nat} {out : List (List Int)} (hc : Calm (upS d')) (hn : d'.n = n) (h6 : 6 ≤ n) (h : DownR (rowsD (upS d')) n g e out) : Down (upS d') g e out := ⟨hc, by show 6 ≤ d'.n; omega, by show DownR _ d'.n g e out; rw [hn]; exact h⟩
theorem Live.plan {d : DS} {s : JS} {l : List (List Int)} {m : Nat} (h : Live d s l m) (p : Option (Int × Int × Int)) : Live { d with plan := p } s l m :=
  ⟨⟨⟨h.j.calm.dead, h.j.calm.waits, h.j.calm.len, h.j.calm.n1, h.j.calm.n2⟩, h.j.gen, h.j.ep, h.j.us, h.j.body, h.j.br, h.j.sy, h.j.cnt, h.j.ml, h.j.wt, h.j.pay, h.j.room⟩, h.si, h.ep⟩
/-- Append -/
theorem live_append {d : DS} {s : JS} {l : List (List Int)} {m : Nat} {b : List Int} (h : Live d s l m) (hb : Bytes b) (hl : b.length ≤ 8192) : (appendF d.n s b = (0, { s with waits := s.waits ++ pk b, count := s.count + 1 }) ∧ Live d { s with waits := s.waits ++ pk b, count := s.count + 1 } (l ++ [b]) m) ∨ appendF d.n s b = (7, s) := by
  obtain ⟨h1, h2⟩ := append_inv h.j hb hl
  by_cases hr : cntN (s.waits.length + (pk b).length) ≤ secN d.n - s.used
  · exact .inl ⟨(h1 hr).1, (h1 hr).2, h.si, h.ep⟩
  · exact .inr (h2 hr)
/-- Sync -/
theorem live_sync {d : DS} {s : JS} {l : List (List Int)} {m : Nat} (h : Live d s l m) :
    ((syncF d s).1 = 0 ∧ Live (syncF d s).2.1 (syncF d s).2.2 l l.length ∧ (syncF d s).2.1.n = d.n ∧ (syncF d s).2.2.epoch = s.epoch ∧ (syncF d s).2.2.gen = s.gen) ∨
    ((syncF d s).1 = 30 ∧ (syncF d s).2.1.dead = true ∧ (syncF d s).2.1.n = d.n ∧ ∃ k, m ≤ k ∧ k ≤ l.length ∧ Down (upS (syncF d s).2.1) s.gen.toNat s.epoch.toNat (l.take k)) := by
  have hj := h.j
  obtain ⟨fr, sc, hf, hsc, hn, _⟩ := area_nums d.n s.gen ⟨hj.body.n6, hj.body.n5⟩
  have hge := firstN_ge d.n s.gen
  have hus := hj.us
  have hgn := hj.gen
  have hen := hj.ep
  have hroom := hj.room
  have hgc : s.gen = ((s.gen.toNat : Nat) : Int) := by omega
  have hat : firstN d.n s.gen + s.used = ((fr + s.used.toNat : Nat) : Int) := by omega
  have hcp := cnt_pieces s.waits.length
  have hjb : Bytes s.waits := by rw [hj.wt]; exact FrameLink.joined_bytes (pay_drop hj.pay m)
  have hf1 : firstN d.n ((s.gen.toNat : Nat) : Int) = (fr : Int) := by rw [← hgc]; exact hf
  have hcls : ∀ i, fr + s.used.toNat ≤ i → i < fr + s.used.toNat + (runCells s.gen.toNat s.epoch.toNat s.waits).length → clsG d.n s.gen.toNat i = s.gen.toNat := fun i i1 i2 => cls_area hf1 hsc (by omega) (by rw [runCells_len] at i2; omega)
  by_cases hok : (syncF d s).1 = 0
  · obtain ⟨i1, i2, i3, i4⟩ := sync_inv hj hok
    have key : SInv (rowsD (syncF d s).2.1) d.n s.gen.toNat s.epoch.toNat ∧ epochF (rowsD d) ≤ epochF (rowsD (syncF d s).2.1) := by
      unfold syncF at hok ⊢
      rw [if_neg (by rw [hj.br]; decide)] at hok ⊢
      by_cases h0 : s.waits.length = 0
      · rw [if_pos h0]
        exact ⟨h.si, Int.le_refl _⟩
      · rw [if_neg h0] at hok ⊢
        simp only at hok ⊢
        rw [hat] at hok ⊢
        by_cases h1 : (layF d s ((fr + s.used.toNat : Nat) : Int) s.gen s.waits).1 = 0
        · obtain ⟨a1, a2, a3, a4⟩ := lay_ok hj.calm (by omega) h1
          rw [if_neg (fun q => q h1)]
          have hcl : ∀ c ∈ runCells s.gen.toNat s.epoch.toNat s.waits, CellIs c s.gen.toNat s.epoch.toNat := fun c hc => run_is hjb hj.body.g1 hj.body.e1 hc
          exact ⟨h.si.put a3 (calm_len d) hj.body.e1 hcl hcls, epoch_mono (calm_len d) ((calm_len _).trans a2) (put_ep h.si a3 (calm_len d) hj.body.e1 hcl)⟩
        · rw [if_pos h1] at hok
          exact absurd hok h1
    refine .inl ⟨hok, ⟨i1, ?_, ?_⟩, i2, i3, i4⟩
    · rw [i2, i3, i4]
      exact key.1
    · rw [i3]
      have := h.ep
      have := key.2
      omega
  · refine .inr ?_
    unfold syncF at hok ⊢
    rw [if_neg (by rw [hj.br]; decide)] at hok ⊢
    by_cases h0 : s.waits.length = 0
    · rw [if_pos h0] at hok
      exact absurd rfl hok
    · rw [if_neg h0] at hok ⊢
      simp only at hok ⊢
      rw [hat, lay_as] at hok ⊢
      simp only at hok ⊢
      by_cases h1 : (putF d ((fr + s.used.toNat : Nat) : Int) (runCells s.gen.toNat s.epoch.toNat s.waits)).1 = 0
      · rw [if_neg (fun q => q h1)] at hok
        exact absurd rfl hok
      · rw [if_pos h1]
        obtain ⟨f1, f2, f3, f4, f5⟩ := put_fall (l := runCells s.gen.toNat s.epoch.toNat s.waits) hj.calm (by rw [runCells_len]; omega) (fun c hc => run_64 hc) h1
        rw [hj.wt] at f5 h0 hroom
        obtain ⟨k, k1, k2⟩ := hj.body.torn h.si (by have := h.ep; omega) (pay_take hj.pay m) (fr := fr) (sc := sc) hf1 hsc hn (by omega) rfl (pay_drop hj.pay m) (by omega) (by rw [hj.wt] at hcp; omega) f5
        rw [← hj.wt] at k2
        refine ⟨f1, f2, f3, m + k, by omega, ?_, up_down f4 f3 hj.body.n6 ?_⟩
        · rw [List.length_drop] at k1
          have := hj.ml
          omega
        · rw [List.take_add]
          exact k2
end Go.Proofs.Ythnjkmjcacoajaa.Jn
end

section
/- Checkpoint of a journal that lives, and the first opening: plain. No condition beyond those stated. -/
namespace Go.Proofs.Ythnjkmjcacoajaa.Jn
open Go Go.RowKit Go.Proofs.YthnjkmjcacoajaaW.PrintWords Go.Proofs.YthnjkmjcacoajaaW.PrintLast Go.Proofs.YthnjkmjcacoajaaW.PrintMore Go.Proofs.Ythnjkmjcacoajaa.Base Go.Proofs.Ythnjkmjcacoajaa.Arr
open Go.Proofs.Ythnjkmjcacoajaa.Dk (DS)
open Go.Proofs.Ythnjkmjcacoajaa.Ext (backOK stampV stampN readT readC cellOf stampN_mod stampN_div Bytes runCells runCells_len pieces run_one scan_z)
open Go.Proofs.Ythnjkmjcacoajaa.FrameLink (pk joined joined_nil joined_cons pk_len)
set_option linter.unusedVariables false
set_option linter.unusedSimpArgs false

theorem joined_one (b : List Int) : joined [b] = pk b := by rw [joined_cons, joined_nil, List.append_nil]
/-- Checkpoint -/
theorem live_ckpt {d : DS} {s : JS} {l : List (List Int)} {m : Nat} {b : List Int} (h : Live d s l m) (hb : Bytes b) (hl : b.length ≤ 8192) (hg : s.gen + 1 < 4294967296) :
    ckptF d s b = (7, d, s) ∨
    ((ckptF d s b).1 = 0 ∧ Live (ckptF d s b).2.1 (ckptF d s b).2.2 [b] 1 ∧ (ckptF d s b).2.1.n = d.n ∧ (ckptF d s b).2.2.epoch = s.epoch ∧ (ckptF d s b).2.2.gen = s.gen + 1) ∨
    ((ckptF d s b).1 = 30 ∧ (ckptF d s b).2.1.dead = true ∧ (ckptF d s b).2.1.n = d.n ∧ (Down (upS (ckptF d s b).2.1) s.gen.toNat s.epoch.toNat (l.take m) ∨ Down (upS (ckptF d s b).2.1) (s.gen.toNat + 1) s.epoch.toNat [b])) := by
  have hj := h.j
  have hp : packedF s b = (pk b, 0) := by
    unfold packedF
    rw [if_neg (by rw [hj.br]; decide), if_pos hl]
  have hpl : 0 < (pk b).length := by rw [pk_len]; omega
  have hgn := hj.gen
  have hen := hj.ep
  have hn6 := hj.body.n6
  obtain ⟨fr, sc, hf, hsc, hn, _⟩ := area_nums d.n (s.gen + 1) ⟨hj.body.n6, hj.body.n5⟩
  have hge := firstN_ge d.n (s.gen + 1)
  have hcp := cnt_pieces (pk b).length
  have hjp := joined_one b
  have hps : Pay [b] := fun p hp => by rw [List.mem_singleton.1 hp]; exact ⟨hb, hl⟩
  have hjb : Bytes (pk b) := by rw [← hjp]; exact FrameLink.joined_bytes hps
  have hgc : s.gen + 1 = ((s.gen.toNat + 1 : Nat) : Int) := by omega
  have htn : (s.gen + 1).toNat = s.gen.toNat + 1 := by omega
  have hmod : (s.gen + 1) % 2 = (((s.gen.toNat + 1) % 2 : Nat) : Int) := by omega
  have hm2 : (s.gen.toNat + 1) % 2 < 2 := Nat.mod_lt _ (by decide)
  have hg1 : s.gen.toNat + 1 < 4294967296 := by omega
  have hf1 : firstN d.n ((s.gen.toNat + 1 : Nat) : Int) = (fr : Int) := by rw [← hgc]; exact hf
  have hep : ((s.epoch.toNat : Nat) : Int) ≤ epochF (rowsD d) + 1 := by have := h.ep; omega
  by_cases h1 : cntN (pk b).length > secN d.n
  · refine .inl ?_
    unfold ckptF
    rw [hp]
    simp only
    rw [if_neg (by simp), if_pos h1]
  refine .inr ?_
  have hk : pieces (pk b).length ≤ sc := by omega
  have hone : runCells (s.gen.toNat + 1) s.epoch.toNat [1] = [cellOf (s.gen.toNat + 1) s.epoch.toNat true [1]] := run_one _ _ [1] (by decide) (by decide)
  have hlen1 : (runCells (s.gen.toNat + 1) s.epoch.toNat [1]).length = 1 := by rw [hone]; rfl
  have hcl : ∀ c ∈ runCells (s.gen.toNat + 1) s.epoch.toNat (pk b), CellIs c (s.gen.toNat + 1) s.epoch.toNat := fun c hc => run_is hjb hg1 hj.body.e1 hc
  have hcl1 : ∀ c ∈ runCells (s.gen.toNat + 1) s.epoch.toNat [1], CellIs c (s.gen.toNat + 1) s.epoch.toNat := fun c hc => run_is one_bytes hg1 hj.body.e1 hc
  have hcls : ∀ i, fr ≤ i → i < fr + (runCells (s.gen.toNat + 1) s.epoch.toNat (pk b)).length → clsG d.n s.gen.toNat i = s.gen.toNat + 1 := fun i i1 i2 => cls_other hf1 hsc i1 (by rw [runCells_len] at i2; omega)
  have hcls1 : ∀ i, (s.gen.toNat + 1) % 2 ≤ i → i < (s.gen.toNat + 1) % 2 + (runCells (s.gen.toNat + 1) s.epoch.toNat [1]).length → clsG d.n s.gen.toNat i = s.gen.toNat + 1 := fun i i1 i2 => by
    rw [hlen1] at i2
    obtain rfl : i = (s.gen.toNat + 1) % 2 := by omega
    exact cls_head _ _
  have T1 : ∀ R', Torn (rowsD d) R' fr (runCells (s.gen.toNat + 1) s.epoch.toNat (pk b)) → DownR R' d.n s.gen.toNat s.epoch.toNat (l.take m) := fun R' q => by
    rw [← hjp] at q hk
    exact hj.body.torn1 h.si hep (pay_take hj.pay m) hg1 hf1 hsc hn (by omega) hps hk q
  have T2 : ∀ R1 R2, Put (rowsD d) R1 fr (runCells (s.gen.toNat + 1) s.epoch.toNat (pk b)) → Torn R1 R2 ((s.gen.toNat + 1) % 2) (runCells (s.gen.toNat + 1) s.epoch.toNat [1]) → DownR R2 d.n s.gen.toNat s.epoch.toNat (l.take m) ∨ DownR R2 d.n (s.gen.toNat + 1) s.epoch.toNat [b] := fun R1 R2 q q2 => by
    rw [← hjp] at q hk hpl
    exact hj.body.torn2 h.si hep (pay_take hj.pay m) hg1 hf1 hsc hn (by omega) hps hpl hk q q2
  by_cases hok : (ckptF d s b).1 = 0
  · obtain ⟨i1, i2, i3, i4, _, _⟩ := ckpt_inv hj hb hl hok
    have key : SInv (rowsD (ckptF d s b).2.1) d.n s.gen.toNat s.epoch.toNat ∧ epochF (rowsD d) ≤ epochF (rowsD (ckptF d s b).2.1) := by
      unfold ckptF at hok ⊢
      rw [hp] at hok ⊢
      simp only at hok ⊢
      rw [if_neg (by simp), if_neg h1, if_neg (by omega), hf, hmod] at hok ⊢
      by_cases h3 : (layF d s (fr : Int) (s.gen + 1) (pk b)).1 = 0
      · rw [if_neg (fun q => q h3)] at hok ⊢
        obtain ⟨a1, a2, a3, a4⟩ := lay_ok hj.calm hpl h3
        by_cases h4 : (layF (layF d s (fr : Int) (s.gen + 1) (pk b)).2.1 (layF d s (fr : Int) (s.gen + 1) (pk b)).2.2 (((s.gen.toNat + 1) % 2 : Nat) : Int) (s.gen + 1) [1]).1 = 0
        · rw [if_neg (fun q => q h4)]
          obtain ⟨b1, b2, b3, b4⟩ := lay_ok (b := [1]) a1 (by decide) h4
          rw [htn] at a3 b3
          have hl1 := (calm_len (layF d s (fr : Int) (s.gen + 1) (pk b)).2.1).trans a2
          have s1 := h.si.put a3 (calm_len d) hj.body.e1 hcl hcls
          have e1 := epoch_mono (calm_len d) hl1 (put_ep h.si a3 (calm_len d) hj.body.e1 hcl)
          have s2 := s1.put b3 hl1 hj.body.e1 hcl1 hcls1
          have e2 := epoch_mono hl1 ((calm_len _).trans (b2.trans a2)) (put_ep s1 b3 hl1 hj.body.e1 hcl1)
          exact ⟨s2, Int.le_trans e1 e2⟩
        · rw [if_pos h4] at hok
          exact absurd hok h4
      · rw [if_pos h3] at hok
        exact absurd hok h3
    refine .inl ⟨hok, ⟨i1, ?_, ?_⟩, i2, i3, i4⟩
    · rw [i2, i3, i4, htn]
      exact key.1.up
    · rw [i3]
      have := h.ep
      have := key.2
      omega
  · refine .inr ?_
    unfold ckptF at hok ⊢
    rw [hp] at hok ⊢
    simp only at hok ⊢
    rw [if_neg (by simp), if_neg h1, if_neg (by omega), hf, hmod] at hok ⊢
    by_cases h3 : (layF d s (fr : Int) (s.gen + 1) (pk b)).1 = 0
    · rw [if_neg (fun q => q h3)] at hok ⊢
      obtain ⟨a1, a2, a3, a4⟩ := lay_ok hj.calm hpl h3
      by_cases h4 : (layF (layF d s (fr : Int) (s.gen + 1) (pk b)).2.1 (layF d s (fr : Int) (s.gen + 1) (pk b)).2.2 (((s.gen.toNat + 1) % 2 : Nat) : Int) (s.gen + 1) [1]).1 = 0
      · rw [if_neg (fun q => q h4)] at hok
        exact absurd rfl hok
      · rw [if_pos h4]
        rw [htn] at a3
        rw [lay_as, htn] at h4 ⊢
        simp only at h4 ⊢
        obtain ⟨f1, f2, f3, f4, f5⟩ := put_fall (l := runCells (s.gen.toNat + 1) s.epoch.toNat [1]) a1 (by rw [a2, hlen1]; omega) (fun c hc => run_64 hc) h4
        have hdown := T2 _ _ a3 f5
        refine ⟨f1, f2, f3.trans a2, ?_⟩
        rcases hdown with q | q
        · exact .inl (up_down f4 (f3.trans a2) hn6 q)
        · exact .inr (up_down f4 (f3.trans a2) hn6 q)
    · rw [if_pos h3]
      rw [lay_as, htn] at h3 ⊢
      simp only at h3 ⊢
      obtain ⟨f1, f2, f3, f4, f5⟩ := put_fall (l := runCells (s.gen.toNat + 1) s.epoch.toNat (pk b)) hj.calm (by rw [runCells_len]; omega) (fun c hc => run_64 hc) h3
      have hdown := T1 _ f5
      exact ⟨f1, f2, f3, .inl (up_down f4 f3 hn6 hdown)⟩
end Go.Proofs.Ythnjkmjcacoajaa.Jn
end

section
/- The first opening of a disk, new or with a head: plain. No condition beyond those stated. -/
namespace Go.Proofs.Ythnjkmjcacoajaa.Jn
open Go Go.RowKit Go.Proofs.YthnjkmjcacoajaaW.PrintWords Go.Proofs.YthnjkmjcacoajaaW.PrintLast Go.Proofs.YthnjkmjcacoajaaW.PrintMore Go.Proofs.Ythnjkmjcacoajaa.Base Go.Proofs.Ythnjkmjcacoajaa.Arr
open Go.Proofs.Ythnjkmjcacoajaa.Dk (DS newS writeF flushF)
open Go.Proofs.Ythnjkmjcacoajaa.Ext (backOK stampV stampN readT readC cellOf stampN_mod stampN_div Bytes runCells runCells_len pieces run_one z64_bad scanR scanR_cons)
set_option linter.unusedVariables false
set_option linter.unusedSimpArgs false

theorem new_sinv (n g e : Nat) (h1 : 1 ≤ n) (h2 : n ≤ 512) (he : 0 < e) : SInv (rowsD (newS n)) n g e := fun i hi => by
  rw [new_row n h1 h2 i hi]
  refine ⟨secw_zero _ _, ?_, .inl ?_⟩
  · rw [zero_stamp]; exact Nat.zero_le _
  · rw [zero_stamp]; exact he
theorem one_class (n e : Nat) : ∀ i, 1 ≤ i → i < 1 + (runCells 1 e [1]).length → clsG n 1 i = 1 := fun i i1 i2 => by
  have hone : runCells 1 e [1] = [cellOf 1 e true [1]] := run_one 1 e [1] (by decide) (by decide)
  rw [hone, List.length_singleton] at i2
  obtain rfl : i = 1 := by omega
  exact cls_one n
theorem first_new (n : Nat) (h6 : 6 ≤ n) (h5 : n ≤ 512) : ∃ d s, openF (newS n) = (0, d, some (s, [])) ∧ Live d s [] 0 ∧ d.plan = none ∧ s.epoch = 1 ∧ s.gen = 1 := by
  have hc := new_calm n (by omega) h5
  have he := new_epoch n (by omega) h5
  obtain ⟨f1, f2⟩ := fresh_fine hc h6 rfl (epochF (rowsD (newS n)) + 1)
  obtain ⟨o1, o2, o3⟩ := open_fresh hc h6 (new_secs n (by omega) h5) (new_head n (by omega) h5) (by rw [he]; decide) f1
  have f1' : (layF (newS n) (newJ (epochF (rowsD (newS n)) + 1)) ((1 : Nat) : Int) 1 [1]).1 = 0 := f1
  obtain ⟨a1, a2, a3, a4⟩ := lay_ok (b := [1]) hc (by decide) f1'
  rw [he] at o1 o2 o3 f2
  rw [show (newJ (epochF (rowsD (newS n)) + 1)).epoch.toNat = 1 by rw [he]; rfl, he] at a3
  rw [he] at a4
  refine ⟨_, _, o1, ⟨o3, ?_, ?_⟩, f2, rfl, rfl⟩
  · rw [o2]
    exact (new_sinv n 1 1 (by omega) h5 (by decide)).put a3 (calm_len _) (by decide) (fun c hc => run_is one_bytes (by decide) (by decide) hc) (one_class n 1)
  · show (0 : Int) + 1 ≤ _
    have := (epochF_range (rowsD (layF (newS n) (newJ (0 + 1)) 1 1 [1]).2.1)).1
    omega
theorem put_one (d : DS) (a : Nat) (c : List Int) (h : (writeF d (a : Int) c).1 = 0) : putF d (a : Int) [c] = flushF (writeF d (a : Int) c).2 := by
  have e : writesF d (a : Int) [c] = (0, (writeF d (a : Int) c).2) := by
    unfold writesF
    rw [if_neg (fun q => q h)]
    rfl
  unfold putF
  rw [e, if_neg (by simp)]
theorem first_old (n e : Nat) (h6 : 6 ≤ n) (h5 : n ≤ 512) (he0 : 0 < e) (he : e < 4294967296) : (writeF (newS n) 1 (cellOf 1 e true [1])).1 = 0 ∧ (flushF (writeF (newS n) 1 (cellOf 1 e true [1])).2).1 = 0 ∧ Down (flushF (writeF (newS n) 1 (cellOf 1 e true [1])).2).2 1 e [] ∧ (flushF (writeF (newS n) 1 (cellOf 1 e true [1])).2).2.plan = none := by
  have hc := new_calm n (by omega) h5
  have hone : runCells 1 e [1] = [cellOf 1 e true [1]] := run_one 1 e [1] (by decide) (by decide)
  have hcell : CellIs (cellOf 1 e true [1]) 1 e := cell_is 1 e true [1] (by decide) one_bytes (by decide) he
  have h64 : ∀ c ∈ runCells 1 e [1], c.length = 64 := fun c hc => run_64 hc
  have hw : (writeF (newS n) ((1 : Nat) : Int) (cellOf 1 e true [1])).1 = 0 := by
    have h1 : (putF (newS n) ((1 : Nat) : Int) [cellOf 1 e true [1]]).1 = 0 := (put_fine hc rfl (by show 1 + 1 ≤ n; omega) (fun c q => by rw [List.mem_singleton.1 q]; exact hcell.len)).1
    have : Dk.thereE (newS n) ((1 : Nat) : Int) = 0 := there_fine rfl (by omega) (by show ((1 : Nat) : Int) < (n : Int); omega)
    unfold writeF
    rw [if_neg (fun q => q this), if_neg (fun q => q hcell.len), if_neg (by show ¬ ((0 : Int) ≠ 0); simp)]
  have hp := put_one (newS n) 1 _ hw
  obtain ⟨p1, p2⟩ := put_fine (l := [cellOf 1 e true [1]]) (at_ := 1) hc rfl (by show 1 + 1 ≤ n; omega) (fun c q => by rw [List.mem_singleton.1 q]; exact hcell.len)
  obtain ⟨q1, q2, q3⟩ := put_rows (l := [cellOf 1 e true [1]]) (at_ := 1) hc (by simp) p1
  have hrow1 : (rowsD (putF (newS n) ((1 : Nat) : Int) [cellOf 1 e true [1]]).2).getD 1 [] = cellOf 1 e true [1] := by
    rw [q3.get 1 (by rw [calm_len]; show 1 < n; omega), if_pos (by simp)]
    rfl
  have hrow : ∀ i, i < n → i ≠ 1 → (rowsD (putF (newS n) ((1 : Nat) : Int) [cellOf 1 e true [1]]).2).getD i [] = List.replicate 64 0 := fun i hi hne => by
    rw [q3.get i (by rw [calm_len]; exact hi), if_neg (by rw [List.length_singleton]; omega)]
    exact new_row n (by omega) h5 i hi
  have hh := head_first (R := rowsD (newS n)) (by rw [calm_len]; show 2 ≤ n; omega) (new_head n (by omega) h5) he q3
  obtain ⟨fr, sc, hf, hsc, hn, _⟩ := area_nums n 1 ⟨h6, h5⟩
  have hfr : 2 ≤ fr := by
    have : firstN n 1 = 2 + 1 * secN n := rfl
    have h0 : 0 ≤ secN n := by unfold secN; omega
    omega
  have hlen' : (rowsD (putF (newS n) ((1 : Nat) : Int) [cellOf 1 e true [1]]).2).length = n := (calm_len _).trans q2
  have harea := area_same (g := 1) q3 hf hsc (by rw [calm_len]; exact hn) (.inl (by rw [List.length_singleton]; omega))
  have hge : (e : Int) ≤ epochF (rowsD (putF (newS n) ((1 : Nat) : Int) [cellOf 1 e true [1]]).2) := by
    have := epoch_ge (getD_mem (a := rowsD (putF (newS n) ((1 : Nat) : Int) [cellOf 1 e true [1]]).2) (i := 1) (by omega))
    rw [hrow1, ep_nat, hcell.st, stampN_mod 1 e he] at this
    exact this
  have hdown : Down (putF (newS n) ((1 : Nat) : Int) [cellOf 1 e true [1]]).2 1 e [] := by
    refine ⟨q1, by rw [q2]; exact h6, ?_⟩
    rw [q2]
    refine ⟨by decide, by decide, by rw [hh]; rfl, ?_, fun p q => (by cases q), ⟨fun i hi => ?_, fun i hi => ?_⟩, by omega⟩
    · show scanF (areaF _ n 1) 1 _ = some []
      rw [show (newS n).n = n from rfl] at *
      rw [harea, hh]
      have key : ∀ L : List (List Int), (∀ c ∈ L, c = List.replicate 64 0) → scanF L 1 (e : Int) = some [] := fun L hL => by
        cases L with
        | nil => rfl
        | cons c cs =>
          unfold scanF scanQ
          rw [scanR_cons, if_pos (by rw [hL c (by simp)]; exact z64_bad _ _)]
          rfl
      exact key _ (fun c hc => new_mem n (by omega) h5 (area_mem hc))
    · by_cases h1 : i = 1
      · subst h1
        rw [hrow1]
        exact hcell.secw
      · rw [hrow i hi h1]
        exact secw_zero _ _
    · by_cases h1 : i = 1
      · subst h1
        rw [hrow1, hcell.st, stampN_mod 1 e he]
        unfold topE
        omega
      · rw [hrow i hi h1, zero_stamp]
        exact Nat.zero_le _
  rw [hp] at p1 p2 hdown
  exact ⟨hw, p1, hdown, p2⟩
end Go.Proofs.Ythnjkmjcacoajaa.Jn
end
