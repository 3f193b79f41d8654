/- What a cell of a run is read as. Plain lists; condition: a stamp of two numbers of 32 bits; bytes are bytes. -/
import Derived.Test.YtfkndnocjelhgaaCellsF
namespace Go.Proofs.Ytfkndnocjelhgaa.Ext
open Go Go.RowKit Go.Proofs.YtfkndnocjelhgaaW.PrintWords Go.Proofs.YtfkndnocjelhgaaW.PrintLast Go.Proofs.YtfkndnocjelhgaaW.PrintMore Go.Proofs.Ytfkndnocjelhgaa.Base Go.Proofs.Ytfkndnocjelhgaa.Arr
set_option linter.unusedVariables false
set_option linter.unusedSimpArgs false

theorem edge_rd (v j : Nat) (hj : j < 8) : rd (edgeL v) (j : Int) = edgeB v j := by
  rw [rd_nat]
  unfold edgeL
  rw [List.getD_eq_getElem?_getD, List.getElem?_map, List.getElem?_range hj]
  rfl
theorem edgeB_nat (v j : Nat) : edgeB v j = ((v / 2 ^ (8 * (7 - j)) % 256 : Nat) : Int) := by
  unfold edgeB
  rw [Int.natCast_emod, Int.natCast_ediv, Int.natCast_pow]
  rfl
theorem val_edge_to (v : Nat) (hv : v < 2 ^ 64) : ∀ j, j ≤ 8 → valN (edgeL v) j = v / 2 ^ (8 * (8 - j))
  | 0, _ => by
    show 0 = v / 2 ^ 64
    rw [Nat.div_eq_of_lt hv]
  | j + 1, hj => by
    show valN (edgeL v) j * 256 + (rd (edgeL v) (j : Int)).toNat = _
    rw [val_edge_to v hv j (by omega), edge_rd v j (by omega), edgeB_nat, Int.toNat_natCast]
    have e1 : 8 * (8 - j) = 8 * (7 - j) + 8 := by omega
    have e2 : 8 * (8 - (j + 1)) = 8 * (7 - j) := by omega
    rw [e1, e2, Nat.pow_add, ← Nat.div_div_eq_div_mul]
    generalize v / 2 ^ (8 * (7 - j)) = q
    omega
theorem val_edge (v : Nat) (hv : v < 2 ^ 64) : valN (edgeL v) 8 = v := by
  rw [val_edge_to v hv 8 (Nat.le_refl _)]
  simp
theorem edge_bytes (v : Nat) : Bytes (edgeL v) := fun x hx => by
  unfold edgeL at hx
  obtain ⟨j, hj, rfl⟩ := List.mem_map.1 hx
  rw [edgeB_nat]
  omega
theorem Bytes.app {l l' : List Int} (h : Bytes l) (h' : Bytes l') : Bytes (l ++ l') := fun x hx => (List.mem_append.1 hx).elim (h x) (h' x)
theorem Bytes.zeros (n : Nat) : Bytes (List.replicate n 0) := fun x hx => by rw [List.eq_of_mem_replicate hx]; decide
theorem Bytes.rev {l : List Int} (h : Bytes l) : Bytes l.reverse := fun x hx => h x (List.mem_reverse.1 hx)
theorem Bytes.drop {l : List Int} (h : Bytes l) (n : Nat) : Bytes (l.drop n) := fun x hx => h x (List.mem_of_mem_drop hx)
theorem stampN_lt (g e : Nat) (hg : g < 4294967296) (he : e < 4294967296) : stampN g e < 2 ^ 64 := by unfold stampN; omega
theorem orF_byte (f : Bool) (n : Nat) (hn : n ≤ 47) : 0 ≤ orF f n ∧ orF f n < 256 := by
  unfold orF
  cases f <;> simp <;> omega
theorem cellOf_bytes (g e : Nat) (f : Bool) (p : List Int) (hp : p.length ≤ 47) (hb : Bytes p) : Bytes (cellOf g e f p) := by
  unfold cellOf
  refine ((edge_bytes _).app (fun x hx => ?_)).app (edge_bytes _).rev
  rcases List.mem_cons.1 hx with h | h
  · rw [h]; exact orF_byte f _ hp
  · exact hb.app (Bytes.zeros _) x h
theorem cellOf_eq (g e : Nat) (f : Bool) (p : List Int) : cellOf g e f p = cell0 (edgeL (stampN g e)) (orF f p.length) p := rfl
theorem cell0_take (E : List Int) (hd : Int) (p : List Int) (hE : E.length = 8) : (cell0 E hd p).take 8 = E := by
  unfold cell0
  rw [List.append_assoc, List.take_append_of_le_length (by omega), List.take_of_length_le (by omega)]
theorem cell0_back (E : List Int) (hd : Int) (p : List Int) (hE : E.length = 8) (hp : p.length ≤ 47) : (cell0 E hd p).drop 56 = E.reverse := by
  unfold cell0
  rw [List.drop_append_of_le_length (by simp [hE]; omega), List.drop_eq_nil_of_le (by simp [hE]; omega), List.nil_append]
theorem cell0_head (E : List Int) (hd : Int) (p : List Int) (hE : E.length = 8) (hp : p.length ≤ 47) : rd (cell0 E hd p) 8 = hd := by
  show rd (cell0 E hd p) ((8 : Nat) : Int) = hd
  rw [rd_nat, List.getD_eq_getElem?_getD, cell0_get E hd p hE hp]
  rfl
theorem cell0_len (E : List Int) (hd : Int) (p : List Int) (hE : E.length = 8) (hp : p.length ≤ 47) : (cell0 E hd p).length = 64 := by
  unfold cell0
  simp [hE]
  omega
theorem cell0_data (E : List Int) (hd : Int) (p : List Int) (hE : E.length = 8) (hp : p.length ≤ 47) : ((cell0 E hd p).drop 9).take 47 = p ++ List.replicate (47 - p.length) 0 := by
  apply List.ext_getElem?
  intro k
  rw [List.getElem?_take]
  by_cases hk : k < 47
  · rw [if_pos hk, List.getElem?_drop, cell0_get E hd p hE hp, if_neg (by omega), if_neg (by omega), if_pos (by omega)]
    congr 1; omega
  · rw [if_neg hk, List.getElem?_eq_none (by simp; omega)]
theorem cell0_piece (E : List Int) (hd : Int) (p : List Int) (hE : E.length = 8) (hp : p.length ≤ 47) : ((cell0 E hd p).drop 9).take p.length = p := by
  have h := congrArg (List.take p.length) (cell0_data E hd p hE hp)
  rw [List.take_take, Nat.min_eq_left (by omega), List.take_append_of_le_length (Nat.le_refl _), List.take_length] at h
  exact h
theorem head_n (f : Bool) (n : Nat) (hn : n ≤ 47) : (orF f n).toNat % 128 = n ∧ (128 ≤ (orF f n).toNat ↔ f = true) := by
  unfold orF
  cases f <;> simp <;> omega
theorem front_cell (g e : Nat) (f : Bool) (p : List Int) (hg : g < 4294967296) (he : e < 4294967296) : stampV (cellOf g e f p) = stampN g e := by
  unfold stampV
  rw [cellOf_eq, cell0_take _ _ _ (edgeL_len _), val_edge _ (stampN_lt g e hg he)]
theorem stampN_div (g e : Nat) (he : e < 4294967296) : stampN g e / 4294967296 = g := by unfold stampN; omega
theorem stampN_mod (g e : Nat) (he : e < 4294967296) : stampN g e % 4294967296 = e := by unfold stampN; omega
theorem read_cell (g e : Nat) (f : Bool) (p : List Int) (hg0 : 0 < g) (hg : g < 4294967296) (he : e < 4294967296) (hp0 : 0 < p.length) (hp : p.length ≤ 47) :
    readC (cellOf g e f p) = 0 ∧ headN (cellOf g e f p) = p.length ∧ (128 ≤ (rd (cellOf g e f p) 8).toNat ↔ f = true) := by
  have hE := edgeL_len (stampN g e)
  have hh : headN (cellOf g e f p) = p.length := by
    unfold headN
    rw [cellOf_eq, cell0_head _ _ _ hE hp]
    exact (head_n f p.length hp).1
  refine ⟨?_, hh, ?_⟩
  · unfold readC
    rw [if_neg (show ¬ ¬ backOK (cellOf g e f p) from fun h => h ?_), if_neg ?_, if_neg (show ¬ ¬ zerosOK (cellOf g e f p) from fun h => h ?_)]
    · unfold zerosOK
      rw [hh]
      have hl := cellOf_len g e f p hp
      apply List.ext_getElem?
      intro k
      rw [splice_get _ _ _ (by rw [List.length_replicate, hl]; omega), List.length_replicate, cellOf_eq, cell0_get _ _ _ hE hp]
      by_cases h1 : k < 9 + p.length
      · rw [if_pos h1]
      · rw [if_neg h1]
        by_cases h2 : k < 56
        · rw [if_pos (by omega), if_neg (by omega), if_neg (by omega), if_pos h2, List.getElem?_append_right (by omega), List.getElem?_replicate, List.getElem?_replicate, if_pos (by omega), if_pos (by omega)]
        · rw [if_neg (by omega)]
    · rw [front_cell g e f p hg he, stampN_div g e he, hh]
      omega
    · unfold backOK
      rw [cellOf_eq, cell0_take _ _ _ hE, cell0_back _ _ _ hE hp, List.reverse_reverse]
  · rw [cellOf_eq, cell0_head _ _ _ hE hp]
    exact (head_n f p.length hp).2
theorem data_cell (g e : Nat) (f : Bool) (p : List Int) (hp : p.length ≤ 47) : ((cellOf g e f p).drop 9).take p.length = p := by
  rw [cellOf_eq]
  exact cell0_piece _ _ _ (edgeL_len _) hp
theorem run_one (g e : Nat) (b : List Int) (h0 : 0 < b.length) (h1 : b.length ≤ 47) : runCells g e b = [cellOf g e true b] := by
  have hp : pieces b.length = 1 := by unfold pieces; omega
  have hu : upto b.length (pieces b.length) = [⟨0, by omega⟩] := by
    have h := upto_succ b.length 0 (by omega)
    rw [show upto b.length 0 = [] from rfl] at h
    have e : upto b.length (pieces b.length) = upto b.length (0 + 1) := congrArg (upto b.length) hp
    rw [e, h]
    rfl
  unfold runCells
  rw [hu]
  unfold cellsOf
  have hpc : pieceOf b 0 = b := by
    unfold pieceOf pieceL
    rw [Nat.mul_zero, List.drop_zero, Nat.sub_zero, List.take_of_length_le (by omega)]
  simp [hpc]
theorem wf_bytes {l : List Int} (h : ∀ x ∈ l, (Lit.int .u8 x).wf = true) : Bytes l := fun x hx => by
  have := h x hx
  simp [Lit.wf, IntKind.min, IntKind.max, IntKind.signed, IntKind.bits] at this
  omega
end Go.Proofs.Ytfkndnocjelhgaa.Ext
