import Derived.Test.YthnjkmjcacoajaaKJournalKeeps25
import Derived.Test.YthnjkmjcacoajaaKJournalKeeps32
section
/- head of the journal, walked: the greatest head that holds. Condition: sectors of bytes, two at least. -/
namespace Go.Proofs.Ythnjkmjcacoajaa.Jn
open Go Go.RowKit Go.Proofs.YthnjkmjcacoajaaW.PrintWords Go.Proofs.YthnjkmjcacoajaaW.PrintLast Go.Proofs.YthnjkmjcacoajaaW.PrintMore Go.Proofs.Ythnjkmjcacoajaa.Base Go.Proofs.Ythnjkmjcacoajaa.Arr
open Go.Proofs.Ythnjkmjcacoajaa.Dk (DS DiskIs DiskTo writeF flushF)
open Go.Proofs.Ythnjkmjcacoajaa.Ext (readT DataAt Read_T)
set_option linter.unusedVariables false
set_option linter.unusedSimpArgs false

def headStep (i : Nat) (r : List Int) (best : Int × Int) : Int × Int :=
  if (readT r).2.2.2.2 = 0 ∧ (readT r).2.2.1 = true ∧ (readT r).2.2.2.1 = [1] ∧ (readT r).1 % 2 = (i : Int) ∧ best.1 < (readT r).1 then ((readT r).1, (readT r).2.1) else best
def headTo (l : List (List Int)) : Nat → Int × Int
  | 0 => (0, 0)
  | j + 1 => headStep j (l.getD j []) (headTo l j)
def headF (l : List (List Int)) : Int × Int := headTo l 2
theorem readT_nonneg (r : List Int) : 0 ≤ (readT r).1 := by
  unfold readT
  split
  · exact Int.le_refl _
  · split
    · exact Int.le_refl _
    · show 0 ≤ (Ext.stampV r : Int) / 4294967296
      omega
theorem readT_data_bytes {r : List Int} (h : Ext.Bytes r) : Ext.Bytes (readT r).2.2.2.1 := by
  unfold readT
  split
  · intro x hx; cases hx
  · split
    · intro x hx; cases hx
    · intro x hx
      exact h x (List.mem_of_mem_drop (List.mem_of_mem_take hx))
theorem bytes_str {l : List Int} (h : Ext.Bytes l) : bytesOf (strOfNums l) = l := by
  unfold bytesOf strOfNums
  rw [List.toList_toArray, List.map_map]
  conv => rhs; rw [← List.map_id l]
  apply List.map_congr_left
  intro x hx
  have := h x hx
  simp only [Function.comp_apply, id_eq]
  rw [UInt8.toNat_ofNat']
  omega
theorem mark_iff {l : List Int} (h : Ext.Bytes l) : (strOfNums l).toList = [1] ↔ l = [1] := by
  rw [Go.ByteArray.toList_eq]
  constructor
  · intro e
    have h1 := bytes_str h
    unfold bytesOf at h1
    rw [e] at h1
    rw [← h1]
    rfl
  · rintro rfl
    rfl
theorem getD_at {l : List (List Int)} {j : Nat} {r : List Int} (h : l[j]? = some r) : l.getD j [] = r := by
  rw [List.getD_eq_getElem?_getD, h]
  rfl
def stA (p : Int × Int) : Array Value := #[.int .i64 p.1, .int .i64 p.2]
set_option maxHeartbeats 4000000 in
set_option maxRecDepth 100000 in
theorem head_calls (w : World) (A : Option Addr) (c : Nat) (l : List (List Int)) (hr : (Kd.slice 5 (Kd.int .u8)).C w A l.length l) (hc : l.length ≤ c) (hb : Secs l) (hl : l.length ≤ 1000000) (h2 : 2 ≤ l.length) :
    Calls Try.prog 44 #[.slice A l.length c] w fun e w' => e = .returned (.agg (stA (headF l))) ∧ Below w.heap.size w w' := by
  have HR := Aside0.mk hr
  have HB0 := Aside0.mk hb
  have HL := Aside0.mk h2
  obtain ⟨i0, hi0, _, hsz0, _⟩ := info_parts infoRow
  have hcut := cut_to (P := Try.prog) 37 31 .i64 Try.underlying37 hi0 A l.length c 2 (by omega) (by omega) hc
  have HR0 := Aside0.mk (HoldsRow.new w 44 #[.int .i64 0, .int .i64 0])
  have HB1 := Aside0.mk (below_alloc (Below.refl w.heap.size w) (.cells #[.int .i64 0, .int .i64 0] 44))
  clear hr hb hc hl h2
  go_enter Try.func44, Try.ntmps44
  go_wp2_with fail
  clear hcut hi0 hsz0
  go_loopw [12] (fun i wr => ∃ j : Nat, j ≤ 2 ∧ i = .int .i64 (j : Nat) ∧ Aside0 (HoldsRow wr w.heap.size 44 (stA (headTo l j))) ∧ Aside0 (Below w.heap.size w wr)) (fun i _ => 3 - (intOf i).toNat)
  case atStart => exact ⟨0, by omega, rfl, HR0, HB1⟩
  case round =>
    obtain ⟨j, hj, rfl, HG, HB⟩ := hrel
    clear HR0 HB1
    by_cases hlt : j < 2
    · have d1 : decide ((j : Int) < 2) = true := decide_eq_true (by omega)
      have d2 : decide (j < 2) = true := decide_eq_true hlt
      have hjl : j < l.length := by have := HL.out; omega
      have hx := List.getElem?_eq_getElem hjl
      have hmem := List.getElem_mem hjl
      obtain ⟨r, hr⟩ : ∃ r, r = l[j] := ⟨_, rfl⟩
      rw [← hr] at hx hmem
      obtain ⟨ad, A2, c2, rfl, K1, hc2, hC2⟩ := row_elem (w := wr) (Kd.C_below HR.out HB.out) hx
      have hHT : headTo l (j + 1) = headStep j r (headTo l j) := by
        show headStep j (l.getD j []) (headTo l j) = _
        rw [getD_at hx]
      have hnn := readT_nonneg r
      have hmi := mark_iff (readT_data_bytes (HB0.out r hmem).2)
      have HMI := Aside0.mk hmi
      have HBY := Aside0.mk (HB0.out r hmem).2
      unfold headStep at hHT
      have i1 := eq_true (show (0 : Int) ≤ (j : Int) by omega)
      have i2 := eq_true (show (j : Int) < 2 by omega)
      have HRT := Aside0.mk (Read_T wr A2 c2 r hC2 hc2 HBY.out)
      have HNN := Aside0.mk hnn
      have HHT := Aside0.mk hHT
      clear hx hmem hr hmi hnn hHT hC2
      obtain ⟨⟨bg, be⟩, hbest⟩ : ∃ q, q = headTo l j := ⟨_, rfl⟩
      rw [← hbest] at HG HHT
      clear hbest
      obtain ⟨⟨g0, e0, b0, dt, er⟩, hq⟩ : ∃ q, q = readT r := ⟨_, rfl⟩
      rw [← hq] at HRT HNN HHT HMI
      clear hq
      simp only at HRT HNN HHT HMI
      go_wp2_with fail
      refine HRT.out.mono ?_
      rintro e w3 ⟨v3, rfl, hdat, b3⟩
      obtain ⟨A3, rfl, hC3⟩ := hdat.form
      have HB3 := Aside0.mk (below_then HB.out HB.out.size b3)
      have HNEW := Aside0.mk (HoldsRow.new w3 44 #[.int .i64 0, .int .i64 0])
      have hb4 := Go.Proofs.Ythnjkmjcacoajaa.Arr.below_setRow (b := w3.heap.size) (below_alloc HB3.out (.cells #[.int .i64 0, .int .i64 0] 44)) #[.int .i64 g0, .int .i64 e0] HB3.out.size
      have hrow4 := HNEW.out.row #[.int .i64 g0, .int .i64 e0]
      have K4 := hrow4.cell (j := 0) (v := .int .i64 g0) rfl
      have hG3 := HG.out.below b3 HG.out.lt
      have hG4 := (hG3.alloc (.cells #[.int .i64 0, .int .i64 0] 44)).row_other #[.int .i64 g0, .int .i64 e0] (b' := w3.heap.size) (by have := hG3.lt; omega)
      have hbw : Below w3.heap.size w3 ((w3.alloc (.cells #[.int .i64 0, .int .i64 0] 44)).setRow w3.heap.size #[.int .i64 g0, .int .i64 e0]) := Go.Proofs.Ythnjkmjcacoajaa.Arr.below_setRow (b := w3.heap.size) (below_alloc (Below.refl _ _) _) _ (Nat.le_refl _)
      have hC4 := Kd.C_below hC3 hbw
      have KG := hG4.cell (j := 0) (v := .int .i64 bg) rfl
      obtain ⟨w4, hw4⟩ : ∃ w4 : World, w4 = (w3.alloc (.cells #[.int .i64 0, .int .i64 0] 44)).setRow w3.heap.size #[.int .i64 g0, .int .i64 e0] := ⟨_, rfl⟩
      rw [← hw4] at K4 hb4 hrow4 hG4 hC4 KG
      have hstr := Kd.C_string (P := Try.prog) (c := dt.length) (src := 31) (dst := 9) Try.underlying31 Try.underlying5 Try.underlying9 hC4
      have HW4 := Aside0.mk hw4
      have HB4 := Aside0.mk hb4
      have HG4 := Aside0.mk hG4
      have HROW4 := Aside0.mk hrow4
      clear hw4 hb4 hG4 hrow4 hG3 hbw hC4 hC3 b3 hdat HB K1
      have hrem : Int.tmod g0 2 = g0 % 2 := Int.tmod_eq_emod_of_nonneg HNN.out
      have hrem2 : wrap64 (g0 % 2) = g0 % 2 := by unfold wrap64; omega
      have K5 := HROW4.out.cell (j := 1) (v := .int .i64 e0) rfl
      replace HHT := HHT.out
      by_cases h1 : er = 0
      case neg =>
        have c1 : (er == 0) = false := beq_eq_false_iff_ne.2 h1
        have c2 : decide (er = 0) = false := decide_eq_false h1
        clear hstr hrem hrem2
        rw [if_neg (by simp [h1])] at HHT
        go_wp2_with (refine wpList_store_row rfl 44 (.tmp 5) (.tmp 20) rfl w3.heap.size #[.int .i64 g0, .int .i64 e0] rfl rfl 44 #[.int .i64 0, .int .i64 0] HNEW.out (by kernel_rfl) rfl (by simp [Value.oneCell']) ?_; rw [← HW4.out])
        exact ⟨⟨j + 1, by omega, by rw [show ((j + 1 : Nat) : Int) = (j : Int) + 1 by omega], ⟨by rw [HHT]; exact HG4.out⟩, HB4⟩, by simp [intOf]; omega⟩
      subst h1
      by_cases h2 : b0 = true
      case neg =>
        obtain rfl : b0 = false := by cases b0; rfl; exact absurd rfl h2
        clear hstr hrem hrem2
        rw [if_neg (by simp [h2])] at HHT
        go_wp2_with (refine wpList_store_row rfl 44 (.tmp 5) (.tmp 20) rfl w3.heap.size #[.int .i64 g0, .int .i64 e0] rfl rfl 44 #[.int .i64 0, .int .i64 0] HNEW.out (by kernel_rfl) rfl (by simp [Value.oneCell']) ?_; rw [← HW4.out])
        exact ⟨⟨j + 1, by omega, by rw [show ((j + 1 : Nat) : Int) = (j : Int) + 1 by omega], ⟨by rw [HHT]; exact HG4.out⟩, HB4⟩, by simp [intOf]; omega⟩
      subst h2
      by_cases h3 : dt = [1]
      case neg =>
        have s0 : ¬ (strOfNums dt).toList = [1] := fun q => h3 (HMI.out.1 q)
        have s1 := eq_false s0
        have s2 : ((strOfNums dt).toList == [1]) = false := beq_eq_false_iff_ne.2 s0
        clear hrem hrem2
        rw [if_neg (by simp [h3])] at HHT
        go_wp2_with (refine wpList_store_row rfl 44 (.tmp 5) (.tmp 20) rfl w3.heap.size #[.int .i64 g0, .int .i64 e0] rfl rfl 44 #[.int .i64 0, .int .i64 0] HNEW.out (by kernel_rfl) rfl (by simp [Value.oneCell']) ?_; rw [← HW4.out])
        exact ⟨⟨j + 1, by omega, by rw [show ((j + 1 : Nat) : Int) = (j : Int) + 1 by omega], ⟨by rw [HHT]; exact HG4.out⟩, HB4⟩, by simp [intOf]; omega⟩
      have s0 : (strOfNums dt).toList = [1] := HMI.out.2 h3
      have s1 := eq_true s0
      have s2 : ((strOfNums dt).toList == [1]) = true := beq_iff_eq.2 s0
      have HDT := Aside0.mk h3
      clear h3 s0
      by_cases h4 : g0 % 2 = (j : Int)
      case neg =>
        have c1 : (g0 % 2 == (j : Int)) = false := beq_eq_false_iff_ne.2 h4
        have c2 : decide (g0 % 2 = (j : Int)) = false := decide_eq_false h4
        have c3 := eq_false h4
        rw [if_neg (by simp [h4])] at HHT
        go_wp2_with (refine wpList_store_row rfl 44 (.tmp 5) (.tmp 20) rfl w3.heap.size #[.int .i64 g0, .int .i64 e0] rfl rfl 44 #[.int .i64 0, .int .i64 0] HNEW.out (by kernel_rfl) rfl (by simp [Value.oneCell']) ?_; rw [← HW4.out])
        exact ⟨⟨j + 1, by omega, by rw [show ((j + 1 : Nat) : Int) = (j : Int) + 1 by omega], ⟨by rw [HHT]; exact HG4.out⟩, HB4⟩, by simp [intOf]; omega⟩
      have c4 : (g0 % 2 == (j : Int)) = true := beq_iff_eq.2 h4
      have c5 := eq_true h4
      by_cases h5 : bg < g0
      case neg =>
        have c1 : decide (bg < g0) = false := decide_eq_false h5
        have c3 := eq_false h5
        rw [if_neg (by simp [h5])] at HHT
        go_wp2_with (refine wpList_store_row rfl 44 (.tmp 5) (.tmp 20) rfl w3.heap.size #[.int .i64 g0, .int .i64 e0] rfl rfl 44 #[.int .i64 0, .int .i64 0] HNEW.out (by kernel_rfl) rfl (by simp [Value.oneCell']) ?_; rw [← HW4.out])
        exact ⟨⟨j + 1, by omega, by rw [show ((j + 1 : Nat) : Int) = (j : Int) + 1 by omega], ⟨by rw [HHT]; exact HG4.out⟩, HB4⟩, by simp [intOf]; omega⟩
      have c6 : decide (bg < g0) = true := decide_eq_true h5
      have c7 := eq_true h5
      rw [if_pos ⟨rfl, rfl, HDT.out, h4, h5⟩] at HHT
      have HG5 := Aside0.mk (show HoldsRow (w4.setRow w.heap.size #[.int .i64 g0, .int .i64 e0]) w.heap.size 44 (stA (g0, e0)) from HG4.out.row _)
      have HB5 := Aside0.mk (Go.Proofs.Ythnjkmjcacoajaa.Arr.below_setRow (b := w.heap.size) HB4.out #[.int .i64 g0, .int .i64 e0] (Nat.le_refl _))
      go_wp2_with (first | (refine wpList_store_row rfl 44 (.tmp 5) (.tmp 20) rfl w3.heap.size #[.int .i64 g0, .int .i64 e0] rfl rfl 44 #[.int .i64 0, .int .i64 0] HNEW.out (by kernel_rfl) rfl (by simp [Value.oneCell']) ?_; rw [← HW4.out]) | (refine wpList_load_row rfl 44 (.tmp 5) rfl w3.heap.size rfl 44 #[.int .i64 g0, .int .i64 e0] (0, 0) _ HROW4.out Try.underlying44 rfl (by kernel_rfl) ?_) | (refine wpList_store_row rfl 44 (.tmp 2) (.tmp 48) rfl w.heap.size #[.int .i64 g0, .int .i64 e0] rfl rfl 44 (stA (bg, be)) HG4.out (by kernel_rfl) rfl (by simp [Value.oneCell']) ?_))
      exact ⟨⟨j + 1, by omega, by rw [show ((j + 1 : Nat) : Int) = (j : Int) + 1 by omega], ⟨by rw [HHT]; exact HG5.out⟩, HB5⟩, by simp [intOf]; omega⟩
    · obtain rfl : j = 2 := by omega
      have d1 : decide (((2 : Nat) : Int) < 2) = false := by decide
      have d2 : decide (2 < 2) = false := by decide
      obtain ⟨⟨bg, be⟩, hbest⟩ : ∃ q, q = headTo l 2 := ⟨_, rfl⟩
      have HEND := Aside0.mk (show headF l = (bg, be) from hbest.symm)
      rw [← hbest] at HG
      have HG5 := Aside0.mk (show HoldsRow (wr.setRow w.heap.size #[.int .i64 bg, .int .i64 be]) w.heap.size 44 (stA (bg, be)) from HG.out.row _)
      have HB5 := Aside0.mk (Go.Proofs.Ythnjkmjcacoajaa.Arr.below_setRow (b := w.heap.size) HB.out #[.int .i64 bg, .int .i64 be] (Nat.le_refl _))
      clear hbest
      go_wp2_with (first | (refine wpList_load_row rfl 44 (.tmp 2) rfl w.heap.size rfl 44 #[.int .i64 bg, .int .i64 be] (0, 0) _ HG.out Try.underlying44 rfl (by kernel_rfl) ?_) | (refine wpList_store_row rfl 44 (.tmp 2) (.tmp 50) rfl w.heap.size #[.int .i64 bg, .int .i64 be] rfl rfl 44 (stA (bg, be)) HG.out (by kernel_rfl) rfl (by simp [Value.oneCell']) ?_))
      rw [HEND.out]
      exact bodyPost_ret (results_cell_row (p := 2) (ty := 44) rfl _ _ w.heap.size 44 (stA (bg, be)) (0, 0) _ rfl HG5.out Try.underlying44 rfl (by kernel_rfl)) rfl ⟨rfl, HB5.out⟩
end Go.Proofs.Ythnjkmjcacoajaa.Jn
end

section
/- What scan takes: the plain law of its bounds. -/
namespace Go.Proofs.Ythnjkmjcacoajaa.Jn
open Go Go.RowKit Go.Proofs.YthnjkmjcacoajaaW.PrintWords Go.Proofs.YthnjkmjcacoajaaW.PrintLast Go.Proofs.YthnjkmjcacoajaaW.PrintMore Go.Proofs.Ythnjkmjcacoajaa.Base Go.Proofs.Ythnjkmjcacoajaa.Arr
open Go.Proofs.Ythnjkmjcacoajaa.Ext (readT scanR scanR_cons Sc appLast nextS badS appLast_len appLast_bound)
open Go.Proofs.Ythnjkmjcacoajaa.FrameLink (allR allR_len all_eq)
set_option linter.unusedVariables false
set_option linter.unusedSimpArgs false

/-- what the first j runs hold -/
def outTo (runs : List (List Int)) : Nat → Option (List (List Int))
  | 0 => some []
  | j + 1 => (outTo runs j).bind fun o => if (allR ((runs.getD j []).length + 1) (runs.getD j []) []).2.2 ≠ 0 then none else some (o ++ (allR ((runs.getD j []).length + 1) (runs.getD j []) []).1)
def scanQ (l : List (List Int)) (g e : Int) : List (List Int) × Int := scanR g l ⟨[], e, true⟩
def scanF (l : List (List Int)) (g e : Int) : Option (List (List Int)) := outTo (scanQ l g e).1 (scanQ l g e).1.length
theorem readT_len (r : List Int) : (readT r).2.2.2.1.length ≤ 47 := Ext.readT_err r
def RunOK (M : Nat) (l : List (List Int)) : Prop := ∀ r ∈ l, Ext.Bytes r ∧ r.length ≤ M
theorem appLast_ok {M : Nat} {l : List (List Int)} {d : List Int} (hl : RunOK M l) (hd : Ext.Bytes d) (hd2 : d.length ≤ 47) : RunOK (M + 47) (appLast l d) := by
  intro r hr
  unfold appLast at hr
  rcases List.mem_or_eq_of_mem_set hr with h | h
  · exact ⟨(hl r h).1, by have := (hl r h).2; omega⟩
  · subst h
    have hx : Ext.Bytes (l.getD (l.length - 1) []) ∧ (l.getD (l.length - 1) []).length ≤ M := by
      rw [List.getD_eq_getElem?_getD]
      cases hq : l[l.length - 1]? with
      | none => exact ⟨fun x hx => (by cases hx), Nat.zero_le _⟩
      | some y => exact hl y (List.mem_of_getElem? hq)
    refine ⟨fun x hx2 => ?_, by rw [List.length_append]; omega⟩
    rcases List.mem_append.1 hx2 with q | q
    · exact hx.1 x q
    · exact hd x q
theorem scanR_ok (g : Int) : ∀ (l : List (List Int)) (st : Sc) (M : Nat), (∀ r ∈ l, Ext.Bytes r) → RunOK M st.runs → RunOK (M + 47 * l.length) (scanR g l st).1 ∧ (scanR g l st).1.length ≤ st.runs.length + l.length
  | [], st, M, _, h => ⟨by simpa [scanR] using h, by simp [scanR]⟩
  | c :: cs, st, M, hb, h => by
    rw [scanR_cons]
    split
    · exact ⟨fun r hr => ⟨(h r hr).1, by have := (h r hr).2; omega⟩, Nat.le_add_right _ _⟩
    · have hd := readT_data_bytes (hb c (by simp))
      have hd2 := readT_len c
      have h2 : RunOK M (if (readT c).2.2.1 = true then st.runs ++ [[]] else st.runs) := by
        split
        · intro r hr
          rcases List.mem_append.1 hr with q | q
          · exact h r q
          · rw [List.mem_singleton.1 q]
            exact ⟨fun x hx => (by cases hx), Nat.zero_le _⟩
        · exact h
      have h3 : RunOK (M + 47) (nextS st (readT c)).runs := appLast_ok h2 hd hd2
      have h4 : (nextS st (readT c)).runs.length ≤ st.runs.length + 1 := by
        show (appLast _ _).length ≤ _
        rw [appLast_len]
        split
        · rw [List.length_append]; exact Nat.le_refl _
        · exact Nat.le_succ _
      have ih := scanR_ok g cs (nextS st (readT c)) (M + 47) (fun r hr => hb r (by simp [hr])) h3
      refine ⟨fun r hr => ⟨(ih.1 r hr).1, ?_⟩, ?_⟩
      · have := (ih.1 r hr).2
        rw [List.length_cons]
        omega
      · have := ih.2
        rw [List.length_cons]
        show (scanR g cs _).1.length ≤ _
        omega
theorem scanQ_ok {l : List (List Int)} (hb : ∀ r ∈ l, Ext.Bytes r) (g e : Int) : RunOK (47 * l.length) (scanQ l g e).1 ∧ (scanQ l g e).1.length ≤ l.length := by
  have := scanR_ok g l ⟨[], e, true⟩ 0 hb (fun r hr => by cases hr)
  simpa [scanQ] using this
theorem outTo_len (runs : List (List Int)) (M : Nat) (h : RunOK M runs) : ∀ (j : Nat) (o : List (List Int)), outTo runs j = some o → o.length ≤ j * M
  | 0, o, e => by cases e; simp
  | j + 1, o, e => by
    unfold outTo at e
    obtain ⟨o1, h1, h2⟩ := Option.bind_eq_some_iff.1 e
    split at h2
    · cases h2
    · cases h2
      have ih := outTo_len runs M h j o1 h1
      have hx : Ext.Bytes (runs.getD j []) ∧ (runs.getD j []).length ≤ M := by
        rw [List.getD_eq_getElem?_getD]
        cases hq : runs[j]? with
        | none => exact ⟨fun x hx => (by cases hx), Nat.zero_le _⟩
        | some y => exact h y (List.mem_of_getElem? hq)
      have h3 := (allR_len ((runs.getD j []).length + 1) (runs.getD j []) [] ((runs.getD j []).length + 1) hx.1 (Nat.lt_succ_self _) (fun z hz => by cases hz)).1
      rw [List.length_append, Nat.succ_mul]
      simp only [List.length_nil] at h3
      omega
end Go.Proofs.Ythnjkmjcacoajaa.Jn
end

section
/- scan of the journal, walked. Condition: a thousand sectors of bytes at most. -/
namespace Go.Proofs.Ythnjkmjcacoajaa.Jn
open Go Go.RowKit Go.Proofs.YthnjkmjcacoajaaW.PrintWords Go.Proofs.YthnjkmjcacoajaaW.PrintLast Go.Proofs.YthnjkmjcacoajaaW.PrintMore Go.Proofs.Ythnjkmjcacoajaa.Base Go.Proofs.Ythnjkmjcacoajaa.Arr
open Go.Proofs.Ythnjkmjcacoajaa.Ext (readT strip_Scan.f strip_Scan.calls)
open Go.Proofs.Ythnjkmjcacoajaa.FrameLink (allR allR_len all_eq)
set_option linter.unusedVariables false
set_option linter.unusedSimpArgs false

def scanE : Option (List (List Int)) → Int
  | none => 50
  | some _ => 0
theorem getD_ok {M : Nat} {l : List (List Int)} (h : RunOK M l) (j : Nat) : Ext.Bytes (l.getD j []) ∧ (l.getD j []).length ≤ M := by
  rw [List.getD_eq_getElem?_getD]
  cases hq : l[j]? with
  | none => exact ⟨fun x hx => (by cases hx), Nat.zero_le _⟩
  | some y => exact h y (List.mem_of_getElem? hq)
theorem outTo_none (runs : List (List Int)) (j : Nat) (h : outTo runs j = none) : ∀ n, j ≤ n → outTo runs n = none
  | 0, hn => by
    obtain rfl : j = 0 := by omega
    exact h
  | n + 1, hn => by
    by_cases e : j = n + 1
    · rw [← e]; exact h
    · show (outTo runs n).bind _ = none
      rw [outTo_none runs j h n (by omega)]
      rfl
set_option maxHeartbeats 4000000 in
set_option maxRecDepth 100000 in
theorem scan_calls (w : World) (g gj : Nat) (s : JS) (vw : Value) (hj : HoldsRow w gj 64 (jcells g s vw)) (A : Option Addr) (c : Nat) (l : List (List Int)) (gn ep : Int) (hr : (Kd.slice 5 (Kd.int .u8)).C w A l.length l) (hc : l.length ≤ c) (hb : Secs l) (hl : l.length ≤ 1000) :
    Calls Try.prog 45 #[.pointer (some ⟨gj, 0, none⟩), .slice A l.length c, .agg #[.int .i64 gn, .int .i64 ep]] w fun e w' => ∃ v, e = .returned (.tuple #[v, .int .i64 (scanE (scanF l gn ep))]) ∧ Below gj w w' ∧ Kept w w' (fun k => k = gj) ∧ w.heap.size ≤ w'.heap.size ∧
      ∀ out, scanF l gn ep = some out → Kd.R (Kd.slice 5 (Kd.int .u8)) 31 w' w.heap.size (fun _ => True) v out ∧ HoldsRow w' gj 64 (jcells g { s with used := (scanQ l gn ep).2, synced := out.length, count := out.length } vw) := by
  have hJ0 := Aside0.mk hj
  have HR := Aside0.mk hr
  have HC := Aside0.mk hc
  have hbs : ∀ r ∈ l, Ext.Bytes r := fun r hr => (hb r hr).2
  have HSC := Aside0.mk (show strip_Scan.f l gn ep = some ((scanQ l gn ep).1, (scanQ l gn ep).2) by
    unfold strip_Scan.f
    rw [if_pos ⟨Ext.rows_to hbs, by omega⟩]
    rfl)
  have HQ := Aside0.mk (scanQ_ok hbs gn ep)
  have HL := Aside0.mk hl
  have HF := Aside0.mk (show scanF l gn ep = outTo (scanQ l gn ep).1 (scanQ l gn ep).1.length from rfl)
  clear hr hc hb hbs hl hj
  obtain ⟨⟨runs, used⟩, hq⟩ : ∃ q, q = scanQ l gn ep := ⟨_, rfl⟩
  rw [← hq] at HSC HQ HF ⊢
  simp only at HSC HQ HF
  clear hq
  have HROW := Aside0.mk (HoldsRow.new w 44 #[.int .i64 gn, .int .i64 ep])
  have HB1 := Aside0.mk (below_alloc (Below.refl w.heap.size w) (.cells #[.int .i64 gn, .int .i64 ep] 44))
  go_enter Try.func45, Try.ntmps45
  go_wp2_with (refine wpList_load_row rfl 44 (.tmp 5) rfl w.heap.size rfl 44 #[.int .i64 gn, .int .i64 ep] (0, 0) _ HROW.out Try.underlying44 rfl (by kernel_rfl) ?_)
  refine (strip_Scan.calls A c l gn ep runs used _ (Kd.C_below HR.out HB1.out) HC.out HSC.out).mono ?_
  rintro e w2 ⟨v2, rfl, hs2, hb2⟩
  have hjl := hJ0.out.lt
  have hB2 : Below w.heap.size w w2 := HB1.out.trans (hb2.mono HB1.out.size)
  have hj2 := hJ0.out.below hB2 hjl
  have k3 := hj2.cell (j := 3) (v := .int .i64 s.used) rfl
  have z3 := hj2.free 3
  obtain ⟨A2, c2, rfl⟩ := Kd.S_slice hs2
  obtain ⟨w3, hw3⟩ : ∃ w3 : World, w3 = w2.setCell ⟨gj, 3, none⟩ (.int .i64 used) := ⟨_, rfl⟩
  have hj3 : HoldsRow w3 gj 64 (jcells g { s with used := used } vw) := by rw [hw3]; exact hj2.set 3 _
  have hr3 : Kd.R (Kd.slice 5 (Kd.int .u8)) 31 w3 w.heap.size (fun k => w.heap.size ≤ k) (.slice A2 runs.length c2) runs := by
    rw [hw3]
    exact Kd.R_far (Kd.R_mono (Kd.R_bound (Kd.R_lower (Kd.S_R hs2) HB1.out.size)) (fun k hk => hk.2.1)) (p := ⟨gj, 3, none⟩) (fun k hk => by show k ≠ gj; omega) _
  have hB3 : Below gj w w3 := by rw [hw3]; exact (hB2.mono (Nat.le_of_lt hjl)).setCell (show gj ≤ (⟨gj, 3, none⟩ : Addr).block from Nat.le_refl _) _
  have hK3 : Kept w w3 (fun k => k = gj) := by rw [hw3]; exact Kept.setCell (S := fun k => k = gj) (Kept.of_below hB2 _) (p := ⟨gj, 3, none⟩) (.inl rfl) _
  have HS3 := Aside0.mk (show w.heap.size ≤ w3.heap.size from hK3.1)
  have HJ3 := Aside0.mk hj3
  have HR3 := Aside0.mk (Kd.R_reads' hr3)
  have HB3 := Aside0.mk hB3
  have HK3 := Aside0.mk hK3
  have HW3 := Aside0.mk hw3
  have HGL := Aside0.mk hjl
  clear hs2 hb2 hB2 hj2 hw3 hj3 hr3 hB3 hK3 hjl HR HC HSC HROW HB1 hJ0
  go_wp2_with fail
  rw [← HW3.out]
  clear k3 z3
  go_loopw [6, 25] (fun v i wr => ∃ (j : Nat) (o : List (List Int)), j ≤ runs.length ∧ i = .int .i64 (j : Nat) ∧ Aside0 (outTo runs j = some o) ∧ Aside0 (Kd.R (Kd.slice 5 (Kd.int .u8)) 31 wr w3.heap.size (fun _ => True) v o) ∧ Aside0 (Below w3.heap.size w3 wr)) (fun _ i _ => runs.length + 1 - (intOf i).toNat)
  case atStart => exact ⟨0, [], by omega, rfl, ⟨rfl⟩, ⟨Kd.R_nil _ _ _ _ _⟩, ⟨Below.refl _ _⟩⟩
  case round =>
    obtain ⟨j, o, hj, rfl, HO, HRO, HB⟩ := hrel
    have hrl : runs.length ≤ 1000 := by have := HQ.out.2; have := HL.out; omega
    by_cases hlt : j < runs.length
    · have d1 : decide ((j : Int) < (runs.length : Int)) = true := decide_eq_true (by omega)
      have d2 : decide (j < runs.length) = true := decide_eq_true hlt
      have hx := List.getElem?_eq_getElem hlt
      obtain ⟨r, hr⟩ : ∃ r, r = runs[j] := ⟨_, rfl⟩
      rw [← hr] at hx
      obtain ⟨ad, A4, c4, rfl, K1, hc4, hC4⟩ := row_elem (w := wr) (Kd.C_below HR3.out.2.2 HB.out) hx
      have hok := getD_ok HQ.out.1 j
      rw [getD_at hx] at hok
      have hrm : r.length ≤ 47000 := by have := hok.2; have := HL.out; omega
      have HALL := Aside0.mk (all_eq hok.1 (by omega))
      have HOS := Aside0.mk (show outTo runs (j + 1) = if (allR (r.length + 1) r []).2.2 ≠ 0 then none else some (o ++ (allR (r.length + 1) r []).1) by
        show (outTo runs j).bind _ = _
        rw [HO.out, Option.bind_some, getD_at hx])
      have HOL := Aside0.mk (outTo_len runs (47 * l.length) HQ.out.1 j o HO.out)
      have HAL := Aside0.mk (allR_len (r.length + 1) r [] (r.length + 1) hok.1 (Nat.lt_succ_self _) (fun z hz => by cases hz)).1
      have HRM := Aside0.mk hrm
      have i1 := eq_true (show (0 : Int) ≤ (j : Int) by omega)
      have i2 := eq_true (show (j : Int) < (runs.length : Int) by omega)
      obtain ⟨⟨ps, lf, er⟩, hq⟩ : ∃ q, q = allR (r.length + 1) r [] := ⟨_, rfl⟩
      rw [← hq] at HALL HOS HAL
      simp only at HALL HOS HAL
      clear hx hr hok hrm hq
      go_wp2_with fail
      refine (Fr.frame_All.calls A4 c4 r ps lf er wr hC4 hc4 HALL.out).mono ?_
      rintro e w4 ⟨v4, rfl, h4, b4⟩
      by_cases her : er = 0
      · subst her
        rw [if_neg (by simp)] at HOS
        have hle := HB.out.size
        have hlt6 := Kd.R_lt HRO.out
        have h5 := Kd.R_mono (ok' := fun k => wr.heap.size ≤ k) (Kd.R_lower (Kd.R_bound (Kd.S_R h4)) hle) (fun k hk => hk.2.1)
        obtain ⟨A5, c5, e5, hl5, hrd5⟩ := OwnRow.reads h5.2
        subst e5
        have HRD5 := Aside0.mk hrd5
        have HOKP := Aside0.mk (fun (k : Nat) (hk : wr.heap.size ≤ k ∧ some k ≠ (Value.slice A5 ps.length c5).ownBlock) => (And.intro trivial (fun e => by have := hlt6 k e.symm; omega) : True ∧ some k ≠ u6.ownBlock))
        have HRO4 := Aside0.mk (Kd.R_below HRO.out b4)
        have HB4 := Aside0.mk (HB.out.trans (b4.mono hle))
        have HLEN := Aside0.mk (show (o.length + ps.length) * 24 ≤ 140737488355328 by
          have h1 := HOL.out
          have h2 := HAL.out
          have h3 := HRM.out
          have h6 := HL.out
          simp only [List.length_nil] at h2
          have : j * (47 * l.length) ≤ 1000 * 47000 := Nat.mul_le_mul (by omega) (by omega)
          omega)
        clear h4 b4 hle hlt6 h5 hl5 hrd5 HRO HB K1 hC4
        go_wp2_with (first | ((with_reducible refine gate_builtin (b := .append) (xs := #[.tmp 37, .tmp 38]) rfl ?_); at_builtin; refine Kd.R_append_rows (Kd.slice 5 (Kd.int .u8)) (w0 := w3) w3.heap.size rfl (.tmp 37) (.tmp 38) 37 31 (.slice none 0 0) 24 rfl Try.underlying37 infoRow rfl (by decide) (by decide) u6 o ps A5 ps.length c5 (fun _ => True) (fun k => wr.heap.size ≤ k ∧ some k ≠ (Value.slice A5 ps.length c5).ownBlock) rfl rfl HRO4.out HRD5.out (fun _ _ h => h) HOKP.out (fun _ _ => trivial) HB4.out HB4.out.size HLEN.out ?_; intro v5 w5 ho hb hg hat; have HRO5 := Aside0.mk ho; have HB5 := Aside0.mk hb; clear ho hb hg hat))
        exact ⟨⟨j + 1, o ++ ps, by omega, by rw [show ((j + 1 : Nat) : Int) = (j : Int) + 1 by omega], HOS, HRO5, HB5⟩, by simp [intOf]; omega⟩
      · have b1 : (er != 0) = true := bne_iff_ne.2 her
        have b2 : (er == 0) = false := beq_eq_false_iff_ne.2 her
        have b3 : decide (er = 0) = false := decide_eq_false her
        rw [if_pos her] at HOS
        have HN := Aside0.mk (show scanF l gn ep = none by rw [HF.out]; exact outTo_none runs (j + 1) HOS.out runs.length (by omega))
        have HB4 := Aside0.mk (HB.out.trans (b4.mono HB.out.size))
        clear h4 b4 K1 hC4
        go_wp2_with fail
        go_ret2
        rw [HN.out]
        exact ⟨_, rfl, HB3.out.trans (HB4.out.mono (by have := HS3.out; have := HGL.out; omega)), HK3.out.below HB4.out, Nat.le_trans HS3.out HB4.out.size, fun out h => (by cases h)⟩
    · obtain rfl : j = runs.length := by omega
      have d1 : decide ((runs.length : Int) < (runs.length : Int)) = false := by simp
      have d2 : decide (runs.length < runs.length) = false := by simp
      have hjr := HJ3.out.below HB.out HJ3.out.lt
      have K4 := hjr.cell (j := 4) (v := .int .i64 s.synced) rfl
      have K5 := hjr.cell (j := 5) (v := .int .i64 s.count) rfl
      have Z4 := hjr.free 4
      have Z5 := hjr.free 5
      obtain ⟨A6, c6, rfl⟩ := Kd.R_slice HRO.out
      have HSF := Aside0.mk (show scanF l gn ep = some o by rw [HF.out]; exact HO.out)
      obtain ⟨wf, hwf⟩ : ∃ wf : World, wf = (wr.setCell ⟨gj, 4, none⟩ (.int .i64 (o.length : Int))).setCell ⟨gj, 5, none⟩ (.int .i64 (o.length : Int)) := ⟨_, rfl⟩
      have hjf : HoldsRow wf gj 64 (jcells g { s with used := used, synced := (o.length : Int), count := (o.length : Int) } vw) := by
        rw [hwf]
        exact (hjr.set 4 (.int .i64 (o.length : Int))).set 5 (.int .i64 (o.length : Int))
      have hgl := HGL.out
      have hs3 := HS3.out
      have hrf : Kd.R (Kd.slice 5 (Kd.int .u8)) 31 wf w.heap.size (fun _ => True) (.slice A6 o.length c6) o := by
        rw [hwf]
        have h1 := Kd.R_mono (ok' := fun k => w3.heap.size ≤ k) (Kd.R_lower (Kd.R_bound HRO.out) hs3) (fun k hk => hk.2.1)
        have h2 := Kd.R_far h1 (p := ⟨gj, 4, none⟩) (fun k hk => by show k ≠ gj; omega) (.int .i64 (o.length : Int))
        exact Kd.R_mono (Kd.R_far h2 (p := ⟨gj, 5, none⟩) (fun k hk => by show k ≠ gj; omega) (.int .i64 (o.length : Int))) (fun _ _ => trivial)
      have hBf : Below gj w wf := by
        rw [hwf]
        exact ((HB3.out.trans (HB.out.mono (by omega))).setCell (show gj ≤ (⟨gj, 4, none⟩ : Addr).block from Nat.le_refl _) _).setCell (show gj ≤ (⟨gj, 5, none⟩ : Addr).block from Nat.le_refl _) _
      have hKf : Kept w wf (fun k => k = gj) := by
        rw [hwf]
        exact Kept.setCell (S := fun k => k = gj) (Kept.setCell (S := fun k => k = gj) (HK3.out.below HB.out) (p := ⟨gj, 4, none⟩) (.inl rfl) _) (p := ⟨gj, 5, none⟩) (.inl rfl) _
      have HJF := Aside0.mk hjf
      have HRF := Aside0.mk hrf
      have HBF := Aside0.mk hBf
      have HKF := Aside0.mk hKf
      have HWF := Aside0.mk hwf
      clear hjr hgl hs3 hjf hrf hBf hKf hwf HRO HB HO
      go_wp2_with fail
      rw [← HWF.out]
      go_ret2
      rw [HSF.out]
      exact ⟨_, rfl, HBF.out, HKF.out, HKF.out.1, fun out h => by cases h; exact ⟨HRF.out, HJF.out⟩⟩
end Go.Proofs.Ythnjkmjcacoajaa.Jn
end

section
/- Open of the journal, walked. Conditions: sectors of bytes; half a million waiting writes at most. -/
namespace Go.Proofs.Ythnjkmjcacoajaa.Jn
open Go Go.RowKit Go.Proofs.YthnjkmjcacoajaaW.PrintWords Go.Proofs.YthnjkmjcacoajaaW.PrintLast Go.Proofs.YthnjkmjcacoajaaW.PrintMore Go.Proofs.Ythnjkmjcacoajaa.Base Go.Proofs.Ythnjkmjcacoajaa.Arr
open Go.Proofs.Ythnjkmjcacoajaa.Dk (DS DiskIs DiskTo writeF flushF)
open Go.Proofs.Ythnjkmjcacoajaa.Ext (goodS)
set_option linter.unusedVariables false
set_option linter.unusedSimpArgs false

def newJ (e : Int) : JS := ⟨1, e, 0, 0, 0, [], false⟩
def areaF (l : List (List Int)) (n : Nat) (gen : Int) : List (List Int) := (l.drop (firstN n gen).toNat).take (secN n).toNat
/-- what Open answers: the error; the disk then; a journal, and what it holds -/
def openF (d : DS) : Int × DS × Option (JS × List (List Int)) :=
  if d.dead = true then (30, d, none)
  else if d.n < 6 then (2, d, none)
  else if epochF (rowsD d) + 1 > 4294967295 then (50, d, none)
  else if (headF (rowsD d)).1 = 0 then
    if (layF d (newJ (epochF (rowsD d) + 1)) 1 1 [1]).1 ≠ 0 then ((layF d (newJ (epochF (rowsD d) + 1)) 1 1 [1]).1, (layF d (newJ (epochF (rowsD d) + 1)) 1 1 [1]).2.1, none)
    else (0, (layF d (newJ (epochF (rowsD d) + 1)) 1 1 [1]).2.1, some ((layF d (newJ (epochF (rowsD d) + 1)) 1 1 [1]).2.2, []))
  else match scanF (areaF (rowsD d) d.n (headF (rowsD d)).1) (headF (rowsD d)).1 (headF (rowsD d)).2 with
    | none => (50, d, none)
    | some out => (0, d, some (⟨(headF (rowsD d)).1, epochF (rowsD d) + 1, (scanQ (areaF (rowsD d) d.n (headF (rowsD d)).1) (headF (rowsD d)).1 (headF (rowsD d)).2).2, out.length, out.length, [], false⟩, out))
def OpenPost (w : World) (H : Nat) (ok : Nat → Prop) (g : Nat) (e : Ending) (w' : World) : Int × DS × Option (JS × List (List Int)) → Prop
  | (er, d', none) => e = .returned (.tuple #[.pointer none, .slice none 0 0, .int .i64 er]) ∧ DiskTo w w' H ok g d'
  | (er, d', some (s, out)) => ∃ gj v, e = .returned (.tuple #[.pointer (some ⟨gj, 0, none⟩), v, .int .i64 er]) ∧ Below H w w' ∧ Kept w w' ok ∧ ∃ ok' : Nat → Prop, (∀ k, ok' k → (ok k ∨ w.heap.size ≤ k) ∧ k < w'.heap.size) ∧ JD w' H ok' g gj d' s ∧ Kd.R (Kd.slice 5 (Kd.int .u8)) 31 w' w.heap.size (fun k => ¬ ok' k) v out
theorem epF_range (b : List Int) : 0 ≤ epF b ∧ epF b ≤ 4294967295 := by unfold epF; omega
theorem epochF_range (l : List (List Int)) : 0 ≤ epochF l ∧ epochF l ≤ 4294967295 := by
  have : ∀ (l : List (List Int)) (t : Int), 0 ≤ t ∧ t ≤ 4294967295 → 0 ≤ l.foldl (fun t b => if t < epF b then epF b else t) t ∧ l.foldl (fun t b => if t < epF b then epF b else t) t ≤ 4294967295 := by
    intro l
    induction l with
    | nil => intro t h; exact h
    | cons b l ih =>
      intro t h
      refine ih _ ?_
      show 0 ≤ (if t < epF b then epF b else t) ∧ (if t < epF b then epF b else t) ≤ 4294967295
      split
      · exact epF_range b
      · exact h
  exact this l 0 ⟨by decide, by decide⟩
theorem headStep_range (i : Nat) (r : List Int) (b : Int × Int) (hb : (0 ≤ b.1 ∧ b.1 ≤ 4294967295) ∧ (0 ≤ b.2 ∧ b.2 ≤ 4294967295)) (hr : Ext.Bytes r) : (0 ≤ (headStep i r b).1 ∧ (headStep i r b).1 ≤ 4294967295) ∧ (0 ≤ (headStep i r b).2 ∧ (headStep i r b).2 ≤ 4294967295) := by
  unfold headStep
  split
  · show (0 ≤ (Ext.readT r).1 ∧ (Ext.readT r).1 ≤ 4294967295) ∧ (0 ≤ (Ext.readT r).2.1 ∧ (Ext.readT r).2.1 ≤ 4294967295)
    unfold Ext.readT
    split
    · exact ⟨⟨by decide, by decide⟩, by decide, by decide⟩
    · split
      · show ((0 : Int) ≤ 0 ∧ (0 : Int) ≤ 4294967295) ∧ ((0 : Int) ≤ 0 ∧ (0 : Int) ≤ 4294967295)
        exact ⟨⟨by decide, by decide⟩, by decide, by decide⟩
      · rename_i h1 h2
        have hlt : Ext.stampV r < 18446744073709551616 := by
          have h3 : Ext.Bytes (r.take 8) := fun x hx => hr x (List.mem_of_mem_take hx)
          exact Ext.val_lt h3 8
        show (0 ≤ (Ext.stampV r : Int) / 4294967296 ∧ (Ext.stampV r : Int) / 4294967296 ≤ 4294967295) ∧ (0 ≤ (Ext.stampV r : Int) % 4294967296 ∧ (Ext.stampV r : Int) % 4294967296 ≤ 4294967295)
        omega
  · exact hb
theorem headF_range (l : List (List Int)) (h : Secs l) : (0 ≤ (headF l).1 ∧ (headF l).1 ≤ 4294967295) ∧ (0 ≤ (headF l).2 ∧ (headF l).2 ≤ 4294967295) := by
  have hg : ∀ j, Ext.Bytes (l.getD j []) := fun j => by
    rw [List.getD_eq_getElem?_getD]
    cases hq : l[j]? with
    | none => intro x hx; cases hx
    | some y => exact (h y (List.mem_of_getElem? hq)).2
  have h1 := headStep_range 0 (l.getD 0 []) (0, 0) ⟨⟨by decide, by decide⟩, by decide, by decide⟩ (hg 0)
  exact headStep_range 1 (l.getD 1 []) _ h1 (hg 1)
theorem area_nums (n : Nat) (hg : Int) (hn : 6 ≤ n ∧ n ≤ 512) : ∃ fr sc : Nat, firstN n hg = (fr : Int) ∧ secN n = (sc : Int) ∧ fr + sc ≤ n ∧ sc ≤ 255 := by
  have hm : hg % 2 = 0 ∨ hg % 2 = 1 := by omega
  rcases hm with h | h
  · exact ⟨2, (n - 2) / 2, by unfold firstN; rw [h]; simp, rfl, by omega, by omega⟩
  · refine ⟨2 + (n - 2) / 2, (n - 2) / 2, ?_, rfl, by omega, by omega⟩
    unfold firstN secN
    rw [h]
    omega
theorem area_take (rows : List (List Int)) (n : Nat) (hg : Int) (fr sc : Nat) (h1 : firstN n hg = (fr : Int)) (h2 : secN n = (sc : Int)) : areaF rows n hg = (rows.drop fr).take sc := by unfold areaF; rw [h1, h2, Int.toNat_natCast, Int.toNat_natCast]
theorem cut_nums (fr sc m c1 : Nat) (h : fr + sc ≤ m) (hm : m ≤ 512) (hc : m ≤ c1) : (0 : Int) ≤ (fr : Int) ∧ (fr : Int) ≤ ((fr + sc : Nat) : Int) ∧ ((fr + sc : Nat) : Int) ≤ (m : Int) ∧ (fr + sc) - fr = sc ∧ wrap64 ((fr : Int) + (sc : Int)) = ((fr + sc : Nat) : Int) ∧ sc ≤ c1 - fr ∧ fr ≤ m ∧ sc ≤ m - fr := by
  refine ⟨by omega, by omega, by omega, by omega, by unfold wrap64; omega, by omega, by omega, by omega⟩
theorem area_cut (rows : List (List Int)) (n : Nat) (hg : Int) (A1 : Option Addr) (c1 : Nat) (hl : rows.length = n) (hn : 6 ≤ n ∧ n ≤ 512) (hc : rows.length ≤ c1) (hb : Secs rows) :
    ∃ (fr sc : Nat) (A2 : Option Addr), firstN n hg = (fr : Int) ∧ secN n = (sc : Int) ∧ (areaF rows n hg).length = sc ∧ sc ≤ 255 ∧ sc ≤ c1 - fr ∧ Secs (areaF rows n hg) ∧
      (∀ W : World, (Instr.slice 37 (.slice A1 rows.length c1) (some (.int .i64 (fr : Int))) (some (.int .i64 (wrap64 ((fr : Int) + (sc : Int))))) none).run Try.prog W = .ok (.slice A2 sc (c1 - fr)) W) ∧
      ∀ w : World, (Kd.slice 5 (Kd.int .u8)).C w A1 rows.length rows → (Kd.slice 5 (Kd.int .u8)).C w A2 (areaF rows n hg).length (areaF rows n hg) := by
  obtain ⟨fr, sc, h1, h2, h3, h4⟩ := area_nums n hg hn
  rw [area_take rows n hg fr sc h1 h2]
  obtain ⟨i0, hi0, _, hsz0, _⟩ := info_parts infoRow
  obtain ⟨q1, q2, q3, q4, q5, q6, q7, q8⟩ := cut_nums fr sc rows.length c1 (by rw [hl]; exact h3) (by rw [hl]; exact hn.2) hc
  have hcut := cut_mid (P := Try.prog) 37 31 .i64 .i64 Try.underlying37 hi0 1 hsz0 A1 rows.length c1 (fr : Int) (((fr + sc : Nat) : Int)) q1 q2 q3 hc
  rw [Int.toNat_natCast, Int.toNat_natCast, q4] at hcut
  refine ⟨fr, sc, (if c1 = fr then A1 else A1.map (·.add (fr * 1))), h1, h2, ?_, h4, q6, fun r hr => hb r (List.mem_of_mem_drop (List.mem_of_mem_take hr)), fun W => ?_, fun w hC => ?_⟩
  · rw [List.length_take, List.length_drop]
    exact Nat.min_eq_left q8
  · rw [q5]
    exact hcut W
  · exact Kd.C_take (Kd.C_drop (m := fr) (c := c1) hC q7 hc) (by rw [List.length_drop]; exact q8)
theorem disk_to_below {w w' : World} {H : Nat} {ok : Nat → Prop} {g : Nat} {d : DS} (h : DiskIs w H ok g d) (hok : ∀ k, ok k → k < w.heap.size) (hH : H ≤ w.heap.size) (hb : Below w.heap.size w w') : DiskTo w w' H ok g d :=
  ⟨hb.mono hH, Kept.of_below hb _, ok, fun k hk => ⟨.inl hk, Nat.lt_of_lt_of_le (hok k hk) hb.size⟩, Dk.DiskIs.below h hb⟩
theorem new_JD {w wj : World} {H : Nat} {ok : Nat → Prop} {g gj : Nat} {d : DS} {s : JS} (h : DiskIs w H ok g d) (hok : ∀ k, ok k → k < w.heap.size) (hH : H ≤ w.heap.size) (hb : Below w.heap.size w wj) (hj : HoldsRow wj gj 64 (jcells g s (.slice none 0 0))) (hs : s.waits = []) (hgj : w.heap.size ≤ gj) : JD wj H (fun k => ok k ∨ k = gj) g gj d s := by
  refine ⟨ok, fun k => k = gj, Dk.DiskIs.below h hb, ⟨.slice none 0 0, hj, by rw [hs]; exact Kd.R_nil _ _ _ _ _, rfl, Nat.le_trans hH hgj⟩, fun k hk => ⟨.inl hk, Nat.lt_of_lt_of_le (hok k hk) hb.size⟩, fun k hk => ⟨.inr hk, by rw [hk]; exact hj.lt⟩, fun k hk e => ?_, Nat.le_trans hH hb.size⟩
  have := hok k hk
  omega
theorem new_to {w w7 w8 : World} {H : Nat} {ok : Nat → Prop} {g gj : Nat} {d' : DS} {s' : JS} (hH : H ≤ w.heap.size) (hb : Below w.heap.size w w7) (hgj : w.heap.size ≤ gj) (h : JTo w7 w8 H (fun k => ok k ∨ k = gj) g gj d' s') :
    Below H w w8 ∧ Kept w w8 ok ∧ ∃ ok' : Nat → Prop, (∀ k, ok' k → (ok k ∨ w.heap.size ≤ k) ∧ k < w8.heap.size) ∧ JD w8 H ok' g gj d' s' := by
  obtain ⟨h1, h2, ok', h3, h4⟩ := h
  refine ⟨(hb.mono hH).trans h1, (Kept.of_below hb ok).then_ h2 (fun k hk => hk.elim .inl (fun e => .inr (by omega))), ok', fun k hk => ⟨?_, (h3 k hk).2⟩, h4⟩
  rcases (h3 k hk).1 with (q | q) | q
  · exact .inl q
  · exact .inr (by omega)
  · exact .inr (Nat.le_trans hb.size q)
theorem new_disk {w w8 : World} {H : Nat} {ok : Nat → Prop} {g gj : Nat} {d' : DS} {s' : JS} (h : Below H w w8 ∧ Kept w w8 ok ∧ ∃ ok' : Nat → Prop, (∀ k, ok' k → (ok k ∨ w.heap.size ≤ k) ∧ k < w8.heap.size) ∧ JD w8 H ok' g gj d' s') : DiskTo w w8 H ok g d' := by
  obtain ⟨h1, h2, ok', h3, okd, okj, h4, _, h5, _⟩ := h
  exact ⟨h1, h2, okd, fun k hk => h3 k (h5 k hk).1, h4⟩
set_option maxHeartbeats 4000000 in
set_option maxRecDepth 100000 in
theorem Open_calls (w : World) (H : Nat) (ok : Nat → Prop) (g : Nat) (d : DS) (h : DiskIs w H ok g d) (hok : ∀ k, ok k → k < w.heap.size) (hH : H ≤ w.heap.size) (hb : Secs (rowsD d)) (hw : d.waits.length ≤ 500000) :
    Calls Try.prog 22 #[.pointer (some ⟨g, 0, none⟩)] w fun e w' => OpenPost w H ok g e w' (openF d) := by
  have HD := Aside0.mk h
  obtain ⟨n1, n2⟩ := DiskIs.n_le h
  have HOK := Aside0.mk hok
  have HH := Aside0.mk hH
  have HBY := Aside0.mk hb
  have HW := Aside0.mk hw
  have hN0 : ((d.n : Int) == 0) = false := beq_eq_false_iff_ne.2 (by omega)
  have hN1 : (d.n == 0) = false := beq_eq_false_iff_ne.2 (by omega)
  have hN2 : decide ((d.n : Int) = 0) = false := decide_eq_false (by omega)
  have hN3 : decide (d.n = 0) = false := decide_eq_false (by omega)
  clear h hok hH hb hw
  by_cases hdd : d.dead = true
  · have HE := Aside0.mk (show openF d = (30, d, none) from if_pos hdd)
    have HDE := Aside0.mk hdd
    clear hdd n1 n2
    go_enter Try.func22, Try.ntmps22
    go_wp2_with fail
    refine (Size_calls w H ok g d HD.out).mono ?_
    rintro e w1 ⟨rfl, rfl⟩
    go_wp2_with fail
    refine (Dk.Dead_calls w H ok g d HD.out).mono ?_
    rintro e w1 ⟨rfl, rfl⟩
    rw [HDE.out]
    go_wp2_with fail
    go_ret3
    rw [HE.out]
    exact ⟨rfl, DiskTo.same HD.out⟩
  have hE1 : openF d = _ := if_neg hdd
  have hdf : d.dead = false := by cases hx : d.dead; rfl; exact absurd hx hdd
  have HDE := Aside0.mk hdf
  clear hdd hdf
  by_cases hn6 : d.n < 6
  · rw [if_pos hn6] at hE1
    have HE := Aside0.mk hE1
    have d1 : decide ((d.n : Int) < 6) = true := decide_eq_true (by omega)
    have d2 : decide (d.n < 6) = true := decide_eq_true hn6
    clear hE1 n1 n2 hn6
    go_enter Try.func22, Try.ntmps22
    go_wp2_with fail
    refine (Size_calls w H ok g d HD.out).mono ?_
    rintro e w1 ⟨rfl, rfl⟩
    go_wp2_with fail
    refine (Dk.Dead_calls w H ok g d HD.out).mono ?_
    rintro e w1 ⟨rfl, rfl⟩
    rw [HDE.out]
    go_wp2_with fail
    go_ret3
    rw [HE.out]
    exact ⟨rfl, DiskTo.same HD.out⟩
  rw [if_neg hn6] at hE1
  have d1 : decide ((d.n : Int) < 6) = false := decide_eq_false (by omega)
  have d2 : decide (d.n < 6) = false := decide_eq_false hn6
  have HN := Aside0.mk (show 6 ≤ d.n ∧ d.n ≤ 512 by omega)
  have HLR := Aside0.mk (show (rowsD d).length = d.n from rowsTo_len d d.n)
  clear hn6 n1 n2
  go_enter Try.func22, Try.ntmps22
  go_wp2_with fail
  refine (Size_calls w H ok g d HD.out).mono ?_
  rintro e w1 ⟨rfl, rfl⟩
  go_wp2_with fail
  refine (Dk.Dead_calls w H ok g d HD.out).mono ?_
  rintro e w1 ⟨rfl, rfl⟩
  rw [HDE.out]
  go_wp2_with fail
  refine (read_calls w H ok g d HD.out HDE.out).mono ?_
  rintro e w2 ⟨v2, rfl, hs2, hb2⟩
  obtain ⟨rows, hrows⟩ : ∃ l, l = rowsD d := ⟨_, rfl⟩
  rw [← hrows] at hs2 HLR HBY hE1
  clear hrows
  obtain ⟨A1, c1, rfl⟩ := Kd.S_slice hs2
  obtain ⟨_, hc1, hC1⟩ := Kd.S_reads' hs2
  have hC1' : (Kd.slice 5 (Kd.int .u8)).C w2 A1 rows.length rows := hC1
  have HB2 := Aside0.mk hb2
  have HR2 := Aside0.mk hC1'
  have HC2 := Aside0.mk hc1
  clear hs2 hb2 hC1 hC1' hc1 hN0 hN1 hN2 hN3 d1 d2
  go_wp2_with fail
  refine (epoch_calls w2 A1 c1 rows HR2.out HC2.out HBY.out (by have := HLR.out; have := HN.out; omega)).mono ?_
  rintro e w3 ⟨rfl, hb3⟩
  have HB3 := Aside0.mk (HB2.out.trans (hb3.mono HB2.out.size))
  have HR3 := Aside0.mk (Kd.C_below HR2.out hb3)
  have HER := Aside0.mk (epochF_range rows)
  obtain ⟨ep, hep⟩ : ∃ q, q = epochF rows := ⟨_, rfl⟩
  rw [← hep] at HER hE1 ⊢
  have her := HER.out
  have e1 : wrap64 (ep + 1) = ep + 1 := by unfold wrap64; omega
  clear hb3 HR2 hep her
  obtain ⟨w4, hw4⟩ : ∃ w4 : World, w4 = w3.alloc (.cells #[.pointer (some ⟨g, 0, none⟩), .int .i64 1, .int .i64 (ep + 1), .int .i64 0, .int .i64 0, .int .i64 0, .slice none 0 0, .bool false] 64) := ⟨_, rfl⟩
  have hj4 : HoldsRow w4 w3.heap.size 64 (jcells g (newJ (ep + 1)) (.slice none 0 0)) := by rw [hw4]; exact HoldsRow.new _ _ _
  have hb4 : Below w3.heap.size w3 w4 := by rw [hw4]; exact below_alloc (Below.refl _ _) _
  have HB4 := Aside0.mk (HB3.out.trans (hb4.mono HB3.out.size))
  have HR4 := Aside0.mk (Kd.C_below HR3.out hb4)
  have HJ4 := Aside0.mk hj4
  have HW4 := Aside0.mk hw4
  have HGJ := Aside0.mk HB3.out.size
  have HB34 := Aside0.mk hb4
  have HR3' := HR3
  clear hw4 hj4 hb4 HR3
  by_cases hm : ep + 1 > 4294967295
  · rw [if_pos hm] at hE1
    have HE := Aside0.mk hE1
    have d1 : decide (4294967295 < ep + 1) = true := decide_eq_true hm
    have p1 := eq_true (show 4294967295 < ep + 1 from hm)
    have p2 := eq_false (show ¬ ep + 1 ≤ 4294967295 by omega)
    clear hE1 hm
    go_wp2_with fail
    rw [← HW4.out]
    go_ret3
    rw [HE.out]
    exact ⟨rfl, disk_to_below HD.out HOK.out HH.out HB4.out⟩
  rw [if_neg hm] at hE1
  have d1 : decide (4294967295 < ep + 1) = false := decide_eq_false (by omega)
  have p1 := eq_false (show ¬ 4294967295 < ep + 1 by omega)
  have p2 := eq_true (show ep + 1 ≤ 4294967295 by omega)
  have HEP := Aside0.mk (show 0 ≤ ep + 1 ∧ ep + 1 < 4294967296 by have := HER.out; omega)
  clear hm
  go_wp2_with fail
  rw [← HW4.out]
  refine (head_calls w4 A1 c1 rows HR4.out HC2.out HBY.out (by have := HLR.out; have := HN.out; omega) (by have := HLR.out; have := HN.out; omega)).mono ?_
  rintro e w5 ⟨rfl, hb5⟩
  have HHR := Aside0.mk (headF_range rows HBY.out)
  obtain ⟨⟨hg, he⟩, hq⟩ : ∃ q, q = headF rows := ⟨_, rfl⟩
  rw [← hq] at HHR hE1 ⊢
  simp only at HHR hE1
  have HB5 := Aside0.mk (HB4.out.trans (hb5.mono HB4.out.size))
  have HJ5 := HJ4.out.below hb5 HJ4.out.lt
  have HNEW := Aside0.mk (HoldsRow.new w5 44 #[.int .i64 0, .int .i64 0])
  have hbw : Below w5.heap.size w5 ((w5.alloc (.cells #[.int .i64 0, .int .i64 0] 44)).setRow w5.heap.size (stA (hg, he))) := Go.Proofs.Ythnjkmjcacoajaa.Arr.below_setRow (b := w5.heap.size) (below_alloc (Below.refl _ _) _) _ (Nat.le_refl _)
  obtain ⟨w6, hw6⟩ : ∃ w6 : World, w6 = (w5.alloc (.cells #[.int .i64 0, .int .i64 0] 44)).setRow w5.heap.size (stA (hg, he)) := ⟨_, rfl⟩
  have hrow6 : HoldsRow w6 w5.heap.size 44 (stA (hg, he)) := by rw [hw6]; exact HNEW.out.row _
  rw [← hw6] at hbw
  have K6 := hrow6.cell (j := 0) (v := .int .i64 hg) rfl
  have HJ6 := Aside0.mk (HJ5.below hbw HJ5.lt)
  have HB6 := Aside0.mk (HB5.out.trans (hbw.mono HB5.out.size))
  have HR6 := Aside0.mk (Kd.C_below (Kd.C_below HR4.out hb5) hbw)
  have HROW6 := Aside0.mk hrow6
  have HW6 := Aside0.mk hw6
  have HB36 := Aside0.mk ((HB34.out.trans (hb5.mono HB34.out.size)).trans (hbw.mono (Nat.le_trans HB34.out.size hb5.size)))
  clear hq hb5 HJ5 hbw hw6 hrow6 HR4 HJ4 d1 p1 p2 e1 HB34
  by_cases hg0 : hg = 0
  · subst hg0
    rw [if_pos rfl] at hE1
    have HE := Aside0.mk hE1
    have kc := fun (w : World) (C : Array Value) (n c : Nat) => Lib.run_convert_bytes_const (P := Try.prog) w 31 5 C n c Try.underlying31 Try.underlying5
    have hb7 : Below w6.heap.size w6 (w6.alloc (.cells #[.int .u8 1] 5 (1, 2))) := below_alloc (Below.refl _ _) _
    have HB7 := Aside0.mk (HB6.out.trans (hb7.mono HB6.out.size))
    have HJD := Aside0.mk (new_JD HD.out HOK.out HH.out HB7.out (HJ6.out.below hb7 HJ6.out.lt) rfl HGJ.out)
    have HONE := Aside0.mk (show Kd.C (Kd.int .u8) (w6.alloc (.cells #[.int .u8 1] 5 (1, 2))) (some ⟨w6.heap.size, 0, none⟩) ([1] : List Int).length [1] from one_row w6)
    clear hE1 hb7
    go_wp2_with (refine wpList_store_row rfl 44 (.tmp 9) (.tmp 47) rfl w5.heap.size (stA (0, he)) rfl rfl 44 #[.int .i64 0, .int .i64 0] HNEW.out (by kernel_rfl) rfl (by simp [Value.oneCell', stA]) ?_; rw [← HW6.out])
    refine (lay_calls (w6.alloc (.cells #[.int .u8 1] 5 (1, 2))) H _ g w3.heap.size d (newJ (ep + 1)) HJD.out 1 1 (by decide) ⟨by decide, by decide, HEP.out.1, HEP.out.2⟩ (some ⟨w6.heap.size, 0, none⟩) 1 [1] HONE.out (Nat.le_refl _) (by decide) (by decide) HW.out).mono ?_
    rintro e w8 ⟨rfl, hto⟩
    have HN8 := Aside0.mk (new_to HH.out HB7.out HGJ.out hto)
    have hE := HE.out
    obtain ⟨⟨er, d8, s8⟩, hq⟩ : ∃ q, q = layF d (newJ (ep + 1)) 1 1 [1] := ⟨_, rfl⟩
    rw [← hq] at hE HN8 ⊢
    simp only at hE HN8
    clear hq hto HE HJD HONE kc
    by_cases her : er = 0
    · subst her
      rw [if_neg (by simp)] at hE
      have HE := Aside0.mk hE
      clear hE
      go_wp2_with fail
      go_ret3
      rw [HE.out]
      obtain ⟨h1, h2, ok', h3, h4⟩ := HN8.out
      exact ⟨_, _, rfl, h1, h2, ok', h3, h4, Kd.R_nil _ _ _ _ _⟩
    · rw [if_pos her] at hE
      have HE := Aside0.mk hE
      have b1 : (er != 0) = true := bne_iff_ne.2 her
      have b2 : (er == 0) = false := beq_eq_false_iff_ne.2 her
      have b3 : decide (er = 0) = false := decide_eq_false her
      clear hE
      go_wp2_with fail
      go_ret3
      rw [HE.out]
      exact ⟨rfl, new_disk HN8.out⟩
  · rw [if_neg hg0] at hE1
    have HE := Aside0.mk hE1
    have b1 : (hg == 0) = false := beq_eq_false_iff_ne.2 hg0
    have b2 : decide (hg = 0) = false := decide_eq_false hg0
    have b3 := eq_false hg0
    have q1 := HJ6.out.cell (j := 1) (v := .int .i64 1) rfl
    have z1 := HJ6.out.free 1
    obtain ⟨w7, hw7⟩ : ∃ w7 : World, w7 = w6.setCell ⟨w3.heap.size, 1, none⟩ (.int .i64 hg) := ⟨_, rfl⟩
    have hj7 : HoldsRow w7 w3.heap.size 64 (jcells g { newJ (ep + 1) with gen := hg } (.slice none 0 0)) := by rw [hw7]; exact HJ6.out.set 1 _
    have hgj : w.heap.size ≤ w3.heap.size := HGJ.out
    have hb67 : Below w3.heap.size w6 w7 := by rw [hw7]; exact (Below.refl w3.heap.size w6).setCell (show w3.heap.size ≤ (⟨w3.heap.size, 1, none⟩ : Addr).block from Nat.le_refl _) _
    have HB7 := Aside0.mk (HB6.out.trans (hb67.mono hgj))
    have HR7 := Aside0.mk (Kd.C_below HR3'.out (HB36.out.trans hb67))
    have hrow7 : HoldsRow w7 w5.heap.size 44 (stA (hg, he)) := by rw [hw7]; exact HROW6.out.set_other _ _ (Dk.ne_kind HROW6.out HJ6.out (by decide))
    have HJD := Aside0.mk (JTo.start (new_JD HD.out HOK.out HH.out HB7.out hj7 rfl hgj))
    have HJ7 := Aside0.mk hj7
    have HROW7 := Aside0.mk hrow7
    have HW7 := Aside0.mk hw7
    have K7 := hrow7.cell (j := 0) (v := .int .i64 hg) rfl
    have HG0 := Aside0.mk HHR.out.1.1
    obtain ⟨okd7, hd7, -⟩ := HJD.out.disk
    obtain ⟨okj7, hjj7, -⟩ := HJD.out.jour
    have HD7 := Aside0.mk hd7
    have HJJ7 := Aside0.mk hjj7
    obtain ⟨fr, sc, A2, hfr2, hsc2, hal, hs255, hscc, hsecs, hcut, hC2'⟩ := area_cut rows d.n hg A1 c1 HLR.out HN.out HC2.out HBY.out
    have hscan := scan_calls w7.drew g w3.heap.size { newJ (ep + 1) with gen := hg } (.slice none 0 0) (hj7.drewN 1) A2 (c1 - fr) (areaF rows d.n hg) hg he (Kd.C_below (hC2' w7 HR7.out) (below_drew (Below.refl _ _))) (by rw [hal]; exact hscc) hsecs (by rw [hal]; exact Nat.le_trans hs255 (by decide))
    rw [hal] at hscan
    have HSCAN := Aside0.mk (show Calls Try.prog 45 #[.pointer (some ⟨w3.heap.size, 0, none⟩), .slice A2 sc (c1 - fr), .agg (stA (hg, he))] w7.drew _ from hscan)
    have HCUT := Aside0.mk hcut
    have HFR := Aside0.mk hfr2
    have HSC := Aside0.mk hsc2
    have hfc := first_calls w7 H okd7 okj7 g w3.heap.size d { newJ (ep + 1) with gen := hg } HD7.out HJJ7.out hg HG0.out
    have hsecc := sectors_calls w7.drew H okd7 okj7 g w3.heap.size d { newJ (ep + 1) with gen := hg } (disk_drew HD7.out) HJJ7.out.drew
    rw [hfr2] at hfc
    rw [hsc2] at hsecc
    have HFC := Aside0.mk hfc
    have HSECC := Aside0.mk hsecc
    clear hE1 hw7 hj7 hgj hb67 hrow7 hd7 hjj7 hfr2 hsc2 hal hs255 hscc hcut hC2' hsecs hscan hfc hsecc HR3' HB36 HR6 hg0
    go_wp2_with (refine wpList_store_row rfl 44 (.tmp 9) (.tmp 47) rfl w5.heap.size (stA (hg, he)) rfl rfl 44 #[.int .i64 0, .int .i64 0] HNEW.out (by kernel_rfl) rfl (by simp [Value.oneCell', stA]) ?_; rw [← HW6.out])
    rw [← HW7.out]
    refine HFC.out.mono ?_
    rintro e w7' ⟨rfl, rfl⟩
    have hcut := HCUT.out
    go_wp2_with fail
    refine start_ (n := 15) (S := fun w' => HoldsRow w' w5.heap.size 44 (stA (hg, he))) (ds := [9]) #[false, false, false, false, false, false, false, false, false, false, false, false, false, false, false] (by kernel_rfl) rfl rfl (HROW7.out) (fun hHeld => ?_)
    refine pure_ (i := 0) (N := some 70) (v := ?_) (a' := ?_) #[true, false, false, false, false, false, false, false, false, false, false, false, false, false, false] rfl rfl (by kernel_rfl) (fun _ _ _ h => h) (Or.inl ⟨by rfl, ?_⟩) ?_ ?_
    rotate_left
    · intro w'
      go_simp
      with_reducible rfl
    rotate_left
    · simp only [Act.put, List.setIfInBounds_toArray, List.set_cons_zero, List.set_cons_succ, i64_w, i32_w]
      rfl
    refine pure_ (i := 1) (N := some 71) (v := ?_) (a' := ?_) #[true, true, false, false, false, false, false, false, false, false, false, false, false, false, false] rfl rfl (by kernel_rfl) (fun _ _ _ h => h) (Or.inl ⟨by rfl, ?_⟩) ?_ ?_
    rotate_left
    · intro w'
      go_simp
      with_reducible rfl
    rotate_left
    · simp only [Act.put, List.setIfInBounds_toArray, List.set_cons_zero, List.set_cons_succ, i64_w, i32_w]
      rfl
    refine pure_ (i := 2) (N := some 72) (v := ?_) (a' := ?_) #[true, true, true, false, false, false, false, false, false, false, false, false, false, false, false] rfl rfl (by kernel_rfl) (fun _ _ _ h => h) (Or.inl ⟨by rfl, ?_⟩) ?_ ?_
    rotate_left
    · intro w'
      go_simp
      with_reducible rfl
    rotate_left
    · simp only [Act.put, List.setIfInBounds_toArray, List.set_cons_zero, List.set_cons_succ, i64_w, i32_w]
      rfl
    refine pure_ (i := 3) (N := some 73) (v := ?_) (a' := ?_) #[true, true, true, true, false, false, false, false, false, false, false, false, false, false, false] rfl rfl (by kernel_rfl) (fun _ _ _ h => h) (Or.inl ⟨by rfl, ?_⟩) ?_ ?_
    rotate_left
    · intro w'
      go_simp
      with_reducible rfl
    rotate_left
    · simp only [Act.put, List.setIfInBounds_toArray, List.set_cons_zero, List.set_cons_succ, i64_w, i32_w]
      rfl
    refine pure_ (i := 4) (N := some 74) (v := ?_) (a' := ?_) #[true, true, true, true, true, false, false, false, false, false, false, false, false, false, false] rfl rfl (by kernel_rfl) (fun _ _ _ h => h) (Or.inl ⟨by rfl, ?_⟩) ?_ ?_
    rotate_left
    · intro w'
      go_simp
      with_reducible rfl
    rotate_left
    · simp only [Act.put, List.setIfInBounds_toArray, List.set_cons_zero, List.set_cons_succ, i64_w, i32_w]
      rfl
    refine take_ (i := 8) (N := some 78) (v := ?_) (a' := ?_) #[true, true, true, true, true, false, false, false, true, false, false, false, false, false, false] rfl rfl (by kernel_rfl) (fun _ _ _ h => h) (Or.inl ⟨by rfl, ?_⟩) hHeld ?_ ?_
    rotate_left
    · intro w' s0
      refine exec_load_row 44 (.tmp 9) ?_ w5.heap.size ?_ 44 (stA (hg, he)) _ s0 Try.underlying44 rfl (by kernel_rfl)
      · rfl
      · rfl
    rotate_left
    · simp only [Act.put, List.setIfInBounds_toArray, List.set_cons_zero, List.set_cons_succ, i64_w, i32_w]
      rfl
    refine one_ (i := 5) (N := some 75) #[true, true, true, true, true, true, false, false, true, false, false, false, false, false, false] rfl rfl (by kernel_rfl) (by decide) (fun K hK => ?_)
    refine goes_ Try.func27 (by kernel_rfl) rfl #[.pointer (some ⟨w3.heap.size, 0, none⟩)] (by rfl) rfl rfl (by simp only [List.map_toArray, List.map_cons, List.map_nil]; rfl) ?_
    with_reducible refine (HSECC.out).mono ?_
    rintro e w8 ⟨rfl, rfl⟩
    refine ⟨_, rfl, ?_⟩
    refine hK.out _ _ (HROW7.out) (fun hHeld => ?_)
    clear hK K
    refine norm_ (a' := ?_) ?_ ?_
    rotate_left
    · show Act.put _ (some 75) _ = _
      simp only [Act.put, List.setIfInBounds_toArray, List.set_cons_zero, List.set_cons_succ, i64_w, i32_w]
      rfl
    refine pure_ (i := 6) (N := some 76) (v := ?_) (a' := ?_) #[true, true, true, true, true, true, true, false, true, false, false, false, false, false, false] rfl rfl (by kernel_rfl) (fun _ _ _ h => h) (Or.inl ⟨by rfl, ?_⟩) ?_ ?_
    rotate_left
    · intro w'
      go_simp
      with_reducible rfl
    rotate_left
    · simp only [Act.put, List.setIfInBounds_toArray, List.set_cons_zero, List.set_cons_succ, i64_w, i32_w]
      rfl
    refine pure_ (i := 7) (N := some 77) (v := ?_) (a' := ?_) #[true, true, true, true, true, true, true, true, true, false, false, false, false, false, false] rfl rfl (by kernel_rfl) (fun _ _ _ h => h) (Or.inl ⟨by rfl, ?_⟩) ?_ ?_
    rotate_left
    · intro w'
      go_simp
      with_reducible rfl
    rotate_left
    · simp only [Act.put, List.setIfInBounds_toArray, List.set_cons_zero, List.set_cons_succ, i64_w, i32_w]
      rfl
    refine last_ (i := 9) (N := some 79) #[true, true, true, true, true, true, true, true, true, true, false, false, false, false, false] rfl rfl (by kernel_rfl) (by decide) (fun K hK => ?_)
    refine goes_ Try.func45 (by kernel_rfl) rfl #[.pointer (some ⟨w3.heap.size, 0, none⟩), .slice A2 sc (c1 - fr), .agg (stA (hg, he))] (by rfl) rfl rfl (by simp only [List.map_toArray, List.map_cons, List.map_nil]; rfl) ?_
    with_reducible refine (HSCAN.out).mono ?_
    rintro e w9 ⟨v9, rfl, hb9, hk9, hs9, hout⟩
    refine ⟨_, rfl, ?_⟩
    refine hK.out _ _ ?_
    clear hK K
    refine norm_ (a' := ?_) ?_ ?_
    rotate_left
    · show Act.put _ (some 79) _ = _
      simp only [Act.put, List.setIfInBounds_toArray, List.set_cons_zero, List.set_cons_succ, i64_w, i32_w]
      rfl
    refine pure_ (i := 10) (N := some 69) (v := ?_) (a' := ?_) #[true, true, true, true, true, true, true, true, true, true, true, false, false, false, false] rfl rfl (by kernel_rfl) (fun _ _ _ h => h) (Or.inl ⟨by rfl, ?_⟩) ?_ ?_
    rotate_left
    · intro w'
      go_simp
      with_reducible rfl
    rotate_left
    · simp only [Act.put, List.setIfInBounds_toArray, List.set_cons_zero, List.set_cons_succ, i64_w, i32_w]
      rfl
    refine pure_ (i := 11) (N := some 80) (v := ?_) (a' := ?_) #[true, true, true, true, true, true, true, true, true, true, true, true, false, false, false] rfl rfl (by kernel_rfl) (fun _ _ _ h => h) (Or.inl ⟨by rfl, ?_⟩) ?_ ?_
    rotate_left
    · intro w'
      go_simp
      with_reducible rfl
    rotate_left
    · simp only [Act.put, List.setIfInBounds_toArray, List.set_cons_zero, List.set_cons_succ, i64_w, i32_w]
      rfl
    refine pure_ (i := 12) (N := some 81) (v := ?_) (a' := ?_) #[true, true, true, true, true, true, true, true, true, true, true, true, true, false, false] rfl rfl (by kernel_rfl) (fun _ _ _ h => h) (Or.inl ⟨by rfl, ?_⟩) ?_ ?_
    rotate_left
    · intro w'
      go_simp
      with_reducible rfl
    rotate_left
    · simp only [Act.put, List.setIfInBounds_toArray, List.set_cons_zero, List.set_cons_succ, i64_w, i32_w]
      rfl
    refine pure_ (i := 13) (N := some 12) (v := ?_) (a' := ?_) #[true, true, true, true, true, true, true, true, true, true, true, true, true, true, false] rfl rfl (by kernel_rfl) (fun _ _ _ h => h) (Or.inl ⟨by rfl, ?_⟩) ?_ ?_
    rotate_left
    · intro w'
      go_simp
      with_reducible rfl
    rotate_left
    · simp only [Act.put, List.setIfInBounds_toArray, List.set_cons_zero, List.set_cons_succ, i64_w, i32_w]
      rfl
    refine pure_ (i := 14) (N := some 7) (v := ?_) (a' := ?_) #[true, true, true, true, true, true, true, true, true, true, true, true, true, true, true] rfl rfl (by kernel_rfl) (fun _ _ _ h => h) (Or.inl ⟨by rfl, ?_⟩) ?_ ?_
    rotate_left
    · intro w'
      go_simp
      with_reducible rfl
    rotate_left
    · simp only [Act.put, List.setIfInBounds_toArray, List.set_cons_zero, List.set_cons_succ, i64_w, i32_w]
      rfl
    refine done_ (by kernel_rfl) ?_
    
    have hb79 : Below w.heap.size w w9 := (HB7.out.trans (below_drew (Below.refl _ _) |> fun (q : Below w7.heap.size w7 w7.drew) => q.mono HB7.out.size)).trans (hb9.mono HGJ.out)
    have HB9 := Aside0.mk hb79
    have HS9 := Aside0.mk (show w7.heap.size ≤ w9.heap.size from hs9)
    have HOUT := Aside0.mk hout
    clear hb9 hk9 hs9 hout hb79 hHeld hcut HCUT HSCAN
    cases hsf : scanF (areaF rows d.n hg) hg he with
    | none =>
      have HE2 := Aside0.mk (show openF d = (50, d, none) by have := HE.out; rw [hsf] at this; exact this)
      have HC := Aside0.mk (show scanE none = 50 from rfl)
      clear hsf HE HOUT
      rw [HC.out]
      go_wp2_with fail
      go_ret3
      rw [HE2.out]
      exact ⟨rfl, disk_to_below HD.out HOK.out HH.out HB9.out⟩
    | some out =>
      have HE2 := Aside0.mk (show openF d = (0, d, some (⟨hg, ep + 1, (scanQ (areaF rows d.n hg) hg he).2, out.length, out.length, [], false⟩, out)) by have := HE.out; rw [hsf] at this; exact this)
      have HC := Aside0.mk (show scanE (some out) = 0 from rfl)
      have HO2 := Aside0.mk (HOUT.out out hsf)
      clear hsf HE HOUT
      rw [HC.out]
      go_wp2_with fail
      go_ret3
      rw [HE2.out]
      refine ⟨w3.heap.size, v9, rfl, HB9.out.mono HH.out, Kept.of_below HB9.out _, fun k => ok k ∨ k = w3.heap.size, fun k hk => ?_, new_JD HD.out HOK.out HH.out HB9.out HO2.out.2 rfl HGJ.out, ?_⟩
      · rcases hk with q | q
        · exact ⟨.inl q, Nat.lt_of_lt_of_le (HOK.out k q) HB9.out.size⟩
        · rw [q]
          exact ⟨.inr HGJ.out, HO2.out.2.lt⟩
      · have h7 : w3.heap.size < w7.heap.size := HJ7.out.lt
        have h8 : w.heap.size ≤ w7.heap.size := HB7.out.size
        refine Kd.R_mono (Kd.R_lower (Kd.R_bound HO2.out.1) h8) (fun k hk q => ?_)
        have h9 : w7.heap.size ≤ k := hk.2.1
        rcases q with q | q
        · exact absurd (HOK.out k q) (Nat.not_lt.2 (Nat.le_trans h8 h9))
        · exact absurd h7 (Nat.not_lt.2 (by rw [← q]; exact h9))
end Go.Proofs.Ythnjkmjcacoajaa.Jn
end

section
/- same, opens of the chapter's laws, walked. Conditions: as Open's; rows of eight thousand bytes. -/
namespace Go.Proofs.Ythnjkmjcacoajaa.Jn
open Go Go.RowKit Go.Proofs.YthnjkmjcacoajaaW.PrintWords Go.Proofs.YthnjkmjcacoajaaW.PrintLast Go.Proofs.YthnjkmjcacoajaaW.PrintMore Go.Proofs.Ythnjkmjcacoajaa.Base Go.Proofs.Ythnjkmjcacoajaa.Arr
open Go.Proofs.Ythnjkmjcacoajaa.Dk (DS DiskIs DiskTo writeF flushF)
set_option linter.unusedVariables false
set_option linter.unusedSimpArgs false

/-- rows of a million bytes at most -/
def Short (l : List (List Int)) : Prop := l.length ≤ 1000000000 ∧ ∀ r ∈ l, r.length ≤ 1000000000
set_option maxHeartbeats 4000000 in
set_option maxRecDepth 100000 in
theorem same_calls (w : World) (A0 : Option Addr) (c0 : Nat) (a : List (List Int)) (A1 : Option Addr) (c1 : Nat) (b : List (List Int)) (ha : (Kd.slice 5 (Kd.int .u8)).C w A0 a.length a) (hb : (Kd.slice 5 (Kd.int .u8)).C w A1 b.length b) (hsa : Short a) (hsb : Short b) :
    Calls Try.prog 25 #[.slice A0 a.length c0, .slice A1 b.length c1] w fun e w' => e = .returned (.bool (decide (a = b))) ∧ Drawn0 w w' := by
  have HA := Aside0.mk ha
  have HB := Aside0.mk hb
  have HSA := Aside0.mk hsa
  have HSB := Aside0.mk hsb
  clear ha hb hsa hsb
  by_cases hl : a.length = b.length
  case neg =>
    have b1 : ((a.length : Int) != (b.length : Int)) = true := bne_iff_ne.2 (by omega)
    have b2 : (a.length != b.length) = true := bne_iff_ne.2 hl
    have b3 : decide ((a.length : Int) = (b.length : Int)) = false := decide_eq_false (by omega)
    have HN := Aside0.mk (show decide (a = b) = false from decide_eq_false (fun e => hl (by rw [e])))
    clear hl
    go_enter Try.func25, Try.ntmps25
    go_wp2_with fail
    go_ret
    exact ⟨by rw [HN.out]; rfl, Drawn0.refl _⟩
  have b1 : ((a.length : Int) != (b.length : Int)) = false := by rw [hl]; simp
  have b2 : (a.length != b.length) = false := by rw [hl]; simp
  have HLL := Aside0.mk hl
  clear hl
  go_enter Try.func25, Try.ntmps25
  go_wp2_with fail
  go_loopw [5] (fun i wr => ∃ j : Nat, j ≤ a.length ∧ i = .int .i64 (j : Nat) ∧ Aside0 (a.take j = b.take j) ∧ Aside0 (Drawn0 w wr)) (fun i _ => a.length + 1 - (intOf i).toNat)
  case atStart => exact ⟨0, by omega, rfl, ⟨by simp⟩, ⟨Drawn0.refl _⟩⟩
  case round =>
    obtain ⟨j, hj, rfl, HT, HW⟩ := hrel
    have hlim : a.length ≤ 1000000000 := HSA.out.1
    by_cases hlt : j < a.length
    · have d1 : decide ((j : Int) < (a.length : Int)) = true := decide_eq_true (by omega)
      have d2 : decide (j < a.length) = true := decide_eq_true hlt
      have hltb : j < b.length := by have := HLL.out; omega
      have hxa := List.getElem?_eq_getElem hlt
      have hxb := List.getElem?_eq_getElem hltb
      have hma := List.getElem_mem hlt
      have hmb := List.getElem_mem hltb
      obtain ⟨x, hx⟩ : ∃ x, x = a[j] := ⟨_, rfl⟩
      obtain ⟨y, hy⟩ : ∃ y, y = b[j] := ⟨_, rfl⟩
      rw [← hx] at hxa hma
      rw [← hy] at hxb hmb
      obtain ⟨ad, A2, c2, rfl, K1, hc2, hC2⟩ := row_elem (w := wr) (Kd.C_below HA.out HW.out.below) hxa
      obtain ⟨ad3, A3, c3, rfl, K3, hc3, hC3⟩ := row_elem (w := wr) (Kd.C_below HB.out HW.out.below) hxb
      have HEQ := Aside0.mk (Ext.eq_dec x y (by have := HSA.out.2 x hma; omega) (x.length + 1) (Nat.le_refl _))
      have HTA := Aside0.mk (take_snoc a j x hxa)
      have HTB := Aside0.mk (take_snoc b j y hxb)
      have HC2 := Aside0.mk (And.intro hc2 hC2)
      have HC3 := Aside0.mk (And.intro hc3 hC3)
      have i1 := eq_true (show (0 : Int) ≤ (j : Int) by omega)
      have i2 := eq_true (show (j : Int) < (a.length : Int) by omega)
      have i3 := eq_true (show (j : Int) < (b.length : Int) by omega)
      clear hxa hxb hma hmb hx hy hc2 hC2 hc3 hC3
      go_wp2_with fail
      refine start_ (n := 10) (S := fun w' => w'.cell? (ad.add j) = some (.slice A2 x.length c2) ∧ w'.cell? (ad3.add j) = some (.slice A3 y.length c3)) (ds := [8]) #[false, false, false, false, false, false, false, false, false, false] (by kernel_rfl) rfl rfl ⟨K1, K3⟩ (fun hHeld => ?_)
      refine pure_ (i := 0) (N := some 17) (v := ?_) (a' := ?_) #[true, false, false, false, false, false, false, false, false, false] rfl rfl (by kernel_rfl) (fun _ _ _ h => h) (Or.inl ⟨by rfl, ?_⟩) ?_ ?_
      rotate_left
      · intro w'
        go_simp
        with_reducible rfl
      rotate_left
      · simp only [Act.put, List.setIfInBounds_toArray, List.set_cons_zero, List.set_cons_succ, i64_w, i32_w]
        rfl
      refine pure_ (i := 1) (N := some 18) (v := ?_) (a' := ?_) #[true, true, false, false, false, false, false, false, false, false] rfl rfl (by kernel_rfl) (fun _ _ _ h => h) (Or.inl ⟨by rfl, ?_⟩) ?_ ?_
      rotate_left
      · intro w'
        go_simp
        with_reducible rfl
      rotate_left
      · simp only [Act.put, List.setIfInBounds_toArray, List.set_cons_zero, List.set_cons_succ, i64_w, i32_w]
        rfl
      refine pure_ (i := 2) (N := some 19) (v := ?_) (a' := ?_) #[true, true, true, false, false, false, false, false, false, false] rfl rfl (by kernel_rfl) (fun _ _ _ h => h) (Or.inl ⟨by rfl, ?_⟩) ?_ ?_
      rotate_left
      · intro w'
        go_simp
        with_reducible rfl
      rotate_left
      · simp only [Act.put, List.setIfInBounds_toArray, List.set_cons_zero, List.set_cons_succ, i64_w, i32_w]
        rfl
      refine pure_ (i := 4) (N := some 21) (v := ?_) (a' := ?_) #[true, true, true, false, true, false, false, false, false, false] rfl rfl (by kernel_rfl) (fun _ _ _ h => h) (Or.inl ⟨by rfl, ?_⟩) ?_ ?_
      rotate_left
      · intro w'
        go_simp
        with_reducible rfl
      rotate_left
      · simp only [Act.put, List.setIfInBounds_toArray, List.set_cons_zero, List.set_cons_succ, i64_w, i32_w]
        rfl
      refine pure_ (i := 5) (N := some 22) (v := ?_) (a' := ?_) #[true, true, true, false, true, true, false, false, false, false] rfl rfl (by kernel_rfl) (fun _ _ _ h => h) (Or.inl ⟨by rfl, ?_⟩) ?_ ?_
      rotate_left
      · intro w'
        go_simp
        with_reducible rfl
      rotate_left
      · simp only [Act.put, List.setIfInBounds_toArray, List.set_cons_zero, List.set_cons_succ, i64_w, i32_w]
        rfl
      refine pure_ (i := 6) (N := some 23) (v := ?_) (a' := ?_) #[true, true, true, false, true, true, true, false, false, false] rfl rfl (by kernel_rfl) (fun _ _ _ h => h) (Or.inl ⟨by rfl, ?_⟩) ?_ ?_
      rotate_left
      · intro w'
        go_simp
        with_reducible rfl
      rotate_left
      · simp only [Act.put, List.setIfInBounds_toArray, List.set_cons_zero, List.set_cons_succ, i64_w, i32_w]
        rfl
      refine take_ (i := 3) (N := some 20) (v := ?_) (a' := ?_) #[true, true, true, true, true, true, true, false, false, false] rfl rfl (by kernel_rfl) (fun _ _ _ h => h) (Or.inl ⟨by rfl, ?_⟩) hHeld ?_ ?_
      rotate_left
      · rintro w' ⟨s0, s1⟩
        go_simp
        with_reducible rfl
      rotate_left
      · simp only [Act.put, List.setIfInBounds_toArray, List.set_cons_zero, List.set_cons_succ, i64_w, i32_w]
        rfl
      refine take_ (i := 7) (N := some 24) (v := ?_) (a' := ?_) #[true, true, true, true, true, true, true, true, false, false] rfl rfl (by kernel_rfl) (fun _ _ _ h => h) (Or.inl ⟨by rfl, ?_⟩) hHeld ?_ ?_
      rotate_left
      · rintro w' ⟨s0, s1⟩
        go_simp
        with_reducible rfl
      rotate_left
      · simp only [Act.put, List.setIfInBounds_toArray, List.set_cons_zero, List.set_cons_succ, i64_w, i32_w]
        rfl
      refine last_ (i := 8) (N := some 25) #[true, true, true, true, true, true, true, true, true, false] rfl rfl (by kernel_rfl) (by decide) (fun K hK => ?_)
      refine goes_ Try.func48 (by kernel_rfl) rfl #[.slice A2 x.length c2, .slice A3 y.length c3] (by rfl) rfl rfl (by simp only [List.map_toArray, List.map_cons, List.map_nil]; rfl) ?_
      with_reducible refine (encoreref00_EqBytes.calls (x.length + 1) A2 c2 x A3 c3 y (decide (x = y)) wr.drew (Kd.C_below HC2.out.2 (below_drew (Below.refl _ _))) HC2.out.1 (Kd.C_below HC3.out.2 (below_drew (Below.refl _ _))) HC3.out.1 HEQ.out).mono ?_
      rintro e w3 ⟨rfl, hd3⟩
      refine ⟨_, rfl, ?_⟩
      refine hK.out _ _ ?_
      clear hK K
      refine norm_ (a' := ?_) ?_ ?_
      rotate_left
      · show Act.put _ (some 25) _ = _
        simp only [Act.put, List.setIfInBounds_toArray, List.set_cons_zero, List.set_cons_succ, i64_w, i32_w]
        rfl
      refine pure_ (i := 9) (N := some 26) (v := ?_) (a' := ?_) #[true, true, true, true, true, true, true, true, true, true] rfl rfl (by kernel_rfl) (fun _ _ _ h => h) (Or.inl ⟨by rfl, ?_⟩) ?_ ?_
      rotate_left
      · intro w'
        go_simp
        with_reducible rfl
      rotate_left
      · simp only [Act.put, List.setIfInBounds_toArray, List.set_cons_zero, List.set_cons_succ, i64_w, i32_w]
        rfl
      refine done_ (by kernel_rfl) ?_
      
      have HW3 := Aside0.mk (show Drawn0 w w3 by obtain ⟨n, e⟩ := (drawn_drew hd3).out; rw [e]; exact HW.out.step n)
      clear hd3 hHeld K1 K3
      by_cases hxy : x = y
      · have HXY := Aside0.mk hxy
        have dd : decide (x = y) = true := decide_eq_true hxy
        clear hxy
        rw [dd]
        go_wp2_with fail
        exact ⟨⟨j + 1, by omega, by rw [show ((j + 1 : Nat) : Int) = (j : Int) + 1 by omega], ⟨by rw [HTA.out, HTB.out, HT.out, HXY.out]⟩, HW3⟩, by simp [intOf]; omega⟩
      · have dd : decide (x = y) = false := decide_eq_false hxy
        have HN := Aside0.mk (show decide (a = b) = false from decide_eq_false (fun e => hxy (by
          have h1 := HTA.out
          have h2 := HTB.out
          rw [e, h2] at h1
          have := List.append_cancel_left h1
          injection this with h3
          exact h3.symm)))
        clear hxy
        rw [dd]
        go_wp2_with fail
        go_ret
        exact ⟨by rw [HN.out]; rfl, HW3.out⟩
    · obtain rfl : j = a.length := by omega
      have d1 : decide ((a.length : Int) < (a.length : Int)) = false := by simp
      have d2 : decide (a.length < a.length) = false := by simp
      have HN := Aside0.mk (show decide (a = b) = true from decide_eq_true (by
        have := HT.out
        rw [List.take_length, HLL.out, List.take_length] at this
        exact this))
      go_wp2_with fail
      go_ret
      exact ⟨by rw [HN.out]; rfl, HW.out⟩
/-- a journal that was opened anew, beside all that lay there -/
def New (w w' : World) (H : Nat) (ok : Nat → Prop) (g gj : Nat) (d : DS) (s : JS) : Prop :=
  Below H w w' ∧ Kept w w' ok ∧ ∃ ok' : Nat → Prop, (∀ k, ok' k → (ok k ∨ w.heap.size ≤ k) ∧ k < w'.heap.size) ∧ JD w' H ok' g gj d s
theorem New.below {w w1 w2 : World} {H : Nat} {ok : Nat → Prop} {g gj : Nat} {d : DS} {s : JS} (h : New w w1 H ok g gj d s) (hb : Below w1.heap.size w1 w2) : New w w2 H ok g gj d s := by
  obtain ⟨h1, h2, ok', h3, h4⟩ := h
  obtain ⟨t1, t2, ok2, t3, t4⟩ := (JTo.start h4).below hb
  refine ⟨h1.trans t1, h2.below hb, ok2, fun k hk => ⟨?_, (t3 k hk).2⟩, t4⟩
  rcases (t3 k hk).1 with q | q
  · exact (h3 k q).1
  · exact .inr (Nat.le_trans h2.1 q)
set_option maxHeartbeats 4000000 in
set_option maxRecDepth 100000 in
theorem opens_calls (w : World) (H : Nat) (ok : Nat → Prop) (g : Nat) (d : DS) (h : DiskIs w H ok g d) (hok : ∀ k, ok k → k < w.heap.size) (hH : H ≤ w.heap.size) (hb : Secs (rowsD d)) (hw : d.waits.length ≤ 500000) (A : Option Addr) (c : Nat) (l : List (List Int)) (hl : ∀ W', Kept w W' ok → (Kd.slice 5 (Kd.int .u8)).C W' A l.length l) (hsl : Short l) (d' : DS) (s : JS) (out : List (List Int)) (ho : openF d = (0, d', some (s, out))) (hso : Short out) :
    Calls Try.prog 8 #[.pointer (some ⟨g, 0, none⟩), .slice A l.length c] w fun e w' => ∃ gj, e = .returned (.tuple #[.pointer (some ⟨gj, 0, none⟩), .bool (decide (out = l))]) ∧ New w w' H ok g gj d' s := by
  have HOP := Aside0.mk (Open_calls w H ok g d h hok hH hb hw)
  have HL := Aside0.mk hl
  have HSL := Aside0.mk hsl
  have HSO := Aside0.mk hso
  have HO := Aside0.mk ho
  clear h hok hH hb hw hl hsl ho hso
  go_enter Try.func8, Try.ntmps8
  go_wp2_with fail
  refine HOP.out.mono ?_
  intro e w1 hp
  rw [HO.out] at hp
  obtain ⟨gj, v, rfl, hb1, hk1, ok', hs', hjd, hr⟩ := hp
  obtain ⟨A2, c2, rfl⟩ := Kd.R_slice hr
  have HR := Aside0.mk (Kd.R_reads' hr).2.2
  have HN := Aside0.mk (show New w w1 H ok g gj d' s from ⟨hb1, hk1, ok', hs', hjd⟩)
  have HL1 := Aside0.mk (HL.out w1 hk1)
  clear hb1 hk1 hs' hjd hr HOP HO
  go_wp2_with fail
  refine (same_calls w1 A2 c2 out A c l HR.out HL1.out HSO.out HSL.out).mono ?_
  rintro e w2 ⟨rfl, hd⟩
  have HN2 := Aside0.mk (HN.out.below hd.below)
  clear hd
  obtain ⟨q, hq⟩ : ∃ q, q = decide (out = l) := ⟨_, rfl⟩
  rw [← hq]
  have HQ := Aside0.mk hq
  clear hq
  go_wp2_with fail
  go_ret2
  exact ⟨gj, by rw [← HQ.out]; rfl, HN2.out⟩
end Go.Proofs.Ythnjkmjcacoajaa.Jn
end

section
/- What a run of writes and a flush leave on a disk, sector by sector: plain. No condition beyond those stated. -/
namespace Go.Proofs.Ythnjkmjcacoajaa.Jn
open Go Go.RowKit Go.Proofs.YthnjkmjcacoajaaW.PrintWords Go.Proofs.YthnjkmjcacoajaaW.PrintLast Go.Proofs.YthnjkmjcacoajaaW.PrintMore Go.Proofs.Ythnjkmjcacoajaa.Base Go.Proofs.Ythnjkmjcacoajaa.Arr
open Go.Proofs.Ythnjkmjcacoajaa.Dk (DS DiskIs DiskTo writeF flushF doingF secOf putSec putSec_len secOf_put thereE there_ok lay)
set_option linter.unusedVariables false
set_option linter.unusedSimpArgs false

/-- a disk at rest: nothing waits, the power is there -/
structure Calm (d : DS) : Prop where
  dead : d.dead = false
  waits : d.waits = []
  len : d.stays.length = d.n * 64
  n1 : 1 ≤ d.n
  n2 : d.n ≤ 512
theorem doing_ok {d : DS} (h : (doingF d).1 = 0) : (doingF d).2.n = d.n ∧ (doingF d).2.stays = d.stays ∧ (doingF d).2.waits = d.waits ∧ (doingF d).2.dead = d.dead := by
  unfold doingF at h ⊢
  split
  · exact ⟨rfl, rfl, rfl, rfl⟩
  · rename_i l b c hp
    rw [hp] at h
    simp only at h
    split at h
    · rename_i hl
      rw [if_pos hl]
      exact ⟨rfl, rfl, rfl, rfl⟩
    · cases h
theorem write_ok {d : DS} {at_ : Int} {c : List Int} (h : (writeF d at_ c).1 = 0) : 0 ≤ at_ ∧ at_ < d.n ∧ c.length = 64 ∧ (writeF d at_ c).2.n = d.n ∧ (writeF d at_ c).2.stays = d.stays ∧ (writeF d at_ c).2.waits = d.waits ++ [(at_, c)] ∧ (writeF d at_ c).2.dead = d.dead := by
  unfold writeF at h ⊢
  by_cases h1 : thereE d at_ ≠ 0
  · rw [if_pos h1] at h
    exact absurd h h1
  · rw [if_neg h1] at h ⊢
    have h1' : thereE d at_ = 0 := Decidable.not_not.1 h1
    obtain ⟨_, t1, t2⟩ := there_ok h1'
    by_cases h2 : c.length ≠ 64
    · rw [if_pos h2] at h
      cases h
    · rw [if_neg h2] at h ⊢
      by_cases h3 : (doingF d).1 ≠ 0
      · rw [if_pos h3] at h
        exact absurd h h3
      · rw [if_neg h3]
        have h3' := Decidable.not_not.1 h3
        obtain ⟨e1, e2, e3, e4⟩ := doing_ok h3'
        refine ⟨t1, t2, Decidable.not_not.1 h2, e1, e2, ?_, e4⟩
        show (doingF d).2.waits ++ _ = _
        rw [e3]
/-- the writes, as they wait -/
def waitsOf (at_ : Int) : List (List Int) → List (Int × List Int)
  | [] => []
  | c :: cs => (at_, c) :: waitsOf (at_ + 1) cs
theorem writes_ok : ∀ (l : List (List Int)) (d : DS) (at_ : Int), (writesF d at_ l).1 = 0 → (writesF d at_ l).2.n = d.n ∧ (writesF d at_ l).2.stays = d.stays ∧ (writesF d at_ l).2.waits = d.waits ++ waitsOf at_ l ∧ (writesF d at_ l).2.dead = d.dead ∧ (l ≠ [] → 0 ≤ at_ ∧ at_ + (l.length : Int) ≤ d.n) ∧ ∀ c ∈ l, c.length = 64
  | [], d, at_, _ => ⟨rfl, rfl, by simp [writesF, waitsOf], rfl, fun h => absurd rfl h, fun c hc => by cases hc⟩
  | c :: cs, d, at_, h => by
    unfold writesF at h ⊢
    split at h
    · rename_i h1
      exact absurd h h1
    · rename_i h1
      rw [if_neg h1]
      obtain ⟨t1, t2, t3, t4, t5, t6, t7⟩ := write_ok (Decidable.not_not.1 h1)
      obtain ⟨e1, e2, e3, e4, e5, e6⟩ := writes_ok cs _ (at_ + 1) h
      refine ⟨e1.trans t4, e2.trans t5, ?_, e4.trans t7, fun _ => ⟨t1, ?_⟩, fun x hx => ?_⟩
      · rw [e3, t6, List.append_assoc]
        rfl
      · rw [List.length_cons]
        by_cases hcs : cs = []
        · subst hcs
          simp only [List.length_nil]
          omega
        · have := (e5 hcs).2
          rw [t4] at this
          omega
      · rcases List.mem_cons.1 hx with q | q
        · rw [q]; exact t3
        · exact e6 x q
theorem lay_waits (n : Nat) : ∀ (l : List (List Int)) (f : List Int) (at_ : Nat), f.length = n * 64 → at_ + l.length ≤ n → (∀ c ∈ l, c.length = 64) → (lay f (waitsOf (at_ : Int) l)).length = n * 64 ∧ ∀ i, i < n → secOf (lay f (waitsOf (at_ : Int) l)) i = if at_ ≤ i ∧ i < at_ + l.length then l.getD (i - at_) [] else secOf f i
  | [], f, at_, hf, _, _ => ⟨hf, fun i _ => by rw [if_neg (by simp only [List.length_nil]; omega)]; rfl⟩
  | c :: cs, f, at_, hf, hn, hc => by
    rw [List.length_cons] at hn
    have h64 := hc c (by simp)
    have hp := putSec_len (f := f) (i := at_) (n := n) (s := c) hf (by omega) h64
    have e1 : lay f (waitsOf (at_ : Int) (c :: cs)) = lay (putSec f at_ c) (waitsOf ((at_ + 1 : Nat) : Int) cs) := by
      show lay (putSec f ((at_ : Int)).toNat c) (waitsOf ((at_ : Int) + 1) cs) = _
      rw [Int.toNat_natCast, show ((at_ + 1 : Nat) : Int) = (at_ : Int) + 1 by omega]
    obtain ⟨i1, i2⟩ := lay_waits n cs (putSec f at_ c) (at_ + 1) hp (by omega) (fun x hx => hc x (by simp [hx]))
    rw [e1]
    refine ⟨i1, fun i hi => ?_⟩
    rw [i2 i hi, List.length_cons]
    by_cases h1 : at_ + 1 ≤ i ∧ i < at_ + 1 + cs.length
    · rw [if_pos h1, if_pos (by omega)]
      obtain ⟨q, hq⟩ : ∃ q, i - at_ = q + 1 := ⟨i - at_ - 1, by omega⟩
      rw [hq, show i - (at_ + 1) = q by omega]
      rfl
    · rw [if_neg h1, secOf_put hf (by omega) hi h64]
      by_cases h2 : i = at_
      · rw [if_pos h2, if_pos (by omega), h2, Nat.sub_self]
        rfl
      · rw [if_neg h2, if_neg (by omega)]
theorem flush_ok {d : DS} (h : (flushF d).1 = 0) : (flushF d).2.n = d.n ∧ (flushF d).2.stays = lay d.stays d.waits ∧ (flushF d).2.waits = [] ∧ (flushF d).2.dead = false := by
  unfold flushF at h ⊢
  split at h
  · cases h
  · rename_i h1
    rw [if_neg h1]
    split at h
    · rename_i h2
      rw [if_pos h2]
      obtain ⟨e1, e2, e3, e4⟩ := doing_ok h2
      refine ⟨e1, ?_, rfl, ?_⟩
      · show lay _ _ = _
        rw [e2, e3]
      · show (doingF d).2.dead = false
        rw [e4]
        cases hx : d.dead
        · rfl
        · exact absurd hx h1
    · rename_i h2
      exact absurd h h2
/-- what a laying leaves -/
theorem put_ok {d : DS} {at_ : Nat} {l : List (List Int)} (hd : Calm d) (hl : l ≠ []) (h : (putF d (at_ : Int) l).1 = 0) :
    Calm (putF d (at_ : Int) l).2 ∧ (putF d (at_ : Int) l).2.n = d.n ∧ at_ + l.length ≤ d.n ∧ (∀ c ∈ l, c.length = 64) ∧ ∀ i, i < d.n → secOf (putF d (at_ : Int) l).2.stays i = if at_ ≤ i ∧ i < at_ + l.length then l.getD (i - at_) [] else secOf d.stays i := by
  unfold putF at h ⊢
  split at h
  · rename_i h1
    exact absurd h h1
  · rename_i h1
    rw [if_neg h1]
    obtain ⟨e1, e2, e3, e4, e5, e6⟩ := writes_ok l d at_ (Decidable.not_not.1 h1)
    obtain ⟨f1, f2, f3, f4⟩ := flush_ok h
    have e5' := (e5 hl).2
    rw [hd.waits, List.nil_append] at e3
    rw [e2, e3] at f2
    obtain ⟨g1, g2⟩ := lay_waits d.n l d.stays at_ hd.len (by omega) e6
    refine ⟨⟨f4, f3, ?_, ?_, ?_⟩, f1.trans e1, by omega, e6, fun i hi => ?_⟩
    · rw [f2, f1, e1]; exact g1
    · rw [f1, e1]; exact hd.n1
    · rw [f1, e1]; exact hd.n2
    · rw [f2]; exact g2 i hi
theorem writes_fine : ∀ (l : List (List Int)) (d : DS) (at_ : Int), d.dead = false → d.plan = none → 0 ≤ at_ → at_ + (l.length : Int) ≤ d.n → (∀ c ∈ l, c.length = 64) → (writesF d at_ l).1 = 0 ∧ (writesF d at_ l).2.plan = none
  | [], d, at_, _, hp, _, _, _ => ⟨rfl, hp⟩
  | c :: cs, d, at_, hd, hp, h0, h1, hc => by
    rw [List.length_cons] at h1
    have ht : thereE d at_ = 0 := by
      unfold thereE
      rw [hd, if_neg (by decide), if_neg (by omega), if_neg (by omega)]
    have hdo : doingF d = (0, d) := by unfold doingF; rw [hp]
    have hw : writeF d at_ c = (0, { d with waits := d.waits ++ [(at_, c)] }) := by
      unfold writeF
      rw [if_neg (fun q => q ht), if_neg (fun q => q (hc c (by simp))), hdo, if_neg (by simp)]
    unfold writesF
    rw [hw, if_neg (by simp)]
    exact writes_fine cs _ (at_ + 1) hd hp (by omega) (by show at_ + 1 + _ ≤ (d.n : Int); omega) (fun x hx => hc x (by simp [hx]))
theorem put_fine {d : DS} {at_ : Nat} {l : List (List Int)} (hd : Calm d) (hp : d.plan = none) (h : at_ + l.length ≤ d.n) (hc : ∀ c ∈ l, c.length = 64) : (putF d (at_ : Int) l).1 = 0 ∧ (putF d (at_ : Int) l).2.plan = none := by
  obtain ⟨h1, h2⟩ := writes_fine l d at_ hd.dead hp (by omega) (by omega) hc
  obtain ⟨_, _, _, e4, _, _⟩ := writes_ok l d at_ h1
  unfold putF
  rw [if_neg (fun q => q h1)]
  have hdo : doingF (writesF d at_ l).2 = (0, (writesF d at_ l).2) := by unfold doingF; rw [h2]
  unfold flushF
  rw [e4, hd.dead, if_neg (by decide), hdo, if_pos rfl]
  exact ⟨rfl, h2⟩
end Go.Proofs.Ythnjkmjcacoajaa.Jn
end

section
/- What a journal's sectors say, and how a laying changes it: plain. No condition beyond those stated. -/
namespace Go.Proofs.Ythnjkmjcacoajaa.Jn
open Go Go.RowKit Go.Proofs.YthnjkmjcacoajaaW.PrintWords Go.Proofs.YthnjkmjcacoajaaW.PrintLast Go.Proofs.YthnjkmjcacoajaaW.PrintMore Go.Proofs.Ythnjkmjcacoajaa.Base Go.Proofs.Ythnjkmjcacoajaa.Arr
open Go.Proofs.Ythnjkmjcacoajaa.Ext (readT stampV stampN readC runCells cellOf cellsOf pieceOf pieceOf_len pieceL_le cellOf_len front_cell stampN_div stampN_mod scanR badS okS runS Sc scan_app scan_ok scan_stop scan_run okS_app runS_app nextS pieces runCells_len readT_cell run_one)
open Go.Proofs.Ythnjkmjcacoajaa.FrameLink (pk joined allR all_back whole)
set_option linter.unusedVariables false
set_option linter.unusedSimpArgs false

theorem readT_front {r : List Int} (h : (readT r).2.2.2.2 = 0) : (readT r).1 = gnF r ∧ (readT r).2.1 = epF r := by
  unfold readT at h ⊢
  split at h
  · cases h
  · rename_i h1
    rw [if_neg h1]
    split at h
    · rename_i h2
      exact absurd h h2
    · rename_i h2
      rw [if_neg h2]
      exact ⟨rfl, rfl⟩
theorem bad_of {g : Int} {st : Sc} {c : List Int} (h : epF c < st.epoch ∨ gnF c ≠ g) : badS g st (readT c) := by
  by_cases h0 : (readT c).2.2.2.2 = 0
  · obtain ⟨e1, e2⟩ := readT_front h0
    rcases h with h | h
    · exact .inr (.inr (.inl (by rw [e2]; exact h)))
    · exact .inr (.inl (by rw [e1]; exact h))
  · exact .inl h0
theorem fold_ge (l : List (List Int)) : ∀ t : Int, t ≤ l.foldl (fun t b => if t < epF b then epF b else t) t ∧ ∀ r ∈ l, epF r ≤ l.foldl (fun t b => if t < epF b then epF b else t) t := by
  induction l with
  | nil => intro t; exact ⟨Int.le_refl _, fun r hr => by cases hr⟩
  | cons b l ih =>
    intro t
    obtain ⟨h1, h2⟩ := ih (if t < epF b then epF b else t)
    have h3 : t ≤ (if t < epF b then epF b else t) ∧ epF b ≤ (if t < epF b then epF b else t) := by split <;> omega
    refine ⟨Int.le_trans h3.1 h1, fun r hr => ?_⟩
    rcases List.mem_cons.1 hr with q | q
    · rw [q]; exact Int.le_trans h3.2 h1
    · exact h2 r q
theorem epoch_ge {l : List (List Int)} {r : List Int} (h : r ∈ l) : epF r ≤ epochF l := (fold_ge l 0).2 r h
/-! ### a cell of a run -/
theorem cell_front (g e : Nat) (f : Bool) (p : List Int) (hg : g < 4294967296) (he : e < 4294967296) : epF (cellOf g e f p) = (e : Int) ∧ gnF (cellOf g e f p) = (g : Int) := by
  unfold epF gnF
  rw [front_cell g e f p hg he]
  have h1 := stampN_mod g e he
  have h2 := stampN_div g e he
  omega
theorem run_mem {g e : Nat} {b c : List Int} (h : c ∈ runCells g e b) : ∃ f p, p.length ≤ 47 ∧ c = cellOf g e f p ∧ (Ext.Bytes b → Ext.Bytes p) := by
  unfold runCells cellsOf at h
  obtain ⟨i, hi, rfl⟩ := List.mem_mapIdx.1 h
  refine ⟨_, _, by rw [pieceOf_len]; exact pieceL_le _ _, rfl, fun hb => ?_⟩
  intro x hx
  unfold pieceOf at hx
  exact hb x (List.mem_of_mem_drop (List.mem_of_mem_take hx))
theorem run_front {g e : Nat} {b c : List Int} (hg : g < 4294967296) (he : e < 4294967296) (h : c ∈ runCells g e b) : epF c = (e : Int) ∧ gnF c = (g : Int) := by
  obtain ⟨f, p, _, rfl, _⟩ := run_mem h
  exact cell_front g e f p hg he
theorem run_secs {g e : Nat} {b : List Int} (hb : Ext.Bytes b) : Secs (runCells g e b) := fun c hc => by
  obtain ⟨f, p, hp, rfl, hpb⟩ := run_mem hc
  exact ⟨cellOf_len g e f p hp, Ext.cellOf_bytes g e f p hp (hpb hb)⟩
theorem cnt_pieces (n : Nat) : cntN n = (pieces n : Int) := rfl
/-! ### rows put over rows -/
structure Put (R R' : List (List Int)) (at_ : Nat) (l : List (List Int)) : Prop where
  len : R'.length = R.length
  room : at_ + l.length ≤ R.length
  get : ∀ i, i < R.length → R'.getD i [] = if at_ ≤ i ∧ i < at_ + l.length then l.getD (i - at_) [] else R.getD i []
theorem ext_getD {a b : List (List Int)} (hl : a.length = b.length) (h : ∀ i, i < a.length → a.getD i [] = b.getD i []) : a = b := by
  apply List.ext_getElem hl
  intro i h1 h2
  have := h i h1
  rw [List.getD_eq_getElem?_getD, List.getD_eq_getElem?_getD, List.getElem?_eq_getElem h1, List.getElem?_eq_getElem h2] at this
  exact this
theorem mem_getD {a : List (List Int)} {r : List Int} (h : r ∈ a) : ∃ i, i < a.length ∧ a.getD i [] = r := by
  obtain ⟨i, hi⟩ := List.getElem?_of_mem h
  exact ⟨i, (List.getElem?_eq_some_iff.1 hi).1, getD_at hi⟩
theorem getD_mem {a : List (List Int)} {i : Nat} (h : i < a.length) : a.getD i [] ∈ a := by
  rw [List.getD_eq_getElem?_getD, List.getElem?_eq_getElem h]
  exact List.getElem_mem h
theorem Put.mem {R R' l : List (List Int)} {at_ : Nat} (h : Put R R' at_ l) {r : List Int} (hr : r ∈ R') : r ∈ l ∨ r ∈ R := by
  obtain ⟨i, hi, rfl⟩ := mem_getD hr
  rw [h.len] at hi
  rw [h.get i hi]
  by_cases hc : at_ ≤ i ∧ i < at_ + l.length
  · rw [if_pos hc]
    exact .inl (getD_mem (by omega))
  · rw [if_neg hc]
    exact .inr (getD_mem hi)
theorem getD_take {a : List (List Int)} {n i : Nat} (h : i < n) : (a.take n).getD i [] = a.getD i [] := by
  rw [List.getD_eq_getElem?_getD, List.getD_eq_getElem?_getD, List.getElem?_take_of_lt h]
theorem getD_drop (a : List (List Int)) (n i : Nat) : (a.drop n).getD i [] = a.getD (n + i) [] := by
  rw [List.getD_eq_getElem?_getD, List.getD_eq_getElem?_getD, List.getElem?_drop]
theorem getD_app (a b : List (List Int)) (i : Nat) : (a ++ b).getD i [] = if i < a.length then a.getD i [] else b.getD (i - a.length) [] := by
  by_cases h : i < a.length
  · rw [if_pos h, List.getD_eq_getElem?_getD, List.getD_eq_getElem?_getD, List.getElem?_append_left h]
  · rw [if_neg h, List.getD_eq_getElem?_getD, List.getD_eq_getElem?_getD, List.getElem?_append_right (by omega)]
/-- an area that is not touched -/
theorem area_same {R R' l : List (List Int)} {at_ n : Nat} {g : Int} {fr sc : Nat} (h : Put R R' at_ l) (hf : firstN n g = (fr : Int)) (hs : secN n = (sc : Int)) (hn : fr + sc ≤ R.length) (ho : at_ + l.length ≤ fr ∨ fr + sc ≤ at_) : areaF R' n g = areaF R n g := by
  rw [area_take _ n g fr sc hf hs, area_take _ n g fr sc hf hs]
  have hl1 : ((R'.drop fr).take sc).length = sc := by rw [List.length_take, List.length_drop, h.len]; omega
  have hl2 : ((R.drop fr).take sc).length = sc := by rw [List.length_take, List.length_drop]; omega
  refine ext_getD (by rw [hl1, hl2]) fun i hi => ?_
  rw [hl1] at hi
  rw [getD_take hi, getD_take hi, getD_drop, getD_drop, h.get _ (by omega), if_neg (by omega)]
/-- a laying within an area -/
theorem area_put {R R' l : List (List Int)} {at_ n u : Nat} {g : Int} {fr sc : Nat} (h : Put R R' at_ l) (hf : firstN n g = (fr : Int)) (hs : secN n = (sc : Int)) (hn : fr + sc ≤ R.length) (ha : at_ = fr + u) (hu : u + l.length ≤ sc) : areaF R' n g = (areaF R n g).take u ++ l ++ (areaF R n g).drop (u + l.length) := by
  rw [area_take _ n g fr sc hf hs, area_take _ n g fr sc hf hs]
  have hl1 : ((R'.drop fr).take sc).length = sc := by rw [List.length_take, List.length_drop, h.len]; omega
  have hl2 : ((R.drop fr).take sc).length = sc := by rw [List.length_take, List.length_drop]; omega
  have hl3 : (((R.drop fr).take sc).take u).length = u := by rw [List.length_take, hl2]; omega
  have hl4 : (((R.drop fr).take sc).drop (u + l.length)).length = sc - (u + l.length) := by rw [List.length_drop, hl2]
  refine ext_getD (by rw [hl1, List.length_append, List.length_append, hl3, hl4]; omega) fun i hi => ?_
  rw [hl1] at hi
  rw [getD_take hi, getD_drop, h.get _ (by omega), getD_app, getD_app, List.length_append, hl3]
  by_cases h1 : i < u
  · rw [if_neg (by omega), if_pos (by omega), if_pos h1, getD_take h1, getD_take hi, getD_drop]
  · by_cases h2 : i < u + l.length
    · rw [if_pos (by omega), if_pos h2, if_neg h1, show fr + i - at_ = i - u by omega]
    · rw [if_neg (by omega), if_neg h2, getD_drop, show u + l.length + (i - (u + l.length)) = i by omega, getD_take hi, getD_drop]
theorem area_len {R : List (List Int)} {n : Nat} {g : Int} {fr sc : Nat} (hf : firstN n g = (fr : Int)) (hs : secN n = (sc : Int)) (hn : fr + sc ≤ R.length) : (areaF R n g).length = sc := by
  rw [area_take _ n g fr sc hf hs, List.length_take, List.length_drop]
  omega
theorem area_mem {R : List (List Int)} {n : Nat} {g : Int} {r : List Int} (h : r ∈ areaF R n g) : r ∈ R := List.mem_of_mem_drop (List.mem_of_mem_take h)
end Go.Proofs.Ythnjkmjcacoajaa.Jn
end

section
/- What the sectors of a journal hold, kept by Sync and Checkpoint, and read again by Open: plain. No condition beyond those stated. -/
namespace Go.Proofs.Ythnjkmjcacoajaa.Jn
open Go Go.RowKit Go.Proofs.YthnjkmjcacoajaaW.PrintWords Go.Proofs.YthnjkmjcacoajaaW.PrintLast Go.Proofs.YthnjkmjcacoajaaW.PrintMore Go.Proofs.Ythnjkmjcacoajaa.Base Go.Proofs.Ythnjkmjcacoajaa.Arr
open Go.Proofs.Ythnjkmjcacoajaa.Ext (readT stampV stampN readC runCells cellOf scanR badS okS runS Sc scan_app scan_ok scan_stop scan_run okS_app runS_app nextS pieces runCells_len readT_cell run_one scanR_cons)
open Go.Proofs.Ythnjkmjcacoajaa.FrameLink (pk joined allR all_back whole joined_nil joined_cons joined_snoc)
set_option linter.unusedVariables false
set_option linter.unusedSimpArgs false

/-! ### scanning, taken apart -/
theorem scan_split (g : Int) : ∀ (L : List (List Int)) (st : Sc) (rs : List (List Int)) (u : Int), scanR g L st = (rs, u) → ∃ A C, L = A ++ C ∧ (A.length : Int) = u ∧ okS g A st ∧ rs = (runS A st).runs ∧ ∀ c, C.head? = some c → badS g (runS A st) (readT c)
  | [], st, rs, u, h => by
    cases h
    exact ⟨[], [], rfl, rfl, trivial, rfl, fun c hc => by cases hc⟩
  | c :: cs, st, rs, u, h => by
    rw [scanR_cons] at h
    split at h
    · rename_i hb
      cases h
      exact ⟨[], c :: cs, rfl, rfl, trivial, rfl, fun x hx => by injection hx with hx; subst hx; exact hb⟩
    · rename_i hb
      have h1 := congrArg Prod.fst h
      have h2 := congrArg Prod.snd h
      simp only at h1 h2
      obtain ⟨A, C, e1, e2, e3, e4, e5⟩ := scan_split g cs (nextS st (readT c)) rs (u - 1) (Prod.ext h1 (by omega))
      refine ⟨c :: A, C, by rw [e1]; rfl, by rw [List.length_cons]; omega, ⟨hb, e3⟩, e4, e5⟩
theorem run_epoch (g E : Int) : ∀ (A : List (List Int)) (st : Sc), okS g A st → st.epoch ≤ E → (∀ c ∈ A, epF c ≤ E) → (runS A st).epoch ≤ E
  | [], st, _, h, _ => h
  | c :: cs, st, ho, h, hc => by
    refine run_epoch g E cs (nextS st (readT c)) ho.2 ?_ (fun x hx => hc x (by simp [hx]))
    show (readT c).2.1 ≤ E
    have h0 : (readT c).2.2.2.2 = 0 := Decidable.not_not.1 (fun q => ho.1 (.inl q))
    rw [(readT_front h0).2]
    exact hc c (by simp)
/-! ### what runs hold -/
theorem outTo_pre (a b : List (List Int)) : ∀ j, j ≤ a.length → outTo (a ++ b) j = outTo a j
  | 0, _ => rfl
  | j + 1, h => by
    show (outTo (a ++ b) j).bind _ = (outTo a j).bind _
    rw [outTo_pre a b j (by omega), getD_app, if_pos (by omega)]
theorem frames_all {ps : List (List Int)} (h : ∀ p ∈ ps, Ext.Bytes p ∧ p.length ≤ 8192) : allR ((joined ps).length + 1) (joined ps) [] = (ps, 0, 0) := by
  have h1 := all_back ps ((joined ps).length + 1) (joined ps).length [] h (Nat.le_refl _) (Nat.lt_succ_self _)
  have hw : ∀ P : List (List Int), whole P (joined P).length = P.length := by
    intro P
    induction P with
    | nil => rfl
    | cons p P ih =>
      show (if (pk p).length ≤ (joined (p :: P)).length then whole P ((joined (p :: P)).length - (pk p).length) + 1 else 0) = P.length + 1
      rw [joined_cons, List.length_append, if_pos (by omega), Nat.add_sub_cancel_left, ih]
  rw [hw, List.take_length, List.take_length] at h1
  rw [h1]
  simp
theorem outTo_snoc {rs : List (List Int)} {out ps : List (List Int)} (h : outTo rs rs.length = some out) (hp : ∀ p ∈ ps, Ext.Bytes p ∧ p.length ≤ 8192) : outTo (rs ++ [joined ps]) (rs ++ [joined ps]).length = some (out ++ ps) := by
  rw [List.length_append, List.length_singleton]
  show (outTo (rs ++ [joined ps]) rs.length).bind _ = _
  have hx : (rs ++ [joined ps]).getD rs.length [] = joined ps := by rw [getD_app, if_neg (Nat.lt_irrefl _), Nat.sub_self]; rfl
  rw [outTo_pre rs _ _ (Nat.le_refl _), h, Option.bind_some, hx]
  show (if (allR ((joined ps).length + 1) (joined ps) []).2.2 ≠ 0 then none else some (out ++ (allR ((joined ps).length + 1) (joined ps) []).1)) = _
  rw [frames_all hp, if_neg (by simp)]
/-! ### heads -/
theorem headF_eq (l : List (List Int)) : headF l = headStep 1 (l.getD 1 []) (headStep 0 (l.getD 0 []) (0, 0)) := rfl
theorem step_ge (i : Nat) (r : List Int) (b : Int × Int) : b.1 ≤ (headStep i r b).1 := by
  unfold headStep
  split
  · rename_i h
    exact Int.le_of_lt h.2.2.2.2
  · exact Int.le_refl _
theorem step_cell (i : Nat) (g e : Nat) (b : Int × Int) (hg0 : 0 < g) (hg : g < 4294967296) (he : e < 4294967296) (hi : g % 2 = i) (hb : b.1 < (g : Int)) : headStep i (cellOf g e true [1]) b = ((g : Int), (e : Int)) := by
  have hR := readT_cell g e true [1] hg0 hg he (by decide) (by decide)
  unfold headStep
  rw [hR]
  exact if_pos ⟨rfl, rfl, rfl, by show (g : Int) % 2 = (i : Int); omega, hb⟩
theorem step_low (i : Nat) (r : List Int) (b : Int × Int) {g : Int} (h : (headStep i r (0, 0)).1 ≤ g ∨ (headStep i r b).1 ≤ g) (hb : g ≤ b.1) (hb0 : 0 ≤ b.1) : headStep i r b = b := by
  unfold headStep at h ⊢
  by_cases hv : (readT r).2.2.2.2 = 0 ∧ (readT r).2.2.1 = true ∧ (readT r).2.2.2.1 = [1] ∧ (readT r).1 % 2 = (i : Int)
  · by_cases hlt : b.1 < (readT r).1
    · exfalso
      rcases h with h | h
      · rw [if_pos ⟨hv.1, hv.2.1, hv.2.2.1, hv.2.2.2, by show (0 : Int) < _; omega⟩] at h
        simp only at h
        omega
      · rw [if_pos ⟨hv.1, hv.2.1, hv.2.2.1, hv.2.2.2, hlt⟩] at h
        simp only at h
        omega
    · exact if_neg (fun q => hlt q.2.2.2.2)
  · exact if_neg (fun q => hv ⟨q.1, q.2.1, q.2.2.1, q.2.2.2.1⟩)
/-- a new head over the older of two -/
theorem head_put {R R' : List (List Int)} {g e : Nat} {eh : Int} (h2 : 2 ≤ R.length) (hh : headF R = ((g : Int), eh)) (hg : g + 1 < 4294967296) (he : e < 4294967296) (hp : Put R R' ((g + 1) % 2) [cellOf (g + 1) e true [1]]) : headF R' = (((g + 1 : Nat) : Int), (e : Int)) := by
  rw [headF_eq] at hh ⊢
  have hle : (headStep 0 (R.getD 0 []) (0, 0)).1 ≤ (g : Int) := by
    have := step_ge 1 (R.getD 1 []) (headStep 0 (R.getD 0 []) (0, 0))
    rw [hh] at this
    exact this
  rcases Nat.mod_two_eq_zero_or_one (g + 1) with hm | hm
  · have e0 : R'.getD 0 [] = cellOf (g + 1) e true [1] := by rw [hp.get 0 (by omega), hm, if_pos (by simp)]; rfl
    have e1 : R'.getD 1 [] = R.getD 1 [] := by rw [hp.get 1 (by omega), hm, if_neg (by simp)]
    rw [e0, e1, step_cell 0 (g + 1) e (0, 0) (by omega) hg he hm (by show (0 : Int) < _; omega)]
    refine step_low 1 _ _ (g := (g : Int)) ?_ (by show (g : Int) ≤ ((g + 1 : Nat) : Int); omega) (by show (0 : Int) ≤ ((g + 1 : Nat) : Int); omega)
    by_cases hv : (headStep 1 (R.getD 1 []) (0, 0)).1 ≤ (g : Int)
    · exact .inl hv
    · exfalso
      unfold headStep at hv hh
      split at hv
      · rename_i hq
        rw [if_pos ⟨hq.1, hq.2.1, hq.2.2.1, hq.2.2.2.1, by
          have : (readT (R.getD 1 [])).1 > (g : Int) := by simpa using hv
          have h3 := hle
          unfold headStep at h3
          omega⟩] at hh
        have := congrArg Prod.fst hh
        simp only at this hv
        omega
      · simp only at hv
        omega
  · have e0 : R'.getD 0 [] = R.getD 0 [] := by rw [hp.get 0 (by omega), hm, if_neg (by simp)]
    have e1 : R'.getD 1 [] = cellOf (g + 1) e true [1] := by rw [hp.get 1 (by omega), hm, if_pos (by simp)]; rfl
    rw [e0, e1]
    exact step_cell 1 (g + 1) e _ (by omega) hg he hm (by omega)
/-- the first head -/
theorem head_first {R R' : List (List Int)} {e : Nat} (h2 : 2 ≤ R.length) (hh : (headF R).1 = 0) (he : e < 4294967296) (hp : Put R R' 1 [cellOf 1 e true [1]]) : headF R' = (1, (e : Int)) := by
  rw [headF_eq] at hh ⊢
  have e0 : R'.getD 0 [] = R.getD 0 [] := by rw [hp.get 0 (by omega), if_neg (by simp)]
  have e1 : R'.getD 1 [] = cellOf 1 e true [1] := by rw [hp.get 1 (by omega), if_pos (by simp)]; rfl
  rw [e0, e1]
  have hle := step_ge 1 (R.getD 1 []) (headStep 0 (R.getD 0 []) (0, 0))
  rw [hh] at hle
  exact step_cell 1 1 e _ (by decide) (by decide) he rfl (by omega)
theorem head_epoch {R : List (List Int)} (h2 : 2 ≤ R.length) (hs : ∀ r ∈ R, True) : (headF R).1 ≠ 0 → (headF R).2 ≤ epochF R := by
  intro hn
  have key : ∀ i r b, r ∈ R → (headStep i r b = b ∨ ((headStep i r b).2 ≤ epochF R)) := by
    intro i r b hr
    unfold headStep
    split
    · rename_i hq
      refine .inr ?_
      show (readT r).2.1 ≤ _
      rw [(readT_front hq.1).2]
      exact epoch_ge hr
    · exact .inl rfl
  have m0 := getD_mem (a := R) (i := 0) (by omega)
  have m1 := getD_mem (a := R) (i := 1) (by omega)
  rw [headF_eq] at hn ⊢
  rcases key 1 _ (headStep 0 (R.getD 0 []) (0, 0)) m1 with q | q
  · rw [q] at hn ⊢
    rcases key 0 _ (0, 0) m0 with q0 | q0
    · rw [q0] at hn
      exact absurd rfl hn
    · exact q0
  · exact q
end Go.Proofs.Ythnjkmjcacoajaa.Jn
end

section
/- The journal's sectors as one statement: opened, synced, checkpointed. Plain. -/
namespace Go.Proofs.Ythnjkmjcacoajaa.Jn
open Go Go.RowKit Go.Proofs.YthnjkmjcacoajaaW.PrintWords Go.Proofs.YthnjkmjcacoajaaW.PrintLast Go.Proofs.YthnjkmjcacoajaaW.PrintMore Go.Proofs.Ythnjkmjcacoajaa.Base Go.Proofs.Ythnjkmjcacoajaa.Arr
open Go.Proofs.Ythnjkmjcacoajaa.Ext (readT stampV stampN readC runCells cellOf scanR badS okS runS Sc scan_app scan_ok scan_stop scan_run okS_app runS_app nextS pieces runCells_len readT_cell run_one scanR_cons)
open Go.Proofs.Ythnjkmjcacoajaa.FrameLink (pk joined allR all_back whole joined_nil joined_cons joined_snoc)
set_option linter.unusedVariables false
set_option linter.unusedSimpArgs false

/-- what the sectors R (n of them) hold: generation g, no epoch above e, u cells, these payloads -/
structure Body (R : List (List Int)) (n g e u : Nat) (out : List (List Int)) : Prop where
  len : R.length = n
  n6 : 6 ≤ n
  n5 : n ≤ 512
  g0 : 0 < g
  g1 : g < 4294967296
  e1 : e < 4294967296
  secs : Secs R
  all : ∀ r ∈ R, epF r ≤ (e : Int) ∧ (epF r < (e : Int) ∨ gnF r ≤ (g : Int))
  rest : ∃ (eh : Int) (A C : List (List Int)), eh ≤ (e : Int) ∧ headF R = ((g : Int), eh) ∧ areaF R n g = A ++ C ∧ A.length = u ∧ okS g A ⟨[], eh, true⟩ ∧ outTo (runS A ⟨[], eh, true⟩).runs (runS A ⟨[], eh, true⟩).runs.length = some out ∧ (∀ c, C.head? = some c → badS g (runS A ⟨[], eh, true⟩) (readT c)) ∧ ∀ c ∈ C, epF c < (e : Int) ∨ gnF c < (g : Int)
/-- read again, it is what it was -/
theorem Body.reads {R : List (List Int)} {n g e u : Nat} {out : List (List Int)} (h : Body R n g e u out) : (headF R).1 = (g : Int) ∧ scanF (areaF R n (headF R).1) (headF R).1 (headF R).2 = some out ∧ (scanQ (areaF R n (headF R).1) (headF R).1 (headF R).2).2 = (u : Int) := by
  obtain ⟨eh, A, C, h1, h2, h3, h4, h5, h6, h7, h8⟩ := h.rest
  rw [h2]
  simp only
  have hs : scanR (g : Int) (A ++ C) ⟨[], eh, true⟩ = ((runS A ⟨[], eh, true⟩).runs, (A.length : Int)) := by
    cases hC : C with
    | nil => rw [List.append_nil]; exact scan_ok _ _ _ h5
    | cons c cs => exact scan_stop _ _ _ _ _ h5 (h7 c (by rw [hC]; rfl))
  refine ⟨by first | rfl | trivial, ?_, ?_⟩
  · unfold scanF scanQ
    rw [h3, hs]
    exact h6
  · unfold scanQ
    rw [h3, hs, ← h4]
/-- what Open finds, with a fresh epoch -/
theorem Body.found {R : List (List Int)} {n g e u : Nat} {out : List (List Int)} (hl : R.length = n) (h6 : 6 ≤ n) (h5 : n ≤ 512) (hs : Secs R) (hh : (headF R).1 = (g : Int)) (hg : 0 < g) (hg1 : g < 4294967296) (he : (e : Int) = epochF R + 1) (he1 : e < 4294967296) (hu : (scanQ (areaF R n g) g (headF R).2).2 = (u : Int)) (ho : scanF (areaF R n g) g (headF R).2 = some out) : Body R n g e u out := by
  obtain ⟨A, C, e1, e2, e3, e4, e5⟩ := scan_split (g : Int) (areaF R n g) ⟨[], (headF R).2, true⟩ (scanQ (areaF R n g) g (headF R).2).1 (scanQ (areaF R n g) g (headF R).2).2 rfl
  refine ⟨hl, h6, h5, hg, hg1, he1, hs, fun r hr => ?_, (headF R).2, A, C, ?_, ?_, e1, ?_, e3, ?_, e5, fun c hc => .inl ?_⟩
  · have := epoch_ge hr
    omega
  · have := head_epoch (R := R) (by omega) (fun _ _ => trivial) (by omega)
    omega
  · rw [← hh]
  · rw [hu] at e2
    omega
  · unfold scanF at ho
    rw [e4] at ho
    exact ho
  · have := epoch_ge (area_mem (n := n) (g := (g : Int)) (R := R) (r := c) (by rw [e1]; exact List.mem_append_right _ hc))
    omega
/-- a later opening, of the same sectors -/
theorem Body.again {R : List (List Int)} {n g e u : Nat} {out : List (List Int)} (h : Body R n g e u out) {e' : Nat} (he : (e' : Int) = epochF R + 1) (he1 : e' < 4294967296) : Body R n g e' u out := by
  obtain ⟨r1, r2, r3⟩ := h.reads
  rw [r1] at r2 r3
  exact Body.found h.len h.n6 h.n5 h.secs r1 h.g0 h.g1 he he1 r3 r2
theorem secs_put {R R' l : List (List Int)} {at_ : Nat} (h : Put R R' at_ l) (hs : Secs R) (hl : Secs l) : Secs R' := fun r hr => (h.mem hr).elim (hl r) (hs r)
/-- the waiting bytes are laid behind what is there -/
theorem Body.sync {R R' : List (List Int)} {n g e u : Nat} {out ps : List (List Int)} {fr sc at_ : Nat} (h : Body R n g e u out) (hf : firstN n g = (fr : Int)) (hsc : secN n = (sc : Int)) (hn : fr + sc ≤ n) (h2 : 2 ≤ fr) (ha : at_ = fr + u) (hps : ∀ p ∈ ps, Ext.Bytes p ∧ p.length ≤ 8192) (hb0 : 0 < (joined ps).length) (hk : u + pieces (joined ps).length ≤ sc) (hp : Put R R' at_ (runCells g e (joined ps))) :
    Body R' n g e (u + pieces (joined ps).length) (out ++ ps) := by
  obtain ⟨eh, A, C, h1, hh, har, hA, hok, hou, hbad, hC⟩ := h.rest
  have hlen := runCells_len g e (joined ps)
  have hjb : Ext.Bytes (joined ps) := FrameLink.joined_bytes hps
  have harea := area_put (n := n) (g := (g : Int)) hp hf hsc (by rw [h.len]; exact hn) ha (by rw [hlen]; exact hk)
  rw [har, List.take_left' hA, hlen] at harea
  have hdrop : (A ++ C).drop (u + pieces (joined ps).length) = C.drop (pieces (joined ps).length) := by rw [List.drop_append, List.drop_eq_nil_of_le (by omega), List.nil_append, hA, Nat.add_sub_cancel_left]
  rw [hdrop] at harea
  have hep : (runS A ⟨[], eh, true⟩).epoch ≤ (e : Int) := run_epoch g e A _ hok h1 (fun c hc => (h.all c (area_mem (n := n) (g := (g : Int)) (by rw [har]; exact List.mem_append_left _ hc))).1)
  obtain ⟨s1, s2⟩ := scan_run g e (joined ps) h.g0 h.g1 h.e1 hb0 _ hep
  have hr0 : R'.getD 0 [] = R.getD 0 [] := by rw [hp.get 0 (by have := h.len; have := h.n6; omega), if_neg (by omega)]
  have hr1 : R'.getD 1 [] = R.getD 1 [] := by rw [hp.get 1 (by have := h.len; have := h.n6; omega), if_neg (by omega)]
  refine ⟨hp.len.trans h.len, h.n6, h.n5, h.g0, h.g1, h.e1, secs_put hp h.secs (run_secs hjb), fun r hr => ?_, eh, A ++ runCells g e (joined ps), C.drop (pieces (joined ps).length), h1, ?_, harea, ?_, ?_, ?_, fun c hc => ?_, fun c hc => hC c (List.mem_of_mem_drop hc)⟩
  · rcases hp.mem hr with q | q
    · obtain ⟨q1, q2⟩ := run_front h.g1 h.e1 q
      rw [q1, q2]
      exact ⟨Int.le_refl _, .inr (Int.le_refl _)⟩
    · exact h.all r q
  · rw [headF_eq, hr0, hr1, ← headF_eq]
    exact hh
  · rw [List.length_append, hA, hlen]
  · rw [okS_app]
    exact ⟨hok, s1⟩
  · rw [runS_app, s2]
    exact outTo_snoc hou hps
  · rw [runS_app, s2]
    have hm : c ∈ C := by
      cases hx : C.drop (pieces (joined ps).length) with
      | nil => rw [hx] at hc; cases hc
      | cons y ys =>
        rw [hx] at hc
        injection hc with hc
        subst hc
        exact List.mem_of_mem_drop (by rw [hx]; simp)
    rcases hC c hm with q | q
    · exact bad_of (.inl q)
    · exact bad_of (.inr (by omega))
/-- a checkpoint: a run in the other area, then its head -/
theorem Body.ckpt {R R1 R2 : List (List Int)} {n g e u : Nat} {out ps : List (List Int)} {fr sc : Nat} (h : Body R n g e u out) (hg : g + 1 < 4294967296) (hf : firstN n ((g + 1 : Nat) : Int) = (fr : Int)) (hsc : secN n = (sc : Int)) (hn : fr + sc ≤ n) (h2 : 2 ≤ fr) (hps : ∀ p ∈ ps, Ext.Bytes p ∧ p.length ≤ 8192) (hb0 : 0 < (joined ps).length) (hk : pieces (joined ps).length ≤ sc) (hp : Put R R1 fr (runCells (g + 1) e (joined ps))) (hp2 : Put R1 R2 ((g + 1) % 2) (runCells (g + 1) e [1])) :
    Body R2 n (g + 1) e (pieces (joined ps).length) ps := by
  obtain ⟨eh, A, C, h1, hh, har, hA, hok, hou, hbad, hC⟩ := h.rest
  have hone : runCells (g + 1) e [1] = [cellOf (g + 1) e true [1]] := run_one (g + 1) e [1] (by decide) (by decide)
  have hlen := runCells_len (g + 1) e (joined ps)
  have hjb : Ext.Bytes (joined ps) := FrameLink.joined_bytes hps
  have hl := h.len
  have h6 := h.n6
  have hm2 : (g + 1) % 2 < 2 := Nat.mod_lt _ (by decide)
  have harea1 := area_put (n := n) (g := ((g + 1 : Nat) : Int)) (u := 0) hp hf hsc (by omega) rfl (by rw [hlen]; omega)
  have harea2 := area_same (n := n) (g := ((g + 1 : Nat) : Int)) hp2 hf hsc (by rw [hp.len]; omega) (.inl (by rw [hone, List.length_singleton]; omega))
  rw [harea1, List.take_zero, List.nil_append, hlen, Nat.zero_add] at harea2
  have hr0 : R1.getD 0 [] = R.getD 0 [] := by rw [hp.get 0 (by omega), if_neg (by omega)]
  have hr1 : R1.getD 1 [] = R.getD 1 [] := by rw [hp.get 1 (by omega), if_neg (by omega)]
  have hh1 : headF R1 = ((g : Int), eh) := by rw [headF_eq, hr0, hr1, ← headF_eq]; exact hh
  have hh2 := head_put (R := R1) (R' := R2) (g := g) (e := e) (by rw [hp.len]; omega) hh1 hg h.e1 (by rw [← hone]; exact hp2)
  obtain ⟨s1, s2⟩ := scan_run (g + 1) e (joined ps) (by omega) hg h.e1 hb0 ⟨[], (e : Int), true⟩ (Int.le_refl _)
  have hold : ∀ c ∈ R, epF c < (e : Int) ∨ gnF c < ((g + 1 : Nat) : Int) := fun c hc => by
    rcases (h.all c hc).2 with q | q
    · exact .inl q
    · exact .inr (by omega)
  have hCm : ∀ c ∈ (areaF R n ((g + 1 : Nat) : Int)).drop (pieces (joined ps).length), epF c < (e : Int) ∨ gnF c < ((g + 1 : Nat) : Int) := fun c hc => hold c (area_mem (List.mem_of_mem_drop hc))
  refine ⟨hp2.len.trans (hp.len.trans hl), h6, h.n5, by omega, hg, h.e1, secs_put hp2 (secs_put hp h.secs (run_secs hjb)) (run_secs (fun x hx => by rw [List.mem_singleton.1 hx]; decide)), fun r hr => ?_, (e : Int), runCells (g + 1) e (joined ps), (areaF R n ((g + 1 : Nat) : Int)).drop (pieces (joined ps).length), Int.le_refl _, hh2, harea2, hlen, s1, ?_, fun c hc => ?_, hCm⟩
  · rcases hp2.mem hr with q | q
    · obtain ⟨q1, q2⟩ := run_front hg h.e1 q
      rw [q1, q2]
      exact ⟨Int.le_refl _, .inr (Int.le_refl _)⟩
    · rcases hp.mem q with q | q
      · obtain ⟨q1, q2⟩ := run_front hg h.e1 q
        rw [q1, q2]
        exact ⟨Int.le_refl _, .inr (Int.le_refl _)⟩
      · have := h.all r q
        exact ⟨this.1, this.2.imp id (fun x => by omega)⟩
  · rw [s2]
    have := outTo_snoc (rs := []) (out := []) (ps := ps) rfl hps
    simpa using this
  · rw [s2]
    have hm : c ∈ (areaF R n ((g + 1 : Nat) : Int)).drop (pieces (joined ps).length) := by
      cases hx : (areaF R n ((g + 1 : Nat) : Int)).drop (pieces (joined ps).length) with
      | nil => rw [hx] at hc; cases hc
      | cons y ys =>
        rw [hx] at hc
        injection hc with hc
        subst hc
        simp
    rcases hCm c hm with q | q
    · exact bad_of (.inl q)
    · exact bad_of (.inr (by omega))
/-- the first head of a disk that has none -/
theorem Body.fresh {R R' : List (List Int)} {n e : Nat} (hl : R.length = n) (h6 : 6 ≤ n) (h5 : n ≤ 512) (hs : Secs R) (hh : (headF R).1 = 0) (he : (e : Int) = epochF R + 1) (he1 : e < 4294967296) (hp : Put R R' 1 (runCells 1 e [1])) : Body R' n 1 e 0 [] := by
  have hone : runCells 1 e [1] = [cellOf 1 e true [1]] := run_one 1 e [1] (by decide) (by decide)
  have hh2 := head_first (R := R) (R' := R') (e := e) (by omega) hh he1 (by rw [← hone]; exact hp)
  obtain ⟨fr, sc, hf, hsc, hn, _⟩ := area_nums n 1 ⟨h6, h5⟩
  have hfr : 2 ≤ fr := by
    have : firstN n 1 = 2 + 1 * secN n := rfl
    have h0 : 0 ≤ secN n := by unfold secN; omega
    omega
  have harea := area_same (n := n) (g := 1) hp hf hsc (by omega) (.inl (by rw [hone, List.length_singleton]; omega))
  have hC : ∀ c ∈ areaF R n 1, epF c < (e : Int) := fun c hc => by have := epoch_ge (area_mem hc); omega
  refine ⟨hp.len.trans hl, h6, h5, by decide, by decide, he1, secs_put hp hs (run_secs (fun x hx => by rw [List.mem_singleton.1 hx]; decide)), fun r hr => ?_, (e : Int), [], areaF R n 1, Int.le_refl _, hh2, harea, rfl, trivial, rfl, fun c hc => ?_, fun c hc => .inl (hC c hc)⟩
  · rcases hp.mem hr with q | q
    · obtain ⟨q1, q2⟩ := run_front (by decide) he1 q
      rw [q1, q2]
      exact ⟨Int.le_refl _, .inr (by decide)⟩
    · have := epoch_ge q
      exact ⟨by omega, .inl (by omega)⟩
  · have hm : c ∈ areaF R n 1 := by
      cases hx : areaF R n 1 with
      | nil => rw [hx] at hc; cases hc
      | cons y ys =>
        rw [hx] at hc
        injection hc with hc
        subst hc
        simp
    exact bad_of (.inl (hC c hm))
end Go.Proofs.Ythnjkmjcacoajaa.Jn
end

section
/- A journal on its disk: what Open, Append, Sync and Checkpoint keep. Plain. -/
namespace Go.Proofs.Ythnjkmjcacoajaa.Jn
open Go Go.RowKit Go.Proofs.YthnjkmjcacoajaaW.PrintWords Go.Proofs.YthnjkmjcacoajaaW.PrintLast Go.Proofs.YthnjkmjcacoajaaW.PrintMore Go.Proofs.Ythnjkmjcacoajaa.Base Go.Proofs.Ythnjkmjcacoajaa.Arr
open Go.Proofs.Ythnjkmjcacoajaa.Dk (DS DiskIs DiskTo writeF flushF doingF secOf)
open Go.Proofs.Ythnjkmjcacoajaa.Ext (runCells pieces runCells_len)
open Go.Proofs.Ythnjkmjcacoajaa.FrameLink (pk joined joined_nil joined_cons joined_snoc pk_len)
set_option linter.unusedVariables false
set_option linter.unusedSimpArgs false

theorem calm_row {d : DS} (h : Calm d) (i : Nat) (hi : i < d.n) : (rowsD d).getD i [] = secOf d.stays i := by
  unfold rowsD rowsTo
  rw [List.getD_eq_getElem?_getD, List.getElem?_map, List.getElem?_range hi]
  show Dk.curS d.stays d.waits i = _
  rw [h.waits]
  rfl
theorem calm_len (d : DS) : (rowsD d).length = d.n := rowsTo_len d d.n
theorem put_rows {d : DS} {at_ : Nat} {l : List (List Int)} (hd : Calm d) (hl : l ≠ []) (h : (putF d (at_ : Int) l).1 = 0) : Calm (putF d (at_ : Int) l).2 ∧ (putF d (at_ : Int) l).2.n = d.n ∧ Put (rowsD d) (rowsD (putF d (at_ : Int) l).2) at_ l := by
  obtain ⟨h1, h2, h3, h4, h5⟩ := put_ok hd hl h
  refine ⟨h1, h2, ?_, ?_, fun i hi => ?_⟩
  · rw [calm_len, calm_len, h2]
  · rw [calm_len]; exact h3
  · rw [calm_len] at hi
    rw [calm_row h1 i (by rw [h2]; exact hi), calm_row hd i hi]
    exact h5 i hi
def Pay (l : List (List Int)) : Prop := ∀ p ∈ l, Ext.Bytes p ∧ p.length ≤ 8192
structure JInv (d : DS) (s : JS) (l : List (List Int)) (m : Nat) : Prop where
  calm : Calm d
  gen : 0 ≤ s.gen
  ep : 0 ≤ s.epoch
  us : 0 ≤ s.used
  body : Body (rowsD d) d.n s.gen.toNat s.epoch.toNat s.used.toNat (l.take m)
  br : s.broken = false
  sy : s.synced = (m : Int)
  cnt : s.count = (l.length : Int)
  ml : m ≤ l.length
  wt : s.waits = joined (l.drop m)
  pay : Pay l
  room : s.used + cntN s.waits.length ≤ secN d.n
theorem JInv.good {d : DS} {s : JS} {l : List (List Int)} {m : Nat} (h : JInv d s l m) : Ext.goodS s.gen s.epoch := by
  have h1 := h.body.g0
  have h2 := h.body.g1
  have h3 := h.body.e1
  have h4 := h.gen
  have h5 := h.ep
  exact ⟨by omega, by omega, h5, by omega⟩
theorem secN_le (n : Nat) (h : n ≤ 512) : secN n ≤ 255 := by unfold secN; omega
theorem cnt_le (n : Nat) {k : Int} (h : cntN n ≤ k) (hk : k ≤ 255) : n ≤ 11985 := by unfold cntN at h; omega
theorem JInv.waits_le {d : DS} {s : JS} {l : List (List Int)} {m : Nat} (h : JInv d s l m) : s.waits.length ≤ 11985 ∧ s.used ≤ 255 := by
  have h1 := h.room
  have h2 := secN_le d.n h.calm.n2
  have h3 := h.us
  have h4 : 0 ≤ cntN s.waits.length := by unfold cntN; omega
  exact ⟨cnt_le _ (k := cntN s.waits.length) (Int.le_refl _) (by omega), by omega⟩
theorem JInv.sok {d : DS} {s : JS} {l : List (List Int)} {m : Nat} (h : JInv d s l m) (hl : l.length ≤ 1000000000000) : SOK s := by
  obtain ⟨h1, h2⟩ := h.waits_le
  have h3 := h.us
  have h4 := h.good
  have h5 := h.cnt
  exact ⟨by omega, ⟨h3, by omega⟩, ⟨by omega, by omega⟩, by have := h4.1; omega, by have := h4.2.1; omega⟩
theorem pay_take {l : List (List Int)} (h : Pay l) (m : Nat) : Pay (l.take m) := fun p hp => h p (List.mem_of_mem_take hp)
theorem pay_drop {l : List (List Int)} (h : Pay l) (m : Nat) : Pay (l.drop m) := fun p hp => h p (List.mem_of_mem_drop hp)
theorem joined_nz {l : List (List Int)} (h : (joined l).length = 0) : l = [] := by
  cases l with
  | nil => rfl
  | cons p l =>
    rw [joined_cons, List.length_append, pk_len] at h
    omega
/-- Open of sectors that hold a journal -/
theorem open_reads {d : DS} {g e u : Nat} {out : List (List Int)} (hd : Calm d) (hb : Body (rowsD d) d.n g e u out) (he : epochF (rowsD d) + 1 ≤ 4294967295) (hp : Pay out) (hu : (u : Int) ≤ secN d.n) :
    openF d = (0, d, some (⟨(g : Int), epochF (rowsD d) + 1, (u : Int), out.length, out.length, [], false⟩, out)) ∧ JInv d ⟨(g : Int), epochF (rowsD d) + 1, (u : Int), out.length, out.length, [], false⟩ out out.length := by
  obtain ⟨r1, r2, r3⟩ := hb.reads
  have h0 := epochF_range (rowsD d)
  have hg := hb.g0
  constructor
  · unfold openF
    rw [if_neg (by rw [hd.dead]; decide), if_neg (by have := hb.n6; omega), if_neg (by omega), r1, if_neg (by omega)]
    rw [r1] at r2 r3
    rw [r2, r3]
  · have hag := hb.again (e' := (epochF (rowsD d) + 1).toNat) (by omega) (by omega)
    refine ⟨hd, by show 0 ≤ (g : Int); omega, by show 0 ≤ epochF (rowsD d) + 1; omega, by show 0 ≤ (u : Int); omega, ?_, rfl, rfl, rfl, Nat.le_refl _, ?_, hp, ?_⟩
    · show Body (rowsD d) d.n ((g : Int)).toNat (epochF (rowsD d) + 1).toNat ((u : Int)).toNat _
      rw [Int.toNat_natCast, Int.toNat_natCast, List.take_length]
      exact hag
    · show [] = joined (out.drop out.length)
      rw [List.drop_length]
      rfl
    · show (u : Int) + cntN 0 ≤ _
      have : cntN 0 = 0 := rfl
      omega
/-- Open of sectors without a head, if its laying goes well -/
theorem open_fresh {d : DS} (hd : Calm d) (h6 : 6 ≤ d.n) (hs : Secs (rowsD d)) (hh : (headF (rowsD d)).1 = 0) (he : epochF (rowsD d) + 1 ≤ 4294967295) (hl : (layF d (newJ (epochF (rowsD d) + 1)) 1 1 [1]).1 = 0) :
    openF d = (0, (layF d (newJ (epochF (rowsD d) + 1)) 1 1 [1]).2.1, some ((layF d (newJ (epochF (rowsD d) + 1)) 1 1 [1]).2.2, [])) ∧ (layF d (newJ (epochF (rowsD d) + 1)) 1 1 [1]).2.1.n = d.n ∧ JInv (layF d (newJ (epochF (rowsD d) + 1)) 1 1 [1]).2.1 (layF d (newJ (epochF (rowsD d) + 1)) 1 1 [1]).2.2 [] 0 := by
  have h0 := epochF_range (rowsD d)
  have hone : runCells 1 (epochF (rowsD d) + 1).toNat [1] ≠ [] := by
    intro q
    have := runCells_len 1 (epochF (rowsD d) + 1).toNat [1]
    rw [q] at this
    exact absurd this (by decide)
  have hl2 : (putF d ((1 : Nat) : Int) (runCells 1 (epochF (rowsD d) + 1).toNat [1])).1 = 0 := hl
  obtain ⟨p1, p2, p3⟩ := put_rows hd hone hl2
  have hb := Body.fresh (calm_len d) h6 hd.n2 hs hh (e := (epochF (rowsD d) + 1).toNat) (by omega) (by omega) p3
  have hbr : (layF d (newJ (epochF (rowsD d) + 1)) 1 1 [1]).2.2 = newJ (epochF (rowsD d) + 1) := by
    have : (layF d (newJ (epochF (rowsD d) + 1)) 1 1 [1]).2.2 = { newJ (epochF (rowsD d) + 1) with broken := false || (layF d (newJ (epochF (rowsD d) + 1)) 1 1 [1]).1 != 0 } := rfl
    rw [this, hl]
    rfl
  refine ⟨?_, p2, ?_⟩
  · unfold openF
    rw [if_neg (by rw [hd.dead]; decide), if_neg (by omega), if_neg (by omega), if_pos hh, if_neg (fun q => q hl)]
  · rw [hbr]
    refine ⟨p1, by show (0 : Int) ≤ 1; decide, by show 0 ≤ epochF (rowsD d) + 1; omega, by show (0 : Int) ≤ 0; decide, ?_, rfl, rfl, rfl, Nat.le_refl _, rfl, fun p hp => (by cases hp), ?_⟩
    · have hb' := hb
      rw [← p2] at hb'
      exact hb'
    · show (0 : Int) + cntN 0 ≤ secN (putF d ((1 : Nat) : Int) (runCells 1 (epochF (rowsD d) + 1).toNat [1])).2.n
      rw [p2]
      have h1 : cntN 0 = 0 := rfl
      have h2 : 0 ≤ secN d.n := by unfold secN; omega
      omega
/-- Append of a payload, where there is room, and where not -/
theorem append_inv {d : DS} {s : JS} {l : List (List Int)} {m : Nat} {b : List Int} (h : JInv d s l m) (hb : Ext.Bytes b) (hl : b.length ≤ 8192) :
    (cntN (s.waits.length + (pk b).length) ≤ secN d.n - s.used → appendF d.n s b = (0, { s with waits := s.waits ++ pk b, count := s.count + 1 }) ∧ JInv d { s with waits := s.waits ++ pk b, count := s.count + 1 } (l ++ [b]) m) ∧
    (¬ cntN (s.waits.length + (pk b).length) ≤ secN d.n - s.used → appendF d.n s b = (7, s)) := by
  have hp : packedF s b = (pk b, 0) := by
    unfold packedF
    rw [if_neg (by rw [h.br]; decide), if_pos hl]
  constructor
  · intro hr
    refine ⟨?_, h.calm, h.gen, h.ep, h.us, ?_, h.br, h.sy, ?_, ?_, ?_, ?_, ?_⟩
    · unfold appendF
      rw [hp, if_neg (by simp), if_neg (by simp only; omega)]
    · show Body _ _ _ _ _ ((l ++ [b]).take m)
      rw [List.take_append_of_le_length h.ml]
      exact h.body
    · show s.count + 1 = _
      rw [h.cnt, List.length_append, List.length_singleton]
      omega
    · rw [List.length_append]
      have := h.ml
      omega
    · show s.waits ++ pk b = _
      rw [List.drop_append_of_le_length h.ml, joined_snoc, h.wt]
    · intro p hpm
      rcases List.mem_append.1 hpm with q | q
      · exact h.pay p q
      · rw [List.mem_singleton.1 q]; exact ⟨hb, hl⟩
    · show s.used + cntN (s.waits ++ pk b).length ≤ _
      rw [List.length_append]
      omega
  · intro hr
    unfold appendF
    rw [hp, if_neg (by simp), if_pos (by simp only; omega)]
theorem firstN_ge (n : Nat) (g : Int) : 2 ≤ firstN n g := by
  unfold firstN
  have h1 : 0 ≤ secN n := by unfold secN; omega
  have h2 : 0 ≤ g % 2 := by omega
  have := Int.mul_nonneg h2 h1
  omega
/-- Sync, if it goes well -/
theorem sync_inv {d : DS} {s : JS} {l : List (List Int)} {m : Nat} (h : JInv d s l m) (ho : (syncF d s).1 = 0) : JInv (syncF d s).2.1 (syncF d s).2.2 l l.length ∧ (syncF d s).2.1.n = d.n ∧ (syncF d s).2.2.epoch = s.epoch ∧ (syncF d s).2.2.gen = s.gen := by
  unfold syncF at ho ⊢
  rw [if_neg (by rw [h.br]; decide)] at ho ⊢
  by_cases h0 : s.waits.length = 0
  · rw [if_pos h0]
    have hd : l.drop m = [] := joined_nz (by rw [← h.wt]; exact h0)
    have hm : m = l.length := by
      have := congrArg List.length hd
      rw [List.length_drop] at this
      have := h.ml
      simp only [List.length_nil] at *
      omega
    exact ⟨by rw [← hm]; exact h, rfl, rfl, rfl⟩
  · rw [if_neg h0] at ho ⊢
    simp only at ho ⊢
    split at ho
    · rename_i h1
      exact absurd ho h1
    · rename_i h1
      rw [if_neg h1]
      have h1' := Decidable.not_not.1 h1
      obtain ⟨fr, sc, hf, hsc, hn, _⟩ := area_nums d.n s.gen ⟨h.body.n6, h.body.n5⟩
      have hge := firstN_ge d.n s.gen
      have hus := h.us
      have hgn := h.gen
      have hen := h.ep
      have hroom := h.room
      have hat : firstN d.n s.gen + s.used = ((fr + s.used.toNat : Nat) : Int) := by omega
      have hq : (putF d ((fr + s.used.toNat : Nat) : Int) (runCells s.gen.toNat s.epoch.toNat s.waits)).1 = 0 := by rw [← hat]; exact h1'
      have hne : runCells s.gen.toNat s.epoch.toNat s.waits ≠ [] := by
        intro q
        have := runCells_len s.gen.toNat s.epoch.toNat s.waits
        rw [q] at this
        unfold pieces at this
        simp only [List.length_nil] at this
        omega
      obtain ⟨p1, p2, p3⟩ := put_rows h.calm hne hq
      rw [h.wt] at p3 hroom h0
      have hcp := cnt_pieces (joined (l.drop m)).length
      have hsy := h.body.sync (ps := l.drop m) (fr := fr) (sc := sc) (at_ := fr + s.used.toNat) (by rw [Int.toNat_of_nonneg hgn]; exact hf) hsc hn (by omega) rfl (pay_drop h.pay m) (by omega) (by omega) p3
      rw [List.take_append_drop] at hsy
      have hlay : layF d s (firstN d.n s.gen + s.used) s.gen s.waits = ((putF d ((fr + s.used.toNat : Nat) : Int) (runCells s.gen.toNat s.epoch.toNat s.waits)).1, (putF d ((fr + s.used.toNat : Nat) : Int) (runCells s.gen.toNat s.epoch.toNat s.waits)).2, { s with broken := s.broken || (putF d ((fr + s.used.toNat : Nat) : Int) (runCells s.gen.toNat s.epoch.toNat s.waits)).1 != 0 }) := by rw [← hat]; rfl
      rw [hlay, hq]
      simp only
      have hn2 := h.cnt
      refine ⟨⟨p1, hgn, hen, ?_, ?_, ?_, ?_, hn2, Nat.le_refl _, ?_, h.pay, ?_⟩, p2, by first | rfl | trivial, by first | rfl | trivial⟩
      · show 0 ≤ s.used + cntN s.waits.length
        unfold cntN
        omega
      · show Body _ (putF d _ _).2.n s.gen.toNat s.epoch.toNat (s.used + cntN s.waits.length).toNat (l.take l.length)
        rw [p2, List.take_length, h.wt, show (s.used + cntN (joined (l.drop m)).length).toNat = s.used.toNat + pieces (joined (l.drop m)).length by rw [hcp]; omega]
        rw [h.wt] at *
        exact hsy
      · show (s.broken || (0 : Int) != 0) = false
        rw [h.br]
        rfl
      · exact hn2
      · show [] = joined (l.drop l.length)
        rw [List.drop_length]
        rfl
      · show s.used + cntN s.waits.length + cntN 0 ≤ secN (putF d _ _).2.n
        rw [p2, h.wt]
        have : cntN 0 = 0 := rfl
        omega
end Go.Proofs.Ythnjkmjcacoajaa.Jn
end

section
/- Checkpoint keeps the journal's law; where no power fails, all goes well. Plain. -/
namespace Go.Proofs.Ythnjkmjcacoajaa.Jn
open Go Go.RowKit Go.Proofs.YthnjkmjcacoajaaW.PrintWords Go.Proofs.YthnjkmjcacoajaaW.PrintLast Go.Proofs.YthnjkmjcacoajaaW.PrintMore Go.Proofs.Ythnjkmjcacoajaa.Base Go.Proofs.Ythnjkmjcacoajaa.Arr
open Go.Proofs.Ythnjkmjcacoajaa.Dk (DS DiskIs DiskTo writeF flushF doingF secOf)
open Go.Proofs.Ythnjkmjcacoajaa.Ext (runCells pieces runCells_len)
open Go.Proofs.Ythnjkmjcacoajaa.FrameLink (pk joined joined_nil joined_cons joined_snoc pk_len)
set_option linter.unusedVariables false
set_option linter.unusedSimpArgs false

theorem run_64 {g e : Nat} {b c : List Int} (h : c ∈ runCells g e b) : c.length = 64 := by
  obtain ⟨f, p, hp, rfl, _⟩ := run_mem h
  exact Ext.cellOf_len g e f p hp
theorem run_ne {g e : Nat} {b : List Int} (h : 0 < b.length) : runCells g e b ≠ [] := by
  intro q
  have := runCells_len g e b
  rw [q] at this
  unfold pieces at this
  simp only [List.length_nil] at this
  omega
/-- a laying of the journal, as a laying on the disk -/
theorem lay_as (d : DS) (s : JS) (a : Nat) (g : Int) (b : List Int) : layF d s (a : Int) g b = ((putF d (a : Int) (runCells g.toNat s.epoch.toNat b)).1, (putF d (a : Int) (runCells g.toNat s.epoch.toNat b)).2, { s with broken := s.broken || (putF d (a : Int) (runCells g.toNat s.epoch.toNat b)).1 != 0 }) := rfl
theorem lay_ok {d : DS} {s : JS} {a : Nat} {g : Int} {b : List Int} (hd : Calm d) (hb : 0 < b.length) (h : (layF d s (a : Int) g b).1 = 0) : Calm (layF d s (a : Int) g b).2.1 ∧ (layF d s (a : Int) g b).2.1.n = d.n ∧ Put (rowsD d) (rowsD (layF d s (a : Int) g b).2.1) a (runCells g.toNat s.epoch.toNat b) ∧ (layF d s (a : Int) g b).2.2 = { s with broken := s.broken || false } := by
  have h' : (putF d (a : Int) (runCells g.toNat s.epoch.toNat b)).1 = 0 := h
  obtain ⟨p1, p2, p3⟩ := put_rows hd (run_ne hb) h'
  refine ⟨p1, p2, p3, ?_⟩
  rw [lay_as]
  show { s with broken := s.broken || (putF d (a : Int) (runCells g.toNat s.epoch.toNat b)).1 != 0 } = _
  rw [h']
  rfl
theorem lay_fine {d : DS} {s : JS} {a : Nat} {g : Int} {b : List Int} (hd : Calm d) (hp : d.plan = none) (h : a + pieces b.length ≤ d.n) : (layF d s (a : Int) g b).1 = 0 ∧ (layF d s (a : Int) g b).2.1.plan = none :=
  put_fine hd hp (by rw [runCells_len]; exact h) (fun c hc => run_64 hc)
theorem sync_fine {d : DS} {s : JS} {l : List (List Int)} {m : Nat} (h : JInv d s l m) (hp : d.plan = none) : (syncF d s).1 = 0 ∧ (syncF d s).2.1.plan = none := by
  unfold syncF
  rw [if_neg (by rw [h.br]; decide)]
  by_cases h0 : s.waits.length = 0
  · rw [if_pos h0]
    exact ⟨rfl, hp⟩
  · rw [if_neg h0]
    obtain ⟨fr, sc, hf, hsc, hn, _⟩ := area_nums d.n s.gen ⟨h.body.n6, h.body.n5⟩
    have hus := h.us
    have hroom := h.room
    have hcp := cnt_pieces s.waits.length
    have hat : firstN d.n s.gen + s.used = ((fr + s.used.toNat : Nat) : Int) := by omega
    rw [hat]
    obtain ⟨q1, q2⟩ := lay_fine (s := s) (g := s.gen) (b := s.waits) (a := fr + s.used.toNat) h.calm hp (by omega)
    simp only
    rw [if_neg (fun q => q q1)]
    exact ⟨rfl, q2⟩
theorem one_bytes : Ext.Bytes [1] := fun x hx => by rw [List.mem_singleton.1 hx]; decide
theorem ckpt_inv {d : DS} {s : JS} {l : List (List Int)} {m : Nat} {b : List Int} (h : JInv d s l m) (hb : Ext.Bytes b) (hl : b.length ≤ 8192) (ho : (ckptF d s b).1 = 0) : JInv (ckptF d s b).2.1 (ckptF d s b).2.2 [b] 1 ∧ (ckptF d s b).2.1.n = d.n ∧ (ckptF d s b).2.2.epoch = s.epoch ∧ (ckptF d s b).2.2.gen = s.gen + 1 ∧ (ckptF d s b).2.2.used = cntN (pk b).length ∧ (ckptF d s b).2.2.waits = [] := by
  have hp : packedF s b = (pk b, 0) := by
    unfold packedF
    rw [if_neg (by rw [h.br]; decide), if_pos hl]
  have hpl : 0 < (pk b).length := by rw [pk_len]; omega
  have hgo := h.good
  have hgn := h.gen
  have hen := h.ep
  unfold ckptF at ho ⊢
  rw [hp] at ho ⊢
  simp only at ho ⊢
  rw [if_neg (by simp)] at ho ⊢
  by_cases h1 : cntN (pk b).length > secN d.n
  · rw [if_pos h1] at ho
    simp at ho
  rw [if_neg h1] at ho ⊢
  by_cases h2 : s.gen = 4294967295
  · rw [if_pos h2] at ho
    simp at ho
  rw [if_neg h2] at ho ⊢
  have hg2 : s.gen + 1 < 4294967296 := by have := hgo.2.1; omega
  have hgc : s.gen + 1 = ((s.gen.toNat + 1 : Nat) : Int) := by omega
  obtain ⟨fr, sc, hf, hsc, hn, _⟩ := area_nums d.n (s.gen + 1) ⟨h.body.n6, h.body.n5⟩
  have hge := firstN_ge d.n (s.gen + 1)
  rw [hf] at ho ⊢
  by_cases h3 : (layF d s (fr : Int) (s.gen + 1) (pk b)).1 ≠ 0
  · rw [if_pos h3] at ho
    exact absurd ho h3
  rw [if_neg h3] at ho ⊢
  obtain ⟨a1, a2, a3, a4⟩ := lay_ok h.calm hpl (Decidable.not_not.1 h3)
  obtain ⟨⟨q0, d1, s1⟩, hq⟩ : ∃ q, q = layF d s (fr : Int) (s.gen + 1) (pk b) := ⟨_, rfl⟩
  rw [← hq] at ho a1 a2 a3 a4 ⊢
  simp only at ho a1 a2 a3 a4 ⊢
  clear hq h3
  subst a4
  have hmod : (s.gen + 1) % 2 = (((s.gen.toNat + 1) % 2 : Nat) : Int) := by omega
  rw [hmod] at ho ⊢
  by_cases h4 : (layF d1 { s with broken := s.broken || false } (((s.gen.toNat + 1) % 2 : Nat) : Int) (s.gen + 1) [1]).1 ≠ 0
  · rw [if_pos h4] at ho
    exact absurd ho h4
  rw [if_neg h4]
  obtain ⟨b1, b2, b3, b4⟩ := lay_ok (b := [1]) a1 (by decide) (Decidable.not_not.1 h4)
  obtain ⟨⟨q2, d2, s2⟩, hq⟩ : ∃ q, q = layF d1 { s with broken := s.broken || false } (((s.gen.toNat + 1) % 2 : Nat) : Int) (s.gen + 1) [1] := ⟨_, rfl⟩
  rw [← hq] at b1 b2 b3 b4 ⊢
  simp only at b1 b2 b3 b4 ⊢
  clear hq h4 ho
  subst b4
  have hjp : joined [b] = pk b := by rw [joined_cons, joined_nil, List.append_nil]
  have htn : (s.gen + 1).toNat = s.gen.toNat + 1 := by omega
  rw [htn] at a3 b3
  have hcp := cnt_pieces (pk b).length
  have hck := h.body.ckpt (ps := [b]) (fr := fr) (sc := sc) (by omega) (by rw [← hgc]; exact hf) hsc hn (by omega) (fun p hp => by rw [List.mem_singleton.1 hp]; exact ⟨hb, hl⟩) (by rw [hjp]; exact hpl) (by rw [hjp]; omega) (by rw [hjp]; exact a3) b3
  rw [hjp] at hck
  refine ⟨⟨b1, ?_, hen, ?_, ?_, ?_, rfl, rfl, Nat.le_refl _, rfl, fun p hp => by rw [List.mem_singleton.1 hp]; exact ⟨hb, hl⟩, ?_⟩, b2.trans a2, by first | rfl | trivial, by first | rfl | trivial, by first | rfl | trivial, by first | rfl | trivial⟩
  · show 0 ≤ s.gen + 1
    omega
  · show 0 ≤ cntN (pk b).length
    unfold cntN
    omega
  · show Body _ d2.n (s.gen + 1).toNat s.epoch.toNat (cntN (pk b).length).toNat _
    rw [b2, a2, htn, hcp, Int.toNat_natCast]
    exact hck
  · show (s.broken || false || false) = false
    rw [h.br]
    rfl
  · show cntN (pk b).length + cntN 0 ≤ secN d2.n
    rw [b2, a2]
    have : cntN 0 = 0 := rfl
    omega
theorem ckpt_fine {d : DS} {s : JS} {l : List (List Int)} {m : Nat} {b : List Int} (h : JInv d s l m) (hp : d.plan = none) (hl : b.length ≤ 8192) (hc : cntN (pk b).length ≤ secN d.n) (hg : s.gen < 4294967295) : (ckptF d s b).1 = 0 ∧ (ckptF d s b).2.1.plan = none := by
  have hpf : packedF s b = (pk b, 0) := by
    unfold packedF
    rw [if_neg (by rw [h.br]; decide), if_pos hl]
  have hpl : 0 < (pk b).length := by rw [pk_len]; omega
  have hgn := h.gen
  unfold ckptF
  rw [hpf]
  simp only
  rw [if_neg (by simp), if_neg (by omega), if_neg (by omega)]
  obtain ⟨fr, sc, hf, hsc, hn, _⟩ := area_nums d.n (s.gen + 1) ⟨h.body.n6, h.body.n5⟩
  have hcp := cnt_pieces (pk b).length
  rw [hf]
  obtain ⟨q1, q2⟩ := lay_fine (s := s) (g := s.gen + 1) (b := pk b) (a := fr) h.calm hp (by omega)
  obtain ⟨a1, a2, a3, a4⟩ := lay_ok h.calm hpl q1
  rw [if_neg (fun q => q q1)]
  have hmod : (s.gen + 1) % 2 = (((s.gen.toNat + 1) % 2 : Nat) : Int) := by omega
  rw [hmod]
  obtain ⟨w1, w2⟩ := lay_fine (s := (layF d s (fr : Int) (s.gen + 1) (pk b)).2.2) (g := s.gen + 1) (b := [1]) (a := (s.gen.toNat + 1) % 2) a1 q2 (by
    rw [a2]
    have h6 := h.body.n6
    have : pieces ([1] : List Int).length = 1 := rfl
    have := Nat.mod_lt (s.gen.toNat + 1) (show 0 < 2 by decide)
    omega)
  rw [if_neg (fun q => q w1)]
  exact ⟨rfl, w2⟩
theorem fresh_fine {d : DS} (hd : Calm d) (h6 : 6 ≤ d.n) (hp : d.plan = none) (e : Int) : (layF d (newJ e) 1 1 [1]).1 = 0 ∧ (layF d (newJ e) 1 1 [1]).2.1.plan = none := by
  have := lay_fine (s := newJ e) (g := 1) (b := [1]) (a := 1) hd hp (by
    have : pieces ([1] : List Int).length = 1 := rfl
    omega)
  exact this
end Go.Proofs.Ythnjkmjcacoajaa.Jn
end

section
/- A journal in a law: beside what came in. No condition beyond those of the calls. -/
namespace Go.Proofs.Ythnjkmjcacoajaa.Jn
open Go Go.RowKit Go.Proofs.YthnjkmjcacoajaaW.PrintWords Go.Proofs.YthnjkmjcacoajaaW.PrintLast Go.Proofs.YthnjkmjcacoajaaW.PrintMore Go.Proofs.Ythnjkmjcacoajaa.Base Go.Proofs.Ythnjkmjcacoajaa.Arr
open Go.Proofs.Ythnjkmjcacoajaa.Dk (DS DiskIs DiskTo writeF flushF doingF secOf newS)
open Go.Proofs.Ythnjkmjcacoajaa.Ext (runCells pieces runCells_len)
open Go.Proofs.Ythnjkmjcacoajaa.FrameLink (pk joined joined_nil joined_cons joined_snoc pk_len)
set_option linter.unusedVariables false
set_option linter.unusedSimpArgs false

/-- a disk, in blocks made since w0 -/
def LD (w0 W : World) (g : Nat) (d : DS) : Prop := Below w0.heap.size w0 W ∧ ∃ ok : Nat → Prop, DiskIs W w0.heap.size ok g d ∧ (∀ k, ok k → k < W.heap.size) ∧ w0.heap.size ≤ W.heap.size
/-- a disk and a journal on it -/
def LJ (w0 W : World) (g gj : Nat) (d : DS) (s : JS) : Prop := Below w0.heap.size w0 W ∧ ∃ ok : Nat → Prop, JD W w0.heap.size ok g gj d s ∧ ∀ k, ok k → k < W.heap.size
theorem LJ.disk {w0 W : World} {g gj : Nat} {d : DS} {s : JS} (h : LJ w0 W g gj d s) : LD w0 W g d := by
  obtain ⟨hb, ok, ⟨okd, okj, h1, _, h2, _, _, h3⟩, _⟩ := h
  exact ⟨hb, okd, h1, fun k hk => (h2 k hk).2, h3⟩
theorem LJ.of {w0 W W' : World} {g gj : Nat} {d : DS} {s : JS} {ok : Nat → Prop} (hb : Below w0.heap.size w0 W) (h : JTo W W' w0.heap.size ok g gj d s) : LJ w0 W' g gj d s := by
  obtain ⟨h1, _, ok', h3, h4⟩ := h
  exact ⟨hb.trans h1, ok', h4, fun k hk => (h3 k hk).2⟩
theorem LJ.below {w0 W W' : World} {g gj : Nat} {d : DS} {s : JS} (h : LJ w0 W g gj d s) (hb : Below W.heap.size W W') : LJ w0 W' g gj d s := by
  obtain ⟨h1, ok, h2, h3⟩ := h
  exact LJ.of h1 ((JTo.start h2).below hb)
theorem LD.below {w0 W W' : World} {g : Nat} {d : DS} (h : LD w0 W g d) (hb : Below W.heap.size W W') : LD w0 W' g d := by
  obtain ⟨h1, ok, h2, h3, h4⟩ := h
  exact ⟨h1.trans (hb.mono h4), ok, Dk.DiskIs.below h2 hb, fun k hk => Nat.lt_of_lt_of_le (h3 k hk) hb.size, Nat.le_trans h4 hb.size⟩
theorem LD.to_ {w0 W W' : World} {g : Nat} {d d' : DS} {ok : Nat → Prop} (hb : Below w0.heap.size w0 W) (hle : w0.heap.size ≤ W.heap.size) (h : DiskTo W W' w0.heap.size ok g d') : LD w0 W' g d' := by
  obtain ⟨h1, h2, ok', h3, h4⟩ := h
  exact ⟨hb.trans h1, ok', h4, fun k hk => (h3 k hk).2, Nat.le_trans hle h2.1⟩
theorem LNew (w0 : World) (n : Nat) (h1 : 1 ≤ n) (h2 : n ≤ 512) : Calls Try.prog 6 #[.int .i64 (n : Int)] w0 fun e W => ∃ g, e = .returned (.tuple #[.pointer (some ⟨g, 0, none⟩), .int .i64 0]) ∧ LD w0 W g (newS n) :=
  (Dk.New_calls w0 (n : Int)).mono fun e W h => by
    unfold Dk.NewPost at h
    rw [if_neg (by omega)] at h
    obtain ⟨g, rfl, hb, hd⟩ := h
    rw [Int.toNat_natCast] at hd
    obtain ⟨gs, m, vw, pp, h1, h2, h3, h4, h5, ⟨o1, o2, o3⟩, ⟨b1, b2, b3⟩, hG⟩ := hd
    exact ⟨g, rfl, hb, fun k => w0.heap.size ≤ k ∧ k < W.heap.size, ⟨gs, m, vw, pp, h1, h2, h3, Kd.R_mono (Kd.R_bound h4) (fun k hk => ⟨hk.2.1, hk.2.2.1⟩), h5, ⟨⟨b1, h1.lt⟩, ⟨b2, h2.lt⟩, ⟨b3, h3.lt⟩⟩, ⟨b1, b2, b3⟩, hG⟩, fun k hk => hk.2, hb.size⟩
theorem LAppend {w0 W : World} {g gj : Nat} {d : DS} {s : JS} (h : LJ w0 W g gj d s) (hs : SOK s) (A : Option Addr) (c : Nat) (b : List Int) (hb : Kd.C (Kd.int .u8) W A b.length b) (hc : b.length ≤ c) (hby : Ext.Bytes b) :
    Calls Try.prog 10 #[.pointer (some ⟨gj, 0, none⟩), .slice A b.length c] W fun e W' => e = .returned (.int .i64 (appendF d.n s b).1) ∧ LJ w0 W' g gj d (appendF d.n s b).2 := by
  obtain ⟨h1, ok, h2, h3⟩ := h
  exact (Append_calls W w0.heap.size ok g gj d s h2 hs A c b hb hc hby).mono fun e W' ⟨he, ht⟩ => ⟨he, LJ.of h1 ht⟩
theorem LSync {w0 W : World} {g gj : Nat} {d : DS} {s : JS} (h : LJ w0 W g gj d s) (hs : SOK s) (hg : Ext.goodS s.gen s.epoch) (hw : d.waits.length ≤ 500000) :
    Calls Try.prog 11 #[.pointer (some ⟨gj, 0, none⟩)] W fun e W' => e = .returned (.int .i64 (syncF d s).1) ∧ LJ w0 W' g gj (syncF d s).2.1 (syncF d s).2.2 := by
  obtain ⟨h1, ok, h2, h3⟩ := h
  exact (Sync_calls W w0.heap.size ok g gj d s h2 hs hg hw).mono fun e W' ⟨he, ht⟩ => ⟨he, LJ.of h1 ht⟩
theorem LCkpt {w0 W : World} {g gj : Nat} {d : DS} {s : JS} (h : LJ w0 W g gj d s) (hs : SOK s) (hg : Ext.goodS s.gen s.epoch) (hw : d.waits.length ≤ 500000) (A : Option Addr) (c : Nat) (b : List Int) (hb : Kd.C (Kd.int .u8) W A b.length b) (hc : b.length ≤ c) (hby : Ext.Bytes b) :
    Calls Try.prog 14 #[.pointer (some ⟨gj, 0, none⟩), .slice A b.length c] W fun e W' => e = .returned (.int .i64 (ckptF d s b).1) ∧ LJ w0 W' g gj (ckptF d s b).2.1 (ckptF d s b).2.2 := by
  obtain ⟨h1, ok, h2, h3⟩ := h
  exact (Checkpoint_calls W w0.heap.size ok g gj d s h2 hs hg hw A c b hb hc hby).mono fun e W' ⟨he, ht⟩ => ⟨he, LJ.of h1 ht⟩
theorem LLen {w0 W : World} {g gj : Nat} {d : DS} {s : JS} (h : LJ w0 W g gj d s) : Calls Try.prog 12 #[.pointer (some ⟨gj, 0, none⟩)] W fun e W' => e = .returned (.int .i64 s.count) ∧ W = W' := by
  obtain ⟨h1, ok, ⟨okd, okj, _, h2, _⟩, _⟩ := h
  exact Len_calls W w0.heap.size okj g gj s h2
theorem LSynced {w0 W : World} {g gj : Nat} {d : DS} {s : JS} (h : LJ w0 W g gj d s) : Calls Try.prog 13 #[.pointer (some ⟨gj, 0, none⟩)] W fun e W' => e = .returned (.int .i64 s.synced) ∧ W = W' := by
  obtain ⟨h1, ok, ⟨okd, okj, _, h2, _⟩, _⟩ := h
  exact Synced_calls W w0.heap.size okj g gj s h2
/-- rows that are read whatever the disk does -/
def RowsOut (w0 W : World) (g : Nat) (d : DS) (A : Option Addr) (l : List (List Int)) : Prop := Below w0.heap.size w0 W ∧ ∃ ok : Nat → Prop, DiskIs W w0.heap.size ok g d ∧ (∀ k, ok k → k < W.heap.size) ∧ w0.heap.size ≤ W.heap.size ∧ ∀ W', Kept W W' ok → (Kd.slice 5 (Kd.int .u8)).C W' A l.length l
theorem LOpens {w0 W : World} {g : Nat} {d d' : DS} {A : Option Addr} {c : Nat} {l out : List (List Int)} {s : JS} (h : RowsOut w0 W g d A l) (hb : Secs (rowsD d)) (hw : d.waits.length ≤ 500000) (hsl : Short l) (ho : openF d = (0, d', some (s, out))) (hso : Short out) :
    Calls Try.prog 8 #[.pointer (some ⟨g, 0, none⟩), .slice A l.length c] W fun e W' => ∃ gj, e = .returned (.tuple #[.pointer (some ⟨gj, 0, none⟩), .bool (decide (out = l))]) ∧ LJ w0 W' g gj d' s := by
  obtain ⟨h1, ok, h2, h3, h4, h5⟩ := h
  exact (opens_calls W w0.heap.size ok g d h2 h3 h4 hb hw A c l h5 hsl d' s out ho hso).mono fun e W' ⟨gj, he, n1, n2, ok', n3, n4⟩ => ⟨gj, he, h1.trans n1, ok', n4, fun k hk => (n3 k hk).2⟩
theorem LD.none {w0 W : World} {g : Nat} {d : DS} (h : LD w0 W g d) : RowsOut w0 W g d none [] := by
  obtain ⟨h1, ok, h2, h3, h4⟩ := h
  exact ⟨h1, ok, h2, h3, h4, fun W' _ => Kd.C_nil _ _⟩
/-- a literal of rows of one byte -/
theorem lit_row {W W' : World} {b : Nat} {x : Int} {ok : Nat → Prop} (h : HoldsRow W b 5 (rowK .u8 [x])) (hn : ¬ ok b) (hk : Kept W W' ok) : Kd.C (Kd.int .u8) W' (some ⟨b, 0, none⟩) ([x] : List Int).length [x] :=
  (Kd.R_reads' (HoldsRow.own (base := 0) (show HoldsRow W' b 5 (rowK .u8 [x]) from (hk.2 b h.lt hn).trans h) (Nat.zero_le _) (by simp))).2.2
theorem lit_one {w0 W : World} {g : Nat} {d : DS} (h : LD w0 W g d) (x : Int) : RowsOut w0 ((W.alloc (.cells #[.int .u8 x] 5)).alloc (.cells #[.slice (some ⟨W.heap.size, 0, none⟩) 1 1] 31)) g d (some ⟨W.heap.size + 1, 0, none⟩) [[x]] := by
  obtain ⟨h1, ok, h2, h3, h4⟩ := h
  have hb : Below W.heap.size W ((W.alloc (.cells #[.int .u8 x] 5)).alloc (.cells #[.slice (some ⟨W.heap.size, 0, none⟩) 1 1] 31)) := below_alloc (below_alloc (Below.refl _ _) _) _
  have r1 : HoldsRow ((W.alloc (.cells #[.int .u8 x] 5)).alloc (.cells #[.slice (some ⟨W.heap.size, 0, none⟩) 1 1] 31)) W.heap.size 5 (rowK .u8 [x]) := (HoldsRow.new W 5 #[.int .u8 x]).alloc _
  have hsz : (W.alloc (.cells #[.int .u8 x] 5)).heap.size = W.heap.size + 1 := by simp
  have r2 : HoldsRow ((W.alloc (.cells #[.int .u8 x] 5)).alloc (.cells #[.slice (some ⟨W.heap.size, 0, none⟩) 1 1] 31)) (W.heap.size + 1) 31 #[.slice (some ⟨W.heap.size, 0, none⟩) 1 1] := by rw [← hsz]; exact HoldsRow.new _ _ _
  refine ⟨h1.trans (hb.mono h4), ok, Dk.DiskIs.below h2 hb, fun k hk => Nat.lt_of_lt_of_le (h3 k hk) hb.size, Nat.le_trans h4 hb.size, fun W' hk => ?_⟩
  have n1 : ¬ ok W.heap.size := fun q => Nat.lt_irrefl _ (h3 _ q)
  have n2 : ¬ ok (W.heap.size + 1) := fun q => by have := h3 _ q; omega
  have q2 : HoldsRow W' (W.heap.size + 1) 31 #[.slice (some ⟨W.heap.size, 0, none⟩) 1 1] := (hk.2 _ r2.lt n2).trans r2
  refine ⟨rfl, by simp, fun _ => ⟨_, rfl, fun j p hj => ?_⟩⟩
  rcases j with _ | j
  · injection hj with hj
    subst hj
    refine ⟨[.slice (some ⟨W.heap.size, 0, none⟩) 1 1], rfl, ⟨_, _, rfl, Nat.le_refl _, lit_row r1 n1 hk⟩, fun i u hu => ?_⟩
    rcases i with _ | i
    · injection hu with hu
      subst hu
      have e0 : ((⟨W.heap.size + 1, 0, none⟩ : Addr).add (0 * (Kd.slice 5 (Kd.int .u8)).sz + 0)) = ⟨W.heap.size + 1, 0, none⟩ := by simp [Addr.add]
      rw [e0]
      exact q2.cell (j := 0) rfl
    · simp at hu
  · simp at hj
end Go.Proofs.Ythnjkmjcacoajaa.Jn
end
