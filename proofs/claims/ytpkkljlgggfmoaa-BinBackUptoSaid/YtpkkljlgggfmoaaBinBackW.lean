/- BinBack answers true, walked with the plain law at hand: for ints, texts and bytes of at most 1048576 letters each. Conditions: bytes; whole numbers; those lengths. -/
import Derived.Test.YtpkkljlgggfmoaaBinTextual
import Derived.Test.YtpkkljlgggfmoaaBinWorks
namespace Go.Proofs.Ytpkkljlgggfmoaa.Ext
open Go Go.RowKit Go.Proofs.YtpkkljlgggfmoaaW.PrintWords Go.Proofs.YtpkkljlgggfmoaaW.PrintLast Go.Proofs.YtpkkljlgggfmoaaW.PrintMore Go.Proofs.Ytpkkljlgggfmoaa.Base Go.Proofs.Ytpkkljlgggfmoaa.Arr Go.Proofs.Ytpkkljlgggfmoaa.Mid Go.Proofs.Ytpkkljlgggfmoaa.Tt Go.Proofs.Ytpkkljlgggfmoaa.BinMath Go.Proofs.Ytpkkljlgggfmoaa.BinLink
set_option linter.unusedVariables false
set_option linter.unusedSimpArgs false

/-! ### what is written, and what is left of it -/
def nth (ts : List ByteArray) (j : Nat) : ByteArray := ts.getD j ByteArray.empty
/-- a text's part -/
def tpart (ts : List ByteArray) (j : Nat) : List Int := if j < ts.length then BinLink.W (nth ts j).size ++ bytesOf (nth ts j) else []
def chunk (l : List Int) (ts : List ByteArray) (j : Nat) : List Int := BinLink.W (zig (rd l (j : Int))) ++ tpart ts j
def wrote (l : List Int) (ts : List ByteArray) : Nat → List Int
  | 0 => []
  | j + 1 => wrote l ts j ++ chunk l ts j
def left_ (l : List Int) (ts : List ByteArray) (z : List Int) : Nat → Nat → List Int
  | 0, _ => z
  | d + 1, j => chunk l ts j ++ left_ l ts z d (j + 1)
theorem wrote_left (l : List Int) (ts : List ByteArray) (z : List Int) (n : Nat) : ∀ d j, j + d = n → wrote l ts j ++ left_ l ts z d j = wrote l ts n ++ z
  | 0, j, h => by rw [show j = n by omega]; rfl
  | d + 1, j, h => by
    have := wrote_left l ts z n d (j + 1) (by omega)
    rw [← this]
    show _ ++ (chunk l ts j ++ _) = (wrote l ts j ++ chunk l ts j) ++ _
    rw [List.append_assoc]
theorem left_all (l : List Int) (ts : List ByteArray) (z : List Int) (n : Nat) : left_ l ts z n 0 = wrote l ts n ++ z := by
  have := wrote_left l ts z n n 0 (by omega)
  rwa [show wrote l ts 0 = [] from rfl, List.nil_append] at this
section
variable {l : List Int} {ts : List ByteArray} {z : List Int} (hi : ∀ x ∈ l, -9223372036854775808 ≤ x ∧ x ≤ 9223372036854775807) (ht : ∀ s ∈ ts, s.size ≤ 1048576) (hz : Bytes z) (hzl : z.length ≤ 1048576)
include hi in
theorem rd_range (j : Int) : -9223372036854775808 ≤ rd l j ∧ rd l j ≤ 9223372036854775807 := by
  unfold rd
  rw [List.getD_eq_getElem?_getD]
  by_cases h : j.toNat < l.length
  · rw [List.getElem?_eq_getElem h]
    exact hi _ (List.getElem_mem h)
  · rw [List.getElem?_eq_none (by omega)]
    exact ⟨by decide, by decide⟩
include ht in
theorem nth_le (j : Nat) : (nth ts j).size ≤ 1048576 := by
  unfold nth
  rw [List.getD_eq_getElem?_getD]
  by_cases h : j < ts.length
  · rw [List.getElem?_eq_getElem h]
    exact ht _ (List.getElem_mem h)
  · rw [List.getElem?_eq_none (by omega)]
    decide
include ht in
theorem tpart_len (j : Nat) : (tpart ts j).length ≤ 1048585 := by
  have h1 := nth_le ht j
  unfold tpart
  split
  · have := W_le (nth ts j).size
    rw [List.length_append, bytesOf_len]
    omega
  · simp
include ht in
theorem chunk_len (j : Nat) : (chunk l ts j).length ≤ 1048594 := by
  have h1 := tpart_len ht j
  have := W_le (zig (rd l (j : Int)))
  unfold chunk
  rw [List.length_append]
  omega
include ht in
theorem tpart_bytes (j : Nat) : Bytes (tpart ts j) := by
  have h1 := nth_le ht j
  unfold tpart
  split
  · intro x hx
    rcases List.mem_append.1 hx with h | h
    · exact wrL_bytes _ (by omega) x h
    · exact bytesOf_bytes _ x h
  · intro x hx
    cases hx
include hi ht in
theorem chunk_bytes (j : Nat) : Bytes (chunk l ts j) := by
  intro x hx
  rcases List.mem_append.1 hx with h | h
  · exact wrL_bytes _ (zig_lt _ (rd_range hi _)) x h
  · exact tpart_bytes ht j x h
include ht in
theorem wrote_len (j : Nat) : (wrote l ts j).length ≤ 1048594 * j := by
  induction j with
  | zero => simp [wrote]
  | succ j ih =>
    have := chunk_len (l := l) ht j
    show (wrote l ts j ++ chunk l ts j).length ≤ _
    rw [List.length_append]
    omega
include ht hzl in
theorem left_len : ∀ d j : Nat, (left_ l ts z d j).length ≤ 1048594 * d + 1048576
  | 0, j => by show z.length ≤ _; omega
  | d + 1, j => by
    have h1 := left_len d (j + 1)
    have h2 := chunk_len (l := l) ht j
    show (chunk l ts j ++ left_ l ts z d (j + 1)).length ≤ _
    rw [List.length_append]
    omega
include hi ht hz in
theorem left_bytes : ∀ d j : Nat, Bytes (left_ l ts z d j)
  | 0, _ => hz
  | d + 1, j => fun x hx => by
    rcases List.mem_append.1 hx with h | h
    · exact chunk_bytes hi ht j x h
    · exact left_bytes d (j + 1) x h
end
theorem app_bytes {a b : List Int} (ha : Bytes a) (hb : Bytes b) : Bytes (a ++ b) := fun x hx => by
  rcases List.mem_append.1 hx with h | h
  · exact ha x h
  · exact hb x h
/-- an int off what stands ahead of more -/
theorem int_off (x : Int) (hx : -9223372036854775808 ≤ x ∧ x ≤ 9223372036854775807) (r : List Int) (hr : Bytes r) (hl : (BinLink.W (zig x) ++ r).length < 140737488355328) : bin_TakeInt.f (BinLink.W (zig x) ++ r) = some (x, r, 0) := by
  have hz := zig_lt x hx
  rw [takeInt_eq _ hl]
  have := read_written wholeF (zig x) hz r hr (by rw [wholeF_eq _ hz])
  rw [wholeF_eq _ hz, zag_zig] at this
  exact congrArg some this
/-- a text off what stands ahead of more -/
theorem text_off (s : ByteArray) (hs : s.size ≤ 1048576) (r : List Int) (hr : Bytes r) (hl : ((BinLink.W s.size ++ bytesOf s) ++ r).length < 140737488355328) : bin_TakeText.f ((BinLink.W s.size ++ bytesOf s) ++ r) (s.size : Int) = some (s, r, 0) := by
  have hb := app_bytes (bytesOf_bytes s) hr
  have e0 : (BinLink.W s.size ++ bytesOf s) ++ r = BinLink.W s.size ++ (bytesOf s ++ r) := List.append_assoc _ _ _
  rw [e0] at hl ⊢
  have hw : Bytes (BinLink.W s.size ++ (bytesOf s ++ r)) := app_bytes (wrL_bytes _ (by omega)) hb
  rw [takeText_eq hw hl]
  have := read_written numberF s.size (by omega) (bytesOf s ++ r) hb (by rw [numberF_eq _ (by omega), if_neg (by omega)])
  rw [numberF_eq _ (by omega), if_neg (by omega)] at this
  have hlb := bytesOf_len s
  unfold textOff
  have e1 : readF numberF (BinLink.W s.size ++ (bytesOf s ++ r)) = ((s.size : Int), bytesOf s ++ r, 0) := this
  rw [e1]
  simp only [if_true]
  rw [if_neg (by omega), if_neg (by rw [List.length_append]; omega), Int.toNat_natCast]
  congr 1
  have h1 : (bytesOf s ++ r).take s.size = bytesOf s := by rw [← hlb]; exact List.take_left' rfl
  have h2 : (bytesOf s ++ r).drop s.size = r := by rw [← hlb]; exact List.drop_left' rfl
  rw [h1, h2, strOf_bytesOf]
theorem text_in (s : ByteArray) (hs : s.size ≤ 1048576) : bin_Text.f s (s.size : Int) = some (BinLink.W s.size ++ bytesOf s, 0) := by
  rw [text_eq _ _ (by omega)]
  unfold textR
  rw [if_neg (by omega), if_neg (by omega)]

/-! ### the walk -/
/-- a row of strings -/
def StrRow (w : World) (a : Option Addr) (ts : List ByteArray) : Prop := ∀ j, j < ts.length → ∃ x, a = some x ∧ w.cell? (x.add j) = some (.string (nth ts j))
theorem StrRow.below {n : Nat} {w w' : World} {a : Option Addr} {ts : List ByteArray} (h : StrRow w a ts) (hn : n = w.heap.size) (hb : Below n w w') : StrRow w' a ts := fun j hj => by
  obtain ⟨x, hx, hc⟩ := h j hj
  subst hn
  exact ⟨x, hx, pw_cell_below hb hc⟩
def encorelaw02_BinBack.Bulk (l : List Int) (ts : List ByteArray) (z : List Int) : Prop := (∀ x ∈ l, -9223372036854775808 ≤ x ∧ x ≤ 9223372036854775807) ∧ (∀ s ∈ ts, s.size ≤ 1048576) ∧ Bytes z ∧ z.length ≤ 1048576
/-- what a slot of bytes reads -/
def Reads (w : World) (v : Value) (l : List Int) : Prop := ∃ A c, v = .slice A l.length c ∧ l.length ≤ c ∧ Kd.C (Kd.int .u8) w A l.length l
theorem Reads.below {n : Nat} {w w' : World} {v : Value} {l : List Int} (h : Reads w v l) (hb : Below n w w') (hn : n = w.heap.size) : Reads w' v l := by
  obtain ⟨A, c, h1, h2, h3⟩ := h
  subst hn
  exact ⟨A, c, h1, h2, Kd.C_below h3 hb⟩
set_option maxHeartbeats 8000000 in
set_option maxRecDepth 100000 in
theorem back_calls (A0 : Option Addr) (c0 : Nat) (l0 : List Int) (A1 : Option Addr) (c1 : Nat) (ts : List ByteArray) (A2 : Option Addr) (c2 : Nat) (z : List Int) (w : World)
    (hr0 : Kd.C (Kd.int .i64) w A0 l0.length l0) (hc0 : l0.length ≤ c0) (hs : StrRow w A1 ts) (hr2 : Kd.C (Kd.int .u8) w A2 z.length z) (hc2 : z.length ≤ c2) (hb : encorelaw02_BinBack.Bulk l0 ts z) :
    Calls Try.prog 7 #[.slice A0 l0.length c0, .slice A1 ts.length c1, .slice A2 z.length c2] w fun e w' => e = .returned (.bool true) ∧ Below w.heap.size w w' := by
  have HR0 := Aside0.mk hr0
  have HS := Aside0.mk hs
  have HR2 := Aside0.mk hr2
  have HC2 := Aside0.mk hc2
  have HI := Aside0.mk hb.1
  have HT := Aside0.mk hb.2.1
  have HZ := Aside0.mk hb.2.2.1
  have HZL := Aside0.mk hb.2.2.2
  clear hr0 hc0 hs hr2 hc2 hb
  go_enter Try.func7, Try.ntmps7
  go_wp2_with fail
  refine (encorelaw02_works.calls true _ rfl).mono ?_
  rintro e w1 ⟨rfl, hb1⟩
  have HB1 := Aside0.mk hb1
  clear hb1
  go_wp2_with fail
  go_loopw [7, 8] (fun v7 i wr => ∃ j : Nat, j ≤ l0.length ∧ j ≤ 30 ∧ i = .int .i64 (j : Nat) ∧ Aside0 (Kd.R (Kd.int .u8) 5 wr w.heap.size (fun _ => True) v7 (wrote l0 ts j)) ∧ Aside0 (Below w.heap.size w wr)) (fun _ i _ => 31 - (intOf i).toNat)
  case atStart => exact ⟨0, by omega, by omega, rfl, ⟨Kd.R_nil _ _ _ _ _⟩, HB1⟩
  case round =>
    obtain ⟨j, hj1, hj2, rfl, H7, HB⟩ := hrel
    clear HB1
    by_cases hc : j < l0.length ∧ j < 30
    · obtain ⟨hlt, hlt30⟩ := hc
      have d1 : decide ((j : Int) < (l0.length : Int)) = true := decide_eq_true (by omega)
      have d2 : decide (j < l0.length) = true := decide_eq_true hlt
      have d3 : decide ((j : Int) < 30) = true := decide_eq_true (by omega)
      have d4 : decide (j < 30) = true := decide_eq_true hlt30
      obtain ⟨ad, rfl, hcell⟩ := Kd.at_int (Kd.C_below HR0.out HB.out) (j : Int) (by omega) (by omega)
      rw [Int.toNat_natCast] at hcell
      have HX := Aside0.mk (int_eq (rd l0 (j : Int)) (rd_range HI.out _))
      have HP := Aside0.mk (show (wrote l0 ts j).length ≤ 31457820 by have := wrote_len (l := l0) HT.out j; omega)
      have HCH := Aside0.mk (show wrote l0 ts (j + 1) = (wrote l0 ts j ++ BinLink.W (zig (rd l0 (j : Int)))) ++ tpart ts j by rw [List.append_assoc]; rfl)
      have HW9 := Aside0.mk (W_le (zig (rd l0 (j : Int))))
      generalize wrote l0 ts j = P at *
      generalize BinLink.W (zig (rd l0 (j : Int))) = k at *
      generalize rd l0 (j : Int) = x at *
      go_wp2_with fail
      refine (bin_Int.calls x k wr HX.out).mono ?_
      rintro e w3 ⟨v3, rfl, h3, b3⟩
      obtain ⟨A3, c3, rfl⟩ := Kd.R_slice h3
      have HB3 := Aside0.mk (below_then HB.out HB.out.size b3)
      have H73 := Aside0.mk (Kd.R_below H7.out b3)
      have HQ3 := Aside0.mk (Kd.R_reads' h3)
      clear h3 b3 H7 HB hcell
      by_cases htx : j < ts.length
      · have f1 : decide ((j : Int) < (ts.length : Int)) = true := decide_eq_true (by omega)
        have f2 : decide (j < ts.length) = true := decide_eq_true htx
        have e1 : tpart ts j = BinLink.W (nth ts j).size ++ bytesOf (nth ts j) := if_pos htx
        have HTX := Aside0.mk (text_in (nth ts j) (nth_le HT.out j))
        have HTL := Aside0.mk (show (BinLink.W (nth ts j).size ++ bytesOf (nth ts j)).length ≤ 1048585 by rw [← e1]; exact tpart_len HT.out j)
        rw [e1] at HCH
        clear e1
        have HSB := Aside0.mk (fun (W' : World) (hb : Below w.heap.size w W') => HS.out.below rfl hb j htx)
        generalize BinLink.W (nth ts j).size ++ bytesOf (nth ts j) = q at *
        generalize nth ts j = s at *
        go_wp2_with (first | ((with_reducible refine gate_builtin (b := .append) (xs := #[.tmp 30, .tmp 35]) rfl ?_); at_builtin; refine Kd.R_append_rows (Kd.int .u8) (w0 := w) w.heap.size rfl (.tmp 30) (.tmp 35) 22 5 (.int .u8 0) 1 rfl Try.underlying22 infoU8 rfl (by decide) (by omega) u7 P k A3 k.length c3 (fun _ => True) (fun _ => False) rfl rfl H73.out HQ3.out.2.2 (fun _ _ h => h) (fun _ h => h.elim) (fun _ _ => trivial) HB3.out HB3.out.size ?aL ?_; (case aL => have := HP.out; have := HW9.out; omega); intro v7 w5 ho hb hg hat; have H75 := Aside0.mk ho; have HB5 := Aside0.mk hb; clear ho hb hg hat H73 HB3))
        obtain ⟨ad1, e1, K1⟩ := HSB.out w5 HB5.out
        subst e1
        have i1 := eq_true (show (0 : Int) ≤ (j : Int) by omega)
        have i2 := eq_true (show (j : Int) < (ts.length : Int) by omega)
        refine start_ (n := 15) (S := fun w' => w'.cell? (ad1.add j) = some (.string s)) (ds := [9]) #[false, false, false, false, false, false, false, false, false, false, false, false, false, false, false] (by kernel_rfl) rfl rfl (K1) (fun hHeld => ?_)
        refine pure_ (i := 0) (N := some 42) (v := ?_) (a' := ?_) #[true, false, false, false, false, false, false, false, false, false, false, false, false, false, false] rfl rfl (by kernel_rfl) (fun _ _ _ h => h) (Or.inl ⟨by rfl, ?_⟩) ?_ ?_
        rotate_left
        · intro w'
          go_simp
          with_reducible rfl
        rotate_left
        · simp only [Act.put, List.setIfInBounds_toArray, List.set_cons_zero, List.set_cons_succ, i64_w, i32_w]
          rfl
        refine pure_ (i := 1) (N := some 43) (v := ?_) (a' := ?_) #[true, true, false, false, false, false, false, false, false, false, false, false, false, false, false] rfl rfl (by kernel_rfl) (fun _ _ _ h => h) (Or.inl ⟨by rfl, ?_⟩) ?_ ?_
        rotate_left
        · intro w'
          go_simp
          with_reducible rfl
        rotate_left
        · simp only [Act.put, List.setIfInBounds_toArray, List.set_cons_zero, List.set_cons_succ, i64_w, i32_w]
          rfl
        refine pure_ (i := 2) (N := some 44) (v := ?_) (a' := ?_) #[true, true, true, false, false, false, false, false, false, false, false, false, false, false, false] rfl rfl (by kernel_rfl) (fun _ _ _ h => h) (Or.inl ⟨by rfl, ?_⟩) ?_ ?_
        rotate_left
        · intro w'
          go_simp
          with_reducible rfl
        rotate_left
        · simp only [Act.put, List.setIfInBounds_toArray, List.set_cons_zero, List.set_cons_succ, i64_w, i32_w]
          rfl
        refine pure_ (i := 4) (N := some 46) (v := ?_) (a' := ?_) #[true, true, true, false, true, false, false, false, false, false, false, false, false, false, false] rfl rfl (by kernel_rfl) (fun _ _ _ h => h) (Or.inl ⟨by rfl, ?_⟩) ?_ ?_
        rotate_left
        · intro w'
          go_simp
          with_reducible rfl
        rotate_left
        · simp only [Act.put, List.setIfInBounds_toArray, List.set_cons_zero, List.set_cons_succ, i64_w, i32_w]
          rfl
        refine pure_ (i := 5) (N := some 47) (v := ?_) (a' := ?_) #[true, true, true, false, true, true, false, false, false, false, false, false, false, false, false] rfl rfl (by kernel_rfl) (fun _ _ _ h => h) (Or.inl ⟨by rfl, ?_⟩) ?_ ?_
        rotate_left
        · intro w'
          go_simp
          with_reducible rfl
        rotate_left
        · simp only [Act.put, List.setIfInBounds_toArray, List.set_cons_zero, List.set_cons_succ, i64_w, i32_w]
          rfl
        refine pure_ (i := 6) (N := some 48) (v := ?_) (a' := ?_) #[true, true, true, false, true, true, true, false, false, false, false, false, false, false, false] rfl rfl (by kernel_rfl) (fun _ _ _ h => h) (Or.inl ⟨by rfl, ?_⟩) ?_ ?_
        rotate_left
        · intro w'
          go_simp
          with_reducible rfl
        rotate_left
        · simp only [Act.put, List.setIfInBounds_toArray, List.set_cons_zero, List.set_cons_succ, i64_w, i32_w]
          rfl
        refine take_ (i := 3) (N := some 45) (v := ?_) (a' := ?_) #[true, true, true, true, true, true, true, false, false, false, false, false, false, false, false] rfl rfl (by kernel_rfl) (fun _ _ _ h => h) (Or.inl ⟨by rfl, ?_⟩) hHeld ?_ ?_
        rotate_left
        · intro w' s0
          go_simp
          with_reducible rfl
        rotate_left
        · simp only [Act.put, List.setIfInBounds_toArray, List.set_cons_zero, List.set_cons_succ, i64_w, i32_w]
          rfl
        refine take_ (i := 7) (N := some 49) (v := ?_) (a' := ?_) #[true, true, true, true, true, true, true, true, false, false, false, false, false, false, false] rfl rfl (by kernel_rfl) (fun _ _ _ h => h) (Or.inl ⟨by rfl, ?_⟩) hHeld ?_ ?_
        rotate_left
        · intro w' s0
          go_simp
          with_reducible rfl
        rotate_left
        · simp only [Act.put, List.setIfInBounds_toArray, List.set_cons_zero, List.set_cons_succ, i64_w, i32_w]
          rfl
        refine pure_ (i := 8) (N := some 50) (v := ?_) (a' := ?_) #[true, true, true, true, true, true, true, true, true, false, false, false, false, false, false] rfl rfl (by kernel_rfl) (fun _ _ _ h => h) (Or.inl ⟨by rfl, ?_⟩) ?_ ?_
        rotate_left
        · intro w'
          go_simp
          with_reducible rfl
        rotate_left
        · simp only [Act.put, List.setIfInBounds_toArray, List.set_cons_zero, List.set_cons_succ, i64_w, i32_w]
          rfl
        refine last_ (i := 9) (N := some 51) #[true, true, true, true, true, true, true, true, true, true, false, false, false, false, false] rfl rfl (by kernel_rfl) (by decide) (fun K hK => ?_)
        refine goes_ Try.func17 (by kernel_rfl) rfl #[.string s, .int .i64 (s.size : Int)] (by rfl) rfl rfl (by simp only [List.map_toArray, List.map_cons, List.map_nil]; rfl) ?_
        with_reducible refine (bin_Text.calls s (s.size : Int) q 0 w5.drew HTX.out).mono ?_
        rintro e w6 ⟨v6, rfl, h6, b6⟩
        refine ⟨_, rfl, ?_⟩
        refine hK.out _ _ ?_
        clear hK K
        refine norm_ (a' := ?_) ?_ ?_
        rotate_left
        · show Act.put _ (some 51) _ = _
          simp only [Act.put, List.setIfInBounds_toArray, List.set_cons_zero, List.set_cons_succ, i64_w, i32_w]
          rfl
        refine pure_ (i := 10) (N := some 41) (v := ?_) (a' := ?_) #[true, true, true, true, true, true, true, true, true, true, true, false, false, false, false] rfl rfl (by kernel_rfl) (fun _ _ _ h => h) (Or.inl ⟨by rfl, ?_⟩) ?_ ?_
        rotate_left
        · intro w'
          go_simp
          with_reducible rfl
        rotate_left
        · simp only [Act.put, List.setIfInBounds_toArray, List.set_cons_zero, List.set_cons_succ, i64_w, i32_w]
          rfl
        refine pure_ (i := 11) (N := some 52) (v := ?_) (a' := ?_) #[true, true, true, true, true, true, true, true, true, true, true, true, false, false, false] rfl rfl (by kernel_rfl) (fun _ _ _ h => h) (Or.inl ⟨by rfl, ?_⟩) ?_ ?_
        rotate_left
        · intro w'
          go_simp
          with_reducible rfl
        rotate_left
        · simp only [Act.put, List.setIfInBounds_toArray, List.set_cons_zero, List.set_cons_succ, i64_w, i32_w]
          rfl
        refine pure_ (i := 12) (N := some 53) (v := ?_) (a' := ?_) #[true, true, true, true, true, true, true, true, true, true, true, true, true, false, false] rfl rfl (by kernel_rfl) (fun _ _ _ h => h) (Or.inl ⟨by rfl, ?_⟩) ?_ ?_
        rotate_left
        · intro w'
          go_simp
          with_reducible rfl
        rotate_left
        · simp only [Act.put, List.setIfInBounds_toArray, List.set_cons_zero, List.set_cons_succ, i64_w, i32_w]
          rfl
        refine pure_ (i := 13) (N := some 9) (v := ?_) (a' := ?_) #[true, true, true, true, true, true, true, true, true, true, true, true, true, true, false] rfl rfl (by kernel_rfl) (fun _ _ _ h => h) (Or.inl ⟨by rfl, ?_⟩) ?_ ?_
        rotate_left
        · intro w'
          go_simp
          with_reducible rfl
        rotate_left
        · simp only [Act.put, List.setIfInBounds_toArray, List.set_cons_zero, List.set_cons_succ, i64_w, i32_w]
          rfl
        refine pure_ (i := 14) (N := some 10) (v := ?_) (a' := ?_) #[true, true, true, true, true, true, true, true, true, true, true, true, true, true, true] rfl rfl (by kernel_rfl) (fun _ _ _ h => h) (Or.inl ⟨by rfl, ?_⟩) ?_ ?_
        rotate_left
        · intro w'
          go_simp
          with_reducible rfl
        rotate_left
        · simp only [Act.put, List.setIfInBounds_toArray, List.set_cons_zero, List.set_cons_succ, i64_w, i32_w]
          rfl
        refine done_ (by kernel_rfl) ?_
        
        obtain ⟨A6, c6, rfl⟩ := Kd.R_slice h6
        have b6' : Below w5.heap.size w5 w6 := ⟨b6.os, b6.tape, b6.output, b6.size, b6.block⟩
        have HB6 := Aside0.mk (HB5.out.trans (b6'.mono HB5.out.size))
        have H76 := Aside0.mk (Kd.R_below H75.out b6')
        have HQ6 := Aside0.mk (Kd.R_reads' h6)
        have HPK := Aside0.mk (show (P ++ k).length ≤ 31457829 by have := HP.out; have := HW9.out; rw [List.length_append]; omega)
        clear h6 b6 b6' H75 HB5 K1 hHeld
        go_wp2_with (first | ((with_reducible refine gate_builtin (b := .append) (xs := #[.tmp 56, .tmp 57]) rfl ?_); at_builtin; refine Kd.R_append_rows (Kd.int .u8) (w0 := w) w.heap.size rfl (.tmp 56) (.tmp 57) 22 5 (.int .u8 0) 1 rfl Try.underlying22 infoU8 rfl (by decide) (by omega) v7 (P ++ k) q A6 q.length c6 (fun _ => True) (fun _ => False) rfl rfl H76.out HQ6.out.2.2 (fun _ _ h => h) (fun _ h => h.elim) (fun _ _ => trivial) HB6.out HB6.out.size ?aL ?_; (case aL => have := HPK.out; have := HTL.out; omega); intro v8 w7 ho hb hg hat; have H77 := Aside0.mk ho; have HB7 := Aside0.mk hb; clear ho hb hg hat H76 HB6))
        exact ⟨⟨j + 1, by omega, by omega, by rw [show ((j + 1 : Nat) : Int) = (j : Int) + 1 by omega], ⟨by rw [HCH.out]; exact H77.out⟩, HB7⟩, by simp [intOf]; omega⟩
      · have f1 : decide ((j : Int) < (ts.length : Int)) = false := decide_eq_false (by omega)
        have f2 : decide (j < ts.length) = false := decide_eq_false htx
        have e1 : tpart ts j = [] := if_neg htx
        rw [e1, List.append_nil] at HCH
        clear e1
        go_wp2_with (first | ((with_reducible refine gate_builtin (b := .append) (xs := #[.tmp 30, .tmp 35]) rfl ?_); at_builtin; refine Kd.R_append_rows (Kd.int .u8) (w0 := w) w.heap.size rfl (.tmp 30) (.tmp 35) 22 5 (.int .u8 0) 1 rfl Try.underlying22 infoU8 rfl (by decide) (by omega) u7 P k A3 k.length c3 (fun _ => True) (fun _ => False) rfl rfl H73.out HQ3.out.2.2 (fun _ _ h => h) (fun _ h => h.elim) (fun _ _ => trivial) HB3.out HB3.out.size ?aL ?_; (case aL => have := HP.out; have := HW9.out; omega); intro v7 w5 ho hb hg hat; have H75 := Aside0.mk ho; have HB5 := Aside0.mk hb; clear ho hb hg hat H73 HB3))
        exact ⟨⟨j + 1, by omega, by omega, by rw [show ((j + 1 : Nat) : Int) = (j : Int) + 1 by omega], ⟨by rw [HCH.out]; exact H75.out⟩, HB5⟩, by simp [intOf]; omega⟩
    · have hd1 : (decide ((j : Int) < (l0.length : Int)) = false ∧ decide (j < l0.length) = false) ∨ ((decide ((j : Int) < (l0.length : Int)) = true ∧ decide (j < l0.length) = true) ∧ decide ((j : Int) < 30) = false ∧ decide (j < 30) = false) := by
        by_cases h : j < l0.length
        · exact .inr ⟨⟨decide_eq_true (by omega), decide_eq_true h⟩, decide_eq_false (by omega), decide_eq_false (by omega)⟩
        · exact .inl ⟨decide_eq_false (by omega), decide_eq_false h⟩
      have HN := Aside0.mk (left_all l0 ts z j)
      have HNE := Aside0.mk (show ∀ i : Nat, i ≤ j → (i < l0.length ∧ i < 30 ↔ i ≠ j) by intro i hi; omega)
      have HP := Aside0.mk (show (wrote l0 ts j).length ≤ 31457820 by have := wrote_len (l := l0) HT.out j; omega)
      clear hc
      generalize wrote l0 ts j = P at *
      have HRZ := Aside0.mk (Kd.C_below HR2.out HB.out)
      rcases hd1 with ⟨d1, d2⟩ | ⟨⟨d1, d2⟩, d3, d4⟩
      all_goals
        go_wp2_with (first | ((with_reducible refine gate_builtin (b := .append) (xs := #[.tmp 59, .tmp 60]) rfl ?_); at_builtin; refine Kd.R_append_rows (Kd.int .u8) (w0 := w) w.heap.size rfl (.tmp 59) (.tmp 60) 22 5 (.int .u8 0) 1 rfl Try.underlying22 infoU8 rfl (by decide) (by omega) u7 P z A2 z.length c2 (fun _ => True) (fun _ => False) rfl rfl H7.out HRZ.out (fun _ _ h => h) (fun _ h => h.elim) (fun _ _ => trivial) HB.out HB.out.size ?aL ?_; (case aL => have := HP.out; have := HZL.out; omega); intro v7 w5 ho hb hg hat; have HV5 := Aside0.mk (show Reads w5 v7 (left_ l0 ts z j 0) by rw [HN.out]; obtain ⟨A, c, e⟩ := Kd.R_slice ho; subst e; exact ⟨A, c, rfl, (Kd.R_reads' ho).2.1, (Kd.R_reads' ho).2.2⟩); have HB5 := Aside0.mk hb; clear ho hb hg hat H7 HB HRZ HN HP))
        go_loopw [7, 11] (fun v7 i wr => ∃ m d : Nat, m + d = j ∧ i = .int .i64 (m : Nat) ∧ Aside0 (Reads wr v7 (left_ l0 ts z d m)) ∧ Aside0 (Below w.heap.size w wr)) (fun _ i _ => 31 - (intOf i).toNat)
        case atStart => exact ⟨0, j, by omega, rfl, HV5, HB5⟩
        case round =>
          obtain ⟨m, d, hmd, rfl, ⟨A7, c7, rfl, hl7, hC7⟩, HB⟩ := hrel
          clear HV5 HB5
          by_cases hd : m < j
          · obtain ⟨hlt, hlt30⟩ := (HNE.out m (by omega)).mpr (by omega)
            obtain ⟨d, rfl⟩ : ∃ q, d = q + 1 := ⟨d - 1, by omega⟩
            have s1 : decide ((m : Int) < (l0.length : Int)) = true := decide_eq_true (by omega)
            have s2 : decide (m < l0.length) = true := decide_eq_true hlt
            have s3 : decide ((m : Int) < 30) = true := decide_eq_true (by omega)
            have s4 : decide (m < 30) = true := decide_eq_true hlt30
            have hRB := left_bytes (l := l0) HI.out HT.out HZ.out d (m + 1)
            have hRL := left_len (l := l0) HT.out HZL.out d (m + 1)
            have hTB := tpart_bytes (ts := ts) HT.out m
            have hTL := tpart_len (ts := ts) HT.out m
            have eL : left_ l0 ts z (d + 1) m = BinLink.W (zig (rd l0 (m : Int))) ++ (tpart ts m ++ left_ l0 ts z d (m + 1)) := List.append_assoc _ _ _
            rw [eL] at hl7 hC7
            rw [eL]
            have hw9 := W_le (zig (rd l0 (m : Int)))
            have HIN := Aside0.mk (int_off (rd l0 (m : Int)) (rd_range HI.out _) (tpart ts m ++ left_ l0 ts z d (m + 1)) (app_bytes hTB hRB) (by rw [List.length_append, List.length_append]; omega))
            obtain ⟨ad, e0, hcell⟩ := Kd.at_int (Kd.C_below HR0.out HB.out) (m : Int) (by omega) (by omega)
            rw [Int.toNat_natCast] at hcell
            subst e0
            have HC7 := Aside0.mk hC7
            have HL7 := Aside0.mk hl7
            have HRB := Aside0.mk hRB
            have HRL := Aside0.mk hRL
            clear hl7 hC7 eL hw9 hRB hRL hTB hTL
            obtain ⟨R, hR⟩ : ∃ R, R = left_ l0 ts z d (m + 1) := ⟨_, rfl⟩
            rw [← hR] at HIN HC7 HL7 HRB HRL ⊢
            have HRR := Aside0.mk hR
            clear hR
            obtain ⟨y, hy⟩ : ∃ y, y = tpart ts m ++ R := ⟨_, rfl⟩
            rw [← hy] at HIN HC7 HL7 ⊢
            have HY := Aside0.mk hy
            clear hy
            generalize BinLink.W (zig (rd l0 (m : Int))) = k at *
            generalize rd l0 (m : Int) = x at *
            generalize k ++ y = full at *
            go_wp2_with fail
            refine (bin_TakeInt.calls A7 c7 full x y 0 wr HC7.out HL7.out HIN.out).mono ?_
            rintro e w3 ⟨v3, rfl, h3, b3⟩
            obtain ⟨A3, c3, rfl⟩ := Kd.R_slice h3
            have HB3 := Aside0.mk (below_then HB.out HB.out.size b3)
            have HQ3 := Aside0.mk (Kd.R_reads' h3)
            have hcell3 := pw_cell_below b3 hcell
            clear h3 b3 HB hcell HC7 HL7 HIN
            have i1 := eq_true (show (0 : Int) ≤ (m : Int) by omega)
            have i2 := eq_true (show (m : Int) < (l0.length : Int) by omega)
            by_cases htx : m < ts.length
            · have f1 : decide ((m : Int) < (ts.length : Int)) = true := decide_eq_true (by omega)
              have f2 : decide (m < ts.length) = true := decide_eq_true htx
              have i3 := eq_true (show (m : Int) < (ts.length : Int) by omega)
              have e1 : tpart ts m = BinLink.W (nth ts m).size ++ bytesOf (nth ts m) := if_pos htx
              have htl := tpart_len (ts := ts) HT.out m
              rw [e1] at htl
              have HOFF := Aside0.mk (text_off (nth ts m) (nth_le HT.out m) R HRB.out (by rw [List.length_append]; have := HRL.out; omega))
              rw [← e1, ← HY.out] at HOFF
              have HSB := Aside0.mk (fun (W' : World) (hb : Below w.heap.size w W') => HS.out.below rfl hb m htx)
              clear e1 htl
              generalize nth ts m = s at *
              obtain ⟨ad1, e1, K1⟩ := HSB.out w3 HB3.out
              subst e1
              go_wp2_with fail
              refine (bin_TakeText.calls A3 c3 y (s.size : Int) s R 0 w3 HQ3.out.2.2 HQ3.out.2.1 HOFF.out).mono ?_
              rintro e w4 ⟨v4, rfl, h4, b4⟩
              obtain ⟨A4, c4, rfl, hc4, hC4⟩ := Kd.Q_reads h4
              have HB4 := Aside0.mk (below_then HB3.out HB3.out.size b4)
              have K2 := pw_cell_below b4 K1
              have HQ4 := Aside0.mk (And.intro hc4 hC4)
              clear h4 b4 HB3 K1 hc4 hC4 hcell3
              go_wp2_with fail
              exact ⟨⟨m + 1, d, by omega, by rw [show ((m + 1 : Nat) : Int) = (m : Int) + 1 by omega], ⟨by rw [← HRR.out]; exact ⟨A4, c4, rfl, HQ4.out.1, HQ4.out.2⟩⟩, HB4⟩, by simp [intOf]; omega⟩
            · have f1 : decide ((m : Int) < (ts.length : Int)) = false := decide_eq_false (by omega)
              have f2 : decide (m < ts.length) = false := decide_eq_false htx
              have e1 : tpart ts m = [] := if_neg htx
              obtain rfl : y = R := by rw [HY.out, e1]; rfl
              clear e1
              go_wp2_with fail
              exact ⟨⟨m + 1, d, by omega, by rw [show ((m + 1 : Nat) : Int) = (m : Int) + 1 by omega], ⟨by rw [← HRR.out]; exact ⟨A3, c3, rfl, HQ3.out.2.1, HQ3.out.2.2⟩⟩, HB3⟩, by simp [intOf]; omega⟩
          · obtain rfl : m = j := by omega
            obtain rfl : d = 0 := by omega
            have HC7 := Aside0.mk (show Kd.C (Kd.int .u8) wr A7 z.length z from hC7)
            have HL7 := Aside0.mk (show z.length ≤ c7 from hl7)
            clear hl7 hC7
            rw [show left_ l0 ts z 0 m = z from rfl]
            go_wp2_with fail
            refine (encoreref00_EqBytes.calls (z.length + 1) A7 c7 z A2 c2 z true wr HC7.out HL7.out (Kd.C_below HR2.out HB.out) HC2.out (eq_same z (by have := HZL.out; omega) _ (by omega))).mono ?_
            rintro e w9 ⟨rfl, ⟨nd, rfl⟩⟩
            go_wp2_with fail
            go_ret
            exact ⟨rfl, pw_below_drewN HB.out nd⟩
theorem encorelaw02_BinBack.calls (A0 : Option Addr) (c0 : Nat) (l0 : List Int) (A1 : Option Addr) (c1 : Nat) (ts : List ByteArray) (A2 : Option Addr) (c2 : Nat) (z : List Int) (w : World)
    (hr0 : Kd.C (Kd.int .i64) w A0 l0.length l0) (hc0 : l0.length ≤ c0) (hs : StrRow w A1 ts) (hr2 : Kd.C (Kd.int .u8) w A2 z.length z) (hc2 : z.length ≤ c2) (hb : encorelaw02_BinBack.Bulk l0 ts z) :
    Calls Try.prog 7 #[.slice A0 l0.length c0, .slice A1 ts.length c1, .slice A2 z.length c2] w fun e w' => e = .returned (.bool true) ∧ Below w.heap.size w w' := back_calls A0 c0 l0 A1 c1 ts A2 c2 z w hr0 hc0 hs hr2 hc2 hb
end Go.Proofs.Ytpkkljlgggfmoaa.Ext
