/- settle of a disk, walked. Condition: the writes are of its sectors. -/
import Derived.Test.YtkmgbmnjabmhaaaMid
namespace Go.Proofs.Ytkmgbmnjabmhaaa.Ext
open Go Go.RowKit Go.Proofs.YtkmgbmnjabmhaaaW.PrintWords Go.Proofs.YtkmgbmnjabmhaaaW.PrintLast Go.Proofs.YtkmgbmnjabmhaaaW.PrintMore Go.Proofs.Ytkmgbmnjabmhaaa.Base Go.Proofs.Ytkmgbmnjabmhaaa.Arr
set_option linter.unusedVariables false
set_option linter.unusedSimpArgs false

def lay (f : List Int) (l : List (Int × List Int)) : List Int := l.foldl (fun f p => putSec f p.1.toNat p.2) f
theorem lay_snoc (f : List Int) (l : List (Int × List Int)) (p : Int × List Int) : lay f (l ++ [p]) = putSec (lay f l) p.1.toNat p.2 := by unfold lay; rw [List.foldl_append]; rfl
/-- an empty write -/
def z65 : Array Value := (Value.int .i64 0 :: nums .u8 (List.replicate 64 0)).toArray
theorem z65_size : z65.size = 65 := by kernel_rfl
theorem zero_write (W : World) : (zeroValue 70).run Try.prog W = .ok (.agg z65) W := by kernel_rfl
def z64 : List Int := List.replicate 64 0
theorem z64_len : z64.length = 64 := by kernel_rfl
theorem zero_sector (W : World) : (zeroValue 68).run Try.prog W = .ok (.agg (rowK .u8 z64)) W := by kernel_rfl
def Fits (n : Nat) (l : List (Int × List Int)) : Prop := ∀ p ∈ l, 0 ≤ p.1 ∧ p.1 < n ∧ p.2.length = 64
theorem lay_len {f : List Int} {n : Nat} (hf : f.length = n * 64) : ∀ (l : List (Int × List Int)), Fits n l → (lay f l).length = n * 64 := by
  intro l
  induction l generalizing f with
  | nil => intro _; exact hf
  | cons p l ih =>
    intro h
    have hp := h p (by simp)
    exact ih (putSec_len hf (by omega) hp.2.2) (fun q hq => h q (by simp [hq]))
/-- a write's 65 cells -/
def wcells (p : Int × List Int) : Array Value := (Value.int .i64 p.1 :: nums .u8 p.2).toArray
theorem wcells_size {p : Int × List Int} (h : p.2.length = 64) : (wcells p).size = 65 := by simp [wcells, nums, h]
set_option maxHeartbeats 4000000 in
set_option maxRecDepth 100000 in
theorem settle_calls (w : World) (base : Nat) (ok okl : Nat → Prop) (g : Nat) (s : DS) (h : DiskIs w base ok g s) (hbw : base ≤ w.heap.size) (vl : Value) (L : List (Int × List Int)) (hl : Kd.R wrK 70 w base okl vl L) (hL : Fits s.n L) :
    Calls Try.prog 33 #[.pointer (some ⟨g, 0, none⟩), vl] w fun e w' => e = .returned (.tuple #[]) ∧ DiskTo w w' base ok g { s with stays := lay s.stays L, waits := [] } := by
  obtain ⟨gs, m, vw, pp, h1, h2, h3, h4, h5, ⟨o1, o2, o3⟩, ⟨b1, b2, b3⟩, hG⟩ := h
  obtain ⟨A, c, rfl⟩ := Kd.R_slice hl
  have HG := Aside0.mk hG
  have HO := Aside0.mk (And.intro o1 (And.intro o2 o3))
  have HBS := Aside0.mk (And.intro b1 (And.intro b2 b3))
  have HL := Aside0.mk hL
  have H1 := Aside0.mk h1
  have H2 := Aside0.mk h2
  have H3 := Aside0.mk h3
  have H4 := Aside0.mk h4
  have H5 := Aside0.mk h5
  have H6 := Aside0.mk hl
  have HBW := Aside0.mk hbw
  have hmx : L.length ≤ 9223372036854775807 := Kd.C_max (Kd.R_reads' hl).2.2
  clear h1 h2 h3 h4 h5 hl hG o1 o2 o3 b1 b2 b3 hL hbw
  go_enter Try.func33, Try.ntmps33
  go_wp2_with fail
  go_loopw [8] (fun i wr => ∃ j : Nat, j ≤ L.length ∧ i = .int .i64 (j : Nat) ∧ Aside0 (HoldsRow wr g 65 (dcells gs m s.n vw s.dead pp)) ∧ Aside0 (HoldsRow wr gs 68 (rowK .u8 (lay s.stays (L.take j)))) ∧ Aside0 (MapIs wr m (seenF s.waits)) ∧ Aside0 (PlanIs wr base ok pp s.plan) ∧ Aside0 (Kd.R wrK 70 wr base okl (.slice A L.length c) L) ∧ Aside0 (Below base w wr ∧ Kept w wr ok)) (fun i _ => L.length - (intOf i).toNat)
  case atStart => exact ⟨0, by omega, rfl, H1, H2, H3, H5, H6, ⟨Below.refl _ _, Kept.refl _ _⟩⟩
  case round =>
    obtain ⟨j, hj, rfl, R1, R2, R3, R5, R6, RB⟩ := hrel
    clear H1 H2 H3 H4 H5 H6
    by_cases hlt : j < L.length
    · have d1 : decide ((j : Int) < (L.length : Int)) = true := decide_eq_true (by omega)
      have d2 : decide (j < L.length) = true := decide_eq_true hlt
      obtain ⟨gl, cap, e, -, -, -⟩ := Kd.R_form R6.out (by omega)
      injection e with e1 _ e3
      subst e1
      obtain ⟨cs, -, ⟨hcs, h64⟩, hcell, -⟩ := Kd.R_elem R6.out ((0, []) : Int × List Int) (j : Int) (by omega) (by omega)
      rw [Int.toNat_natCast] at hcs h64 hcell
      have hp := HL.out (L.getD j (0, [])) (by rw [List.getD_eq_getElem?_getD, List.getElem?_eq_getElem hlt]; exact List.getElem_mem _)
      have htk : L.take (j + 1) = L.take j ++ [L.getD j (0, [])] := by rw [List.take_succ_eq_append_getElem hlt, List.getD_eq_getElem?_getD, List.getElem?_eq_getElem hlt]; rfl
      generalize L.getD j (0, []) = p at *
      obtain ⟨at_, sec⟩ := p
      simp only at hcs h64 hp
      have hrng : wr.rangeAt gl (j * 65) cs := fun q u hu => by have := hcell q u hu; exact this
      have hcl : cs.length = 65 := by rw [hcs]; simp [nums, h64]
      have HTK := Aside0.mk htk
      have HP := Aside0.mk hp
      have HRNG := Aside0.mk hrng
      have HCL := Aside0.mk hcl
      have HCS := Aside0.mk hcs
      have b0 := eq_true (show (0 : Int) ≤ (j : Int) by omega)
      have b1 := eq_true (show (j : Int) < (L.length : Int) by omega)
      clear htk hp hrng hcl hcs hcell h64 e3
      have hz := zero_write
      have HOLD := Aside0.mk (z65_size.trans (by rw [List.size_toArray, HCL.out]) : z65.size = cs.toArray.size)
      have hnew := HoldsRow.new wr 70 z65
      have HNEW := Aside0.mk hnew
      have hrow := hnew.row cs.toArray
      obtain ⟨W, hW⟩ : ∃ W : World, W = (wr.alloc (.cells z65 70)).setRow wr.heap.size cs.toArray := ⟨_, rfl⟩
      rw [← hW] at hrow
      have HWW := Aside0.mk hW
      have hfar : ∀ k, k < wr.heap.size → W.heap[k]? = wr.heap[k]? := fun k hk => by rw [hW]; exact (setRow_other _ _ k _ (by omega)).trans (Go.heap_alloc_old wr _ hk)
      have hsz : W.heap.size = wr.heap.size + 1 := by rw [hW]; simp [World.setRow]
      have HROW := Aside0.mk hrow
      have HFAR := Aside0.mk hfar
      have HSZ := Aside0.mk hsz
      clear hW hnew hrow hfar hsz
      go_wp2_with (first | (refine wpList_load_mid rfl 70 (.tmp 10) rfl gl (j * 65) rfl cs _ HRNG.out Try.underlying70 rfl (by rw [HCL.out]; kernel_rfl) ?_) | (refine wpList_store_row rfl 70 (.tmp 5) (.tmp 11) rfl wr.heap.size cs.toArray rfl rfl 70 z65 HNEW.out (by rw [List.size_toArray, HCL.out]; kernel_rfl) HOLD.out (all_oneCell_toArray (by rw [HCS.out]; exact fun u hu => wrK.K_one (w := wr) (x := (at_, sec)) ⟨rfl, HP.out.2.2⟩ u hu)) ?_; rw [← HWW.out]))
      obtain ⟨b5, hb5⟩ : ∃ b, b = wr.heap.size := ⟨_, rfl⟩
      have HB5 := Aside0.mk hb5
      have hrow := HROW.out
      rw [← hb5] at hrow ⊢
      have hbelow : Below wr.heap.size wr W := by rw [HWW.out]; exact below_setRow (b := wr.heap.size) (below_alloc (Below.refl _ _) _) _ (Nat.le_refl _)
      clear hb5 hz b0 b1 HNEW HWW HOLD HRNG HROW
      have hfarR : ∀ k, k < wr.heap.size → W.heap[k]? = wr.heap[k]? := HFAR.out
      have S1 := Aside0.mk (hr_move R1.out (hfarR _ R1.out.lt))
      have S2 := Aside0.mk (hr_move R2.out (hfarR _ R2.out.lt))
      have S3 := Aside0.mk (R3.out.move (hfarR _ R3.out.lt))
      have S5 := Aside0.mk (R5.out.move (fun k _ hk => hfarR k hk))
      have S6 := Aside0.mk (Kd.R_step R6.out (fun k _ hk => hfarR k hk))
      have hbw2 : base ≤ wr.heap.size := Nat.le_trans HBW.out RB.out.2.1
      have SB := Aside0.mk (And.intro (RB.out.1.trans (hbelow.mono hbw2)) (RB.out.2.below hbelow))
      clear R1 R2 R3 R5 R6 RB hfarR HFAR
      have K0 : W.cell? ⟨g, 0, none⟩ = some (.slice (some ⟨gs, 0, none⟩) s.n s.n) := S1.out.cell rfl
      have K1 : W.cell? ⟨b5, 0, none⟩ = some (.int .i64 at_) := hrow.cell (by rw [HCS.out]; rfl)
      have K2 : W.rangeAt b5 1 (nums .u8 sec) := fun q u hu => hrow.cell (by rw [HCS.out]; rw [Nat.add_comm]; simpa using hu)
      have HP64 := Aside0.mk HP.out.2.2
      obtain ⟨ai, hai⟩ := Int.eq_ofNat_of_zero_le HP.out.1
      subst hai
      have hai := HP.out.2.1
      have x0 := eq_true (show ai < s.n by omega)
      have hsl : (lay s.stays (L.take j)).length = s.n * 64 := lay_len HG.out.2.2.1 _ (fun q hq => HL.out q (List.mem_of_mem_take hq))
      have HSL := Aside0.mk hsl
      have HTHERE := Aside0.mk (show W.drew.there gs (ai * 64) (rowK .u8 sec).size from there_row (W := W.drew) S2.out _ _ (by rw [rowK_size, rowK_size, hsl, HP64.out]; omega))
      clear hai hsl hrow
      go_wp2_with fail
      refine start_ (n := 10) (S := fun w' => w'.cell? ⟨g, 0, none⟩ = some (.slice (some ⟨gs, 0, none⟩) s.n s.n) ∧ w'.cell? ⟨b5, 0, none⟩ = some (.int .i64 (ai : Nat)) ∧ w'.rangeAt b5 1 (nums .u8 sec)) (ds := [9]) #[false, false, false, false, false, false, false, false, false, false] (by kernel_rfl) rfl rfl ⟨K0, K1, K2⟩ (fun hHeld => ?_)
      refine pure_ (i := 0) (N := some 12) (v := ?_) (a' := ?_) #[true, false, false, false, false, false, false, false, false, false] rfl rfl (by kernel_rfl) (fun _ _ _ h => h) (Or.inl ⟨by rfl, ?_⟩) ?_ ?_
      rotate_left
      · intro w'
        go_simp
        with_reducible rfl
      rotate_left
      · simp only [Act.put, List.setIfInBounds_toArray, List.set_cons_zero, List.set_cons_succ, i64_w, i32_w]
        rfl
      refine pure_ (i := 1) (N := some 13) (v := ?_) (a' := ?_) #[true, true, false, false, false, false, false, false, false, false] rfl rfl (by kernel_rfl) (fun _ _ _ h => h) (Or.inl ⟨by rfl, ?_⟩) ?_ ?_
      rotate_left
      · intro w'
        go_simp
        with_reducible rfl
      rotate_left
      · simp only [Act.put, List.setIfInBounds_toArray, List.set_cons_zero, List.set_cons_succ, i64_w, i32_w]
        rfl
      refine pure_ (i := 2) (N := some 14) (v := ?_) (a' := ?_) #[true, true, true, false, false, false, false, false, false, false] rfl rfl (by kernel_rfl) (fun _ _ _ h => h) (Or.inl ⟨by rfl, ?_⟩) ?_ ?_
      rotate_left
      · intro w'
        go_simp
        with_reducible rfl
      rotate_left
      · simp only [Act.put, List.setIfInBounds_toArray, List.set_cons_zero, List.set_cons_succ, i64_w, i32_w]
        rfl
      refine pure_ (i := 4) (N := some 16) (v := ?_) (a' := ?_) #[true, true, true, false, true, false, false, false, false, false] rfl rfl (by kernel_rfl) (fun _ _ _ h => h) (Or.inl ⟨by rfl, ?_⟩) ?_ ?_
      rotate_left
      · intro w'
        go_simp
        with_reducible rfl
      rotate_left
      · simp only [Act.put, List.setIfInBounds_toArray, List.set_cons_zero, List.set_cons_succ, i64_w, i32_w]
        rfl
      refine pure_ (i := 6) (N := some 18) (v := ?_) (a' := ?_) #[true, true, true, false, true, false, true, false, false, false] rfl rfl (by kernel_rfl) (fun _ _ _ h => h) (Or.inl ⟨by rfl, ?_⟩) ?_ ?_
      rotate_left
      · intro w'
        go_simp
        with_reducible rfl
      rotate_left
      · simp only [Act.put, List.setIfInBounds_toArray, List.set_cons_zero, List.set_cons_succ, i64_w, i32_w]
        rfl
      refine take_ (i := 3) (N := some 15) (v := ?_) (a' := ?_) #[true, true, true, true, true, false, true, false, false, false] rfl rfl (by kernel_rfl) (fun _ _ _ h => h) (Or.inl ⟨by rfl, ?_⟩) hHeld ?_ ?_
      rotate_left
      · rintro w' ⟨s0, s1, s2⟩
        go_simp
        with_reducible rfl
      rotate_left
      · simp only [Act.put, List.setIfInBounds_toArray, List.set_cons_zero, List.set_cons_succ, i64_w, i32_w]
        rfl
      refine take_ (i := 5) (N := some 17) (v := ?_) (a' := ?_) #[true, true, true, true, true, true, true, false, false, false] rfl rfl (by kernel_rfl) (fun _ _ _ h => h) (Or.inl ⟨by rfl, ?_⟩) hHeld ?_ ?_
      rotate_left
      · rintro w' ⟨s0, s1, s2⟩
        go_simp
        with_reducible rfl
      rotate_left
      · simp only [Act.put, List.setIfInBounds_toArray, List.set_cons_zero, List.set_cons_succ, i64_w, i32_w]
        rfl
      refine take_ (i := 7) (N := some 19) (v := ?_) (a' := ?_) #[true, true, true, true, true, true, true, true, false, false] rfl rfl (by kernel_rfl) (fun _ _ _ h => h) (Or.inl ⟨by rfl, ?_⟩) hHeld ?_ ?_
      rotate_left
      · rintro w' ⟨s0, s1, s2⟩
        refine exec_load_mid 68 (.tmp 18) ?_ b5 1 ?_ (nums .u8 sec) _ s2 Try.underlying68 rfl (by rw [nums_len, HP64.out]; kernel_rfl)
        · rfl
        · rfl
      rotate_left
      · simp only [Act.put, List.setIfInBounds_toArray, List.set_cons_zero, List.set_cons_succ, i64_w, i32_w]
        rfl
      refine pure_ (i := 8) (N := some 20) (v := ?_) (a' := ?_) #[true, true, true, true, true, true, true, true, true, false] rfl rfl (by kernel_rfl) (fun _ _ _ h => h) (Or.inl ⟨by rfl, ?_⟩) ?_ ?_
      rotate_left
      · intro w'
        go_simp
        with_reducible rfl
      rotate_left
      · simp only [Act.put, List.setIfInBounds_toArray, List.set_cons_zero, List.set_cons_succ, i64_w, i32_w]
        rfl
      refine last_ (i := 9) (N := none) #[true, true, true, true, true, true, true, true, true, true] rfl rfl (by kernel_rfl) (by decide) (fun K hK => ?_)
      refine skip_ (w1 := _) (by rfl) rfl (exec_store_mid 68 (.tmp 20) (.tmp 19) rfl gs (ai * 64) (rowK .u8 sec) (by rfl) (by rfl) HTHERE.out (by rw [rowK_size, HP64.out]; kernel_rfl) (rowK_one _ _)) ?_
      refine hK.out _ _ ?_
      clear hK K
      refine done_ (by kernel_rfl) ?_
      have hs2 := sec_set (W := W.drew) (b := gs) (t := 68) (i := ai) (n := s.n) (s := sec) S2.out HSL.out (by have := HP.out.2.1; omega) HP64.out
      have hfr : ∀ k, k ≠ gs → (W.drew.setCells gs (ai * 64) (rowK .u8 sec).toList).heap[k]? = W.heap[k]? := sets_all_far
      have e2 : lay s.stays (L.take (j + 1)) = putSec (lay s.stays (L.take j)) ai sec := by rw [HTK.out, lay_snoc]; rfl
      have T1 := Aside0.mk (hr_move S1.out (hfr g (ne_kind S1.out S2.out (by decide))))
      have T2 := Aside0.mk (show HoldsRow (W.drew.setCells gs (ai * 64) (rowK .u8 sec).toList) gs 68 (rowK .u8 (lay s.stays (L.take (j + 1)))) by rw [e2]; exact hs2)
      have T3 := Aside0.mk (S3.out.move (hfr m (fun e => ne_map (W := W) (by rw [← e] at S2; exact S2.out) S3.out rfl)))
      have T5 := Aside0.mk (plan_move S5.out S2.out (by decide) hfr)
      have T6 := Aside0.mk (wr_move S6.out S2.out (by decide) hfr)
      have TB := Aside0.mk (And.intro (sets_below (q := ai * 64) (below_drew SB.out.1) HBS.out.2.1 (rowK .u8 sec).toList) (sets_kept (q := ai * 64) (Kept.drew SB.out.2) (.inl HO.out.2.1) (rowK .u8 sec).toList))
      clear hs2 hfr e2 S1 S2 S3 S5 S6 SB
      go_wp2_with fail
      go_roundw
      case rel => exact ⟨j + 1, by omega, by go_num, T1, T2, T3, T5, T6, TB⟩
      case measure => simp [intOf]; omega
    · obtain rfl : j = L.length := by omega
      have d1 : decide ((L.length : Int) < (L.length : Int)) = false := decide_eq_false (by omega)
      have d2 : decide (L.length < L.length) = false := decide_eq_false (by omega)
      have hl1 : (lay s.stays (L.take L.length)) = lay s.stays L := by rw [List.take_length]
      rw [hl1] at R2
      have K0 : wr.cell? ⟨g, 1, none⟩ = some (.map (some m)) := R1.out.cell rfl
      clear hl1 hmx
      obtain ⟨W1, hrun, hmap, hgr, hsz⟩ := run_clear_is (P := Try.prog) (T := 61) (K := 3) (E := 68) R3.out Try.underlying61 0
      have hgm : some g ≠ some m := fun e => ne_map R1.out R3.out (by injection e)
      have hgsm : some gs ≠ some m := fun e => ne_map R2.out R3.out (by injection e)
      have T1 : HoldsRow W1 g 65 (dcells gs m s.n vw s.dead pp) := hr_move R1.out (hgr.block g R1.out.lt hgm)
      have T2 : HoldsRow W1 gs 68 (rowK .u8 (lay s.stays L)) := hr_move R2.out (hgr.block gs R2.out.lt hgsm)
      have T5 : PlanIs W1 base ok pp s.plan := by
        cases hp : s.plan with
        | none => have := R5.out; rw [hp] at this; exact this
        | some q =>
          obtain ⟨l, b, c⟩ := q
          have := R5.out
          rw [hp] at this
          obtain ⟨pb, e, hr, h6, h7⟩ := this
          exact ⟨pb, e, hr_move hr (hgr.block pb hr.lt (fun e => ne_map hr R3.out (by injection e))), h6, h7⟩
      have hb1 : Below base w W1 := RB.out.1.grown hgr (Nat.le_trans HBW.out RB.out.2.1) (fun k hk => by injection hk with hk; rw [← hk]; exact HBS.out.2.2)
      have hk1 : Kept w W1 ok := Kept.of_grown hgr RB.out.2 (fun k hk => by injection hk with hk; rw [← hk]; exact .inl HO.out.2.2)
      have hset := to_set (W := W1) (base := base) (ok := ok) (j := 2) (u := .slice none 0 0) HO.out.1 HBS.out.1
      obtain ⟨q2, q3, q4, q5⟩ := rest_set (W := W1) (base := base) (ok := ok) (vw0 := vw) (vw := .slice none 0 0) (xs := []) T1 T2 hmap (Kd.R_nil _ _ _ _ _) T5 2 (.slice none 0 0)
      have q1 := T1.set 2 (.slice none 0 0)
      rw [dcells_waits] at q1
      have HF := Aside0.mk (show DiskTo w (W1.setCell ⟨g, 2, none⟩ (.slice none 0 0)) base ok g { s with stays := lay s.stays L, waits := [] } from
        DiskTo.trans (hb1.trans hset.1) (hk1.then_ hset.2 (fun k hk => .inl hk)) (fun k hk => .inl hk) (DiskTo.same ⟨gs, m, .slice none 0 0, pp, q1, q2, q3, q4, q5, HO.out, HBS.out, HG.out.1, HG.out.2.1, lay_len HG.out.2.2.1 L HL.out, fun p hp => by simp at hp⟩))
      have K2 : W1.cell? ⟨g, 2, none⟩ = some vw := T1.cell rfl
      have z2 := T1.free 2
      clear hmap hgr hsz hgm hgsm T1 T2 T5 hb1 hk1 hset q1 q2 q3 q4 q5 R1 R2 R3 R5 R6 RB
      go_wp2_with fail
      go_end0
      exact ⟨rfl, HF.out⟩
end Go.Proofs.Ytkmgbmnjabmhaaa.Ext
