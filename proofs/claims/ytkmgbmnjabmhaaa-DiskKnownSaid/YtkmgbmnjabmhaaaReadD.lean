/- Read of a disk, and New, walked. No condition. -/
import Derived.Test.YtkmgbmnjabmhaaaWrite
namespace Go.Proofs.Ytkmgbmnjabmhaaa.Ext
open Go Go.RowKit Go.Proofs.YtkmgbmnjabmhaaaW.PrintWords Go.Proofs.YtkmgbmnjabmhaaaW.PrintLast Go.Proofs.YtkmgbmnjabmhaaaW.PrintMore Go.Proofs.Ytkmgbmnjabmhaaa.Base Go.Proofs.Ytkmgbmnjabmhaaa.Arr
set_option linter.unusedVariables false
set_option linter.unusedSimpArgs false

def readF (s : DS) (at_ : Int) : List Int := if thereE s at_ ≠ 0 then [] else curS s.stays s.waits at_.toNat
def ReadPost (s : DS) (at_ : Int) (w : World) (e : Ending) (w' : World) : Prop :=
  ∃ v, e = .returned (.tuple #[v, .int .i64 (thereE s at_)]) ∧ Kd.R (Kd.int .u8) 68 w' w.heap.size (fun _ => True) v (readF s at_) ∧ Below w.heap.size w w'
theorem there_ok {s : DS} {at_ : Int} (h : thereE s at_ = 0) : s.dead = false ∧ 0 ≤ at_ ∧ at_ < s.n := by
  unfold thereE at h
  split at h
  · exact absurd h (by decide)
  · rename_i hd
    split at h
    · exact absurd h (by decide)
    · split at h
      · exact absurd h (by decide)
      · exact ⟨by simpa using hd, by omega, by omega⟩
theorem lastW_len {l : List (Int × List Int)} {n : Nat} (h : Fits n l) {k : Int} {x : List Int} (hx : lastW l k = some x) : x.length = 64 := by
  unfold lastW at hx
  have : ∀ (l : List (Int × List Int)) (a : Option (List Int)), Fits n l → (∀ y, a = some y → y.length = 64) → ∀ y, l.foldl (fun a p => if p.1 = k then some p.2 else a) a = some y → y.length = 64 := by
    intro l
    induction l with
    | nil => intro a _ ha y hy; exact ha y hy
    | cons p l ih =>
      intro a hf ha y hy
      refine ih _ (fun q hq => hf q (by simp [hq])) (fun y hy => ?_) y hy
      have hy : (if p.1 = k then some p.2 else a) = some y := hy
      split at hy
      · have := Option.some.inj hy
        rw [← this]
        exact (hf p (by simp)).2.2
      · exact ha y hy
  exact this l none h (fun y hy => by cases hy) x hx
set_option maxHeartbeats 4000000 in
set_option maxRecDepth 100000 in
theorem Read_calls (w : World) (base : Nat) (ok : Nat → Prop) (g : Nat) (s : DS) (h : DiskIs w base ok g s) (at_ : Int) :
    Calls Try.prog 21 #[.pointer (some ⟨g, 0, none⟩), .int .i64 at_] w (ReadPost s at_ w) := by
  have HD := Aside0.mk h
  by_cases ht : thereE s at_ = 0
  · have HT := Aside0.mk ht
    obtain ⟨gs, m, vw, pp, h1, h2, h3, h4, h5, ⟨o1, o2, o3⟩, ⟨b1, b2, b3⟩, hG⟩ := h
    obtain ⟨-, hat0, hat1⟩ := there_ok ht
    obtain ⟨ai, rfl⟩ := Int.eq_ofNat_of_zero_le hat0
    have HRF := Aside0.mk (show readF s (ai : Int) = curS s.stays s.waits ai by unfold readF; rw [if_neg (fun e => e ht)]; rfl)
    have k0 := h1.cell (j := 0) (v := .slice (some ⟨gs, 0, none⟩) s.n s.n) rfl
    have k1 := h1.cell (j := 1) (v := .map (some m)) rfl
    have H1 := Aside0.mk h1
    have H2 := Aside0.mk h2
    have hlk := run_lookup_is (P := Try.prog) (W := w) (T := 61) (K := 3) (E := 68) h3 Try.underlying61 Try.underlying3 (fun W => zero_sector W) (ai : Int)
    have x0 := eq_true (show ai < s.n by omega)
    have HSL := Aside0.mk (secOf_len hG.2.2.1 (show ai < s.n by omega))
    have hz := zero_sector
    have HNEW := Aside0.mk (HoldsRow.new w 68 (rowK .u8 z64))
    cases hl : lastW s.waits (ai : Int) with
    | some x =>
      have HCS := Aside0.mk (show curS s.stays s.waits ai = x by unfold curS; rw [hl]; rfl)
      have HX := Aside0.mk (lastW_len (n := s.n) hG.2.2.2 hl)
      have e : seenF s.waits (ai : Int) = some (.agg (rowK .u8 x)) := by unfold seenF; rw [hl]; rfl
      rw [e] at hlk
      simp only [Option.getD_some, Option.isSome_some] at hlk
      obtain ⟨W2, hW2⟩ : ∃ W2 : World, W2 = (w.alloc (.cells (rowK .u8 z64) 68)).setRow w.heap.size (rowK .u8 x) := ⟨_, rfl⟩
      have N2 := Aside0.mk (show HoldsRow W2 w.heap.size 68 (rowK .u8 x) by rw [hW2]; exact HNEW.out.row _)
      have HBEL := Aside0.mk (show Below w.heap.size w W2 by rw [hW2]; exact Go.Proofs.Ytkmgbmnjabmhaaa.Arr.below_setRow (below_alloc (Below.refl _ _) _) _ (Nat.le_refl _))
      have HW2 := Aside0.mk hW2
      clear ht h1 h2 h3 h4 h5 o1 o2 o3 b1 b2 b3 hG hat0 hat1 hl e hW2
      go_enter Try.func21, Try.ntmps21
      go_wp2_with fail
      refine (there_calls w base ok g s HD.out (ai : Int)).mono ?_
      rintro e w1 ⟨rfl, rfl⟩
      rw [HT.out]
      go_wp2_with (refine wpList_store_row rfl 68 (.tmp 7) (.tmp 22) rfl w.heap.size (rowK .u8 x) rfl rfl 68 (rowK .u8 z64) HNEW.out (by rw [rowK_size, HX.out]; kernel_rfl) (by rw [rowK_size, rowK_size, HX.out, z64_len]) (rowK_one _ _) ?_; rw [← HW2.out])
      go_ret2
      exact ⟨_, by rw [HT.out] <;> rfl, by rw [HRF.out, HCS.out]; have := N2.out.own (base := w.heap.size) (Nat.le_refl _) (by rw [HX.out]; decide); rw [HX.out] at this; exact this, HBEL.out⟩
    | none =>
      obtain ⟨x, hx⟩ : ∃ x, x = secOf s.stays ai := ⟨_, rfl⟩
      have HCS := Aside0.mk (show curS s.stays s.waits ai = x by unfold curS; rw [hl, hx]; rfl)
      have HX := Aside0.mk (show x.length = 64 by rw [hx]; exact HSL.out)
      have e : seenF s.waits (ai : Int) = none := by unfold seenF; rw [hl]; rfl
      rw [e] at hlk
      simp only [Option.getD_none, Option.isSome_none] at hlk
      obtain ⟨W2, hW2⟩ : ∃ W2 : World, W2 = (w.alloc (.cells (rowK .u8 z64) 68)).setRow w.heap.size (rowK .u8 z64) := ⟨_, rfl⟩
      have N2 := Aside0.mk (show HoldsRow W2 w.heap.size 68 (rowK .u8 z64) by rw [hW2]; exact HNEW.out.row _)
      have hbel : Below w.heap.size w W2 := by rw [hW2]; exact Go.Proofs.Ytkmgbmnjabmhaaa.Arr.below_setRow (below_alloc (Below.refl _ _) _) _ (Nat.le_refl _)
      have q1 := H1.out.below hbel H1.out.lt
      have k0' := q1.cell (j := 0) (v := .slice (some ⟨gs, 0, none⟩) s.n s.n) rfl
      have HRG := Aside0.mk (show W2.rangeAt gs (ai * 64) (nums .u8 x) by rw [hx]; exact range_row (H2.out.below hbel H2.out.lt) _ _)
      obtain ⟨W3, hW3⟩ : ∃ W3 : World, W3 = W2.setRow w.heap.size (nums .u8 x).toArray := ⟨_, rfl⟩
      have N3 := Aside0.mk (show HoldsRow W3 w.heap.size 68 (rowK .u8 x) by rw [hW3]; exact N2.out.row _)
      have HBEL := Aside0.mk (show Below w.heap.size w W3 by rw [hW3]; exact Go.Proofs.Ytkmgbmnjabmhaaa.Arr.below_setRow hbel _ (Nat.le_refl _))
      have HW2 := Aside0.mk hW2
      have HW3 := Aside0.mk hW3
      have x1 := eq_true (show (0 : Int) ≤ (ai : Int) by omega)
      have x2 := eq_true (show (ai : Int) < (s.n : Int) by omega)
      clear ht h1 h2 h3 h4 h5 o1 o2 o3 b1 b2 b3 hG hat0 hat1 hl e hW2 hW3 q1 hbel hx
      go_enter Try.func21, Try.ntmps21
      go_wp2_with fail
      refine (there_calls w base ok g s HD.out (ai : Int)).mono ?_
      rintro e w1 ⟨rfl, rfl⟩
      rw [HT.out]
      go_wp2_with (first | (refine wpList_store_row rfl 68 (.tmp 7) (.tmp 22) rfl w.heap.size (rowK .u8 z64) rfl rfl 68 (rowK .u8 z64) HNEW.out (by rw [rowK_size, z64_len]; kernel_rfl) rfl (rowK_one _ _) ?_; rw [← HW2.out]) | (refine wpList_load_mid rfl 68 (.tmp 31) rfl gs (ai * 64) rfl (nums .u8 x) _ HRG.out Try.underlying68 rfl (by rw [nums_length, HX.out]; kernel_rfl) ?_) | (refine wpList_store_row rfl 68 (.tmp 7) (.tmp 32) rfl w.heap.size (nums .u8 x).toArray rfl rfl 68 (rowK .u8 z64) N2.out (by rw [nums_rowK, rowK_size, HX.out]; kernel_rfl) (by rw [nums_rowK, rowK_size, rowK_size, HX.out, z64_len]) (rowK_one _ _) ?_; rw [← HW3.out]))
      go_ret2
      exact ⟨_, by rw [HT.out] <;> rfl, by rw [HRF.out, HCS.out]; have := N3.out.own (base := w.heap.size) (Nat.le_refl _) (by rw [HX.out]; decide); rw [HX.out] at this; exact this, HBEL.out⟩
  · have HRF := Aside0.mk (show readF s at_ = [] by unfold readF; rw [if_pos ht])
    have dt : (thereE s at_ != 0) = true := by simp; exact ht
    clear ht
    go_enter Try.func21, Try.ntmps21
    go_wp2_with fail
    refine (there_calls w base ok g s HD.out at_).mono ?_
    rintro e w1 ⟨rfl, rfl⟩
    obtain ⟨q, hq⟩ : ∃ q, q = thereE s at_ := ⟨_, rfl⟩
    rw [← hq] at dt ⊢
    have HQ := Aside0.mk hq
    clear hq
    go_wp2_with fail
    go_ret2
    exact ⟨_, by rw [← HQ.out] <;> rfl, by rw [HRF.out]; exact Kd.R_nil _ _ _ _ _, Below.refl _ _⟩
theorem made_sec (m : Nat) : madeCells (rowK .u8 z64) (m * 64) = rowK .u8 (List.replicate (m * 64) 0) := by
  apply Array.ext
  · simp [rowK, nums, madeCells]
  · intro i h1 h2
    have hz : ∀ j, j < 64 → (rowK .u8 z64)[j]! = Value.int .u8 0 := fun j hj => by
      have hlt : j < (rowK .u8 z64).size := by rw [rowK_size, z64_len]; exact hj
      have := rowK_get .u8 z64 j (by rw [z64_len]; exact hj)
      rw [Array.getElem?_eq_getElem hlt] at this
      rw [getElem!_pos (rowK .u8 z64) j hlt, Option.some.inj this]
      unfold rd z64
      rw [List.getD_eq_getElem?_getD, List.getElem?_replicate]
      split <;> rfl
    have hs : (rowK .u8 z64).size = 64 := by rw [rowK_size, z64_len]
    simp only [madeCells, Array.getElem_map, Array.getElem_range, hs]
    rw [hz _ (Nat.mod_lt _ (by decide))]
    simp [rowK, nums]
theorem make_sec (W : World) (m : Nat) (hm : m ≤ 512) : (Instr.makeSlice 60 (.int .i64 (m : Int)) (.int .i64 (m : Int))).run Try.prog W = .ok (.slice (some ⟨W.heap.size, 0, none⟩) m m) (W.alloc (.cells (rowK .u8 (List.replicate (m * 64) 0)) 68)) := by
  have hinfo : (Try.prog.info? 68).map (fun i => (i.zero, i.size, i.bytes)) = some (some (.agg (rowK .u8 z64)), 64, 64) := by kernel_rfl
  obtain ⟨i0, hi, hzz⟩ := Option.map_eq_some_iff.1 hinfo
  simp only [Prod.mk.injEq] at hzz
  obtain ⟨hz0, hz1, hz2⟩ := hzz
  have hr := run_make (P := Try.prog) W 60 68 i0 _ Try.underlying60 hi hz0 .i64 .i64 (m : Int) (m : Int) (by omega) (by omega) (by rw [hz2]; omega) (by omega)
  simp only [Int.toNat_natCast] at hr
  rw [hz1] at hr
  rw [hr]
  show Result.ok _ (W.alloc (.cells (madeCells (rowK .u8 z64) (m * 64)) _)) = _
  rw [made_sec]
/-- a new disk -/
def newS (n : Nat) : DS := ⟨n, List.replicate (n * 64) 0, [], false, none⟩
def NewPost (n : Int) (w : World) (e : Ending) (w' : World) : Prop :=
  if n < 1 ∨ 512 < n then e = .returned (.tuple #[.pointer none, .int .i64 9]) ∧ w = w' else ∃ g, e = .returned (.tuple #[.pointer (some ⟨g, 0, none⟩), .int .i64 0]) ∧ Below w.heap.size w w' ∧ DiskIs w' w.heap.size (fun k => k < w'.heap.size) g (newS n.toNat)
theorem new_world (w : World) (m : Nat) (h : ¬ ((m : Int) < 1 ∨ 512 < (m : Int))) : NewPost (m : Int) w (.returned (.tuple #[.pointer (some ⟨w.heap.size + 1 + 1, 0, none⟩), .int .i64 0])) (((w.alloc (.cells (rowK .u8 (List.replicate (m * 64) 0)) 68)).alloc (.map #[] 0)).alloc (.cells #[.slice (some ⟨w.heap.size, 0, none⟩) m m, .map (some (w.heap.size + 1)), .slice none 0 0, .bool false, .pointer none] 65)) := by
  unfold NewPost
  rw [if_neg h]
  have hb : Below w.heap.size w (((w.alloc (.cells (rowK .u8 (List.replicate (m * 64) 0)) 68)).alloc (.map #[] 0)).alloc (.cells #[.slice (some ⟨w.heap.size, 0, none⟩) m m, .map (some (w.heap.size + 1)), .slice none 0 0, .bool false, .pointer none] 65)) := below_alloc (below_alloc (below_alloc (Below.refl _ _) _) _) _
  refine ⟨w.heap.size + 1 + 1, rfl, hb, w.heap.size, w.heap.size + 1, .slice none 0 0, none, ?_, ?_, ?_, Kd.R_nil _ _ _ _ _, rfl, ⟨by simp, by simp; omega, by simp⟩, ⟨by omega, by omega, by omega⟩, by show 1 ≤ (m : Int).toNat; omega, by show (m : Int).toNat ≤ 512; omega, ?_, fun p hp => by simp [newS] at hp⟩
  · have := HoldsRow.new ((w.alloc (.cells (rowK .u8 (List.replicate (m * 64) 0)) 68)).alloc (.map #[] 0)) 65 #[.slice (some ⟨w.heap.size, 0, none⟩) m m, .map (some (w.heap.size + 1)), .slice none 0 0, .bool false, .pointer none]
    rw [World.size_alloc, World.size_alloc] at this
    exact this
  · exact ((HoldsRow.new w _ _).alloc _).alloc _
  · have := MapIs.new (w.alloc (.cells (rowK .u8 (List.replicate (m * 64) 0)) 68))
    rw [World.size_alloc] at this
    exact this.move (Go.heap_alloc_old _ _ (by simp))
  · show (List.replicate ((m : Int).toNat * 64) (0 : Int)).length = (m : Int).toNat * 64
    rw [List.length_replicate]
set_option maxHeartbeats 4000000 in
set_option maxRecDepth 100000 in
theorem New_calls (w : World) (n : Int) : Calls Try.prog 22 #[.int .i64 n] w (NewPost n w) := by
  by_cases h : n < 1 ∨ 512 < n
  · have HP := Aside0.mk (show NewPost n w = fun e w' => e = .returned (.tuple #[.pointer none, .int .i64 9]) ∧ w = w' by funext e w'; exact if_pos h)
    rw [HP.out]
    by_cases h1 : n < 1
    · have d1 : decide (n < 1) = true := decide_eq_true h1
      clear h h1 HP
      go_enter Try.func22, Try.ntmps22
      go_wp2_with fail
      go_ret2
      exact ⟨rfl, rfl⟩
    · have d1 : decide (n < 1) = false := decide_eq_false h1
      have d2 : decide (512 < n) = true := decide_eq_true (by omega)
      clear h h1 HP
      go_enter Try.func22, Try.ntmps22
      go_wp2_with fail
      go_ret2
      exact ⟨rfl, rfl⟩
  · have HP := Aside0.mk h
    have d1 : decide (n < 1) = false := decide_eq_false (by omega)
    have d2 : decide (512 < n) = false := decide_eq_false (by omega)
    obtain ⟨m, rfl⟩ := Int.eq_ofNat_of_zero_le (show 0 ≤ n by omega)
    have hmk := fun W => make_sec W m (by omega)
    have hmm := @run_makeMap Try.prog
    clear h
    go_enter Try.func22, Try.ntmps22
    go_wp2_with fail
    go_ret2
    exact new_world w m HP.out
end Go.Proofs.Ytkmgbmnjabmhaaa.Ext
