/- What a law on one disk leans on: sectors of a byte, a disk beside rows of the law's own, made, has. No condition. -/
import Derived.Test.YtkmgbmnjabmhaaaReadD
namespace Go.Proofs.Ytkmgbmnjabmhaaa.Ext
open Go Go.RowKit Go.Proofs.YtkmgbmnjabmhaaaW.PrintWords Go.Proofs.YtkmgbmnjabmhaaaW.PrintLast Go.Proofs.YtkmgbmnjabmhaaaW.PrintMore Go.Proofs.Ytkmgbmnjabmhaaa.Base Go.Proofs.Ytkmgbmnjabmhaaa.Arr
set_option linter.unusedVariables false
set_option linter.unusedSimpArgs false

theorem eq_loop (l : List Int) (hl : l.length ≤ 140737488355328) (d : Nat) : ∀ (k i : Nat), i + d = l.length → d < k → encoreref00_EqBytes.l0 k l l i = some true := by
  induction d with
  | zero =>
    intro k i hi hk
    obtain ⟨k, rfl⟩ : ∃ n, k = n + 1 := ⟨k - 1, by omega⟩
    simp only [encoreref00_EqBytes.l0]
    rw [if_neg (by omega)]
  | succ d ih =>
    intro k i hi hk
    obtain ⟨k, rfl⟩ : ∃ n, k = n + 1 := ⟨k - 1, by omega⟩
    simp only [encoreref00_EqBytes.l0]
    rw [if_pos (by omega), if_pos (by omega), if_pos (by omega), if_pos trivial, show wrap64 ((i : Int) + 1) = ((i + 1 : Nat) : Int) by unfold wrap64; omega]
    exact ih k (i + 1) (by omega) (by omega)
theorem eq_same (l : List Int) (hl : l.length ≤ 140737488355328) (k : Nat) (hk : l.length < k) : encoreref00_EqBytes.f k l l = some true := by
  unfold encoreref00_EqBytes.f
  rw [if_pos rfl]
  exact eq_loop l hl l.length k 0 (by omega) hk
theorem copy_eq (l : List Int) (hl : l.length < 140737488355328) : encoreref00_CopyBytes.f l = some l := by
  unfold encoreref00_CopyBytes.f
  rw [if_pos (by simpa using hl)]
  simp
theorem bring_eq (a : Int) (n : Nat) (hn : 0 < n) (hb : n ≤ 281474976710656) : encoreref00_Bring.f a (n : Int) = some (a % (n : Int)) := by
  unfold encoreref00_Bring.f
  rw [if_neg (by omega), if_neg (by omega)]
  have h := Int.tmod_eq_emod (a := a) (b := (n : Int))
  have h1 := Int.emod_nonneg a (show (n : Int) ≠ 0 by omega)
  have h2 := Int.emod_lt_of_pos a (show (0 : Int) < n by omega)
  split at h
  · have e0 : ((0 : Nat) : Int) = 0 := rfl
    rw [h, e0, Int.sub_zero, if_neg (by omega)]
  · rw [h, if_pos (by simp; omega)]
    congr 1
    unfold wrap64
    simp only [Int.natAbs_natCast]
    omega
/-- a sector of a byte -/
def secI (b : Int) : List Int := (wrap64 (b + 1) % 256) :: List.replicate 63 (b % 256)
theorem secI_len (b : Int) : (secI b).length = 64 := by unfold secI; simp
theorem sector_loop (b : Int) (d : Nat) : ∀ (k i : Nat), i + d = 64 → d < k → encorelaw03_sector.l0 k b (List.replicate i (b % 256) ++ List.replicate d 0) (i : Int) = some (secI b) := by
  induction d with
  | zero =>
    intro k i hi hk
    obtain ⟨k, rfl⟩ : ∃ n, k = n + 1 := ⟨k - 1, by omega⟩
    obtain rfl : i = 64 := by omega
    simp only [encorelaw03_sector.l0]
    rw [if_neg (by omega), if_pos (by simp)]
    rfl
  | succ d ih =>
    intro k i hi hk
    obtain ⟨k, rfl⟩ : ∃ n, k = n + 1 := ⟨k - 1, by omega⟩
    simp only [encorelaw03_sector.l0]
    rw [if_pos (by omega), if_pos (by omega), if_pos (by simp; omega), Int.toNat_natCast, show wrap64 ((i : Int) + 1) = ((i + 1 : Nat) : Int) by unfold wrap64; omega]
    have e : (List.replicate i (b % 256) ++ List.replicate (d + 1) 0).set i (b % 256) = List.replicate (i + 1) (b % 256) ++ List.replicate d 0 := by
      rw [List.set_append_right _ _ (by simp), List.length_replicate, Nat.sub_self, List.replicate_succ, List.set_cons_zero, List.replicate_succ' (n := i)]
      simp
    rw [e]
    exact ih k (i + 1) (by omega) (by omega)
theorem sector_eq (b : Int) (k : Nat) (hk : 64 < k) : encorelaw03_sector.f k b = some (secI b) := by
  unfold encorelaw03_sector.f
  rw [if_pos (by decide)]
  exact sector_loop b 64 k 0 rfl hk
theorem sector_calls (b : Int) (w : World) : Calls Try.prog 12 #[.int .i64 b] w fun e w' => ∃ A c, e = .returned (.slice A 64 c) ∧ Kd.R (Kd.int .u8) 5 w' w.heap.size (fun _ => True) (.slice A 64 c) (secI b) ∧ Below w.heap.size w w' :=
  (encorelaw03_sector.calls 65 b (secI b) w (sector_eq b 65 (by decide))).mono fun e w' ⟨v, he, hr, hb⟩ => by
    obtain ⟨A, c, rfl⟩ := Kd.R_slice hr
    rw [secI_len] at he hr
    exact ⟨A, c, he, hr, hb⟩
/-- a row of bytes, read from one of them on -/
theorem cut_at {w : World} {g : Nat} {l : List Int} (h : Kd.C (Kd.int .u8) w (some ⟨g, 0, none⟩) l.length l) (m k : Nat) (hk : l.length = m + k) : Kd.C (Kd.int .u8) w (some ⟨g, m, none⟩) k (l.drop m) := by
  have := C_drop h m
  rw [add_plain, List.length_drop, show l.length - m = k by omega] at this
  exact this
/-- a disk, and a row beside it -/
def DL (H : Nat) (W : World) (ok : Nat → Prop) (g : Nat) (s : DS) : Prop := DiskIs W H ok g s ∧ (∀ k, ok k → k < W.heap.size) ∧ H ≤ W.heap.size
theorem DL.below {H : Nat} {W W1 : World} {ok : Nat → Prop} {g : Nat} {s : DS} (h : DL H W ok g s) (hb : Below W.heap.size W W1) : DL H W1 ok g s := ⟨h.1.below hb, fun k hk => Nat.lt_of_lt_of_le (h.2.1 k hk) hb.size, Nat.le_trans h.2.2 hb.size⟩
theorem DL.to_ {H : Nat} {W W1 : World} {ok : Nat → Prop} {g : Nat} {s s' : DS} (h : DL H W ok g s) (hto : DiskTo W W1 H ok g s') : ∃ ok', DL H W1 ok' g s' ∧ Below H W W1 ∧ Kept W W1 ok ∧ ∀ k, ok' k → (ok k ∨ W.heap.size ≤ k) ∧ k < W1.heap.size := by
  obtain ⟨h1, h2, ok', h3, h4⟩ := hto
  exact ⟨ok', ⟨h4, fun k hk => (h3 k hk).2, Nat.le_trans h.2.2 h2.1⟩, h1, h2, h3⟩
theorem DL.fresh {H : Nat} {W W1 : World} {ok : Nat → Prop} {g : Nat} {s : DS} {α : Type} {d : Kd α} {e : Nat} {okr : Nat → Prop} {v : Value} {xs : List α} (h : DL H W ok g s) (hr : d.R e W1 W.heap.size okr v xs) : d.R e W1 H (fun k => ¬ ok k) v xs :=
  Kd.R_mono (Kd.R_bound (Kd.R_lower (Kd.R_mono (Kd.R_bound hr) (ok' := fun k => ¬ ok k) (fun k hk q => by have := h.2.1 k q; omega)) h.2.2)) (fun k hk => hk.1)
theorem row_to {H : Nat} {W W1 : World} {ok ok' : Nat → Prop} {α : Type} {d : Kd α} {e : Nat} {v : Value} {xs : List α} (hr : d.R e W H (fun k => ¬ ok k) v xs) (hk : Kept W W1 ok) (hs : ∀ k, ok' k → (ok k ∨ W.heap.size ≤ k) ∧ k < W1.heap.size) : d.R e W1 H (fun k => ¬ ok' k) v xs :=
  Kd.R_mono (Kd.R_kept (Kd.R_bound hr) hk (fun k h => h.1)) (fun k h q => by
    rcases (hs k q).1 with h1 | h1
    · exact h.1 h1
    · have := h.2.2.1; omega)
theorem row_reads {H : Nat} {W : World} {ok : Nat → Prop} {e : Nat} {A : Option Addr} {n c : Nat} {xs : List Int} (hr : Kd.R (Kd.int .u8) e W H (fun k => ¬ ok k) (.slice A n c) xs) : ∀ W', Kept W W' ok → Kd.C (Kd.int .u8) W' A n xs := fun W' hk => by
  have h := Kd.C_kept_own hr (fun k h => h) W' hk
  exact h
set_option maxHeartbeats 4000000 in
theorem made_calls (w : World) : Calls Try.prog 9 #[] w fun e w' => ∃ g, e = .returned (.pointer (some ⟨g, 0, none⟩)) ∧ Below w.heap.size w w' ∧ DL w.heap.size w' (fun k => w.heap.size ≤ k ∧ k < w'.heap.size) g (newS 8) := by
  go_enter Try.func9, Try.ntmps9
  go_wp2_with fail
  refine (New_calls w 8).mono ?_
  rintro e w1 h
  unfold NewPost at h
  rw [if_neg (by omega)] at h
  obtain ⟨g, rfl, hb, hd⟩ := h
  have HB := Aside0.mk hb
  have HD := Aside0.mk (show DL w.heap.size w1 (fun k => w.heap.size ≤ k ∧ k < w1.heap.size) g (newS 8) from ⟨by
    obtain ⟨gs, m, vw, pp, h1, h2, h3, h4, h5, ⟨o1, o2, o3⟩, ⟨b1, b2, b3⟩, hG⟩ := hd
    refine ⟨gs, m, vw, pp, h1, h2, h3, Kd.R_mono (Kd.R_bound h4) (fun k hk => ⟨hk.2.1, hk.2.2.1⟩), ?_, ⟨⟨b1, o1⟩, ⟨b2, o2⟩, ⟨b3, o3⟩⟩, ⟨b1, b2, b3⟩, hG⟩
    exact h5, fun k hk => hk.2, hb.size⟩)
  clear hb hd
  go_wp2_with fail
  go_ret
  exact ⟨g, rfl, HB.out, HD.out⟩
set_option maxHeartbeats 4000000 in
theorem has_calls (w : World) (H : Nat) (ok : Nat → Prop) (g : Nat) (s : DS) (h : DL H w ok g s) (at_ : Int) (A : Option Addr) (c : Nat) (b : List Int) (hb : Kd.C (Kd.int .u8) w A b.length b) (hc : b.length ≤ c) (hl : b.length ≤ 1000) (ht : thereE s at_ = 0) (hr : readF s at_ = b) :
    Calls Try.prog 17 #[.pointer (some ⟨g, 0, none⟩), .int .i64 at_, .slice A b.length c] w fun e w' => e = .returned (.bool true) ∧ Below w.heap.size w w' := by
  have HD := Aside0.mk h
  have HT := Aside0.mk ht
  have HR := Aside0.mk hr
  have HB := Aside0.mk hb
  have HC := Aside0.mk hc
  have HL := Aside0.mk hl
  clear h ht hr hb hc hl
  go_enter Try.func17, Try.ntmps17
  go_wp2_with fail
  refine (Read_calls w H ok g s HD.out.1 at_).mono ?_
  rintro e w1 ⟨v, rfl, h1, h2⟩
  rw [HT.out]
  rw [HR.out] at h1
  obtain ⟨A1, c1, rfl⟩ := Kd.R_slice h1
  obtain ⟨_, h4, h5⟩ := Kd.R_reads' h1
  have H2 := Aside0.mk h2
  have H4 := Aside0.mk h4
  have H5 := Aside0.mk h5
  have H6 := Aside0.mk (Kd.C_below HB.out H2.out)
  have HE := Aside0.mk (eq_same b (by have := HL.out; omega) 1001 (by have := HL.out; omega))
  clear h1 h2 h4 h5
  go_wp2_with fail
  refine (encoreref00_EqBytes.calls 1001 A1 c1 b A c b true w1 H5.out H4.out H6.out HC.out HE.out).mono ?_
  rintro e w2 ⟨rfl, hd⟩
  have HD2 := Aside0.mk hd
  clear hd
  go_wp2_with fail
  go_ret
  exact ⟨rfl, H2.out.trans (HD2.out.below.mono H2.out.size)⟩
end Go.Proofs.Ytkmgbmnjabmhaaa.Ext
