/- What a disk comes to, in plain Lean: what is kept with all bits, with none; sectors behind a fall. No condition. -/
import Derived.Test.YtkmgbmnjabmhaaaDWorks
namespace Go.Proofs.Ytkmgbmnjabmhaaa.Ext
open Go Go.RowKit Go.Proofs.YtkmgbmnjabmhaaaW.PrintWords Go.Proofs.YtkmgbmnjabmhaaaW.PrintLast Go.Proofs.YtkmgbmnjabmhaaaW.PrintMore Go.Proofs.Ytkmgbmnjabmhaaa.Base Go.Proofs.Ytkmgbmnjabmhaaa.Arr
set_option linter.unusedVariables false
set_option linter.unusedSimpArgs false

theorem offB_max (j : Nat) : offB 18446744073709551615 j = false := by
  have h : ∀ m : Fin 64, (Go.bits .and .u64 ((18446744073709551615 : Int) / 2 ^ m.val) 1 == 0) = false := by decide +kernel
  exact h ⟨j % 64, Nat.mod_lt _ (by decide)⟩
theorem offB_zero (j : Nat) : offB 0 j = true := by
  unfold offB
  rw [Int.zero_ediv]
  decide
theorem wrap_u64 (n : Int) (h0 : 0 ≤ n) (h : n < 18446744073709551616) : IntKind.u64.wrap n = n := by
  simp only [IntKind.wrap]
  simp [IntKind.bits, IntKind.signed]
  omega
theorem ofInt_nat64 (n : Nat) (h : n < 18446744073709551616) : (BitVec.ofInt 64 (n : Int)).toNat = n := by
  rw [BitVec.toNat_ofInt]
  omega
theorem and64 (a b : Nat) (ha : a < 18446744073709551616) (hb : b < 18446744073709551616) : bits .and .u64 (a : Int) (b : Int) = ((a &&& b : Nat) : Int) := by
  show IntKind.u64.wrap ((BitVec.ofInt 64 (a : Int) &&& BitVec.ofInt 64 (b : Int)).toNat : Int) = _
  have h := (BitVec.ofInt 64 (a : Int) &&& BitVec.ofInt 64 (b : Int)).isLt
  rw [wrap_u64 _ (by omega) (by omega), BitVec.toNat_and, ofInt_nat64 a ha, ofInt_nat64 b hb]
theorem and_one (x : Int) (h0 : 0 ≤ x) (h1 : x < 18446744073709551616) : Go.bits .and .u64 x 1 = 0 ∨ Go.bits .and .u64 x 1 = 1 := by
  obtain ⟨n, rfl⟩ := Int.eq_ofNat_of_zero_le h0
  have e := and64 n 1 (by omega) (by decide)
  rw [Nat.and_one_is_mod] at e
  rcases Nat.mod_two_eq_zero_or_one n with h | h
  · left; rw [h] at e; exact e
  · right; rw [h] at e; exact e
theorem on_iff (bits : Int) (h0 : 0 ≤ bits) (h1 : bits < 18446744073709551616) (j : Nat) (hj : j < 64) : (Go.bits .and .u64 (bits / 2 ^ j) 1 == 1) = !(offB bits j) := by
  unfold offB
  rw [Nat.mod_eq_of_lt hj]
  have hp : (0 : Int) ≤ 2 ^ j := Int.pow_nonneg (by decide)
  have h2 : 0 ≤ bits / 2 ^ j := Int.ediv_nonneg h0 hp
  have h3 : bits / 2 ^ j ≤ bits := Int.ediv_le_self _ h0
  rcases and_one (bits / 2 ^ j) h2 (by omega) with h | h
  · rw [h]; rfl
  · rw [h]; rfl
theorem torn_whole (f : List Int) (l : List (Int × List Int)) (at_ : Nat) {sec : List Int} (hs : sec.length = 64) (hc : (curS f l at_).length = 64) : tornS f l at_ sec 64 = sec := by
  unfold tornS
  rw [List.take_of_length_le (by omega), List.drop_of_length_le (by omega), List.append_nil]
/-- with all bits all is kept -/
theorem kept_all {s : DS} (hG : Good s) (bits cut : Int) (hb : ∀ j, offB bits j = false) (hc : cutN cut = 64) : ∀ i, i ≤ s.waits.length → keptTo s bits cut i = s.waits.take i
  | 0, _ => by simp [keptTo]
  | i + 1, hi => by
    have ih := kept_all hG bits cut hb hc i (by omega)
    have hlt : i < s.waits.length := by omega
    have hge : s.waits[i]? = some s.waits[i] := List.getElem?_eq_getElem hlt
    have hp := hG.2.2.2 s.waits[i] (List.getElem_mem _)
    rw [List.take_succ_eq_append_getElem hlt, ← ih]
    by_cases hl : i + 1 = s.waits.length
    · rw [kept_last hge (hb i) hl, hc, torn_whole _ _ _ hp.2.2 (curS_len (secOf_len hG.2.2.1 (by have := hp.2.1; have := hp.1; omega)) (fun q hq => (kept_fits hG bits cut i q hq).2.2))]
    · exact kept_on hge (hb i) hl
/-- with none nothing -/
theorem kept_none {s : DS} (bits cut : Int) (hb : ∀ j, offB bits j = true) : ∀ i, keptTo s bits cut i = []
  | 0 => rfl
  | i + 1 => by
    have ih := kept_none (s := s) bits cut hb i
    cases h : s.waits[i]? with
    | none => rw [keptTo, h]; exact ih
    | some p => rw [kept_off h (hb i)]; exact ih
/-- a sector of what is laid -/
theorem lay_cur {n : Nat} {f : List Int} (hf : f.length = n * 64) {j : Nat} (hj : j < n) : ∀ (m : Nat) (l : List (Int × List Int)), l.length = m → Fits n l → secOf (lay f l) j = curS f l j
  | 0, l, hm, _ => by
    obtain rfl := List.eq_nil_of_length_eq_zero hm
    rfl
  | m + 1, l, hm, hl => by
    have hne : l ≠ [] := fun e => by rw [e] at hm; simp at hm
    obtain ⟨l', p, rfl⟩ : ∃ l' p, l = l' ++ [p] := ⟨l.dropLast, l.getLast hne, (List.dropLast_concat_getLast hne).symm⟩
    have hl' : Fits n l' := fun q hq => hl q (by simp [hq])
    have hp := hl p (by simp)
    rw [lay_snoc, secOf_put (lay_len hf l' hl') (by have := hp.1; have := hp.2.1; omega) hj hp.2.2, curS_snoc, lay_cur hf hj m l' (by simpa using hm) hl']
    by_cases e : j = p.1.toNat
    · rw [if_pos e, if_pos (by have := hp.1; omega)]
    · rw [if_neg e, if_neg (by have := hp.1; omega)]
theorem read_alive {s : DS} {at_ : Nat} (h : thereE s at_ = 0) : readF s at_ = curS s.stays s.waits at_ := by
  unfold readF
  rw [if_neg (fun e => e h), Int.toNat_natCast]
theorem there_alive {s : DS} {at_ : Int} (hd : s.dead = false) (h0 : 0 ≤ at_) (h1 : at_ < s.n) : thereE s at_ = 0 := by
  unfold thereE
  rw [hd, if_neg (by decide), if_neg (by omega), if_neg (by omega)]
theorem write_alive {s : DS} {at_ : Int} {b : List Int} (hd : s.dead = false) (hp : s.plan = none) (h0 : 0 ≤ at_) (h1 : at_ < s.n) (hb : b.length = 64) : writeF s at_ b = (0, { s with waits := s.waits ++ [(at_, b)] }) := by
  have e : doingF s = (0, s) := by unfold doingF; rw [hp]
  unfold writeF
  rw [there_alive hd h0 h1, e, if_neg (fun e => e rfl), if_neg (fun e => e hb), if_neg (fun e => e rfl)]
theorem flush_alive {s : DS} (hd : s.dead = false) (hp : s.plan = none) : flushF s = (0, { s with stays := lay s.stays s.waits, waits := [] }) := by
  have e : doingF s = (0, s) := by unfold doingF; rw [hp]
  unfold flushF
  rw [e, if_neg (by rw [hd]; decide), if_pos rfl]
theorem crash_alive {s : DS} (hd : s.dead = false) (bits cut : Int) : crashF s bits cut = (0, goneS s bits cut) := by
  unfold crashF
  rw [hd]
  exact if_neg (by decide)
def bootS (s : DS) : DS := { s with dead := false, plan := none }
theorem new_good (n : Nat) (h1 : 1 ≤ n) (h2 : n ≤ 512) : Good (newS n) := ⟨h1, h2, by simp [newS], fun p hp => by simp [newS] at hp⟩
/-- what is read behind a fall -/
theorem read_gone {s : DS} (hG : Good s) (bits cut : Int) {j : Nat} (hj : j < s.n) : thereE (bootS (goneS s bits cut)) j = 0 ∧ readF (bootS (goneS s bits cut)) j = curS s.stays (keptTo s bits cut s.waits.length) j := by
  have ht : thereE (bootS (goneS s bits cut)) j = 0 := there_alive rfl (by omega) (by show (j : Int) < s.n; omega)
  refine ⟨ht, ?_⟩
  rw [read_alive ht]
  show curS (lay s.stays (keptTo s bits cut s.waits.length)) [] j = _
  have e : curS (lay s.stays (keptTo s bits cut s.waits.length)) [] j = secOf (lay s.stays (keptTo s bits cut s.waits.length)) j := rfl
  rw [e, lay_cur hG.2.2.1 hj _ _ rfl (kept_fits hG bits cut _)]
theorem curS_lay {n : Nat} {f : List Int} (hf : f.length = n * 64) {j : Nat} (hj : j < n) {l m : List (Int × List Int)} (hl : Fits n l) : curS (lay f l) m j = curS f (l ++ m) j := by
  unfold curS lastW
  rw [List.foldl_append]
  have : ∀ (m : List (Int × List Int)) (b a : Option (List Int)), (m.foldl (fun a p => if p.1 = (j : Int) then some p.2 else a) b).getD (a.getD (secOf f j)) = (m.foldl (fun a p => if p.1 = (j : Int) then some p.2 else a) (b.or a)).getD (secOf f j) := by
    intro m
    induction m with
    | nil => intro b a; cases b <;> rfl
    | cons p m ih =>
      intro b a
      rw [List.foldl_cons, List.foldl_cons, ih]
      congr 2
      by_cases e : p.1 = (j : Int)
      · simp [e]
      · simp [e]
  have h2 := this m none (l.foldl (fun a p => if p.1 = (j : Int) then some p.2 else a) none)
  rw [lay_cur hf hj _ l rfl hl]
  exact h2
/-! ### calls of a law's disk -/
def Moves (H : Nat) (w w' : World) (ok ok' : Nat → Prop) : Prop := Below H w w' ∧ Kept w w' ok ∧ ∀ k, ok' k → (ok k ∨ w.heap.size ≤ k) ∧ k < w'.heap.size
theorem LWrite (H : Nat) (w : World) (ok : Nat → Prop) (g : Nat) (s s' : DS) (r : Int) (b at_ : Int) (A : Option Addr) (c : Nat) (h : DL H w ok g s) (hw : s.waits.length ≤ 1000000) (hr : Kd.R (Kd.int .u8) 5 w H (fun k => ¬ ok k) (.slice A 64 c) (secI b)) (hs : writeF s at_ (secI b) = (r, s')) :
    Calls Try.prog 11 #[.pointer (some ⟨g, 0, none⟩), .int .i64 at_, .slice A 64 c] w fun e w' => e = .returned (.int .i64 r) ∧ ∃ ok', DL H w' ok' g s' ∧ Moves H w w' ok ok' := by
  have hlw := row_reads (n := (secI b).length) (xs := secI b) (by rw [secI_len]; exact hr)
  have h2 := Write_calls w H ok g s h.1 h.2.2 hw at_ A c (secI b) hlw (by rw [secI_len]; exact (Kd.R_reads' hr).2.1)
  rw [secI_len, hs] at h2
  refine h2.mono ?_
  rintro e w' ⟨he, hto⟩
  obtain ⟨ok', hd, hb, hk, hss⟩ := h.to_ hto
  exact ⟨he, ok', hd, hb, hk, hss⟩
theorem LFlush (H : Nat) (w : World) (ok : Nat → Prop) (g : Nat) (s s' : DS) (r : Int) (h : DL H w ok g s) (hw : s.waits.length ≤ 1000000) (hs : flushF s = (r, s')) :
    Calls Try.prog 13 #[.pointer (some ⟨g, 0, none⟩)] w fun e w' => e = .returned (.int .i64 r) ∧ ∃ ok', DL H w' ok' g s' ∧ Moves H w w' ok ok' := by
  have h2 := Flush_calls w H ok g s h.1 h.2.2 hw
  rw [hs] at h2
  refine h2.mono ?_
  rintro e w' ⟨he, hto⟩
  obtain ⟨ok', hd, hb, hk, hss⟩ := h.to_ hto
  exact ⟨he, ok', hd, hb, hk, hss⟩
theorem LCrash (H : Nat) (w : World) (ok : Nat → Prop) (g : Nat) (s s' : DS) (r : Int) (bits cut : Int) (h : DL H w ok g s) (hw : s.waits.length ≤ 1000000) (hs : crashF s bits cut = (r, s')) :
    Calls Try.prog 15 #[.pointer (some ⟨g, 0, none⟩), .int .u64 bits, .int .i64 cut] w fun e w' => e = .returned (.int .i64 r) ∧ ∃ ok', DL H w' ok' g s' ∧ Moves H w w' ok ok' := by
  have h2 := Crash_calls w H ok g s h.1 h.2.2 hw bits cut
  rw [hs] at h2
  refine h2.mono ?_
  rintro e w' ⟨he, hto⟩
  obtain ⟨ok', hd, hb, hk, hss⟩ := h.to_ hto
  exact ⟨he, ok', hd, hb, hk, hss⟩
theorem LBoot (H : Nat) (w : World) (ok : Nat → Prop) (g : Nat) (s : DS) (h : DL H w ok g s) :
    Calls Try.prog 16 #[.pointer (some ⟨g, 0, none⟩)] w fun e w' => e = .returned (.int .i64 0) ∧ ∃ ok', DL H w' ok' g (bootS s) ∧ Moves H w w' ok ok' := by
  refine (Boot_calls w H ok g s h.1).mono ?_
  rintro e w' ⟨he, hto⟩
  obtain ⟨ok', hd, hb, hk, hss⟩ := h.to_ hto
  exact ⟨he, ok', hd, hb, hk, hss⟩
theorem LFail (H : Nat) (w : World) (ok : Nat → Prop) (g : Nat) (s : DS) (n bits cut : Int) (h : DL H w ok g s) (hd : s.dead = false) (hn : n ≤ 9223372036854775807) :
    Calls Try.prog 19 #[.pointer (some ⟨g, 0, none⟩), .int .i64 n, .int .u64 bits, .int .i64 cut] w fun e w' => e = .returned (.int .i64 0) ∧ ∃ ok', DL H w' ok' g { s with plan := failP n bits cut } ∧ Moves H w w' ok ok' := by
  refine (Fail_calls w H ok g s h.1 h.2.2 hd n bits cut hn).mono ?_
  rintro e w' ⟨he, hto⟩
  obtain ⟨ok', hd, hb, hk, hss⟩ := h.to_ hto
  exact ⟨he, ok', hd, hb, hk, hss⟩
theorem LDead (H : Nat) (w : World) (ok : Nat → Prop) (g : Nat) (s : DS) (h : DL H w ok g s) : Calls Try.prog 20 #[.pointer (some ⟨g, 0, none⟩)] w fun e w' => e = .returned (.bool s.dead) ∧ w = w' := Dead_calls w H ok g s h.1
theorem LWaits (H : Nat) (w : World) (ok : Nat → Prop) (g : Nat) (s : DS) (h : DL H w ok g s) : Calls Try.prog 14 #[.pointer (some ⟨g, 0, none⟩)] w fun e w' => e = .returned (.int .i64 (s.waits.length : Int)) ∧ w = w' := Waits_calls w H ok g s h.1
theorem LRead (H : Nat) (w : World) (ok : Nat → Prop) (g : Nat) (s : DS) (at_ : Int) (h : DL H w ok g s) : Calls Try.prog 21 #[.pointer (some ⟨g, 0, none⟩), .int .i64 at_] w (ReadPost s at_ w) := Read_calls w H ok g s h.1 at_
theorem row_moves {H : Nat} {W W1 : World} {ok ok' : Nat → Prop} {α : Type} {d : Kd α} {e : Nat} {v : Value} {xs : List α} (hr : d.R e W H (fun k => ¬ ok k) v xs) (hm : Moves H W W1 ok ok') : d.R e W1 H (fun k => ¬ ok' k) v xs := row_to hr hm.2.1 hm.2.2
/-- has, at a row of the law's own -/
theorem LHas (H : Nat) (w : World) (ok : Nat → Prop) (g : Nat) (s : DS) (at_ : Int) (A : Option Addr) (n c : Nat) (b : List Int) (h : DL H w ok g s) (hr : Kd.R (Kd.int .u8) 5 w H (fun k => ¬ ok k) (.slice A n c) b) (hn : b.length = n) (hl : n ≤ 1000) (ht : thereE s at_ = 0) (hrd : readF s at_ = b) :
    Calls Try.prog 17 #[.pointer (some ⟨g, 0, none⟩), .int .i64 at_, .slice A n c] w fun e w' => e = .returned (.bool true) ∧ Below w.heap.size w w' := by
  subst hn
  exact has_calls w H ok g s h at_ A c b (Kd.R_reads' hr).2.2 (Kd.R_reads' hr).2.1 hl ht hrd
end Go.Proofs.Ytkmgbmnjabmhaaa.Ext
