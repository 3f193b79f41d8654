import Derived.Test.YthnjkmjcacoajaaProg
import Derived.Below
import Derived.Deep.Draws
import Derived.Deep.AppendLies
import Derived.Maps.AppendAt
import Derived.OwnWalk
import Derived.Laws.BytesArg
import Derived.Laws.MakeOwn
import Derived.Laws.OwnMore
import Derived.Deep.OwnRows
import Derived.Tactics
import Derived.Lib.ConvBytes
import Derived.Laws.Slices
import Derived.WalkKit
import Derived.KernelRfl
import Derived.RowKit3
import Derived.Deep.LoopGhost
import Derived.Deep.QuietTactic
import Derived.BigQuiet
import Derived.WideLaws
import Derived.Deep.DeepCutAuto
import Derived.Deep.CutBlock
import Derived.Deep.RegionHeld3
import Derived.Laws.Rows
import Derived.Lib.AppendStr
import Derived.ArgAppend
import Derived.Laws.IdiomCopy
import Derived.OrdersHeld
import Derived.Laws.BitsLemmas
import Derived.RowKit
import Derived.Test.YthnjkmjcacoajaaKJournalKeeps1
import Derived.Test.YthnjkmjcacoajaaKJournalKeeps3
import Derived.Test.YthnjkmjcacoajaaKJournalKeeps4
import Derived.Test.YthnjkmjcacoajaaKJournalKeeps5
import Derived.Test.YthnjkmjcacoajaaKJournalKeeps6
import Derived.Test.YthnjkmjcacoajaaKJournalKeeps7
import Derived.Test.YthnjkmjcacoajaaKJournalKeeps8
import Derived.Test.YthnjkmjcacoajaaKJournalKeeps9
import Derived.Test.YthnjkmjcacoajaaKJournalKeeps10
import Derived.Test.YthnjkmjcacoajaaKJournalKeeps11
import Derived.Test.YthnjkmjcacoajaaKJournalKeeps12
import Derived.Test.YthnjkmjcacoajaaKJournalKeeps13
import Derived.Test.YthnjkmjcacoajaaKJournalKeeps14
import Derived.Test.YthnjkmjcacoajaaKJournalKeeps15
import Derived.Test.YthnjkmjcacoajaaKJournalKeeps16
import Derived.Test.YthnjkmjcacoajaaKJournalKeeps17
import Derived.Test.YthnjkmjcacoajaaKJournalKeeps18
import Derived.Test.YthnjkmjcacoajaaKJournalKeeps19
import Derived.Test.YthnjkmjcacoajaaKJournalKeeps20
import Derived.Test.YthnjkmjcacoajaaKJournalKeeps21
import Derived.Test.YthnjkmjcacoajaaKJournalKeeps22
import Derived.Test.YthnjkmjcacoajaaKJournalKeeps2
import Derived.WalkSpells
section
-- PRINTED by print.py (a twelfth state) out of the translation. Not trusted: Lean checks it.
namespace Go.Proofs.Ythnjkmjcacoajaa.FrBase
open Go.RowKit Go.Proofs.YthnjkmjcacoajaaW.PrintWords Go.Proofs.YthnjkmjcacoajaaW.PrintLast Go.Proofs.YthnjkmjcacoajaaW.PrintMore
attribute [local go_sem] max2_int min2_int max_two min_two max_three min_three max_four min_four   -- for this text's walks alone
set_option linter.unusedVariables false
set_option linter.unusedSimpArgs false



def errW : Option Int → Value
  | none => .nilIface
  | some c => .iface 0 (.int .i64 c)
theorem errW_none : errW none = .nilIface := rfl
theorem errW_some (c : Int) : errW (some c) = .iface 0 (.int .i64 c) := rfl

-- the values' own types

end Go.Proofs.Ythnjkmjcacoajaa.FrBase
end

section
-- PRINTED by print.py (a twelfth state) out of the translation. Not trusted: Lean checks it.
namespace Go.Proofs.Ythnjkmjcacoajaa.FrBase
open Go.RowKit Go.Proofs.YthnjkmjcacoajaaW.PrintWords Go.Proofs.YthnjkmjcacoajaaW.PrintLast Go.Proofs.YthnjkmjcacoajaaW.PrintMore
attribute [local go_sem] max2_int min2_int max_two min_two max_three min_three max_four min_four   -- for this text's walks alone
set_option linter.unusedVariables false
set_option linter.unusedSimpArgs false

/-! ### crc_down: function 77 -/
def crc_down.f (a0 : Int) : Option (Int) := some (Go.bits .xor .u32 (a0 / 2) (Go.bits .and .u32 ((-(Go.bits .and .u32 a0 1)) % 4294967296) 2197175160))
set_option maxHeartbeats 8000000 in
set_option maxRecDepth 100000 in
theorem crc_down.calls (a0 : Int) (r : Int) (w : World) (h : crc_down.f a0 = some r) :
    Calls Try.prog 77 #[.int .u32 a0] w fun e w' => e = .returned (.int .u32 r) ∧ Drawn0 w w' := by
  have H : (some (Go.bits .xor .u32 (a0 / 2) (Go.bits .and .u32 ((-(Go.bits .and .u32 a0 1)) % 4294967296) 2197175160))) = some r := h
  clear h
  obtain rfl := Option.some.inj H
  go_enter Try.func77, Try.ntmps77
  go_wp2
  go_ret
  exact ⟨by first | rfl | (simp; done) | (simp [*]; done), by repeat (first | exact Drawn0.refl _ | apply Drawn0.step)⟩

/-! ### bin_number: function 73 -/
def bin_number.f (a0 : Int) : Option (Int × Int) := if a0 > 9007199254740991 then (some (0, 4)) else (some (wrap64 (a0), 0))
set_option maxHeartbeats 8000000 in
set_option maxRecDepth 100000 in
theorem bin_number.calls (a0 : Int) (r1 : Int) (r2 : Int) (w : World) (h : bin_number.f a0 = some (r1, r2)) :
    Calls Try.prog 73 #[.int .u64 a0] w fun e w' => e = .returned (.tuple #[.int .i64 r1, .int .i64 r2]) ∧ Drawn0 w w' := by
  have H : (if a0 > 9007199254740991 then (some (0, 4)) else (some (wrap64 (a0), 0))) = some (r1, r2) := h
  clear h
  by_cases c2 : a0 > 9007199254740991
  · rw [if_pos c2] at H
    have c2b0 : decide (9007199254740991 < a0) = true := decide_eq_true c2
    clear c2
    simp only [Option.some.injEq, Prod.mk.injEq] at H
    obtain ⟨rfl, rfl⟩ := H
    go_enter Try.func73, Try.ntmps73
    go_wp2
    go_ret2
    exact ⟨by first | rfl | (simp; done) | (simp [*]; done), by repeat (first | exact Drawn0.refl _ | apply Drawn0.step)⟩
  · rw [if_neg c2] at H
    have c2b0 : decide (9007199254740991 < a0) = false := decide_eq_false c2
    clear c2
    simp only [Option.some.injEq, Prod.mk.injEq] at H
    obtain ⟨rfl, rfl⟩ := H
    go_enter Try.func73, Try.ntmps73
    go_wp2
    go_ret2
    exact ⟨by first | rfl | (simp; done) | (simp [*]; done), by repeat (first | exact Drawn0.refl _ | apply Drawn0.step)⟩

end Go.Proofs.Ythnjkmjcacoajaa.FrBase
end

section
/- bytes.Clone, walked: the same row in memory of its own. Condition: a row that append bears. -/
namespace Go.Proofs.Ythnjkmjcacoajaa.Fr
open Go.RowKit Go.Proofs.YthnjkmjcacoajaaW.PrintWords Go.Proofs.YthnjkmjcacoajaaW.PrintLast Go.Proofs.YthnjkmjcacoajaaW.PrintMore Go.Proofs.Ythnjkmjcacoajaa.FrBase Go.Proofs.Ythnjkmjcacoajaa.Arr
set_option linter.unusedVariables false
set_option linter.unusedSimpArgs false

theorem infoU8 : (Try.prog.info? 5).map (fun i => (i.zero, i.size, i.bytes)) = some (some (.int .u8 0), 1, 1) := by kernel_rfl
def bytes_Clone.f (l0 : List Int) : Option (List Int) := if l0.length < 140737488355328 then some l0 else none
set_option maxHeartbeats 2000000 in
set_option maxRecDepth 100000 in
theorem bytes_Clone.calls (A0 : Option Addr) (c0 : Nat) (l0 : List Int) (r : List Int) (w : World) (hr0 : Kd.C (Kd.int .u8) w A0 l0.length l0) (hc0 : l0.length ≤ c0) (h : bytes_Clone.f l0 = some r) :
    Calls Try.prog 66 #[.slice A0 l0.length c0] w fun e w' => ∃ v0_ : Value, e = .returned (v0_) ∧ Kd.R (Kd.int .u8) 5 w' w.heap.size (fun _ => True) v0_ r ∧ Below w.heap.size w w' := by
  unfold bytes_Clone.f at h
  by_cases hl : l0.length < 140737488355328
  · rw [if_pos hl] at h
    obtain rfl := Option.some.inj h
    clear h
    have HR0 := Aside0.mk hr0
    clear hr0
    have HB := Aside0.mk (Below.refl w.heap.size w)
    cases A0 with
    | none =>
      obtain rfl : l0 = [] := by
        have h := HR0.out.2.2
        cases l0 with
        | nil => rfl
        | cons x l => obtain ⟨ad, e, _⟩ := h (by simp); cases e
      have hn := fun (W : World) => Lib.run_eql_slice_nil (P := Try.prog) W 31 5 none 0 c0 0 0 Try.underlying31
      go_enter Try.func66, Try.ntmps66
      go_wp2_with fail
      go_ret
      exact ⟨_, rfl, Kd.R_nil _ _ _ _ _, HB.out⟩
    | some ad =>
      have hn := fun (W : World) => Lib.run_eql_slice_nil (P := Try.prog) W 31 5 (some ad) l0.length c0 0 0 Try.underlying31
      go_enter Try.func66, Try.ntmps66
      have hlit : Kd.R (Kd.int .u8) 5 (w.alloc (.cells #[] 5)) w.heap.size (fun _ => True) (.slice (some ⟨w.heap.size, 0, none⟩) 0 0) [] :=
        (HoldsRow.new w 5 (rowK .u8 [])).own (Nat.le_refl _) (by simp)
      have HC := Aside0.mk (Kd.C_alloc HR0.out (.cells #[] 5))
      have HL := Aside0.mk hlit
      have HB2 := Aside0.mk (below_alloc HB.out (.cells #[] 5))
      have hsz : w.heap.size ≤ (w.alloc (.cells #[] 5)).heap.size := by simp
      have HS := Aside0.mk hsz
      clear hlit hsz
      go_wp2_with (first | (at_builtin; refine Kd.R_append_rows (Kd.int .u8) (w0 := w) w.heap.size rfl (.tmp 5) (.tmp 6) 31 5 (.int .u8 0) 1 rfl Try.underlying31 infoU8 rfl (by decide) (by omega) (.slice (some ⟨w.heap.size, 0, none⟩) 0 0) ([] : List Int) l0 _ _ _ (fun _ => True) (fun _ => False) rfl rfl HL.out HC.out (fun _ _ h => h) (fun _ h => h.elim) (fun _ _ => trivial) HB2.out HS.out ?aL ?_; (case aL => simp; omega); intro v1 w1 ho hb hg hat; rw [List.nil_append] at ho; have HO := Aside0.mk ho; have HB3 := Aside0.mk hb; clear ho hb hg hat))
      go_ret
      exact ⟨v1, rfl, HO.out, HB3.out⟩
  · rw [if_neg hl] at h
    cases h
end Go.Proofs.Ythnjkmjcacoajaa.Fr
end

section
/- crc.table makes the sixteen halves: what each four bits make of a register. No condition. -/
namespace Go.Proofs.Ythnjkmjcacoajaa.Fr
open Go.RowKit Go.Proofs.YthnjkmjcacoajaaW.PrintWords Go.Proofs.YthnjkmjcacoajaaW.PrintLast Go.Proofs.YthnjkmjcacoajaaW.PrintMore Go.Proofs.Ythnjkmjcacoajaa.FrBase Go.Proofs.Ythnjkmjcacoajaa.Arr
set_option linter.unusedVariables false
set_option linter.unusedSimpArgs false

/-- a register goes down by a place -/
def dn (x : Int) : Int := Go.bits .xor .u32 (x / 2) (Go.bits .and .u32 ((-(Go.bits .and .u32 x 1)) % 4294967296) 2197175160)
def dnk : Nat → Int → Int
  | 0, x => x
  | k + 1, x => dn (dnk k x)
/-- the row behind i rounds -/
def tabF (i j : Nat) : Value := if j < i then .int .u32 (dnk 4 j) else .int .u32 0
def tabR (i : Nat) : Array Value := ((List.range 16).map (tabF i)).toArray
theorem tabR_size (i : Nat) : (tabR i).size = 16 := by simp [tabR]
theorem tabR_get (i j : Nat) (h : j < 16) : (tabR i)[j]? = some (tabF i j) := by simp [tabR, h]
theorem tabR_zero : tabR 0 = #[.int .u32 0, .int .u32 0, .int .u32 0, .int .u32 0, .int .u32 0, .int .u32 0, .int .u32 0, .int .u32 0, .int .u32 0, .int .u32 0, .int .u32 0, .int .u32 0, .int .u32 0, .int .u32 0, .int .u32 0, .int .u32 0] := by
  simp [tabR, tabF, List.range, List.range.loop]
theorem tabR_step (i : Nat) (h : i < 16) : (tabR i).setIfInBounds i (.int .u32 (dnk 4 i)) = tabR (i + 1) := by
  apply Array.ext_getElem?
  intro j
  by_cases hj : j < 16
  · rw [tabR_get _ _ hj, Array.getElem?_setIfInBounds]
    by_cases e : i = j
    · subst e
      simp [tabF, tabR_size, h]
    · rw [if_neg e, tabR_get _ _ hj]
      have hh : (j < i) = (j < i + 1) := by simp; omega
      simp only [tabF, hh]
  · rw [Array.getElem?_eq_none (by simp [tabR_size]; omega), Array.getElem?_eq_none (by rw [tabR_size]; omega)]
set_option maxHeartbeats 1000000 in
set_option maxRecDepth 100000 in
theorem crc_table.calls (w : World) :
    Calls Try.prog 75 #[] w fun e w' => e = .returned (.agg (tabR 16)) ∧ Below w.heap.size w w' := by
  go_enter Try.func75, Try.ntmps75
  go_wp2
  go_loopw [1, 2, 9] (fun _ i _ wr => ∃ k : Nat, k ≤ 16 ∧ i = .int .i64 k ∧ HoldsRow wr w.heap.size 134 (tabR k) ∧ Below w.heap.size w wr) (fun _ i _ _ => 16 - (intOf i).toNat)
  case atStart => exact ⟨0, by omega, rfl, (by unfold HoldsRow; rw [tabR_zero]; exact heap_alloc_new _ _), (Below.refl _ _).alloc (Nat.le_refl _) _⟩
  case round =>
    obtain ⟨k, hk, rfl, hrow, hb⟩ := hrel
    by_cases hlt : k < 16
    · have hc := hrow.cell (tabR_get k k hlt)
      have hf := hrow.free k
      have hd : decide ((k : Int) < 16) = true := by simp; omega
      go_wp2
      clear hd
      obtain ⟨wo, hwo⟩ : ∃ wo : World, wo = wr.setCell ⟨w.heap.size, k, none⟩ (.int .u32 k) := ⟨_, rfl⟩
      have hrow1 : HoldsRow wo w.heap.size 134 ((tabR k).setIfInBounds k (.int .u32 (dnk 0 k))) := by rw [hwo]; exact hrow.set k _
      have hb1 : Below w.heap.size w wo := by rw [hwo]; exact hb.setCell (Nat.le_refl _) _
      rw [← hwo]
      clear hwo hc hf hrow hb
      go_loopw [9, 11, 12, 13, 14, 15, 16, 17] (fun i _ _ _ _ _ _ _ wr => ∃ m : Nat, m ≤ 4 ∧ i = .int .i64 m ∧ HoldsRow wr w.heap.size 134 ((tabR k).setIfInBounds k (.int .u32 (dnk m k))) ∧ Below w.heap.size w wr) (fun i _ _ _ _ _ _ _ _ => 4 - (intOf i).toNat)
      case atStart => exact ⟨0, by omega, rfl, hrow1, hb1⟩
      case round =>
        clear hrow1 hb1
        obtain ⟨m, hm, rfl, hrow, hb⟩ := hrel
        by_cases hlm : m < 4
        · have hc := hrow.cell (j := k) (v := .int .u32 (dnk m k)) (by simp [tabR_size, hlt])
          have hf := hrow.free k
          go_wp2_with fail
          refine (crc_down.calls (dnk m k) (dnk (m + 1) k) _ rfl).mono ?_
          rintro e w' ⟨rfl, ⟨nd, rfl⟩⟩
          go_wp2_with fail
          go_roundw
          case rel => exact ⟨m + 1, by omega, by go_num, (by have h := hrow.set k (.int .u32 (dnk (m + 1) k)); rw [Array.setIfInBounds_setIfInBounds] at h; exact h), (pw_below_drewN hb nd).setCell (Nat.le_refl _) _⟩
          case measure => simp [intOf]; omega
        · obtain rfl : m = 4 := by omega
          rw [tabR_step k hlt] at hrow
          go_wp2_with fail
          go_roundw
          case rel => exact ⟨k + 1, by omega, by go_num, hrow, hb⟩
          case measure => simp [intOf]; omega
    · obtain rfl : k = 16 := by omega
      have hz : (tabR 16).size = 16 := tabR_size 16
      go_wp2_with (first | (refine wpList_load_row rfl 134 _ rfl w.heap.size rfl 134 (tabR 16) (0, 0) _ hrow Try.underlying134 rfl (by rw [tabR_size]; kernel_rfl) ?_) | (refine wpList_store_row rfl 134 _ _ rfl w.heap.size (tabR 16) rfl rfl 134 (tabR 16) hrow (by rw [tabR_size]; kernel_rfl) rfl (by decide +kernel) ?_))
      exact bodyPost_ret (results_cell_row (p := 0) (ty := 134) rfl _ _ w.heap.size 134 (tabR 16) (0, 0) _ rfl (hrow.row _) Try.underlying134 rfl (by rw [tabR_size]; kernel_rfl)) rfl ⟨rfl, below_setRow hb _ (Nat.le_refl _)⟩
end Go.Proofs.Ythnjkmjcacoajaa.Fr
end

section
/- crc.More comes to the fold of its bytes over the register, by halves. No condition. -/
namespace Go.Proofs.Ythnjkmjcacoajaa.Fr
open Go.RowKit Go.Proofs.YthnjkmjcacoajaaW.PrintWords Go.Proofs.YthnjkmjcacoajaaW.PrintLast Go.Proofs.YthnjkmjcacoajaaW.PrintMore Go.Proofs.Ythnjkmjcacoajaa.FrBase Go.Proofs.Ythnjkmjcacoajaa.Arr
set_option linter.unusedVariables false
set_option linter.unusedSimpArgs false

/-- four bits go out of the register -/
def nib (r : Int) : Int := Go.bits .xor .u32 (r / 16) (dnk 4 (Go.bits .and .u32 r 15))
def nibs : Nat → Int → Int
  | 0, r => r
  | k + 1, r => nib (nibs k r)
/-- a byte goes into the register -/
def byteStep (r x : Int) : Int := nibs 2 (Go.bits .xor .u32 r (x % 4294967296))
def flip32 (r : Int) : Int := Go.bits .xor .u32 IntKind.u32.max r
theorem and15 (r : Int) : 0 ≤ Go.bits .and .u32 r 15 ∧ Go.bits .and .u32 r 15 < 16 := by
  have h : (BitVec.ofInt 32 r &&& BitVec.ofInt 32 15).toNat ≤ 15 := by
    rw [BitVec.toNat_and]
    exact Nat.and_le_right
  have e : Go.bits .and .u32 r 15 = IntKind.u32.wrap ((BitVec.ofInt 32 r &&& BitVec.ofInt 32 15).toNat : Int) := rfl
  rw [e]
  simp only [IntKind.wrap]
  generalize (BitVec.ofInt 32 r &&& BitVec.ofInt 32 15).toNat = n at h
  simp [IntKind.bits, IntKind.signed]
  omega
theorem more_snoc (l : List Int) (k : Nat) (h : k < l.length) (r : Int) : (l.take (k + 1)).foldl byteStep r = byteStep ((l.take k).foldl byteStep r) (rd l k) := by
  rw [List.take_succ_eq_append_getElem h, List.foldl_append]
  simp [rd, h]
def crc_More.f (a0 : Int) (l1 : List Int) : Option Int := some (flip32 (l1.foldl byteStep (flip32 a0)))

set_option maxHeartbeats 2000000 in
set_option maxRecDepth 100000 in
theorem crc_More.calls (a0 : Int) (A1 : Option Addr) (c1 : Nat) (l1 : List Int) (r : Int) (w : World) (hr1 : Kd.C (Kd.int .u8) w A1 l1.length l1) (hc1 : l1.length ≤ c1) (h : crc_More.f a0 l1 = some r) :
    Calls Try.prog 71 #[.int .u32 a0, .slice A1 l1.length c1] w fun e w' => e = .returned (.int .u32 r) ∧ Below w.heap.size w w' := by
  obtain rfl := Option.some.inj h
  clear h
  have HR1 := Aside0.mk hr1
  clear hr1
  go_enter Try.func71, Try.ntmps71
  have hs : IntKind.u32.signed = false := rfl
  go_wp2_with fail
  refine (crc_table.calls _).mono ?_
  rintro e w1 ⟨rfl, hb1⟩
  have hrow := HoldsRow.new w1 134 (tabR 0)
  rw [tabR_zero] at hrow
  go_wp2_with (first | (refine wpList_store_row rfl 134 _ _ rfl w1.heap.size (tabR 16) rfl rfl 134 _ hrow (by rw [tabR_size]; kernel_rfl) rfl (by decide +kernel) ?_))
  have hrow2 := hrow.row (tabR 16)
  have hb2 : Below w.heap.size w ((w1.alloc (.cells #[.int .u32 0, .int .u32 0, .int .u32 0, .int .u32 0, .int .u32 0, .int .u32 0, .int .u32 0, .int .u32 0, .int .u32 0, .int .u32 0, .int .u32 0, .int .u32 0, .int .u32 0, .int .u32 0, .int .u32 0, .int .u32 0] 134)).setRow w1.heap.size (tabR 16)) :=
    below_setRow (hb1.alloc hb1.size _) _ hb1.size
  obtain ⟨w2, hw2⟩ : ∃ w2 : World, w2 = (w1.alloc (.cells #[.int .u32 0, .int .u32 0, .int .u32 0, .int .u32 0, .int .u32 0, .int .u32 0, .int .u32 0, .int .u32 0, .int .u32 0, .int .u32 0, .int .u32 0, .int .u32 0, .int .u32 0, .int .u32 0, .int .u32 0, .int .u32 0] 134)).setRow w1.heap.size (tabR 16) := ⟨_, rfl⟩
  rw [← hw2] at hrow2 hb2 ⊢
  have HR2 := Aside0.mk (Kd.C_below HR1.out hb2)
  clear HR1 hrow hw2 hb1
  generalize w1.heap.size = b at *
  have HROW := Aside0.mk hrow2
  have hmax := Kd.C_max HR2.out
  clear hrow2
  go_loop [6, 14] (fun v i => ∃ k : Nat, k ≤ l1.length ∧ i = .int .i64 k ∧ v = .int .u32 ((l1.take k).foldl byteStep (flip32 a0))) (fun _ i => l1.length - (intOf i).toNat)
  case atStart => exact ⟨0, by omega, rfl, rfl⟩
  case round =>
    obtain ⟨k, hk, rfl, rfl⟩ := hrel
    by_cases hlt : k < l1.length
    · obtain ⟨ad, rfl, hc⟩ := Kd.at_int HR2.out k (by omega) (by omega)
      rw [Int.toNat_natCast] at hc
      have Hs := Aside0.mk (more_snoc l1 k hlt (flip32 a0))
      generalize (l1.take k).foldl byteStep (flip32 a0) = r at *
      have hd : decide ((k : Int) < (l1.length : Int)) = true := by simp; omega
      go_wp2_with fail
      go_loop [6, 22] (fun v i => ∃ m : Nat, m ≤ 2 ∧ i = .int .i64 m ∧ v = .int .u32 (nibs m (Go.bits .xor .u32 r (rd l1 k % 4294967296)))) (fun _ i => 2 - (intOf i).toNat)
      case atStart => exact ⟨0, by omega, rfl, rfl⟩
      case round =>
        obtain ⟨m, hm, rfl, rfl⟩ := hrel
        by_cases hlm : m < 2
        · have hdm : decide ((m : Int) < 2) = true := by simp; omega
          have hn : nibs (m + 1) (Go.bits .xor .u32 r (rd l1 k % 4294967296)) = nib (nibs m (Go.bits .xor .u32 r (rd l1 k % 4294967296))) := rfl
          have Hn := Aside0.mk hn
          clear hn
          generalize nibs m (Go.bits .xor .u32 r (rd l1 k % 4294967296)) = q at *
          obtain ⟨h0, h1⟩ := and15 q
          have hcell : w2.cell? ⟨b, (Go.bits .and .u32 q 15).toNat, none⟩ = some (.int .u32 (dnk 4 (Go.bits .and .u32 q 15))) := by
            have hg := HROW.out.cell (tabR_get 16 (Go.bits .and .u32 q 15).toNat (by omega))
            rw [hg]
            simp only [tabF]
            rw [if_pos (by omega), Int.toNat_of_nonneg h0]
          go_wp2_with fail
          exact ⟨⟨m + 1, by omega, by go_num, by rw [Hn.out]; rfl⟩, by simp [intOf]; omega⟩
        · obtain rfl : m = 2 := by omega
          have hdm : decide (((2 : Nat) : Int) < 2) = false := by simp
          go_wp2_with fail
          exact ⟨⟨k + 1, by omega, by go_num, by rw [Hs.out]; rfl⟩, by simp [intOf]; omega⟩
    · obtain rfl : k = l1.length := by omega
      have Ht := Aside0.mk (List.take_length (l := l1))
      generalize l1.take l1.length = l2 at *
      obtain ⟨rfl⟩ := Ht
      go_wp2_with fail
      go_ret
      exact ⟨rfl, hb2⟩
end Go.Proofs.Ythnjkmjcacoajaa.Fr
end

section
/- crc.Of is crc.More from 0. No condition. -/
namespace Go.Proofs.Ythnjkmjcacoajaa.Fr
open Go.RowKit Go.Proofs.YthnjkmjcacoajaaW.PrintWords Go.Proofs.YthnjkmjcacoajaaW.PrintLast Go.Proofs.YthnjkmjcacoajaaW.PrintMore Go.Proofs.Ythnjkmjcacoajaa.FrBase Go.Proofs.Ythnjkmjcacoajaa.Arr
set_option linter.unusedVariables false
set_option linter.unusedSimpArgs false

def crc_Of.f (l0 : List Int) : Option Int := crc_More.f 0 l0
theorem crc_Of.calls (A0 : Option Addr) (c0 : Nat) (l0 : List Int) (r : Int) (w : World) (hr0 : Kd.C (Kd.int .u8) w A0 l0.length l0) (hc0 : l0.length ≤ c0) (h : crc_Of.f l0 = some r) :
    Calls Try.prog 68 #[.slice A0 l0.length c0] w fun e w' => e = .returned (.int .u32 r) ∧ Below w.heap.size w w' := by
  have H := Aside0.mk h
  have HR := Aside0.mk hr0
  clear h hr0
  go_enter Try.func68, Try.ntmps68
  go_wp2_with fail
  refine (crc_More.calls 0 A0 c0 l0 r _ HR.out hc0 H.out).mono ?_
  rintro e w1 ⟨rfl, hb⟩
  go_wp2_with fail
  go_ret
  exact ⟨rfl, hb⟩

end Go.Proofs.Ythnjkmjcacoajaa.Fr
end
