import Derived.Shelf.Small.Bits
import Derived.Shelf.Strconv.Itoa0
import Derived.Ground.SlbCloneProg
import Derived.Shelf.Bytes.SlClone
import Derived.Test.YthnjkmjcacoajaaProg
import Derived.Test.YthnjkmjcacoajaaKJournalKeeps29
import Derived.Test.YthnjkmjcacoajaaKJournalKeeps2
import Derived.WalkSpells
import Derived.Below
import Derived.Deep.Draws
import Derived.Deep.AppendLies
import Derived.Maps.AppendAt
import Derived.OwnWalk
import Derived.Laws.BytesArg
import Derived.Laws.MakeOwn
import Derived.Laws.OwnMore
import Derived.Deep.OwnRows
import Derived.Tactics
import Derived.Lib.ConvBytes
import Derived.Laws.Slices
import Derived.WalkKit
import Derived.KernelRfl
import Derived.RowKit3
import Derived.Deep.LoopGhost
import Derived.Deep.QuietTactic
import Derived.BigQuiet
import Derived.WideLaws
import Derived.Deep.DeepCutAuto
import Derived.Deep.CutBlock
import Derived.Deep.RegionHeld3
import Derived.Laws.Rows
import Derived.Lib.AppendStr
import Derived.ArgAppend
import Derived.Laws.IdiomCopy
import Derived.OrdersHeld
import Derived.Laws.BitsLemmas
import Derived.RowKit
import Derived.Test.YthnjkmjcacoajaaKJournalKeeps1
import Derived.Test.YthnjkmjcacoajaaKJournalKeeps3
import Derived.Test.YthnjkmjcacoajaaKJournalKeeps4
import Derived.Test.YthnjkmjcacoajaaKJournalKeeps5
import Derived.Test.YthnjkmjcacoajaaKJournalKeeps6
import Derived.Test.YthnjkmjcacoajaaKJournalKeeps7
import Derived.Test.YthnjkmjcacoajaaKJournalKeeps8
import Derived.Test.YthnjkmjcacoajaaKJournalKeeps9
import Derived.Test.YthnjkmjcacoajaaKJournalKeeps10
import Derived.Test.YthnjkmjcacoajaaKJournalKeeps11
import Derived.Test.YthnjkmjcacoajaaKJournalKeeps12
import Derived.Test.YthnjkmjcacoajaaKJournalKeeps13
import Derived.Test.YthnjkmjcacoajaaKJournalKeeps14
import Derived.Test.YthnjkmjcacoajaaKJournalKeeps15
import Derived.Test.YthnjkmjcacoajaaKJournalKeeps16
import Derived.Test.YthnjkmjcacoajaaKJournalKeeps17
import Derived.Test.YthnjkmjcacoajaaKJournalKeeps18
import Derived.Test.YthnjkmjcacoajaaKJournalKeeps19
import Derived.Test.YthnjkmjcacoajaaKJournalKeeps20
import Derived.Test.YthnjkmjcacoajaaKJournalKeeps21
import Derived.Test.YthnjkmjcacoajaaKJournalKeeps22
import Derived.ChangeKeysEq
import Derived.Lib.ItoaNum
import Derived.Laws.Entries
import Derived.Laws.BitsAllLaws
section
/-
  DERIVED: THE SHELF's CONTRACTS AT THIS DUMP, IN PLAIN WORDS (tools/lay-plain.mjs out of 'TryShelf.lean', which tools/lay-shelf.mjs wrote): THE SAME DECLARATIONS UNDER THE SAME NAMES: 'import', 'namespace', 'open', 'def', 'theorem' AND NOTHING ELSE: no command of the shelf's: FOR A HAND-IN. Each laying: the table of numbers ('.._ren') and one theorem, a field a fact of the dump's own or the kernel's comparison; each contract: ONE APPLICATION.
-/
namespace Go.Proofs
open Go.Shelf
def Try.lays131_ren : Go.Shelf.Ren := ⟨fun | 131 => 76 | 126 => 78 | n => n, fun | 5 => 5 | 3 => 3 | 9 => 9 | n => n, fun | n => n⟩
theorem Try.lays131 : Go.Proofs.Lays.n131 Try.prog Try.lays131_ren := {
  mixed := by kernel_rfl
  f126 := Try.func78.trans (congrArg some (by kernel_rfl))
  f131 := Try.func76.trans (congrArg some (by kernel_rfl))
  t3 := Try.underlying3
  a3 := Try.isAgg3
  z3 := Try.sizeOf3
  v3 := Try.zeroValue3
  t5 := Try.underlying5
  a5 := Try.isAgg5
  z5 := Try.sizeOf5
  v5 := Try.zeroValue5
  t9 := Try.underlying9
  a9 := Try.isAgg9
  z9 := Try.sizeOf9
  v9 := Try.zeroValue9 }
/-- bits.LeadingZeros8: "LeadingZeros8 returns the number of leading zero bits in x; the result is 8 for x == 0.": IT RETURNS '8 - Lib.bitLen x'; the world is as it was. ITS CALLEE bits.Len8 IS MET BY ITS OWN CONTRACT OFF THE SHELF (lay that first): ENTERED IN PLACE it sends the kernel out of memory. (LAID: no walk: one application.) -/
theorem Try.bits_LeadingZeros8 (x : Int) (w : World) (h0 : 0 ≤ x) (h1 : x ≤ 255) :
    Calls Try.prog 76 #[.int .u8 x] w fun e w' => e = .returned (.int .i64 (8 - (Lib.bitLen x.toNat : Int))) ∧ w' = w := Any.bits_LeadingZeros8 Try.lays131 x w h0 h1
def Try.lays129_ren : Go.Shelf.Ren := ⟨fun | 129 => 74 | n => n, fun | 53 => 22 | 3 => 3 | 4 => 4 | 46 => 92 | 5 => 5 | 9 => 9 | n => n, fun | n => n⟩
theorem Try.lays129 : Go.Proofs.Lays.n129 Try.prog Try.lays129_ren := {
  mixed := by kernel_rfl
  f129 := Try.func74.trans (congrArg some (by kernel_rfl))
  t3 := Try.underlying3
  a3 := Try.isAgg3
  z3 := Try.sizeOf3
  v3 := Try.zeroValue3
  t4 := Try.underlying4
  a4 := Try.isAgg4
  z4 := Try.sizeOf4
  v4 := Try.zeroValue4
  t5 := Try.underlying5
  a5 := Try.isAgg5
  z5 := Try.sizeOf5
  v5 := Try.zeroValue5
  t9 := Try.underlying9
  a9 := Try.isAgg9
  z9 := Try.sizeOf9
  v9 := Try.zeroValue9
  t46 := Try.underlying92
  a46 := Try.isAgg92
  z46 := Try.sizeOf92
  v46 := Try.zeroValue92
  t53 := Try.underlying22
  a53 := Try.isAgg22
  z53 := Try.sizeOf22
  v53 := Try.zeroValue22 }
/-- bits.Len64: "Len64 returns the minimum number of bits required to represent x; the result is 0 for x == 0.": IT RETURNS 'Lib.bitLen x'; the world is as it was. ('h0', 'h1': x is a uint64.) (LAID: no walk: one application.) -/
theorem Try.bits_Len64 (x : Int) (w : World) (h0 : 0 ≤ x) (h1 : x ≤ 18446744073709551615) :
    Calls Try.prog 74 #[.int .u64 x] w fun e w' => e = .returned (.int .i64 (Lib.bitLen x.toNat)) ∧ w' = w := Any.bits_Len64 Try.lays129 x w h0 h1
end Go.Proofs
end

section
/- bin.follow, bin.written and bytes.Clone, walked. Conditions: a whole of 64 bits; a row that append bears. -/
namespace Go.Proofs.Ythnjkmjcacoajaa.Fr
open Go.RowKit Go.Proofs.YthnjkmjcacoajaaW.PrintWords Go.Proofs.YthnjkmjcacoajaaW.PrintLast Go.Proofs.YthnjkmjcacoajaaW.PrintMore Go.Proofs.Ythnjkmjcacoajaa.FrBase Go.Proofs.Ythnjkmjcacoajaa.Arr
set_option linter.unusedVariables false
set_option linter.unusedSimpArgs false

theorem ret_int {k : IntKind} {a b : Int} (h : a = b) : Ending.returned (.int k a) = .returned (.int k b) := by rw [h]
/-- how many bytes follow -/
def fol (v : Nat) : Nat := min ((max (Lib.bitLen v) 1 - 1) / 7) 8
theorem fol_le (v : Nat) : fol v ≤ 8 := by unfold fol; omega
theorem bitLenAux_le (f : Nat) : ∀ x, Lib.bitLenAux f x ≤ f := by
  induction f with
  | zero => intro x; simp [Lib.bitLenAux]
  | succ f ih =>
    intro x
    simp only [Lib.bitLenAux]
    split
    · omega
    · have := ih (x / 2); omega
theorem bitLen_le (x : Nat) : Lib.bitLen x ≤ 64 := bitLenAux_le 64 x
attribute [local go_sem] max2_int min2_int max_two min_two max_three min_three max_four min_four

set_option maxHeartbeats 1000000 in
theorem follow_calls (v : Nat) (hv : v ≤ 18446744073709551615) (w : World) :
    Calls Try.prog 70 #[.int .u64 v] w fun e w' => e = .returned (.int .i64 (fol v : Nat)) ∧ w = w' := by
  have hb := bitLen_le v
  have hf : Aside0 (fol v = min ((max (Lib.bitLen v) 1 - 1) / 7) 8) := ⟨rfl⟩
  go_enter Try.func70, Try.ntmps70
  go_wp2_with fail
  refine (Try.bits_Len64 v _ (by omega) (by omega)).mono ?_
  rintro e w' ⟨rfl, rfl⟩
  rw [Int.toNat_natCast]
  generalize Lib.bitLen v = q at *
  go_wp2_with fail
  all_goals go_ret
  all_goals refine ⟨?_, rfl⟩
  all_goals rw [hf.out]
  all_goals exact ret_int (by omega)

/-- k bytes of a whole, the highest first -/
def be : Nat → Nat → List Int
  | 0, _ => []
  | k + 1, v => ((v / 256 ^ k % 256 : Nat) : Int) :: be k v
theorem be_len (k v : Nat) : (be k v).length = k := by
  induction k with
  | zero => rfl
  | succ k ih => simp [be, ih]
/-- a whole's first byte: the ones that tell how many follow, and what is left of it -/
def headI (n v : Nat) : Int := Go.bits .or .u8 ((v / 256 ^ n % 256 : Nat) : Int) (Go.bits .xor .u8 IntKind.u8.max (255 / 2 ^ n))
def wrL (n v : Nat) : List Int := headI n v :: be n v
theorem int_val {k : IntKind} {a b : Int} (h : a = b) : Value.int k a = .int k b := by rw [h]
theorem wr_set (n k : Nat) (v : Nat) (h : k < n) : (List.replicate (n - k + 1) 0 ++ be k v).set (n - k) ((v / 256 ^ k % 256 : Nat) : Int) = List.replicate (n - (k + 1) + 1) 0 ++ be (k + 1) v := by
  rw [show n - (k + 1) + 1 = n - k by omega]
  rw [List.set_append_left _ _ (by simp), List.replicate_succ', List.set_append_right _ _ (by simp)]
  simp [be]
theorem wr_set0 (n v : Nat) (x : Int) : (List.replicate (n - n + 1) 0 ++ be n v).set 0 x = x :: be n v := by simp

set_option maxHeartbeats 2000000 in
set_option maxRecDepth 100000 in
theorem written_calls (v : Nat) (hv : v ≤ 18446744073709551615) (w : World) :
    Calls Try.prog 67 #[.int .u64 v] w fun e w' => ∃ v0_ : Value, e = .returned v0_ ∧ Kd.R (Kd.int .u8) 5 w' w.heap.size (fun _ => True) v0_ (wrL (fol v) v) ∧ Below w.heap.size w w' := by
  have hn := fol_le v
  have hu8 : IntKind.u8.signed = false := rfl
  have hmk : ∀ W : World, (Instr.makeSlice 31 (.int .i64 (1 + (fol v : Int))) (.int .i64 (1 + (fol v : Int)))).run Try.prog W = .ok (.slice (some ⟨W.heap.size, 0, none⟩) (fol v + 1) (fol v + 1)) (W.alloc (.cells (rowK .u8 (List.replicate (fol v + 1) 0)) 5)) := by
    intro W
    have h := print_make (P := Try.prog) 31 5 .u8 1 Try.underlying31 (by kernel_rfl) (by decide) (fol v + 1) (by omega) W
    rw [rowK_made] at h
    rw [show (1 + (fol v : Int)) = ((fol v + 1 : Nat) : Int) by omega]
    exact h
  have Hn : Aside0 (fol v = fol v) := ⟨rfl⟩
  go_enter Try.func67, Try.ntmps67
  go_wp2_with fail
  refine (follow_calls v hv _).mono ?_
  rintro e w' ⟨rfl, rfl⟩
  have hrow := HoldsRow.new w 5 (rowK .u8 (List.replicate (fol v + 1) 0))
  have hb := (Below.refl w.heap.size w).alloc (Nat.le_refl _) (.cells (rowK .u8 (List.replicate (fol v + 1) 0)) 5)
  clear Hn
  generalize hq : fol v = n at *
  have Hn := Aside0.mk hq
  clear hq
  go_wp2_with fail
  obtain ⟨w1, hw1⟩ : ∃ w1 : World, w1 = w.alloc (.cells (rowK .u8 (List.replicate (n + 1) 0)) 5) := ⟨_, rfl⟩
  rw [← hw1] at hrow hb ⊢
  clear hw1 hmk
  go_loopw [0, 5] (fun x i wr => ∃ k : Nat, k ≤ n ∧ i = .int .i64 ((n - k : Nat) : Int) ∧ x = .int .u64 ((v / 256 ^ k : Nat) : Int) ∧ HoldsRow wr w.heap.size 5 (rowK .u8 (List.replicate (n - k + 1) 0 ++ be k v)) ∧ Below w.heap.size w wr) (fun _ i _ => (intOf i).toNat)
  case atStart => exact ⟨0, by omega, by simp, by simp, by simpa [be] using hrow, hb⟩
  case round =>
    clear hrow hb
    obtain ⟨k, hk, rfl, rfl, hrow, hb⟩ := hrel
    by_cases hlt : k < n
    · have hd : decide ((0 : Int) < ((n - k : Nat) : Int)) = true := by simp; omega
      have hl : (List.replicate (n - k + 1) (0 : Int) ++ be k v).length = n + 1 := by simp [be_len]; omega
      have hc := hrow.cell (rowK_get .u8 _ (n - k) (by rw [hl]; omega))
      have hf := hrow.free (n - k)
      have Hl := Aside0.mk hl
      clear hl
      go_wp2_with fail
      have hs := hrow.set (n - k) (.int .u8 ((v / 256 ^ k % 256 : Nat) : Int))
      rw [rowK_set, wr_set n k v hlt] at hs
      have e1 : ((v / 256 ^ k % 256 : Nat) : Int) = (v : Int) / 256 ^ k % 256 := by simp
      rw [e1] at hs
      exact ⟨⟨k + 1, by omega, int_val (by omega), int_val (by rw [Nat.pow_succ, ← Nat.div_div_eq_div_mul]; simp), hs, hb.setCell (Nat.le_refl _) _⟩, by simp [intOf]; omega⟩
    · obtain rfl : k = n := by omega
      have hd : decide ((0 : Int) < ((k - k : Nat) : Int)) = false := by simp
      have hc := hrow.cell (rowK_get .u8 _ 0 (by simp))
      have hf := hrow.free 0
      go_wp2_with fail
      go_ret
      have hs := hrow.set 0 (.int .u8 (headI k v))
      rw [rowK_set, wr_set0] at hs
      have e1 : headI k v = Go.bits .or .u8 ((v : Int) / 256 ^ k % 256) (Go.bits .xor .u8 IntKind.u8.max (255 / 2 ^ k)) := by simp [headI]
      have hl : (headI k v :: be k v).length = k + 1 := by simp [be_len]
      have hown := hs.own (Nat.le_refl _) (by rw [hl]; omega)
      rw [hl, e1] at hown
      have e2 : wrL (fol v) v = Go.bits .or .u8 ((v : Int) / 256 ^ k % 256) (Go.bits .xor .u8 IntKind.u8.max (255 / 2 ^ k)) :: be k v := by rw [Hn.out, ← e1]; rfl
      rw [e2]
      exact ⟨_, rfl, hown, hb.setCell (Nat.le_refl _) _⟩
end Go.Proofs.Ythnjkmjcacoajaa.Fr
end

section
/- bin.read, walked at its one instance, and TakeNum, TakeInt on it. -/
namespace Go.Proofs.Ythnjkmjcacoajaa.Fr
open Go.RowKit Go.Proofs.YthnjkmjcacoajaaW.PrintWords Go.Proofs.YthnjkmjcacoajaaW.PrintLast Go.Proofs.YthnjkmjcacoajaaW.PrintMore Go.Proofs.Ythnjkmjcacoajaa.FrBase Go.Proofs.Ythnjkmjcacoajaa.Arr
set_option linter.unusedVariables false
set_option linter.unusedSimpArgs false

theorem xor_u8_range (x y : Int) : 0 ≤ Go.bits .xor .u8 x y ∧ Go.bits .xor .u8 x y ≤ 255 := by
  have e : Go.bits .xor .u8 x y = IntKind.u8.wrap ((BitVec.ofInt 8 x ^^^ BitVec.ofInt 8 y).toNat : Int) := rfl
  have h := (BitVec.ofInt 8 x ^^^ BitVec.ofInt 8 y).isLt
  rw [e]
  simp only [IntKind.wrap]
  generalize (BitVec.ofInt 8 x ^^^ BitVec.ofInt 8 y).toNat = n at h
  simp [IntKind.bits, IntKind.signed]
  omega
theorem bitLenAux_small (f : Nat) : ∀ x k, x < 2 ^ k → Lib.bitLenAux f x ≤ k := by
  induction f with
  | zero => intro x k _; simp [Lib.bitLenAux]
  | succ f ih =>
    intro x k hx
    simp only [Lib.bitLenAux]
    split
    · omega
    · cases k with
      | zero => simp at hx; omega
      | succ k =>
        have := ih (x / 2) k (by rw [Nat.pow_succ] at hx; omega)
        omega
/-- how many ones a byte begins with -/
def lead (x : Int) : Nat := 8 - Lib.bitLen (Go.bits .xor .u8 IntKind.u8.max x).toNat
theorem lead_le (x : Int) : lead x ≤ 8 := by unfold lead; omega
theorem lead_int (x : Int) : (8 : Int) - (Lib.bitLen (Go.bits .xor .u8 IntKind.u8.max x).toNat : Int) = (lead x : Int) := by
  have h := xor_u8_range IntKind.u8.max x
  have := bitLenAux_small 64 (Go.bits .xor .u8 IntKind.u8.max x).toNat 8 (by omega)
  unfold lead
  have h2 : Lib.bitLen (Go.bits .xor .u8 IntKind.u8.max x).toNat ≤ 8 := this
  omega

/-- what a kind makes of a whole: by the function value that is handed in -/
def AsFn (F : Nat) (af : Int → Int × Int) : Prop := ∀ (v : Int) (w : World), Calls Try.prog F #[.int .u64 v] w fun e w' => e = .returned (.tuple #[.int .i64 (af v).1, .int .i64 (af v).2]) ∧ Drawn0 w w'
theorem number_as : AsFn 73 (fun v => if v > 9007199254740991 then (0, 4) else (wrap64 v, 0)) := fun v w => by
  by_cases h : v > 9007199254740991
  · have := bin_number.calls v 0 4 w (by unfold bin_number.f; rw [if_pos h])
    simpa [h] using this
  · have := bin_number.calls v (wrap64 v) 0 w (by unfold bin_number.f; rw [if_neg h])
    simpa [h] using this
/-- the whole behind the first byte -/
def rv (l : List Int) (n : Nat) : Nat → Int
  | 0 => Go.bits .and .u64 (IntKind.u64.wrap (rd l 0)) (127 / 2 ^ n)
  | k + 1 => Go.bits .or .u64 (IntKind.u64.wrap (rv l n k * 256)) (IntKind.u64.wrap (rd l (k + 1 : Nat)))
theorem u64_range (op : BinOp) (x y : Int) (h : op = .or ∨ op = .and ∨ op = .xor) : 0 ≤ Go.bits op .u64 x y ∧ Go.bits op .u64 x y ≤ 18446744073709551615 := by
  have hw : ∀ n : Int, 0 ≤ IntKind.u64.wrap n ∧ IntKind.u64.wrap n ≤ 18446744073709551615 := fun n => by
    simp [IntKind.wrap, IntKind.bits, IntKind.signed]
    omega
  rcases h with rfl | rfl | rfl <;> exact hw _
theorem rv_range (l : List Int) (n k : Nat) : 0 ≤ rv l n k ∧ rv l n k ≤ 18446744073709551615 := by
  cases k with
  | zero => exact u64_range .and _ _ (.inr (.inl rfl))
  | succ k => exact u64_range .or _ _ (.inl rfl)
theorem follow_int (x : Int) (w : World) (h0 : 0 ≤ x) (h1 : x ≤ 18446744073709551615) :
    Calls Try.prog 70 #[.int .u64 x] w fun e w' => e = .returned (.int .i64 (fol x.toNat : Nat)) ∧ w = w' := by
  obtain ⟨v, rfl⟩ := Int.eq_ofNat_of_zero_le h0
  exact follow_calls v (by omega) w
/-- what read answers -/
def readF (af : Int → Int × Int) (l : List Int) : Int × List Int × Int :=
  if l.length = 0 then (0, [], 3)
  else if l.length ≤ lead (rd l 0) then (0, [], 3)
  else if fol (rv l (lead (rd l 0)) (lead (rd l 0))).toNat ≠ lead (rd l 0) then (0, [], 4)
  else if (af (rv l (lead (rd l 0)) (lead (rd l 0)))).2 ≠ 0 then (0, [], (af (rv l (lead (rd l 0)) (lead (rd l 0)))).2)
  else ((af (rv l (lead (rd l 0)) (lead (rd l 0)))).1, l.drop (1 + lead (rd l 0)), 0)
def ReadsTo (w : World) (a : Int × List Int × Int) (e : Ending) (w' : World) : Prop :=
  ∃ v1_ : Value, e = .returned (.tuple #[.int .i64 a.1, v1_, .int .i64 a.2.2]) ∧ Kd.R (Kd.int .u8) 5 w' w.heap.size (fun _ => True) v1_ a.2.1 ∧ Below w.heap.size w w'

set_option maxHeartbeats 2000000 in
set_option maxRecDepth 100000 in
theorem read_calls' (F : Nat) (af : Int → Int × Int) (hF : AsFn F af) (hcall : ∀ (a : Array Value) (W : World), (callFunc F a).run Try.prog W = .ok (.enter F a) W) (A0 : Option Addr) (c0 : Nat) (l0 : List Int) (w : World) (hr0 : Kd.C (Kd.int .u8) w A0 l0.length l0) (hc0 : l0.length ≤ c0) (hl : l0.length < 140737488355328) (ans : Int × List Int × Int) (Hans : Aside0 (readF af l0 = ans)) :
    Calls Try.prog 72 #[.slice A0 l0.length c0, .func (.func F) #[] #[]] w (ReadsTo w ans) := by
  have HR := Aside0.mk hr0
  have HF := Aside0.mk hF
  clear hr0 hF
  by_cases h0 : l0.length = 0
  · obtain rfl : ans = (0, [], 3) := by rw [← Hans.out]; unfold readF; rw [if_pos h0]
    have h0b : ((l0.length : Int) == 0) = true := by simp [h0]
    go_enter Try.func72, Try.ntmps72
    go_wp2_with fail
    go_ret3
    exact ⟨.slice none 0 0, rfl, Kd.R_nil _ _ _ _ _, Below.refl _ _⟩
  · have h0b : ((l0.length : Int) == 0) = false := beq_eq_false_iff_ne.mpr (by omega)
    have h0p : (0 : Int) < (l0.length : Int) := by omega
    obtain ⟨ad, rfl, hc⟩ := Kd.at_int HR.out 0 (Int.le_refl 0) h0p
    have hc0' : w.cell? ad = some (.int .u8 (rd l0 0)) := by simpa [Addr.add] using hc
    clear hc
    have hsg : IntKind.u8.signed = false := rfl
    have hxr := xor_u8_range IntKind.u8.max (rd l0 0)
    have HLI := Aside0.mk (lead_int (rd l0 0))
    have hle := lead_le (rd l0 0)
    go_enter Try.func72, Try.ntmps72
    go_wp2_with fail
    refine (Try.bits_LeadingZeros8 _ _ hxr.1 hxr.2).mono ?_
    rintro e w1 ⟨rfl, hw1⟩
    subst hw1
    rw [HLI.out]
    clear HLI hxr
    generalize hq : lead (rd l0 0) = n at *
    have HN := Aside0.mk hq
    clear hq
    by_cases hshort : l0.length ≤ n
    · have hd : decide (l0.length ≤ n) = true := decide_eq_true hshort
      obtain rfl : ans = (0, [], 3) := by rw [← Hans.out]; unfold readF; rw [if_neg h0, HN.out, if_pos hshort]
      go_wp2_with fail
      go_ret3
      exact ⟨.slice none 0 0, rfl, Kd.R_nil _ _ _ _ _, Below.refl _ _⟩
    · have hd : decide (l0.length ≤ n) = false := decide_eq_false hshort
      have hnn : (n : Int) + 1 ≤ (l0.length : Int) := by omega
      by_cases hn0 : n = 0
      · subst hn0
        by_cases hcap : c0 = 1
        all_goals
          go_wp2_with fail
          go_quiet (fail)
          go_wp2_with fail
        all_goals
          go_loop [8, 38] (fun v i => v = .int .u64 (rv l0 0 0) ∧ i = .int .i64 0) (fun _ i => 0)
          case atStart => exact ⟨by simp [rv], rfl⟩
          case round =>
            obtain ⟨rfl, rfl⟩ := hrel
            have hvr := rv_range l0 0 0
            go_wp2_with fail
            refine (follow_int _ _ hvr.1 hvr.2).mono ?_
            rintro e w2 ⟨rfl, rfl⟩
            by_cases hfol : fol (rv l0 0 0).toNat = 0
            · have b1 : (((fol (rv l0 0 0).toNat : Nat) : Int) != (0 : Int)) = false := by simp [hfol]
              have b2 : (fol (rv l0 0 0).toNat != 0) = false := by simp [hfol]
              have Hfol := Aside0.mk hfol
              clear hfol
              go_wp2_with fail
              refine (HF.out _ _).mono ?_
              rintro e w3 ⟨rfl, ⟨nd, rfl⟩⟩
              by_cases he : (af (rv l0 0 0)).2 = 0
              · have b3 : ((af (rv l0 0 0)).2 != 0) = false := by simp [he]
                have Hans2 : Aside0 (ans = ((af (rv l0 0 0)).1, l0.drop 1, 0)) := ⟨by rw [← Hans.out]; unfold readF; rw [if_neg h0, HN.out, if_neg hshort, if_neg (by rw [Hfol.out]; simp), if_neg (by rw [he]; simp)]⟩
                clear he
                generalize (af (rv l0 0 0)).2 = er at *
                generalize (af (rv l0 0 0)).1 = xr at *
                obtain rfl := Hans2.out
                have HR3 := Aside0.mk (Kd.C_drewN HR.out (nq + nd))
                by_cases heq : l0.length = 1
                · have hdr : l0.drop 1 = [] := List.drop_eq_nil_of_le (by omega)
                  rw [hdr]
                  go_wp2_with fail
                  refine (bytes_Clone.calls (some ad) 0 [] [] _ (C_empty _) (Nat.le_refl _) rfl).mono ?_
                  rintro e w5 ⟨v1, rfl, hv, hb⟩
                  replace hb := below_then (pw_below_drewN (Below.refl w1.heap.size w1) (nq + nd)) (Nat.le_refl _) hb
                  go_wp2_with fail
                  go_ret3
                  exact ⟨v1, rfl, (by show Kd.R _ _ _ _ _ _ (l0.drop 1); rw [hdr]; exact hv), hb⟩
                · first
                    | (exfalso; omega)
                    | (have heq2 : ¬ 1 = l0.length := fun h => heq h.symm
                       go_wp2_with fail
                       rw [show l0.length - 1 = (l0.drop 1).length by simp]
                       refine (bytes_Clone.calls (some (ad.add 1)) (l0.drop 1).length (l0.drop 1) (l0.drop 1) _ (C_drop HR3.out _) (Nat.le_refl _) (by unfold bytes_Clone.f; rw [if_pos (by simp; omega)])).mono ?_
                       rintro e w5 ⟨v1, rfl, hv, hb⟩
                       replace hb := below_then (pw_below_drewN (Below.refl w1.heap.size w1) (nq + nd)) (Nat.le_refl _) hb
                       generalize l0.drop 1 = l2 at *
                       go_wp2_with fail
                       go_ret3
                       exact ⟨v1, rfl, hv, hb⟩)
              · have b3 : ((af (rv l0 0 0)).2 != 0) = true := by simp [he]
                obtain rfl : ans = (0, [], (af (rv l0 0 0)).2) := by rw [← Hans.out]; unfold readF; rw [if_neg h0, HN.out, if_neg hshort, if_neg (by rw [Hfol.out]; simp), if_pos he]
                clear he
                generalize (af (rv l0 0 0)).2 = er at *
                go_wp2_with fail
                go_ret3
                exact ⟨.slice none 0 0, rfl, Kd.R_nil _ _ _ _ _, pw_below_drewN (Below.refl _ _) _⟩
            · have b1 : (((fol (rv l0 0 0).toNat : Nat) : Int) != (0 : Int)) = true := by rw [bne_iff_ne]; omega
              have b2 : (fol (rv l0 0 0).toNat != 0) = true := by simp [hfol]
              obtain rfl : ans = (0, [], 4) := by rw [← Hans.out]; unfold readF; rw [if_neg h0, HN.out, if_neg hshort, if_pos hfol]
              clear hfol
              go_wp2_with fail
              go_ret3
              exact ⟨.slice none 0 0, rfl, Kd.R_nil _ _ _ _ _, pw_below_drewN (Below.refl _ _) _⟩
      · have hcap : ¬ c0 = 1 := by omega
        have hcells : ∀ k : Nat, k < n → w1.cell? (ad.add (1 + k)) = some (.int .u8 (rd l0 ((k + 1 : Nat) : Int))) := fun k hk => by
          obtain ⟨ad', e', hc'⟩ := Kd.at_int HR.out ((k + 1 : Nat) : Int) (by omega) (by omega)
          cases e'
          rw [Int.toNat_natCast] at hc'
          rw [Nat.add_comm 1 k]
          exact hc'
        have HCELL := Aside0.mk hcells
        clear hcells
        go_wp2_with fail
        go_quiet (fail)
        go_wp2_with fail
        go_loop [8, 38] (fun v i => ∃ k : Nat, k ≤ n ∧ i = .int .i64 k ∧ v = .int .u64 (rv l0 n k)) (fun _ i => n - (intOf i).toNat)
        case atStart => exact ⟨0, by omega, rfl, rfl⟩
        case round =>
          obtain ⟨k, hk, rfl, rfl⟩ := hrel
          by_cases hlt : k < n
          · have hd2 : decide (k < n) = true := decide_eq_true hlt
            have hc := HCELL.out k hlt
            rw [show ad.add (1 + k) = ⟨ad.block, ad.off + 1 + k, none⟩ by unfold Addr.add; rw [if_neg (by omega), Nat.add_assoc]] at hc
            have Hs := Aside0.mk (show rv l0 n (k + 1) = Go.bits .or .u64 (IntKind.u64.wrap (rv l0 n k * 256)) (IntKind.u64.wrap (rd l0 (k + 1 : Nat))) from rfl)
            generalize rv l0 n k = q at *
            generalize rd l0 ((k + 1 : Nat) : Int) = x at *
            go_wp2_with fail
            exact ⟨⟨k + 1, by omega, by go_num, by rw [Hs.out]⟩, by simp [intOf]; omega⟩
          · obtain rfl : k = n := by omega
            have hd2 : decide (k < k) = false := by simp
            have hvr := rv_range l0 k k
            go_wp2_with fail
            refine (follow_int _ _ hvr.1 hvr.2).mono ?_
            rintro e w2 ⟨rfl, rfl⟩
            by_cases hfol : fol (rv l0 k k).toNat = k
            · have b1 : (((fol (rv l0 k k).toNat : Nat) : Int) != (k : Int)) = false := by simp [hfol]
              have b2 : (fol (rv l0 k k).toNat != k) = false := by simp [hfol]
              have Hfol := Aside0.mk hfol
              clear hfol
              go_wp2_with fail
              refine (HF.out _ _).mono ?_
              rintro e w3 ⟨rfl, ⟨nd, rfl⟩⟩
              by_cases he : (af (rv l0 k k)).2 = 0
              · have b3 : ((af (rv l0 k k)).2 != 0) = false := by simp [he]
                have Hans2 : Aside0 (ans = ((af (rv l0 k k)).1, l0.drop (1 + k), 0)) := ⟨by rw [← Hans.out]; unfold readF; rw [if_neg h0, HN.out, if_neg hshort, if_neg (by rw [Hfol.out]; simp), if_neg (by rw [he]; simp)]⟩
                clear he
                generalize (af (rv l0 k k)).2 = er at *
                generalize (af (rv l0 k k)).1 = xr at *
                obtain rfl := Hans2.out
                have HR3 := Aside0.mk (Kd.C_drewN HR.out (nq + nd))
                by_cases heq : l0.length = 1 + k
                · have hdr : l0.drop (1 + k) = [] := List.drop_eq_nil_of_le (by omega)
                  rw [hdr]
                  go_wp2_with fail
                  refine (bytes_Clone.calls (some ad) 0 [] [] _ (C_empty _) (Nat.le_refl _) rfl).mono ?_
                  rintro e w5 ⟨v1, rfl, hv, hb⟩
                  replace hb := below_then (pw_below_drewN (Below.refl w1.heap.size w1) (nq + nd)) (Nat.le_refl _) hb
                  go_wp2_with fail
                  go_ret3
                  exact ⟨v1, rfl, (by show Kd.R _ _ _ _ _ _ (l0.drop (1 + k)); rw [hdr]; exact hv), hb⟩
                · have heq2 : ¬ 1 + k = l0.length := fun h => heq h.symm
                  go_wp2_with fail
                  rw [show l0.length - (1 + k) = (l0.drop (1 + k)).length by simp]
                  refine (bytes_Clone.calls (some (ad.add (1 + k))) (l0.drop (1 + k)).length (l0.drop (1 + k)) (l0.drop (1 + k)) _ (C_drop HR3.out _) (Nat.le_refl _) (by unfold bytes_Clone.f; rw [if_pos (by simp; omega)])).mono ?_
                  rintro e w5 ⟨v1, rfl, hv, hb⟩
                  replace hb := below_then (pw_below_drewN (Below.refl w1.heap.size w1) (nq + nd)) (Nat.le_refl _) hb
                  generalize l0.drop (1 + k) = l2 at *
                  go_wp2_with fail
                  go_ret3
                  exact ⟨v1, rfl, hv, hb⟩
              · have b3 : ((af (rv l0 k k)).2 != 0) = true := by simp [he]
                obtain rfl : ans = (0, [], (af (rv l0 k k)).2) := by rw [← Hans.out]; unfold readF; rw [if_neg h0, HN.out, if_neg hshort, if_neg (by rw [Hfol.out]; simp), if_pos he]
                clear he
                generalize (af (rv l0 k k)).2 = er at *
                go_wp2_with fail
                go_ret3
                exact ⟨.slice none 0 0, rfl, Kd.R_nil _ _ _ _ _, pw_below_drewN (Below.refl _ _) _⟩
            · have b1 : (((fol (rv l0 k k).toNat : Nat) : Int) != (k : Int)) = true := by rw [bne_iff_ne]; omega
              have b2 : (fol (rv l0 k k).toNat != k) = true := by simp [hfol]
              obtain rfl : ans = (0, [], 4) := by rw [← Hans.out]; unfold readF; rw [if_neg h0, HN.out, if_neg hshort, if_pos hfol]
              clear hfol
              go_wp2_with fail
              go_ret3
              exact ⟨.slice none 0 0, rfl, Kd.R_nil _ _ _ _ _, pw_below_drewN (Below.refl _ _) _⟩
end Go.Proofs.Ythnjkmjcacoajaa.Fr
end

section
/- bin.written, bin.TakeNum, bin.TakeInt in the print's form. Conditions: a whole of 64 bits; a row that append bears. -/
namespace Go.Proofs.Ythnjkmjcacoajaa.Fr
open Go.RowKit Go.Proofs.YthnjkmjcacoajaaW.PrintWords Go.Proofs.YthnjkmjcacoajaaW.PrintLast Go.Proofs.YthnjkmjcacoajaaW.PrintMore Go.Proofs.Ythnjkmjcacoajaa.FrBase Go.Proofs.Ythnjkmjcacoajaa.Arr
set_option linter.unusedVariables false
set_option linter.unusedSimpArgs false

def bin_written.f (a0 : Int) : Option (List Int) := if 0 ≤ a0 ∧ a0 ≤ 18446744073709551615 then some (wrL (fol a0.toNat) a0.toNat) else none
theorem bin_written.calls (a0 : Int) (r : List Int) (w : World) (h : bin_written.f a0 = some r) :
    Calls Try.prog 67 #[.int .u64 a0] w fun e w' => ∃ v0_ : Value, e = .returned (v0_) ∧ Kd.R (Kd.int .u8) 5 w' w.heap.size (fun _ => True) v0_ r ∧ Below w.heap.size w w' := by
  unfold bin_written.f at h
  split at h
  case isTrue hc =>
    obtain rfl := Option.some.inj h
    have := written_calls a0.toNat (by omega) w
    rw [show ((a0.toNat : Nat) : Int) = a0 by omega] at this
    exact this
  case isFalse => cases h

theorem enters_number (a : Array Value) (W : World) : (callFunc 73 a).run Try.prog W = .ok (.enter 73 a) W := enters_ Try.func73 (by kernel_rfl) rfl a W
def numberF (v : Int) : Int × Int := if v > 9007199254740991 then (0, 4) else (wrap64 v, 0)

def bin_TakeNum.f (l0 : List Int) : Option (Int × List Int × Int) := if l0.length < 140737488355328 then some (readF numberF l0) else none
theorem bin_TakeNum.calls (A0 : Option Addr) (c0 : Nat) (l0 : List Int) (r1 : Int) (r2 : List Int) (r3 : Int) (w : World) (hr0 : Kd.C (Kd.int .u8) w A0 l0.length l0) (hc0 : l0.length ≤ c0) (h : bin_TakeNum.f l0 = some (r1, r2, r3)) :
    Calls Try.prog 69 #[.slice A0 l0.length c0] w fun e w' => ∃ v1_ : Value, e = .returned (.tuple #[.int .i64 r1, v1_, .int .i64 r3]) ∧ Kd.R (Kd.int .u8) 5 w' w.heap.size (fun _ => True) v1_ r2 ∧ Below w.heap.size w w' := by
  unfold bin_TakeNum.f at h
  split at h
  case isTrue hl =>
    have h := Option.some.inj h
    have H := Aside0.mk h
    have HR := Aside0.mk hr0
    clear h hr0
    go_enter Try.func69, Try.ntmps69
    go_wp2_with fail
    refine (read_calls' _ numberF number_as enters_number A0 c0 l0 w HR.out hc0 hl _ H).mono ?_
    rintro e w' ⟨v1, rfl, hv, hb⟩
    go_wp2_with fail
    go_ret3
    exact ⟨v1, rfl, hv, hb⟩
  case isFalse => cases h
end Go.Proofs.Ythnjkmjcacoajaa.Fr
end

section
-- PRINTED by print.py (a twelfth state) out of the translation. Not trusted: Lean checks it.
namespace Go.Proofs.Ythnjkmjcacoajaa.FrMid
open Go.RowKit Go.Proofs.YthnjkmjcacoajaaW.PrintWords Go.Proofs.YthnjkmjcacoajaaW.PrintLast Go.Proofs.YthnjkmjcacoajaaW.PrintMore Go.Proofs.Ythnjkmjcacoajaa.Fr Go.Proofs.Ythnjkmjcacoajaa.FrBase
attribute [local go_sem] max2_int min2_int max_two min_two max_three min_three max_four min_four   -- for this text's walks alone
set_option linter.unusedVariables false
set_option linter.unusedSimpArgs false



def errW : Option Int → Value
  | none => .nilIface
  | some c => .iface 0 (.int .i64 c)
theorem errW_none : errW none = .nilIface := rfl
theorem errW_some (c : Int) : errW (some c) = .iface 0 (.int .i64 c) := rfl

-- the values' own types
end Go.Proofs.Ythnjkmjcacoajaa.FrMid
end

section
-- PRINTED by print.py (a twelfth state) out of the translation. Not trusted: Lean checks it.
namespace Go.Proofs.Ythnjkmjcacoajaa.FrMid
open Go.RowKit Go.Proofs.YthnjkmjcacoajaaW.PrintWords Go.Proofs.YthnjkmjcacoajaaW.PrintLast Go.Proofs.YthnjkmjcacoajaaW.PrintMore Go.Proofs.Ythnjkmjcacoajaa.Fr Go.Proofs.Ythnjkmjcacoajaa.FrBase
attribute [local go_sem] max2_int min2_int max_two min_two max_three min_three max_four min_four   -- for this text's walks alone
set_option linter.unusedVariables false
set_option linter.unusedSimpArgs false

/-! ### bin_Num: function 60 -/
def bin_Num.f (a0 : Int) : Option (List Int × Int) := if a0 < 0 then (some (([] : List Int), 9)) else (if a0 > 9007199254740991 then (some (([] : List Int), 9)) else ((bin_written.f (IntKind.u64.wrap (a0))).bind fun t101 => (some (t101, 0))))
set_option maxHeartbeats 8000000 in
set_option maxRecDepth 100000 in
theorem bin_Num.calls (a0 : Int) (r1 : List Int) (r2 : Int) (w : World) (h : bin_Num.f a0 = some (r1, r2)) :
    Calls Try.prog 60 #[.int .i64 a0] w fun e w' => ∃ v0_ : Value, e = .returned (.tuple #[v0_, .int .i64 r2]) ∧ Kd.R (Kd.int .u8) 5 w' w.heap.size (fun _ => True) v0_ r1 ∧ Below w.heap.size w w' := by
  have HB := Aside0.mk (Below.refl w.heap.size w)
  have H : (if a0 < 0 then (some (([] : List Int), 9)) else (if a0 > 9007199254740991 then (some (([] : List Int), 9)) else ((bin_written.f (IntKind.u64.wrap (a0))).bind fun t101 => (some (t101, 0))))) = some (r1, r2) := h
  clear h
  by_cases c2 : a0 < 0
  · rw [if_pos c2] at H
    have c2b0 : decide (a0 < 0) = true := decide_eq_true c2
    clear c2
    simp only [Option.some.injEq, Prod.mk.injEq] at H
    obtain ⟨rfl, rfl⟩ := H
    go_enter Try.func60, Try.ntmps60
    go_wp2
    go_ret2
    exact ⟨_, by first | rfl | (simp [errW_none, errW_some] <;> rfl) | (simp [*, errW_none, errW_some] <;> rfl), by first | exact Kd.R_nil _ _ _ _ _ | exact Kd.N_nil _ _ _ _ _ | exact Kd.V_nil _ _ _ _ _ | exact Kd.Q_nil _ _ _ _ _ | exact Kd.S_nil _ _ _ _ _, by repeat (first | (with_reducible first | exact HB.out | apply below_alloc | apply pw_below_drewN | apply below_drew1) | exact HB.out)⟩
  · rw [if_neg c2] at H
    have c2b0 : decide (a0 < 0) = false := decide_eq_false c2
    clear c2
    by_cases c3 : a0 > 9007199254740991
    · rw [if_pos c3] at H
      have c3b0 : decide (9007199254740991 < a0) = true := decide_eq_true c3
      clear c3
      simp only [Option.some.injEq, Prod.mk.injEq] at H
      obtain ⟨rfl, rfl⟩ := H
      go_enter Try.func60, Try.ntmps60
      go_wp2
      go_ret2
      exact ⟨_, by first | rfl | (simp [errW_none, errW_some] <;> rfl) | (simp [*, errW_none, errW_some] <;> rfl), by first | exact Kd.R_nil _ _ _ _ _ | exact Kd.N_nil _ _ _ _ _ | exact Kd.V_nil _ _ _ _ _ | exact Kd.Q_nil _ _ _ _ _ | exact Kd.S_nil _ _ _ _ _, by repeat (first | (with_reducible first | exact HB.out | apply below_alloc | apply pw_below_drewN | apply below_drew1) | exact HB.out)⟩
    · rw [if_neg c3] at H
      have c3b0 : decide (9007199254740991 < a0) = false := decide_eq_false c3
      clear c3
      replace H := Option.bind_eq_some_iff.mp H
      obtain ⟨t101, A40, H⟩ := H
      replace H : (some (t101, 0)) = some (r1, r2) := H
      have A4 := Aside0.mk A40
      clear A40
      simp only [Option.some.injEq, Prod.mk.injEq] at H
      obtain ⟨rfl, rfl⟩ := H
      go_enter Try.func60, Try.ntmps60
      go_wp2_with (first | ((with_reducible refine gate_callee (f := 67) rfl ?_); refine goesL_ (some 12) rfl rfl Try.func67 (by kernel_rfl) rfl #[.int .u64 (IntKind.u64.wrap (a0))] rfl (by (try simp only [List.map_toArray, List.map_cons, List.map_nil]); first | done | rfl | (simp only [List.length_drop, List.length_take]; rfl)) ?_; (with_reducible refine (bin_written.calls (IntKind.u64.wrap (a0)) t101 _ A4.out).mono ?_); rintro e w5 ⟨v102, rfl, ho0, hb⟩; refine ⟨_, rfl, ?_⟩; have n0_ := Aside0.mk (Kd.R_lower ho0 (below_size (by repeat (first | (with_reducible first | exact HB.out | apply below_alloc | apply pw_below_drewN | apply below_drew1) | exact HB.out)))); have n1_ := Aside0.mk (below_step (by repeat (first | (with_reducible first | exact HB.out | apply below_alloc | apply pw_below_drewN | apply below_drew1) | exact HB.out)) hb); clear HB; have HO103 := n0_; have HB := n1_; clear n0_ n1_; (try clear hb); (try clear hb2); (try clear hk); (try clear hi); (try clear ho0)))
      go_ret2
      exact ⟨_, by first | rfl | (simp [errW_none, errW_some] <;> rfl) | (simp [*, errW_none, errW_some] <;> rfl), by (with_reducible repeat (first | apply Kd.R_alloc | apply Kd.R_drewN | apply Kd.R_drew)); exact HO103.out, by repeat (first | (with_reducible first | exact HB.out | apply below_alloc | apply pw_below_drewN | apply below_drew1) | exact HB.out)⟩

end Go.Proofs.Ythnjkmjcacoajaa.FrMid
end

section
/- frame.sum, frame.Pack, walked. Conditions: a row that append bears. -/
namespace Go.Proofs.Ythnjkmjcacoajaa.Fr
open Go.RowKit Go.Proofs.YthnjkmjcacoajaaW.PrintWords Go.Proofs.YthnjkmjcacoajaaW.PrintLast Go.Proofs.YthnjkmjcacoajaaW.PrintMore Go.Proofs.Ythnjkmjcacoajaa.FrBase Go.Proofs.Ythnjkmjcacoajaa.Arr Go.Proofs.Ythnjkmjcacoajaa.FrMid
set_option linter.unusedVariables false
set_option linter.unusedSimpArgs false

/-- a sum as four bytes, the highest first -/
def four (s : Int) : List Int := [s / 16777216 % 256, s / 65536 % 256, s / 256 % 256, s % 256]
set_option maxHeartbeats 2000000 in
set_option maxRecDepth 100000 in
theorem frame_sum.calls (A0 : Option Addr) (c0 : Nat) (l0 : List Int) (s : Int) (w : World) (hr0 : Kd.C (Kd.int .u8) w A0 l0.length l0) (hc0 : l0.length ≤ c0) (h : crc_Of.f l0 = some s) :
    Calls Try.prog 61 #[.slice A0 l0.length c0] w fun e w' => e = .returned (.agg (rowK .u8 (four s))) ∧ Below w.heap.size w w' := by
  have H := Aside0.mk h
  have HR := Aside0.mk hr0
  clear h hr0
  go_enter Try.func61, Try.ntmps61
  go_wp2_with fail
  have hrow := HoldsRow.new w 109 (rowK .u8 [0, 0, 0, 0])
  have hb0 := below_alloc (Below.refl w.heap.size w) (.cells (rowK .u8 [0, 0, 0, 0]) 109)
  refine (crc_Of.calls A0 c0 l0 s _ (Kd.C_alloc HR.out _) hc0 H.out).mono ?_
  rintro e w1 ⟨rfl, hb⟩
  have hrow1 := hrow.below (w' := w1) hb (by simp)
  have hb1 := below_then hb0 (by simp) hb
  clear hb hrow hb0 H HR
  have hsz : (rowK .u8 (four s)).size = 4 := rfl
  go_wp2_with (first | (refine wpList_store_row rfl 109 _ _ rfl w.heap.size (rowK .u8 (four s)) rfl rfl 109 (rowK .u8 [0, 0, 0, 0]) hrow1 (by rw [hsz]; kernel_rfl) rfl (rowK_one _ _) ?_))
  exact bodyPost_ret (results_cell_row (p := 2) (ty := 109) rfl _ _ w.heap.size 109 (rowK .u8 (four s)) (0, 0) _ rfl (hrow1.row _) Try.underlying109 rfl (by rw [hsz]; kernel_rfl)) rfl ⟨rfl, below_setRow hb1 _ (Nat.le_refl _)⟩
end Go.Proofs.Ythnjkmjcacoajaa.Fr

/- frame.Pack, walked. Condition: none beyond a row's own. -/
namespace Go.Proofs.Ythnjkmjcacoajaa.Fr
open Go.RowKit Go.Proofs.YthnjkmjcacoajaaW.PrintWords Go.Proofs.YthnjkmjcacoajaaW.PrintLast Go.Proofs.YthnjkmjcacoajaaW.PrintMore Go.Proofs.Ythnjkmjcacoajaa.FrBase Go.Proofs.Ythnjkmjcacoajaa.Arr Go.Proofs.Ythnjkmjcacoajaa.FrMid
set_option linter.unusedVariables false
set_option linter.unusedSimpArgs false

set_option maxHeartbeats 2000000 in
set_option maxRecDepth 100000 in
theorem pack_calls (A0 : Option Addr) (c0 : Nat) (l0 : List Int) (w : World) (hr0 : Kd.C (Kd.int .u8) w A0 l0.length l0) (hc0 : l0.length ≤ c0) (hl : l0.length ≤ 8192) (hd : List Int) (hh : bin_Num.f (l0.length : Int) = some (hd, 0)) (hdl : hd.length ≤ 9) (s : Int) (hs : crc_Of.f (hd ++ l0) = some s) :
    Calls Try.prog 49 #[.slice A0 l0.length c0] w fun e w' => ∃ v0_ : Value, e = .returned (.tuple #[v0_, .int .i64 0]) ∧ Kd.R (Kd.int .u8) 5 w' w.heap.size (fun _ => True) v0_ (hd ++ l0 ++ four s) ∧ Below w.heap.size w w' := by
  have hlim : decide ((8192 : Int) < (l0.length : Int)) = false := decide_eq_false (by omega)
  have hlim2 : decide (8192 < l0.length) = false := decide_eq_false (by omega)
  have HR := Aside0.mk hr0
  have HH := Aside0.mk hh
  have HS := Aside0.mk hs
  have HD := Aside0.mk hdl
  have HC0 := Aside0.mk hc0
  have HL := Aside0.mk hl
  clear hr0 hh hs hdl hc0 hl
  go_enter Try.func49, Try.ntmps49
  go_wp2_with fail
  refine (bin_Num.calls (l0.length : Int) hd 0 w HH.out).mono ?_
  rintro e w1 ⟨v1, rfl, h1, b1⟩
  have HO := Aside0.mk h1
  have HB := Aside0.mk b1
  have HSZ := Aside0.mk b1.size
  have HR1 := Aside0.mk (Kd.C_below HR.out b1)
  clear h1 b1 HR
  go_wp2_with (first | (at_builtin; refine Kd.R_append_rows (Kd.int .u8) (w0 := w) w.heap.size rfl (.tmp 20) (.tmp 21) 31 5 (.int .u8 0) 1 rfl Try.underlying31 infoU8 rfl (by decide) (by omega) v1 hd l0 _ _ _ (fun _ => True) (fun _ => False) rfl rfl HO.out HR1.out (fun _ _ h => h) (fun _ h => h.elim) (fun _ _ => trivial) HB.out HSZ.out ?aL ?_; (case aL => have := HD.out; have := HL.out; omega); intro v2 w2 ho hb hg hat; have HO2 := Aside0.mk ho; have HB2 := Aside0.mk hb; clear ho hb hg hat))
  obtain ⟨A2, c2, rfl, hc2⟩ := Kd.Q_slice (Kd.Q_of_R HO2.out)
  have HC2 := Aside0.mk hc2
  clear hc2 HO HB HR1
  have HLO := Aside0.mk (show (hd ++ l0).length ≤ 8201 by rw [List.length_append]; have := HD.out; have := HL.out; omega)
  generalize hlo : hd ++ l0 = lo at *
  have HLL := Aside0.mk hlo
  clear hlo
  go_wp2_with fail
  refine (frame_sum.calls A2 c2 lo s w2 (Kd.R_reads' HO2.out).2.2 HC2.out HS.out).mono ?_
  rintro e w3 ⟨rfl, hb3⟩
  have HO3 := Aside0.mk (Kd.R_below HO2.out hb3)
  have HB3 := Aside0.mk (below_then HB2.out HB2.out.size hb3)
  clear hb3 HO2 HB2
  have hsz : (rowK .u8 (four s)).size = 4 := rfl
  have hrow := HoldsRow.new w3 109 (rowK .u8 [0, 0, 0, 0])
  have hb4 := below_setRow (b := w3.heap.size) (below_alloc HB3.out (.cells (rowK .u8 [0, 0, 0, 0]) 109)) (rowK .u8 (four s)) HB3.out.size
  have hrow4 := hrow.row (rowK .u8 (four s))
  have ho4 : Kd.R (Kd.int .u8) 5 ((w3.alloc (.cells (rowK .u8 [0, 0, 0, 0]) 109)).setRow w3.heap.size (rowK .u8 (four s))) w.heap.size (fun _ => True) (.slice A2 lo.length c2) lo := Kd.R_step HO3.out (fun k _ hk => (setRow_other _ _ k _ (by omega)).trans (Go.heap_alloc_old w3 _ hk))
  have hc4 : Kd.C (Kd.int .u8) ((w3.alloc (.cells (rowK .u8 [0, 0, 0, 0]) 109)).setRow w3.heap.size (rowK .u8 (four s))) (some ⟨w3.heap.size, 0, none⟩) 4 (four s) := (Kd.Q_reads' (Kd.Q_of_R (hrow4.own (L := four s) (e := 109) (Nat.le_refl w3.heap.size) (by show 4 ≤ 9223372036854775807; decide)))).2.2
  have hsz4 : w.heap.size ≤ ((w3.alloc (.cells (rowK .u8 [0, 0, 0, 0]) 109)).setRow w3.heap.size (rowK .u8 (four s))).heap.size := hb4.size
  have HO4 := Aside0.mk ho4
  have HC4 := Aside0.mk hc4
  have HB4 := Aside0.mk hb4
  have HS4 := Aside0.mk hsz4
  have HROW := Aside0.mk hrow
  clear hrow ho4 HO3 hc4 hrow4 hb4 hsz4
  go_wp2_with (first
    | (refine wpList_store_row rfl 109 _ _ rfl w3.heap.size (rowK .u8 (four s)) rfl rfl 109 (rowK .u8 [0, 0, 0, 0]) HROW.out (by rw [hsz]; kernel_rfl) rfl (rowK_one _ _) ?_)
    | (at_builtin; refine Kd.R_append_rows (Kd.int .u8) (w0 := w) w.heap.size rfl (.tmp 25) (.tmp 26) 31 5 (.int .u8 0) 1 rfl Try.underlying31 infoU8 rfl (by decide) (by omega) (.slice A2 lo.length c2) lo (four s) _ _ _ (fun _ => True) (fun _ => False) rfl rfl HO4.out HC4.out (fun _ _ h => h) (fun _ h => h.elim) (fun _ _ => trivial) HB4.out HS4.out ?aL ?_; (case aL => have := HLO.out; omega); intro v5 w5 ho hb hg hat; have HO5 := Aside0.mk ho; have HB5 := Aside0.mk hb; clear ho hb hg hat))
  go_ret2
  exact ⟨v5, rfl, (by rw [HLL.out]; exact HO5.out), HB5.out⟩
def frame_Pack.f (l0 : List Int) : Option (List Int × Int) :=
  if (l0.length : Int) > 8192 then some ([], 5)
  else (bin_Num.f (l0.length : Int)).bind fun q => if q.2 = 0 ∧ q.1.length ≤ 9 then (crc_Of.f (q.1 ++ l0)).bind fun s => some (q.1 ++ l0 ++ four s, 0) else none
theorem frame_Pack.calls (A0 : Option Addr) (c0 : Nat) (l0 : List Int) (r1 : List Int) (r2 : Int) (w : World) (hr0 : Kd.C (Kd.int .u8) w A0 l0.length l0) (hc0 : l0.length ≤ c0) (h : frame_Pack.f l0 = some (r1, r2)) :
    Calls Try.prog 49 #[.slice A0 l0.length c0] w fun e w' => ∃ v0_ : Value, e = .returned (.tuple #[v0_, .int .i64 r2]) ∧ Kd.R (Kd.int .u8) 5 w' w.heap.size (fun _ => True) v0_ r1 ∧ Below w.heap.size w w' := by
  unfold frame_Pack.f at h
  by_cases hl : (l0.length : Int) > 8192
  · rw [if_pos hl] at h
    cases h
    have hlim : decide ((8192 : Int) < (l0.length : Int)) = true := decide_eq_true (by omega)
    have hlim2 : decide (8192 < l0.length) = true := decide_eq_true (by omega)
    go_enter Try.func49, Try.ntmps49
    go_wp2_with fail
    go_ret2
    exact ⟨_, rfl, Kd.R_nil _ _ _ _ _, Below.refl _ _⟩
  · rw [if_neg hl] at h
    obtain ⟨⟨hd, e⟩, h1, h2⟩ := Option.bind_eq_some_iff.mp h
    split at h2
    case isTrue hq =>
      obtain ⟨h3, h4⟩ := hq
      obtain ⟨s, h5, h6⟩ := Option.bind_eq_some_iff.mp h2
      cases h6
      have h3' : e = 0 := h3
      subst h3'
      exact pack_calls A0 c0 l0 w hr0 hc0 (by omega) hd h1 h4 s h5
    case isFalse => cases h2
end Go.Proofs.Ythnjkmjcacoajaa.Fr

/- '==' of two arrays of four bytes. No condition. -/
namespace Go.Proofs.Ythnjkmjcacoajaa.Fr
open Go.RowKit Go.Proofs.YthnjkmjcacoajaaW.PrintWords Go.Proofs.YthnjkmjcacoajaaW.PrintLast Go.Proofs.YthnjkmjcacoajaaW.PrintMore Go.Proofs.Ythnjkmjcacoajaa.FrBase Go.Proofs.Ythnjkmjcacoajaa.Arr Go.Proofs.Ythnjkmjcacoajaa.FrMid
set_option linter.unusedVariables false
set_option linter.unusedSimpArgs false

theorem eq_four (w : World) (a0 a1 a2 a3 x0 x1 x2 x3 : Int) :
    (Op.equalIn 10000 109 (.agg #[.int .u8 a0, .int .u8 a1, .int .u8 a2, .int .u8 a3]) (.agg #[.int .u8 x0, .int .u8 x1, .int .u8 x2, .int .u8 x3])).run Try.prog w = .ok (decide ([a0, a1, a2, a3] = [x0, x1, x2, x3])) w := by
  obtain ⟨i0, hi0, _, hsz0, _⟩ := info_parts infoU8
  have hc : Try.prog.cellsOf 5 = 1 := by kernel_rfl
  have hp : ∀ (b0 b1 b2 b3 : Int) (W : World), (part 5 #[.int .u8 b0, .int .u8 b1, .int .u8 b2, .int .u8 b3] 0).run Try.prog W = .ok (.int .u8 b0) W ∧ (part 5 #[.int .u8 b0, .int .u8 b1, .int .u8 b2, .int .u8 b3] 1).run Try.prog W = .ok (.int .u8 b1) W ∧ (part 5 #[.int .u8 b0, .int .u8 b1, .int .u8 b2, .int .u8 b3] 2).run Try.prog W = .ok (.int .u8 b2) W ∧ (part 5 #[.int .u8 b0, .int .u8 b1, .int .u8 b2, .int .u8 b3] 3).run Try.prog W = .ok (.int .u8 b3) W := by
    intro b0 b1 b2 b3 W
    have hu := Try.underlying5
    refine ⟨?_, ?_, ?_, ?_⟩ <;> (go_simp; try rfl)
  rw [show (10000 : Nat) = 9999 + 1 from rfl, run_equalIn_array w 9999 _ _ Try.underlying109 hi0, hc]
  have he : ∀ (a x : Int) (W : World), (Op.equalIn 9999 5 (.int .u8 a) (.int .u8 x)).run Try.prog W = .ok (a == x) W := fun a x W => run_equalIn_int W 9998 5 .u8 .u8 a x Try.underlying5
  simp only [show List.range 4 = [0, 1, 2, 3] from rfl, Op.eqItems, Sem.run_bind, Nat.mul_one, (hp _ _ _ _ _).1, (hp _ _ _ _ _).2.1, (hp _ _ _ _ _).2.2.1, (hp _ _ _ _ _).2.2.2, he, Result.andThen_ok]
  by_cases h0 : a0 = x0
  case neg => rw [if_pos (by simp [h0])]; simp [h0]
  subst h0
  rw [if_neg (by simp)]
  simp only [Sem.run_bind, (hp _ _ _ _ _).1, (hp _ _ _ _ _).2.1, (hp _ _ _ _ _).2.2.1, (hp _ _ _ _ _).2.2.2, he, Result.andThen_ok]
  by_cases h1 : a1 = x1
  case neg => rw [if_pos (by simp [h1])]; simp [h1]
  subst h1
  rw [if_neg (by simp)]
  simp only [Sem.run_bind, (hp _ _ _ _ _).1, (hp _ _ _ _ _).2.1, (hp _ _ _ _ _).2.2.1, (hp _ _ _ _ _).2.2.2, he, Result.andThen_ok]
  by_cases h2 : a2 = x2
  case neg => rw [if_pos (by simp [h2])]; simp [h2]
  subst h2
  rw [if_neg (by simp)]
  simp only [Sem.run_bind, (hp _ _ _ _ _).1, (hp _ _ _ _ _).2.1, (hp _ _ _ _ _).2.2.1, (hp _ _ _ _ _).2.2.2, he, Result.andThen_ok]
  by_cases h3 : a3 = x3
  case neg => rw [if_pos (by simp [h3])]; simp [h3]
  subst h3
  rw [if_neg (by simp)]
  simp
end Go.Proofs.Ythnjkmjcacoajaa.Fr
end

section
/- frame.first, walked. Condition: a row that append bears. -/
namespace Go.Proofs.Ythnjkmjcacoajaa.Fr
open Go.RowKit Go.Proofs.YthnjkmjcacoajaaW.PrintWords Go.Proofs.YthnjkmjcacoajaaW.PrintLast Go.Proofs.YthnjkmjcacoajaaW.PrintMore Go.Proofs.Ythnjkmjcacoajaa.FrBase Go.Proofs.Ythnjkmjcacoajaa.Arr Go.Proofs.Ythnjkmjcacoajaa.FrMid
set_option linter.unusedVariables false
set_option linter.unusedSimpArgs false

/-- three whole numbers in a row of cells -/
def trio (a b c : Int) : Array Value := #[.int .i64 a, .int .i64 b, .int .i64 c]
theorem trio_size (a b c : Int) : (trio a b c).size = 3 := rfl
theorem results_cell2 {fn : Func} {p q : Tmp} {ty : TypeId} (h : fn.results = #[.cell p ty, .tmp q]) (tmps : Array Value) (w : World) (g : Nat) (cs : Array Value)
    (hp : tmps.getD p undef = .pointer (some ⟨g, 0, none⟩)) (hv : (loadVar ty ⟨g, 0, none⟩).run Try.prog w = .ok (.agg cs) w) :
    (results fn tmps).run Try.prog w = .ok (.tuple #[.agg cs, tmps.getD q undef]) w := by
  have hp' : tmps[p]?.getD undef = .pointer (some ⟨g, 0, none⟩) := by simpa using hp
  simp [results, h, hp', asAddr, hv]
theorem take_four (l : List Int) (n : Nat) (h : n + 3 < l.length) : (l.drop n).take 4 = [rd l (n : Nat), rd l ((n + 1 : Nat) : Int), rd l ((n + 2 : Nat) : Int), rd l ((n + 3 : Nat) : Int)] := by
  have e : ∀ j, j < l.length → rd l (j : Nat) = l.getD j 0 := fun j _ => by unfold rd; rw [Int.toNat_natCast]
  rw [e _ (by omega), e _ (by omega), e _ (by omega), e _ h]
  apply List.ext_getElem?
  intro i
  rw [List.getElem?_take, List.getElem?_drop]
  rcases i with _ | _ | _ | _ | i
  · simp [List.getD_eq_getElem?_getD, show n < l.length by omega]
  · simp [List.getD_eq_getElem?_getD, show n + 1 < l.length by omega]
  · simp [List.getD_eq_getElem?_getD, show n + 2 < l.length by omega]
  · simp [List.getD_eq_getElem?_getD, h]
  · simp
    omega
set_option maxHeartbeats 4000000 in
set_option maxRecDepth 100000 in
theorem first_calls (ad : Addr) (c0 : Nat) (l0 : List Int) (w : World) (hr0 : Kd.C (Kd.int .u8) w (some ad) l0.length l0) (hc0 : l0.length ≤ c0) (n fr to_ en_ : Nat) (rest : List Int) (hn : bin_TakeNum.f l0 = some ((n : Int), rest, 0)) (hfr1 : 0 < fr) (hfr : fr + rest.length = l0.length) (hl : l0.length < 140737488355328)
    (h1 : n ≤ 8192) (ht : to_ = fr + n) (he : en_ = to_ + 4) (h2 : en_ ≤ l0.length) (s : Int) (hs : crc_Of.f (l0.take to_) = some s) (ans : Value) (Hans : Aside0 ((if four s = (l0.drop to_).take 4 then .tuple #[.agg (trio (fr : Int) (to_ : Int) (en_ : Int)), .int .i64 0] else .tuple #[.agg (trio 0 0 0), .int .i64 40]) = ans)) :
    Calls Try.prog 65 #[.slice (some ad) l0.length c0] w fun e w' => e = .returned ans ∧ Below w.heap.size w w' := by
  have HR := Aside0.mk hr0
  have HN := Aside0.mk hn
  have HS := Aside0.mk hs
  have HC0 := Aside0.mk hc0
  have H2 := Aside0.mk h2
  have HL := Aside0.mk hl
  have hlim : decide ((8192 : Int) < (n : Int)) = false := decide_eq_false (by omega)
  have hlim2 : decide (8192 < n) = false := decide_eq_false (by omega)
  have hb0 := (Below.refl w.heap.size w).alloc (Nat.le_refl _) (.cells (trio 0 0 0) 120)
  have hrow0 := HoldsRow.new w 120 (trio 0 0 0)
  have HC := Aside0.mk (Kd.C_alloc hr0 (.cells (trio 0 0 0) 120))
  have HS0 := Aside0.mk (show w.heap.size < (w.alloc (.cells (trio 0 0 0) 120)).heap.size by simp)
  clear hr0 hn hs hc0
  go_enter Try.func65, Try.ntmps65
  go_wp2_with fail
  refine (bin_TakeNum.calls (some ad) c0 l0 n rest 0 _ HC.out HC0.out HN.out).mono ?_
  rintro e w1 ⟨v1, rfl, hv1, hb1⟩
  obtain ⟨A1, c1, rfl, hc1⟩ := Kd.Q_slice (Kd.Q_of_R hv1)
  have hrow1 := hrow0.below hb1 HS0.out
  have HB1 := Aside0.mk (below_then hb0 hb0.size hb1)
  have HRR := Aside0.mk (Kd.C_below HR.out HB1.out)
  have hcell0 := hrow1.cell (j := 0) (v := .int .i64 0) rfl
  have hcell1 := hrow1.cell (j := 1) (v := .int .i64 0) rfl
  have hcell2 := hrow1.cell (j := 2) (v := .int .i64 0) rfl
  have hfr0 := hrow1.free 0
  have hfr1 := hrow1.free 1
  have hfr2 := hrow1.free 2
  have HROW := Aside0.mk hrow1
  clear hb0 hrow0 HC HS0 hb1 hv1 hc1 HN
  have e1 : wrap64 ((l0.length : Int) - (rest.length : Int)) = (fr : Int) := by unfold wrap64; omega
  have e2 : wrap64 ((fr : Int) + (n : Int)) = (to_ : Int) := by unfold wrap64; omega
  have e3 : wrap64 ((to_ : Int) + 4) = (en_ : Int) := by unfold wrap64; omega
  have d1 : decide ((l0.length : Int) < (en_ : Int)) = false := decide_eq_false (by omega)
  have d2 : decide (l0.length < en_) = false := decide_eq_false (by omega)
  have HFR := Aside0.mk hfr
  have HT0 := Aside0.mk (show 0 < to_ by omega)
  have HT := Aside0.mk (show to_ ≤ l0.length by omega)
  have HT4 := Aside0.mk (show to_ + 4 = en_ by omega)
  have HE := Aside0.mk h2
  clear hfr h2 hl ht he
  obtain ⟨i0, hi0, _, hsz0, _⟩ := info_parts infoU8
  have hcut1 := cut_to (P := Try.prog) 31 5 .i64 Try.underlying31 hi0 (some ad) l0.length c0 (to_ : Int) (by omega) (by have := HT.out; omega) HC0.out
  have hcut2 := cut_mid (P := Try.prog) 31 5 .i64 .i64 Try.underlying31 hi0 1 hsz0 (some ad) l0.length c0 (to_ : Int) (en_ : Int) (by omega) (by have := HT4.out; omega) (by have := HE.out; omega) HC0.out
  have hc1 : ¬ c0 = to_ := by have := HC0.out; have := HT4.out; have := HE.out; omega
  have hadd : (some ad : Option Addr).map (·.add (to_ * 1)) = some ⟨ad.block, ad.off + to_, none⟩ := by
    rw [Nat.mul_one, Option.map_some]
    unfold Addr.add
    have := HT0.out
    rw [if_neg (by omega)]
  rw [Int.toNat_natCast, Int.toNat_natCast, if_neg hc1, hadd, show en_ - to_ = 4 by have := HT4.out; omega] at hcut2
  rw [Int.toNat_natCast] at hcut1
  have hap : ∀ W : World, (Instr.arrayAt 109 (.slice (some ⟨ad.block, ad.off + to_, none⟩) 4 (c0 - to_))).run Try.prog W = .ok (.pointer (some ⟨ad.block, ad.off + to_, none⟩)) W := by
    intro W
    simp [Instr.arrayAt, underlying, Try.underlying109]
  clear hadd
  go_wp2_with fail
  have hrow2 := ((hrow1.set 0 (.int .i64 (fr : Int))).set 1 (.int .i64 (to_ : Int))).set 2 (.int .i64 (en_ : Int))
  have hb2 := ((HB1.out.setCell (show w.heap.size ≤ (⟨w.heap.size, 0, none⟩ : Addr).block from Nat.le_refl _) (.int .i64 (fr : Int))).setCell (show w.heap.size ≤ (⟨w.heap.size, 1, none⟩ : Addr).block from Nat.le_refl _) (.int .i64 (to_ : Int))).setCell (show w.heap.size ≤ (⟨w.heap.size, 2, none⟩ : Addr).block from Nat.le_refl _) (.int .i64 (en_ : Int))
  have hset : (((trio 0 0 0).setIfInBounds 0 (.int .i64 (fr : Int))).setIfInBounds 1 (.int .i64 (to_ : Int))).setIfInBounds 2 (.int .i64 (en_ : Int)) = trio fr to_ en_ := rfl
  rw [hset] at hrow2
  obtain ⟨w2, hw2⟩ : ∃ w2 : World, w2 = ((w1.setCell ⟨w.heap.size, 0, none⟩ (.int .i64 (fr : Int))).setCell ⟨w.heap.size, 1, none⟩ (.int .i64 (to_ : Int))).setCell ⟨w.heap.size, 2, none⟩ (.int .i64 (en_ : Int)) := ⟨_, rfl⟩
  rw [← hw2] at hrow2 hb2 ⊢
  clear hw2 hset hrow1 HB1 HROW hcell0 hcell1 hcell2 hfr0 hfr1 hfr2
  have HR2 := Aside0.mk (Kd.C_below HR.out hb2)
  have hx : ∀ (W : World) (hW : Kd.C (Kd.int .u8) W (some ad) l0.length l0) (j : Nat), to_ + j < l0.length → W.cell? ⟨ad.block, ad.off + to_ + j, none⟩ = some (.int .u8 (rd l0 ((to_ + j : Nat) : Int))) := fun W hW j hj => by
    obtain ⟨ad', e', hc'⟩ := Kd.at_int hW ((to_ + j : Nat) : Int) (by omega) (by omega)
    cases e'
    rw [Int.toNat_natCast] at hc'
    rw [← hc']
    unfold Addr.add
    rw [if_neg (by have := HT0.out; omega), Nat.add_assoc]
  have hlen : to_ + 3 < l0.length := by have := HT4.out; have := HE.out; omega
  have hfacts : ∀ W : World, HoldsRow W w.heap.size 120 (trio fr to_ en_) → Kd.C (Kd.int .u8) W (some ad) l0.length l0 → W.cell? ⟨w.heap.size, 1, none⟩ = some (.int .i64 to_) ∧ W.cell? ⟨w.heap.size, 2, none⟩ = some (.int .i64 en_) ∧ W.cell? ⟨ad.block, ad.off + to_, none⟩ = some (.int .u8 (rd l0 (to_ : Nat))) ∧ W.cell? ⟨ad.block, ad.off + to_ + 1, none⟩ = some (.int .u8 (rd l0 ((to_ + 1 : Nat) : Int))) ∧ W.cell? ⟨ad.block, ad.off + to_ + 2, none⟩ = some (.int .u8 (rd l0 ((to_ + 2 : Nat) : Int))) ∧ W.cell? ⟨ad.block, ad.off + to_ + 3, none⟩ = some (.int .u8 (rd l0 ((to_ + 3 : Nat) : Int))) :=
    fun W h1 h2 => ⟨h1.cell rfl, h1.cell rfl, hx W h2 0 (by omega), hx W h2 1 (by omega), hx W h2 2 (by omega), hx W h2 3 (by omega)⟩
  have K0 := hfacts w2 hrow2 HR2.out
  have hfour : (l0.drop to_).take 4 = [rd l0 (to_ : Nat), rd l0 ((to_ + 1 : Nat) : Int), rd l0 ((to_ + 2 : Nat) : Int), rd l0 ((to_ + 3 : Nat) : Int)] := take_four l0 to_ hlen
  have HFOUR := Aside0.mk hfour
  clear hx hfour hlen
  generalize rd l0 (to_ : Nat) = x0 at *
  generalize rd l0 ((to_ + 1 : Nat) : Int) = x1 at *
  generalize rd l0 ((to_ + 2 : Nat) : Int) = x2 at *
  generalize rd l0 ((to_ + 3 : Nat) : Int) = x3 at *
  have sum_at : ∀ W : World, Kd.C (Kd.int .u8) W (some ad) l0.length l0 → Calls Try.prog 61 #[.slice (some ad) to_ c0] W fun e w' => e = .returned (.agg (rowK .u8 (four s))) ∧ Below W.heap.size W w' := fun W hC => by
    have hlt : (l0.take to_).length = to_ := by rw [List.length_take]; have := HT.out; omega
    have := frame_sum.calls (some ad) c0 (l0.take to_) s W (C_take hC to_) (by rw [hlt]; have := HT.out; have := HC0.out; omega) HS.out
    rw [hlt] at this
    exact this
  have heq : ∀ W : World, (Op.equalIn 10000 109 (.agg (rowK .u8 (four s))) (.agg #[.int .u8 x0, .int .u8 x1, .int .u8 x2, .int .u8 x3])).run Try.prog W = .ok (decide (four s = [x0, x1, x2, x3])) W := fun W => eq_four W _ _ _ _ x0 x1 x2 x3
  by_cases hq : four s = [x0, x1, x2, x3]
  · have bq : decide (four s = [x0, x1, x2, x3]) = true := decide_eq_true hq
    rw [HFOUR.out, if_pos hq] at Hans
    obtain rfl := Hans.out
    clear hq
    refine start_ (n := 17) (S := fun w' => w'.cell? ⟨w.heap.size, 1, none⟩ = some (.int .i64 to_) ∧ w'.cell? ⟨w.heap.size, 2, none⟩ = some (.int .i64 en_) ∧ w'.cell? ⟨ad.block, ad.off + to_, none⟩ = some (.int .u8 x0) ∧ w'.cell? ⟨ad.block, ad.off + to_ + 1, none⟩ = some (.int .u8 x1) ∧ w'.cell? ⟨ad.block, ad.off + to_ + 2, none⟩ = some (.int .u8 x2) ∧ w'.cell? ⟨ad.block, ad.off + to_ + 3, none⟩ = some (.int .u8 x3)) (ds := []) #[false, false, false, false, false, false, false, false, false, false, false, false, false, false, false, false, false] (by kernel_rfl) rfl rfl ⟨K0.1, K0.2.1, K0.2.2.1, K0.2.2.2.1, K0.2.2.2.2.1, K0.2.2.2.2.2⟩ (fun hHeld => ?_)
    refine pure_ (i := 0) (N := some 47) (v := ?_) (a' := ?_) #[true, false, false, false, false, false, false, false, false, false, false, false, false, false, false, false, false] rfl rfl (by kernel_rfl) (fun _ _ _ h => h) (Or.inl ⟨by rfl, ?_⟩) ?_ ?_
    rotate_left
    · intro w'
      go_simp
      with_reducible rfl
    rotate_left
    · simp only [Act.put, List.setIfInBounds_toArray, List.set_cons_zero, List.set_cons_succ, i64_w, i32_w]
      rfl
    refine pure_ (i := 1) (N := some 48) (v := ?_) (a' := ?_) #[true, true, false, false, false, false, false, false, false, false, false, false, false, false, false, false, false] rfl rfl (by kernel_rfl) (fun _ _ _ h => h) (Or.inl ⟨by rfl, ?_⟩) ?_ ?_
    rotate_left
    · intro w'
      go_simp
      with_reducible rfl
    rotate_left
    · simp only [Act.put, List.setIfInBounds_toArray, List.set_cons_zero, List.set_cons_succ, i64_w, i32_w]
      rfl
    refine pure_ (i := 2) (N := some 49) (v := ?_) (a' := ?_) #[true, true, true, false, false, false, false, false, false, false, false, false, false, false, false, false, false] rfl rfl (by kernel_rfl) (fun _ _ _ h => h) (Or.inl ⟨by rfl, ?_⟩) ?_ ?_
    rotate_left
    · intro w'
      go_simp
      with_reducible rfl
    rotate_left
    · simp only [Act.put, List.setIfInBounds_toArray, List.set_cons_zero, List.set_cons_succ, i64_w, i32_w]
      rfl
    refine pure_ (i := 6) (N := some 53) (v := ?_) (a' := ?_) #[true, true, true, false, false, false, true, false, false, false, false, false, false, false, false, false, false] rfl rfl (by kernel_rfl) (fun _ _ _ h => h) (Or.inl ⟨by rfl, ?_⟩) ?_ ?_
    rotate_left
    · intro w'
      go_simp
      with_reducible rfl
    rotate_left
    · simp only [Act.put, List.setIfInBounds_toArray, List.set_cons_zero, List.set_cons_succ, i64_w, i32_w]
      rfl
    refine pure_ (i := 7) (N := some 54) (v := ?_) (a' := ?_) #[true, true, true, false, false, false, true, true, false, false, false, false, false, false, false, false, false] rfl rfl (by kernel_rfl) (fun _ _ _ h => h) (Or.inl ⟨by rfl, ?_⟩) ?_ ?_
    rotate_left
    · intro w'
      go_simp
      with_reducible rfl
    rotate_left
    · simp only [Act.put, List.setIfInBounds_toArray, List.set_cons_zero, List.set_cons_succ, i64_w, i32_w]
      rfl
    refine pure_ (i := 8) (N := some 55) (v := ?_) (a' := ?_) #[true, true, true, false, false, false, true, true, true, false, false, false, false, false, false, false, false] rfl rfl (by kernel_rfl) (fun _ _ _ h => h) (Or.inl ⟨by rfl, ?_⟩) ?_ ?_
    rotate_left
    · intro w'
      go_simp
      with_reducible rfl
    rotate_left
    · simp only [Act.put, List.setIfInBounds_toArray, List.set_cons_zero, List.set_cons_succ, i64_w, i32_w]
      rfl
    refine pure_ (i := 10) (N := some 57) (v := ?_) (a' := ?_) #[true, true, true, false, false, false, true, true, true, false, true, false, false, false, false, false, false] rfl rfl (by kernel_rfl) (fun _ _ _ h => h) (Or.inl ⟨by rfl, ?_⟩) ?_ ?_
    rotate_left
    · intro w'
      go_simp
      with_reducible rfl
    rotate_left
    · simp only [Act.put, List.setIfInBounds_toArray, List.set_cons_zero, List.set_cons_succ, i64_w, i32_w]
      rfl
    refine take_ (i := 3) (N := some 50) (v := ?_) (a' := ?_) #[true, true, true, true, false, false, true, true, true, false, true, false, false, false, false, false, false] rfl rfl (by kernel_rfl) (fun _ _ _ h => h) (Or.inl ⟨by rfl, ?_⟩) hHeld ?_ ?_
    rotate_left
    · rintro w' ⟨s0, s1, s2, s3, s4, s5⟩
      go_simp
      with_reducible rfl
    rotate_left
    · simp only [Act.put, List.setIfInBounds_toArray, List.set_cons_zero, List.set_cons_succ, i64_w, i32_w]
      rfl
    refine pure_ (i := 4) (N := some 51) (v := ?_) (a' := ?_) #[true, true, true, true, true, false, true, true, true, false, true, false, false, false, false, false, false] rfl rfl (by kernel_rfl) (fun _ _ _ h => h) (Or.inl ⟨by rfl, ?_⟩) ?_ ?_
    rotate_left
    · intro w'
      go_simp
      with_reducible rfl
    rotate_left
    · simp only [Act.put, List.setIfInBounds_toArray, List.set_cons_zero, List.set_cons_succ, i64_w, i32_w]
      rfl
    refine take_ (i := 9) (N := some 56) (v := ?_) (a' := ?_) #[true, true, true, true, true, false, true, true, true, true, true, false, false, false, false, false, false] rfl rfl (by kernel_rfl) (fun _ _ _ h => h) (Or.inl ⟨by rfl, ?_⟩) hHeld ?_ ?_
    rotate_left
    · rintro w' ⟨s0, s1, s2, s3, s4, s5⟩
      go_simp
      with_reducible rfl
    rotate_left
    · simp only [Act.put, List.setIfInBounds_toArray, List.set_cons_zero, List.set_cons_succ, i64_w, i32_w]
      rfl
    refine take_ (i := 11) (N := some 58) (v := ?_) (a' := ?_) #[true, true, true, true, true, false, true, true, true, true, true, true, false, false, false, false, false] rfl rfl (by kernel_rfl) (fun _ _ _ h => h) (Or.inl ⟨by rfl, ?_⟩) hHeld ?_ ?_
    rotate_left
    · rintro w' ⟨s0, s1, s2, s3, s4, s5⟩
      go_simp
      with_reducible rfl
    rotate_left
    · simp only [Act.put, List.setIfInBounds_toArray, List.set_cons_zero, List.set_cons_succ, i64_w, i32_w]
      rfl
    refine pure_ (i := 12) (N := some 59) (v := ?_) (a' := ?_) #[true, true, true, true, true, false, true, true, true, true, true, true, true, false, false, false, false] rfl rfl (by kernel_rfl) (fun _ _ _ h => h) (Or.inl ⟨by rfl, ?_⟩) ?_ ?_
    rotate_left
    · intro w'
      go_simp
      with_reducible rfl
    rotate_left
    · simp only [Act.put, List.setIfInBounds_toArray, List.set_cons_zero, List.set_cons_succ, i64_w, i32_w]
      rfl
    refine pure_ (i := 13) (N := some 60) (v := ?_) (a' := ?_) #[true, true, true, true, true, false, true, true, true, true, true, true, true, true, false, false, false] rfl rfl (by kernel_rfl) (fun _ _ _ h => h) (Or.inl ⟨by rfl, ?_⟩) ?_ ?_
    rotate_left
    · intro w'
      go_simp
      with_reducible rfl
    rotate_left
    · simp only [Act.put, List.setIfInBounds_toArray, List.set_cons_zero, List.set_cons_succ, i64_w, i32_w]
      rfl
    refine take_ (i := 14) (N := some 61) (v := ?_) (a' := ?_) #[true, true, true, true, true, false, true, true, true, true, true, true, true, true, true, false, false] rfl rfl (by kernel_rfl) (fun _ _ _ h => h) (Or.inl ⟨by rfl, ?_⟩) hHeld ?_ ?_
    rotate_left
    · rintro w' ⟨s0, s1, s2, s3, s4, s5⟩
      go_simp
      with_reducible rfl
    rotate_left
    · simp only [Act.put, List.setIfInBounds_toArray, List.set_cons_zero, List.set_cons_succ, i64_w, i32_w]
      rfl
    refine one_ (i := 5) (N := some 52) #[true, true, true, true, true, true, true, true, true, true, true, true, true, true, true, false, false] rfl rfl (by kernel_rfl) (by decide) (fun K hK => ?_)
    refine goes_ Try.func61 (by kernel_rfl) rfl #[.slice (some ad) to_ c0] (by rfl) rfl rfl (by simp only [List.map_toArray, List.map_cons, List.map_nil]; rfl) ?_
    with_reducible refine (sum_at _ (Kd.C_drew HR2.out)).mono ?_
    rintro e w5 ⟨rfl, hb5⟩
    refine ⟨_, rfl, ?_⟩
    have F := hfacts w5 (HoldsRow.below (w := w2.drew) (w' := w5) hrow2 hb5 hrow2.lt) (Kd.C_below (Kd.C_drew HR2.out) hb5)
    refine hK.out _ _ ⟨F.1, F.2.1, F.2.2.1, F.2.2.2.1, F.2.2.2.2.1, F.2.2.2.2.2⟩ (fun hHeld => ?_)
    clear hK K
    refine norm_ (a' := ?_) ?_ ?_
    rotate_left
    · show Act.put _ (some 52) _ = _
      simp only [Act.put, List.setIfInBounds_toArray, List.set_cons_zero, List.set_cons_succ, i64_w, i32_w]
      rfl
    refine pure_ (i := 15) (N := some 62) (v := ?_) (a' := ?_) #[true, true, true, true, true, true, true, true, true, true, true, true, true, true, true, true, false] rfl rfl (by kernel_rfl) (fun _ _ _ h => h) (Or.inl ⟨by rfl, ?_⟩) ?_ ?_
    rotate_left
    · intro w'
      go_simp
      with_reducible rfl
    rotate_left
    · simp only [Act.put, List.setIfInBounds_toArray, List.set_cons_zero, List.set_cons_succ, i64_w, i32_w]
      rfl
    refine pure_ (i := 16) (N := some 46) (v := ?_) (a' := ?_) #[true, true, true, true, true, true, true, true, true, true, true, true, true, true, true, true, true] rfl rfl (by kernel_rfl) (fun _ _ _ h => h) (Or.inl ⟨by rfl, ?_⟩) ?_ ?_
    rotate_left
    · intro w'
      go_simp
      with_reducible rfl
    rotate_left
    · simp only [Act.put, List.setIfInBounds_toArray, List.set_cons_zero, List.set_cons_succ, i64_w, i32_w]
      rfl
    refine done_ (by kernel_rfl) ?_
    
    have hrow5 := HoldsRow.below (w := w2.drew) (w' := w5) hrow2 hb5 hrow2.lt
    have HB5 := Aside0.mk (below_then (below_drew hb2) (by have := hb2.size; simpa using this) hb5)
    have q0 := hrow5.cell (j := 0) (v := .int .i64 (fr : Nat)) rfl
    have q1 := hrow5.cell (j := 1) (v := .int .i64 (to_ : Nat)) rfl
    have q2 := hrow5.cell (j := 2) (v := .int .i64 (en_ : Nat)) rfl
    have z0 := hrow5.free 0
    have z1 := hrow5.free 1
    have z2 := hrow5.free 2
    go_wp2_with fail
    have hr6 := ((hrow5.set 0 (.int .i64 (fr : Int))).set 1 (.int .i64 (to_ : Int))).set 2 (.int .i64 (en_ : Int))
    have hs6 : (((trio fr to_ en_).setIfInBounds 0 (.int .i64 (fr : Int))).setIfInBounds 1 (.int .i64 (to_ : Int))).setIfInBounds 2 (.int .i64 (en_ : Int)) = trio fr to_ en_ := rfl
    rw [hs6] at hr6
    exact bodyPost_ret (results_cell2 (p := 2) (q := 3) (ty := 120) rfl _ _ w.heap.size (trio fr to_ en_) rfl (run_loadVar_row _ w.heap.size 120 120 (trio fr to_ en_) (0, 0) _ hr6 Try.underlying120 rfl (by rw [trio_size]; kernel_rfl))) rfl ⟨rfl, ((HB5.out.setCell (show w.heap.size ≤ (⟨w.heap.size, 0, none⟩ : Addr).block from Nat.le_refl _) _).setCell (show w.heap.size ≤ (⟨w.heap.size, 1, none⟩ : Addr).block from Nat.le_refl _) _).setCell (show w.heap.size ≤ (⟨w.heap.size, 2, none⟩ : Addr).block from Nat.le_refl _) _⟩
  · have bq : decide (four s = [x0, x1, x2, x3]) = false := decide_eq_false hq
    rw [HFOUR.out, if_neg hq] at Hans
    obtain rfl := Hans.out
    clear hq
    refine start_ (n := 17) (S := fun w' => w'.cell? ⟨w.heap.size, 1, none⟩ = some (.int .i64 to_) ∧ w'.cell? ⟨w.heap.size, 2, none⟩ = some (.int .i64 en_) ∧ w'.cell? ⟨ad.block, ad.off + to_, none⟩ = some (.int .u8 x0) ∧ w'.cell? ⟨ad.block, ad.off + to_ + 1, none⟩ = some (.int .u8 x1) ∧ w'.cell? ⟨ad.block, ad.off + to_ + 2, none⟩ = some (.int .u8 x2) ∧ w'.cell? ⟨ad.block, ad.off + to_ + 3, none⟩ = some (.int .u8 x3)) (ds := []) #[false, false, false, false, false, false, false, false, false, false, false, false, false, false, false, false, false] (by kernel_rfl) rfl rfl ⟨K0.1, K0.2.1, K0.2.2.1, K0.2.2.2.1, K0.2.2.2.2.1, K0.2.2.2.2.2⟩ (fun hHeld => ?_)
    refine pure_ (i := 0) (N := some 47) (v := ?_) (a' := ?_) #[true, false, false, false, false, false, false, false, false, false, false, false, false, false, false, false, false] rfl rfl (by kernel_rfl) (fun _ _ _ h => h) (Or.inl ⟨by rfl, ?_⟩) ?_ ?_
    rotate_left
    · intro w'
      go_simp
      with_reducible rfl
    rotate_left
    · simp only [Act.put, List.setIfInBounds_toArray, List.set_cons_zero, List.set_cons_succ, i64_w, i32_w]
      rfl
    refine pure_ (i := 1) (N := some 48) (v := ?_) (a' := ?_) #[true, true, false, false, false, false, false, false, false, false, false, false, false, false, false, false, false] rfl rfl (by kernel_rfl) (fun _ _ _ h => h) (Or.inl ⟨by rfl, ?_⟩) ?_ ?_
    rotate_left
    · intro w'
      go_simp
      with_reducible rfl
    rotate_left
    · simp only [Act.put, List.setIfInBounds_toArray, List.set_cons_zero, List.set_cons_succ, i64_w, i32_w]
      rfl
    refine pure_ (i := 2) (N := some 49) (v := ?_) (a' := ?_) #[true, true, true, false, false, false, false, false, false, false, false, false, false, false, false, false, false] rfl rfl (by kernel_rfl) (fun _ _ _ h => h) (Or.inl ⟨by rfl, ?_⟩) ?_ ?_
    rotate_left
    · intro w'
      go_simp
      with_reducible rfl
    rotate_left
    · simp only [Act.put, List.setIfInBounds_toArray, List.set_cons_zero, List.set_cons_succ, i64_w, i32_w]
      rfl
    refine pure_ (i := 6) (N := some 53) (v := ?_) (a' := ?_) #[true, true, true, false, false, false, true, false, false, false, false, false, false, false, false, false, false] rfl rfl (by kernel_rfl) (fun _ _ _ h => h) (Or.inl ⟨by rfl, ?_⟩) ?_ ?_
    rotate_left
    · intro w'
      go_simp
      with_reducible rfl
    rotate_left
    · simp only [Act.put, List.setIfInBounds_toArray, List.set_cons_zero, List.set_cons_succ, i64_w, i32_w]
      rfl
    refine pure_ (i := 7) (N := some 54) (v := ?_) (a' := ?_) #[true, true, true, false, false, false, true, true, false, false, false, false, false, false, false, false, false] rfl rfl (by kernel_rfl) (fun _ _ _ h => h) (Or.inl ⟨by rfl, ?_⟩) ?_ ?_
    rotate_left
    · intro w'
      go_simp
      with_reducible rfl
    rotate_left
    · simp only [Act.put, List.setIfInBounds_toArray, List.set_cons_zero, List.set_cons_succ, i64_w, i32_w]
      rfl
    refine pure_ (i := 8) (N := some 55) (v := ?_) (a' := ?_) #[true, true, true, false, false, false, true, true, true, false, false, false, false, false, false, false, false] rfl rfl (by kernel_rfl) (fun _ _ _ h => h) (Or.inl ⟨by rfl, ?_⟩) ?_ ?_
    rotate_left
    · intro w'
      go_simp
      with_reducible rfl
    rotate_left
    · simp only [Act.put, List.setIfInBounds_toArray, List.set_cons_zero, List.set_cons_succ, i64_w, i32_w]
      rfl
    refine pure_ (i := 10) (N := some 57) (v := ?_) (a' := ?_) #[true, true, true, false, false, false, true, true, true, false, true, false, false, false, false, false, false] rfl rfl (by kernel_rfl) (fun _ _ _ h => h) (Or.inl ⟨by rfl, ?_⟩) ?_ ?_
    rotate_left
    · intro w'
      go_simp
      with_reducible rfl
    rotate_left
    · simp only [Act.put, List.setIfInBounds_toArray, List.set_cons_zero, List.set_cons_succ, i64_w, i32_w]
      rfl
    refine take_ (i := 3) (N := some 50) (v := ?_) (a' := ?_) #[true, true, true, true, false, false, true, true, true, false, true, false, false, false, false, false, false] rfl rfl (by kernel_rfl) (fun _ _ _ h => h) (Or.inl ⟨by rfl, ?_⟩) hHeld ?_ ?_
    rotate_left
    · rintro w' ⟨s0, s1, s2, s3, s4, s5⟩
      go_simp
      with_reducible rfl
    rotate_left
    · simp only [Act.put, List.setIfInBounds_toArray, List.set_cons_zero, List.set_cons_succ, i64_w, i32_w]
      rfl
    refine pure_ (i := 4) (N := some 51) (v := ?_) (a' := ?_) #[true, true, true, true, true, false, true, true, true, false, true, false, false, false, false, false, false] rfl rfl (by kernel_rfl) (fun _ _ _ h => h) (Or.inl ⟨by rfl, ?_⟩) ?_ ?_
    rotate_left
    · intro w'
      go_simp
      with_reducible rfl
    rotate_left
    · simp only [Act.put, List.setIfInBounds_toArray, List.set_cons_zero, List.set_cons_succ, i64_w, i32_w]
      rfl
    refine take_ (i := 9) (N := some 56) (v := ?_) (a' := ?_) #[true, true, true, true, true, false, true, true, true, true, true, false, false, false, false, false, false] rfl rfl (by kernel_rfl) (fun _ _ _ h => h) (Or.inl ⟨by rfl, ?_⟩) hHeld ?_ ?_
    rotate_left
    · rintro w' ⟨s0, s1, s2, s3, s4, s5⟩
      go_simp
      with_reducible rfl
    rotate_left
    · simp only [Act.put, List.setIfInBounds_toArray, List.set_cons_zero, List.set_cons_succ, i64_w, i32_w]
      rfl
    refine take_ (i := 11) (N := some 58) (v := ?_) (a' := ?_) #[true, true, true, true, true, false, true, true, true, true, true, true, false, false, false, false, false] rfl rfl (by kernel_rfl) (fun _ _ _ h => h) (Or.inl ⟨by rfl, ?_⟩) hHeld ?_ ?_
    rotate_left
    · rintro w' ⟨s0, s1, s2, s3, s4, s5⟩
      go_simp
      with_reducible rfl
    rotate_left
    · simp only [Act.put, List.setIfInBounds_toArray, List.set_cons_zero, List.set_cons_succ, i64_w, i32_w]
      rfl
    refine pure_ (i := 12) (N := some 59) (v := ?_) (a' := ?_) #[true, true, true, true, true, false, true, true, true, true, true, true, true, false, false, false, false] rfl rfl (by kernel_rfl) (fun _ _ _ h => h) (Or.inl ⟨by rfl, ?_⟩) ?_ ?_
    rotate_left
    · intro w'
      go_simp
      with_reducible rfl
    rotate_left
    · simp only [Act.put, List.setIfInBounds_toArray, List.set_cons_zero, List.set_cons_succ, i64_w, i32_w]
      rfl
    refine pure_ (i := 13) (N := some 60) (v := ?_) (a' := ?_) #[true, true, true, true, true, false, true, true, true, true, true, true, true, true, false, false, false] rfl rfl (by kernel_rfl) (fun _ _ _ h => h) (Or.inl ⟨by rfl, ?_⟩) ?_ ?_
    rotate_left
    · intro w'
      go_simp
      with_reducible rfl
    rotate_left
    · simp only [Act.put, List.setIfInBounds_toArray, List.set_cons_zero, List.set_cons_succ, i64_w, i32_w]
      rfl
    refine take_ (i := 14) (N := some 61) (v := ?_) (a' := ?_) #[true, true, true, true, true, false, true, true, true, true, true, true, true, true, true, false, false] rfl rfl (by kernel_rfl) (fun _ _ _ h => h) (Or.inl ⟨by rfl, ?_⟩) hHeld ?_ ?_
    rotate_left
    · rintro w' ⟨s0, s1, s2, s3, s4, s5⟩
      go_simp
      with_reducible rfl
    rotate_left
    · simp only [Act.put, List.setIfInBounds_toArray, List.set_cons_zero, List.set_cons_succ, i64_w, i32_w]
      rfl
    refine one_ (i := 5) (N := some 52) #[true, true, true, true, true, true, true, true, true, true, true, true, true, true, true, false, false] rfl rfl (by kernel_rfl) (by decide) (fun K hK => ?_)
    refine goes_ Try.func61 (by kernel_rfl) rfl #[.slice (some ad) to_ c0] (by rfl) rfl rfl (by simp only [List.map_toArray, List.map_cons, List.map_nil]; rfl) ?_
    with_reducible refine (sum_at _ (Kd.C_drew HR2.out)).mono ?_
    rintro e w5 ⟨rfl, hb5⟩
    refine ⟨_, rfl, ?_⟩
    have F := hfacts w5 (HoldsRow.below (w := w2.drew) (w' := w5) hrow2 hb5 hrow2.lt) (Kd.C_below (Kd.C_drew HR2.out) hb5)
    refine hK.out _ _ ⟨F.1, F.2.1, F.2.2.1, F.2.2.2.1, F.2.2.2.2.1, F.2.2.2.2.2⟩ (fun hHeld => ?_)
    clear hK K
    refine norm_ (a' := ?_) ?_ ?_
    rotate_left
    · show Act.put _ (some 52) _ = _
      simp only [Act.put, List.setIfInBounds_toArray, List.set_cons_zero, List.set_cons_succ, i64_w, i32_w]
      rfl
    refine pure_ (i := 15) (N := some 62) (v := ?_) (a' := ?_) #[true, true, true, true, true, true, true, true, true, true, true, true, true, true, true, true, false] rfl rfl (by kernel_rfl) (fun _ _ _ h => h) (Or.inl ⟨by rfl, ?_⟩) ?_ ?_
    rotate_left
    · intro w'
      go_simp
      with_reducible rfl
    rotate_left
    · simp only [Act.put, List.setIfInBounds_toArray, List.set_cons_zero, List.set_cons_succ, i64_w, i32_w]
      rfl
    refine pure_ (i := 16) (N := some 46) (v := ?_) (a' := ?_) #[true, true, true, true, true, true, true, true, true, true, true, true, true, true, true, true, true] rfl rfl (by kernel_rfl) (fun _ _ _ h => h) (Or.inl ⟨by rfl, ?_⟩) ?_ ?_
    rotate_left
    · intro w'
      go_simp
      with_reducible rfl
    rotate_left
    · simp only [Act.put, List.setIfInBounds_toArray, List.set_cons_zero, List.set_cons_succ, i64_w, i32_w]
      rfl
    refine done_ (by kernel_rfl) ?_
    
    have hrow5 := HoldsRow.below (w := w2.drew) (w' := w5) hrow2 hb5 hrow2.lt
    have HB5 := Aside0.mk (below_then (below_drew hb2) (by have := hb2.size; simpa using this) hb5)
    have q0 := hrow5.cell (j := 0) (v := .int .i64 (fr : Nat)) rfl
    have q1 := hrow5.cell (j := 1) (v := .int .i64 (to_ : Nat)) rfl
    have q2 := hrow5.cell (j := 2) (v := .int .i64 (en_ : Nat)) rfl
    have z0 := hrow5.free 0
    have z1 := hrow5.free 1
    have z2 := hrow5.free 2
    go_wp2_with fail
    have hr6 := ((hrow5.set 0 (.int .i64 0)).set 1 (.int .i64 0)).set 2 (.int .i64 0)
    have hs6 : (((trio fr to_ en_).setIfInBounds 0 (.int .i64 0)).setIfInBounds 1 (.int .i64 0)).setIfInBounds 2 (.int .i64 0) = trio 0 0 0 := rfl
    rw [hs6] at hr6
    exact bodyPost_ret (results_cell2 (p := 2) (q := 3) (ty := 120) rfl _ _ w.heap.size (trio 0 0 0) rfl (run_loadVar_row _ w.heap.size 120 120 (trio 0 0 0) (0, 0) _ hr6 Try.underlying120 rfl (by rw [trio_size]; kernel_rfl))) rfl ⟨rfl, ((HB5.out.setCell (show w.heap.size ≤ (⟨w.heap.size, 0, none⟩ : Addr).block from Nat.le_refl _) _).setCell (show w.heap.size ≤ (⟨w.heap.size, 1, none⟩ : Addr).block from Nat.le_refl _) _).setCell (show w.heap.size ≤ (⟨w.heap.size, 2, none⟩ : Addr).block from Nat.le_refl _) _⟩
end Go.Proofs.Ythnjkmjcacoajaa.Fr

/- frame.first, all its ways. Condition: a row that append bears. -/
namespace Go.Proofs.Ythnjkmjcacoajaa.Fr
open Go.RowKit Go.Proofs.YthnjkmjcacoajaaW.PrintWords Go.Proofs.YthnjkmjcacoajaaW.PrintLast Go.Proofs.YthnjkmjcacoajaaW.PrintMore Go.Proofs.Ythnjkmjcacoajaa.FrBase Go.Proofs.Ythnjkmjcacoajaa.Arr Go.Proofs.Ythnjkmjcacoajaa.FrMid
set_option linter.unusedVariables false
set_option linter.unusedSimpArgs false

set_option maxHeartbeats 4000000 in
set_option maxRecDepth 100000 in
theorem first_bad (A0 : Option Addr) (c0 : Nat) (l0 : List Int) (w : World) (hr0 : Kd.C (Kd.int .u8) w A0 l0.length l0) (hc0 : l0.length ≤ c0) (n er : Int) (rest : List Int) (hn : bin_TakeNum.f l0 = some (n, rest, er)) (he : er ≠ 0) :
    Calls Try.prog 65 #[.slice A0 l0.length c0] w fun e w' => e = .returned (.tuple #[.agg (trio 0 0 0), .int .i64 er]) ∧ Below w.heap.size w w' := by
  have HN := Aside0.mk hn
  have HC0 := Aside0.mk hc0
  have b1 : (er != 0) = true := bne_iff_ne.mpr he
  have b2 : (er == 0) = false := beq_eq_false_iff_ne.mpr he
  have hb0 := (Below.refl w.heap.size w).alloc (Nat.le_refl _) (.cells (trio 0 0 0) 120)
  have hrow0 := HoldsRow.new w 120 (trio 0 0 0)
  have HC := Aside0.mk (Kd.C_alloc hr0 (.cells (trio 0 0 0) 120))
  have HS0 := Aside0.mk (show w.heap.size < (w.alloc (.cells (trio 0 0 0) 120)).heap.size by simp)
  clear hr0 hn hc0 he
  go_enter Try.func65, Try.ntmps65
  go_wp2_with fail
  refine (bin_TakeNum.calls A0 c0 l0 n rest er _ HC.out HC0.out HN.out).mono ?_
  rintro e w1 ⟨v1, rfl, hv1, hb1⟩
  have hrow1 := hrow0.below hb1 HS0.out
  have HB5 := Aside0.mk (below_then hb0 hb0.size hb1)
  have hcell0 := hrow1.cell (j := 0) (v := .int .i64 0) rfl
  have hcell1 := hrow1.cell (j := 1) (v := .int .i64 0) rfl
  have hcell2 := hrow1.cell (j := 2) (v := .int .i64 0) rfl
  have hfr0 := hrow1.free 0
  have hfr1 := hrow1.free 1
  have hfr2 := hrow1.free 2
  clear hb0 hrow0 HC HS0 hb1 hv1 HN
  go_wp2_with fail
  have hr6 := ((hrow1.set 0 (.int .i64 0)).set 1 (.int .i64 0)).set 2 (.int .i64 0)
  have hs6 : (((trio 0 0 0).setIfInBounds 0 (.int .i64 0)).setIfInBounds 1 (.int .i64 0)).setIfInBounds 2 (.int .i64 0) = trio 0 0 0 := rfl
  rw [hs6] at hr6
  exact bodyPost_ret (results_cell2 (p := 2) (q := 3) (ty := 120) rfl _ _ w.heap.size (trio 0 0 0) rfl (run_loadVar_row _ w.heap.size 120 120 (trio 0 0 0) (0, 0) _ hr6 Try.underlying120 rfl (by rw [trio_size]; kernel_rfl))) rfl ⟨rfl, ((HB5.out.setCell (show w.heap.size ≤ (⟨w.heap.size, 0, none⟩ : Addr).block from Nat.le_refl _) _).setCell (show w.heap.size ≤ (⟨w.heap.size, 1, none⟩ : Addr).block from Nat.le_refl _) _).setCell (show w.heap.size ≤ (⟨w.heap.size, 2, none⟩ : Addr).block from Nat.le_refl _) _⟩

set_option maxHeartbeats 4000000 in
set_option maxRecDepth 100000 in
theorem first_big (A0 : Option Addr) (c0 : Nat) (l0 : List Int) (w : World) (hr0 : Kd.C (Kd.int .u8) w A0 l0.length l0) (hc0 : l0.length ≤ c0) (n : Int) (rest : List Int) (hn : bin_TakeNum.f l0 = some (n, rest, 0)) (h1 : n > 8192) :
    Calls Try.prog 65 #[.slice A0 l0.length c0] w fun e w' => e = .returned (.tuple #[.agg (trio 0 0 0), .int .i64 5]) ∧ Below w.heap.size w w' := by
  have HN := Aside0.mk hn
  have HC0 := Aside0.mk hc0
  have hlim : decide ((8192 : Int) < n) = true := decide_eq_true h1
  have hb0 := (Below.refl w.heap.size w).alloc (Nat.le_refl _) (.cells (trio 0 0 0) 120)
  have hrow0 := HoldsRow.new w 120 (trio 0 0 0)
  have HC := Aside0.mk (Kd.C_alloc hr0 (.cells (trio 0 0 0) 120))
  have HS0 := Aside0.mk (show w.heap.size < (w.alloc (.cells (trio 0 0 0) 120)).heap.size by simp)
  clear hr0 hn hc0 h1
  go_enter Try.func65, Try.ntmps65
  go_wp2_with fail
  refine (bin_TakeNum.calls A0 c0 l0 n rest 0 _ HC.out HC0.out HN.out).mono ?_
  rintro e w1 ⟨v1, rfl, hv1, hb1⟩
  obtain ⟨A1, c1, rfl, hc1⟩ := Kd.Q_slice (Kd.Q_of_R hv1)
  have hrow1 := hrow0.below hb1 HS0.out
  have HB5 := Aside0.mk (below_then hb0 hb0.size hb1)
  have hcell0 := hrow1.cell (j := 0) (v := .int .i64 0) rfl
  have hcell1 := hrow1.cell (j := 1) (v := .int .i64 0) rfl
  have hcell2 := hrow1.cell (j := 2) (v := .int .i64 0) rfl
  have hfr0 := hrow1.free 0
  have hfr1 := hrow1.free 1
  have hfr2 := hrow1.free 2
  obtain ⟨q1, e1⟩ : ∃ q : Int, wrap64 ((l0.length : Int) - (rest.length : Int)) = q := ⟨_, rfl⟩
  obtain ⟨q2, e2⟩ : ∃ q : Int, wrap64 (q1 + n) = q := ⟨_, rfl⟩
  obtain ⟨q3, e3⟩ : ∃ q : Int, wrap64 (q2 + 4) = q := ⟨_, rfl⟩
  clear hb0 hrow0 HC HS0 hb1 hv1 HN hc1
  go_wp2_with fail
  have hr6 := (((((hrow1.set 0 (.int .i64 q1)).set 1 (.int .i64 q2)).set 2 (.int .i64 q3)).set 0 (.int .i64 0)).set 1 (.int .i64 0)).set 2 (.int .i64 0)
  have hs6 : ((((((trio 0 0 0).setIfInBounds 0 (.int .i64 q1)).setIfInBounds 1 (.int .i64 q2)).setIfInBounds 2 (.int .i64 q3)).setIfInBounds 0 (.int .i64 0)).setIfInBounds 1 (.int .i64 0)).setIfInBounds 2 (.int .i64 0) = trio 0 0 0 := rfl
  rw [hs6] at hr6
  have S := fun (W : World) (h : Below w.heap.size w W) (j : Nat) (v : Value) => h.setCell (show w.heap.size ≤ (⟨w.heap.size, j, none⟩ : Addr).block from Nat.le_refl _) v
  exact bodyPost_ret (results_cell2 (p := 2) (q := 3) (ty := 120) rfl _ _ w.heap.size (trio 0 0 0) rfl (run_loadVar_row _ w.heap.size 120 120 (trio 0 0 0) (0, 0) _ hr6 Try.underlying120 rfl (by rw [trio_size]; kernel_rfl))) rfl ⟨rfl, S _ (S _ (S _ (S _ (S _ (S _ HB5.out _ _) _ _) _ _) _ _) _ _) _ _⟩

set_option maxHeartbeats 4000000 in
set_option maxRecDepth 100000 in
theorem first_short (A0 : Option Addr) (c0 : Nat) (l0 : List Int) (w : World) (hr0 : Kd.C (Kd.int .u8) w A0 l0.length l0) (hc0 : l0.length ≤ c0) (n fr to_ en_ : Nat) (rest : List Int) (hn : bin_TakeNum.f l0 = some ((n : Int), rest, 0)) (hfr : fr + rest.length = l0.length) (hl : l0.length < 140737488355328)
    (h1 : n ≤ 8192) (ht : to_ = fr + n) (he : en_ = to_ + 4) (h2 : l0.length < en_) :
    Calls Try.prog 65 #[.slice A0 l0.length c0] w fun e w' => e = .returned (.tuple #[.agg (trio 0 0 0), .int .i64 3]) ∧ Below w.heap.size w w' := by
  have HN := Aside0.mk hn
  have HC0 := Aside0.mk hc0
  have hlim : decide ((8192 : Int) < (n : Int)) = false := decide_eq_false (by omega)
  have hlim2 : decide (8192 < n) = false := decide_eq_false (by omega)
  have hb0 := (Below.refl w.heap.size w).alloc (Nat.le_refl _) (.cells (trio 0 0 0) 120)
  have hrow0 := HoldsRow.new w 120 (trio 0 0 0)
  have HC := Aside0.mk (Kd.C_alloc hr0 (.cells (trio 0 0 0) 120))
  have HS0 := Aside0.mk (show w.heap.size < (w.alloc (.cells (trio 0 0 0) 120)).heap.size by simp)
  clear hr0 hn hc0
  have e1 : wrap64 ((l0.length : Int) - (rest.length : Int)) = (fr : Int) := by unfold wrap64; omega
  have e2 : wrap64 ((fr : Int) + (n : Int)) = (to_ : Int) := by unfold wrap64; omega
  have e3 : wrap64 ((to_ : Int) + 4) = (en_ : Int) := by unfold wrap64; omega
  have d1 : decide ((l0.length : Int) < (en_ : Int)) = true := decide_eq_true (by omega)
  have d2 : decide (l0.length < en_) = true := decide_eq_true (by omega)
  clear hfr hl ht he h2
  go_enter Try.func65, Try.ntmps65
  go_wp2_with fail
  refine (bin_TakeNum.calls A0 c0 l0 n rest 0 _ HC.out HC0.out HN.out).mono ?_
  rintro e w1 ⟨v1, rfl, hv1, hb1⟩
  obtain ⟨A1, c1, rfl, hc1⟩ := Kd.Q_slice (Kd.Q_of_R hv1)
  have hrow1 := hrow0.below hb1 HS0.out
  have HB5 := Aside0.mk (below_then hb0 hb0.size hb1)
  have hcell0 := hrow1.cell (j := 0) (v := .int .i64 0) rfl
  have hcell1 := hrow1.cell (j := 1) (v := .int .i64 0) rfl
  have hcell2 := hrow1.cell (j := 2) (v := .int .i64 0) rfl
  have hfr0 := hrow1.free 0
  have hfr1 := hrow1.free 1
  have hfr2 := hrow1.free 2
  clear hb0 hrow0 HC HS0 hb1 hv1 HN hc1
  go_wp2_with fail
  have hr6 := (((((hrow1.set 0 (.int .i64 (fr : Int))).set 1 (.int .i64 (to_ : Int))).set 2 (.int .i64 (en_ : Int))).set 0 (.int .i64 0)).set 1 (.int .i64 0)).set 2 (.int .i64 0)
  have hs6 : ((((((trio 0 0 0).setIfInBounds 0 (.int .i64 (fr : Int))).setIfInBounds 1 (.int .i64 (to_ : Int))).setIfInBounds 2 (.int .i64 (en_ : Int))).setIfInBounds 0 (.int .i64 0)).setIfInBounds 1 (.int .i64 0)).setIfInBounds 2 (.int .i64 0) = trio 0 0 0 := rfl
  rw [hs6] at hr6
  have S := fun (W : World) (h : Below w.heap.size w W) (j : Nat) (v : Value) => h.setCell (show w.heap.size ≤ (⟨w.heap.size, j, none⟩ : Addr).block from Nat.le_refl _) v
  exact bodyPost_ret (results_cell2 (p := 2) (q := 3) (ty := 120) rfl _ _ w.heap.size (trio 0 0 0) rfl (run_loadVar_row _ w.heap.size 120 120 (trio 0 0 0) (0, 0) _ hr6 Try.underlying120 rfl (by rw [trio_size]; kernel_rfl))) rfl ⟨rfl, S _ (S _ (S _ (S _ (S _ (S _ HB5.out _ _) _ _) _ _) _ _) _ _) _ _⟩

/-- where the first frame lies: its payload's two ends, its own end; what is told -/
def firstF (l0 : List Int) : Option (Int × Int × Int × Int) :=
  (bin_TakeNum.f l0).bind fun q =>
    if q.2.2 ≠ 0 then some (0, 0, 0, q.2.2)
    else if q.1 > 8192 then some (0, 0, 0, 5)
    else if 0 ≤ q.1 ∧ q.2.1.length < l0.length ∧ l0.length < 140737488355328 then
      if l0.length < l0.length - q.2.1.length + q.1.toNat + 4 then some (0, 0, 0, 3)
      else (crc_Of.f (l0.take (l0.length - q.2.1.length + q.1.toNat))).bind fun s =>
        if four s = (l0.drop (l0.length - q.2.1.length + q.1.toNat)).take 4 then some (((l0.length - q.2.1.length : Nat) : Int), ((l0.length - q.2.1.length + q.1.toNat : Nat) : Int), ((l0.length - q.2.1.length + q.1.toNat + 4 : Nat) : Int), 0)
        else some (0, 0, 0, 40)
    else none
theorem frame_first.calls (A0 : Option Addr) (c0 : Nat) (l0 : List Int) (a b c er : Int) (w : World) (hr0 : Kd.C (Kd.int .u8) w A0 l0.length l0) (hc0 : l0.length ≤ c0) (h : firstF l0 = some (a, b, c, er)) :
    Calls Try.prog 65 #[.slice A0 l0.length c0] w fun e w' => e = .returned (.tuple #[.agg (trio a b c), .int .i64 er]) ∧ Below w.heap.size w w' := by
  unfold firstF at h
  obtain ⟨⟨n, rest, e⟩, hn, h⟩ := Option.bind_eq_some_iff.mp h
  simp only at h
  by_cases he : e ≠ 0
  · rw [if_pos he] at h
    cases h
    exact first_bad A0 c0 l0 w hr0 hc0 n _ rest hn he
  · rw [if_neg he] at h
    have he0 : e = 0 := Decidable.not_not.mp he
    subst he0
    by_cases hbig : n > 8192
    · rw [if_pos hbig] at h
      cases h
      exact first_big A0 c0 l0 w hr0 hc0 n rest hn hbig
    · rw [if_neg hbig] at h
      by_cases hc : 0 ≤ n ∧ rest.length < l0.length ∧ l0.length < 140737488355328
      · rw [if_pos hc] at h
        obtain ⟨h0, h1, h2⟩ := hc
        obtain ⟨m, rfl⟩ := Int.eq_ofNat_of_zero_le h0
        simp only [Int.toNat_natCast] at h
        by_cases hs : l0.length < l0.length - rest.length + m + 4
        · rw [if_pos hs] at h
          cases h
          exact first_short A0 c0 l0 w hr0 hc0 m (l0.length - rest.length) _ _ rest hn (by omega) h2 (by omega) rfl rfl hs
        · rw [if_neg hs] at h
          obtain ⟨s, hcs, h⟩ := Option.bind_eq_some_iff.mp h
          obtain ⟨ad, rfl, _⟩ := Kd.at_int hr0 0 (Int.le_refl 0) (by omega)
          refine first_calls ad c0 l0 w hr0 hc0 m (l0.length - rest.length) _ _ rest hn (by omega) (by omega) h2 (by omega) rfl rfl (by omega) s hcs _ ⟨?_⟩
          split at h
          · next hq =>
            cases h
            rw [if_pos hq]
          · next hq =>
            cases h
            rw [if_neg hq]
      · rw [if_neg hc] at h
        cases h
end Go.Proofs.Ythnjkmjcacoajaa.Fr

/- frame.Next, walked. Condition: a row that append bears. -/
namespace Go.Proofs.Ythnjkmjcacoajaa.Fr
open Go.RowKit Go.Proofs.YthnjkmjcacoajaaW.PrintWords Go.Proofs.YthnjkmjcacoajaaW.PrintLast Go.Proofs.YthnjkmjcacoajaaW.PrintMore Go.Proofs.Ythnjkmjcacoajaa.FrBase Go.Proofs.Ythnjkmjcacoajaa.Arr Go.Proofs.Ythnjkmjcacoajaa.FrMid
set_option linter.unusedVariables false
set_option linter.unusedSimpArgs false

theorem trio_one (a b c : Int) : (trio a b c).all (·.oneCell') = true := by
  rw [Array.all_eq_true_iff_forall_mem]
  intro x hx
  simp [trio] at hx
  rcases hx with rfl | rfl | rfl <;> rfl
/-- the first frame's payload, what stands behind it, what is told -/
def frame_Next.f (l0 : List Int) : Option (List Int × List Int × Int) :=
  (firstF l0).bind fun q =>
    if q.2.2.2 ≠ 0 then some ([], [], q.2.2.2)
    else if 0 < q.1 ∧ q.1 ≤ q.2.1 ∧ q.2.2.1 = q.2.1 + 4 ∧ q.2.2.1 ≤ (l0.length : Int) ∧ l0.length < 140737488355328 then some ((l0.drop q.1.toNat).take (q.2.1.toNat - q.1.toNat), l0.drop q.2.2.1.toNat, 0)
    else none
end Go.Proofs.Ythnjkmjcacoajaa.Fr
end

section
/- The plain law of chapter 2's wholes: how many bytes follow, what a whole's bytes are, what is read of them. -/
namespace Go.Proofs.Ythnjkmjcacoajaa.BinMath
open Go Go.RowKit Go.Proofs.YthnjkmjcacoajaaW.PrintWords Go.Proofs.YthnjkmjcacoajaaW.PrintMore Go.Proofs.Ythnjkmjcacoajaa.FrBase Go.Proofs.Ythnjkmjcacoajaa.Fr
set_option linter.unusedVariables false
set_option linter.unusedSimpArgs false

/-- each is a byte -/
def Bytes (l : List Int) : Prop := ∀ x ∈ l, 0 ≤ x ∧ x < 256
theorem bytes_of_wf {l : List Int} (h : ∀ x ∈ l, (Lit.int .u8 x).wf = true) : Bytes l := fun x hx => by
  have := h x hx
  simp [Lit.wf, IntKind.min, IntKind.max, IntKind.signed, IntKind.bits] at this
  omega
theorem i64_of_wf {x : Int} (h : (Lit.int .i64 x).wf = true) : -9223372036854775808 ≤ x ∧ x ≤ 9223372036854775807 := by
  simp [Lit.wf, IntKind.min, IntKind.max, IntKind.signed, IntKind.bits] at h
  omega
theorem Bytes.at_ {l : List Int} (h : Bytes l) (i : Int) : 0 ≤ rd l i ∧ rd l i < 256 := by
  unfold rd
  rw [List.getD_eq_getElem?_getD]
  cases hx : l[i.toNat]? with
  | none => simp
  | some x => exact h x (List.mem_of_getElem? hx)
theorem Bytes.drop {l : List Int} (h : Bytes l) (n : Nat) : Bytes (l.drop n) := fun x hx => h x (List.mem_of_mem_drop hx)
theorem Bytes.take {l : List Int} (h : Bytes l) (n : Nat) : Bytes (l.take n) := fun x hx => h x (List.mem_of_mem_take hx)

/-! ### bits of wholes of 64 -/
theorem wrap_u64 (n : Int) (h0 : 0 ≤ n) (h : n < 18446744073709551616) : IntKind.u64.wrap n = n := by
  simp only [IntKind.wrap]
  simp [IntKind.bits, IntKind.signed]
  omega
theorem ofInt_nat64 (n : Nat) (h : n < 18446744073709551616) : (BitVec.ofInt 64 (n : Int)).toNat = n := by
  rw [BitVec.toNat_ofInt]
  omega
theorem or64 (a b : Nat) (ha : a < 18446744073709551616) (hb : b < 18446744073709551616) : bits .or .u64 (a : Int) (b : Int) = ((a ||| b : Nat) : Int) := by
  show IntKind.u64.wrap ((BitVec.ofInt 64 (a : Int) ||| BitVec.ofInt 64 (b : Int)).toNat : Int) = _
  have h := (BitVec.ofInt 64 (a : Int) ||| BitVec.ofInt 64 (b : Int)).isLt
  rw [wrap_u64 _ (by omega) (by omega), BitVec.toNat_or, ofInt_nat64 a ha, ofInt_nat64 b hb]
theorem and64 (a b : Nat) (ha : a < 18446744073709551616) (hb : b < 18446744073709551616) : bits .and .u64 (a : Int) (b : Int) = ((a &&& b : Nat) : Int) := by
  show IntKind.u64.wrap ((BitVec.ofInt 64 (a : Int) &&& BitVec.ofInt 64 (b : Int)).toNat : Int) = _
  have h := (BitVec.ofInt 64 (a : Int) &&& BitVec.ofInt 64 (b : Int)).isLt
  rw [wrap_u64 _ (by omega) (by omega), BitVec.toNat_and, ofInt_nat64 a ha, ofInt_nat64 b hb]

/-! ### how many bytes follow -/
theorem fol_spec (v : Nat) (hv : v < 18446744073709551616) : (fol v < 8 → v < 2 ^ (7 * (fol v + 1))) ∧ (0 < fol v → 2 ^ (7 * fol v) ≤ v) := by
  by_cases h0 : v = 0
  · subst h0
    have : fol 0 = 0 := by decide
    rw [this]
    simp
  · obtain ⟨h1, h2, h3⟩ := Lib.bitLenAux_bounds 64 v (by omega) h0
    have e : Lib.bitLen v = Lib.bitLenAux 64 v := rfl
    unfold fol
    rw [e]
    generalize Lib.bitLenAux 64 v = L at h1 h2 h3
    refine ⟨fun h => ?_, fun h => ?_⟩
    · refine Nat.lt_of_lt_of_le h3 (Nat.pow_le_pow_right (by decide) ?_)
      omega
    · refine Nat.le_trans (Nat.pow_le_pow_right (by decide) ?_) h2
      omega
/-- what is left for the first byte -/
theorem top_lt (v : Nat) (hv : v < 18446744073709551616) : v / 256 ^ fol v < 2 ^ (7 - fol v) := by
  obtain ⟨s1, _⟩ := fol_spec v hv
  have hf := fol_le v
  rw [Nat.div_lt_iff_lt_mul (Nat.pow_pos (by decide)), show (256 : Nat) = 2 ^ 8 from rfl, ← Nat.pow_mul, ← Nat.pow_add]
  by_cases h8 : fol v = 8
  · rw [h8]
    exact hv
  · rw [show 7 - fol v + 8 * fol v = 7 * (fol v + 1) by omega]
    exact s1 (by omega)

/-! ### the first byte -/
/-- the first byte, of what is left for it -/
def hb (n : Nat) (y : Int) : Int := bits .or .u8 y (bits .xor .u8 IntKind.u8.max (255 / 2 ^ n))
theorem headI_eq (v : Nat) (hv : v < 18446744073709551616) : headI (fol v) v = hb (fol v) ((v / 256 ^ fol v : Nat) : Int) := by
  have h := top_lt v hv
  have h2 : 2 ^ (7 - fol v) ≤ 2 ^ 7 := Nat.pow_le_pow_right (by decide) (by omega)
  unfold headI hb
  rw [Nat.mod_eq_of_lt (by omega)]
theorem hb_all : ∀ n : Fin 9, ∀ y : Fin 128, y.val < 2 ^ (7 - n.val) → lead (hb n.val (y.val : Int)) = n.val ∧ (hb n.val (y.val : Int)).toNat &&& (127 / 2 ^ n.val) = y.val ∧ 0 ≤ hb n.val (y.val : Int) ∧ hb n.val (y.val : Int) < 256 := by decide +kernel
theorem hb_spec (n y : Nat) (hn : n ≤ 8) (hy : y < 2 ^ (7 - n)) : lead (hb n y) = n ∧ (hb n y).toNat &&& (127 / 2 ^ n) = y ∧ 0 ≤ hb n y ∧ hb n y < 256 := by
  have h2 : 2 ^ (7 - n) ≤ 2 ^ 7 := Nat.pow_le_pow_right (by decide) (by omega)
  exact hb_all ⟨n, by omega⟩ ⟨y, by omega⟩ hy
theorem lead_all : ∀ x : Fin 256, hb (lead (x.val : Int)) ((x.val &&& (127 / 2 ^ lead (x.val : Int)) : Nat) : Int) = (x.val : Int) ∧ x.val &&& (127 / 2 ^ lead (x.val : Int)) < 2 ^ (7 - lead (x.val : Int)) := by decide +kernel
theorem lead_spec (x : Int) (h0 : 0 ≤ x) (h1 : x < 256) : hb (lead x) ((x.toNat &&& (127 / 2 ^ lead x) : Nat) : Int) = x ∧ x.toNat &&& (127 / 2 ^ lead x) < 2 ^ (7 - lead x) := by
  have h := lead_all ⟨x.toNat, by omega⟩
  simp only [show ((x.toNat : Nat) : Int) = x by omega] at h
  exact h
/-! ### what is read -/
/-- the whole behind the first byte, plainly -/
def vN (l : List Int) (n : Nat) : Nat → Nat
  | 0 => (rd l 0).toNat &&& (127 / 2 ^ n)
  | k + 1 => vN l n k * 256 + (rd l ((k + 1 : Nat) : Int)).toNat
theorem vN_lt {l : List Int} (h : Bytes l) (n : Nat) (hn : (rd l 0).toNat &&& (127 / 2 ^ n) < 2 ^ (7 - n)) (k : Nat) : vN l n k < 2 ^ (7 - n) * 256 ^ k := by
  induction k with
  | zero => simpa [vN] using hn
  | succ k ih =>
    have hx := h.at_ ((k + 1 : Nat) : Int)
    simp only [vN]
    rw [Nat.pow_succ, ← Nat.mul_assoc]
    omega
theorem room (n k : Nat) (hn : n ≤ 8) (hk : k ≤ n) : 2 ^ (7 - n) * 256 ^ k ≤ 18446744073709551616 := by
  have h1 : 256 ^ k ≤ 256 ^ n := Nat.pow_le_pow_right (by decide) hk
  refine Nat.le_trans (Nat.mul_le_mul_left _ h1) ?_
  have : ∀ n : Fin 9, 2 ^ (7 - n.val) * 256 ^ n.val ≤ 18446744073709551616 := by decide
  exact this ⟨n, by omega⟩
theorem div127 (n : Nat) : ((127 : Int) / 2 ^ n) = ((127 / 2 ^ n : Nat) : Int) := by norm_cast
set_option maxRecDepth 4000 in
theorem rv_eq {l : List Int} (h : Bytes l) (n : Nat) (hn : n ≤ 8) (hy : (rd l 0).toNat &&& (127 / 2 ^ n) < 2 ^ (7 - n)) (k : Nat) (hk : k ≤ n) : rv l n k = (vN l n k : Int) := by
  induction k with
  | zero =>
    have hx := h.at_ 0
    simp only [rv, vN]
    rw [wrap_u64 _ hx.1 (by omega), div127]
    have e : rd l 0 = ((rd l 0).toNat : Int) := by omega
    have e2 := and64 (rd l 0).toNat (127 / 2 ^ n) (by omega) (by have := Nat.div_le_self 127 (2 ^ n); omega)
    rw [← e] at e2
    exact e2
  | succ k ih =>
    have hx := h.at_ ((k + 1 : Nat) : Int)
    have hl := vN_lt h n hy (k + 1)
    have hr := room n (k + 1) hn hk
    simp only [vN] at hl
    simp only [rv, vN]
    rw [ih (by omega), wrap_u64 _ hx.1 (by omega), wrap_u64 _ (by omega) (by omega)]
    generalize rd l ((k + 1 : Nat) : Int) = x at *
    obtain ⟨y, rfl⟩ := Int.eq_ofNat_of_zero_le hx.1
    rw [Int.toNat_natCast] at *
    rw [show ((vN l n k : Int) * 256) = ((vN l n k * 256 : Nat) : Int) by push_cast; rfl, or64 _ _ (by omega) (by omega)]
    have := Nat.two_pow_add_eq_or_of_lt (i := 8) (b := y) (by omega) (vN l n k)
    rw [show (2 : Nat) ^ 8 = 256 from rfl] at this
    rw [Nat.mul_comm (vN l n k) 256, ← this]
/-- its digits are the bytes -/
theorem vN_div {l : List Int} (h : Bytes l) (n k j : Nat) (hj : j ≤ k) : vN l n k / 256 ^ j = vN l n (k - j) := by
  induction j with
  | zero => simp
  | succ j ih =>
    rw [Nat.pow_succ, ← Nat.div_div_eq_div_mul, ih (by omega)]
    obtain ⟨m, hm⟩ : ∃ m, k - j = m + 1 := ⟨k - j - 1, by omega⟩
    rw [show k - (j + 1) = m by omega, hm]
    have hx := h.at_ ((m + 1 : Nat) : Int)
    simp only [vN]
    omega
theorem vN_digit {l : List Int} (h : Bytes l) (n k j : Nat) (hj : j < k) : ((vN l n k / 256 ^ j % 256 : Nat) : Int) = rd l ((k - j : Nat) : Int) := by
  rw [vN_div h n k j (by omega)]
  obtain ⟨m, hm⟩ : ∃ m, k - j = m + 1 := ⟨k - j - 1, by omega⟩
  rw [hm]
  have hx := h.at_ ((m + 1 : Nat) : Int)
  simp only [vN]
  omega
theorem be_vN {l : List Int} (h : Bytes l) (n : Nat) (hl : n < l.length) (j : Nat) (hj : j ≤ n) : be j (vN l n n) = (l.drop (n - j + 1)).take j := by
  induction j with
  | zero => simp [be]
  | succ j ih =>
    simp only [be]
    rw [vN_digit h n n j (by omega), ih (by omega)]
    rw [show n - (j + 1) + 1 = n - j by omega]
    have hlt : n - j < l.length := by omega
    rw [List.drop_eq_getElem_cons hlt, List.take_succ_cons]
    congr 1
    simp [rd, List.getD_eq_getElem?_getD, hlt]
/-- what was read, written again, is what stood there -/
theorem again {l : List Int} (h : Bytes l) (hl : lead (rd l 0) < l.length) (hf : fol (vN l (lead (rd l 0)) (lead (rd l 0))) = lead (rd l 0)) :
    wrL (lead (rd l 0)) (vN l (lead (rd l 0)) (lead (rd l 0))) ++ l.drop (1 + lead (rd l 0)) = l := by
  have hx := h.at_ 0
  obtain ⟨s1, s2⟩ := lead_spec (rd l 0) hx.1 hx.2
  have hle := lead_le (rd l 0)
  generalize hn : lead (rd l 0) = n at *
  have hv : vN l n n < 18446744073709551616 := Nat.lt_of_lt_of_le (vN_lt h n s2 n) (room n n hle (Nat.le_refl _))
  have hh : headI n (vN l n n) = rd l 0 := by
    have := headI_eq (vN l n n) hv
    rw [hf] at this
    rw [this, vN_div h n n n (Nat.le_refl _), Nat.sub_self]
    simp only [vN]
    exact s1
  unfold wrL
  rw [hh, be_vN h n hl n (Nat.le_refl _), Nat.sub_self, Nat.zero_add]
  cases l with
  | nil => simp at hl
  | cons x l =>
    simp only [List.drop_succ_cons, List.drop_zero, rd, List.getD_cons_zero, List.cons_append]
    rw [show 1 + n = n + 1 by omega, List.drop_succ_cons]
    show x :: (l.take n ++ l.drop n) = x :: l
    rw [List.take_append_drop]

/-! ### what is written is read -/
theorem wrL_len (n v : Nat) : (wrL n v).length = n + 1 := by simp [wrL, be_len]
theorem be_bytes (n v : Nat) : Bytes (be n v) := by
  induction n with
  | zero => intro x hx; simp [be] at hx
  | succ n ih =>
    intro x hx
    simp only [be, List.mem_cons] at hx
    rcases hx with rfl | hx
    · omega
    · exact ih x hx
theorem wrL_bytes (v : Nat) (hv : v < 18446744073709551616) : Bytes (wrL (fol v) v) := by
  have hs := hb_spec (fol v) (v / 256 ^ fol v) (fol_le v) (top_lt v hv)
  intro x hx
  simp only [wrL, List.mem_cons] at hx
  rcases hx with rfl | hx
  · rw [headI_eq v hv]
    exact hs.2.2
  · exact be_bytes _ _ x hx
theorem rd_wrL0 (n v : Nat) (r : List Int) : rd (wrL n v ++ r) 0 = headI n v := by simp [wrL, rd]
theorem be_get (n v j : Nat) (hj : j < n) : (be n v)[j]? = some ((v / 256 ^ (n - 1 - j) % 256 : Nat) : Int) := by
  induction n generalizing j with
  | zero => omega
  | succ n ih =>
    simp only [be]
    cases j with
    | zero => simp
    | succ j =>
      rw [List.getElem?_cons_succ, ih j (by omega)]
      rw [show n + 1 - 1 - (j + 1) = n - 1 - j by omega]
theorem rd_wrL (n v j : Nat) (r : List Int) (hj : j < n) : rd (wrL n v ++ r) ((j + 1 : Nat) : Int) = ((v / 256 ^ (n - 1 - j) % 256 : Nat) : Int) := by
  have h := be_get n v j hj
  unfold rd
  rw [Int.toNat_natCast, List.getD_eq_getElem?_getD]
  simp only [wrL, List.cons_append, List.getElem?_cons_succ]
  rw [List.getElem?_append_left (by rw [be_len]; exact hj), h]
  rfl
theorem vN_wrL (v : Nat) (hv : v < 18446744073709551616) (r : List Int) (k : Nat) (hk : k ≤ fol v) : vN (wrL (fol v) v ++ r) (fol v) k = v / 256 ^ (fol v - k) := by
  have hs := hb_spec (fol v) (v / 256 ^ fol v) (fol_le v) (top_lt v hv)
  induction k with
  | zero =>
    simp only [vN]
    rw [rd_wrL0, headI_eq v hv]
    exact hs.2.1
  | succ k ih =>
    simp only [vN]
    rw [ih (by omega), rd_wrL _ _ _ _ (by omega)]
    rw [show fol v - 1 - k = fol v - (k + 1) by omega]
    obtain ⟨m, hm⟩ : ∃ m, fol v - k = m + 1 := ⟨fol v - k - 1, by omega⟩
    rw [hm, show fol v - (k + 1) = m by omega, Nat.pow_succ, ← Nat.div_div_eq_div_mul]
    omega
theorem lead_wrL (v : Nat) (hv : v < 18446744073709551616) (r : List Int) : lead (rd (wrL (fol v) v ++ r) 0) = fol v := by
  have hs := hb_spec (fol v) (v / 256 ^ fol v) (fol_le v) (top_lt v hv)
  rw [rd_wrL0, headI_eq v hv]
  exact hs.1
theorem rv_wrL (v : Nat) (hv : v < 18446744073709551616) (r : List Int) (hr : Bytes r) : rv (wrL (fol v) v ++ r) (fol v) (fol v) = (v : Int) := by
  have hb : Bytes (wrL (fol v) v ++ r) := fun x hx => by
    rcases List.mem_append.1 hx with h | h
    · exact wrL_bytes v hv x h
    · exact hr x h
  have hx := hb.at_ 0
  have s2 := (lead_spec _ hx.1 hx.2).2
  rw [lead_wrL v hv r] at s2
  rw [rv_eq hb (fol v) (fol_le v) s2 (fol v) (Nat.le_refl _), vN_wrL v hv r _ (Nat.le_refl _)]
  simp
/-- what was written, with anything behind it, is read as it was -/
theorem read_written (af : Int → Int × Int) (v : Nat) (hv : v < 18446744073709551616) (r : List Int) (hr : Bytes r) (h0 : (af v).2 = 0) : readF af (wrL (fol v) v ++ r) = ((af v).1, r, 0) := by
  have hl : (wrL (fol v) v ++ r).length = fol v + 1 + r.length := by rw [List.length_append, wrL_len]
  have hle := lead_wrL v hv r
  unfold readF
  rw [if_neg (by omega), hle, if_neg (by omega), rv_wrL v hv r hr]
  rw [if_neg (by simp), if_neg (by rw [h0]; simp)]
  rw [show 1 + fol v = (wrL (fol v) v).length by rw [wrL_len]; omega, List.drop_left]
/-- a beginning of it is too short -/
theorem read_short (af : Int → Int × Int) (v : Nat) (hv : v < 18446744073709551616) (r : List Int) (j : Nat) (hj : j ≤ fol v) : readF af ((wrL (fol v) v ++ r).take j) = (0, [], 3) := by
  have hl : ((wrL (fol v) v ++ r).take j).length = j := by rw [List.length_take, List.length_append, wrL_len]; omega
  unfold readF
  by_cases h0 : j = 0
  · rw [if_pos (by omega)]
  · have hle := lead_wrL v hv r
    have e : rd ((wrL (fol v) v ++ r).take j) 0 = rd (wrL (fol v) v ++ r) 0 := by
      simp [rd, List.getD_eq_getElem?_getD, List.getElem?_take, show 0 < j by omega]
    rw [if_neg (by omega), e, hle, if_pos (by omega)]
end Go.Proofs.Ythnjkmjcacoajaa.BinMath

/- What chapter 2's walked functions come to, in the words of the plain law of wholes. -/
namespace Go.Proofs.Ythnjkmjcacoajaa.BinLink
open Go Go.RowKit Go.Proofs.YthnjkmjcacoajaaW.PrintWords Go.Proofs.YthnjkmjcacoajaaW.PrintMore Go.Proofs.Ythnjkmjcacoajaa.FrBase Go.Proofs.Ythnjkmjcacoajaa.Fr Go.Proofs.Ythnjkmjcacoajaa.FrMid Go.Proofs.Ythnjkmjcacoajaa.BinMath
set_option linter.unusedVariables false
set_option linter.unusedSimpArgs false

/-- a whole's bytes -/
def W (v : Nat) : List Int := wrL (fol v) v
theorem W_len (v : Nat) : (W v).length = fol v + 1 := wrL_len _ _
theorem W_le (v : Nat) : (W v).length ≤ 9 := by have := fol_le v; rw [W_len]; omega
theorem written_eq (v : Nat) (hv : v < 18446744073709551616) : bin_written.f (v : Int) = some (W v) := by
  unfold bin_written.f
  rw [if_pos (by omega), Int.toNat_natCast]
  rfl

/-! ### the reference's bytes -/
/-- the reference's end: the ones that tell how many follow -/
def fin (more : Nat) (out : List Int) : List Int := if more < 8 then out.set 0 (bits .or .u8 (rd out 0) ((shr .i64 65280 more) % 256)) else out
/-! ### Num, Int, Text -/
def numR (n : Int) : List Int × Int := if n < 0 then ([], 9) else if n > 9007199254740991 then ([], 9) else (W n.toNat, 0)
theorem num_eq (n : Int) : bin_Num.f n = some (numR n) := by
  unfold bin_Num.f numR
  split
  · rfl
  · split
    · rfl
    · obtain ⟨m, rfl⟩ := Int.eq_ofNat_of_zero_le (show 0 ≤ n by omega)
      rw [wrap_u64 _ (by omega) (by omega), written_eq m (by omega)]
      rfl
theorem numR_nat (n : Nat) : numR (n : Int) = if (n : Int) > 9007199254740991 then ([], 9) else (W n, 0) := by
  unfold numR
  rw [if_neg (by omega), Int.toNat_natCast]

/-! ### what is read -/
/-- a whole of 64 bits off bytes, how many it has, what is told -/
def takeR (l : List Int) : Nat × Nat × Int :=
  if l.length = 0 then (0, 0, 3)
  else if l.length ≤ lead (rd l 0) then (0, 0, 3)
  else if fol (vN l (lead (rd l 0)) (lead (rd l 0))) ≠ lead (rd l 0) then (0, 0, 4)
  else (vN l (lead (rd l 0)) (lead (rd l 0)), 1 + lead (rd l 0), 0)
theorem vN_lt64 {l : List Int} (h : Bytes l) : vN l (lead (rd l 0)) (lead (rd l 0)) < 18446744073709551616 := by
  have hx := h.at_ 0
  have s2 := (lead_spec _ hx.1 hx.2).2
  exact Nat.lt_of_lt_of_le (vN_lt h _ s2 _) (room _ _ (lead_le _) (Nat.le_refl _))
theorem rv_lead {l : List Int} (h : Bytes l) : rv l (lead (rd l 0)) (lead (rd l 0)) = (vN l (lead (rd l 0)) (lead (rd l 0)) : Int) := by
  have hx := h.at_ 0
  exact rv_eq h _ (lead_le _) (lead_spec _ hx.1 hx.2).2 _ (Nat.le_refl _)
theorem takeR_lt {l : List Int} (h : Bytes l) : (takeR l).1 < 18446744073709551616 := by
  have := vN_lt64 h
  unfold takeR
  split
  · simp
  · split
    · simp
    · split
      · simp
      · exact this
theorem read_take (af : Int → Int × Int) {l : List Int} (h : Bytes l) : readF af l = if (takeR l).2.2 ≠ 0 then (0, [], (takeR l).2.2) else if (af (takeR l).1).2 ≠ 0 then (0, [], (af (takeR l).1).2) else ((af (takeR l).1).1, l.drop (takeR l).2.1, 0) := by
  unfold readF takeR
  by_cases h0 : l.length = 0
  · rw [if_pos h0, if_pos h0, if_pos (by decide)]
  · rw [if_neg h0, if_neg h0]
    by_cases h1 : l.length ≤ lead (rd l 0)
    · rw [if_pos h1, if_pos h1, if_pos (by decide)]
    · rw [if_neg h1, if_neg h1, rv_lead h, Int.toNat_natCast]
      by_cases h2 : fol (vN l (lead (rd l 0)) (lead (rd l 0))) ≠ lead (rd l 0)
      · rw [if_pos h2, if_pos h2, if_pos (by decide)]
      · rw [if_neg h2, if_neg h2]
        simp
/-! ### TakeNum, TakeInt, TakeText -/
theorem takeNum_eq (l : List Int) (hl : l.length < 140737488355328) : bin_TakeNum.f l = some (readF numberF l) := by
  unfold bin_TakeNum.f
  rw [if_pos hl]
theorem numberF_eq (v : Nat) (hv : v < 18446744073709551616) : numberF v = if v > 9007199254740991 then (0, 4) else ((v : Int), 0) := by
  unfold numberF
  by_cases h : v > 9007199254740991
  · rw [if_pos (by omega), if_pos h]
  · rw [if_neg (by omega), if_neg h]
    congr 1
    unfold wrap64
    omega
theorem read_len (af : Int → Int × Int) (l : List Int) : (readF af l).2.1.length ≤ l.length := by
  unfold readF
  split
  · simp
  · split
    · simp
    · split
      · simp
      · split
        · simp
        · simp
theorem read_bytes (af : Int → Int × Int) {l : List Int} (h : Bytes l) : Bytes (readF af l).2.1 := by
  have hn : Bytes [] := fun x hx => by cases hx
  unfold readF
  split
  · exact hn
  · split
    · exact hn
    · split
      · exact hn
      · split
        · exact hn
        · exact h.drop _
end Go.Proofs.Ythnjkmjcacoajaa.BinLink
end

section
/- The plain law of checksums, over registers of 32 bits: no program in sight. -/
namespace Go.Proofs.Ythnjkmjcacoajaa.CrcMath
open Go Go.RowKit
set_option linter.unusedVariables false
set_option linter.unusedSimpArgs false

abbrev R := BitVec 32
def toI (r : R) : Int := (r.toNat : Int)
theorem toI_range (r : R) : 0 ≤ toI r ∧ toI r < 4294967296 := by
  unfold toI
  have := r.isLt
  omega
theorem toI_inj {a b : R} (h : toI a = toI b) : a = b := by
  unfold toI at h
  exact BitVec.eq_of_toNat_eq (by omega)
theorem toI_ofInt (x : Int) (h0 : 0 ≤ x) (h1 : x < 4294967296) : toI (BitVec.ofInt 32 x) = x := by
  unfold toI
  rw [BitVec.toNat_ofInt]
  omega
theorem ofInt_toI (r : R) : BitVec.ofInt 32 (toI r) = r := by
  apply toI_inj
  exact toI_ofInt _ (toI_range r).1 (toI_range r).2
theorem wrap_u32 (n : Nat) (h : n < 4294967296) : IntKind.u32.wrap (n : Int) = n := by
  simp only [IntKind.wrap]
  simp [IntKind.bits, IntKind.signed]
  omega
theorem bits_xor (a b : R) : bits .xor .u32 (toI a) (toI b) = toI (a ^^^ b) := by
  show IntKind.u32.wrap ((BitVec.ofInt 32 (toI a) ^^^ BitVec.ofInt 32 (toI b)).toNat : Int) = _
  rw [ofInt_toI, ofInt_toI]
  exact wrap_u32 _ (a ^^^ b).isLt
theorem bits_and (a b : R) : bits .and .u32 (toI a) (toI b) = toI (a &&& b) := by
  show IntKind.u32.wrap ((BitVec.ofInt 32 (toI a) &&& BitVec.ofInt 32 (toI b)).toNat : Int) = _
  rw [ofInt_toI, ofInt_toI]
  exact wrap_u32 _ (a &&& b).isLt
theorem toI_shr (a : R) (n : Nat) : toI a / ((2 : Int) ^ n) = toI (a >>> n) := by
  unfold toI
  rw [BitVec.toNat_ushiftRight, Nat.shiftRight_eq_div_pow]
  norm_cast
theorem toI_neg (a : R) : (-(toI a)) % 4294967296 = toI (-a) := by
  unfold toI
  rw [BitVec.toNat_neg]
  have := a.isLt
  omega
/-! ### a register goes down by a place -/
def poly : R := 0x82F63B78#32
def sel (c : Bool) (x : R) : R := if c then x else 0#32
def down (r : R) : R := (r >>> 1) ^^^ sel (r.getLsbD 0) poly
theorem sel_xor (c d : Bool) (x : R) : sel (c ^^ d) x = sel c x ^^^ sel d x := by
  cases c <;> cases d <;> simp [sel]
theorem down_xor (a b : R) : down (a ^^^ b) = down a ^^^ down b := by
  unfold down
  rw [BitVec.ushiftRight_xor_distrib, BitVec.getLsbD_xor, sel_xor]
  ac_rfl
theorem and_one (r : R) : r &&& 1#32 = sel (r.getLsbD 0) 1#32 := by
  apply BitVec.eq_of_getLsbD_eq
  intro i hi
  rw [BitVec.getLsbD_and]
  by_cases h : i = 0
  · subst h
    cases h0 : r.getLsbD 0 <;> simp [sel]
  · have : (1#32 : R).getLsbD i = false := by
      rw [BitVec.getLsbD_one]
      simp [h]
    cases h0 : r.getLsbD 0 <;> simp [sel, this]
theorem neg_sel (c : Bool) : -(sel c 1#32) &&& poly = sel c poly := by cases c <;> decide
def dk : Nat → R → R
  | 0, r => r
  | k + 1, r => down (dk k r)
theorem dk_xor (k : Nat) (a b : R) : dk k (a ^^^ b) = dk k a ^^^ dk k b := by
  induction k with
  | zero => rfl
  | succ k ih => simp only [dk, ih, down_xor]
theorem dk_add (m n : Nat) (r : R) : dk (m + n) r = dk m (dk n r) := by
  induction m with
  | zero => simp [dk]
  | succ m ih => rw [Nat.succ_add]; simp only [dk, ih]
theorem down_even (r : R) (h : r.getLsbD 0 = false) : down r = r >>> 1 := by
  unfold down
  rw [h]
  simp [sel]
/-! ### the sum of what a register's bits become -/
def sumB (g : Nat → R) (r : R) : Nat → R
  | 0 => 0#32
  | i + 1 => sumB g r i ^^^ sel (r.getLsbD i) (g i)
def e (i : Nat) : R := 1#32 <<< i
/-! ### the product of two rows -/
def one : R := 0x80000000#32
/-! ### four bits at a time -/
theorem nibble (r : R) : dk 4 r = (r >>> 4) ^^^ dk 4 (r &&& 15#32) := by
  have hsplit : r = (r &&& 0xfffffff0#32) ^^^ (r &&& 15#32) := by
    apply BitVec.eq_of_getLsbD_eq
    intro i hi
    rw [BitVec.getLsbD_xor, BitVec.getLsbD_and, BitVec.getLsbD_and]
    have : ∀ i, i < 32 → (0xfffffff0#32 : R).getLsbD i = !(15#32 : R).getLsbD i := by decide +kernel
    rw [this i hi]
    cases r.getLsbD i <;> cases (15#32 : R).getLsbD i <;> rfl
  have hev : dk 4 (r &&& 0xfffffff0#32) = r >>> 4 := by
    have h0 : (r &&& 0xfffffff0#32).getLsbD 0 = false := by rw [BitVec.getLsbD_and]; simp
    have h1 : ((r &&& 0xfffffff0#32) >>> 1).getLsbD 0 = false := by rw [BitVec.getLsbD_ushiftRight, BitVec.getLsbD_and]; simp
    have h2 : ((r &&& 0xfffffff0#32) >>> 1 >>> 1).getLsbD 0 = false := by rw [BitVec.getLsbD_ushiftRight, BitVec.getLsbD_ushiftRight, BitVec.getLsbD_and]; simp
    have h3 : ((r &&& 0xfffffff0#32) >>> 1 >>> 1 >>> 1).getLsbD 0 = false := by rw [BitVec.getLsbD_ushiftRight, BitVec.getLsbD_ushiftRight, BitVec.getLsbD_ushiftRight, BitVec.getLsbD_and]; simp
    simp only [dk]
    rw [down_even _ h0, down_even _ h1, down_even _ h2, down_even _ h3]
    apply BitVec.eq_of_getLsbD_eq
    intro i hi
    simp only [BitVec.getLsbD_ushiftRight, BitVec.getLsbD_and]
    by_cases h : 4 + i < 32
    · have : ∀ i, i < 32 → 4 ≤ i → (0xfffffff0#32 : R).getLsbD i = true := by decide +kernel
      rw [show 1 + (1 + (1 + (1 + i))) = 4 + i by omega, this (4 + i) h (by omega)]
      simp
    · rw [BitVec.getLsbD_of_ge r _ (by omega), BitVec.getLsbD_of_ge r _ (by omega)]
      simp
  conv => lhs; rw [hsplit]
  rw [dk_xor, hev]
/-- a byte goes in -/
def bstep (r : R) (x : Int) : R := dk 8 (r ^^^ BitVec.ofInt 32 x)
def moreB (s : R) (l : List Int) : R := ~~~ (l.foldl bstep (~~~ s))
end Go.Proofs.Ythnjkmjcacoajaa.CrcMath

/- Checksums of rows one behind the other, and put over each other: the plain law. -/
namespace Go.Proofs.Ythnjkmjcacoajaa.CrcMath
open Go Go.RowKit
set_option linter.unusedVariables false
set_option linter.unusedSimpArgs false

end Go.Proofs.Ythnjkmjcacoajaa.CrcMath
end

section
/- What the walked functions come to, in the words of the plain law of checksums. -/
namespace Go.Proofs.Ythnjkmjcacoajaa.CrcLink
open Go.RowKit Go.Proofs.YthnjkmjcacoajaaW.PrintWords Go.Proofs.Ythnjkmjcacoajaa.FrBase Go.Proofs.Ythnjkmjcacoajaa.Fr Go.Proofs.Ythnjkmjcacoajaa.CrcMath
open Go.Proofs.Ythnjkmjcacoajaa.BinMath (Bytes bytes_of_wf i64_of_wf)
set_option linter.unusedVariables false
set_option linter.unusedSimpArgs false

theorem dn_toI (r : R) : dn (toI r) = toI (down r) := by
  unfold dn
  have h1 : (1 : Int) = toI 1#32 := rfl
  have hp : (2197175160 : Int) = toI poly := rfl
  have h2 : toI r / (2 : Int) = toI (r >>> 1) := toI_shr r 1
  rw [h2, h1, bits_and, toI_neg, hp, bits_and, and_one, neg_sel, bits_xor]
  rfl
theorem dnk_toI (k : Nat) (r : R) : dnk k (toI r) = toI (dk k r) := by
  induction k with
  | zero => rfl
  | succ k ih => simp only [dnk, dk, ih, dn_toI]
/-! ### crc.More, crc.Of -/
theorem nib_toI (r : R) : nib (toI r) = toI (dk 4 r) := by
  unfold nib
  have h15 : (15 : Int) = toI 15#32 := rfl
  have h2 : toI r / (16 : Int) = toI (r >>> 4) := toI_shr r 4
  rw [h2, h15, bits_and, dnk_toI, bits_xor, ← nibble]
theorem byteStep_toI (r : R) (x : Int) (h0 : 0 ≤ x) (h1 : x < 256) : byteStep (toI r) x = toI (bstep r x) := by
  unfold byteStep bstep
  have hx : x % 4294967296 = toI (BitVec.ofInt 32 x) := by rw [toI_ofInt x h0 (by omega)]; omega
  rw [hx, bits_xor]
  simp only [nibs, nib_toI]
  rw [← dk_add]
theorem fold_toI (l : List Int) (h : Bytes l) (r : R) : l.foldl byteStep (toI r) = toI (l.foldl bstep r) := by
  induction l generalizing r with
  | nil => rfl
  | cons x l ih =>
    simp only [List.foldl_cons]
    rw [byteStep_toI r x (h x (by simp)).1 (h x (by simp)).2, ih (fun y hy => h y (by simp [hy]))]
theorem flip_toI (r : R) : flip32 (toI r) = toI (~~~ r) := by
  unfold flip32
  have hm : IntKind.u32.max = toI 0xffffffff#32 := by decide
  rw [hm, bits_xor]
  rfl
theorem more_eq (s : R) (l : List Int) (h : Bytes l) : crc_More.f (toI s) l = some (toI (moreB s l)) := by
  unfold crc_More.f moreB
  rw [flip_toI, fold_toI l h, flip_toI]
theorem of_eq (l : List Int) (h : Bytes l) : crc_Of.f l = some (toI (moreB 0#32 l)) := by
  have := more_eq 0#32 l h
  exact this

end Go.Proofs.Ythnjkmjcacoajaa.CrcLink

/- One bit of a row that is turned turns its sum. No condition but a row of bytes. -/
namespace Go.Proofs.Ythnjkmjcacoajaa.CrcFlip
open Go.RowKit Go.Proofs.YthnjkmjcacoajaaW.PrintWords Go.Proofs.Ythnjkmjcacoajaa.FrBase Go.Proofs.Ythnjkmjcacoajaa.Fr Go.Proofs.Ythnjkmjcacoajaa.CrcMath Go.Proofs.Ythnjkmjcacoajaa.CrcLink
set_option linter.unusedVariables false
set_option linter.unusedSimpArgs false

/-! ### one bit -/
end Go.Proofs.Ythnjkmjcacoajaa.CrcFlip
end

section
/- What chapter 4's walked functions come to, in the words of the plain laws of sums and wholes. -/
namespace Go.Proofs.Ythnjkmjcacoajaa.FrameLink
open Go Go.RowKit Go.Proofs.YthnjkmjcacoajaaW.PrintWords Go.Proofs.YthnjkmjcacoajaaW.PrintMore Go.Proofs.Ythnjkmjcacoajaa.FrBase Go.Proofs.Ythnjkmjcacoajaa.Fr Go.Proofs.Ythnjkmjcacoajaa.FrMid Go.Proofs.Ythnjkmjcacoajaa.BinMath Go.Proofs.Ythnjkmjcacoajaa.BinLink
open Go.Proofs.Ythnjkmjcacoajaa.CrcMath (toI toI_range moreB)
open Go.Proofs.Ythnjkmjcacoajaa.CrcLink (of_eq)
set_option linter.unusedVariables false
set_option linter.unusedSimpArgs false

/-- a row's sum -/
def sumB (l : List Int) : Int := toI (moreB 0#32 l)
theorem sum_eq {l : List Int} (h : Bytes l) : crc_Of.f l = some (sumB l) := of_eq l h
theorem four_len (s : Int) : (four s).length = 4 := rfl
theorem four_bytes (s : Int) : Bytes (four s) := by
  intro x hx
  simp only [four, List.mem_cons, List.not_mem_nil, or_false] at hx
  rcases hx with rfl | rfl | rfl | rfl <;> omega
theorem bytes_append {a b : List Int} (ha : Bytes a) (hb : Bytes b) : Bytes (a ++ b) := fun x hx => by
  rcases List.mem_append.1 hx with h | h
  · exact ha x h
  · exact hb x h
theorem W_bytes (v : Nat) (hv : v < 18446744073709551616) : Bytes (W v) := wrL_bytes v hv
/-- a payload's frame -/
def pk (l : List Int) : List Int := W l.length ++ l ++ four (sumB (W l.length ++ l))
theorem pk_len (l : List Int) : (pk l).length = (W l.length).length + l.length + 4 := by
  unfold pk
  rw [List.length_append, List.length_append, four_len]
theorem pk_bytes {l : List Int} (h : Bytes l) (hl : l.length ≤ 8192) : Bytes (pk l) := bytes_append (bytes_append (W_bytes _ (by omega)) h) (four_bytes _)
theorem pack_eq {l : List Int} (h : Bytes l) (hl : l.length ≤ 8192) : frame_Pack.f l = some (pk l, 0) := by
  have hw := W_le l.length
  unfold frame_Pack.f
  rw [if_neg (by omega), num_eq, numR_nat, if_neg (by omega), Option.bind_some, if_pos ⟨rfl, hw⟩, sum_eq (bytes_append (W_bytes _ (by omega)) h), Option.bind_some]
  rfl
theorem pack_big {l : List Int} (hl : ¬ l.length ≤ 8192) : frame_Pack.f l = some ([], 5) := by
  unfold frame_Pack.f
  rw [if_pos (by omega)]
/-! ### what is taken off -/
/-- a number that was read whole: how it stands -/
theorem num_ok {l : List Int} (h : Bytes l) (h0 : (readF numberF l).2.2 = 0) : ∃ v : Nat, (readF numberF l).1 = v ∧ W v ++ (readF numberF l).2.1 = l ∧ v ≤ 9007199254740991 := by
  have hv := takeR_lt h
  have e := read_take numberF h
  rw [numberF_eq _ hv] at e
  by_cases c : (takeR l).2.2 = 0
  · rw [if_neg (fun hc => hc c)] at e
    by_cases h1 : (takeR l).1 > 9007199254740991
    · rw [if_pos h1, if_pos (show ((0, 4) : Int × Int).2 ≠ 0 by decide)] at e
      rw [e] at h0
      exact absurd h0 (by decide)
    · rw [if_neg h1, if_neg (show ¬ ((((takeR l).1 : Int), 0) : Int × Int).2 ≠ 0 by simp)] at e
      rw [e]
      refine ⟨(takeR l).1, rfl, ?_, by omega⟩
      unfold takeR at c ⊢
      by_cases c0 : l.length = 0
      · rw [if_pos c0] at c
        exact absurd c (by decide)
      · rw [if_neg c0] at c ⊢
        by_cases c1 : l.length ≤ lead (rd l 0)
        · rw [if_pos c1] at c
          exact absurd c (by decide)
        · rw [if_neg c1] at c ⊢
          by_cases c2 : fol (vN l (lead (rd l 0)) (lead (rd l 0))) ≠ lead (rd l 0)
          · rw [if_pos c2] at c
            exact absurd c (by decide)
          · rw [if_neg c2]
            have c3 : fol (vN l (lead (rd l 0)) (lead (rd l 0))) = lead (rd l 0) := Decidable.not_not.mp c2
            have := again h (by omega) c3
            unfold W
            rw [c3]
            exact this
  · rw [if_pos c] at e
    rw [e] at h0
    exact absurd h0 c
/-- the first frame's payload, what stands behind it, what is told -/
def nextR (l : List Int) : List Int × List Int × Int :=
  if (readF numberF l).2.2 = 0 then
    if (readF numberF l).1 > 8192 then ([], [], 5)
    else if (readF numberF l).2.1.length < (readF numberF l).1.toNat + 4 then ([], [], 3)
    else if four (sumB (l.take (l.length - (readF numberF l).2.1.length + (readF numberF l).1.toNat))) = ((readF numberF l).2.1.drop (readF numberF l).1.toNat).take 4 then ((readF numberF l).2.1.take (readF numberF l).1.toNat, (readF numberF l).2.1.drop ((readF numberF l).1.toNat + 4), 0)
    else ([], [], 40)
  else ([], [], (readF numberF l).2.2)
theorem next_eq {l : List Int} (h : Bytes l) (hl : l.length < 140737488355328) : frame_Next.f l = some (nextR l) := by
  unfold frame_Next.f firstF nextR
  rw [takeNum_eq l hl, Option.bind_some]
  by_cases h0 : (readF numberF l).2.2 = 0
  · obtain ⟨v, ev, hw, hv⟩ := num_ok h h0
    have hlen := congrArg List.length hw
    rw [List.length_append, W_len] at hlen
    rw [if_pos h0, if_neg (fun hc => hc h0), ev, Int.toNat_natCast]
    generalize (readF numberF l).2.1 = r at *
    by_cases h1 : (v : Int) > 8192
    · rw [if_pos h1, if_pos h1, Option.bind_some, if_pos (by decide)]
    · rw [if_neg h1, if_neg h1, if_pos ⟨by omega, by omega, hl⟩]
      by_cases h2 : r.length < v + 4
      · rw [if_pos h2, if_pos (by omega), Option.bind_some, if_pos (by decide)]
      · rw [if_neg h2, if_neg (by omega), sum_eq (h.take _), Option.bind_some]
        have hfr : l.length - r.length = (W v).length := by rw [W_len]; omega
        have hd : l.drop (l.length - r.length) = r := by
          rw [hfr]
          conv => lhs; rw [← hw]
          exact List.drop_left
        have e1 : l.drop (l.length - r.length + v) = r.drop v := by rw [← List.drop_drop, hd]
        have e2 : l.drop (l.length - r.length + v + 4) = r.drop (v + 4) := by rw [Nat.add_assoc, ← List.drop_drop, hd]
        rw [e1]
        by_cases h3 : four (sumB (l.take (l.length - r.length + v))) = (r.drop v).take 4
        · rw [if_pos h3, if_pos h3, Option.bind_some, if_neg (by simp), if_pos (by refine ⟨?_, ?_, ?_, ?_, hl⟩ <;> simp only <;> omega)]
          simp only [Int.toNat_natCast]
          rw [e2, hd, Nat.add_sub_cancel_left]
        · rw [if_neg h3, if_neg h3, Option.bind_some, if_pos (by decide)]
  · rw [if_neg h0, if_pos h0, Option.bind_some, if_pos h0]
end Go.Proofs.Ythnjkmjcacoajaa.FrameLink
end

section
/- frame.All, walked. Condition: rows that append bears. -/
namespace Go.Proofs.Ythnjkmjcacoajaa.Fr
open Go.RowKit Go.Proofs.YthnjkmjcacoajaaW.PrintWords Go.Proofs.YthnjkmjcacoajaaW.PrintLast Go.Proofs.YthnjkmjcacoajaaW.PrintMore Go.Proofs.Ythnjkmjcacoajaa.FrBase Go.Proofs.Ythnjkmjcacoajaa.Arr Go.Proofs.Ythnjkmjcacoajaa.FrMid
set_option linter.unusedVariables false
set_option linter.unusedSimpArgs false

theorem infoRow : (Try.prog.info? 31).map (fun i => (i.zero, i.size, i.bytes)) = some (some (.slice none 0 0), 1, 24) := by kernel_rfl
/-- the payloads that are whole, what is left, what is told -/
def allF : Nat → List Int → List (List Int) → Option (List (List Int) × Int × Int)
  | 0, _, _ => none
  | k + 1, x, y => if x.length = 0 then some (y, 0, 0) else (firstF x).bind fun q =>
      if q.2.2.2 = 0 then (if 0 < q.1 ∧ q.1 ≤ q.2.1 ∧ q.2.2.1 = q.2.1 + 4 ∧ q.2.2.1 ≤ (x.length : Int) ∧ x.length < 140737488355328 ∧ y.length < 5864062014805 then allF k (x.drop q.2.2.1.toNat) (y ++ [(x.drop q.1.toNat).take (q.2.1.toNat - q.1.toNat)]) else none)
      else if q.2.2.2 = 3 then some (y, (x.length : Int), 0)
      else some ([], 0, q.2.2.2)
def frame_All.f (l0 : List Int) : Option (List (List Int) × Int × Int) := allF (l0.length + 1) l0 []
set_option maxHeartbeats 8000000 in
set_option maxRecDepth 100000 in
theorem frame_All.calls (A0 : Option Addr) (c0 : Nat) (l0 : List Int) (r1 : List (List Int)) (r2 r3 : Int) (w : World) (hr0 : Kd.C (Kd.int .u8) w A0 l0.length l0) (hc0 : l0.length ≤ c0) (h : frame_All.f l0 = some (r1, r2, r3)) :
    Calls Try.prog 59 #[.slice A0 l0.length c0] w fun e w' => ∃ v0_ : Value, e = .returned (.tuple #[v0_, .int .i64 r2, .int .i64 r3]) ∧ Kd.S (Kd.slice 5 (Kd.int .u8)) 31 w' w.heap.size (fun _ => True) v0_ r1 ∧ Below w.heap.size w w' := by
  have H : allF (l0.length + 1) l0 [] = some (r1, r2, r3) := h
  clear h
  generalize l0.length + 1 = k at H
  have H' := Aside0.mk H
  have HR0 := Aside0.mk (And.intro hr0 hc0)
  clear H hr0 hc0
  go_enter Try.func59, Try.ntmps59
  go_wp2
  go_step3
  go_wp2
  go_step3
  go_wp2
  go_loopg [0, 2] k (fun kq v0 v2 w' => ∃ (x : List Int) (y : List (List Int)) (A : Option Addr) (c : Nat), v0 = .slice A x.length c ∧ Aside0 (allF kq x y = some (r1, r2, r3)) ∧ Aside0 (kq ≤ k) ∧ Aside0 (Kd.C (Kd.int .u8) w A x.length x ∧ x.length ≤ c) ∧ Aside0 (Kd.S (Kd.slice 5 (Kd.int .u8)) 31 w' w.heap.size (fun _ => True) v2 y) ∧ Aside0 (Below w.heap.size w w'))
  case atStart => exact ⟨l0, [], A0, c0, rfl, H', ⟨Nat.le_refl _⟩, HR0, ⟨Kd.S_nil _ _ _ _ _⟩, ⟨Below.refl _ _⟩⟩
  case round =>
    clear H' HR0
    obtain ⟨x, y, A, c, rfl, HA, HK1, HC, HS, HB⟩ := hrel
    cases gk with
    | zero => exact absurd HA.out (by simp [allF])
    | succ k1 =>
      have H := HA.out
      clear HA
      unfold allF at H
      by_cases hx : x.length = 0
      · rw [if_pos hx] at H
        have d1 : decide (0 < (x.length : Int)) = false := decide_eq_false (by omega)
        have d2 : decide (0 < x.length) = false := decide_eq_false (by omega)
        have hx' := Aside0.mk hx
        clear hx
        simp only [Option.some.injEq, Prod.mk.injEq] at H
        obtain ⟨rfl, rfl, rfl⟩ := H
        go_wp2_with fail
        rw [Exit.noGoto_ret]
        go_ret3
        refine ⟨_, ?_, HS.out, HB.out⟩
        rw [hx'.out]
        rfl
      · rw [if_neg hx] at H
        have d1 : decide (0 < (x.length : Int)) = true := decide_eq_true (by omega)
        have d2 : decide (0 < x.length) = true := decide_eq_true (by omega)
        clear hx
        obtain ⟨⟨fa, fb, fc, er⟩, hf, H⟩ := Option.bind_eq_some_iff.mp H
        simp only at H
        have HF := Aside0.mk hf
        clear hf
        by_cases he : er = 0
        · subst he
          rw [if_pos rfl] at H
          by_cases hc : 0 < fa ∧ fa ≤ fb ∧ fc = fb + 4 ∧ fc ≤ (x.length : Int) ∧ x.length < 140737488355328 ∧ y.length < 5864062014805
          case neg => rw [if_neg hc] at H; cases H
          rw [if_pos hc] at H
          obtain ⟨h0, h1, h2, h3, h4, h5⟩ := hc
          obtain ⟨fr, rfl⟩ := Int.eq_ofNat_of_zero_le (show 0 ≤ fa by omega)
          obtain ⟨to_, rfl⟩ := Int.eq_ofNat_of_zero_le (show 0 ≤ fb by omega)
          obtain ⟨en_, rfl⟩ := Int.eq_ofNat_of_zero_le (show 0 ≤ fc by omega)
          simp only [Int.toNat_natCast] at H
          have H' := Aside0.mk H
          clear H
          obtain ⟨ad, rfl, _⟩ := Kd.at_int HC.out.1 0 (Int.le_refl 0) (by omega)
          obtain ⟨i0, hi0, _, hsz0, _⟩ := info_parts infoU8
          have hcc := HC.out.2
          have hcut1 := cut_mid (P := Try.prog) 31 5 .i64 .i64 Try.underlying31 hi0 1 hsz0 (some ad) x.length c (fr : Int) (to_ : Int) (by omega) (by omega) (by omega) hcc
          have hcut2 := cut_from (P := Try.prog) 31 5 .i64 Try.underlying31 hi0 1 hsz0 (some ad) x.length c (en_ : Int) (by omega) (by omega)
          rw [Int.toNat_natCast, Int.toNat_natCast, if_neg (show ¬ c = fr by omega), Nat.mul_one, Option.map_some] at hcut1
          rw [Int.toNat_natCast, Nat.mul_one, Option.map_some] at hcut2
          obtain ⟨A4, hA4⟩ : ∃ A4, A4 = some (ad.add fr) := ⟨_, rfl⟩
          obtain ⟨A5, hA5⟩ : ∃ A5, A5 = (if c = en_ then some ad else some (ad.add en_)) := ⟨_, rfl⟩
          rw [← hA4] at hcut1
          rw [← hA5] at hcut2
          have clone1 : ∀ W : World, Kd.C (Kd.int .u8) W (some ad) x.length x → Calls Try.prog 66 #[.slice A4 (to_ - fr) (c - fr)] W fun e w' => ∃ v0_ : Value, e = .returned (v0_) ∧ Kd.R (Kd.int .u8) 5 w' W.heap.size (fun _ => True) v0_ ((x.drop fr).take (to_ - fr)) ∧ Below W.heap.size W w' := fun W hC => by
            have hlt : ((x.drop fr).take (to_ - fr)).length = to_ - fr := by rw [List.length_take, List.length_drop]; omega
            have := bytes_Clone.calls (some (ad.add fr)) (c - fr) ((x.drop fr).take (to_ - fr)) _ W (C_take (C_drop hC fr) (to_ - fr)) (by rw [hlt]; omega) (by unfold bytes_Clone.f; rw [if_pos (by rw [hlt]; omega)])
            rw [hlt, ← hA4] at this
            exact this
          generalize (x.drop fr).take (to_ - fr) = p at *
          have HCL := Aside0.mk clone1
          have hlt5 : (x.drop en_).length = x.length - en_ := List.length_drop
          have hC5 : Kd.C (Kd.int .u8) w A5 (x.drop en_).length (x.drop en_) := by
            rw [hA5]
            by_cases hce : c = en_
            · rw [if_pos hce, List.drop_eq_nil_of_le (by omega)]
              exact C_empty _
            · rw [if_neg hce]
              exact C_drop HC.out.1 en_
          have HC5 := Aside0.mk (And.intro hC5 (show (x.drop en_).length ≤ c - en_ by rw [hlt5]; omega))
          have HLT5 := Aside0.mk hlt5
          have HY := Aside0.mk h5
          have hsl := Kd.S_lt HS.out
          clear hA4 hA5 h0 h1 h2 h3 h4 h5 hcc clone1 hC5 hlt5
          have HSL := Aside0.mk hsl
          clear hsl
          go_wp2_with fail
          refine (frame_first.calls (some ad) c x fr to_ en_ 0 _ (Kd.C_below HC.out.1 HB.out) HC.out.2 HF.out).mono ?_
          rintro e w1 ⟨rfl, hb1⟩
          have HB1 := Aside0.mk (below_then HB.out HB.out.size hb1)
          have hrow := HoldsRow.new w1 120 #[.int .i64 0, .int .i64 0, .int .i64 0]
          have hb2 := below_setRow (b := w1.heap.size) (below_alloc HB1.out (.cells #[.int .i64 0, .int .i64 0, .int .i64 0] 120)) (trio fr to_ en_) HB1.out.size
          have hrow2 := hrow.row (trio fr to_ en_)
          have hs2 : Kd.S (Kd.slice 5 (Kd.int .u8)) 31 ((w1.alloc (.cells #[.int .i64 0, .int .i64 0, .int .i64 0] 120)).setRow w1.heap.size (trio fr to_ en_)) w.heap.size (fun _ => True) u2 y := Kd.S_step (Kd.S_below HS.out hb1) (fun k _ hk => (setRow_other _ _ k _ (by omega)).trans (Go.heap_alloc_old w1 _ hk))
          have HROW := Aside0.mk hrow
          have hgw := HB1.out.size
          clear hb1 hrow
          obtain ⟨g, hg⟩ : ∃ g, g = w1.heap.size := ⟨_, rfl⟩
          obtain ⟨w2, hw2⟩ : ∃ w2 : World, w2 = (w1.alloc (.cells #[.int .i64 0, .int .i64 0, .int .i64 0] 120)).setRow w1.heap.size (trio fr to_ en_) := ⟨_, rfl⟩
          rw [← hw2, ← hg] at hrow2
          rw [← hw2] at hb2 hs2
          rw [← hg] at hgw
          have HB2 := Aside0.mk hb2
          have HS2 := Aside0.mk hs2
          have HROW2 := Aside0.mk hrow2
          have HGW := Aside0.mk hgw
          have K0 : w2.cell? ⟨g, 0, none⟩ = some (.int .i64 (fr : Nat)) := hrow2.cell rfl
          have K1 : w2.cell? ⟨g, 1, none⟩ = some (.int .i64 (to_ : Nat)) := hrow2.cell rfl
          clear hb2 hs2 hrow2 hgw
          go_wp2_with (first | (refine wpList_store_row rfl 120 _ _ rfl w1.heap.size (trio fr to_ en_) rfl rfl 120 #[.int .i64 0, .int .i64 0, .int .i64 0] HROW.out (by rw [trio_size]; kernel_rfl) rfl (trio_one _ _ _) ?_; rw [← hw2, ← hg]; clear hg hw2 HROW))
          refine (HCL.out w2 (Kd.C_below HC.out.1 HB2.out)).mono ?_
          rintro e w3 ⟨v3, rfl, h3, b3⟩
          obtain ⟨A3, c3, rfl⟩ := Kd.R_slice h3
          have HB3 := Aside0.mk (below_then HB2.out HB2.out.size b3)
          have HR3 := Aside0.mk h3
          have HS3 := Aside0.mk (Kd.S_old HS2.out b3)
          have HROW3 := Aside0.mk (HROW2.out.below b3 HROW2.out.lt)
          have HLT2 := Aside0.mk (Kd.S_lt HS2.out)
          have HSZ := Aside0.mk HB2.out.size
          have hne : some g ≠ u2.ownBlock := fun he => by
            obtain ⟨cells, hcl⟩ := Kd.S_typed HS2.out g he.symm
            have := hcl.symm.trans HROW2.out
            simp at this
          have HNE := Aside0.mk hne
          have HK1' := Aside0.mk (fun (k : Nat) (hk : some k = (Value.slice A3 p.length c3).ownBlock) => (And.intro trivial (fun he => absurd (HLT2.out k he.symm) (Nat.not_lt.mpr (Kd.R_base h3 k hk.symm))) : True ∧ some k ≠ u2.ownBlock))
          have HO1 := Aside0.mk (Kd.S_mono (ok' := fun k => True ∧ ¬ some k = (Value.slice A3 p.length c3).ownBlock) HS3.out (fun k hk => ⟨trivial, fun he => absurd hk.2 (Nat.not_lt.mpr (Kd.R_base h3 k he.symm))⟩))
          have HP1 := Aside0.mk (Kd.M_row (Kd.R_lower (Kd.R_tight rfl h3) HSZ.out))
          clear h3 b3 hne K0 K1 HB2 HB1 HS2 HROW2
          go_wp2_with (first | (at_builtin; refine Kd.S_append (Kd.slice 5 (Kd.int .u8)) (w0 := w) w.heap.size rfl (.tmp 19) (.tmp 29) 37 31 (.slice none 0 0) 24 rfl Try.underlying37 infoRow rfl (by decide) (by omega) u2 y p [.slice A3 p.length c3] (fun _ => True) (fun k => some k = (Value.slice A3 p.length c3).ownBlock) rfl rfl HP1.out HK1'.out (fun _ _ => trivial) HO1.out HB3.out HB3.out.size ?aL ?_; (case aL => have := HY.out; omega); intro v4 w4 ho hb hg hat; have HS4 := Aside0.mk ho; have HB4 := Aside0.mk hb; have HROW4 := Aside0.mk (show HoldsRow w4 g 120 (trio fr to_ en_) from blk_grown HROW3.out hg HNE.out); have K2 : w4.cell? ⟨g, 2, none⟩ = some (.int .i64 (en_ : Nat)) := HROW4.out.cell rfl; clear ho hb hg hat))
          go_roundg k1
          case measure => have := HK1.out; omega
          case rel => exact ⟨x.drop en_, y ++ [p], A5, c - en_, by rw [HLT5.out], H', ⟨by have := HK1.out; omega⟩, HC5, HS4, HB4⟩
        · rw [if_neg he] at H
          have b1 : (er == 0) = false := beq_eq_false_iff_ne.mpr he
          have b2 : (er != 0) = true := bne_iff_ne.mpr he
          by_cases he3 : er = 3
          · subst he3
            rw [if_pos rfl] at H
            simp only [Option.some.injEq, Prod.mk.injEq] at H
            obtain ⟨rfl, rfl, rfl⟩ := H
            clear he b1 b2
            go_wp2_with fail
            refine (frame_first.calls A c x fa fb fc 3 _ (Kd.C_below HC.out.1 HB.out) HC.out.2 HF.out).mono ?_
            rintro e w1 ⟨rfl, hb1⟩
            have HB1 := Aside0.mk (below_then HB.out HB.out.size hb1)
            have HS1 := Aside0.mk (Kd.S_below HS.out hb1)
            have HROW := Aside0.mk (HoldsRow.new w1 120 #[.int .i64 0, .int .i64 0, .int .i64 0])
            clear hb1
            go_wp2_with (first | (refine wpList_store_row rfl 120 _ _ rfl w1.heap.size (trio fa fb fc) rfl rfl 120 #[.int .i64 0, .int .i64 0, .int .i64 0] HROW.out (by rw [trio_size]; kernel_rfl) rfl (trio_one _ _ _) ?_))
            rw [Exit.noGoto_ret]
            go_ret3
            refine ⟨_, rfl, Kd.S_step HS1.out (fun k _ hk => (setRow_other _ _ k _ (by omega)).trans (Go.heap_alloc_old w1 _ hk)), below_setRow (b := w1.heap.size) (below_alloc HB1.out (.cells #[.int .i64 0, .int .i64 0, .int .i64 0] 120)) (trio fa fb fc) HB1.out.size⟩
          · rw [if_neg he3] at H
            have b3 : (er == 3) = false := beq_eq_false_iff_ne.mpr he3
            have b4 : (er != 3) = true := bne_iff_ne.mpr he3
            clear he he3
            simp only [Option.some.injEq, Prod.mk.injEq] at H
            obtain ⟨rfl, rfl, rfl⟩ := H
            go_wp2_with fail
            refine (frame_first.calls A c x fa fb fc _ _ (Kd.C_below HC.out.1 HB.out) HC.out.2 HF.out).mono ?_
            rintro e w1 ⟨rfl, hb1⟩
            have HB1 := Aside0.mk (below_then HB.out HB.out.size hb1)
            have HROW := Aside0.mk (HoldsRow.new w1 120 #[.int .i64 0, .int .i64 0, .int .i64 0])
            clear hb1
            go_wp2_with (first | (refine wpList_store_row rfl 120 _ _ rfl w1.heap.size (trio fa fb fc) rfl rfl 120 #[.int .i64 0, .int .i64 0, .int .i64 0] HROW.out (by rw [trio_size]; kernel_rfl) rfl (trio_one _ _ _) ?_))
            rw [Exit.noGoto_ret]
            go_ret3
            refine ⟨_, rfl, Kd.S_nil _ _ _ _ _, below_setRow (b := w1.heap.size) (below_alloc HB1.out (.cells #[.int .i64 0, .int .i64 0, .int .i64 0] 120)) (trio fa fb fc) HB1.out.size⟩
end Go.Proofs.Ythnjkmjcacoajaa.Fr
end
