/- crc.More comes to the fold of its bytes over the register, by halves. No condition. -/
import Derived.Test.YtgfjijfjlbjajaaExtTable
namespace Go.Proofs.Ytgfjijfjlbjajaa.Ext
open Go.RowKit Go.Proofs.YtgfjijfjlbjajaaW.PrintWords Go.Proofs.YtgfjijfjlbjajaaW.PrintLast Go.Proofs.YtgfjijfjlbjajaaW.PrintMore Go.Proofs.Ytgfjijfjlbjajaa.Base Go.Proofs.Ytgfjijfjlbjajaa.Arr
set_option linter.unusedVariables false
set_option linter.unusedSimpArgs false

/-- four bits go out of the register -/
def nib (r : Int) : Int := Go.bits .xor .u32 (r / 16) (dnk 4 (Go.bits .and .u32 r 15))
def nibs : Nat → Int → Int
  | 0, r => r
  | k + 1, r => nib (nibs k r)
/-- a byte goes into the register -/
def byteStep (r x : Int) : Int := nibs 2 (Go.bits .xor .u32 r (x % 4294967296))
def flip32 (r : Int) : Int := Go.bits .xor .u32 IntKind.u32.max r
theorem and15 (r : Int) : 0 ≤ Go.bits .and .u32 r 15 ∧ Go.bits .and .u32 r 15 < 16 := by
  have h : (BitVec.ofInt 32 r &&& BitVec.ofInt 32 15).toNat ≤ 15 := by
    rw [BitVec.toNat_and]
    exact Nat.and_le_right
  have e : Go.bits .and .u32 r 15 = IntKind.u32.wrap ((BitVec.ofInt 32 r &&& BitVec.ofInt 32 15).toNat : Int) := rfl
  rw [e]
  simp only [IntKind.wrap]
  generalize (BitVec.ofInt 32 r &&& BitVec.ofInt 32 15).toNat = n at h
  simp [IntKind.bits, IntKind.signed]
  omega
theorem more_snoc (l : List Int) (k : Nat) (h : k < l.length) (r : Int) : (l.take (k + 1)).foldl byteStep r = byteStep ((l.take k).foldl byteStep r) (rd l k) := by
  rw [List.take_succ_eq_append_getElem h, List.foldl_append]
  simp [rd, h]
def crc_More.f (a0 : Int) (l1 : List Int) : Option Int := some (flip32 (l1.foldl byteStep (flip32 a0)))

set_option maxHeartbeats 2000000 in
set_option maxRecDepth 100000 in
theorem crc_More.calls (a0 : Int) (A1 : Option Addr) (c1 : Nat) (l1 : List Int) (r : Int) (w : World) (hr1 : Kd.C (Kd.int .u8) w A1 l1.length l1) (hc1 : l1.length ≤ c1) (h : crc_More.f a0 l1 = some r) :
    Calls Try.prog 30 #[.int .u32 a0, .slice A1 l1.length c1] w fun e w' => e = .returned (.int .u32 r) ∧ Below w.heap.size w w' := by
  obtain rfl := Option.some.inj h
  clear h
  have HR1 := Aside0.mk hr1
  clear hr1
  go_enter Try.func30, Try.ntmps30
  have hs : IntKind.u32.signed = false := rfl
  go_wp2_with fail
  refine (crc_table.calls _).mono ?_
  rintro e w1 ⟨rfl, hb1⟩
  have hrow := HoldsRow.new w1 59 (tabR 0)
  rw [tabR_zero] at hrow
  go_wp2_with (first | (refine wpList_store_row rfl 59 _ _ rfl w1.heap.size (tabR 16) rfl rfl 59 _ hrow (by rw [tabR_size]; kernel_rfl) rfl (by decide +kernel) ?_))
  have hrow2 := hrow.row (tabR 16)
  have hb2 : Below w.heap.size w ((w1.alloc (.cells #[.int .u32 0, .int .u32 0, .int .u32 0, .int .u32 0, .int .u32 0, .int .u32 0, .int .u32 0, .int .u32 0, .int .u32 0, .int .u32 0, .int .u32 0, .int .u32 0, .int .u32 0, .int .u32 0, .int .u32 0, .int .u32 0] 59)).setRow w1.heap.size (tabR 16)) :=
    below_setRow (hb1.alloc hb1.size _) _ hb1.size
  obtain ⟨w2, hw2⟩ : ∃ w2 : World, w2 = (w1.alloc (.cells #[.int .u32 0, .int .u32 0, .int .u32 0, .int .u32 0, .int .u32 0, .int .u32 0, .int .u32 0, .int .u32 0, .int .u32 0, .int .u32 0, .int .u32 0, .int .u32 0, .int .u32 0, .int .u32 0, .int .u32 0, .int .u32 0] 59)).setRow w1.heap.size (tabR 16) := ⟨_, rfl⟩
  rw [← hw2] at hrow2 hb2 ⊢
  have HR2 := Aside0.mk (Kd.C_below HR1.out hb2)
  clear HR1 hrow hw2 hb1
  generalize w1.heap.size = b at *
  have HROW := Aside0.mk hrow2
  have hmax := Kd.C_max HR2.out
  clear hrow2
  go_loop [6, 14] (fun v i => ∃ k : Nat, k ≤ l1.length ∧ i = .int .i64 k ∧ v = .int .u32 ((l1.take k).foldl byteStep (flip32 a0))) (fun _ i => l1.length - (intOf i).toNat)
  case atStart => exact ⟨0, by omega, rfl, rfl⟩
  case round =>
    obtain ⟨k, hk, rfl, rfl⟩ := hrel
    by_cases hlt : k < l1.length
    · obtain ⟨ad, rfl, hc⟩ := Kd.at_int HR2.out k (by omega) (by omega)
      rw [Int.toNat_natCast] at hc
      have Hs := Aside0.mk (more_snoc l1 k hlt (flip32 a0))
      generalize (l1.take k).foldl byteStep (flip32 a0) = r at *
      have hd : decide ((k : Int) < (l1.length : Int)) = true := by simp; omega
      go_wp2_with fail
      go_loop [6, 22] (fun v i => ∃ m : Nat, m ≤ 2 ∧ i = .int .i64 m ∧ v = .int .u32 (nibs m (Go.bits .xor .u32 r (rd l1 k % 4294967296)))) (fun _ i => 2 - (intOf i).toNat)
      case atStart => exact ⟨0, by omega, rfl, rfl⟩
      case round =>
        obtain ⟨m, hm, rfl, rfl⟩ := hrel
        by_cases hlm : m < 2
        · have hdm : decide ((m : Int) < 2) = true := by simp; omega
          have hn : nibs (m + 1) (Go.bits .xor .u32 r (rd l1 k % 4294967296)) = nib (nibs m (Go.bits .xor .u32 r (rd l1 k % 4294967296))) := rfl
          have Hn := Aside0.mk hn
          clear hn
          generalize nibs m (Go.bits .xor .u32 r (rd l1 k % 4294967296)) = q at *
          obtain ⟨h0, h1⟩ := and15 q
          have hcell : w2.cell? ⟨b, (Go.bits .and .u32 q 15).toNat, none⟩ = some (.int .u32 (dnk 4 (Go.bits .and .u32 q 15))) := by
            have hg := HROW.out.cell (tabR_get 16 (Go.bits .and .u32 q 15).toNat (by omega))
            rw [hg]
            simp only [tabF]
            rw [if_pos (by omega), Int.toNat_of_nonneg h0]
          go_wp2_with fail
          exact ⟨⟨m + 1, by omega, by go_num, by rw [Hn.out]; rfl⟩, by simp [intOf]; omega⟩
        · obtain rfl : m = 2 := by omega
          have hdm : decide (((2 : Nat) : Int) < 2) = false := by simp
          go_wp2_with fail
          exact ⟨⟨k + 1, by omega, by go_num, by rw [Hs.out]; rfl⟩, by simp [intOf]; omega⟩
    · obtain rfl : k = l1.length := by omega
      have Ht := Aside0.mk (List.take_length (l := l1))
      generalize l1.take l1.length = l2 at *
      obtain ⟨rfl⟩ := Ht
      go_wp2_with fail
      go_ret
      exact ⟨rfl, hb2⟩
end Go.Proofs.Ytgfjijfjlbjajaa.Ext
