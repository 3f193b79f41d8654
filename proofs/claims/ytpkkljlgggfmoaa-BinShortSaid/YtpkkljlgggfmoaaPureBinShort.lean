/- A beginning of what was written, but the whole, is too short: for every int, text, and cut. No condition beyond the text's own. -/
import Derived.Test.YtpkkljlgggfmoaaLaws2
import Derived.Test.YtpkkljlgggfmoaaBinTextual
namespace Go.Proofs.Ytpkkljlgggfmoaa.Pure
open Go.RowKit Go.Proofs.Ytpkkljlgggfmoaa.Laws Go.Proofs.YtpkkljlgggfmoaaW.PrintWords Go.Proofs.YtpkkljlgggfmoaaW.PrintLast Go.Proofs.Ytpkkljlgggfmoaa.Base Go.Proofs.Ytpkkljlgggfmoaa.Ext Go.Proofs.Ytpkkljlgggfmoaa.Mid Go.Proofs.Ytpkkljlgggfmoaa.Tt Go.Proofs.Ytpkkljlgggfmoaa.BinMath Go.Proofs.Ytpkkljlgggfmoaa.BinLink
set_option linter.unusedVariables false
set_option linter.unusedSimpArgs false

theorem bring_lt (a : Int) (n : Nat) (hn : 0 < n) (hb : n ≤ 281474976710656) : ∃ m : Nat, m < n ∧ encoreref00_Bring.f a (n : Int) = some (m : Int) := by
  unfold encoreref00_Bring.f
  rw [if_neg (by omega), if_neg (by omega)]
  have h1 := Int.tmod_lt_of_pos a (show (0 : Int) < (n : Int) by omega)
  have h2 := Int.lt_tmod_of_pos a (show (0 : Int) < (n : Int) by omega)
  generalize Int.tmod a (n : Int) = q at *
  by_cases h : q < 0
  · rw [if_pos h]
    refine ⟨(q + n).toNat, by omega, ?_⟩
    congr 1
    unfold wrap64
    omega
  · rw [if_neg h]
    exact ⟨q.toNat, by omega, by congr 1; omega⟩
/-- a text's beginning -/
theorem text_short (s : ByteArray) (hs : s.size ≤ 140737488351232) (j : Nat) (hj : j < (W s.size ++ bytesOf s).length) : (textOff ((W s.size ++ bytesOf s).take j) (s.size : Int)).2.2 = 3 := by
  have hl := W_len s.size
  have hb := bytesOf_len s
  rw [List.length_append, hl, hb] at hj
  by_cases h : j ≤ fol s.size
  · have e : readF numberF ((W s.size ++ bytesOf s).take j) = (0, [], 3) := read_short numberF s.size (by omega) (bytesOf s) j h
    unfold textOff
    rw [e, if_neg (by decide)]
  · have e : (W s.size ++ bytesOf s).take j = wrL (fol s.size) s.size ++ (bytesOf s).take (j - (fol s.size + 1)) := by
      rw [List.take_append, hl, List.take_of_length_le (by omega)]
      rfl
    have := read_written numberF s.size (by omega) ((bytesOf s).take (j - (fol s.size + 1))) ((bytesOf_bytes s).take _) (by rw [numberF_eq _ (by omega), if_neg (by omega)])
    rw [numberF_eq _ (by omega), if_neg (by omega)] at this
    have hlt : ((bytesOf s).take (j - (fol s.size + 1))).length < s.size := by rw [List.length_take]; omega
    unfold textOff
    rw [e, this, if_pos rfl]
    show (if (s.size : Int) > (s.size : Int) then _ else if (s.size : Int) > (((bytesOf s).take (j - (fol s.size + 1))).length : Int) then (⟨#[]⟩, [], 3) else _ : ByteArray × List Int × Int).2.2 = 3
    rw [if_neg (by omega), if_pos (by omega)]
theorem BinShort : encorelaw02_BinShort.Pure := by
  intro a0 a1 a2 h0 hs _
  have h := i64_of_wf h0
  have hz := zig_lt a0 h
  have l1 := W_len (zig a0)
  have l2 := W_len a1.size
  have f1 := fol_le (zig a0)
  have f2 := fol_le a1.size
  have lb := bytesOf_len a1
  refine ⟨10, ?_⟩
  unfold encorelaw02_BinShort.f
  have et : textR a1 (a1.size : Int) = (W a1.size ++ bytesOf a1, 0) := by
    unfold textR
    rw [if_neg (by omega), if_neg (by omega)]
  have lt : (W a1.size ++ bytesOf a1).length = fol a1.size + 1 + a1.size := by rw [List.length_append, l2, lb]
  rw [int_eq _ h, Option.bind_some, text_eq _ _ hs, Option.bind_some, et, if_pos rfl, if_neg (by omega)]
  show encorelaw02_BinShort.j0 10 a1 a2 (W (zig a0)) (W a1.size ++ bytesOf a1) (((W a1.size ++ bytesOf a1).length : Int) == 0) = _
  rw [encorelaw02_BinShort.j0, if_neg (by simp; omega)]
  obtain ⟨m, hm, e1⟩ := bring_lt a2 (W (zig a0)).length (by omega) (by omega)
  obtain ⟨n, hn, e2⟩ := bring_lt a2 (W a1.size ++ bytesOf a1).length (by omega) (by omega)
  have hbw : Bytes ((W a1.size ++ bytesOf a1).take n) := by
    apply Bytes.take
    intro x hx
    rcases List.mem_append.1 hx with hx | hx
    · exact wrL_bytes _ (by omega) x hx
    · exact bytesOf_bytes a1 x hx
  rw [e1, Option.bind_some, if_pos (by omega), if_pos (by omega), Int.toNat_natCast, takeInt_eq _ (by rw [List.length_take]; omega), Option.bind_some, e2, Option.bind_some, if_pos (by omega), if_pos (by omega), Int.toNat_natCast, takeText_eq hbw (by rw [List.length_take]; omega), Option.bind_some]
  have r1 := read_short wholeF (zig a0) hz [] m (by omega)
  rw [List.append_nil] at r1
  have r1' : readF wholeF ((W (zig a0)).take m) = (0, [], 3) := r1
  rw [r1', if_pos rfl, text_short a1 hs n hn, if_pos rfl]
  rfl
end Go.Proofs.Ytpkkljlgggfmoaa.Pure
