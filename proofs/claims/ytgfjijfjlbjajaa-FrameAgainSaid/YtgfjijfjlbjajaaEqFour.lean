/- '==' of two arrays of four bytes. No condition. -/
import Derived.Test.YtgfjijfjlbjajaaFramePack
import Derived.ChangeKeysEq
namespace Go.Proofs.Ytgfjijfjlbjajaa.Ext
open Go.RowKit Go.Proofs.YtgfjijfjlbjajaaW.PrintWords Go.Proofs.YtgfjijfjlbjajaaW.PrintLast Go.Proofs.YtgfjijfjlbjajaaW.PrintMore Go.Proofs.Ytgfjijfjlbjajaa.Base Go.Proofs.Ytgfjijfjlbjajaa.Arr Go.Proofs.Ytgfjijfjlbjajaa.Mid
set_option linter.unusedVariables false
set_option linter.unusedSimpArgs false

theorem four_size (s : Int) : (rowK .u8 (four s)).size = 4 := rfl
theorem eq_four (w : World) (a0 a1 a2 a3 x0 x1 x2 x3 : Int) :
    (Op.equalIn 10000 45 (.agg #[.int .u8 a0, .int .u8 a1, .int .u8 a2, .int .u8 a3]) (.agg #[.int .u8 x0, .int .u8 x1, .int .u8 x2, .int .u8 x3])).run Try.prog w = .ok (decide ([a0, a1, a2, a3] = [x0, x1, x2, x3])) w := by
  obtain ⟨i0, hi0, _, hsz0, _⟩ := info_parts infoU8
  have hc : Try.prog.cellsOf 5 = 1 := by kernel_rfl
  have hp : ∀ (b0 b1 b2 b3 : Int) (W : World), (part 5 #[.int .u8 b0, .int .u8 b1, .int .u8 b2, .int .u8 b3] 0).run Try.prog W = .ok (.int .u8 b0) W ∧ (part 5 #[.int .u8 b0, .int .u8 b1, .int .u8 b2, .int .u8 b3] 1).run Try.prog W = .ok (.int .u8 b1) W ∧ (part 5 #[.int .u8 b0, .int .u8 b1, .int .u8 b2, .int .u8 b3] 2).run Try.prog W = .ok (.int .u8 b2) W ∧ (part 5 #[.int .u8 b0, .int .u8 b1, .int .u8 b2, .int .u8 b3] 3).run Try.prog W = .ok (.int .u8 b3) W := by
    intro b0 b1 b2 b3 W
    have hu := Try.underlying5
    refine ⟨?_, ?_, ?_, ?_⟩ <;> (go_simp; try rfl)
  rw [show (10000 : Nat) = 9999 + 1 from rfl, run_equalIn_array w 9999 _ _ Try.underlying45 hi0, hc]
  have he : ∀ (a x : Int) (W : World), (Op.equalIn 9999 5 (.int .u8 a) (.int .u8 x)).run Try.prog W = .ok (a == x) W := fun a x W => run_equalIn_int W 9998 5 .u8 .u8 a x Try.underlying5
  simp only [show List.range 4 = [0, 1, 2, 3] from rfl, Op.eqItems, Sem.run_bind, Nat.mul_one, (hp _ _ _ _ _).1, (hp _ _ _ _ _).2.1, (hp _ _ _ _ _).2.2.1, (hp _ _ _ _ _).2.2.2, he, Result.andThen_ok]
  by_cases h0 : a0 = x0
  case neg => rw [if_pos (by simp [h0])]; simp [h0]
  subst h0
  rw [if_neg (by simp)]
  simp only [Sem.run_bind, (hp _ _ _ _ _).1, (hp _ _ _ _ _).2.1, (hp _ _ _ _ _).2.2.1, (hp _ _ _ _ _).2.2.2, he, Result.andThen_ok]
  by_cases h1 : a1 = x1
  case neg => rw [if_pos (by simp [h1])]; simp [h1]
  subst h1
  rw [if_neg (by simp)]
  simp only [Sem.run_bind, (hp _ _ _ _ _).1, (hp _ _ _ _ _).2.1, (hp _ _ _ _ _).2.2.1, (hp _ _ _ _ _).2.2.2, he, Result.andThen_ok]
  by_cases h2 : a2 = x2
  case neg => rw [if_pos (by simp [h2])]; simp [h2]
  subst h2
  rw [if_neg (by simp)]
  simp only [Sem.run_bind, (hp _ _ _ _ _).1, (hp _ _ _ _ _).2.1, (hp _ _ _ _ _).2.2.1, (hp _ _ _ _ _).2.2.2, he, Result.andThen_ok]
  by_cases h3 : a3 = x3
  case neg => rw [if_pos (by simp [h3])]; simp [h3]
  subst h3
  rw [if_neg (by simp)]
  simp
end Go.Proofs.Ytgfjijfjlbjajaa.Ext
