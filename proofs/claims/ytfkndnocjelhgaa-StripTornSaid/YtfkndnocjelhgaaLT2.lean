-- PRINTED by print.py (a twelfth state) out of the translation. Not trusted: Lean checks it.
import Derived.Test.YtfkndnocjelhgaaLT0
import Derived.Test.YtfkndnocjelhgaaLT1
namespace Go.Proofs.Ytfkndnocjelhgaa.LT
open Go.RowKit Go.Proofs.YtfkndnocjelhgaaW.PrintWords Go.Proofs.YtfkndnocjelhgaaW.PrintLast Go.Proofs.YtfkndnocjelhgaaW.PrintMore Go.Proofs.Ytfkndnocjelhgaa.Base Go.Proofs.Ytfkndnocjelhgaa.Ext
attribute [local go_sem] max2_int min2_int max_two min_two max_three min_three max_four min_four   -- for this text's walks alone
set_option linter.unusedVariables false
set_option linter.unusedSimpArgs false

/-! ### encorelaw05_StripTorn: function 9 -/
mutual
def encorelaw05_StripTorn.j0 : Nat → Int → List (List Int) → Bool → Bool → Int → Int → Option (Bool)
  | 0, _, _, _, _, _, _ => none
  | k + 1, x1, x7, x8, x31, x143000, x143001 => if x31 = true then (some x8) else ((strip_Scan.f x7 5 3).bind fun bt151 => ((encoreref00_Bring.f x1 (x7.length : Int)).bind fun t155 => ((encoreref00_Bring.f x143000 65).bind fun t156 => (if 0 ≤ t155 then (if t155 < (x7.length : Int) then (if 0 ≤ t156 then (if t156 ≤ ((rd_L1 x7 t155).length : Int) then ((encoreref00_CopyBytes.f ((rd_L1 x7 t155).take (t156 : Int).toNat)).bind fun t163 => ((encorelaw05_old.f x143001 ((x1) % 256)).bind fun t166 => (if t156 ≤ (t166.length : Int) then ((some (t166.drop (t156 : Int).toNat : List Int)).bind fun y169 => (if t163.length + y169.length < 140737488355328 then ((some (x7.set (t155 : Int).toNat (t163 ++ y169) : List (List Int))).bind fun y177 => ((strip_Scan.f y177 5 3).bind fun bt178 => ((encoreref00_EqBytes.f k (rd_L1 y177 t155) (rd_L1 x7 t155)).bind fun t183 => (if t183 = true then (if bt178.2 = bt151.2 then (some ((bt178.1.length : Int) == (bt151.1.length : Int))) else (some false)) else (if bt178.2 = t155 then (encorelaw05_StripTorn.j1 k bt151.1 bt178.1 (decide ((bt178.1.length : Int) > (bt151.1.length : Int)))) else (encorelaw05_StripTorn.j1 k bt151.1 bt178.1 true)))))) else (none))) else (none)))) else (none)) else (none)) else (none)) else (none)))))
def encorelaw05_StripTorn.j1 : Nat → List (List Int) → List (List Int) → Bool → Option (Bool)
  | 0, _, _, _ => none
  | k + 1, x9, x14, x96 => if x96 = true then (some false) else (encorelaw05_StripTorn.l0 k x9 x14 0)
def encorelaw05_StripTorn.l0 : Nat → List (List Int) → List (List Int) → Int → Option (Bool)
  | 0, _, _, _ => none
  | k + 1, x9, x14, x16 => if x16 < (x14.length : Int) then (if 0 ≤ x16 then (if x16 < (x9.length : Int) then (if ((rd_L1 x14 x16).length : Int) > ((rd_L1 x9 x16).length : Int) then (some false) else (if 0 ≤ ((rd_L1 x14 x16).length : Int) then (if ((rd_L1 x14 x16).length : Int) ≤ ((rd_L1 x9 x16).length : Int) then ((encoreref00_EqBytes.f k (rd_L1 x14 x16) ((rd_L1 x9 x16).take (((rd_L1 x14 x16).length : Int) : Int).toNat)).bind fun t194 => (if t194 = true then (if (wrap64 (x16 + 1)) < (x14.length : Int) then (if ((rd_L1 x14 x16).length : Int) = ((rd_L1 x9 x16).length : Int) then (encorelaw05_StripTorn.l0 k x9 x14 (wrap64 (x16 + 1))) else (some false)) else (encorelaw05_StripTorn.l0 k x9 x14 (wrap64 (x16 + 1)))) else (some false))) else (none)) else (none))) else (none)) else (none)) else (some true)
end
def encorelaw05_StripTorn.f (k : Nat) (l0 : List (List Int)) (a1 : Int) (a2_0 : Int) (a2_1 : Int) : Option (Bool) := (encorelaw05_works.f).bind fun t143 => (if t143 = true then ((encorelaw05_rows.f k l0).bind fun t144 => ((encorelaw05_laid.f k 5 t144).bind fun bt147 => (if bt147.2 = true then (encorelaw05_StripTorn.j0 k a1 bt147.1 bt147.2 ((bt147.1.length : Int) == 0) a2_0 a2_1) else (encorelaw05_StripTorn.j0 k a1 bt147.1 bt147.2 true a2_0 a2_1)))) else (some false))
theorem encorelaw05_StripTorn.mono_l : ∀ k, (∀ y0 y1 y2 y3 y4 y5, LeO (encorelaw05_StripTorn.j0 k y0 y1 y2 y3 y4 y5) (encorelaw05_StripTorn.j0 (k + 1) y0 y1 y2 y3 y4 y5)) ∧ (∀ y0 y1 y2, LeO (encorelaw05_StripTorn.j1 k y0 y1 y2) (encorelaw05_StripTorn.j1 (k + 1) y0 y1 y2)) ∧ (∀ y0 y1 y2, LeO (encorelaw05_StripTorn.l0 k y0 y1 y2) (encorelaw05_StripTorn.l0 (k + 1) y0 y1 y2))
  | 0 => ⟨fun _ _ _ _ _ _ r h => by simp [encorelaw05_StripTorn.j0] at h, fun _ _ _ r h => by simp [encorelaw05_StripTorn.j1] at h, fun _ _ _ r h => by simp [encorelaw05_StripTorn.l0] at h⟩
  | k + 1 => by
    obtain ⟨ih0, ih1, ih2⟩ := encorelaw05_StripTorn.mono_l k
    refine ⟨?_, ?_, ?_⟩
    · intro y0 y1 y2 y3 y4 y5
      unfold encorelaw05_StripTorn.j0
      repeat' first
      | (with_reducible exact ih0 _ _ _ _ _ _)
      | (with_reducible exact ih1 _ _ _)
      | (with_reducible exact ih2 _ _ _)
      | (with_reducible exact encorelaw05_laid.mono _ _ _)
      | (with_reducible exact encorelaw05_rows.mono _ _)
      | (with_reducible exact encoreref00_EqBytes.mono _ _ _)
      | (with_reducible exact LeO.refl _)
      | (with_reducible exact LeO.none _)
      | (with_reducible refine LeO.ite ?_ ?_)
      | (with_reducible refine LeO.bind ?_ (fun _ => ?_))
      | exact ih0 _ _ _ _ _ _
      | exact ih1 _ _ _
      | exact ih2 _ _ _
      | exact encorelaw05_laid.mono _ _ _
      | exact encorelaw05_rows.mono _ _
      | exact encoreref00_EqBytes.mono _ _ _
      | exact LeO.none _
      | refine LeO.ite ?_ ?_
      | refine LeO.bind ?_ (fun _ => ?_)
    · intro y0 y1 y2
      unfold encorelaw05_StripTorn.j1
      repeat' first
      | (with_reducible exact ih0 _ _ _ _ _ _)
      | (with_reducible exact ih1 _ _ _)
      | (with_reducible exact ih2 _ _ _)
      | (with_reducible exact encorelaw05_laid.mono _ _ _)
      | (with_reducible exact encorelaw05_rows.mono _ _)
      | (with_reducible exact encoreref00_EqBytes.mono _ _ _)
      | (with_reducible exact LeO.refl _)
      | (with_reducible exact LeO.none _)
      | (with_reducible refine LeO.ite ?_ ?_)
      | (with_reducible refine LeO.bind ?_ (fun _ => ?_))
      | exact ih0 _ _ _ _ _ _
      | exact ih1 _ _ _
      | exact ih2 _ _ _
      | exact encorelaw05_laid.mono _ _ _
      | exact encorelaw05_rows.mono _ _
      | exact encoreref00_EqBytes.mono _ _ _
      | exact LeO.none _
      | refine LeO.ite ?_ ?_
      | refine LeO.bind ?_ (fun _ => ?_)
    · intro y0 y1 y2
      unfold encorelaw05_StripTorn.l0
      repeat' first
      | (with_reducible exact ih0 _ _ _ _ _ _)
      | (with_reducible exact ih1 _ _ _)
      | (with_reducible exact ih2 _ _ _)
      | (with_reducible exact encorelaw05_laid.mono _ _ _)
      | (with_reducible exact encorelaw05_rows.mono _ _)
      | (with_reducible exact encoreref00_EqBytes.mono _ _ _)
      | (with_reducible exact LeO.refl _)
      | (with_reducible exact LeO.none _)
      | (with_reducible refine LeO.ite ?_ ?_)
      | (with_reducible refine LeO.bind ?_ (fun _ => ?_))
      | exact ih0 _ _ _ _ _ _
      | exact ih1 _ _ _
      | exact ih2 _ _ _
      | exact encorelaw05_laid.mono _ _ _
      | exact encorelaw05_rows.mono _ _
      | exact encoreref00_EqBytes.mono _ _ _
      | exact LeO.none _
      | refine LeO.ite ?_ ?_
      | refine LeO.bind ?_ (fun _ => ?_)
theorem encorelaw05_StripTorn.mono : ∀ a0 a1 a2 a3 k, LeO (encorelaw05_StripTorn.f k a0 a1 a2 a3) (encorelaw05_StripTorn.f (k + 1) a0 a1 a2 a3) := by
  intro a0 a1 a2 a3 k
  obtain ⟨ih0, ih1, ih2⟩ := encorelaw05_StripTorn.mono_l k
  unfold encorelaw05_StripTorn.f
  repeat' first
      | (with_reducible exact ih0 _ _ _ _ _ _)
      | (with_reducible exact ih1 _ _ _)
      | (with_reducible exact ih2 _ _ _)
      | (with_reducible exact encorelaw05_laid.mono _ _ _)
      | (with_reducible exact encorelaw05_rows.mono _ _)
      | (with_reducible exact encoreref00_EqBytes.mono _ _ _)
      | (with_reducible exact LeO.refl _)
      | (with_reducible exact LeO.none _)
      | (with_reducible refine LeO.ite ?_ ?_)
      | (with_reducible refine LeO.bind ?_ (fun _ => ?_))
      | exact ih0 _ _ _ _ _ _
      | exact ih1 _ _ _
      | exact ih2 _ _ _
      | exact encorelaw05_laid.mono _ _ _
      | exact encorelaw05_rows.mono _ _
      | exact encoreref00_EqBytes.mono _ _ _
      | exact LeO.none _
      | refine LeO.ite ?_ ?_
      | refine LeO.bind ?_ (fun _ => ?_)
def encorelaw05_StripTorn.T7 : Bool × List (List Nat × List Nat) := (true, [([], []), ([], []), ([1], [1]), ([0, 2], [0, 2]), ([], []), ([4], [4]), ([5, 3], [5]), ([3, 6, 0, 1, 2, 3], [3]), ([6, 7, 0, 1, 2, 3, 4, 5, 6, 7], [6])])
def encorelaw05_StripTorn.B7 : List Nat := [0, 0, 2, 7, 0, 16, 63, 127, 255]
theorem encorelaw05_StripTorn.tab7 : rtab .any (opsOf Try.f9 7) = encorelaw05_StripTorn.T7 := by kernel_rfl
theorem encorelaw05_StripTorn.bits7 : waitsOk encorelaw05_StripTorn.T7.2 encorelaw05_StripTorn.B7 = true := by kernel_rfl
def encorelaw05_StripTorn.T9 : Bool × List (List Nat × List Nat) := (true, [([], []), ([], []), ([], []), ([], []), ([2, 3], [2, 3]), ([4], [4]), ([], []), ([6], [6]), ([], []), ([8], [8]), ([7, 9, 5], [7, 9]), ([], []), ([10, 11], [10, 11]), ([5, 12, 10], [5, 12]), ([0, 1, 0, 1, 2, 3, 4, 5, 6, 7, 8, 9, 10, 11, 12, 13], [0, 1]), ([14, 13, 13, 0, 1, 2, 3, 4, 5, 6, 7, 8, 9, 10, 11, 12, 13], [13, 14])])
def encorelaw05_StripTorn.B9 : List Nat := [0, 0, 0, 0, 12, 28, 0, 64, 0, 256, 1020, 0, 4092, 8188, 16383, 32767]
theorem encorelaw05_StripTorn.tab9 : rtab .any (opsOf Try.f9 9) = encorelaw05_StripTorn.T9 := by kernel_rfl
theorem encorelaw05_StripTorn.bits9 : waitsOk encorelaw05_StripTorn.T9.2 encorelaw05_StripTorn.B9 = true := by kernel_rfl
def encorelaw05_StripTorn.T18 : Bool × List (List Nat × List Nat) := (true, [([], []), ([], []), ([0, 1], [0, 1]), ([2], [2]), ([3], [3]), ([], []), ([], []), ([5, 6], [5, 6]), ([7], [7]), ([8], [8]), ([4, 9], [4, 9]), ([10], [10]), ([11], [11]), ([11], [11]), ([12, 13, 11], [11, 12, 13]), ([14, 11], [11, 14]), ([11], [11]), ([11], [11]), ([16, 17, 11], [11, 16, 17]), ([18, 11], [11, 18]), ([11], [11]), ([11], [11]), ([20, 21, 11], [11, 20, 21]), ([22, 11], [11, 22]), ([23, 11], [11, 23]), ([19, 24, 11], [11, 19, 24]), ([15, 25, 11, 11], [11, 15, 25]), ([26, 11], [11, 26]), ([11, 27], [11, 27]), ([28, 26], [28]), ([29], [29]), ([30, 29], [29, 30]), ([29], [29]), ([32, 29], [29, 32]), ([31, 33, 29], [29, 31, 33]), ([34, 29, 29], [29, 34]), ([35], [35]), ([35], [35]), ([36, 37, 35], [35, 36, 37]), ([38, 35], [35, 38]), ([39, 35], [35, 39]), ([35], [35]), ([35], [35]), ([41, 42, 35], [35, 41, 42]), ([43, 35], [35, 43]), ([44, 35], [35, 44]), ([40, 45, 35], [35, 40, 45]), ([35, 46, 29], [29, 35, 46]), ([29, 47], [29, 47])])
def encorelaw05_StripTorn.B18 : List Nat := [0, 0, 3, 7, 15, 0, 0, 96, 224, 480, 1023, 2047, 4095, 4095, 16383, 32767, 4095, 4095, 200703, 462847, 4095, 4095, 3149823, 7344127, 15732735, 33492991, 67108863, 134217727, 268435455, 536870911, 1073741823, 2147483647, 1073741823, 5368709119, 17179869183, 34359738367, 68719476735, 68719476735, 274877906943, 549755813887, 1099511627775, 68719476735, 68719476735, 6665789243391, 15461882265599, 33054068310015, 70368744177663, 140737488355327, 281474976710655]
theorem encorelaw05_StripTorn.tab18 : rtab .any (opsOf Try.f9 18) = encorelaw05_StripTorn.T18 := by kernel_rfl
theorem encorelaw05_StripTorn.bits18 : waitsOk encorelaw05_StripTorn.T18.2 encorelaw05_StripTorn.B18 = true := by kernel_rfl
abbrev b0_ : Array Bool := #[false, false, false, false, false, false, false, false, false]
abbrev b1_ : Array Bool := #[true, false, false, false, false, false, false, false, false]
abbrev b2_ : Array Bool := #[true, true, false, false, false, false, false, false, false]
abbrev b3_ : Array Bool := #[true, true, true, false, false, false, false, false, false]
abbrev b4_ : Array Bool := #[true, true, true, false, true, false, false, false, false]
abbrev b5_ : Array Bool := #[true, true, true, false, true, true, false, false, false]
abbrev b6_ : Array Bool := #[true, true, true, true, true, true, false, false, false]
abbrev b7_ : Array Bool := #[true, true, true, true, true, true, true, false, false]
abbrev b8_ : Array Bool := #[true, true, true, true, true, true, true, true, false]
abbrev b9_ : Array Bool := #[true, true, true, true, true, true, true, true, true]
abbrev b10_ : Array Bool := #[false, false, false, false, false, false, false, false, false, false, false, false, false, false, false, false]
abbrev b11_ : Array Bool := #[true, false, false, false, false, false, false, false, false, false, false, false, false, false, false, false]
abbrev b12_ : Array Bool := #[true, true, false, false, false, false, false, false, false, false, false, false, false, false, false, false]
abbrev b13_ : Array Bool := #[true, true, true, false, false, false, false, false, false, false, false, false, false, false, false, false]
abbrev b14_ : Array Bool := #[true, true, true, true, false, false, false, false, false, false, false, false, false, false, false, false]
abbrev b15_ : Array Bool := #[true, true, true, true, true, false, false, false, false, false, false, false, false, false, false, false]
abbrev b16_ : Array Bool := #[true, true, true, true, true, false, true, false, false, false, false, false, false, false, false, false]
abbrev b17_ : Array Bool := #[true, true, true, true, true, false, true, false, true, false, false, false, false, false, false, false]
abbrev b18_ : Array Bool := #[true, true, true, true, true, false, true, false, true, true, false, false, false, false, false, false]
abbrev b19_ : Array Bool := #[true, true, true, true, true, false, true, false, true, true, false, true, false, false, false, false]
abbrev b20_ : Array Bool := #[true, true, true, true, true, false, true, true, true, true, false, true, false, false, false, false]
abbrev b21_ : Array Bool := #[true, true, true, true, true, true, true, true, true, true, false, true, false, false, false, false]
abbrev b22_ : Array Bool := #[true, true, true, true, true, true, true, true, true, true, true, true, false, false, false, false]
abbrev b23_ : Array Bool := #[true, true, true, true, true, true, true, true, true, true, true, true, true, false, false, false]
abbrev b24_ : Array Bool := #[true, true, true, true, true, true, true, true, true, true, true, true, true, true, false, false]
abbrev b25_ : Array Bool := #[true, true, true, true, true, true, true, true, true, true, true, true, true, true, true, false]
abbrev b26_ : Array Bool := #[true, true, true, true, true, true, true, true, true, true, true, true, true, true, true, true]
abbrev b27_ : Array Bool := #[false, false, false, false, false, false, false, false, false, false, false, false, false, false, false, false, false, false, false, false, false, false, false, false, false, false, false, false, false, false, false, false, false, false, false, false, false, false, false, false, false, false, false, false, false, false, false, false, false]
abbrev b28_ : Array Bool := #[true, false, false, false, false, false, false, false, false, false, false, false, false, false, false, false, false, false, false, false, false, false, false, false, false, false, false, false, false, false, false, false, false, false, false, false, false, false, false, false, false, false, false, false, false, false, false, false, false]
abbrev b29_ : Array Bool := #[true, true, false, false, false, false, false, false, false, false, false, false, false, false, false, false, false, false, false, false, false, false, false, false, false, false, false, false, false, false, false, false, false, false, false, false, false, false, false, false, false, false, false, false, false, false, false, false, false]
abbrev b30_ : Array Bool := #[true, true, true, false, false, false, false, false, false, false, false, false, false, false, false, false, false, false, false, false, false, false, false, false, false, false, false, false, false, false, false, false, false, false, false, false, false, false, false, false, false, false, false, false, false, false, false, false, false]
abbrev b31_ : Array Bool := #[true, true, true, false, false, true, false, false, false, false, false, false, false, false, false, false, false, false, false, false, false, false, false, false, false, false, false, false, false, false, false, false, false, false, false, false, false, false, false, false, false, false, false, false, false, false, false, false, false]
abbrev b32_ : Array Bool := #[true, true, true, false, false, true, true, false, false, false, false, false, false, false, false, false, false, false, false, false, false, false, false, false, false, false, false, false, false, false, false, false, false, false, false, false, false, false, false, false, false, false, false, false, false, false, false, false, false]
abbrev b33_ : Array Bool := #[true, true, true, false, false, true, true, true, false, false, false, false, false, false, false, false, false, false, false, false, false, false, false, false, false, false, false, false, false, false, false, false, false, false, false, false, false, false, false, false, false, false, false, false, false, false, false, false, false]
abbrev b34_ : Array Bool := #[true, true, true, true, false, true, true, true, false, false, false, false, false, false, false, false, false, false, false, false, false, false, false, false, false, false, false, false, false, false, false, false, false, false, false, false, false, false, false, false, false, false, false, false, false, false, false, false, false]
abbrev b35_ : Array Bool := #[true, true, true, true, true, true, true, true, false, false, false, false, false, false, false, false, false, false, false, false, false, false, false, false, false, false, false, false, false, false, false, false, false, false, false, false, false, false, false, false, false, false, false, false, false, false, false, false, false]
abbrev b36_ : Array Bool := #[true, true, true, true, true, true, true, true, true, false, false, false, false, false, false, false, false, false, false, false, false, false, false, false, false, false, false, false, false, false, false, false, false, false, false, false, false, false, false, false, false, false, false, false, false, false, false, false, false]
abbrev b37_ : Array Bool := #[true, true, true, true, true, true, true, true, true, true, false, false, false, false, false, false, false, false, false, false, false, false, false, false, false, false, false, false, false, false, false, false, false, false, false, false, false, false, false, false, false, false, false, false, false, false, false, false, false]
abbrev b38_ : Array Bool := #[true, true, true, true, true, true, true, true, true, true, true, false, false, false, false, false, false, false, false, false, false, false, false, false, false, false, false, false, false, false, false, false, false, false, false, false, false, false, false, false, false, false, false, false, false, false, false, false, false]
abbrev b39_ : Array Bool := #[true, true, true, true, true, true, true, true, true, true, true, true, false, false, false, false, false, false, false, false, false, false, false, false, false, false, false, false, false, false, false, false, false, false, false, false, false, false, false, false, false, false, false, false, false, false, false, false, false]
abbrev b40_ : Array Bool := #[true, true, true, true, true, true, true, true, true, true, true, true, true, false, false, false, false, false, false, false, false, false, false, false, false, false, false, false, false, false, false, false, false, false, false, false, false, false, false, false, false, false, false, false, false, false, false, false, false]
abbrev b41_ : Array Bool := #[true, true, true, true, true, true, true, true, true, true, true, true, true, true, false, false, false, false, false, false, false, false, false, false, false, false, false, false, false, false, false, false, false, false, false, false, false, false, false, false, false, false, false, false, false, false, false, false, false]
abbrev b42_ : Array Bool := #[true, true, true, true, true, true, true, true, true, true, true, true, true, true, true, false, false, false, false, false, false, false, false, false, false, false, false, false, false, false, false, false, false, false, false, false, false, false, false, false, false, false, false, false, false, false, false, false, false]
abbrev b43_ : Array Bool := #[true, true, true, true, true, true, true, true, true, true, true, true, true, true, true, true, false, false, false, false, false, false, false, false, false, false, false, false, false, false, false, false, false, false, false, false, false, false, false, false, false, false, false, false, false, false, false, false, false]
abbrev b44_ : Array Bool := #[true, true, true, true, true, true, true, true, true, true, true, true, true, true, true, true, true, false, false, false, false, false, false, false, false, false, false, false, false, false, false, false, false, false, false, false, false, false, false, false, false, false, false, false, false, false, false, false, false]
abbrev b45_ : Array Bool := #[true, true, true, true, true, true, true, true, true, true, true, true, true, true, true, true, true, true, false, false, false, false, false, false, false, false, false, false, false, false, false, false, false, false, false, false, false, false, false, false, false, false, false, false, false, false, false, false, false]
abbrev b46_ : Array Bool := #[true, true, true, true, true, true, true, true, true, true, true, true, true, true, true, true, true, true, true, false, false, false, false, false, false, false, false, false, false, false, false, false, false, false, false, false, false, false, false, false, false, false, false, false, false, false, false, false, false]
abbrev b47_ : Array Bool := #[true, true, true, true, true, true, true, true, true, true, true, true, true, true, true, true, true, true, true, true, false, false, false, false, false, false, false, false, false, false, false, false, false, false, false, false, false, false, false, false, false, false, false, false, false, false, false, false, false]
abbrev b48_ : Array Bool := #[true, true, true, true, true, true, true, true, true, true, true, true, true, true, true, true, true, true, true, true, true, false, false, false, false, false, false, false, false, false, false, false, false, false, false, false, false, false, false, false, false, false, false, false, false, false, false, false, false]
abbrev b49_ : Array Bool := #[true, true, true, true, true, true, true, true, true, true, true, true, true, true, true, true, true, true, true, true, true, true, false, false, false, false, false, false, false, false, false, false, false, false, false, false, false, false, false, false, false, false, false, false, false, false, false, false, false]
abbrev b50_ : Array Bool := #[true, true, true, true, true, true, true, true, true, true, true, true, true, true, true, true, true, true, true, true, true, true, true, false, false, false, false, false, false, false, false, false, false, false, false, false, false, false, false, false, false, false, false, false, false, false, false, false, false]
abbrev b51_ : Array Bool := #[true, true, true, true, true, true, true, true, true, true, true, true, true, true, true, true, true, true, true, true, true, true, true, true, false, false, false, false, false, false, false, false, false, false, false, false, false, false, false, false, false, false, false, false, false, false, false, false, false]
abbrev b52_ : Array Bool := #[true, true, true, true, true, true, true, true, true, true, true, true, true, true, true, true, true, true, true, true, true, true, true, true, true, false, false, false, false, false, false, false, false, false, false, false, false, false, false, false, false, false, false, false, false, false, false, false, false]
abbrev b53_ : Array Bool := #[true, true, true, true, true, true, true, true, true, true, true, true, true, true, true, true, true, true, true, true, true, true, true, true, true, true, false, false, false, false, false, false, false, false, false, false, false, false, false, false, false, false, false, false, false, false, false, false, false]
abbrev b54_ : Array Bool := #[true, true, true, true, true, true, true, true, true, true, true, true, true, true, true, true, true, true, true, true, true, true, true, true, true, true, true, false, false, false, false, false, false, false, false, false, false, false, false, false, false, false, false, false, false, false, false, false, false]
abbrev b55_ : Array Bool := #[true, true, true, true, true, true, true, true, true, true, true, true, true, true, true, true, true, true, true, true, true, true, true, true, true, true, true, true, false, false, false, false, false, false, false, false, false, false, false, false, false, false, false, false, false, false, false, false, false]
abbrev b56_ : Array Bool := #[true, true, true, true, true, true, true, true, true, true, true, true, true, true, true, true, true, true, true, true, true, true, true, true, true, true, true, true, true, false, false, false, false, false, false, false, false, false, false, false, false, false, false, false, false, false, false, false, false]
abbrev b57_ : Array Bool := #[true, true, true, true, true, true, true, true, true, true, true, true, true, true, true, true, true, true, true, true, true, true, true, true, true, true, true, true, true, true, false, false, false, false, false, false, false, false, false, false, false, false, false, false, false, false, false, false, false]
abbrev b58_ : Array Bool := #[true, true, true, true, true, true, true, true, true, true, true, true, true, true, true, true, true, true, true, true, true, true, true, true, true, true, true, true, true, true, true, false, false, false, false, false, false, false, false, false, false, false, false, false, false, false, false, false, false]
abbrev b59_ : Array Bool := #[true, true, true, true, true, true, true, true, true, true, true, true, true, true, true, true, true, true, true, true, true, true, true, true, true, true, true, true, true, true, true, true, false, false, false, false, false, false, false, false, false, false, false, false, false, false, false, false, false]
abbrev b60_ : Array Bool := #[true, true, true, true, true, true, true, true, true, true, true, true, true, true, true, true, true, true, true, true, true, true, true, true, true, true, true, true, true, true, true, true, true, false, false, false, false, false, false, false, false, false, false, false, false, false, false, false, false]
abbrev b61_ : Array Bool := #[true, true, true, true, true, true, true, true, true, true, true, true, true, true, true, true, true, true, true, true, true, true, true, true, true, true, true, true, true, true, true, true, true, true, false, false, false, false, false, false, false, false, false, false, false, false, false, false, false]
abbrev b62_ : Array Bool := #[true, true, true, true, true, true, true, true, true, true, true, true, true, true, true, true, true, true, true, true, true, true, true, true, true, true, true, true, true, true, true, true, true, true, true, false, false, false, false, false, false, false, false, false, false, false, false, false, false]
abbrev b63_ : Array Bool := #[true, true, true, true, true, true, true, true, true, true, true, true, true, true, true, true, true, true, true, true, true, true, true, true, true, true, true, true, true, true, true, true, true, true, true, true, false, false, false, false, false, false, false, false, false, false, false, false, false]
abbrev b64_ : Array Bool := #[true, true, true, true, true, true, true, true, true, true, true, true, true, true, true, true, true, true, true, true, true, true, true, true, true, true, true, true, true, true, true, true, true, true, true, true, true, false, false, false, false, false, false, false, false, false, false, false, false]
abbrev b65_ : Array Bool := #[true, true, true, true, true, true, true, true, true, true, true, true, true, true, true, true, true, true, true, true, true, true, true, true, true, true, true, true, true, true, true, true, true, true, true, true, true, true, false, false, false, false, false, false, false, false, false, false, false]
abbrev b66_ : Array Bool := #[true, true, true, true, true, true, true, true, true, true, true, true, true, true, true, true, true, true, true, true, true, true, true, true, true, true, true, true, true, true, true, true, true, true, true, true, true, true, true, false, false, false, false, false, false, false, false, false, false]
abbrev b67_ : Array Bool := #[true, true, true, true, true, true, true, true, true, true, true, true, true, true, true, true, true, true, true, true, true, true, true, true, true, true, true, true, true, true, true, true, true, true, true, true, true, true, true, true, false, false, false, false, false, false, false, false, false]
abbrev b68_ : Array Bool := #[true, true, true, true, true, true, true, true, true, true, true, true, true, true, true, true, true, true, true, true, true, true, true, true, true, true, true, true, true, true, true, true, true, true, true, true, true, true, true, true, true, false, false, false, false, false, false, false, false]
abbrev b69_ : Array Bool := #[true, true, true, true, true, true, true, true, true, true, true, true, true, true, true, true, true, true, true, true, true, true, true, true, true, true, true, true, true, true, true, true, true, true, true, true, true, true, true, true, true, true, false, false, false, false, false, false, false]
abbrev b70_ : Array Bool := #[true, true, true, true, true, true, true, true, true, true, true, true, true, true, true, true, true, true, true, true, true, true, true, true, true, true, true, true, true, true, true, true, true, true, true, true, true, true, true, true, true, true, true, false, false, false, false, false, false]
abbrev b71_ : Array Bool := #[true, true, true, true, true, true, true, true, true, true, true, true, true, true, true, true, true, true, true, true, true, true, true, true, true, true, true, true, true, true, true, true, true, true, true, true, true, true, true, true, true, true, true, true, false, false, false, false, false]
abbrev b72_ : Array Bool := #[true, true, true, true, true, true, true, true, true, true, true, true, true, true, true, true, true, true, true, true, true, true, true, true, true, true, true, true, true, true, true, true, true, true, true, true, true, true, true, true, true, true, true, true, true, false, false, false, false]
abbrev b73_ : Array Bool := #[true, true, true, true, true, true, true, true, true, true, true, true, true, true, true, true, true, true, true, true, true, true, true, true, true, true, true, true, true, true, true, true, true, true, true, true, true, true, true, true, true, true, true, true, true, true, false, false, false]
abbrev b74_ : Array Bool := #[true, true, true, true, true, true, true, true, true, true, true, true, true, true, true, true, true, true, true, true, true, true, true, true, true, true, true, true, true, true, true, true, true, true, true, true, true, true, true, true, true, true, true, true, true, true, true, false, false]
abbrev b75_ : Array Bool := #[true, true, true, true, true, true, true, true, true, true, true, true, true, true, true, true, true, true, true, true, true, true, true, true, true, true, true, true, true, true, true, true, true, true, true, true, true, true, true, true, true, true, true, true, true, true, true, true, false]
abbrev b76_ : Array Bool := #[true, true, true, true, true, true, true, true, true, true, true, true, true, true, true, true, true, true, true, true, true, true, true, true, true, true, true, true, true, true, true, true, true, true, true, true, true, true, true, true, true, true, true, true, true, true, true, true, true]
abbrev b77_ : Array Bool := #[true, true, true, true, true, true, true, true, true, true, true, true, true, true, true, false, true, false, false, false, false, false, false, false, false, false, false, false, false, false, false, false, false, false, false, false, false, false, false, false, false, false, false, false, false, false, false, false, false]
abbrev b78_ : Array Bool := #[true, true, true, true, true, true, true, true, true, true, true, true, true, true, true, false, true, true, false, false, false, false, false, false, false, false, false, false, false, false, false, false, false, false, false, false, false, false, false, false, false, false, false, false, false, false, false, false, false]
abbrev b79_ : Array Bool := #[true, true, true, true, true, true, true, true, true, true, true, true, true, true, true, false, true, true, true, false, false, false, false, false, false, false, false, false, false, false, false, false, false, false, false, false, false, false, false, false, false, false, false, false, false, false, false, false, false]
abbrev b80_ : Array Bool := #[true, true, true, true, true, true, true, true, true, true, true, true, true, true, true, false, true, true, true, false, true, false, false, false, false, false, false, false, false, false, false, false, false, false, false, false, false, false, false, false, false, false, false, false, false, false, false, false, false]
abbrev b81_ : Array Bool := #[true, true, true, true, true, true, true, true, true, true, true, true, true, true, true, false, true, true, true, false, true, true, false, false, false, false, false, false, false, false, false, false, false, false, false, false, false, false, false, false, false, false, false, false, false, false, false, false, false]
abbrev b82_ : Array Bool := #[true, true, true, true, true, true, true, true, true, true, true, true, true, true, true, false, true, true, true, false, true, true, true, false, false, false, false, false, false, false, false, false, false, false, false, false, false, false, false, false, false, false, false, false, false, false, false, false, false]
abbrev b83_ : Array Bool := #[true, true, true, true, true, true, true, true, true, true, true, true, true, true, true, true, true, true, true, false, true, true, true, false, false, false, false, false, false, false, false, false, false, false, false, false, false, false, false, false, false, false, false, false, false, false, false, false, false]
abbrev b84_ : Array Bool := #[true, true, true, true, true, true, true, true, true, true, true, true, true, true, true, true, true, true, true, true, true, true, true, true, true, true, true, true, true, true, true, true, true, true, true, true, true, true, true, false, false, true, false, false, false, false, false, false, false]
abbrev b85_ : Array Bool := #[true, true, true, true, true, true, true, true, true, true, true, true, true, true, true, true, true, true, true, true, true, true, true, true, true, true, true, true, true, true, true, true, true, true, true, true, true, true, true, false, false, true, true, false, false, false, false, false, false]
abbrev b86_ : Array Bool := #[true, true, true, true, true, true, true, true, true, true, true, true, true, true, true, true, true, true, true, true, true, true, true, true, true, true, true, true, true, true, true, true, true, true, true, true, true, true, true, false, false, true, true, true, false, false, false, false, false]
abbrev b87_ : Array Bool := #[true, true, true, true, true, true, true, true, true, true, true, true, true, true, true, true, true, true, true, true, true, true, true, true, true, true, true, true, true, true, true, true, true, true, true, true, true, true, true, true, false, true, true, true, false, false, false, false, false]
theorem sets_ : (∀ (l : List Value) (i : Nat) (a : Value), l.toArray.setIfInBounds i a = (l.set i a).toArray) ∧ (∀ (a : Value) (l : List Value) (b : Value), (a :: l).set 0 b = b :: l) ∧ (∀ (a : Value) (l : List Value) (n : Nat) (b : Value), (a :: l).set (n + 1) b = a :: l.set n b) := ⟨fun _ _ _ => List.setIfInBounds_toArray .., fun _ _ _ => rfl, fun _ _ _ _ => rfl⟩
set_option maxHeartbeats 8000000 in
set_option maxRecDepth 100000 in
theorem encorelaw05_StripTorn.calls (k : Nat) (A0 : Option Addr) (c0 : Nat) (l0 : List (List Int)) (a1 : Int) (a2_0 : Int) (a2_1 : Int) (r : Bool) (w : World) (hr0 : Kd.C (Kd.slice 5 (Kd.int .u8)) w A0 l0.length l0) (hc0 : l0.length ≤ c0) (h : encorelaw05_StripTorn.f k l0 a1 a2_0 a2_1 = some r) :
    Calls Try.prog 9 #[.slice A0 l0.length c0, .int .i64 a1, .agg #[.int .i64 a2_0, .int .i64 a2_1]] w fun e w' => e = .returned (.bool r) ∧ Below w.heap.size w w' := by
  have hu62 := Try.underlying62
  have hu23 := Try.underlying23
  have HR0 := Aside0.mk hr0
  have HC0 := Aside0.mk hc0
  clear hr0 hc0
  have HB := Aside0.mk (Below.refl w.heap.size w)
  have H : ((encorelaw05_works.f).bind fun t143 => (if t143 = true then ((encorelaw05_rows.f k l0).bind fun t144 => ((encorelaw05_laid.f k 5 t144).bind fun bt147 => (if bt147.2 = true then (encorelaw05_StripTorn.j0 k a1 bt147.1 bt147.2 ((bt147.1.length : Int) == 0) a2_0 a2_1) else (encorelaw05_StripTorn.j0 k a1 bt147.1 bt147.2 true a2_0 a2_1)))) else (some false))) = some r := h
  clear h
  replace H := Option.bind_eq_some_iff.mp H
  obtain ⟨t143, A40, H⟩ := H
  replace H : (if t143 = true then ((encorelaw05_rows.f k l0).bind fun t144 => ((encorelaw05_laid.f k 5 t144).bind fun bt147 => (if bt147.2 = true then (encorelaw05_StripTorn.j0 k a1 bt147.1 bt147.2 ((bt147.1.length : Int) == 0) a2_0 a2_1) else (encorelaw05_StripTorn.j0 k a1 bt147.1 bt147.2 true a2_0 a2_1)))) else (some false)) = some r := H
  have A4 := Aside0.mk A40
  clear A40
  by_cases c5 : t143 = true
  rotate_left
  · replace c5 := Bool.eq_false_iff.mpr c5
    subst c5
    have H1 : (some false) = some r := by rw [if_neg (show ¬ (false = true) by decide)] at H; exact H
    clear H
    have H := H1
    clear H1
    obtain rfl := Option.some.inj H
    go_enter Try.func9, Try.ntmps9
    go_wp2_with (first | ((with_reducible refine gate_dst (N := 5) rfl ?_); (try (refine gate_guard (by rfl) ?_; dsimp only)); refine box_event ?hg (N := 5) ?hd (cs := #[.int .i64 a2_0, .int .i64 a2_1]) (t := 62) ?hr ?_; (case hd => rfl); (case hg => rfl); (case hr => first | (go_simp; done) | (go_simp; rfl)); intro gb142 hg w107 hbox hb; have n0_ := Aside0.mk (below_step (by repeat (first | (with_reducible first | exact HB.out | apply below_alloc | apply pw_below_drewN | apply below_drew1) | exact HB.out)) hb); have n1_ := Aside0.mk (hbox); have n2_ := Aside0.mk ((by rw [hg]; exact (below_size (by repeat (first | (with_reducible first | exact HB.out | apply below_alloc | apply pw_below_drewN | apply below_drew1) | exact HB.out))) : w.heap.size ≤ gb142)); have n3_ := Aside0.mk ((by rw [hg]; exact (below_size (by repeat (first | (with_reducible first | exact HB.out | apply below_alloc | apply pw_below_drewN | apply below_drew1) | exact HB.out))) : w.heap.size ≤ gb142)); clear HB; have HB := n0_; have BK142 := n1_; have GW142 := n2_; have GE142 := n3_; clear n0_ n1_ n2_ n3_; clear hb hbox hg) | ((with_reducible refine gate_callee (f := 20) rfl ?_); refine goesL_ (some 17) rfl rfl Try.func20 (by kernel_rfl) rfl #[] rfl (by (try simp only [List.map_toArray, List.map_cons, List.map_nil]); first | done | rfl | (simp only [List.length_drop, List.length_take]; rfl)) ?_; (with_reducible refine (encorelaw05_works.calls  false _ A4.out).mono ?_); rintro e w108 ⟨rfl, hb⟩; refine ⟨_, rfl, ?_⟩; have n0_ := Aside0.mk (blk_below (g := gb142) (o := .cells #[.int .i64 a2_0, .int .i64 a2_1] 62 (0, 0)) (by (with_reducible repeat (first | refine blk_drewN ?_ _ | refine blk_drew ?_ | refine blk_alloc ?_ _)); exact BK142.out) hb); have n1_ := Aside0.mk (below_step (by repeat (first | (with_reducible first | exact HB.out | apply below_alloc | apply pw_below_drewN | apply below_drew1 | refine below_set ?_ GE142.out) | exact HB.out)) hb); clear BK142; clear HB; have BK142 := n0_; have HB := n1_; clear n0_ n1_; (try clear hb); (try clear hb2); (try clear hk); (try clear hi)))
    go_ret
    exact ⟨by first | rfl | (simp [errW_none, errW_some] <;> rfl) | (simp [*, errW_none, errW_some] <;> rfl), by repeat (first | (with_reducible first | exact HB.out | apply below_alloc | apply pw_below_drewN | apply below_drew1 | refine below_set ?_ GE142.out) | exact HB.out)⟩

  subst c5
  have H1 : ((encorelaw05_rows.f k l0).bind fun t144 => ((encorelaw05_laid.f k 5 t144).bind fun bt147 => (if bt147.2 = true then (encorelaw05_StripTorn.j0 k a1 bt147.1 bt147.2 ((bt147.1.length : Int) == 0) a2_0 a2_1) else (encorelaw05_StripTorn.j0 k a1 bt147.1 bt147.2 true a2_0 a2_1)))) = some r := by rw [if_pos rfl] at H; exact H
  clear H
  have H := H1
  clear H1
  replace H := Option.bind_eq_some_iff.mp H
  obtain ⟨t144, A60, H⟩ := H
  replace H : ((encorelaw05_laid.f k 5 t144).bind fun bt147 => (if bt147.2 = true then (encorelaw05_StripTorn.j0 k a1 bt147.1 bt147.2 ((bt147.1.length : Int) == 0) a2_0 a2_1) else (encorelaw05_StripTorn.j0 k a1 bt147.1 bt147.2 true a2_0 a2_1))) = some r := H
  have A6 := Aside0.mk A60
  clear A60
  replace H := Option.bind_eq_some_iff.mp H
  obtain ⟨⟨t147, t150⟩, A70, H⟩ := H
  replace H : (if t150 = true then (encorelaw05_StripTorn.j0 k a1 t147 t150 ((t147.length : Int) == 0) a2_0 a2_1) else (encorelaw05_StripTorn.j0 k a1 t147 t150 true a2_0 a2_1)) = some r := H
  have A7 := Aside0.mk A70
  clear A70
  have HC8 := Aside0.mk H
  clear H
  go_enter Try.func9, Try.ntmps9
  go_upto_region 4 with (first | ((with_reducible refine gate_dst (N := 5) rfl ?_); (try (refine gate_guard (by rfl) ?_; dsimp only)); refine box_event ?hg (N := 5) ?hd (cs := #[.int .i64 a2_0, .int .i64 a2_1]) (t := 62) ?hr ?_; (case hd => rfl); (case hg => rfl); (case hr => first | (go_simp; done) | (go_simp; rfl)); intro gb142 hg w9 hbox hb; have n0_ := Aside0.mk (below_step (by repeat (first | (with_reducible first | exact HB.out | apply below_alloc | apply pw_below_drewN | apply below_drew1) | exact HB.out)) hb); have n1_ := Aside0.mk (hbox); have n2_ := Aside0.mk ((by rw [hg]; exact (below_size (by repeat (first | (with_reducible first | exact HB.out | apply below_alloc | apply pw_below_drewN | apply below_drew1) | exact HB.out))) : w.heap.size ≤ gb142)); have n3_ := Aside0.mk ((by rw [hg]; exact (below_size (by repeat (first | (with_reducible first | exact HB.out | apply below_alloc | apply pw_below_drewN | apply below_drew1) | exact HB.out))) : w.heap.size ≤ gb142)); clear HB; have HB := n0_; have BK142 := n1_; have GW142 := n2_; have GE142 := n3_; clear n0_ n1_ n2_ n3_; clear hb hbox hg) | ((with_reducible refine gate_callee (f := 20) rfl ?_); refine goesL_ (some 17) rfl rfl Try.func20 (by kernel_rfl) rfl #[] rfl (by (try simp only [List.map_toArray, List.map_cons, List.map_nil]); first | done | rfl | (simp only [List.length_drop, List.length_take]; rfl)) ?_; (with_reducible refine (encorelaw05_works.calls  true _ A4.out).mono ?_); rintro e w10 ⟨rfl, hb⟩; refine ⟨_, rfl, ?_⟩; have n0_ := Aside0.mk (blk_below (g := gb142) (o := .cells #[.int .i64 a2_0, .int .i64 a2_1] 62 (0, 0)) (by (with_reducible repeat (first | refine blk_drewN ?_ _ | refine blk_drew ?_ | refine blk_alloc ?_ _)); exact BK142.out) hb); have n1_ := Aside0.mk (below_step (by repeat (first | (with_reducible first | exact HB.out | apply below_alloc | apply pw_below_drewN | apply below_drew1 | refine below_set ?_ GE142.out) | exact HB.out)) hb); clear BK142; clear HB; have BK142 := n0_; have HB := n1_; clear n0_ n1_; (try clear hb); (try clear hb2); (try clear hk); (try clear hi)) | ((with_reducible refine gate_callee (f := 28) rfl ?_); refine goesL_ (some 21) rfl rfl Try.func28 (by kernel_rfl) rfl #[.slice A0 l0.length c0] rfl (by (try simp only [List.map_toArray, List.map_cons, List.map_nil]); first | done | rfl | (simp only [List.length_drop, List.length_take]; rfl)) ?_; (with_reducible refine (encorelaw05_rows.calls k (fun k_ => k_ < w.heap.size) _ _ l0 t144 _ ?side1 A6.out).mono ?_); (case side1 => exact Kd.V_mk HC0.out (Kd.F_below (Kd.C_F (Kd.heap_slice 5 (Kd.heap_int .u8)) HR0.out) (by repeat (first | (with_reducible first | exact HB.out | apply below_alloc | apply pw_below_drewN | apply below_drew1 | refine below_set ?_ GE142.out) | exact HB.out)))); rintro e w11 ⟨v145, rfl, ho0, hb⟩; refine ⟨_, rfl, ?_⟩; have n0_ := Aside0.mk (Kd.N_lower (Kd.N_mono (ok' := fun k_ => k_ ≠ gb142) ho0 (fun k_ hk_ => Or.elim hk_ (fun hs_ => fun e_ => Nat.not_le.2 hs_ (by rw [e_]; exact GW142.out)) (fun hn_ => (Kd.freshB (g := gb142) (o := .cells #[.int .i64 a2_0, .int .i64 a2_1] 62 (0, 0)) (by (with_reducible repeat (first | refine blk_drewN ?_ _ | refine blk_drew ?_ | refine blk_alloc ?_ _)); exact BK142.out) k_ hn_)))) (below_size (by repeat (first | (with_reducible first | exact HB.out | apply below_alloc | apply pw_below_drewN | apply below_drew1 | refine below_set ?_ GE142.out) | exact HB.out)))); have n1_ := Aside0.mk (blk_below (g := gb142) (o := .cells #[.int .i64 a2_0, .int .i64 a2_1] 62 (0, 0)) (by (with_reducible repeat (first | refine blk_drewN ?_ _ | refine blk_drew ?_ | refine blk_alloc ?_ _)); exact BK142.out) hb); have n2_ := Aside0.mk (below_step (by repeat (first | (with_reducible first | exact HB.out | apply below_alloc | apply pw_below_drewN | apply below_drew1 | refine below_set ?_ GE142.out) | exact HB.out)) hb); clear BK142; clear HB; have HO146 := n0_; have BK142 := n1_; have HB := n2_; clear n0_ n1_ n2_; (try clear hb); (try clear hb2); (try clear hk); (try clear hi); (try clear ho0); obtain ⟨Ao12, co12, eo12⟩ := Kd.N_slice HO146.out; subst eo12) | ((with_reducible refine gate_callee (f := 29) rfl ?_); refine goesL_ (some 22) rfl rfl Try.func29 (by kernel_rfl) rfl #[.int .i64 5, .slice Ao12 t144.length co12] rfl (by (try simp only [List.map_toArray, List.map_cons, List.map_nil]); first | done | rfl | (simp only [List.length_drop, List.length_take]; rfl)) ?_; (with_reducible refine (encorelaw05_laid.calls k 5 _ _ t144 t147 t150 _ ?side1 ?side2 A7.out).mono ?_); (case side1 => repeat (first | exact (Kd.N_reads' HO146.out).2.2 | (with_reducible refine Kd.C_alloc ?_ _) | (with_reducible refine Kd.C_drewN ?_ _) | (with_reducible refine Kd.C_drew ?_))); (case side2 => exact (Kd.N_reads' HO146.out).2.1); rintro e w13 ⟨v148, rfl, ho0, hb⟩; refine ⟨_, rfl, ?_⟩; have n0_ := Aside0.mk (Kd.N_elder' (by (with_reducible repeat (first | apply Kd.N_alloc | apply Kd.N_drewN | apply Kd.N_drew)); exact HO146.out) (Kd.N_base ho0) hb); have n1_ := Aside0.mk (Kd.N_lower (Kd.N_mono (ok' := fun k_ => some k_ ≠ (.slice Ao12 t144.length co12 : Value).ownBlock ∧ k_ ≠ gb142) ho0 (fun k_ hk_ => ⟨(Kd.fresh' (Kd.N_lt (by (with_reducible repeat (first | apply Kd.N_alloc | apply Kd.N_drewN | apply Kd.N_drew)); exact HO146.out)) k_ hk_), (Kd.freshB (g := gb142) (o := .cells #[.int .i64 a2_0, .int .i64 a2_1] 62 (0, 0)) (by (with_reducible repeat (first | refine blk_drewN ?_ _ | refine blk_drew ?_ | refine blk_alloc ?_ _)); exact BK142.out) k_ hk_)⟩)) (below_size (by repeat (first | (with_reducible first | exact HB.out | apply below_alloc | apply pw_below_drewN | apply below_drew1 | refine below_set ?_ GE142.out) | exact HB.out)))); have n2_ := Aside0.mk (blk_below (g := gb142) (o := .cells #[.int .i64 a2_0, .int .i64 a2_1] 62 (0, 0)) (by (with_reducible repeat (first | refine blk_drewN ?_ _ | refine blk_drew ?_ | refine blk_alloc ?_ _)); exact BK142.out) hb); have n3_ := Aside0.mk (below_step (by repeat (first | (with_reducible first | exact HB.out | apply below_alloc | apply pw_below_drewN | apply below_drew1 | refine below_set ?_ GE142.out) | exact HB.out)) hb); clear HO146; clear BK142; clear HB; have HO146 := n0_; have HO149 := n1_; have BK142 := n2_; have HB := n3_; clear n0_ n1_ n2_ n3_; (try clear hb); (try clear hb2); (try clear hk); (try clear hi); (try clear ho0)))
  (try simp only [Act.put, List.setIfInBounds_toArray, List.set_cons_zero, List.set_cons_succ])
  go_cut [31] (fun v31 wc => ∃ (kq : Nat) (x31_7 : Bool), v31 = .bool x31_7 ∧ Aside0 (encorelaw05_StripTorn.j0 kq a1 t147 t150 x31_7 a2_0 a2_1 = some r) ∧ Aside0 (kq ≤ k) ∧ Aside0 (Kd.N (Kd.slice 5 (Kd.int .u8)) 24 wc w.heap.size (fun k_ => k_ ≠ gb142) v148 t147) ∧ Aside0 (wc.heap[gb142]? = some (.cells #[.int .i64 a2_0, .int .i64 a2_1] 62 (0, 0))) ∧ Aside0 (Below w.heap.size w wc))
  case first =>
    have H := HC8.out
    clear HC8
    by_cases c14 : t150 = true
    rotate_left
    · replace c14 := Bool.eq_false_iff.mpr c14
      subst c14
      have H1 : (encorelaw05_StripTorn.j0 k a1 t147 false true a2_0 a2_1) = some r := by rw [if_neg (show ¬ (false = true) by decide)] at H; exact H
      clear H
      have H := H1
      clear H1
      have H' := Aside0.mk H
      clear H
      go_wp2
      go_meet
      case rel => exact ⟨_, (true), (by first | rfl | (simp; done) | (simp [*]; done)), H', ⟨by first | omega | exact Nat.le_refl _⟩, ⟨by (with_reducible repeat (first | apply Kd.N_alloc | apply Kd.N_drewN | apply Kd.N_drew)); exact Kd.N_mono HO149.out (fun _ hk => hk.2)⟩, ⟨by (with_reducible repeat (first | refine blk_drewN ?_ _ | refine blk_drew ?_ | refine blk_alloc ?_ _)); exact BK142.out⟩, ⟨by repeat (first | (with_reducible first | exact HB.out | apply below_alloc | apply pw_below_drewN | apply below_drew1 | refine below_set ?_ GE142.out) | exact HB.out)⟩⟩
    subst c14
    have H1 : (encorelaw05_StripTorn.j0 k a1 t147 true ((t147.length : Int) == 0) a2_0 a2_1) = some r := by rw [if_pos rfl] at H; exact H
    clear H
    have H := H1
    clear H1
    have H' := Aside0.mk H
    clear H
    obtain ⟨Ao15, co15, eo15⟩ := Kd.N_slice HO149.out
    subst eo15
    go_wp2
    go_meet
    case rel => exact ⟨_, (((t147.length : Int) == 0)), (by first | rfl | (simp; done) | (simp [*]; done)), H', ⟨by first | omega | exact Nat.le_refl _⟩, ⟨by (with_reducible repeat (first | apply Kd.N_alloc | apply Kd.N_drewN | apply Kd.N_drew)); exact Kd.N_mono HO149.out (fun _ hk => hk.2)⟩, ⟨by (with_reducible repeat (first | refine blk_drewN ?_ _ | refine blk_drew ?_ | refine blk_alloc ?_ _)); exact BK142.out⟩, ⟨by repeat (first | (with_reducible first | exact HB.out | apply below_alloc | apply pw_below_drewN | apply below_drew1 | refine below_set ?_ GE142.out) | exact HB.out)⟩⟩
  case rest =>
    clear HC8
    try clear c1
    try clear c2
    try clear p2
    try clear c5
    try clear c9
    try clear c14
    obtain ⟨kq, x31_7, rfl, HA, HJ7, HO_7, BK142, HB⟩ := hcut
    cases kq with
    | zero => exact absurd HA.out (by simp [encorelaw05_StripTorn.j0])
    | succ kj7 =>
      have H := HA.out
      clear HA
      simp only [encorelaw05_StripTorn.j0] at H
      by_cases c16 : x31_7 = true
      · subst c16
        have H1 : (some t150) = some r := by rw [if_pos rfl] at H; exact H
        clear H
        have H := H1
        clear H1
        obtain rfl := Option.some.inj H
        go_wp2
        go_ret
        exact ⟨by first | rfl | (simp [errW_none, errW_some] <;> rfl) | (simp [*, errW_none, errW_some] <;> rfl), by repeat (first | (with_reducible first | exact HB.out | apply below_alloc | apply pw_below_drewN | apply below_drew1 | refine below_set ?_ GE142.out) | exact HB.out)⟩
      replace c16 := Bool.eq_false_iff.mpr c16
      subst c16
      have H1 : ((strip_Scan.f t147 5 3).bind fun bt151 => ((encoreref00_Bring.f a1 (t147.length : Int)).bind fun t155 => ((encoreref00_Bring.f a2_0 65).bind fun t156 => (if 0 ≤ t155 then (if t155 < (t147.length : Int) then (if 0 ≤ t156 then (if t156 ≤ ((rd_L1 t147 t155).length : Int) then ((encoreref00_CopyBytes.f ((rd_L1 t147 t155).take (t156 : Int).toNat)).bind fun t163 => ((encorelaw05_old.f a2_1 ((a1) % 256)).bind fun t166 => (if t156 ≤ (t166.length : Int) then ((some (t166.drop (t156 : Int).toNat : List Int)).bind fun y169 => (if t163.length + y169.length < 140737488355328 then ((some (t147.set (t155 : Int).toNat (t163 ++ y169) : List (List Int))).bind fun y177 => ((strip_Scan.f y177 5 3).bind fun bt178 => ((encoreref00_EqBytes.f kj7 (rd_L1 y177 t155) (rd_L1 t147 t155)).bind fun t183 => (if t183 = true then (if bt178.2 = bt151.2 then (some ((bt178.1.length : Int) == (bt151.1.length : Int))) else (some false)) else (if bt178.2 = t155 then (encorelaw05_StripTorn.j1 kj7 bt151.1 bt178.1 (decide ((bt178.1.length : Int) > (bt151.1.length : Int)))) else (encorelaw05_StripTorn.j1 kj7 bt151.1 bt178.1 true)))))) else (none))) else (none)))) else (none)) else (none)) else (none)) else (none))))) = some r := by rw [if_neg (show ¬ (false = true) by decide)] at H; exact H
      clear H
      have H := H1
      clear H1
      replace H := Option.bind_eq_some_iff.mp H
      obtain ⟨⟨t151, t154⟩, A170, H⟩ := H
      replace H : ((encoreref00_Bring.f a1 (t147.length : Int)).bind fun t155 => ((encoreref00_Bring.f a2_0 65).bind fun t156 => (if 0 ≤ t155 then (if t155 < (t147.length : Int) then (if 0 ≤ t156 then (if t156 ≤ ((rd_L1 t147 t155).length : Int) then ((encoreref00_CopyBytes.f ((rd_L1 t147 t155).take (t156 : Int).toNat)).bind fun t163 => ((encorelaw05_old.f a2_1 ((a1) % 256)).bind fun t166 => (if t156 ≤ (t166.length : Int) then ((some (t166.drop (t156 : Int).toNat : List Int)).bind fun y169 => (if t163.length + y169.length < 140737488355328 then ((some (t147.set (t155 : Int).toNat (t163 ++ y169) : List (List Int))).bind fun y177 => ((strip_Scan.f y177 5 3).bind fun bt178 => ((encoreref00_EqBytes.f kj7 (rd_L1 y177 t155) (rd_L1 t147 t155)).bind fun t183 => (if t183 = true then (if bt178.2 = t154 then (some ((bt178.1.length : Int) == (t151.length : Int))) else (some false)) else (if bt178.2 = t155 then (encorelaw05_StripTorn.j1 kj7 t151 bt178.1 (decide ((bt178.1.length : Int) > (t151.length : Int)))) else (encorelaw05_StripTorn.j1 kj7 t151 bt178.1 true)))))) else (none))) else (none)))) else (none)) else (none)) else (none)) else (none)))) = some r := H
      have A17 := Aside0.mk A170
      clear A170
      replace H := Option.bind_eq_some_iff.mp H
      obtain ⟨t155, A180, H⟩ := H
      replace H : ((encoreref00_Bring.f a2_0 65).bind fun t156 => (if 0 ≤ t155 then (if t155 < (t147.length : Int) then (if 0 ≤ t156 then (if t156 ≤ ((rd_L1 t147 t155).length : Int) then ((encoreref00_CopyBytes.f ((rd_L1 t147 t155).take (t156 : Int).toNat)).bind fun t163 => ((encorelaw05_old.f a2_1 ((a1) % 256)).bind fun t166 => (if t156 ≤ (t166.length : Int) then ((some (t166.drop (t156 : Int).toNat : List Int)).bind fun y169 => (if t163.length + y169.length < 140737488355328 then ((some (t147.set (t155 : Int).toNat (t163 ++ y169) : List (List Int))).bind fun y177 => ((strip_Scan.f y177 5 3).bind fun bt178 => ((encoreref00_EqBytes.f kj7 (rd_L1 y177 t155) (rd_L1 t147 t155)).bind fun t183 => (if t183 = true then (if bt178.2 = t154 then (some ((bt178.1.length : Int) == (t151.length : Int))) else (some false)) else (if bt178.2 = t155 then (encorelaw05_StripTorn.j1 kj7 t151 bt178.1 (decide ((bt178.1.length : Int) > (t151.length : Int)))) else (encorelaw05_StripTorn.j1 kj7 t151 bt178.1 true)))))) else (none))) else (none)))) else (none)) else (none)) else (none)) else (none))) = some r := H
      have A18 := Aside0.mk A180
      clear A180
      replace H := Option.bind_eq_some_iff.mp H
      obtain ⟨t156, A190, H⟩ := H
      replace H : (if 0 ≤ t155 then (if t155 < (t147.length : Int) then (if 0 ≤ t156 then (if t156 ≤ ((rd_L1 t147 t155).length : Int) then ((encoreref00_CopyBytes.f ((rd_L1 t147 t155).take (t156 : Int).toNat)).bind fun t163 => ((encorelaw05_old.f a2_1 ((a1) % 256)).bind fun t166 => (if t156 ≤ (t166.length : Int) then ((some (t166.drop (t156 : Int).toNat : List Int)).bind fun y169 => (if t163.length + y169.length < 140737488355328 then ((some (t147.set (t155 : Int).toNat (t163 ++ y169) : List (List Int))).bind fun y177 => ((strip_Scan.f y177 5 3).bind fun bt178 => ((encoreref00_EqBytes.f kj7 (rd_L1 y177 t155) (rd_L1 t147 t155)).bind fun t183 => (if t183 = true then (if bt178.2 = t154 then (some ((bt178.1.length : Int) == (t151.length : Int))) else (some false)) else (if bt178.2 = t155 then (encorelaw05_StripTorn.j1 kj7 t151 bt178.1 (decide ((bt178.1.length : Int) > (t151.length : Int)))) else (encorelaw05_StripTorn.j1 kj7 t151 bt178.1 true)))))) else (none))) else (none)))) else (none)) else (none)) else (none)) else (none)) = some r := H
      have A19 := Aside0.mk A190
      clear A190
      by_cases c20 : 0 ≤ t155
      rotate_left
      · rw [if_neg c20] at H
        exact absurd H (by simp)
      rw [if_pos c20] at H
      have c20b0 : decide (0 ≤ t155) = true := decide_eq_true c20
      clear c20
      by_cases c21 : t155 < (t147.length : Int)
      rotate_left
      · rw [if_neg c21] at H
        exact absurd H (by simp)
      rw [if_pos c21] at H
      have c21b0 : decide (t155 < (t147.length : Int)) = true := decide_eq_true c21
      clear c21
      by_cases c22 : 0 ≤ t156
      rotate_left
      · rw [if_neg c22] at H
        exact absurd H (by simp)
      rw [if_pos c22] at H
      have c22b0 := eq_true c22
      have c22b1 : decide (0 ≤ t156) = true := decide_eq_true c22
      clear c22
      by_cases c23 : t156 ≤ ((rd_L1 t147 t155).length : Int)
      rotate_left
      · rw [if_neg c23] at H
        exact absurd H (by simp)
      rw [if_pos c23] at H
      have c23b0 := eq_true c23
      have c23b1 : decide (t156 ≤ ((rd_L1 t147 t155).length : Int)) = true := decide_eq_true c23
      clear c23
      obtain ⟨y158, hy158⟩ : ∃ y_ : List Int, y_ = ((rd_L1 t147 t155).take (t156 : Int).toNat) := ⟨_, rfl⟩
      replace H : ((encoreref00_CopyBytes.f y158).bind fun t163 => ((encorelaw05_old.f a2_1 ((a1) % 256)).bind fun t166 => (if t156 ≤ (t166.length : Int) then ((some (t166.drop (t156 : Int).toNat : List Int)).bind fun y169 => (if t163.length + y169.length < 140737488355328 then ((some (t147.set (t155 : Int).toNat (t163 ++ y169) : List (List Int))).bind fun y177 => ((strip_Scan.f y177 5 3).bind fun bt178 => ((encoreref00_EqBytes.f kj7 (rd_L1 y177 t155) (rd_L1 t147 t155)).bind fun t183 => (if t183 = true then (if bt178.2 = t154 then (some ((bt178.1.length : Int) == (t151.length : Int))) else (some false)) else (if bt178.2 = t155 then (encorelaw05_StripTorn.j1 kj7 t151 bt178.1 (decide ((bt178.1.length : Int) > (t151.length : Int)))) else (encorelaw05_StripTorn.j1 kj7 t151 bt178.1 true)))))) else (none))) else (none)))) = some r := by first | (rw [hy158]; with_reducible exact H) | (have H2_ := (Option.bind_some _ _).symm.trans H; rw [hy158]; with_reducible exact H2_) | (have H2_ := (Option.bind_some _ _).symm.trans H; with_reducible exact H2_) | with_reducible exact H | (rw [hy158]; exact H) | exact H
      have Ny158 := Aside0.mk hy158
      clear hy158
      replace H := Option.bind_eq_some_iff.mp H
      obtain ⟨t163, A240, H⟩ := H
      replace H : ((encorelaw05_old.f a2_1 ((a1) % 256)).bind fun t166 => (if t156 ≤ (t166.length : Int) then ((some (t166.drop (t156 : Int).toNat : List Int)).bind fun y169 => (if t163.length + y169.length < 140737488355328 then ((some (t147.set (t155 : Int).toNat (t163 ++ y169) : List (List Int))).bind fun y177 => ((strip_Scan.f y177 5 3).bind fun bt178 => ((encoreref00_EqBytes.f kj7 (rd_L1 y177 t155) (rd_L1 t147 t155)).bind fun t183 => (if t183 = true then (if bt178.2 = t154 then (some ((bt178.1.length : Int) == (t151.length : Int))) else (some false)) else (if bt178.2 = t155 then (encorelaw05_StripTorn.j1 kj7 t151 bt178.1 (decide ((bt178.1.length : Int) > (t151.length : Int)))) else (encorelaw05_StripTorn.j1 kj7 t151 bt178.1 true)))))) else (none))) else (none))) = some r := H
      have A24 := Aside0.mk A240
      clear A240
      replace H := Option.bind_eq_some_iff.mp H
      obtain ⟨t166, A250, H⟩ := H
      replace H : (if t156 ≤ (t166.length : Int) then ((some (t166.drop (t156 : Int).toNat : List Int)).bind fun y169 => (if t163.length + y169.length < 140737488355328 then ((some (t147.set (t155 : Int).toNat (t163 ++ y169) : List (List Int))).bind fun y177 => ((strip_Scan.f y177 5 3).bind fun bt178 => ((encoreref00_EqBytes.f kj7 (rd_L1 y177 t155) (rd_L1 t147 t155)).bind fun t183 => (if t183 = true then (if bt178.2 = t154 then (some ((bt178.1.length : Int) == (t151.length : Int))) else (some false)) else (if bt178.2 = t155 then (encorelaw05_StripTorn.j1 kj7 t151 bt178.1 (decide ((bt178.1.length : Int) > (t151.length : Int)))) else (encorelaw05_StripTorn.j1 kj7 t151 bt178.1 true)))))) else (none))) else (none)) = some r := H
      have A25 := Aside0.mk A250
      clear A250
      have c26b0 := eq_true (of_decide_eq_true (by first | (with_reducible assumption) | assumption) : 0 ≤ t156)
      by_cases c27 : t156 ≤ (t166.length : Int)
      rotate_left
      · rw [if_neg c27] at H
        exact absurd H (by simp)
      rw [if_pos c27] at H
      have c27b0 := eq_true c27
      have c27b1 : decide (t156 ≤ (t166.length : Int)) = true := decide_eq_true c27
      clear c27
      obtain ⟨y169, hy169⟩ : ∃ y_ : List Int, y_ = (t166.drop (t156 : Int).toNat) := ⟨_, rfl⟩
      replace H : (if t163.length + y169.length < 140737488355328 then ((some (t147.set (t155 : Int).toNat (t163 ++ y169) : List (List Int))).bind fun y177 => ((strip_Scan.f y177 5 3).bind fun bt178 => ((encoreref00_EqBytes.f kj7 (rd_L1 y177 t155) (rd_L1 t147 t155)).bind fun t183 => (if t183 = true then (if bt178.2 = t154 then (some ((bt178.1.length : Int) == (t151.length : Int))) else (some false)) else (if bt178.2 = t155 then (encorelaw05_StripTorn.j1 kj7 t151 bt178.1 (decide ((bt178.1.length : Int) > (t151.length : Int)))) else (encorelaw05_StripTorn.j1 kj7 t151 bt178.1 true)))))) else (none)) = some r := by first | (rw [hy169]; with_reducible exact H) | (have H2_ := (Option.bind_some _ _).symm.trans H; rw [hy169]; with_reducible exact H2_) | (have H2_ := (Option.bind_some _ _).symm.trans H; with_reducible exact H2_) | with_reducible exact H | (rw [hy169]; exact H) | exact H
      have Ny169 := Aside0.mk hy169
      clear hy169
      by_cases c28 : t163.length + y169.length < 140737488355328
      rotate_left
      · rw [if_neg c28] at H
        exact absurd H (by simp)
      rw [if_pos c28] at H
      have LMc28 := Aside0.mk c28
      clear c28
      obtain ⟨y174, hy174⟩ : ∃ y_ : List Int, y_ = (t163 ++ y169) := ⟨_, rfl⟩
      replace H : ((some (t147.set (t155 : Int).toNat y174 : List (List Int))).bind fun y177 => ((strip_Scan.f y177 5 3).bind fun bt178 => ((encoreref00_EqBytes.f kj7 (rd_L1 y177 t155) (rd_L1 t147 t155)).bind fun t183 => (if t183 = true then (if bt178.2 = t154 then (some ((bt178.1.length : Int) == (t151.length : Int))) else (some false)) else (if bt178.2 = t155 then (encorelaw05_StripTorn.j1 kj7 t151 bt178.1 (decide ((bt178.1.length : Int) > (t151.length : Int)))) else (encorelaw05_StripTorn.j1 kj7 t151 bt178.1 true)))))) = some r := by first | (rw [hy174]; with_reducible exact H) | (have H2_ := (Option.bind_some _ _).symm.trans H; rw [hy174]; with_reducible exact H2_) | (have H2_ := (Option.bind_some _ _).symm.trans H; with_reducible exact H2_) | with_reducible exact H | (rw [hy174]; exact H) | exact H
      have Ny174 := Aside0.mk hy174
      clear hy174
      obtain ⟨y177, hy177⟩ : ∃ y_ : List (List Int), y_ = (t147.set (t155 : Int).toNat y174) := ⟨_, rfl⟩
      replace H : ((strip_Scan.f y177 5 3).bind fun bt178 => ((encoreref00_EqBytes.f kj7 (rd_L1 y177 t155) (rd_L1 t147 t155)).bind fun t183 => (if t183 = true then (if bt178.2 = t154 then (some ((bt178.1.length : Int) == (t151.length : Int))) else (some false)) else (if bt178.2 = t155 then (encorelaw05_StripTorn.j1 kj7 t151 bt178.1 (decide ((bt178.1.length : Int) > (t151.length : Int)))) else (encorelaw05_StripTorn.j1 kj7 t151 bt178.1 true))))) = some r := by first | (rw [hy177]; with_reducible exact H) | (have H2_ := (Option.bind_some _ _).symm.trans H; rw [hy177]; with_reducible exact H2_) | (have H2_ := (Option.bind_some _ _).symm.trans H; with_reducible exact H2_) | with_reducible exact H | (rw [hy177]; exact H) | exact H
      have Ny177 := Aside0.mk hy177
      clear hy177
      replace H := Option.bind_eq_some_iff.mp H
      obtain ⟨⟨t178, t181⟩, A300, H⟩ := H
      replace H : ((encoreref00_EqBytes.f kj7 (rd_L1 y177 t155) (rd_L1 t147 t155)).bind fun t183 => (if t183 = true then (if t181 = t154 then (some ((t178.length : Int) == (t151.length : Int))) else (some false)) else (if t181 = t155 then (encorelaw05_StripTorn.j1 kj7 t151 t178 (decide ((t178.length : Int) > (t151.length : Int)))) else (encorelaw05_StripTorn.j1 kj7 t151 t178 true)))) = some r := H
      have A30 := Aside0.mk A300
      clear A300
      replace H := Option.bind_eq_some_iff.mp H
      obtain ⟨t183, A310, H⟩ := H
      replace H : (if t183 = true then (if t181 = t154 then (some ((t178.length : Int) == (t151.length : Int))) else (some false)) else (if t181 = t155 then (encorelaw05_StripTorn.j1 kj7 t151 t178 (decide ((t178.length : Int) > (t151.length : Int)))) else (encorelaw05_StripTorn.j1 kj7 t151 t178 true))) = some r := H
      have A31 := Aside0.mk A310
      clear A310
      by_cases c32 : t183 = true
      subst c32
      have H1 : (if t181 = t154 then (some ((t178.length : Int) == (t151.length : Int))) else (some false)) = some r := by rw [if_pos rfl] at H; exact H
      clear H
      have H := H1
      clear H1
      by_cases c33 : t181 = t154
      rw [if_pos c33] at H
      have c33b0 : (t181 == t154) = true := beq_iff_eq.mpr c33
      have c33b1 : (t181 != t154) = false := bne_eq_false_iff_eq.mpr c33
      clear c33
      obtain rfl := Option.some.inj H
      rotate_left
      rw [if_neg c33] at H
      have c33b0 : (t181 == t154) = false := beq_eq_false_iff_ne.mpr c33
      have c33b1 : (t181 != t154) = true := bne_iff_ne.mpr c33
      obtain rfl := Option.some.inj H
      rotate_left
      replace c32 := Bool.eq_false_iff.mpr c32
      subst c32
      have H1 : (if t181 = t155 then (encorelaw05_StripTorn.j1 kj7 t151 t178 (decide ((t178.length : Int) > (t151.length : Int)))) else (encorelaw05_StripTorn.j1 kj7 t151 t178 true)) = some r := by rw [if_neg (show ¬ (false = true) by decide)] at H; exact H
      clear H
      have H := H1
      clear H1
      have HC60 := Aside0.mk H
      clear H; rotate_left
      all_goals
        obtain ⟨Ao34, co34, eo34⟩ := Kd.N_slice HO_7.out
        subst eo34
        try go_wp2_with (first | ((with_reducible refine gate_callee (f := 26) rfl ?_); refine goesL_ (some 36) rfl rfl Try.func26 (by kernel_rfl) rfl #[.slice Ao34 t147.length co34, .agg #[.int .i64 5, .int .i64 3]] rfl (by (try simp only [List.map_toArray, List.map_cons, List.map_nil]); first | done | rfl | (simp only [List.length_drop, List.length_take]; rfl)) ?_; (with_reducible refine (strip_Scan.calls _ _ t147 5 3 t151 t154 _ ?side1 ?side2 A17.out).mono ?_); (case side1 => repeat (first | exact (Kd.N_reads' HO_7.out).2.2 | (with_reducible refine Kd.C_alloc ?_ _) | (with_reducible refine Kd.C_drewN ?_ _) | (with_reducible refine Kd.C_drew ?_))); (case side2 => exact (Kd.N_reads' HO_7.out).2.1); rintro e w35 ⟨v152, rfl, ho0, hb⟩; refine ⟨_, rfl, ?_⟩; have n0_ := Aside0.mk (Kd.N_elder' (by (with_reducible repeat (first | apply Kd.N_alloc | apply Kd.N_drewN | apply Kd.N_drew)); exact HO_7.out) (Kd.S_base ho0) hb); have n1_ := Aside0.mk (Kd.N_lower (Kd.N_mono (ok' := fun k_ => some k_ ≠ (.slice Ao34 t147.length co34 : Value).ownBlock ∧ k_ ≠ gb142) (Kd.S_N (Kd.S_bound ho0)) (fun k_ hk_ => ⟨(Kd.fresh' (Kd.N_lt (by (with_reducible repeat (first | apply Kd.N_alloc | apply Kd.N_drewN | apply Kd.N_drew)); exact HO_7.out)) k_ hk_.2.1), (Kd.freshB (g := gb142) (o := .cells #[.int .i64 a2_0, .int .i64 a2_1] 62 (0, 0)) (by (with_reducible repeat (first | refine blk_drewN ?_ _ | refine blk_drew ?_ | refine blk_alloc ?_ _)); exact BK142.out) k_ hk_.2.1)⟩)) (below_size (by repeat (first | (with_reducible first | exact HB.out | apply below_alloc | apply pw_below_drewN | apply below_drew1 | refine below_set ?_ GE142.out) | exact HB.out)))); have n2_ := Aside0.mk (blk_below (g := gb142) (o := .cells #[.int .i64 a2_0, .int .i64 a2_1] 62 (0, 0)) (by (with_reducible repeat (first | refine blk_drewN ?_ _ | refine blk_drew ?_ | refine blk_alloc ?_ _)); exact BK142.out) hb); have n3_ := Aside0.mk (below_step (by repeat (first | (with_reducible first | exact HB.out | apply below_alloc | apply pw_below_drewN | apply below_drew1 | refine below_set ?_ GE142.out) | exact HB.out)) hb); clear HO_7; clear BK142; clear HB; have HO_7 := n0_; have HO153 := n1_; have BK142 := n2_; have HB := n3_; clear n0_ n1_ n2_ n3_; (try clear hb); (try clear hb2); (try clear hk); (try clear hi); (try clear ho0)))
        have n0_ := Aside0.mk (Kd.N_drew HO_7.out)
        have n1_ := Aside0.mk (Kd.N_drew HO153.out)
        have n2_ := Aside0.mk (blk_drew BK142.out)
        have n3_ := Aside0.mk (below_drew1 HB.out)
        clear HO_7 HO153 BK142 HB; have HO_7 := n0_; have HO153 := n1_; have BK142 := n2_; have HB := n3_; clear n0_ n1_ n2_ n3_
        refine start_ (n := 9) (S := fun w' => w'.cell? ⟨gb142, 0, none⟩ = some (.int .i64 a2_0) ∧ w'.cell? ⟨gb142, 1, none⟩ = some (.int .i64 a2_1)) (ds := []) b0_ (by kernel_rfl) rfl rfl ⟨(blk_cell BK142.out 0).trans rfl, (blk_cell BK142.out 1).trans rfl⟩ (fun hHeld => ?_); refine with_tabW encorelaw05_StripTorn.tab7 encorelaw05_StripTorn.bits7 (fun HT_ HW_ => ?_)
        generalize w35.drew = w36 at HO_7 HO153 BK142 HB hHeld ⊢
        refine pure_ (i := 0) (N := some 39) (v := ?_) (a' := ?_) b1_ rfl rfl (any_of HT_.out (by kernel_rfl)) (fun _ _ _ h => h) (Or.inl ⟨by rfl, ?_⟩) ?_ ?_; rotate_left
        · intro w'; go_simp; with_reducible rfl
        rotate_left
        · simp only [Act.put, sets_, i64_w, i32_w]; rfl
        refine pure_ (i := 1) (N := some 40) (v := ?_) (a' := ?_) b2_ rfl rfl (any_of HT_.out (by kernel_rfl)) (fun _ _ _ h => h) (Or.inl ⟨by rfl, ?_⟩) ?_ ?_; rotate_left
        · intro w'; go_simp; with_reducible rfl
        rotate_left
        · simp only [Act.put, sets_, i64_w, i32_w]; rfl
        refine pure_ (i := 2) (N := some 41) (v := ?_) (a' := ?_) b3_ rfl rfl (any_of HT_.out (by kernel_rfl)) (fun _ _ _ h => h) (Or.inl ⟨by rfl, ?_⟩) ?_ ?_; rotate_left
        · intro w'; go_simp; with_reducible rfl
        rotate_left
        · simp only [Act.put, sets_, i64_w, i32_w]; rfl
        refine pure_ (i := 4) (N := some 43) (v := ?_) (a' := ?_) b4_ rfl rfl (any_of HT_.out (by kernel_rfl)) (fun _ _ _ h => h) (Or.inl ⟨by rfl, ?_⟩) ?_ ?_; rotate_left
        · intro w'; go_simp; with_reducible rfl
        rotate_left
        · simp only [Act.put, sets_, i64_w, i32_w]; rfl
        refine take_ (i := 5) (N := some 44) (v := ?_) (a' := ?_) b5_ rfl rfl (take_ofW HT_.out HW_.out (by kernel_rfl)) (fun _ _ _ h => h) (Or.inl ⟨by rfl, ?_⟩) hHeld ?_ ?_; rotate_left
        · rintro w' ⟨s0, s1⟩
          go_simp; with_reducible rfl
        rotate_left
        · simp only [Act.put, sets_, i64_w, i32_w]; rfl
        refine one_ (i := 3) (N := some 42) b6_ rfl rfl (one_of HT_.out (by kernel_rfl)) (by decide) (fun K hK => ?_)
        refine goes_ Try.func25 (by kernel_rfl) rfl #[.int .i64 a1, .int .i64 (t147.length : Int)] (by rfl) rfl rfl (by (try simp only [List.map_toArray, List.map_cons, List.map_nil]); first | done | rfl | (simp only [List.length_drop, List.length_take]; rfl)) ?_
        with_reducible refine (encoreref00_Bring.calls a1 (t147.length : Int) t155 _ A18.out).mono ?_
        rintro e w' ⟨rfl, ⟨nd, rfl⟩⟩
        refine ⟨_, rfl, ?_⟩
        refine hK.out _ _ ⟨(blk_cell BK142.out 0).trans rfl, (blk_cell BK142.out 1).trans rfl⟩ (fun hHeld => ?_)
        clear hK K
        refine norm_ (a' := ?_) ?_ ?_
        rotate_left
        · show Act.put _ (some 42) _ = _
          simp only [Act.put, sets_, i64_w, i32_w]; rfl
        refine one_ (i := 6) (N := some 45) b7_ rfl rfl (one_of HT_.out (by kernel_rfl)) (by decide) (fun K hK => ?_)
        refine goes_ Try.func25 (by kernel_rfl) rfl #[.int .i64 a2_0, .int .i64 65] (by rfl) rfl rfl (by (try simp only [List.map_toArray, List.map_cons, List.map_nil]); first | done | rfl | (simp only [List.length_drop, List.length_take]; rfl)) ?_
        with_reducible refine (encoreref00_Bring.calls a2_0 65 t156 _ A19.out).mono ?_
        rintro e w' ⟨rfl, ⟨nd, rfl⟩⟩
        refine ⟨_, rfl, ?_⟩
        refine hK.out _ _ ⟨(blk_cell BK142.out 0).trans rfl, (blk_cell BK142.out 1).trans rfl⟩ (fun hHeld => ?_)
        clear hK K
        refine norm_ (a' := ?_) ?_ ?_
        rotate_left
        · show Act.put _ (some 45) _ = _
          simp only [Act.put, sets_, i64_w, i32_w]; rfl
        refine pure_ (i := 7) (N := some 11) (v := ?_) (a' := ?_) b8_ rfl rfl (any_of HT_.out (by kernel_rfl)) (fun _ _ _ h => h) (Or.inl ⟨by rfl, ?_⟩) ?_ ?_; rotate_left
        · intro w'; go_simp; with_reducible rfl
        rotate_left
        · simp only [Act.put, sets_, i64_w, i32_w]; rfl
        refine pure_ (i := 8) (N := some 12) (v := ?_) (a' := ?_) b9_ rfl rfl (any_of HT_.out (by kernel_rfl)) (fun _ _ _ h => h) (Or.inl ⟨by rfl, ?_⟩) ?_ ?_; rotate_left
        · intro w'; go_simp; with_reducible rfl
        rotate_left
        · simp only [Act.put, sets_, i64_w, i32_w]; rfl
        refine done_ (done_of HT_.out (by kernel_rfl)) ?_
        have p157 : 0 ≤ (t155 : Int) := of_decide_eq_true (by first | (with_reducible assumption) | assumption)
        have q157 : t155 < (t147.length : Int) := of_decide_eq_true (by first | (with_reducible assumption) | assumption)
        obtain ⟨ad157, A157_0, c157_0, e157, hx157_0, hl157_0, hi157_0⟩ := at_L1 (Kd.N_reads' HO_7.out).2.2 t155 p157 q157
        cases e157
        obtain ⟨ce157, hce157, hMe157, hcc157⟩ := Kd.N_get HO_7.out [] t155 p157 (by first | exact q157 | exact of_decide_eq_true (by first | (with_reducible assumption) | assumption) | (have e_ := (Kd.N_reads' HO_7.out).1; omega))
        obtain ⟨ua157_0, uc157_0, rfl, ul157_0, ge157_0⟩ := Kd.FK_slice_open hMe157
        have hv157_0 := hcc157 0 _ rfl
        rw [Nat.add_zero, show ((Kd.slice 5 (Kd.int .u8))).sz = 1 from rfl, Nat.mul_one] at hv157_0
        replace hv157_0 := Option.some.inj (hv157_0.symm.trans hx157_0)
        injection hv157_0 with hva_ hvn_ hvc_
        rw [hva_] at ge157_0
        rw [hvc_] at ul157_0
        have HL157_0 := Aside0.mk (show Kd.V (Kd.int .u8) 5 _ w.heap.size _ _ (rd_L1 t147 t155) from Kd.V_mk ul157_0 ge157_0)
        clear hva_ hvn_ hvc_ ge157_0 ul157_0 hcc157 hce157
        have HR157_0 := Aside0.mk hi157_0
        have HC157_0 := Aside0.mk hl157_0
        clear hi157_0 hl157_0
        replace p157 := eq_true p157
        replace q157 := eq_true q157
        try go_wp2
        (try (rw [drewN_self w36]; generalize hq_ : World.drewN w36 _ = w36; have n0_ : Aside0 (Kd.V (Kd.int .u8) 5 w36 w.heap.size (fun k_ => some k_ ≠ (v152 : Value).ownBlock ∧ some k_ ≠ (.slice (some ad157) t147.length co34 : Value).ownBlock ∧ k_ ≠ gb142) (.slice A157_0 (rd_L1 t147 t155).length c157_0) (rd_L1 t147 t155)) := ⟨by rw [← hq_]; exact (by (with_reducible repeat (first | apply Kd.V_alloc | apply Kd.V_drewN | apply Kd.V_drew)); exact Kd.V_mono HL157_0.out (fun _ hk => ⟨hk.1.2, ⟨hk.2, hk.1.1⟩⟩))⟩; have n1_ : Aside0 (Kd.N (Kd.slice 5 (Kd.int .u8)) 24 w36 w.heap.size (fun k_ => some k_ ≠ (.slice (some ad157) t147.length co34 : Value).ownBlock ∧ k_ ≠ gb142) v152 t151) := ⟨by rw [← hq_]; exact (by (with_reducible repeat (first | apply Kd.N_alloc | apply Kd.N_drewN | apply Kd.N_drew)); exact HO153.out)⟩; have n2_ : Aside0 (Kd.N (Kd.slice 5 (Kd.int .u8)) 24 w36 w.heap.size (fun k_ => some k_ ≠ (v152 : Value).ownBlock ∧ k_ ≠ gb142) (.slice (some ad157) t147.length co34) t147) := ⟨by rw [← hq_]; exact (by (with_reducible repeat (first | apply Kd.N_alloc | apply Kd.N_drewN | apply Kd.N_drew)); exact Kd.N_mono HO_7.out (fun _ hk => ⟨hk.2, hk.1⟩))⟩; have n3_ : Aside0 (w36.heap[gb142]? = some (.cells #[.int .i64 a2_0, .int .i64 a2_1] 62 (0, 0))) := ⟨by rw [← hq_]; exact (by (with_reducible repeat (first | refine blk_drewN ?_ _ | refine blk_drew ?_ | refine blk_alloc ?_ _)); exact BK142.out)⟩; have n4_ : Aside0 (Below w.heap.size w w36) := ⟨by rw [← hq_]; exact (by repeat (first | (with_reducible first | exact HB.out | apply below_alloc | apply pw_below_drewN | apply below_drew1 | refine below_set ?_ GE142.out) | exact HB.out))⟩; have n5_ : Aside0 (Kd.C (Kd.int .u8) w36 A157_0 (rd_L1 t147 t155).length (rd_L1 t147 t155)) := ⟨by rw [← hq_]; exact (by repeat (first | (with_reducible exact HR157_0.out) | (with_reducible refine Kd.C_alloc ?_ _) | (with_reducible refine Kd.C_drewN ?_ _) | (with_reducible refine Kd.C_drew ?_) | exact HR157_0.out))⟩; clear HL157_0 HO153 HO_7 BK142 HB HR157_0 hq_; have HL157_0 := n0_; have HO153 := n1_; have HO_7 := n2_; have BK142 := n3_; have HB := n4_; have HR157_0 := n5_; clear n0_ n1_ n2_ n3_ n4_ n5_))
        have n0_ := Aside0.mk (Kd.N_drew HO_7.out)
        have n1_ := Aside0.mk (Kd.N_drew HO153.out)
        have n2_ := Aside0.mk (Kd.V_drew HL157_0.out)
        have n3_ := Aside0.mk (blk_drew BK142.out)
        have n4_ := Aside0.mk (Kd.C_drew HR157_0.out)
        have n5_ := Aside0.mk (below_drew1 HB.out)
        clear HO_7 HO153 HL157_0 BK142 HR157_0 HB; have HO_7 := n0_; have HO153 := n1_; have HL157_0 := n2_; have BK142 := n3_; have HR157_0 := n4_; have HB := n5_; clear n0_ n1_ n2_ n3_ n4_ n5_
        have q38 : (t156 : Int) ≤ (((rd_L1 t147 t155).length : Int) : Int) := of_decide_eq_true (by first | (with_reducible assumption) | assumption)
        obtain ⟨i038, hi038, _, hsz38, _⟩ := info_parts info5
        have hroom38 : (rd_L1 t147 t155).length ≤ c157_0 := HC157_0.out
        have hC38 : Kd.F (Kd.int .u8) _ _ A157_0 (rd_L1 t147 t155).length (rd_L1 t147 t155) := (Kd.V_at (base := w.heap.size) HL157_0.out).2.2
        have hcut38 := cut_to (P := Try.prog) 24 5 .i64 Try.underlying24 hi038 A157_0 (rd_L1 t147 t155).length c157_0 t156 (of_decide_eq_true (by first | (with_reducible assumption) | assumption)) q38 hroom38
        have hr38 := Kd.F_take (m := (t156 : Int).toNat) hC38 (by omega)
        have hy38 : y158.length = (t156 : Int).toNat := (by rw [Ny158.out, List.length_take]; omega)
        rw [← Ny158.out] at hr38
        rw [← hy38] at hcut38
        have HO162 := Aside0.mk (show Kd.V (Kd.int .u8) 5 _ w.heap.size _ (.slice A157_0 y158.length c157_0) y158 from Kd.V_mk (by omega) hr38)
        have HC162 := Aside0.mk (show y158.length ≤ c157_0 from by omega)
        clear hr38 hC38 hroom38 hi038 hsz38
        have KY38 := Aside0.mk hy38
        clear hy38
        replace q38 := eq_true q38
        refine start_ (n := 16) (S := fun w' => w'.cell? ⟨gb142, 0, none⟩ = some (.int .i64 a2_0) ∧ w'.cell? ⟨gb142, 1, none⟩ = some (.int .i64 a2_1)) (ds := [15]) b10_ (by kernel_rfl) rfl rfl ⟨(blk_cell BK142.out 0).trans rfl, (blk_cell BK142.out 1).trans rfl⟩ (fun hHeld => ?_); refine with_tabW encorelaw05_StripTorn.tab9 encorelaw05_StripTorn.bits9 (fun HT_ HW_ => ?_)
        generalize w36.drew = w37 at HO_7 HO153 HL157_0 BK142 HR157_0 HB HO162 hHeld ⊢
        refine pure_ (i := 0) (N := some 50) (v := ?_) (a' := ?_) b11_ rfl rfl (any_of HT_.out (by kernel_rfl)) (fun _ _ _ h => h) (Or.inl ⟨by rfl, ?_⟩) ?_ ?_; rotate_left
        · intro w'; go_simp; with_reducible rfl
        rotate_left
        · simp only [Act.put, sets_, i64_w, i32_w]; rfl
        refine pure_ (i := 1) (N := some 51) (v := ?_) (a' := ?_) b12_ rfl rfl (any_of HT_.out (by kernel_rfl)) (fun _ _ _ h => h) (Or.inl ⟨by rfl, ?_⟩) ?_ ?_; rotate_left
        · intro w'; go_simp; with_reducible rfl
        rotate_left
        · simp only [Act.put, sets_, i64_w, i32_w]; rfl
        refine pure_ (i := 2) (N := some 52) (v := ?_) (a' := ?_) b13_ rfl rfl (any_of HT_.out (by kernel_rfl)) (fun _ _ _ h => h) (Or.inl ⟨by rfl, ?_⟩) ?_ ?_; rotate_left
        · intro w'; go_simp; with_reducible rfl
        rotate_left
        · simp only [Act.put, sets_, i64_w, i32_w]; rfl
        refine pure_ (i := 3) (N := some 53) (v := ?_) (a' := ?_) b14_ rfl rfl (any_of HT_.out (by kernel_rfl)) (fun _ _ _ h => h) (Or.inl ⟨by rfl, ?_⟩) ?_ ?_; rotate_left
        · intro w'; go_simp; with_reducible rfl
        rotate_left
        · simp only [Act.put, sets_, i64_w, i32_w]; rfl
        refine pure_ (i := 4) (N := some 54) (v := ?_) (a' := ?_) b15_ rfl rfl (any_of HT_.out (by kernel_rfl)) (fun _ _ _ h => h) (Or.inl ⟨by rfl, ?_⟩) ?_ ?_; rotate_left
        · intro w'; go_simp; with_reducible rfl
        rotate_left
        · simp only [Act.put, sets_, i64_w, i32_w]; rfl
        refine pure_ (i := 6) (N := some 56) (v := ?_) (a' := ?_) b16_ rfl rfl (any_of HT_.out (by kernel_rfl)) (fun _ _ _ h => h) (Or.inl ⟨by rfl, ?_⟩) ?_ ?_; rotate_left
        · intro w'; go_simp; with_reducible rfl
        rotate_left
        · simp only [Act.put, sets_, i64_w, i32_w]; rfl
        refine pure_ (i := 8) (N := some 58) (v := ?_) (a' := ?_) b17_ rfl rfl (any_of HT_.out (by kernel_rfl)) (fun _ _ _ h => h) (Or.inl ⟨by rfl, ?_⟩) ?_ ?_; rotate_left
        · intro w'; go_simp; with_reducible rfl
        rotate_left
        · simp only [Act.put, sets_, i64_w, i32_w]; rfl
        refine pure_ (i := 9) (N := some 59) (v := ?_) (a' := ?_) b18_ rfl rfl (any_of HT_.out (by kernel_rfl)) (fun _ _ _ h => h) (Or.inl ⟨by rfl, ?_⟩) ?_ ?_; rotate_left
        · intro w'; go_simp; with_reducible rfl
        rotate_left
        · simp only [Act.put, sets_, i64_w, i32_w]; rfl
        refine pure_ (i := 11) (N := some 61) (v := ?_) (a' := ?_) b19_ rfl rfl (any_of HT_.out (by kernel_rfl)) (fun _ _ _ h => h) (Or.inl ⟨by rfl, ?_⟩) ?_ ?_; rotate_left
        · intro w'; go_simp; with_reducible rfl
        rotate_left
        · simp only [Act.put, sets_, i64_w, i32_w]; rfl
        refine take_ (i := 7) (N := some 57) (v := ?_) (a' := ?_) b20_ rfl rfl (take_ofW HT_.out HW_.out (by kernel_rfl)) (fun _ _ _ h => h) (Or.inl ⟨by rfl, ?_⟩) hHeld ?_ ?_; rotate_left
        · rintro w' ⟨s0, s1⟩
          go_simp; with_reducible rfl
        rotate_left
        · simp only [Act.put, sets_, i64_w, i32_w]; rfl
        refine one_ (i := 5) (N := some 55) b21_ rfl rfl (one_of HT_.out (by kernel_rfl)) (by decide) (fun K hK => ?_)
        refine goes_ Try.func11 (by kernel_rfl) rfl #[.slice A157_0 y158.length c157_0] (by rfl) rfl rfl (by (try simp only [List.map_toArray, List.map_cons, List.map_nil]); first | done | rfl | (simp only [List.length_drop, List.length_take]; rfl)) ?_
        with_reducible refine (encoreref00_CopyBytes.calls _ _ y158 t163 _ ?side1 ?side2 A24.out).mono ?_
        (case side1 => repeat (first | exact (Kd.V_reads' HO162.out).2.2 | (with_reducible refine Kd.C_alloc ?_ _) | (with_reducible refine Kd.C_drewN ?_ _) | (with_reducible refine Kd.C_drew ?_)))
        (case side2 => exact (Kd.V_reads' HO162.out).2.1)
        rintro e w39 ⟨v164, rfl, ho0, hb⟩
        refine ⟨_, rfl, ?_⟩
        have n0_ := Aside0.mk (Kd.N_elder' (by (with_reducible repeat (first | apply Kd.N_alloc | apply Kd.N_drewN | apply Kd.N_drew)); exact HO_7.out) (Kd.R_base ho0) hb)
        have n1_ := Aside0.mk (Kd.N_elder' (by (with_reducible repeat (first | apply Kd.N_alloc | apply Kd.N_drewN | apply Kd.N_drew)); exact HO153.out) (Kd.R_base ho0) hb)
        have n2_ := Aside0.mk (Kd.V_elder' (by (with_reducible repeat (first | apply Kd.V_alloc | apply Kd.V_drewN | apply Kd.V_drew)); exact HL157_0.out) (Kd.R_base ho0) hb)
        have n3_ := Aside0.mk (Kd.V_elder' (by (with_reducible repeat (first | apply Kd.V_alloc | apply Kd.V_drewN | apply Kd.V_drew)); exact HO162.out) (Kd.R_base ho0) hb)
        have n4_ := Aside0.mk (Kd.R_lower ho0 (below_size (by repeat (first | (with_reducible first | exact HB.out | apply below_alloc | apply pw_below_drewN | apply below_drew1 | refine below_set ?_ GE142.out) | exact HB.out))))
        have n5_ := Aside0.mk (blk_below (g := gb142) (o := .cells #[.int .i64 a2_0, .int .i64 a2_1] 62 (0, 0)) (by (with_reducible repeat (first | refine blk_drewN ?_ _ | refine blk_drew ?_ | refine blk_alloc ?_ _)); exact BK142.out) hb)
        have n6_ := Aside0.mk (Kd.C_below (by repeat (first | (with_reducible exact HR157_0.out) | (with_reducible refine Kd.C_alloc ?_ _) | (with_reducible refine Kd.C_drewN ?_ _) | (with_reducible refine Kd.C_drew ?_) | exact HR157_0.out)) hb)
        have n7_ := Aside0.mk (below_step (by repeat (first | (with_reducible first | exact HB.out | apply below_alloc | apply pw_below_drewN | apply below_drew1 | refine below_set ?_ GE142.out) | exact HB.out)) hb)
        clear HO_7 HO153 HL157_0 HO162 BK142 HR157_0 HB; have HO_7 := n0_; have HO153 := n1_; have HL157_0 := n2_; have HO162 := n3_; have HO165 := n4_; have BK142 := n5_; have HR157_0 := n6_; have HB := n7_; clear n0_ n1_ n2_ n3_ n4_ n5_ n6_ n7_
        (try clear hb)
        (try clear hb2)
        (try clear hk)
        (try clear hi)
        (try clear ho0)
        refine hK.out _ _ ⟨(blk_cell BK142.out 0).trans rfl, (blk_cell BK142.out 1).trans rfl⟩ (fun hHeld => ?_)
        clear hK K
        refine norm_ (a' := ?_) ?_ ?_
        rotate_left
        · show Act.put _ (some 55) _ = _
          simp only [Act.put, sets_, i64_w, i32_w]; rfl
        refine one_ (i := 10) (N := some 60) b22_ rfl rfl (one_of HT_.out (by kernel_rfl)) (by decide) (fun K hK => ?_)
        refine goes_ Try.func30 (by kernel_rfl) rfl #[.int .i64 a2_1, .int .u8 ((a1) % 256)] (by rfl) rfl rfl (by (try simp only [List.map_toArray, List.map_cons, List.map_nil]); first | done | rfl | (simp only [List.length_drop, List.length_take]; rfl)) ?_
        with_reducible refine (encorelaw05_old.calls a2_1 ((a1) % 256) t166 _ A25.out).mono ?_
        rintro e w40 ⟨v167, rfl, ho0, hb⟩
        refine ⟨_, rfl, ?_⟩
        have n0_ := Aside0.mk (Kd.N_elder' (by (with_reducible repeat (first | apply Kd.N_alloc | apply Kd.N_drewN | apply Kd.N_drew)); exact HO_7.out) (Kd.R_base ho0) hb)
        have n1_ := Aside0.mk (Kd.N_elder' (by (with_reducible repeat (first | apply Kd.N_alloc | apply Kd.N_drewN | apply Kd.N_drew)); exact HO153.out) (Kd.R_base ho0) hb)
        have n2_ := Aside0.mk (Kd.V_elder' (by (with_reducible repeat (first | apply Kd.V_alloc | apply Kd.V_drewN | apply Kd.V_drew)); exact HL157_0.out) (Kd.R_base ho0) hb)
        have n3_ := Aside0.mk (Kd.V_elder' (by (with_reducible repeat (first | apply Kd.V_alloc | apply Kd.V_drewN | apply Kd.V_drew)); exact HO162.out) (Kd.R_base ho0) hb)
        have n4_ := Aside0.mk (Kd.R_elder' (by (with_reducible repeat (first | apply Kd.R_alloc | apply Kd.R_drewN | apply Kd.R_drew)); exact HO165.out) (Kd.R_base ho0) hb)
        have n5_ := Aside0.mk (Kd.R_lower (Kd.R_new' ho0 (Kd.R_lt (by (with_reducible repeat (first | apply Kd.R_alloc | apply Kd.R_drewN | apply Kd.R_drew)); exact HO165.out))) (below_size (by repeat (first | (with_reducible first | exact HB.out | apply below_alloc | apply pw_below_drewN | apply below_drew1 | refine below_set ?_ GE142.out) | exact HB.out))))
        have n6_ := Aside0.mk (blk_below (g := gb142) (o := .cells #[.int .i64 a2_0, .int .i64 a2_1] 62 (0, 0)) (by (with_reducible repeat (first | refine blk_drewN ?_ _ | refine blk_drew ?_ | refine blk_alloc ?_ _)); exact BK142.out) hb)
        have n7_ := Aside0.mk (Kd.C_below (by repeat (first | (with_reducible exact HR157_0.out) | (with_reducible refine Kd.C_alloc ?_ _) | (with_reducible refine Kd.C_drewN ?_ _) | (with_reducible refine Kd.C_drew ?_) | exact HR157_0.out)) hb)
        have n8_ := Aside0.mk (below_step (by repeat (first | (with_reducible first | exact HB.out | apply below_alloc | apply pw_below_drewN | apply below_drew1 | refine below_set ?_ GE142.out) | exact HB.out)) hb)
        clear HO_7 HO153 HL157_0 HO162 HO165 BK142 HR157_0 HB; have HO_7 := n0_; have HO153 := n1_; have HL157_0 := n2_; have HO162 := n3_; have HO165 := n4_; have HO168 := n5_; have BK142 := n6_; have HR157_0 := n7_; have HB := n8_; clear n0_ n1_ n2_ n3_ n4_ n5_ n6_ n7_ n8_
        (try clear hb)
        (try clear hb2)
        (try clear hk)
        (try clear hi)
        (try clear ho0)
        obtain ⟨Ao42, co42, eo42⟩ := Kd.R_slice HO168.out
        (first | subst eo42 | (injection eo42 with f1_ f2_ f3_; have f4_ := f1_.symm; have f5_ := f3_.symm; clear f1_ f2_ f3_; subst f4_; subst f5_))
        have q41 : (t156 : Int) ≤ ((t166.length : Int) : Int) := of_decide_eq_true (by first | (with_reducible assumption) | assumption)
        obtain ⟨i041, hi041, _, hsz41, _⟩ := info_parts info5
        have hroom41 : t166.length ≤ co42 := (Kd.R_reads' HO168.out).2.1
        have hC41 : Kd.F (Kd.int .u8) _ _ Ao42 t166.length t166 := (Kd.V_at (base := w.heap.size) (Kd.R_V (Kd.R_types (Kd.R_apart' (Kd.R_apart' (HO168.out) (Kd.N_typed HO_7.out) (by decide)) (Kd.N_typed HO153.out) (by decide)) BK142.out (by decide)))).2.2
        have q041 : (0 : Int) ≤ (t156 : Int) := of_decide_eq_true (by first | (with_reducible assumption) | assumption)
        have hcut41 := cut_from (P := Try.prog) 24 5 .i64 Try.underlying24 hi041 1 hsz41 Ao42 t166.length co42 t156 q041 q41
        have hr41 := Kd.F_cut (m := (t156 : Int).toNat) (c := co42) hC41 (by omega) hroom41
        obtain ⟨A41, hA41⟩ : ∃ A1, A1 = (if co42 = (t156 : Int).toNat then Ao42 else (Ao42 : Option Addr).map (·.add ((t156 : Int).toNat * 1))) := ⟨_, rfl⟩
        obtain ⟨c41, hc41⟩ : ∃ c1, c1 = co42 - (t156 : Int).toNat := ⟨_, rfl⟩
        have hy41 : y169.length = t166.length - (t156 : Int).toNat := (by rw [Ny169.out, List.length_drop] <;> omega)
        rw [show (t166).drop (t156 : Int).toNat = y169 from Ny169.out.symm] at hr41
        replace hr41 : Kd.F (Kd.int .u8) _ _ A41 y169.length y169 := (by rw [hA41]; exact hr41)
        rw [← hy41, ← hA41, ← hc41] at hcut41
        have HO173 := Aside0.mk (show Kd.V (Kd.int .u8) 5 _ w.heap.size _ (.slice A41 y169.length c41) y169 from Kd.V_mk (by rw [hy41, hc41]; exact Nat.sub_le_sub_right hroom41 _) hr41)
        have HC173 := Aside0.mk (show y169.length ≤ c41 from by rw [hy41, hc41]; exact Nat.sub_le_sub_right hroom41 _)
        clear hr41 hC41 hroom41 hi041 hsz41 hc41
        have KY41 := Aside0.mk hy41
        have KA41 := Aside0.mk hA41
        clear hy41 hA41
        replace q41 := eq_true q41
        refine hK.out _ _ ⟨(blk_cell BK142.out 0).trans rfl, (blk_cell BK142.out 1).trans rfl⟩ (fun hHeld => ?_)
        clear hK K
        refine norm_ (a' := ?_) ?_ ?_
        rotate_left
        · show Act.put _ (some 60) _ = _
          simp only [Act.put, sets_, i64_w, i32_w]; rfl
        refine pure_ (i := 12) (N := some 62) (v := ?_) (a' := ?_) b23_ rfl rfl (any_of HT_.out (by kernel_rfl)) (fun _ _ _ h => h) (Or.inl ⟨by rfl, ?_⟩) ?_ ?_; rotate_left
        · intro w'; go_simp; with_reducible rfl
        rotate_left
        · simp only [Act.put, sets_, i64_w, i32_w]; rfl
        refine one_ (i := 13) (N := some 63) b24_ rfl rfl (one_of HT_.out (by kernel_rfl)) (by decide) (fun K hK => ?_)
        refine Kd.R_append_rows_step (Kd.int .u8) (w0 := w) w.heap.size (by rfl) (.tmp 55) (.tmp 62) 24 5 (.int .u8 0) 1 rfl Try.underlying24 info5 rfl (by decide) (by omega) v164 t163 y169 _ _ _ (fun k_ => some k_ ≠ (.slice Ao42 t166.length co42 : Value).ownBlock) (fun _ => False) rfl rfl ?aO ?aR (fun _ _ h => h) (fun _ h => h.elim) ?aF ?aB ?aS ?aL ?_
        (case aR => repeat (first | exact (Kd.V_reads' HO173.out).2.2 | (with_reducible refine Kd.C_alloc ?_ _) | (with_reducible refine Kd.C_drewN ?_ _) | (with_reducible refine Kd.C_drew ?_)))
        (case aB => exact (by repeat (first | (with_reducible first | exact HB.out | apply below_alloc | apply pw_below_drewN | apply below_drew1 | refine below_set ?_ GE142.out) | exact HB.out)))
        (case aF => exact (fun k_ hk => Kd.fresh' (Kd.R_lt (by (with_reducible repeat (first | apply Kd.R_alloc | apply Kd.R_drewN | apply Kd.R_drew)); exact HO168.out)) k_ hk))
        (case aO => exact (by (with_reducible repeat (first | apply Kd.R_alloc | apply Kd.R_drewN | apply Kd.R_drew)); exact Kd.R_mono HO165.out (fun _ hk => hk.2)))
        (case aS => exact (below_size (by repeat (first | (with_reducible first | exact HB.out | apply below_alloc | apply pw_below_drewN | apply below_drew1 | refine below_set ?_ GE142.out) | exact HB.out))))
        (case aL => have := LMc28.out; omega)
        intro v175 w43 ho hb hg hat
        rw [← Ny174.out] at ho
        have n0_ := Aside0.mk (Kd.N_afterv (ok := (fun k_ => some k_ ≠ (v152 : Value).ownBlock ∧ some k_ ≠ (.slice Ao42 t166.length co42 : Value).ownBlock ∧ k_ ≠ gb142)) (by (with_reducible repeat (first | apply Kd.N_alloc | apply Kd.N_drewN | apply Kd.N_drew)); exact Kd.N_mono HO_7.out (fun _ hk => (by (repeat cases ‹_ ∧ _›); (repeat' apply And.intro) <;> assumption))) hg hat)
        have n1_ := Aside0.mk (blk_grown (g := gb142) (o := .cells #[.int .i64 a2_0, .int .i64 a2_1] 62 (0, 0)) (by (with_reducible repeat (first | refine blk_drewN ?_ _ | refine blk_drew ?_ | refine blk_alloc ?_ _)); exact BK142.out) hg (Kd.R_ne HO165.out BK142.out (by decide)))
        have n2_ := Aside0.mk (Kd.N_afterv (ok := (fun k_ => some k_ ≠ (.slice (some ad157) t147.length co34 : Value).ownBlock ∧ some k_ ≠ (.slice Ao42 t166.length co42 : Value).ownBlock ∧ k_ ≠ gb142)) (by (with_reducible repeat (first | apply Kd.N_alloc | apply Kd.N_drewN | apply Kd.N_drew)); exact Kd.N_mono HO153.out (fun _ hk => (by (repeat cases ‹_ ∧ _›); (repeat' apply And.intro) <;> assumption))) hg hat)
        have n3_ := Aside0.mk (Kd.V_afterv (ok := (fun k_ => some k_ ≠ (.slice (some ad157) t147.length co34 : Value).ownBlock ∧ some k_ ≠ (v152 : Value).ownBlock ∧ some k_ ≠ (.slice Ao42 t166.length co42 : Value).ownBlock ∧ k_ ≠ gb142)) (by (with_reducible repeat (first | apply Kd.V_alloc | apply Kd.V_drewN | apply Kd.V_drew)); exact Kd.V_mono HL157_0.out (fun _ hk => (by (repeat cases ‹_ ∧ _›); (repeat' apply And.intro) <;> assumption))) hg hat)
        have n4_ := Aside0.mk (Kd.V_afterv (ok := (fun k_ => some k_ ≠ (.slice (some ad157) t147.length co34 : Value).ownBlock ∧ some k_ ≠ (v152 : Value).ownBlock ∧ some k_ ≠ (.slice Ao42 t166.length co42 : Value).ownBlock ∧ k_ ≠ gb142)) (by (with_reducible repeat (first | apply Kd.V_alloc | apply Kd.V_drewN | apply Kd.V_drew)); exact Kd.V_mono HO162.out (fun _ hk => (by (repeat cases ‹_ ∧ _›); (repeat' apply And.intro) <;> assumption))) hg hat)
        have n5_ := Aside0.mk (Kd.R_after (ok := (fun _ => True)) (by (with_reducible repeat (first | apply Kd.R_alloc | apply Kd.R_drewN | apply Kd.R_drew)); exact HO168.out) hg hat)
        have n6_ := Aside0.mk (Kd.V_afterv (ok := (fun k_ => some k_ ≠ (.slice (some ad157) t147.length co34 : Value).ownBlock ∧ some k_ ≠ (v152 : Value).ownBlock ∧ k_ ≠ gb142)) (by (with_reducible repeat (first | apply Kd.V_alloc | apply Kd.V_drewN | apply Kd.V_drew)); exact Kd.V_mono HO173.out (fun _ hk => ⟨⟨hk.1.1.2, ⟨hk.1.2, hk.2⟩⟩, hk.1.1.1.2⟩)) hg hat)
        have n7_ := Aside0.mk (hb)
        have n8_ := Aside0.mk (ho)
        clear HO_7 BK142 HO153 HL157_0 HO162 HO168 HO173 HB HO165; have HO_7 := n0_; have BK142 := n1_; have HO153 := n2_; have HL157_0 := n3_; have HO162 := n4_; have HO168 := n5_; have HO173 := n6_; have HB := n7_; have HO176 := n8_; clear n0_ n1_ n2_ n3_ n4_ n5_ n6_ n7_ n8_ ho hb hg hat
        have p29 : 0 ≤ (t155 : Int) := of_decide_eq_true (by first | (with_reducible assumption) | assumption)
        have q29 : (t155 : Int) < ((t147.length : Int) : Int) := of_decide_eq_true (by first | (with_reducible assumption) | assumption)
        obtain ⟨go29, co29, eo29, gb29, gl29, cl29, HG29⟩ := Kd.N_form HO_7.out (by omega)
        (first | cases eo29 | (injection eo29 with ea_ en_ ec_; (first | subst ea_ | (injection ea_ with ea_; subst ea_)); subst ec_; clear en_))
        have GB29 := Aside0.mk gb29
        have GG29 := Aside0.mk HG29
        clear gb29 gl29 HG29
        (first | simp only [add_plain] at hx157_0 | skip)
        obtain ⟨ce29, hcl29, hM29, hcc29, hfr29⟩ := Kd.N_elem HO_7.out [] (t155 : Int) p29 q29
        obtain ⟨ua29_0, uc29_0, rfl, ul29_0, ge29_0⟩ := Kd.FK_slice_open hM29
        have hx29_0 := hcc29 0 _ rfl
        have hf29_0 := hfr29 0
        (try simp only [show ((Kd.slice 5 (Kd.int .u8))).sz = 1 from rfl, Nat.mul_one, Nat.add_zero] at hx29_0)
        (try simp only [show ((Kd.slice 5 (Kd.int .u8))).sz = 1 from rfl, Nat.mul_one, Nat.add_zero] at hf29_0)
        clear hcl29 hcc29 hfr29 hM29
        replace p29 := eq_true p29
        replace q29 := eq_true q29
        have HX44 := Aside0.mk (show Kd.N (Kd.slice 5 (Kd.int .u8)) 24 _ w.heap.size (fun k_ => some k_ ≠ (v152 : Value).ownBlock ∧ some k_ ≠ (.slice Ao42 t166.length co42 : Value).ownBlock ∧ some k_ ≠ (v175 : Value).ownBlock ∧ k_ ≠ gb142) (.slice (some ⟨go29, 0, none⟩) t147.length co34) t147 from (Kd.N_mono (HO_7.out) (fun k_ hk => ⟨hk.1.1, ⟨hk.1.2.1, ⟨hk.2, hk.1.2.2⟩⟩⟩)))
        replace HX44 := Aside0.mk (show Kd.N (Kd.slice 5 (Kd.int .u8)) 24 _ w.heap.size (fun k_ => some k_ ≠ (v152 : Value).ownBlock ∧ some k_ ≠ (.slice Ao42 t166.length co42 : Value).ownBlock ∧ k_ ≠ gb142) (.slice (some ⟨go29, 0, none⟩) t147.length co34) t147 from Kd.N_mono HX44.out (fun k_ hk => ⟨hk.1, ⟨hk.2.1, hk.2.2.2⟩⟩))
        obtain ⟨ce44, hcl44, hM44, hcc44, hfr44⟩ := Kd.N_elem HX44.out [] (t155 : Int) (of_decide_eq_true (by first | (with_reducible assumption) | assumption)) (by have h_ : (t155 : Int) < ((t147.length : Int) : Int) := of_decide_eq_true (by first | (with_reducible assumption) | assumption); first | exact h_ | (have e_ := (Kd.N_reads' HO_7.out).1; omega) | simpa using h_)
        obtain ⟨ua44_0, uc44_0, rfl, ul44_0, ge44_0⟩ := Kd.FK_slice_open hM44
        obtain ⟨A175, c175, e175, -, -⟩ := Kd.R_reads HO176.out
        subst e175
        have HP44 := (Kd.N_seg HX44.out (t155 : Int) (of_decide_eq_true (by first | (with_reducible assumption) | assumption)) (by have h_ : (t155 : Int) < ((t147.length : Int) : Int) := of_decide_eq_true (by first | (with_reducible assumption) | assumption); first | exact h_ | (have e_ := (Kd.N_reads' HO_7.out).1; omega) | simpa using h_) (seg := [(.slice A175 y174.length c175 : Value)]) (j := 0) hcl44 hcc44 (show 1 ≤ 1 from by decide) (x' := y174) (Kd.FK_slice_mk (Kd.R_reads' (Kd.R_mono (ok' := (fun k_ => ((fun k_ => some k_ ≠ (v152 : Value).ownBlock ∧ some k_ ≠ (.slice Ao42 t166.length co42 : Value).ownBlock ∧ k_ ≠ gb142)) k_ ∧ k_ ≠ go29)) (Kd.R_types (Kd.R_apart' (Kd.R_apart' (HO176.out) (Kd.N_typed HO153.out) (by decide)) (Kd.N_typed HO_7.out) (by decide)) BK142.out (by decide)) (fun k_ hk => ⟨⟨hk.1.1.2, ⟨hk.1.1.1, hk.2⟩⟩, fun e_ => (hk.1.2) (by rw [e_]; rfl)⟩))).2.1 (Kd.R_F (Kd.R_mono (ok' := (fun k_ => ((fun k_ => some k_ ≠ (v152 : Value).ownBlock ∧ some k_ ≠ (.slice Ao42 t166.length co42 : Value).ownBlock ∧ k_ ≠ gb142)) k_ ∧ k_ ≠ go29)) (Kd.R_types (Kd.R_apart' (Kd.R_apart' (HO176.out) (Kd.N_typed HO153.out) (by decide)) (Kd.N_typed HO_7.out) (by decide)) BK142.out (by decide)) (fun k_ hk => ⟨⟨hk.1.1.2, ⟨hk.1.1.1, hk.2⟩⟩, fun e_ => (hk.1.2) (by rw [e_]; rfl)⟩)))) (fun _ hk => hk)).1
        (try simp only [show ((Kd.slice 5 (Kd.int .u8))).sz = 1 from rfl, Nat.mul_one, Nat.add_zero] at HP44)
        rw [← Ny177.out] at HP44
        have HQ44 := Aside0.mk HP44
        clear hcl44 hcc44 hfr44 hM44 HP44
        refine hK.out _ _ ⟨(blk_cell BK142.out 0).trans rfl, (blk_cell BK142.out 1).trans rfl⟩ (fun hHeld => ?_)
        clear hK K
        refine norm_ (a' := ?_) ?_ ?_
        rotate_left
        · show Act.put _ (some 63) _ = _
          simp only [Act.put, sets_, i64_w, i32_w]; rfl
        refine pure_ (i := 14) (N := some 64) (v := ?_) (a' := ?_) b25_ rfl rfl (any_of HT_.out (by kernel_rfl)) (fun _ _ _ h => h) (Or.inl ⟨by rfl, ?_⟩) ?_ ?_; rotate_left
        · intro w'; go_simp; with_reducible rfl
        rotate_left
        · simp only [Act.put, sets_, i64_w, i32_w]; rfl
        refine last_ (i := 15) (N := none) b26_ rfl rfl (one_of HT_.out (by kernel_rfl)) (by decide) (fun K hK => ?_)
        refine skip_ (w1 := ?_) (by rfl) rfl ?_ ?_; rotate_left
        · go_simp; rfl
        refine hK.out _ _ ?_
        clear hK K
        refine done_ (done_of HT_.out (by kernel_rfl)) ?_
      · skip
        try go_wp2_with (first | ((with_reducible refine gate_callee (f := 26) rfl ?_); refine goesL_ (some 68) rfl rfl Try.func26 (by kernel_rfl) rfl #[.slice (some ⟨go29, 0, none⟩) y177.length co34, .agg #[.int .i64 5, .int .i64 3]] rfl (by (try simp only [List.map_toArray, List.map_cons, List.map_nil]); first | done | (rw [show y177.length = t147.length from (Kd.N_reads' HQ44.out).1.symm] <;> rfl) | rfl | (simp only [List.length_drop, List.length_take]; rfl)) ?_; (with_reducible refine (strip_Scan.calls _ _ y177 5 3 t178 t181 _ ?side1 ?side2 A30.out).mono ?_); (case side1 => refine (Kd.N_reads' (e := 24) (base := w.heap.size) (ok := fun k_ => (some k_ ≠ (v152 : Value).ownBlock ∧ (some k_ ≠ (.slice Ao42 t166.length co42 : Value).ownBlock ∧ k_ ≠ gb142))) (n := t147.length) (c := co34) ?_).2.2; exact (by (with_reducible repeat (first | apply Kd.N_alloc | apply Kd.N_drewN | apply Kd.N_drew)); exact HQ44.out)); (case side2 => rw [show y177.length = t147.length from (Kd.N_reads' HQ44.out).1.symm]; exact (Kd.N_reads' HO_7.out).2.1); rintro e w45 ⟨v179, rfl, ho0, hb⟩; refine ⟨_, rfl, ?_⟩; have n0_ := Aside0.mk (Kd.N_elder' (by (with_reducible repeat (first | apply Kd.N_alloc | apply Kd.N_drewN | apply Kd.N_drew)); exact HQ44.out) (Kd.S_base ho0) hb); have n1_ := Aside0.mk (Kd.N_elder' (by (with_reducible repeat (first | apply Kd.N_alloc | apply Kd.N_drewN | apply Kd.N_drew)); exact (Kd.N_mono (Kd.N_far (p := ⟨go29, (t155 : Int).toNat, none⟩) (Kd.N_mono HO153.out (fun k_ hk => (⟨hk, fun e_ => hk.1.1 (by rw [e_]; rfl)⟩ : _ ∧ k_ ≠ go29))) (fun _ hk => hk.2) ((.slice A175 y174.length c175 : Value))) (fun _ h_ => h_.1))) (Kd.S_base ho0) hb); have n2_ := Aside0.mk (Kd.V_elder' (by (with_reducible repeat (first | apply Kd.V_alloc | apply Kd.V_drewN | apply Kd.V_drew)); exact (Kd.V_mono (Kd.V_far (p := ⟨go29, (t155 : Int).toNat, none⟩) (Kd.V_mono HL157_0.out (fun k_ hk => (⟨hk, fun e_ => hk.1.1 (by rw [e_]; rfl)⟩ : _ ∧ k_ ≠ go29))) (fun _ hk => hk.2) ((.slice A175 y174.length c175 : Value))) (fun _ h_ => h_.1))) (Kd.S_base ho0) hb); have n3_ := Aside0.mk (Kd.V_elder' (by (with_reducible repeat (first | apply Kd.V_alloc | apply Kd.V_drewN | apply Kd.V_drew)); exact (Kd.V_mono (Kd.V_far (p := ⟨go29, (t155 : Int).toNat, none⟩) (Kd.V_mono HO162.out (fun k_ hk => (⟨hk, fun e_ => hk.1.1 (by rw [e_]; rfl)⟩ : _ ∧ k_ ≠ go29))) (fun _ hk => hk.2) ((.slice A175 y174.length c175 : Value))) (fun _ h_ => h_.1))) (Kd.S_base ho0) hb); have n4_ := Aside0.mk (Kd.R_below (by (with_reducible repeat (first | apply Kd.R_alloc | apply Kd.R_drewN | apply Kd.R_drew)); exact (Kd.R_mono (Kd.R_far (p := ⟨go29, (t155 : Int).toNat, none⟩) (Kd.R_types HO168.out GG29.out (by decide)) (fun _ hk => hk.2) ((.slice A175 y174.length c175 : Value))) (fun _ h_ => h_.1))) hb); have n5_ := Aside0.mk (Kd.V_elder' (by (with_reducible repeat (first | apply Kd.V_alloc | apply Kd.V_drewN | apply Kd.V_drew)); exact (Kd.V_mono (Kd.V_far (p := ⟨go29, (t155 : Int).toNat, none⟩) (Kd.V_mono HO173.out (fun k_ hk => (⟨hk, fun e_ => hk.1.1 (by rw [e_]; rfl)⟩ : _ ∧ k_ ≠ go29))) (fun _ hk => hk.2) ((.slice A175 y174.length c175 : Value))) (fun _ h_ => h_.1))) (Kd.S_base ho0) hb); have n6_ := Aside0.mk (Kd.N_lower (Kd.N_mono (ok' := fun k_ => some k_ ≠ (.slice (some ⟨go29, 0, none⟩) t147.length co34 : Value).ownBlock ∧ some k_ ≠ (v152 : Value).ownBlock ∧ some k_ ≠ (.slice Ao42 t166.length co42 : Value).ownBlock ∧ k_ ≠ gb142) (Kd.S_N (Kd.S_bound ho0)) (fun k_ hk_ => ⟨(Kd.fresh' (Kd.N_lt (by (with_reducible repeat (first | apply Kd.N_alloc | apply Kd.N_drewN | apply Kd.N_drew)); exact HQ44.out)) k_ hk_.2.1), (Kd.fresh' (Kd.N_lt (by (with_reducible repeat (first | apply Kd.N_alloc | apply Kd.N_drewN | apply Kd.N_drew)); exact (Kd.N_mono (Kd.N_far (p := ⟨go29, (t155 : Int).toNat, none⟩) (Kd.N_mono HO153.out (fun k_ hk => (⟨hk, fun e_ => hk.1.1 (by rw [e_]; rfl)⟩ : _ ∧ k_ ≠ go29))) (fun _ hk => hk.2) ((.slice A175 y174.length c175 : Value))) (fun _ h_ => h_.1)))) k_ hk_.2.1), (Kd.fresh' (Kd.R_lt (by (with_reducible repeat (first | apply Kd.R_alloc | apply Kd.R_drewN | apply Kd.R_drew)); exact (Kd.R_mono (Kd.R_far (p := ⟨go29, (t155 : Int).toNat, none⟩) (Kd.R_types HO168.out GG29.out (by decide)) (fun _ hk => hk.2) ((.slice A175 y174.length c175 : Value))) (fun _ h_ => h_.1)))) k_ hk_.2.1), (Kd.freshB (g := gb142) (o := .cells #[.int .i64 a2_0, .int .i64 a2_1] 62 (0, 0)) (by (with_reducible repeat (first | refine blk_drewN ?_ _ | refine blk_drew ?_ | refine blk_alloc ?_ _)); refine blk_far ?_ (by have h_ := Kd.N_away HO_7.out (fun _ hk => (by (repeat cases ‹_ ∧ _›); assumption)); intro e_; exact h_ (by rw [e_]; rfl)) _; (with_reducible repeat (first | refine blk_drewN ?_ _ | refine blk_drew ?_ | refine blk_alloc ?_ _)); exact BK142.out) k_ hk_.2.1)⟩)) (below_size (by repeat (first | (with_reducible first | exact HB.out | apply below_alloc | apply pw_below_drewN | apply below_drew1 | refine below_set ?_ GB29.out | refine below_set ?_ GE142.out) | exact HB.out)))); have n7_ := Aside0.mk (blk_below (g := gb142) (o := .cells #[.int .i64 a2_0, .int .i64 a2_1] 62 (0, 0)) (by (with_reducible repeat (first | refine blk_drewN ?_ _ | refine blk_drew ?_ | refine blk_alloc ?_ _)); refine blk_far ?_ (by have h_ := Kd.N_away HO_7.out (fun _ hk => (by (repeat cases ‹_ ∧ _›); assumption)); intro e_; exact h_ (by rw [e_]; rfl)) _; (with_reducible repeat (first | refine blk_drewN ?_ _ | refine blk_drew ?_ | refine blk_alloc ?_ _)); exact BK142.out) hb); have n8_ := Aside0.mk (below_step (by repeat (first | (with_reducible first | exact HB.out | apply below_alloc | apply pw_below_drewN | apply below_drew1 | refine below_set ?_ GB29.out | refine below_set ?_ GE142.out) | exact HB.out)) hb); clear HO_7; clear HO153; clear HL157_0; clear HO162; clear HO168; clear HO173; clear BK142; clear HB; have HO_7 := n0_; have HO153 := n1_; have HL157_0 := n2_; have HO162 := n3_; have HO168 := n4_; have HO173 := n5_; have HO180 := n6_; have BK142 := n7_; have HB := n8_; clear n0_ n1_ n2_ n3_ n4_ n5_ n6_ n7_ n8_; (try clear hb); (try clear hb2); (try clear hk); (try clear hi); (try clear ho0); have p182 : 0 ≤ (t155 : Int) := of_decide_eq_true (by first | (with_reducible assumption) | assumption); have q182 : t155 < (y177.length : Int) := (by have h_ : (t155 : Int) < ((t147.length : Int) : Int) := of_decide_eq_true (by first | (with_reducible assumption) | assumption); first | (have e_ := (Kd.N_reads' HO_7.out).1; omega) | simpa only [Ny177.out, List.length_set] using h_); have ql182 : ((t155 : Int) < ((t147.length : Int) : Int)) = True := eq_true (of_decide_eq_true (by first | (with_reducible assumption) | assumption)); obtain ⟨ad182, A182_0, c182_0, e182, hx182_0, hl182_0, hi182_0⟩ := at_L1 (Kd.N_reads' HO_7.out).2.2 t155 p182 q182; obtain rfl : (⟨go29, 0, none⟩ : Addr) = ad182 := (by injection e182); obtain ⟨ce182, hce182, hMe182, hcc182⟩ := Kd.N_get HO_7.out [] t155 p182 (by first | exact q182 | exact of_decide_eq_true (by first | (with_reducible assumption) | assumption) | (have e_ := (Kd.N_reads' HO_7.out).1; omega)); obtain ⟨ua182_0, uc182_0, rfl, ul182_0, ge182_0⟩ := Kd.FK_slice_open hMe182; have hv182_0 := hcc182 0 _ rfl; rw [Nat.add_zero, show ((Kd.slice 5 (Kd.int .u8))).sz = 1 from rfl, Nat.mul_one] at hv182_0; replace hv182_0 := Option.some.inj (hv182_0.symm.trans hx182_0); injection hv182_0 with hva_ hvn_ hvc_; rw [hva_] at ge182_0; rw [hvc_] at ul182_0; have HL182_0 := Aside0.mk (show Kd.V (Kd.int .u8) 5 _ w.heap.size _ _ (rd_L1 y177 t155) from Kd.V_mk ul182_0 ge182_0); clear hva_ hvn_ hvc_ ge182_0 ul182_0; clear hcc182 hce182; (first | simp only [add_plain] at hx182_0 | simp only [add_at] at hx182_0 | simp only [Addr.add, Nat.zero_add] at hx182_0 | skip); have HR182_0 := Aside0.mk hi182_0; have HC182_0 := Aside0.mk hl182_0; clear hi182_0 hl182_0; replace p182 := eq_true p182; replace q182 := eq_true q182) | ((with_reducible refine gate_callee (f := 19) rfl ?_); refine goesL_ (some 76) rfl rfl Try.func19 (by kernel_rfl) rfl #[.slice A182_0 (rd_L1 y177 t155).length c182_0, .slice A157_0 (rd_L1 t147 t155).length c157_0] rfl (by (try simp only [List.map_toArray, List.map_cons, List.map_nil]); first | done | rfl | (simp only [List.length_drop, List.length_take]; rfl)) ?_; (with_reducible refine (encoreref00_EqBytes.calls kj7 _ _ (rd_L1 y177 t155) _ _ (rd_L1 t147 t155) true _ ?side1 ?side2 ?side3 ?side4 A31.out).mono ?_); (case side1 => repeat (first | exact (by repeat (first | (with_reducible exact HR182_0.out) | (with_reducible refine Kd.C_alloc ?_ _) | (with_reducible refine Kd.C_drewN ?_ _) | (with_reducible refine Kd.C_drew ?_) | exact HR182_0.out)) | (with_reducible refine Kd.C_alloc ?_ _) | (with_reducible refine Kd.C_drewN ?_ _) | (with_reducible refine Kd.C_drew ?_))); (case side2 => exact HC182_0.out); (case side3 => repeat (first | exact ((Kd.V_reads' (by (with_reducible repeat (first | apply Kd.V_alloc | apply Kd.V_drewN | apply Kd.V_drew)); exact HL157_0.out)).2.2) | (with_reducible refine Kd.C_alloc ?_ _) | (with_reducible refine Kd.C_drewN ?_ _) | (with_reducible refine Kd.C_drew ?_))); (case side4 => exact HC157_0.out); rintro e w' ⟨rfl, ⟨nd, rfl⟩⟩; refine ⟨_, rfl, ?_⟩; obtain ⟨Ao46, co46, eo46⟩ := Kd.N_slice HO180.out; subst eo46; obtain ⟨Ao47, co47, eo47⟩ := Kd.N_slice HO153.out; subst eo47))
        go_ret
        exact ⟨by first | rfl | (simp [errW_none, errW_some] <;> rfl) | (simp [*, errW_none, errW_some] <;> rfl), by repeat (first | (with_reducible first | exact HB.out | apply below_alloc | apply pw_below_drewN | apply below_drew1 | refine below_set ?_ GE142.out) | exact HB.out)⟩
      · skip
        try go_wp2_with (first | ((with_reducible refine gate_callee (f := 26) rfl ?_); refine goesL_ (some 68) rfl rfl Try.func26 (by kernel_rfl) rfl #[.slice (some ⟨go29, 0, none⟩) y177.length co34, .agg #[.int .i64 5, .int .i64 3]] rfl (by (try simp only [List.map_toArray, List.map_cons, List.map_nil]); first | done | (rw [show y177.length = t147.length from (Kd.N_reads' HQ44.out).1.symm] <;> rfl) | rfl | (simp only [List.length_drop, List.length_take]; rfl)) ?_; (with_reducible refine (strip_Scan.calls _ _ y177 5 3 t178 t181 _ ?side1 ?side2 A30.out).mono ?_); (case side1 => refine (Kd.N_reads' (e := 24) (base := w.heap.size) (ok := fun k_ => (some k_ ≠ (v152 : Value).ownBlock ∧ (some k_ ≠ (.slice Ao42 t166.length co42 : Value).ownBlock ∧ k_ ≠ gb142))) (n := t147.length) (c := co34) ?_).2.2; exact (by (with_reducible repeat (first | apply Kd.N_alloc | apply Kd.N_drewN | apply Kd.N_drew)); exact HQ44.out)); (case side2 => rw [show y177.length = t147.length from (Kd.N_reads' HQ44.out).1.symm]; exact (Kd.N_reads' HO_7.out).2.1); rintro e w59 ⟨v179, rfl, ho0, hb⟩; refine ⟨_, rfl, ?_⟩; have n0_ := Aside0.mk (Kd.N_elder' (by (with_reducible repeat (first | apply Kd.N_alloc | apply Kd.N_drewN | apply Kd.N_drew)); exact HQ44.out) (Kd.S_base ho0) hb); have n1_ := Aside0.mk (Kd.N_elder' (by (with_reducible repeat (first | apply Kd.N_alloc | apply Kd.N_drewN | apply Kd.N_drew)); exact (Kd.N_mono (Kd.N_far (p := ⟨go29, (t155 : Int).toNat, none⟩) (Kd.N_mono HO153.out (fun k_ hk => (⟨hk, fun e_ => hk.1.1 (by rw [e_]; rfl)⟩ : _ ∧ k_ ≠ go29))) (fun _ hk => hk.2) ((.slice A175 y174.length c175 : Value))) (fun _ h_ => h_.1))) (Kd.S_base ho0) hb); have n2_ := Aside0.mk (Kd.V_elder' (by (with_reducible repeat (first | apply Kd.V_alloc | apply Kd.V_drewN | apply Kd.V_drew)); exact (Kd.V_mono (Kd.V_far (p := ⟨go29, (t155 : Int).toNat, none⟩) (Kd.V_mono HL157_0.out (fun k_ hk => (⟨hk, fun e_ => hk.1.1 (by rw [e_]; rfl)⟩ : _ ∧ k_ ≠ go29))) (fun _ hk => hk.2) ((.slice A175 y174.length c175 : Value))) (fun _ h_ => h_.1))) (Kd.S_base ho0) hb); have n3_ := Aside0.mk (Kd.V_elder' (by (with_reducible repeat (first | apply Kd.V_alloc | apply Kd.V_drewN | apply Kd.V_drew)); exact (Kd.V_mono (Kd.V_far (p := ⟨go29, (t155 : Int).toNat, none⟩) (Kd.V_mono HO162.out (fun k_ hk => (⟨hk, fun e_ => hk.1.1 (by rw [e_]; rfl)⟩ : _ ∧ k_ ≠ go29))) (fun _ hk => hk.2) ((.slice A175 y174.length c175 : Value))) (fun _ h_ => h_.1))) (Kd.S_base ho0) hb); have n4_ := Aside0.mk (Kd.R_below (by (with_reducible repeat (first | apply Kd.R_alloc | apply Kd.R_drewN | apply Kd.R_drew)); exact (Kd.R_mono (Kd.R_far (p := ⟨go29, (t155 : Int).toNat, none⟩) (Kd.R_types HO168.out GG29.out (by decide)) (fun _ hk => hk.2) ((.slice A175 y174.length c175 : Value))) (fun _ h_ => h_.1))) hb); have n5_ := Aside0.mk (Kd.V_elder' (by (with_reducible repeat (first | apply Kd.V_alloc | apply Kd.V_drewN | apply Kd.V_drew)); exact (Kd.V_mono (Kd.V_far (p := ⟨go29, (t155 : Int).toNat, none⟩) (Kd.V_mono HO173.out (fun k_ hk => (⟨hk, fun e_ => hk.1.1 (by rw [e_]; rfl)⟩ : _ ∧ k_ ≠ go29))) (fun _ hk => hk.2) ((.slice A175 y174.length c175 : Value))) (fun _ h_ => h_.1))) (Kd.S_base ho0) hb); have n6_ := Aside0.mk (Kd.N_lower (Kd.N_mono (ok' := fun k_ => some k_ ≠ (.slice (some ⟨go29, 0, none⟩) t147.length co34 : Value).ownBlock ∧ some k_ ≠ (v152 : Value).ownBlock ∧ some k_ ≠ (.slice Ao42 t166.length co42 : Value).ownBlock ∧ k_ ≠ gb142) (Kd.S_N (Kd.S_bound ho0)) (fun k_ hk_ => ⟨(Kd.fresh' (Kd.N_lt (by (with_reducible repeat (first | apply Kd.N_alloc | apply Kd.N_drewN | apply Kd.N_drew)); exact HQ44.out)) k_ hk_.2.1), (Kd.fresh' (Kd.N_lt (by (with_reducible repeat (first | apply Kd.N_alloc | apply Kd.N_drewN | apply Kd.N_drew)); exact (Kd.N_mono (Kd.N_far (p := ⟨go29, (t155 : Int).toNat, none⟩) (Kd.N_mono HO153.out (fun k_ hk => (⟨hk, fun e_ => hk.1.1 (by rw [e_]; rfl)⟩ : _ ∧ k_ ≠ go29))) (fun _ hk => hk.2) ((.slice A175 y174.length c175 : Value))) (fun _ h_ => h_.1)))) k_ hk_.2.1), (Kd.fresh' (Kd.R_lt (by (with_reducible repeat (first | apply Kd.R_alloc | apply Kd.R_drewN | apply Kd.R_drew)); exact (Kd.R_mono (Kd.R_far (p := ⟨go29, (t155 : Int).toNat, none⟩) (Kd.R_types HO168.out GG29.out (by decide)) (fun _ hk => hk.2) ((.slice A175 y174.length c175 : Value))) (fun _ h_ => h_.1)))) k_ hk_.2.1), (Kd.freshB (g := gb142) (o := .cells #[.int .i64 a2_0, .int .i64 a2_1] 62 (0, 0)) (by (with_reducible repeat (first | refine blk_drewN ?_ _ | refine blk_drew ?_ | refine blk_alloc ?_ _)); refine blk_far ?_ (by have h_ := Kd.N_away HO_7.out (fun _ hk => (by (repeat cases ‹_ ∧ _›); assumption)); intro e_; exact h_ (by rw [e_]; rfl)) _; (with_reducible repeat (first | refine blk_drewN ?_ _ | refine blk_drew ?_ | refine blk_alloc ?_ _)); exact BK142.out) k_ hk_.2.1)⟩)) (below_size (by repeat (first | (with_reducible first | exact HB.out | apply below_alloc | apply pw_below_drewN | apply below_drew1 | refine below_set ?_ GB29.out | refine below_set ?_ GE142.out) | exact HB.out)))); have n7_ := Aside0.mk (blk_below (g := gb142) (o := .cells #[.int .i64 a2_0, .int .i64 a2_1] 62 (0, 0)) (by (with_reducible repeat (first | refine blk_drewN ?_ _ | refine blk_drew ?_ | refine blk_alloc ?_ _)); refine blk_far ?_ (by have h_ := Kd.N_away HO_7.out (fun _ hk => (by (repeat cases ‹_ ∧ _›); assumption)); intro e_; exact h_ (by rw [e_]; rfl)) _; (with_reducible repeat (first | refine blk_drewN ?_ _ | refine blk_drew ?_ | refine blk_alloc ?_ _)); exact BK142.out) hb); have n8_ := Aside0.mk (below_step (by repeat (first | (with_reducible first | exact HB.out | apply below_alloc | apply pw_below_drewN | apply below_drew1 | refine below_set ?_ GB29.out | refine below_set ?_ GE142.out) | exact HB.out)) hb); clear HO_7; clear HO153; clear HL157_0; clear HO162; clear HO168; clear HO173; clear BK142; clear HB; have HO_7 := n0_; have HO153 := n1_; have HL157_0 := n2_; have HO162 := n3_; have HO168 := n4_; have HO173 := n5_; have HO180 := n6_; have BK142 := n7_; have HB := n8_; clear n0_ n1_ n2_ n3_ n4_ n5_ n6_ n7_ n8_; (try clear hb); (try clear hb2); (try clear hk); (try clear hi); (try clear ho0); have p182 : 0 ≤ (t155 : Int) := of_decide_eq_true (by first | (with_reducible assumption) | assumption); have q182 : t155 < (y177.length : Int) := (by have h_ : (t155 : Int) < ((t147.length : Int) : Int) := of_decide_eq_true (by first | (with_reducible assumption) | assumption); first | (have e_ := (Kd.N_reads' HO_7.out).1; omega) | simpa only [Ny177.out, List.length_set] using h_); have ql182 : ((t155 : Int) < ((t147.length : Int) : Int)) = True := eq_true (of_decide_eq_true (by first | (with_reducible assumption) | assumption)); obtain ⟨ad182, A182_0, c182_0, e182, hx182_0, hl182_0, hi182_0⟩ := at_L1 (Kd.N_reads' HO_7.out).2.2 t155 p182 q182; obtain rfl : (⟨go29, 0, none⟩ : Addr) = ad182 := (by injection e182); obtain ⟨ce182, hce182, hMe182, hcc182⟩ := Kd.N_get HO_7.out [] t155 p182 (by first | exact q182 | exact of_decide_eq_true (by first | (with_reducible assumption) | assumption) | (have e_ := (Kd.N_reads' HO_7.out).1; omega)); obtain ⟨ua182_0, uc182_0, rfl, ul182_0, ge182_0⟩ := Kd.FK_slice_open hMe182; have hv182_0 := hcc182 0 _ rfl; rw [Nat.add_zero, show ((Kd.slice 5 (Kd.int .u8))).sz = 1 from rfl, Nat.mul_one] at hv182_0; replace hv182_0 := Option.some.inj (hv182_0.symm.trans hx182_0); injection hv182_0 with hva_ hvn_ hvc_; rw [hva_] at ge182_0; rw [hvc_] at ul182_0; have HL182_0 := Aside0.mk (show Kd.V (Kd.int .u8) 5 _ w.heap.size _ _ (rd_L1 y177 t155) from Kd.V_mk ul182_0 ge182_0); clear hva_ hvn_ hvc_ ge182_0 ul182_0; clear hcc182 hce182; (first | simp only [add_plain] at hx182_0 | simp only [add_at] at hx182_0 | simp only [Addr.add, Nat.zero_add] at hx182_0 | skip); have HR182_0 := Aside0.mk hi182_0; have HC182_0 := Aside0.mk hl182_0; clear hi182_0 hl182_0; replace p182 := eq_true p182; replace q182 := eq_true q182) | ((with_reducible refine gate_callee (f := 19) rfl ?_); refine goesL_ (some 76) rfl rfl Try.func19 (by kernel_rfl) rfl #[.slice A182_0 (rd_L1 y177 t155).length c182_0, .slice A157_0 (rd_L1 t147 t155).length c157_0] rfl (by (try simp only [List.map_toArray, List.map_cons, List.map_nil]); first | done | rfl | (simp only [List.length_drop, List.length_take]; rfl)) ?_; (with_reducible refine (encoreref00_EqBytes.calls kj7 _ _ (rd_L1 y177 t155) _ _ (rd_L1 t147 t155) true _ ?side1 ?side2 ?side3 ?side4 A31.out).mono ?_); (case side1 => repeat (first | exact (by repeat (first | (with_reducible exact HR182_0.out) | (with_reducible refine Kd.C_alloc ?_ _) | (with_reducible refine Kd.C_drewN ?_ _) | (with_reducible refine Kd.C_drew ?_) | exact HR182_0.out)) | (with_reducible refine Kd.C_alloc ?_ _) | (with_reducible refine Kd.C_drewN ?_ _) | (with_reducible refine Kd.C_drew ?_))); (case side2 => exact HC182_0.out); (case side3 => repeat (first | exact ((Kd.V_reads' (by (with_reducible repeat (first | apply Kd.V_alloc | apply Kd.V_drewN | apply Kd.V_drew)); exact HL157_0.out)).2.2) | (with_reducible refine Kd.C_alloc ?_ _) | (with_reducible refine Kd.C_drewN ?_ _) | (with_reducible refine Kd.C_drew ?_))); (case side4 => exact HC157_0.out); rintro e w' ⟨rfl, ⟨nd, rfl⟩⟩; refine ⟨_, rfl, ?_⟩))
        go_ret
        exact ⟨by first | rfl | (simp [errW_none, errW_some] <;> rfl) | (simp [*, errW_none, errW_some] <;> rfl), by repeat (first | (with_reducible first | exact HB.out | apply below_alloc | apply pw_below_drewN | apply below_drew1 | refine below_set ?_ GE142.out) | exact HB.out)⟩
      · skip
        go_upto_region 13 with (first | ((with_reducible refine gate_callee (f := 26) rfl ?_); refine goesL_ (some 68) rfl rfl Try.func26 (by kernel_rfl) rfl #[.slice (some ⟨go29, 0, none⟩) y177.length co34, .agg #[.int .i64 5, .int .i64 3]] rfl (by (try simp only [List.map_toArray, List.map_cons, List.map_nil]); first | done | (rw [show y177.length = t147.length from (Kd.N_reads' HQ44.out).1.symm] <;> rfl) | rfl | (simp only [List.length_drop, List.length_take]; rfl)) ?_; (with_reducible refine (strip_Scan.calls _ _ y177 5 3 t178 t181 _ ?side1 ?side2 A30.out).mono ?_); (case side1 => refine (Kd.N_reads' (e := 24) (base := w.heap.size) (ok := fun k_ => (some k_ ≠ (v152 : Value).ownBlock ∧ (some k_ ≠ (.slice Ao42 t166.length co42 : Value).ownBlock ∧ k_ ≠ gb142))) (n := t147.length) (c := co34) ?_).2.2; exact (by (with_reducible repeat (first | apply Kd.N_alloc | apply Kd.N_drewN | apply Kd.N_drew)); exact HQ44.out)); (case side2 => rw [show y177.length = t147.length from (Kd.N_reads' HQ44.out).1.symm]; exact (Kd.N_reads' HO_7.out).2.1); rintro e w72 ⟨v179, rfl, ho0, hb⟩; refine ⟨_, rfl, ?_⟩; have n0_ := Aside0.mk (Kd.N_elder' (by (with_reducible repeat (first | apply Kd.N_alloc | apply Kd.N_drewN | apply Kd.N_drew)); exact HQ44.out) (Kd.S_base ho0) hb); have n1_ := Aside0.mk (Kd.N_elder' (by (with_reducible repeat (first | apply Kd.N_alloc | apply Kd.N_drewN | apply Kd.N_drew)); exact (Kd.N_mono (Kd.N_far (p := ⟨go29, (t155 : Int).toNat, none⟩) (Kd.N_mono HO153.out (fun k_ hk => (⟨hk, fun e_ => hk.1.1 (by rw [e_]; rfl)⟩ : _ ∧ k_ ≠ go29))) (fun _ hk => hk.2) ((.slice A175 y174.length c175 : Value))) (fun _ h_ => h_.1))) (Kd.S_base ho0) hb); have n2_ := Aside0.mk (Kd.V_elder' (by (with_reducible repeat (first | apply Kd.V_alloc | apply Kd.V_drewN | apply Kd.V_drew)); exact (Kd.V_mono (Kd.V_far (p := ⟨go29, (t155 : Int).toNat, none⟩) (Kd.V_mono HL157_0.out (fun k_ hk => (⟨hk, fun e_ => hk.1.1 (by rw [e_]; rfl)⟩ : _ ∧ k_ ≠ go29))) (fun _ hk => hk.2) ((.slice A175 y174.length c175 : Value))) (fun _ h_ => h_.1))) (Kd.S_base ho0) hb); have n3_ := Aside0.mk (Kd.V_elder' (by (with_reducible repeat (first | apply Kd.V_alloc | apply Kd.V_drewN | apply Kd.V_drew)); exact (Kd.V_mono (Kd.V_far (p := ⟨go29, (t155 : Int).toNat, none⟩) (Kd.V_mono HO162.out (fun k_ hk => (⟨hk, fun e_ => hk.1.1 (by rw [e_]; rfl)⟩ : _ ∧ k_ ≠ go29))) (fun _ hk => hk.2) ((.slice A175 y174.length c175 : Value))) (fun _ h_ => h_.1))) (Kd.S_base ho0) hb); have n4_ := Aside0.mk (Kd.R_below (by (with_reducible repeat (first | apply Kd.R_alloc | apply Kd.R_drewN | apply Kd.R_drew)); exact (Kd.R_mono (Kd.R_far (p := ⟨go29, (t155 : Int).toNat, none⟩) (Kd.R_types HO168.out GG29.out (by decide)) (fun _ hk => hk.2) ((.slice A175 y174.length c175 : Value))) (fun _ h_ => h_.1))) hb); have n5_ := Aside0.mk (Kd.V_elder' (by (with_reducible repeat (first | apply Kd.V_alloc | apply Kd.V_drewN | apply Kd.V_drew)); exact (Kd.V_mono (Kd.V_far (p := ⟨go29, (t155 : Int).toNat, none⟩) (Kd.V_mono HO173.out (fun k_ hk => (⟨hk, fun e_ => hk.1.1 (by rw [e_]; rfl)⟩ : _ ∧ k_ ≠ go29))) (fun _ hk => hk.2) ((.slice A175 y174.length c175 : Value))) (fun _ h_ => h_.1))) (Kd.S_base ho0) hb); have n6_ := Aside0.mk (Kd.N_lower (Kd.N_mono (ok' := fun k_ => some k_ ≠ (.slice (some ⟨go29, 0, none⟩) t147.length co34 : Value).ownBlock ∧ some k_ ≠ (v152 : Value).ownBlock ∧ some k_ ≠ (.slice Ao42 t166.length co42 : Value).ownBlock ∧ k_ ≠ gb142) (Kd.S_N (Kd.S_bound ho0)) (fun k_ hk_ => ⟨(Kd.fresh' (Kd.N_lt (by (with_reducible repeat (first | apply Kd.N_alloc | apply Kd.N_drewN | apply Kd.N_drew)); exact HQ44.out)) k_ hk_.2.1), (Kd.fresh' (Kd.N_lt (by (with_reducible repeat (first | apply Kd.N_alloc | apply Kd.N_drewN | apply Kd.N_drew)); exact (Kd.N_mono (Kd.N_far (p := ⟨go29, (t155 : Int).toNat, none⟩) (Kd.N_mono HO153.out (fun k_ hk => (⟨hk, fun e_ => hk.1.1 (by rw [e_]; rfl)⟩ : _ ∧ k_ ≠ go29))) (fun _ hk => hk.2) ((.slice A175 y174.length c175 : Value))) (fun _ h_ => h_.1)))) k_ hk_.2.1), (Kd.fresh' (Kd.R_lt (by (with_reducible repeat (first | apply Kd.R_alloc | apply Kd.R_drewN | apply Kd.R_drew)); exact (Kd.R_mono (Kd.R_far (p := ⟨go29, (t155 : Int).toNat, none⟩) (Kd.R_types HO168.out GG29.out (by decide)) (fun _ hk => hk.2) ((.slice A175 y174.length c175 : Value))) (fun _ h_ => h_.1)))) k_ hk_.2.1), (Kd.freshB (g := gb142) (o := .cells #[.int .i64 a2_0, .int .i64 a2_1] 62 (0, 0)) (by (with_reducible repeat (first | refine blk_drewN ?_ _ | refine blk_drew ?_ | refine blk_alloc ?_ _)); refine blk_far ?_ (by have h_ := Kd.N_away HO_7.out (fun _ hk => (by (repeat cases ‹_ ∧ _›); assumption)); intro e_; exact h_ (by rw [e_]; rfl)) _; (with_reducible repeat (first | refine blk_drewN ?_ _ | refine blk_drew ?_ | refine blk_alloc ?_ _)); exact BK142.out) k_ hk_.2.1)⟩)) (below_size (by repeat (first | (with_reducible first | exact HB.out | apply below_alloc | apply pw_below_drewN | apply below_drew1 | refine below_set ?_ GB29.out | refine below_set ?_ GE142.out) | exact HB.out)))); have n7_ := Aside0.mk (blk_below (g := gb142) (o := .cells #[.int .i64 a2_0, .int .i64 a2_1] 62 (0, 0)) (by (with_reducible repeat (first | refine blk_drewN ?_ _ | refine blk_drew ?_ | refine blk_alloc ?_ _)); refine blk_far ?_ (by have h_ := Kd.N_away HO_7.out (fun _ hk => (by (repeat cases ‹_ ∧ _›); assumption)); intro e_; exact h_ (by rw [e_]; rfl)) _; (with_reducible repeat (first | refine blk_drewN ?_ _ | refine blk_drew ?_ | refine blk_alloc ?_ _)); exact BK142.out) hb); have n8_ := Aside0.mk (below_step (by repeat (first | (with_reducible first | exact HB.out | apply below_alloc | apply pw_below_drewN | apply below_drew1 | refine below_set ?_ GB29.out | refine below_set ?_ GE142.out) | exact HB.out)) hb); clear HO_7; clear HO153; clear HL157_0; clear HO162; clear HO168; clear HO173; clear BK142; clear HB; have HO_7 := n0_; have HO153 := n1_; have HL157_0 := n2_; have HO162 := n3_; have HO168 := n4_; have HO173 := n5_; have HO180 := n6_; have BK142 := n7_; have HB := n8_; clear n0_ n1_ n2_ n3_ n4_ n5_ n6_ n7_ n8_; (try clear hb); (try clear hb2); (try clear hk); (try clear hi); (try clear ho0); have p182 : 0 ≤ (t155 : Int) := of_decide_eq_true (by first | (with_reducible assumption) | assumption); have q182 : t155 < (y177.length : Int) := (by have h_ : (t155 : Int) < ((t147.length : Int) : Int) := of_decide_eq_true (by first | (with_reducible assumption) | assumption); first | (have e_ := (Kd.N_reads' HO_7.out).1; omega) | simpa only [Ny177.out, List.length_set] using h_); have ql182 : ((t155 : Int) < ((t147.length : Int) : Int)) = True := eq_true (of_decide_eq_true (by first | (with_reducible assumption) | assumption)); obtain ⟨ad182, A182_0, c182_0, e182, hx182_0, hl182_0, hi182_0⟩ := at_L1 (Kd.N_reads' HO_7.out).2.2 t155 p182 q182; obtain rfl : (⟨go29, 0, none⟩ : Addr) = ad182 := (by injection e182); obtain ⟨ce182, hce182, hMe182, hcc182⟩ := Kd.N_get HO_7.out [] t155 p182 (by first | exact q182 | exact of_decide_eq_true (by first | (with_reducible assumption) | assumption) | (have e_ := (Kd.N_reads' HO_7.out).1; omega)); obtain ⟨ua182_0, uc182_0, rfl, ul182_0, ge182_0⟩ := Kd.FK_slice_open hMe182; have hv182_0 := hcc182 0 _ rfl; rw [Nat.add_zero, show ((Kd.slice 5 (Kd.int .u8))).sz = 1 from rfl, Nat.mul_one] at hv182_0; replace hv182_0 := Option.some.inj (hv182_0.symm.trans hx182_0); injection hv182_0 with hva_ hvn_ hvc_; rw [hva_] at ge182_0; rw [hvc_] at ul182_0; have HL182_0 := Aside0.mk (show Kd.V (Kd.int .u8) 5 _ w.heap.size _ _ (rd_L1 y177 t155) from Kd.V_mk ul182_0 ge182_0); clear hva_ hvn_ hvc_ ge182_0 ul182_0; clear hcc182 hce182; (first | simp only [add_plain] at hx182_0 | simp only [add_at] at hx182_0 | simp only [Addr.add, Nat.zero_add] at hx182_0 | skip); have HR182_0 := Aside0.mk hi182_0; have HC182_0 := Aside0.mk hl182_0; clear hi182_0 hl182_0; replace p182 := eq_true p182; replace q182 := eq_true q182) | ((with_reducible refine gate_callee (f := 19) rfl ?_); refine goesL_ (some 76) rfl rfl Try.func19 (by kernel_rfl) rfl #[.slice A182_0 (rd_L1 y177 t155).length c182_0, .slice A157_0 (rd_L1 t147 t155).length c157_0] rfl (by (try simp only [List.map_toArray, List.map_cons, List.map_nil]); first | done | rfl | (simp only [List.length_drop, List.length_take]; rfl)) ?_; (with_reducible refine (encoreref00_EqBytes.calls kj7 _ _ (rd_L1 y177 t155) _ _ (rd_L1 t147 t155) false _ ?side1 ?side2 ?side3 ?side4 A31.out).mono ?_); (case side1 => repeat (first | exact (by repeat (first | (with_reducible exact HR182_0.out) | (with_reducible refine Kd.C_alloc ?_ _) | (with_reducible refine Kd.C_drewN ?_ _) | (with_reducible refine Kd.C_drew ?_) | exact HR182_0.out)) | (with_reducible refine Kd.C_alloc ?_ _) | (with_reducible refine Kd.C_drewN ?_ _) | (with_reducible refine Kd.C_drew ?_))); (case side2 => exact HC182_0.out); (case side3 => repeat (first | exact ((Kd.V_reads' (by (with_reducible repeat (first | apply Kd.V_alloc | apply Kd.V_drewN | apply Kd.V_drew)); exact HL157_0.out)).2.2) | (with_reducible refine Kd.C_alloc ?_ _) | (with_reducible refine Kd.C_drewN ?_ _) | (with_reducible refine Kd.C_drew ?_))); (case side4 => exact HC157_0.out); rintro e w' ⟨rfl, ⟨nd, rfl⟩⟩; refine ⟨_, rfl, ?_⟩))
        (try simp only [Act.put, List.setIfInBounds_toArray, List.set_cons_zero, List.set_cons_succ])
        go_cut [96] (fun v96 wc => ∃ (kq : Nat) (x96_59 : Bool), v96 = .bool x96_59 ∧ Aside0 (encorelaw05_StripTorn.j1 kq t151 t178 x96_59 = some r) ∧ Aside0 (kq ≤ kj7) ∧ Aside0 (Kd.N (Kd.slice 5 (Kd.int .u8)) 24 wc w.heap.size (fun k_ => some k_ ≠ (v179 : Value).ownBlock ∧ k_ ≠ gb142) v152 t151) ∧ Aside0 (Kd.N (Kd.slice 5 (Kd.int .u8)) 24 wc w.heap.size (fun k_ => some k_ ≠ (v152 : Value).ownBlock ∧ k_ ≠ gb142) v179 t178) ∧ Aside0 (wc.heap[gb142]? = some (.cells #[.int .i64 a2_0, .int .i64 a2_1] 62 (0, 0))) ∧ Aside0 (Kd.C (Kd.int .u8) wc A182_0 (rd_L1 y177 t155).length (rd_L1 y177 t155)) ∧ Aside0 (Below w.heap.size w wc))
        case first =>
          have H := HC60.out
          clear HC60
          by_cases c73 : t181 = t155
          rotate_left
          · rw [if_neg c73] at H
            have c73b0 : (t181 == t155) = false := beq_eq_false_iff_ne.mpr c73
            have c73b1 : (t181 != t155) = true := bne_iff_ne.mpr c73
            (first | rw [c73b0] | (simp only [i64_w, i32_w]; rw [c73b0]) | skip)
            have H' := Aside0.mk H
            clear H
            go_wp2
            go_meet
            case rel => exact ⟨_, (true), (by first | rfl | (simp; done) | (simp [*]; done)), H', ⟨by have := HJ7.out; first | omega | exact Nat.le_refl _⟩, ⟨by (with_reducible repeat (first | apply Kd.N_alloc | apply Kd.N_drewN | apply Kd.N_drew)); exact Kd.N_mono HO153.out (fun _ hk => ⟨hk.2, hk.1.1.2.2⟩)⟩, ⟨by (with_reducible repeat (first | apply Kd.N_alloc | apply Kd.N_drewN | apply Kd.N_drew)); exact Kd.N_mono HO180.out (fun _ hk => ⟨hk.2.1, hk.2.2.2⟩)⟩, ⟨by (with_reducible repeat (first | refine blk_drewN ?_ _ | refine blk_drew ?_ | refine blk_alloc ?_ _)); exact BK142.out⟩, ⟨by repeat (first | (with_reducible exact HR182_0.out) | (with_reducible refine Kd.C_alloc ?_ _) | (with_reducible refine Kd.C_drewN ?_ _) | (with_reducible refine Kd.C_drew ?_) | exact HR182_0.out)⟩, ⟨by repeat (first | (with_reducible first | exact HB.out | apply below_alloc | apply pw_below_drewN | apply below_drew1 | refine below_set ?_ GE142.out) | exact HB.out)⟩⟩
          rw [if_pos c73] at H
          have c73b0 : (t181 == t155) = true := beq_iff_eq.mpr c73
          have c73b1 : (t181 != t155) = false := bne_eq_false_iff_eq.mpr c73
          clear c73
          (first | rw [c73b0] | (simp only [i64_w, i32_w]; rw [c73b0]) | skip)
          have H' := Aside0.mk H
          clear H
          obtain ⟨Ao74, co74, eo74⟩ := Kd.N_slice HO180.out
          subst eo74
          obtain ⟨Ao75, co75, eo75⟩ := Kd.N_slice HO153.out
          subst eo75
          go_wp2
          go_meet
          case rel => exact ⟨_, (decide ((t178.length : Int) > (t151.length : Int))), (by first | rfl | (simp; done) | (simp [*]; done)), H', ⟨by have := HJ7.out; first | omega | exact Nat.le_refl _⟩, ⟨by (with_reducible repeat (first | apply Kd.N_alloc | apply Kd.N_drewN | apply Kd.N_drew)); exact Kd.N_mono HO153.out (fun _ hk => ⟨hk.2, hk.1.1.2.2⟩)⟩, ⟨by (with_reducible repeat (first | apply Kd.N_alloc | apply Kd.N_drewN | apply Kd.N_drew)); exact Kd.N_mono HO180.out (fun _ hk => ⟨hk.2.1, hk.2.2.2⟩)⟩, ⟨by (with_reducible repeat (first | refine blk_drewN ?_ _ | refine blk_drew ?_ | refine blk_alloc ?_ _)); exact BK142.out⟩, ⟨by repeat (first | (with_reducible exact HR182_0.out) | (with_reducible refine Kd.C_alloc ?_ _) | (with_reducible refine Kd.C_drewN ?_ _) | (with_reducible refine Kd.C_drew ?_) | exact HR182_0.out)⟩, ⟨by repeat (first | (with_reducible first | exact HB.out | apply below_alloc | apply pw_below_drewN | apply below_drew1 | refine below_set ?_ GE142.out) | exact HB.out)⟩⟩
        case rest =>
          clear HC60
          try clear c1
          try clear p1
          try clear q1
          try clear hx1
          try clear c2
          try clear p2
          try clear q2
          try clear hx2
          try clear c3
          try clear c5
          try clear q5
          try clear c6
          try clear q6
          try clear c7
          try clear c11
          try clear c15
          try clear p15
          try clear q15
          try clear hx15
          try clear c18
          try clear p18
          try clear q18
          try clear hx18
          try clear c19
          try clear c25
          try clear c26
          try clear c28
          try clear c29
          try clear p29
          try clear q29
          try clear hx29
          try clear hf29
          try clear c30
          try clear c32
          try clear c55
          try clear q55
          try clear c58
          try clear q38
          try clear c41
          try clear q41
          try clear c71
          try clear c73
          try clear c73b0
          try clear c73b1
          try clear hx157_0
          try clear hx182_0
          try clear hx29_0
          try clear p157
          try clear p182
          try clear p29
          try clear q041
          try clear q157
          try clear q182
          try clear q29
          try clear q55
          try clear q38
          try clear q41
          obtain ⟨kq, x96_59, rfl, HA, HJ59, HO_9, HO_14, BK142, HR182_0, HB⟩ := hcut
          cases kq with
          | zero => exact absurd HA.out (by simp [encorelaw05_StripTorn.j1])
          | succ kj59 =>
            have H := HA.out
            clear HA
            simp only [encorelaw05_StripTorn.j1] at H
            by_cases c76 : x96_59 = true
            · subst c76
              have H1 : (some false) = some r := by rw [if_pos rfl] at H; exact H
              clear H
              have H := H1
              clear H1
              obtain rfl := Option.some.inj H
              go_wp2
              go_ret
              exact ⟨by first | rfl | (simp [errW_none, errW_some] <;> rfl) | (simp [*, errW_none, errW_some] <;> rfl), by repeat (first | (with_reducible first | exact HB.out | apply below_alloc | apply pw_below_drewN | apply below_drew1 | refine below_set ?_ GE142.out) | exact HB.out)⟩
            replace c76 := Bool.eq_false_iff.mpr c76
            subst c76
            have H1 : (encorelaw05_StripTorn.l0 kj59 t151 t178 0) = some r := by rw [if_neg (show ¬ (false = true) by decide)] at H; exact H
            clear H
            have H := H1
            clear H1
            have H' := Aside0.mk H
            clear H
            go_wp2
            go_loopg [16] kj59 (fun kq v16 w' => ∃ (x16_3 : Int), v16 = .int .i64 x16_3 ∧ Aside0 (encorelaw05_StripTorn.l0 kq t151 t178 x16_3 = some r) ∧ Aside0 (kq ≤ kj59) ∧ Aside0 (Kd.N (Kd.slice 5 (Kd.int .u8)) 24 w' w.heap.size (fun k_ => some k_ ≠ (v179 : Value).ownBlock ∧ k_ ≠ gb142) v152 t151) ∧ Aside0 (Kd.N (Kd.slice 5 (Kd.int .u8)) 24 w' w.heap.size (fun k_ => some k_ ≠ (v152 : Value).ownBlock ∧ k_ ≠ gb142) v179 t178) ∧ Aside0 (w'.heap[gb142]? = some (.cells #[.int .i64 a2_0, .int .i64 a2_1] 62 (0, 0))) ∧ Aside0 (Kd.C (Kd.int .u8) w' A182_0 (rd_L1 y177 t155).length (rd_L1 y177 t155)) ∧ Aside0 (Below w.heap.size w w'))
            case atStart => exact ⟨(0), (by first | rfl | (simp; done) | (simp [*]; done)), H', ⟨Nat.le_refl _⟩, ⟨by (with_reducible repeat (first | apply Kd.N_alloc | apply Kd.N_drewN | apply Kd.N_drew)); exact HO_9.out⟩, ⟨by (with_reducible repeat (first | apply Kd.N_alloc | apply Kd.N_drewN | apply Kd.N_drew)); exact HO_14.out⟩, ⟨by (with_reducible repeat (first | refine blk_drewN ?_ _ | refine blk_drew ?_ | refine blk_alloc ?_ _)); exact BK142.out⟩, ⟨by repeat (first | (with_reducible exact HR182_0.out) | (with_reducible refine Kd.C_alloc ?_ _) | (with_reducible refine Kd.C_drewN ?_ _) | (with_reducible refine Kd.C_drew ?_) | exact HR182_0.out)⟩, ⟨by repeat (first | (with_reducible first | exact HB.out | apply below_alloc | apply pw_below_drewN | apply below_drew1 | refine below_set ?_ GE142.out) | exact HB.out)⟩⟩
            case round =>
              clear H'
              try clear c1
              try clear p1
              try clear q1
              try clear hx1
              try clear c2
              try clear p2
              try clear q2
              try clear hx2
              try clear c3
              try clear c5
              try clear q5
              try clear c6
              try clear q6
              try clear c7
              try clear c11
              try clear c15
              try clear p15
              try clear q15
              try clear hx15
              try clear c18
              try clear p18
              try clear q18
              try clear hx18
              try clear c19
              try clear c25
              try clear c26
              try clear c28
              try clear c29
              try clear p29
              try clear q29
              try clear hx29
              try clear hf29
              try clear c30
              try clear c32
              try clear c55
              try clear q55
              try clear c58
              try clear q38
              try clear c41
              try clear q41
              try clear c71
              try clear c73
              try clear c73b0
              try clear c73b1
              try clear c76
              try clear hx157_0
              try clear hx182_0
              try clear hx29_0
              try clear p1
              try clear p15
              try clear p157
              try clear p18
              try clear p182
              try clear p2
              try clear p29
              try clear q041
              try clear q1
              try clear q15
              try clear q157
              try clear q18
              try clear q182
              try clear q2
              try clear q29
              try clear q5
              try clear q55
              try clear q6
              try clear q38
              try clear q41
              obtain ⟨x16_3, rfl, HA, HK3, HO_9, HO_14, BK142, HR182_0, HB⟩ := hrel
              cases gk with
              | zero => exact absurd HA.out (by simp [encorelaw05_StripTorn.l0])
              | succ k3 =>
                have H := HA.out
                clear HA
                simp only [encorelaw05_StripTorn.l0] at H
                by_cases c77 : x16_3 < (t178.length : Int)
                rotate_left
                · rw [if_neg c77] at H
                  have c77b0 : decide (x16_3 < (t178.length : Int)) = false := decide_eq_false c77
                  clear c77
                  obtain rfl := Option.some.inj H
                  obtain ⟨Ao106, co106, eo106⟩ := Kd.N_slice HO_14.out
                  subst eo106
                  go_wp2
                  go_ret
                  exact ⟨by first | rfl | (simp [errW_none, errW_some] <;> rfl) | (simp [*, errW_none, errW_some] <;> rfl), by repeat (first | (with_reducible first | exact HB.out | apply below_alloc | apply pw_below_drewN | apply below_drew1 | refine below_set ?_ GE142.out) | exact HB.out)⟩
                rw [if_pos c77] at H
                have c77b0 : decide (x16_3 < (t178.length : Int)) = true := decide_eq_true c77
                clear c77
                by_cases c78 : 0 ≤ x16_3
                rotate_left
                · rw [if_neg c78] at H
                  exact absurd H (by simp)
                rw [if_pos c78] at H
                have c78b0 : decide (0 ≤ x16_3) = true := decide_eq_true c78
                clear c78
                by_cases c79 : x16_3 < (t151.length : Int)
                rotate_left
                · rw [if_neg c79] at H
                  exact absurd H (by simp)
                rw [if_pos c79] at H
                have c79b0 : decide (x16_3 < (t151.length : Int)) = true := decide_eq_true c79
                clear c79
                by_cases c80 : ((rd_L1 t178 x16_3).length : Int) > ((rd_L1 t151 x16_3).length : Int)
                · rw [if_pos c80] at H
                  have c80b0 : decide (((rd_L1 t151 x16_3).length : Int) < ((rd_L1 t178 x16_3).length : Int)) = true := decide_eq_true c80
                  have c80b1 : decide ((rd_L1 t151 x16_3).length < (rd_L1 t178 x16_3).length) = true := decide_eq_true (Int.ofNat_lt.mp c80)
                  clear c80
                  obtain rfl := Option.some.inj H
                  obtain ⟨Ao81, co81, eo81⟩ := Kd.N_slice HO_14.out
                  subst eo81
                  try go_wp2
                  have n0_ := Aside0.mk (Kd.N_drew HO_9.out)
                  have n1_ := Aside0.mk (Kd.N_drew HO_14.out)
                  have n2_ := Aside0.mk (blk_drew BK142.out)
                  have n3_ := Aside0.mk (Kd.C_drew HR182_0.out)
                  have n4_ := Aside0.mk (below_drew1 HB.out)
                  clear HO_9 HO_14 BK142 HR182_0 HB; have HO_9 := n0_; have HO_14 := n1_; have BK142 := n2_; have HR182_0 := n3_; have HB := n4_; clear n0_ n1_ n2_ n3_ n4_
                  have p184 : 0 ≤ (x16_3 : Int) := of_decide_eq_true (by first | (with_reducible assumption) | assumption)
                  have q184 : x16_3 < (t178.length : Int) := of_decide_eq_true (by first | (with_reducible assumption) | assumption)
                  obtain ⟨ad184, A184_0, c184_0, e184, hx184_0, hl184_0, hi184_0⟩ := at_L1 (Kd.N_reads' HO_14.out).2.2 x16_3 p184 q184
                  cases e184
                  obtain ⟨ce184, hce184, hMe184, hcc184⟩ := Kd.N_get HO_14.out [] x16_3 p184 (by first | exact q184 | exact of_decide_eq_true (by first | (with_reducible assumption) | assumption) | (have e_ := (Kd.N_reads' HO_14.out).1; omega))
                  obtain ⟨ua184_0, uc184_0, rfl, ul184_0, ge184_0⟩ := Kd.FK_slice_open hMe184
                  have hv184_0 := hcc184 0 _ rfl
                  rw [Nat.add_zero, show ((Kd.slice 5 (Kd.int .u8))).sz = 1 from rfl, Nat.mul_one] at hv184_0
                  replace hv184_0 := Option.some.inj (hv184_0.symm.trans hx184_0)
                  injection hv184_0 with hva_ hvn_ hvc_
                  rw [hva_] at ge184_0
                  rw [hvc_] at ul184_0
                  have HL184_0 := Aside0.mk (show Kd.V (Kd.int .u8) 5 _ w.heap.size _ _ (rd_L1 t178 x16_3) from Kd.V_mk ul184_0 ge184_0)
                  clear hva_ hvn_ hvc_ ge184_0 ul184_0 hcc184 hce184
                  have HR184_0 := Aside0.mk hi184_0
                  have HC184_0 := Aside0.mk hl184_0
                  clear hi184_0 hl184_0
                  replace p184 := eq_true p184
                  replace q184 := eq_true q184
                  obtain ⟨Ao83, co83, eo83⟩ := Kd.N_slice HO_9.out
                  (first | subst eo83 | (injection eo83 with f1_ f2_ f3_; have f4_ := f1_.symm; have f5_ := f3_.symm; clear f1_ f2_ f3_; subst f4_; subst f5_))
                  have p185 : 0 ≤ (x16_3 : Int) := of_decide_eq_true (by first | (with_reducible assumption) | assumption)
                  have q185 : x16_3 < (t151.length : Int) := of_decide_eq_true (by first | (with_reducible assumption) | assumption)
                  obtain ⟨ad185, A185_0, c185_0, e185, hx185_0, hl185_0, hi185_0⟩ := at_L1 (Kd.N_reads' HO_9.out).2.2 x16_3 p185 q185
                  cases e185
                  obtain ⟨ce185, hce185, hMe185, hcc185⟩ := Kd.N_get HO_9.out [] x16_3 p185 (by first | exact q185 | exact of_decide_eq_true (by first | (with_reducible assumption) | assumption) | (have e_ := (Kd.N_reads' HO_9.out).1; omega))
                  obtain ⟨ua185_0, uc185_0, rfl, ul185_0, ge185_0⟩ := Kd.FK_slice_open hMe185
                  have hv185_0 := hcc185 0 _ rfl
                  rw [Nat.add_zero, show ((Kd.slice 5 (Kd.int .u8))).sz = 1 from rfl, Nat.mul_one] at hv185_0
                  replace hv185_0 := Option.some.inj (hv185_0.symm.trans hx185_0)
                  injection hv185_0 with hva_ hvn_ hvc_
                  rw [hva_] at ge185_0
                  rw [hvc_] at ul185_0
                  have HL185_0 := Aside0.mk (show Kd.V (Kd.int .u8) 5 _ w.heap.size _ _ (rd_L1 t151 x16_3) from Kd.V_mk ul185_0 ge185_0)
                  clear hva_ hvn_ hvc_ ge185_0 ul185_0 hcc185 hce185
                  have HR185_0 := Aside0.mk hi185_0
                  have HC185_0 := Aside0.mk hl185_0
                  clear hi185_0 hl185_0
                  replace p185 := eq_true p185
                  replace q185 := eq_true q185
                  refine start_ (n := 49) (S := fun w' => w'.cell? (ad184.add (x16_3).toNat) = some (.slice A184_0 (rd_L1 t178 x16_3).length c184_0) ∧ w'.cell? (ad185.add (x16_3).toNat) = some (.slice A185_0 (rd_L1 t151 x16_3).length c185_0)) (ds := []) b27_ (by kernel_rfl) rfl rfl ⟨hx184_0, hx185_0⟩ (fun hHeld => ?_); refine with_tabW encorelaw05_StripTorn.tab18 encorelaw05_StripTorn.bits18 (fun HT_ HW_ => ?_)
                  generalize wr.drew = w82 at HO_9 HO_14 BK142 HR182_0 HB HL184_0 HL185_0 HR184_0 HR185_0 hx184_0 hx185_0 hHeld ⊢
                  refine pure_ (i := 0) (N := some 103) (v := ?_) (a' := ?_) b28_ rfl rfl (any_of HT_.out (by kernel_rfl)) (fun _ _ _ h => h) (Or.inl ⟨by rfl, ?_⟩) ?_ ?_; rotate_left
                  · intro w'; go_simp; with_reducible rfl
                  rotate_left
                  · simp only [Act.put, sets_, i64_w, i32_w]; rfl
                  refine pure_ (i := 1) (N := some 104) (v := ?_) (a' := ?_) b29_ rfl rfl (any_of HT_.out (by kernel_rfl)) (fun _ _ _ h => h) (Or.inl ⟨by rfl, ?_⟩) ?_ ?_; rotate_left
                  · intro w'; go_simp; with_reducible rfl
                  rotate_left
                  · simp only [Act.put, sets_, i64_w, i32_w]; rfl
                  refine pure_ (i := 2) (N := some 105) (v := ?_) (a' := ?_) b30_ rfl rfl (any_of HT_.out (by kernel_rfl)) (fun _ _ _ h => h) (Or.inl ⟨by rfl, ?_⟩) ?_ ?_; rotate_left
                  · intro w'; go_simp; with_reducible rfl
                  rotate_left
                  · simp only [Act.put, sets_, i64_w, i32_w]; rfl
                  refine pure_ (i := 5) (N := some 108) (v := ?_) (a' := ?_) b31_ rfl rfl (any_of HT_.out (by kernel_rfl)) (fun _ _ _ h => h) (Or.inl ⟨by rfl, ?_⟩) ?_ ?_; rotate_left
                  · intro w'; go_simp; with_reducible rfl
                  rotate_left
                  · simp only [Act.put, sets_, i64_w, i32_w]; rfl
                  refine pure_ (i := 6) (N := some 109) (v := ?_) (a' := ?_) b32_ rfl rfl (any_of HT_.out (by kernel_rfl)) (fun _ _ _ h => h) (Or.inl ⟨by rfl, ?_⟩) ?_ ?_; rotate_left
                  · intro w'; go_simp; with_reducible rfl
                  rotate_left
                  · simp only [Act.put, sets_, i64_w, i32_w]; rfl
                  refine pure_ (i := 7) (N := some 110) (v := ?_) (a' := ?_) b33_ rfl rfl (any_of HT_.out (by kernel_rfl)) (fun _ _ _ h => h) (Or.inl ⟨by rfl, ?_⟩) ?_ ?_; rotate_left
                  · intro w'; go_simp; with_reducible rfl
                  rotate_left
                  · simp only [Act.put, sets_, i64_w, i32_w]; rfl
                  refine take_ (i := 3) (N := some 106) (v := ?_) (a' := ?_) b34_ rfl rfl (take_ofW HT_.out HW_.out (by kernel_rfl)) (fun _ _ _ h => h) (Or.inl ⟨by rfl, ?_⟩) hHeld ?_ ?_; rotate_left
                  · rintro w' ⟨s0, s1⟩
                    go_simp; with_reducible rfl
                  rotate_left
                  · simp only [Act.put, sets_, i64_w, i32_w]; rfl
                  refine pure_ (i := 4) (N := some 107) (v := ?_) (a' := ?_) b35_ rfl rfl (any_of HT_.out (by kernel_rfl)) (fun _ _ _ h => h) (Or.inl ⟨by rfl, ?_⟩) ?_ ?_; rotate_left
                  · intro w'; go_simp; with_reducible rfl
                  rotate_left
                  · simp only [Act.put, sets_, i64_w, i32_w]; rfl
                  refine take_ (i := 8) (N := some 111) (v := ?_) (a' := ?_) b36_ rfl rfl (take_ofW HT_.out HW_.out (by kernel_rfl)) (fun _ _ _ h => h) (Or.inl ⟨by rfl, ?_⟩) hHeld ?_ ?_; rotate_left
                  · rintro w' ⟨s0, s1⟩
                    go_simp; with_reducible rfl
                  rotate_left
                  · simp only [Act.put, sets_, i64_w, i32_w]; rfl
                  refine pure_ (i := 9) (N := some 112) (v := ?_) (a' := ?_) b37_ rfl rfl (any_of HT_.out (by kernel_rfl)) (fun _ _ _ h => h) (Or.inl ⟨by rfl, ?_⟩) ?_ ?_; rotate_left
                  · intro w'; go_simp; with_reducible rfl
                  rotate_left
                  · simp only [Act.put, sets_, i64_w, i32_w]; rfl
                  refine pure_ (i := 10) (N := some 113) (v := ?_) (a' := ?_) b38_ rfl rfl (any_of HT_.out (by kernel_rfl)) (fun _ _ _ h => h) (Or.inl ⟨by rfl, ?_⟩) ?_ ?_; rotate_left
                  · intro w'; go_simp; with_reducible rfl
                  rotate_left
                  · simp only [Act.put, sets_, i64_w, i32_w]; rfl
                  refine pure_ (i := 11) (N := some 114) (v := ?_) (a' := ?_) b39_ rfl rfl (any_of HT_.out (by kernel_rfl)) (fun _ _ _ h => h) (Or.inl ⟨by rfl, ?_⟩) ?_ ?_; rotate_left
                  · intro w'; go_simp; with_reducible rfl
                  rotate_left
                  · simp only [Act.put, sets_, i64_w, i32_w]; rfl
                  refine pure_ (i := 12) (N := some 115) (v := undef) (a' := ?_) b40_ rfl rfl (any_of HT_.out (by kernel_rfl)) (fun _ _ _ h => h) (Or.inr ⟨by rfl, rfl⟩) ?_ ?_; rotate_left
                  · simp only [Act.put, sets_, i64_w, i32_w]; rfl
                  refine pure_ (i := 13) (N := some 116) (v := undef) (a' := ?_) b41_ rfl rfl (any_of HT_.out (by kernel_rfl)) (fun _ _ _ h => h) (Or.inr ⟨by rfl, rfl⟩) ?_ ?_; rotate_left
                  · simp only [Act.put, sets_, i64_w, i32_w]; rfl
                  refine pure_ (i := 14) (N := some 117) (v := undef) (a' := ?_) b42_ rfl rfl (any_of HT_.out (by kernel_rfl)) (fun _ _ _ h => h) (Or.inr ⟨by rfl, rfl⟩) ?_ ?_; rotate_left
                  · simp only [Act.put, sets_, i64_w, i32_w]; rfl
                  refine pure_ (i := 15) (N := some 118) (v := undef) (a' := ?_) b43_ rfl rfl (any_of HT_.out (by kernel_rfl)) (fun _ _ _ h => h) (Or.inr ⟨by rfl, rfl⟩) ?_ ?_; rotate_left
                  · simp only [Act.put, sets_, i64_w, i32_w]; rfl
                  refine pure_ (i := 16) (N := some 119) (v := undef) (a' := ?_) b44_ rfl rfl (any_of HT_.out (by kernel_rfl)) (fun _ _ _ h => h) (Or.inr ⟨by rfl, rfl⟩) ?_ ?_; rotate_left
                  · simp only [Act.put, sets_, i64_w, i32_w]; rfl
                  refine pure_ (i := 17) (N := some 120) (v := undef) (a' := ?_) b45_ rfl rfl (any_of HT_.out (by kernel_rfl)) (fun _ _ _ h => h) (Or.inr ⟨by rfl, rfl⟩) ?_ ?_; rotate_left
                  · simp only [Act.put, sets_, i64_w, i32_w]; rfl
                  refine pure_ (i := 18) (N := some 121) (v := undef) (a' := ?_) b46_ rfl rfl (any_of HT_.out (by kernel_rfl)) (fun _ _ _ h => h) (Or.inr ⟨by rfl, rfl⟩) ?_ ?_; rotate_left
                  · simp only [Act.put, sets_, i64_w, i32_w]; rfl
                  refine pure_ (i := 19) (N := some 122) (v := undef) (a' := ?_) b47_ rfl rfl (any_of HT_.out (by kernel_rfl)) (fun _ _ _ h => h) (Or.inr ⟨by rfl, rfl⟩) ?_ ?_; rotate_left
                  · simp only [Act.put, sets_, i64_w, i32_w]; rfl
                  refine pure_ (i := 20) (N := some 123) (v := undef) (a' := ?_) b48_ rfl rfl (any_of HT_.out (by kernel_rfl)) (fun _ _ _ h => h) (Or.inr ⟨by rfl, rfl⟩) ?_ ?_; rotate_left
                  · simp only [Act.put, sets_, i64_w, i32_w]; rfl
                  refine pure_ (i := 21) (N := some 124) (v := undef) (a' := ?_) b49_ rfl rfl (any_of HT_.out (by kernel_rfl)) (fun _ _ _ h => h) (Or.inr ⟨by rfl, rfl⟩) ?_ ?_; rotate_left
                  · simp only [Act.put, sets_, i64_w, i32_w]; rfl
                  refine pure_ (i := 22) (N := some 125) (v := undef) (a' := ?_) b50_ rfl rfl (any_of HT_.out (by kernel_rfl)) (fun _ _ _ h => h) (Or.inr ⟨by rfl, rfl⟩) ?_ ?_; rotate_left
                  · simp only [Act.put, sets_, i64_w, i32_w]; rfl
                  refine pure_ (i := 23) (N := some 126) (v := undef) (a' := ?_) b51_ rfl rfl (any_of HT_.out (by kernel_rfl)) (fun _ _ _ h => h) (Or.inr ⟨by rfl, rfl⟩) ?_ ?_; rotate_left
                  · simp only [Act.put, sets_, i64_w, i32_w]; rfl
                  refine pure_ (i := 24) (N := some 127) (v := undef) (a' := ?_) b52_ rfl rfl (any_of HT_.out (by kernel_rfl)) (fun _ _ _ h => h) (Or.inr ⟨by rfl, rfl⟩) ?_ ?_; rotate_left
                  · simp only [Act.put, sets_, i64_w, i32_w]; rfl
                  refine pure_ (i := 25) (N := some 128) (v := undef) (a' := ?_) b53_ rfl rfl (any_of HT_.out (by kernel_rfl)) (fun _ _ _ h => h) (Or.inr ⟨by rfl, rfl⟩) ?_ ?_; rotate_left
                  · simp only [Act.put, sets_, i64_w, i32_w]; rfl
                  refine pure_ (i := 26) (N := some 129) (v := undef) (a' := ?_) b54_ rfl rfl (any_of HT_.out (by kernel_rfl)) (fun _ _ _ h => h) (Or.inr ⟨by rfl, rfl⟩) ?_ ?_; rotate_left
                  · simp only [Act.put, sets_, i64_w, i32_w]; rfl
                  refine pure_ (i := 27) (N := some 130) (v := undef) (a' := ?_) b55_ rfl rfl (any_of HT_.out (by kernel_rfl)) (fun _ _ _ h => h) (Or.inr ⟨by rfl, rfl⟩) ?_ ?_; rotate_left
                  · simp only [Act.put, sets_, i64_w, i32_w]; rfl
                  refine pure_ (i := 28) (N := some 131) (v := ?_) (a' := ?_) b56_ rfl rfl (any_of HT_.out (by kernel_rfl)) (fun _ _ _ h => h) (Or.inl ⟨by rfl, ?_⟩) ?_ ?_; rotate_left
                  · intro w'; go_simp; with_reducible rfl
                  rotate_left
                  · simp only [Act.put, sets_, i64_w, i32_w]; rfl
                  refine pure_ (i := 29) (N := some 132) (v := ?_) (a' := ?_) b57_ rfl rfl (any_of HT_.out (by kernel_rfl)) (fun _ _ _ h => h) (Or.inl ⟨by rfl, ?_⟩) ?_ ?_; rotate_left
                  · intro w'; go_simp; with_reducible rfl
                  rotate_left
                  · simp only [Act.put, sets_, i64_w, i32_w]; rfl
                  refine pure_ (i := 30) (N := some 133) (v := undef) (a' := ?_) b58_ rfl rfl (any_of HT_.out (by kernel_rfl)) (fun _ _ _ h => h) (Or.inr ⟨by rfl, rfl⟩) ?_ ?_; rotate_left
                  · simp only [Act.put, sets_, i64_w, i32_w]; rfl
                  refine pure_ (i := 31) (N := some 134) (v := undef) (a' := ?_) b59_ rfl rfl (any_of HT_.out (by kernel_rfl)) (fun _ _ _ h => h) (Or.inr ⟨by rfl, rfl⟩) ?_ ?_; rotate_left
                  · simp only [Act.put, sets_, i64_w, i32_w]; rfl
                  refine pure_ (i := 32) (N := some 135) (v := undef) (a' := ?_) b60_ rfl rfl (any_of HT_.out (by kernel_rfl)) (fun _ _ _ h => h) (Or.inr ⟨by rfl, rfl⟩) ?_ ?_; rotate_left
                  · simp only [Act.put, sets_, i64_w, i32_w]; rfl
                  refine pure_ (i := 33) (N := some 136) (v := undef) (a' := ?_) b61_ rfl rfl (any_of HT_.out (by kernel_rfl)) (fun _ _ _ h => h) (Or.inr ⟨by rfl, rfl⟩) ?_ ?_; rotate_left
                  · simp only [Act.put, sets_, i64_w, i32_w]; rfl
                  refine pure_ (i := 34) (N := some 137) (v := undef) (a' := ?_) b62_ rfl rfl (any_of HT_.out (by kernel_rfl)) (fun _ _ _ h => h) (Or.inr ⟨by rfl, rfl⟩) ?_ ?_; rotate_left
                  · simp only [Act.put, sets_, i64_w, i32_w]; rfl
                  refine pure_ (i := 35) (N := some 138) (v := undef) (a' := ?_) b63_ rfl rfl (any_of HT_.out (by kernel_rfl)) (fun _ _ _ h => h) (Or.inr ⟨by rfl, rfl⟩) ?_ ?_; rotate_left
                  · simp only [Act.put, sets_, i64_w, i32_w]; rfl
                  refine pure_ (i := 36) (N := some 139) (v := undef) (a' := ?_) b64_ rfl rfl (any_of HT_.out (by kernel_rfl)) (fun _ _ _ h => h) (Or.inr ⟨by rfl, rfl⟩) ?_ ?_; rotate_left
                  · simp only [Act.put, sets_, i64_w, i32_w]; rfl
                  refine pure_ (i := 37) (N := some 140) (v := undef) (a' := ?_) b65_ rfl rfl (any_of HT_.out (by kernel_rfl)) (fun _ _ _ h => h) (Or.inr ⟨by rfl, rfl⟩) ?_ ?_; rotate_left
                  · simp only [Act.put, sets_, i64_w, i32_w]; rfl
                  refine pure_ (i := 38) (N := some 141) (v := undef) (a' := ?_) b66_ rfl rfl (any_of HT_.out (by kernel_rfl)) (fun _ _ _ h => h) (Or.inr ⟨by rfl, rfl⟩) ?_ ?_; rotate_left
                  · simp only [Act.put, sets_, i64_w, i32_w]; rfl
                  refine pure_ (i := 39) (N := some 142) (v := undef) (a' := ?_) b67_ rfl rfl (any_of HT_.out (by kernel_rfl)) (fun _ _ _ h => h) (Or.inr ⟨by rfl, rfl⟩) ?_ ?_; rotate_left
                  · simp only [Act.put, sets_, i64_w, i32_w]; rfl
                  refine pure_ (i := 40) (N := some 143) (v := undef) (a' := ?_) b68_ rfl rfl (any_of HT_.out (by kernel_rfl)) (fun _ _ _ h => h) (Or.inr ⟨by rfl, rfl⟩) ?_ ?_; rotate_left
                  · simp only [Act.put, sets_, i64_w, i32_w]; rfl
                  refine pure_ (i := 41) (N := some 144) (v := undef) (a' := ?_) b69_ rfl rfl (any_of HT_.out (by kernel_rfl)) (fun _ _ _ h => h) (Or.inr ⟨by rfl, rfl⟩) ?_ ?_; rotate_left
                  · simp only [Act.put, sets_, i64_w, i32_w]; rfl
                  refine pure_ (i := 42) (N := some 145) (v := undef) (a' := ?_) b70_ rfl rfl (any_of HT_.out (by kernel_rfl)) (fun _ _ _ h => h) (Or.inr ⟨by rfl, rfl⟩) ?_ ?_; rotate_left
                  · simp only [Act.put, sets_, i64_w, i32_w]; rfl
                  refine pure_ (i := 43) (N := some 146) (v := undef) (a' := ?_) b71_ rfl rfl (any_of HT_.out (by kernel_rfl)) (fun _ _ _ h => h) (Or.inr ⟨by rfl, rfl⟩) ?_ ?_; rotate_left
                  · simp only [Act.put, sets_, i64_w, i32_w]; rfl
                  refine pure_ (i := 44) (N := some 147) (v := undef) (a' := ?_) b72_ rfl rfl (any_of HT_.out (by kernel_rfl)) (fun _ _ _ h => h) (Or.inr ⟨by rfl, rfl⟩) ?_ ?_; rotate_left
                  · simp only [Act.put, sets_, i64_w, i32_w]; rfl
                  refine pure_ (i := 45) (N := some 148) (v := undef) (a' := ?_) b73_ rfl rfl (any_of HT_.out (by kernel_rfl)) (fun _ _ _ h => h) (Or.inr ⟨by rfl, rfl⟩) ?_ ?_; rotate_left
                  · simp only [Act.put, sets_, i64_w, i32_w]; rfl
                  refine pure_ (i := 46) (N := some 149) (v := undef) (a' := ?_) b74_ rfl rfl (any_of HT_.out (by kernel_rfl)) (fun _ _ _ h => h) (Or.inr ⟨by rfl, rfl⟩) ?_ ?_; rotate_left
                  · simp only [Act.put, sets_, i64_w, i32_w]; rfl
                  refine pure_ (i := 47) (N := some 150) (v := undef) (a' := ?_) b75_ rfl rfl (any_of HT_.out (by kernel_rfl)) (fun _ _ _ h => h) (Or.inr ⟨by rfl, rfl⟩) ?_ ?_; rotate_left
                  · simp only [Act.put, sets_, i64_w, i32_w]; rfl
                  refine pure_ (i := 48) (N := some 151) (v := ?_) (a' := ?_) b76_ rfl rfl (any_of HT_.out (by kernel_rfl)) (fun _ _ _ h => h) (Or.inl ⟨by rfl, ?_⟩) ?_ ?_; rotate_left
                  · intro w'; go_simp; with_reducible rfl
                  rotate_left
                  · simp only [Act.put, sets_, i64_w, i32_w]; rfl
                  refine done_ (done_of HT_.out (by kernel_rfl)) ?_
                  try go_wp2
                  go_ret
                  exact ⟨by first | rfl | (simp [errW_none, errW_some] <;> rfl) | (simp [*, errW_none, errW_some] <;> rfl), by repeat (first | (with_reducible first | exact HB.out | apply below_alloc | apply pw_below_drewN | apply below_drew1 | refine below_set ?_ GE142.out) | exact HB.out)⟩
                rw [if_neg c80] at H
                have c80b0 : decide (((rd_L1 t151 x16_3).length : Int) < ((rd_L1 t178 x16_3).length : Int)) = false := decide_eq_false c80
                have c80b1 : decide ((rd_L1 t151 x16_3).length < (rd_L1 t178 x16_3).length) = false := decide_eq_false (fun h => c80 (Int.ofNat_lt.mpr h))
                clear c80
                by_cases c84 : 0 ≤ ((rd_L1 t178 x16_3).length : Int)
                rotate_left
                · rw [if_neg c84] at H
                  exact absurd H (by simp)
                rw [if_pos c84] at H
                have c84b0 := eq_true c84
                have c84b1 : decide (0 ≤ ((rd_L1 t178 x16_3).length : Int)) = true := decide_eq_true c84
                clear c84
                by_cases c85 : ((rd_L1 t178 x16_3).length : Int) ≤ ((rd_L1 t151 x16_3).length : Int)
                rotate_left
                · rw [if_neg c85] at H
                  exact absurd H (by simp)
                rw [if_pos c85] at H
                have c85b0 := eq_true c85
                have c85b1 : decide (((rd_L1 t178 x16_3).length : Int) ≤ ((rd_L1 t151 x16_3).length : Int)) = true := decide_eq_true c85
                clear c85
                obtain ⟨y189, hy189⟩ : ∃ y_ : List Int, y_ = ((rd_L1 t151 x16_3).take (((rd_L1 t178 x16_3).length : Int) : Int).toNat) := ⟨_, rfl⟩
                replace H : ((encoreref00_EqBytes.f k3 (rd_L1 t178 x16_3) y189).bind fun t194 => (if t194 = true then (if (wrap64 (x16_3 + 1)) < (t178.length : Int) then (if ((rd_L1 t178 x16_3).length : Int) = ((rd_L1 t151 x16_3).length : Int) then (encorelaw05_StripTorn.l0 k3 t151 t178 (wrap64 (x16_3 + 1))) else (some false)) else (encorelaw05_StripTorn.l0 k3 t151 t178 (wrap64 (x16_3 + 1)))) else (some false))) = some r := by first | (rw [hy189]; with_reducible exact H) | (have H2_ := (Option.bind_some _ _).symm.trans H; rw [hy189]; with_reducible exact H2_) | (have H2_ := (Option.bind_some _ _).symm.trans H; with_reducible exact H2_) | with_reducible exact H | (rw [hy189]; exact H) | exact H
                have Ny189 := Aside0.mk hy189
                clear hy189
                replace H := Option.bind_eq_some_iff.mp H
                obtain ⟨t194, A860, H⟩ := H
                replace H : (if t194 = true then (if (wrap64 (x16_3 + 1)) < (t178.length : Int) then (if ((rd_L1 t178 x16_3).length : Int) = ((rd_L1 t151 x16_3).length : Int) then (encorelaw05_StripTorn.l0 k3 t151 t178 (wrap64 (x16_3 + 1))) else (some false)) else (encorelaw05_StripTorn.l0 k3 t151 t178 (wrap64 (x16_3 + 1)))) else (some false)) = some r := H
                have A86 := Aside0.mk A860
                clear A860
                by_cases c87 : t194 = true
                rotate_left
                · replace c87 := Bool.eq_false_iff.mpr c87
                  subst c87
                  have H1 : (some false) = some r := by rw [if_neg (show ¬ (false = true) by decide)] at H; exact H
                  clear H
                  have H := H1
                  clear H1
                  obtain rfl := Option.some.inj H
                  obtain ⟨Ao102, co102, eo102⟩ := Kd.N_slice HO_14.out
                  subst eo102
                  try go_wp2
                  have n0_ := Aside0.mk (Kd.N_drew HO_9.out)
                  have n1_ := Aside0.mk (Kd.N_drew HO_14.out)
                  have n2_ := Aside0.mk (blk_drew BK142.out)
                  have n3_ := Aside0.mk (Kd.C_drew HR182_0.out)
                  have n4_ := Aside0.mk (below_drew1 HB.out)
                  clear HO_9 HO_14 BK142 HR182_0 HB; have HO_9 := n0_; have HO_14 := n1_; have BK142 := n2_; have HR182_0 := n3_; have HB := n4_; clear n0_ n1_ n2_ n3_ n4_
                  have p184 : 0 ≤ (x16_3 : Int) := of_decide_eq_true (by first | (with_reducible assumption) | assumption)
                  have q184 : x16_3 < (t178.length : Int) := of_decide_eq_true (by first | (with_reducible assumption) | assumption)
                  obtain ⟨ad184, A184_0, c184_0, e184, hx184_0, hl184_0, hi184_0⟩ := at_L1 (Kd.N_reads' HO_14.out).2.2 x16_3 p184 q184
                  cases e184
                  obtain ⟨ce184, hce184, hMe184, hcc184⟩ := Kd.N_get HO_14.out [] x16_3 p184 (by first | exact q184 | exact of_decide_eq_true (by first | (with_reducible assumption) | assumption) | (have e_ := (Kd.N_reads' HO_14.out).1; omega))
                  obtain ⟨ua184_0, uc184_0, rfl, ul184_0, ge184_0⟩ := Kd.FK_slice_open hMe184
                  have hv184_0 := hcc184 0 _ rfl
                  rw [Nat.add_zero, show ((Kd.slice 5 (Kd.int .u8))).sz = 1 from rfl, Nat.mul_one] at hv184_0
                  replace hv184_0 := Option.some.inj (hv184_0.symm.trans hx184_0)
                  injection hv184_0 with hva_ hvn_ hvc_
                  rw [hva_] at ge184_0
                  rw [hvc_] at ul184_0
                  have HL184_0 := Aside0.mk (show Kd.V (Kd.int .u8) 5 _ w.heap.size _ _ (rd_L1 t178 x16_3) from Kd.V_mk ul184_0 ge184_0)
                  clear hva_ hvn_ hvc_ ge184_0 ul184_0 hcc184 hce184
                  have HR184_0 := Aside0.mk hi184_0
                  have HC184_0 := Aside0.mk hl184_0
                  clear hi184_0 hl184_0
                  replace p184 := eq_true p184
                  replace q184 := eq_true q184
                  obtain ⟨Ao104, co104, eo104⟩ := Kd.N_slice HO_9.out
                  (first | subst eo104 | (injection eo104 with f1_ f2_ f3_; have f4_ := f1_.symm; have f5_ := f3_.symm; clear f1_ f2_ f3_; subst f4_; subst f5_))
                  have p185 : 0 ≤ (x16_3 : Int) := of_decide_eq_true (by first | (with_reducible assumption) | assumption)
                  have q185 : x16_3 < (t151.length : Int) := of_decide_eq_true (by first | (with_reducible assumption) | assumption)
                  obtain ⟨ad185, A185_0, c185_0, e185, hx185_0, hl185_0, hi185_0⟩ := at_L1 (Kd.N_reads' HO_9.out).2.2 x16_3 p185 q185
                  cases e185
                  obtain ⟨ce185, hce185, hMe185, hcc185⟩ := Kd.N_get HO_9.out [] x16_3 p185 (by first | exact q185 | exact of_decide_eq_true (by first | (with_reducible assumption) | assumption) | (have e_ := (Kd.N_reads' HO_9.out).1; omega))
                  obtain ⟨ua185_0, uc185_0, rfl, ul185_0, ge185_0⟩ := Kd.FK_slice_open hMe185
                  have hv185_0 := hcc185 0 _ rfl
                  rw [Nat.add_zero, show ((Kd.slice 5 (Kd.int .u8))).sz = 1 from rfl, Nat.mul_one] at hv185_0
                  replace hv185_0 := Option.some.inj (hv185_0.symm.trans hx185_0)
                  injection hv185_0 with hva_ hvn_ hvc_
                  rw [hva_] at ge185_0
                  rw [hvc_] at ul185_0
                  have HL185_0 := Aside0.mk (show Kd.V (Kd.int .u8) 5 _ w.heap.size _ _ (rd_L1 t151 x16_3) from Kd.V_mk ul185_0 ge185_0)
                  clear hva_ hvn_ hvc_ ge185_0 ul185_0 hcc185 hce185
                  have HR185_0 := Aside0.mk hi185_0
                  have HC185_0 := Aside0.mk hl185_0
                  clear hi185_0 hl185_0
                  replace p185 := eq_true p185
                  replace q185 := eq_true q185
                  have p186 : 0 ≤ (x16_3 : Int) := of_decide_eq_true (by first | (with_reducible assumption) | assumption)
                  have q186 : x16_3 < (t178.length : Int) := of_decide_eq_true (by first | (with_reducible assumption) | assumption)
                  obtain ⟨ad186, A186_0, c186_0, e186, hx186_0, hl186_0, hi186_0⟩ := at_L1 (Kd.N_reads' HO_14.out).2.2 x16_3 p186 q186
                  obtain rfl : ad184 = ad186 := (by injection e186)
                  obtain ⟨ce186, hce186, hMe186, hcc186⟩ := Kd.N_get HO_14.out [] x16_3 p186 (by first | exact q186 | exact of_decide_eq_true (by first | (with_reducible assumption) | assumption) | (have e_ := (Kd.N_reads' HO_14.out).1; omega))
                  obtain ⟨ua186_0, uc186_0, rfl, ul186_0, ge186_0⟩ := Kd.FK_slice_open hMe186
                  have hv186_0 := hcc186 0 _ rfl
                  rw [Nat.add_zero, show ((Kd.slice 5 (Kd.int .u8))).sz = 1 from rfl, Nat.mul_one] at hv186_0
                  replace hv186_0 := Option.some.inj (hv186_0.symm.trans hx186_0)
                  injection hv186_0 with hva_ hvn_ hvc_
                  rw [hva_] at ge186_0
                  rw [hvc_] at ul186_0
                  have HL186_0 := Aside0.mk (show Kd.V (Kd.int .u8) 5 _ w.heap.size _ _ (rd_L1 t178 x16_3) from Kd.V_mk ul186_0 ge186_0)
                  clear hva_ hvn_ hvc_ ge186_0 ul186_0 hcc186 hce186
                  have HR186_0 := Aside0.mk hi186_0
                  have HC186_0 := Aside0.mk hl186_0
                  clear hi186_0 hl186_0
                  replace p186 := eq_true p186
                  replace q186 := eq_true q186
                  have ea_ := Option.some.inj (hx184_0.symm.trans hx186_0)
                  injection ea_ with ea_ en_ ec_
                  subst ea_
                  subst ec_
                  clear en_
                  have p187 : 0 ≤ (x16_3 : Int) := of_decide_eq_true (by first | (with_reducible assumption) | assumption)
                  have q187 : x16_3 < (t151.length : Int) := of_decide_eq_true (by first | (with_reducible assumption) | assumption)
                  obtain ⟨ad187, A187_0, c187_0, e187, hx187_0, hl187_0, hi187_0⟩ := at_L1 (Kd.N_reads' HO_9.out).2.2 x16_3 p187 q187
                  obtain rfl : ad185 = ad187 := (by injection e187)
                  obtain ⟨ce187, hce187, hMe187, hcc187⟩ := Kd.N_get HO_9.out [] x16_3 p187 (by first | exact q187 | exact of_decide_eq_true (by first | (with_reducible assumption) | assumption) | (have e_ := (Kd.N_reads' HO_9.out).1; omega))
                  obtain ⟨ua187_0, uc187_0, rfl, ul187_0, ge187_0⟩ := Kd.FK_slice_open hMe187
                  have hv187_0 := hcc187 0 _ rfl
                  rw [Nat.add_zero, show ((Kd.slice 5 (Kd.int .u8))).sz = 1 from rfl, Nat.mul_one] at hv187_0
                  replace hv187_0 := Option.some.inj (hv187_0.symm.trans hx187_0)
                  injection hv187_0 with hva_ hvn_ hvc_
                  rw [hva_] at ge187_0
                  rw [hvc_] at ul187_0
                  have HL187_0 := Aside0.mk (show Kd.V (Kd.int .u8) 5 _ w.heap.size _ _ (rd_L1 t151 x16_3) from Kd.V_mk ul187_0 ge187_0)
                  clear hva_ hvn_ hvc_ ge187_0 ul187_0 hcc187 hce187
                  have HR187_0 := Aside0.mk hi187_0
                  have HC187_0 := Aside0.mk hl187_0
                  clear hi187_0 hl187_0
                  replace p187 := eq_true p187
                  replace q187 := eq_true q187
                  have ea_ := Option.some.inj (hx185_0.symm.trans hx187_0)
                  injection ea_ with ea_ en_ ec_
                  subst ea_
                  subst ec_
                  clear en_
                  have p188 : 0 ≤ (x16_3 : Int) := of_decide_eq_true (by first | (with_reducible assumption) | assumption)
                  have q188 : x16_3 < (t178.length : Int) := of_decide_eq_true (by first | (with_reducible assumption) | assumption)
                  obtain ⟨ad188, A188_0, c188_0, e188, hx188_0, hl188_0, hi188_0⟩ := at_L1 (Kd.N_reads' HO_14.out).2.2 x16_3 p188 q188
                  obtain rfl : ad184 = ad188 := (by injection e188)
                  obtain ⟨ce188, hce188, hMe188, hcc188⟩ := Kd.N_get HO_14.out [] x16_3 p188 (by first | exact q188 | exact of_decide_eq_true (by first | (with_reducible assumption) | assumption) | (have e_ := (Kd.N_reads' HO_14.out).1; omega))
                  obtain ⟨ua188_0, uc188_0, rfl, ul188_0, ge188_0⟩ := Kd.FK_slice_open hMe188
                  have hv188_0 := hcc188 0 _ rfl
                  rw [Nat.add_zero, show ((Kd.slice 5 (Kd.int .u8))).sz = 1 from rfl, Nat.mul_one] at hv188_0
                  replace hv188_0 := Option.some.inj (hv188_0.symm.trans hx188_0)
                  injection hv188_0 with hva_ hvn_ hvc_
                  rw [hva_] at ge188_0
                  rw [hvc_] at ul188_0
                  have HL188_0 := Aside0.mk (show Kd.V (Kd.int .u8) 5 _ w.heap.size _ _ (rd_L1 t178 x16_3) from Kd.V_mk ul188_0 ge188_0)
                  clear hva_ hvn_ hvc_ ge188_0 ul188_0 hcc188 hce188
                  have HR188_0 := Aside0.mk hi188_0
                  have HC188_0 := Aside0.mk hl188_0
                  clear hi188_0 hl188_0
                  replace p188 := eq_true p188
                  replace q188 := eq_true q188
                  have ea_ := Option.some.inj (hx184_0.symm.trans hx188_0)
                  injection ea_ with ea_ en_ ec_
                  subst ea_
                  subst ec_
                  clear en_
                  have q105 : (((rd_L1 t178 x16_3).length : Int) : Int) ≤ (((rd_L1 t151 x16_3).length : Int) : Int) := of_decide_eq_true (by first | (with_reducible assumption) | assumption)
                  obtain ⟨i0105, hi0105, _, hsz105, _⟩ := info_parts info5
                  have hroom105 : (rd_L1 t151 x16_3).length ≤ c185_0 := HC187_0.out
                  have hC105 : Kd.F (Kd.int .u8) _ _ A185_0 (rd_L1 t151 x16_3).length (rd_L1 t151 x16_3) := (Kd.V_at (base := w.heap.size) HL187_0.out).2.2
                  have hcut105 := cut_to (P := Try.prog) 24 5 .i64 Try.underlying24 hi0105 A185_0 (rd_L1 t151 x16_3).length c185_0 ((rd_L1 t178 x16_3).length : Int) (of_decide_eq_true (by first | (with_reducible assumption) | assumption)) q105 hroom105
                  have hr105 := Kd.F_take (m := (((rd_L1 t178 x16_3).length : Int) : Int).toNat) hC105 (by omega)
                  have hy105 : y189.length = (((rd_L1 t178 x16_3).length : Int) : Int).toNat := (by rw [Ny189.out, List.length_take]; omega)
                  rw [← Ny189.out] at hr105
                  rw [← hy105] at hcut105
                  have HO193 := Aside0.mk (show Kd.V (Kd.int .u8) 5 _ w.heap.size _ (.slice A185_0 y189.length c185_0) y189 from Kd.V_mk (by omega) hr105)
                  have HC193 := Aside0.mk (show y189.length ≤ c185_0 from by omega)
                  clear hr105 hC105 hroom105 hi0105 hsz105
                  have KY105 := Aside0.mk hy105
                  clear hy105
                  replace q105 := eq_true q105
                  refine start_ (n := 49) (S := fun w' => w'.cell? (ad184.add (x16_3).toNat) = some (.slice A184_0 (rd_L1 t178 x16_3).length c184_0) ∧ w'.cell? (ad185.add (x16_3).toNat) = some (.slice A185_0 (rd_L1 t151 x16_3).length c185_0) ∧ w'.cell? (ad184.add (x16_3).toNat) = some (.slice A184_0 (rd_L1 t178 x16_3).length c184_0) ∧ w'.cell? (ad185.add (x16_3).toNat) = some (.slice A185_0 (rd_L1 t151 x16_3).length c185_0) ∧ w'.cell? (ad184.add (x16_3).toNat) = some (.slice A184_0 (rd_L1 t178 x16_3).length c184_0)) (ds := []) b27_ (by kernel_rfl) rfl rfl ⟨hx184_0, hx185_0, hx186_0, hx187_0, hx188_0⟩ (fun hHeld => ?_); refine with_tabW encorelaw05_StripTorn.tab18 encorelaw05_StripTorn.bits18 (fun HT_ HW_ => ?_)
                  generalize wr.drew = w103 at HO_9 HO_14 BK142 HR182_0 HB HL184_0 HL185_0 HL186_0 HL187_0 HL188_0 HO193 HR184_0 HR185_0 HR186_0 HR187_0 HR188_0 hx184_0 hx185_0 hx186_0 hx187_0 hx188_0 hHeld ⊢
                  refine pure_ (i := 0) (N := some 103) (v := ?_) (a' := ?_) b28_ rfl rfl (any_of HT_.out (by kernel_rfl)) (fun _ _ _ h => h) (Or.inl ⟨by rfl, ?_⟩) ?_ ?_; rotate_left
                  · intro w'; go_simp; with_reducible rfl
                  rotate_left
                  · simp only [Act.put, sets_, i64_w, i32_w]; rfl
                  refine pure_ (i := 1) (N := some 104) (v := ?_) (a' := ?_) b29_ rfl rfl (any_of HT_.out (by kernel_rfl)) (fun _ _ _ h => h) (Or.inl ⟨by rfl, ?_⟩) ?_ ?_; rotate_left
                  · intro w'; go_simp; with_reducible rfl
                  rotate_left
                  · simp only [Act.put, sets_, i64_w, i32_w]; rfl
                  refine pure_ (i := 2) (N := some 105) (v := ?_) (a' := ?_) b30_ rfl rfl (any_of HT_.out (by kernel_rfl)) (fun _ _ _ h => h) (Or.inl ⟨by rfl, ?_⟩) ?_ ?_; rotate_left
                  · intro w'; go_simp; with_reducible rfl
                  rotate_left
                  · simp only [Act.put, sets_, i64_w, i32_w]; rfl
                  refine pure_ (i := 5) (N := some 108) (v := ?_) (a' := ?_) b31_ rfl rfl (any_of HT_.out (by kernel_rfl)) (fun _ _ _ h => h) (Or.inl ⟨by rfl, ?_⟩) ?_ ?_; rotate_left
                  · intro w'; go_simp; with_reducible rfl
                  rotate_left
                  · simp only [Act.put, sets_, i64_w, i32_w]; rfl
                  refine pure_ (i := 6) (N := some 109) (v := ?_) (a' := ?_) b32_ rfl rfl (any_of HT_.out (by kernel_rfl)) (fun _ _ _ h => h) (Or.inl ⟨by rfl, ?_⟩) ?_ ?_; rotate_left
                  · intro w'; go_simp; with_reducible rfl
                  rotate_left
                  · simp only [Act.put, sets_, i64_w, i32_w]; rfl
                  refine pure_ (i := 7) (N := some 110) (v := ?_) (a' := ?_) b33_ rfl rfl (any_of HT_.out (by kernel_rfl)) (fun _ _ _ h => h) (Or.inl ⟨by rfl, ?_⟩) ?_ ?_; rotate_left
                  · intro w'; go_simp; with_reducible rfl
                  rotate_left
                  · simp only [Act.put, sets_, i64_w, i32_w]; rfl
                  refine take_ (i := 3) (N := some 106) (v := ?_) (a' := ?_) b34_ rfl rfl (take_ofW HT_.out HW_.out (by kernel_rfl)) (fun _ _ _ h => h) (Or.inl ⟨by rfl, ?_⟩) hHeld ?_ ?_; rotate_left
                  · rintro w' ⟨s0, s1, s2, s3, s4⟩
                    go_simp; with_reducible rfl
                  rotate_left
                  · simp only [Act.put, sets_, i64_w, i32_w]; rfl
                  refine pure_ (i := 4) (N := some 107) (v := ?_) (a' := ?_) b35_ rfl rfl (any_of HT_.out (by kernel_rfl)) (fun _ _ _ h => h) (Or.inl ⟨by rfl, ?_⟩) ?_ ?_; rotate_left
                  · intro w'; go_simp; with_reducible rfl
                  rotate_left
                  · simp only [Act.put, sets_, i64_w, i32_w]; rfl
                  refine take_ (i := 8) (N := some 111) (v := ?_) (a' := ?_) b36_ rfl rfl (take_ofW HT_.out HW_.out (by kernel_rfl)) (fun _ _ _ h => h) (Or.inl ⟨by rfl, ?_⟩) hHeld ?_ ?_; rotate_left
                  · rintro w' ⟨s0, s1, s2, s3, s4⟩
                    go_simp; with_reducible rfl
                  rotate_left
                  · simp only [Act.put, sets_, i64_w, i32_w]; rfl
                  refine pure_ (i := 9) (N := some 112) (v := ?_) (a' := ?_) b37_ rfl rfl (any_of HT_.out (by kernel_rfl)) (fun _ _ _ h => h) (Or.inl ⟨by rfl, ?_⟩) ?_ ?_; rotate_left
                  · intro w'; go_simp; with_reducible rfl
                  rotate_left
                  · simp only [Act.put, sets_, i64_w, i32_w]; rfl
                  refine pure_ (i := 10) (N := some 113) (v := ?_) (a' := ?_) b38_ rfl rfl (any_of HT_.out (by kernel_rfl)) (fun _ _ _ h => h) (Or.inl ⟨by rfl, ?_⟩) ?_ ?_; rotate_left
                  · intro w'; go_simp; with_reducible rfl
                  rotate_left
                  · simp only [Act.put, sets_, i64_w, i32_w]; rfl
                  refine pure_ (i := 11) (N := some 114) (v := ?_) (a' := ?_) b39_ rfl rfl (any_of HT_.out (by kernel_rfl)) (fun _ _ _ h => h) (Or.inl ⟨by rfl, ?_⟩) ?_ ?_; rotate_left
                  · intro w'; go_simp; with_reducible rfl
                  rotate_left
                  · simp only [Act.put, sets_, i64_w, i32_w]; rfl
                  refine pure_ (i := 12) (N := some 115) (v := ?_) (a' := ?_) b40_ rfl rfl (any_of HT_.out (by kernel_rfl)) (fun _ _ _ h => h) (Or.inl ⟨by rfl, ?_⟩) ?_ ?_; rotate_left
                  · intro w'; go_simp; with_reducible rfl
                  rotate_left
                  · simp only [Act.put, sets_, i64_w, i32_w]; rfl
                  refine pure_ (i := 13) (N := some 116) (v := ?_) (a' := ?_) b41_ rfl rfl (any_of HT_.out (by kernel_rfl)) (fun _ _ _ h => h) (Or.inl ⟨by rfl, ?_⟩) ?_ ?_; rotate_left
                  · intro w'; go_simp; with_reducible rfl
                  rotate_left
                  · simp only [Act.put, sets_, i64_w, i32_w]; rfl
                  refine pure_ (i := 14) (N := some 117) (v := ?_) (a' := ?_) b42_ rfl rfl (any_of HT_.out (by kernel_rfl)) (fun _ _ _ h => h) (Or.inl ⟨by rfl, ?_⟩) ?_ ?_; rotate_left
                  · intro w'; go_simp; with_reducible rfl
                  rotate_left
                  · simp only [Act.put, sets_, i64_w, i32_w]; rfl
                  refine pure_ (i := 16) (N := some 119) (v := ?_) (a' := ?_) b77_ rfl rfl (any_of HT_.out (by kernel_rfl)) (fun _ _ _ h => h) (Or.inl ⟨by rfl, ?_⟩) ?_ ?_; rotate_left
                  · intro w'; go_simp; with_reducible rfl
                  rotate_left
                  · simp only [Act.put, sets_, i64_w, i32_w]; rfl
                  refine pure_ (i := 17) (N := some 120) (v := ?_) (a' := ?_) b78_ rfl rfl (any_of HT_.out (by kernel_rfl)) (fun _ _ _ h => h) (Or.inl ⟨by rfl, ?_⟩) ?_ ?_; rotate_left
                  · intro w'; go_simp; with_reducible rfl
                  rotate_left
                  · simp only [Act.put, sets_, i64_w, i32_w]; rfl
                  refine pure_ (i := 18) (N := some 121) (v := ?_) (a' := ?_) b79_ rfl rfl (any_of HT_.out (by kernel_rfl)) (fun _ _ _ h => h) (Or.inl ⟨by rfl, ?_⟩) ?_ ?_; rotate_left
                  · intro w'; go_simp; with_reducible rfl
                  rotate_left
                  · simp only [Act.put, sets_, i64_w, i32_w]; rfl
                  refine pure_ (i := 20) (N := some 123) (v := ?_) (a' := ?_) b80_ rfl rfl (any_of HT_.out (by kernel_rfl)) (fun _ _ _ h => h) (Or.inl ⟨by rfl, ?_⟩) ?_ ?_; rotate_left
                  · intro w'; go_simp; with_reducible rfl
                  rotate_left
                  · simp only [Act.put, sets_, i64_w, i32_w]; rfl
                  refine pure_ (i := 21) (N := some 124) (v := ?_) (a' := ?_) b81_ rfl rfl (any_of HT_.out (by kernel_rfl)) (fun _ _ _ h => h) (Or.inl ⟨by rfl, ?_⟩) ?_ ?_; rotate_left
                  · intro w'; go_simp; with_reducible rfl
                  rotate_left
                  · simp only [Act.put, sets_, i64_w, i32_w]; rfl
                  refine pure_ (i := 22) (N := some 125) (v := ?_) (a' := ?_) b82_ rfl rfl (any_of HT_.out (by kernel_rfl)) (fun _ _ _ h => h) (Or.inl ⟨by rfl, ?_⟩) ?_ ?_; rotate_left
                  · intro w'; go_simp; with_reducible rfl
                  rotate_left
                  · simp only [Act.put, sets_, i64_w, i32_w]; rfl
                  refine take_ (i := 15) (N := some 118) (v := ?_) (a' := ?_) b83_ rfl rfl (take_ofW HT_.out HW_.out (by kernel_rfl)) (fun _ _ _ h => h) (Or.inl ⟨by rfl, ?_⟩) hHeld ?_ ?_; rotate_left
                  · rintro w' ⟨s0, s1, s2, s3, s4⟩
                    go_simp; with_reducible rfl
                  rotate_left
                  · simp only [Act.put, sets_, i64_w, i32_w]; rfl
                  refine take_ (i := 19) (N := some 122) (v := ?_) (a' := ?_) b50_ rfl rfl (take_ofW HT_.out HW_.out (by kernel_rfl)) (fun _ _ _ h => h) (Or.inl ⟨by rfl, ?_⟩) hHeld ?_ ?_; rotate_left
                  · rintro w' ⟨s0, s1, s2, s3, s4⟩
                    go_simp; with_reducible rfl
                  rotate_left
                  · simp only [Act.put, sets_, i64_w, i32_w]; rfl
                  refine take_ (i := 23) (N := some 126) (v := ?_) (a' := ?_) b51_ rfl rfl (take_ofW HT_.out HW_.out (by kernel_rfl)) (fun _ _ _ h => h) (Or.inl ⟨by rfl, ?_⟩) hHeld ?_ ?_; rotate_left
                  · rintro w' ⟨s0, s1, s2, s3, s4⟩
                    go_simp; with_reducible rfl
                  rotate_left
                  · simp only [Act.put, sets_, i64_w, i32_w]; rfl
                  refine pure_ (i := 24) (N := some 127) (v := ?_) (a' := ?_) b52_ rfl rfl (any_of HT_.out (by kernel_rfl)) (fun _ _ _ h => h) (Or.inl ⟨by rfl, ?_⟩) ?_ ?_; rotate_left
                  · intro w'; go_simp; with_reducible rfl
                  rotate_left
                  · simp only [Act.put, sets_, i64_w, i32_w]; rfl
                  refine pure_ (i := 25) (N := some 128) (v := ?_) (a' := ?_) b53_ rfl rfl (any_of HT_.out (by kernel_rfl)) (fun _ _ _ h => h) (Or.inl ⟨by rfl, ?_⟩) ?_ ?_; rotate_left
                  · intro w'; go_simp; with_reducible rfl
                  rotate_left
                  · simp only [Act.put, sets_, i64_w, i32_w]; rfl
                  refine one_ (i := 26) (N := some 129) b54_ rfl rfl (one_of HT_.out (by kernel_rfl)) (by decide) (fun K hK => ?_)
                  refine goes_ Try.func19 (by kernel_rfl) rfl #[.slice A184_0 (rd_L1 t178 x16_3).length c184_0, .slice A185_0 y189.length c185_0] (by rfl) rfl rfl (by (try simp only [List.map_toArray, List.map_cons, List.map_nil]); first | done | rfl | (simp only [List.length_drop, List.length_take]; rfl)) ?_
                  with_reducible refine (encoreref00_EqBytes.calls k3 _ _ (rd_L1 t178 x16_3) _ _ y189 false _ ?side1 ?side2 ?side3 ?side4 A86.out).mono ?_
                  (case side1 => repeat (first | exact (by repeat (first | (with_reducible exact HR186_0.out) | (with_reducible refine Kd.C_alloc ?_ _) | (with_reducible refine Kd.C_drewN ?_ _) | (with_reducible refine Kd.C_drew ?_) | exact HR186_0.out)) | (with_reducible refine Kd.C_alloc ?_ _) | (with_reducible refine Kd.C_drewN ?_ _) | (with_reducible refine Kd.C_drew ?_)))
                  (case side2 => exact HC186_0.out)
                  (case side3 => repeat (first | exact (Kd.V_reads' HO193.out).2.2 | (with_reducible refine Kd.C_alloc ?_ _) | (with_reducible refine Kd.C_drewN ?_ _) | (with_reducible refine Kd.C_drew ?_)))
                  (case side4 => exact (Kd.V_reads' HO193.out).2.1)
                  rintro e w' ⟨rfl, ⟨nd, rfl⟩⟩
                  refine ⟨_, rfl, ?_⟩
                  refine hK.out _ _ ⟨hHeld.1, hHeld.2.1, hHeld.2.2.1, hHeld.2.2.2.1, hHeld.2.2.2.2⟩ (fun hHeld => ?_)
                  clear hK K
                  refine norm_ (a' := ?_) ?_ ?_
                  rotate_left
                  · show Act.put _ (some 129) _ = _
                    simp only [Act.put, sets_, i64_w, i32_w]; rfl
                  refine pure_ (i := 27) (N := some 130) (v := ?_) (a' := ?_) b55_ rfl rfl (any_of HT_.out (by kernel_rfl)) (fun _ _ _ h => h) (Or.inl ⟨by rfl, ?_⟩) ?_ ?_; rotate_left
                  · intro w'; go_simp; with_reducible rfl
                  rotate_left
                  · simp only [Act.put, sets_, i64_w, i32_w]; rfl
                  refine pure_ (i := 28) (N := some 131) (v := ?_) (a' := ?_) b56_ rfl rfl (any_of HT_.out (by kernel_rfl)) (fun _ _ _ h => h) (Or.inl ⟨by rfl, ?_⟩) ?_ ?_; rotate_left
                  · intro w'; go_simp; with_reducible rfl
                  rotate_left
                  · simp only [Act.put, sets_, i64_w, i32_w]; rfl
                  refine pure_ (i := 29) (N := some 132) (v := ?_) (a' := ?_) b57_ rfl rfl (any_of HT_.out (by kernel_rfl)) (fun _ _ _ h => h) (Or.inl ⟨by rfl, ?_⟩) ?_ ?_; rotate_left
                  · intro w'; go_simp; with_reducible rfl
                  rotate_left
                  · simp only [Act.put, sets_, i64_w, i32_w]; rfl
                  refine pure_ (i := 30) (N := some 133) (v := undef) (a' := ?_) b58_ rfl rfl (any_of HT_.out (by kernel_rfl)) (fun _ _ _ h => h) (Or.inr ⟨by rfl, rfl⟩) ?_ ?_; rotate_left
                  · simp only [Act.put, sets_, i64_w, i32_w]; rfl
                  refine pure_ (i := 31) (N := some 134) (v := undef) (a' := ?_) b59_ rfl rfl (any_of HT_.out (by kernel_rfl)) (fun _ _ _ h => h) (Or.inr ⟨by rfl, rfl⟩) ?_ ?_; rotate_left
                  · simp only [Act.put, sets_, i64_w, i32_w]; rfl
                  refine pure_ (i := 32) (N := some 135) (v := undef) (a' := ?_) b60_ rfl rfl (any_of HT_.out (by kernel_rfl)) (fun _ _ _ h => h) (Or.inr ⟨by rfl, rfl⟩) ?_ ?_; rotate_left
                  · simp only [Act.put, sets_, i64_w, i32_w]; rfl
                  refine pure_ (i := 33) (N := some 136) (v := undef) (a' := ?_) b61_ rfl rfl (any_of HT_.out (by kernel_rfl)) (fun _ _ _ h => h) (Or.inr ⟨by rfl, rfl⟩) ?_ ?_; rotate_left
                  · simp only [Act.put, sets_, i64_w, i32_w]; rfl
                  refine pure_ (i := 34) (N := some 137) (v := undef) (a' := ?_) b62_ rfl rfl (any_of HT_.out (by kernel_rfl)) (fun _ _ _ h => h) (Or.inr ⟨by rfl, rfl⟩) ?_ ?_; rotate_left
                  · simp only [Act.put, sets_, i64_w, i32_w]; rfl
                  refine pure_ (i := 35) (N := some 138) (v := undef) (a' := ?_) b63_ rfl rfl (any_of HT_.out (by kernel_rfl)) (fun _ _ _ h => h) (Or.inr ⟨by rfl, rfl⟩) ?_ ?_; rotate_left
                  · simp only [Act.put, sets_, i64_w, i32_w]; rfl
                  refine pure_ (i := 36) (N := some 139) (v := undef) (a' := ?_) b64_ rfl rfl (any_of HT_.out (by kernel_rfl)) (fun _ _ _ h => h) (Or.inr ⟨by rfl, rfl⟩) ?_ ?_; rotate_left
                  · simp only [Act.put, sets_, i64_w, i32_w]; rfl
                  refine pure_ (i := 37) (N := some 140) (v := undef) (a' := ?_) b65_ rfl rfl (any_of HT_.out (by kernel_rfl)) (fun _ _ _ h => h) (Or.inr ⟨by rfl, rfl⟩) ?_ ?_; rotate_left
                  · simp only [Act.put, sets_, i64_w, i32_w]; rfl
                  refine pure_ (i := 38) (N := some 141) (v := undef) (a' := ?_) b66_ rfl rfl (any_of HT_.out (by kernel_rfl)) (fun _ _ _ h => h) (Or.inr ⟨by rfl, rfl⟩) ?_ ?_; rotate_left
                  · simp only [Act.put, sets_, i64_w, i32_w]; rfl
                  refine pure_ (i := 39) (N := some 142) (v := undef) (a' := ?_) b67_ rfl rfl (any_of HT_.out (by kernel_rfl)) (fun _ _ _ h => h) (Or.inr ⟨by rfl, rfl⟩) ?_ ?_; rotate_left
                  · simp only [Act.put, sets_, i64_w, i32_w]; rfl
                  refine pure_ (i := 40) (N := some 143) (v := undef) (a' := ?_) b68_ rfl rfl (any_of HT_.out (by kernel_rfl)) (fun _ _ _ h => h) (Or.inr ⟨by rfl, rfl⟩) ?_ ?_; rotate_left
                  · simp only [Act.put, sets_, i64_w, i32_w]; rfl
                  refine pure_ (i := 41) (N := some 144) (v := undef) (a' := ?_) b69_ rfl rfl (any_of HT_.out (by kernel_rfl)) (fun _ _ _ h => h) (Or.inr ⟨by rfl, rfl⟩) ?_ ?_; rotate_left
                  · simp only [Act.put, sets_, i64_w, i32_w]; rfl
                  refine pure_ (i := 42) (N := some 145) (v := undef) (a' := ?_) b70_ rfl rfl (any_of HT_.out (by kernel_rfl)) (fun _ _ _ h => h) (Or.inr ⟨by rfl, rfl⟩) ?_ ?_; rotate_left
                  · simp only [Act.put, sets_, i64_w, i32_w]; rfl
                  refine pure_ (i := 43) (N := some 146) (v := undef) (a' := ?_) b71_ rfl rfl (any_of HT_.out (by kernel_rfl)) (fun _ _ _ h => h) (Or.inr ⟨by rfl, rfl⟩) ?_ ?_; rotate_left
                  · simp only [Act.put, sets_, i64_w, i32_w]; rfl
                  refine pure_ (i := 44) (N := some 147) (v := undef) (a' := ?_) b72_ rfl rfl (any_of HT_.out (by kernel_rfl)) (fun _ _ _ h => h) (Or.inr ⟨by rfl, rfl⟩) ?_ ?_; rotate_left
                  · simp only [Act.put, sets_, i64_w, i32_w]; rfl
                  refine pure_ (i := 45) (N := some 148) (v := undef) (a' := ?_) b73_ rfl rfl (any_of HT_.out (by kernel_rfl)) (fun _ _ _ h => h) (Or.inr ⟨by rfl, rfl⟩) ?_ ?_; rotate_left
                  · simp only [Act.put, sets_, i64_w, i32_w]; rfl
                  refine pure_ (i := 46) (N := some 149) (v := undef) (a' := ?_) b74_ rfl rfl (any_of HT_.out (by kernel_rfl)) (fun _ _ _ h => h) (Or.inr ⟨by rfl, rfl⟩) ?_ ?_; rotate_left
                  · simp only [Act.put, sets_, i64_w, i32_w]; rfl
                  refine pure_ (i := 47) (N := some 150) (v := undef) (a' := ?_) b75_ rfl rfl (any_of HT_.out (by kernel_rfl)) (fun _ _ _ h => h) (Or.inr ⟨by rfl, rfl⟩) ?_ ?_; rotate_left
                  · simp only [Act.put, sets_, i64_w, i32_w]; rfl
                  refine pure_ (i := 48) (N := some 151) (v := ?_) (a' := ?_) b76_ rfl rfl (any_of HT_.out (by kernel_rfl)) (fun _ _ _ h => h) (Or.inl ⟨by rfl, ?_⟩) ?_ ?_; rotate_left
                  · intro w'; go_simp; with_reducible rfl
                  rotate_left
                  · simp only [Act.put, sets_, i64_w, i32_w]; rfl
                  refine done_ (done_of HT_.out (by kernel_rfl)) ?_
                  try go_wp2
                  go_ret
                  exact ⟨by first | rfl | (simp [errW_none, errW_some] <;> rfl) | (simp [*, errW_none, errW_some] <;> rfl), by repeat (first | (with_reducible first | exact HB.out | apply below_alloc | apply pw_below_drewN | apply below_drew1 | refine below_set ?_ GE142.out) | exact HB.out)⟩
                subst c87
                have H1 : (if (wrap64 (x16_3 + 1)) < (t178.length : Int) then (if ((rd_L1 t178 x16_3).length : Int) = ((rd_L1 t151 x16_3).length : Int) then (encorelaw05_StripTorn.l0 k3 t151 t178 (wrap64 (x16_3 + 1))) else (some false)) else (encorelaw05_StripTorn.l0 k3 t151 t178 (wrap64 (x16_3 + 1)))) = some r := by rw [if_pos rfl] at H; exact H
                clear H
                have H := H1
                clear H1
                by_cases c88 : (wrap64 (x16_3 + 1)) < (t178.length : Int)
                rotate_left
                · rw [if_neg c88] at H
                  have c88b0 : decide ((wrap64 (x16_3 + 1)) < (t178.length : Int)) = false := decide_eq_false c88
                  clear c88
                  have H' := Aside0.mk H
                  clear H
                  obtain ⟨Ao98, co98, eo98⟩ := Kd.N_slice HO_14.out
                  subst eo98
                  try go_wp2
                  have n0_ := Aside0.mk (Kd.N_drew HO_9.out)
                  have n1_ := Aside0.mk (Kd.N_drew HO_14.out)
                  have n2_ := Aside0.mk (blk_drew BK142.out)
                  have n3_ := Aside0.mk (Kd.C_drew HR182_0.out)
                  have n4_ := Aside0.mk (below_drew1 HB.out)
                  clear HO_9 HO_14 BK142 HR182_0 HB; have HO_9 := n0_; have HO_14 := n1_; have BK142 := n2_; have HR182_0 := n3_; have HB := n4_; clear n0_ n1_ n2_ n3_ n4_
                  have p184 : 0 ≤ (x16_3 : Int) := of_decide_eq_true (by first | (with_reducible assumption) | assumption)
                  have q184 : x16_3 < (t178.length : Int) := of_decide_eq_true (by first | (with_reducible assumption) | assumption)
                  obtain ⟨ad184, A184_0, c184_0, e184, hx184_0, hl184_0, hi184_0⟩ := at_L1 (Kd.N_reads' HO_14.out).2.2 x16_3 p184 q184
                  cases e184
                  obtain ⟨ce184, hce184, hMe184, hcc184⟩ := Kd.N_get HO_14.out [] x16_3 p184 (by first | exact q184 | exact of_decide_eq_true (by first | (with_reducible assumption) | assumption) | (have e_ := (Kd.N_reads' HO_14.out).1; omega))
                  obtain ⟨ua184_0, uc184_0, rfl, ul184_0, ge184_0⟩ := Kd.FK_slice_open hMe184
                  have hv184_0 := hcc184 0 _ rfl
                  rw [Nat.add_zero, show ((Kd.slice 5 (Kd.int .u8))).sz = 1 from rfl, Nat.mul_one] at hv184_0
                  replace hv184_0 := Option.some.inj (hv184_0.symm.trans hx184_0)
                  injection hv184_0 with hva_ hvn_ hvc_
                  rw [hva_] at ge184_0
                  rw [hvc_] at ul184_0
                  have HL184_0 := Aside0.mk (show Kd.V (Kd.int .u8) 5 _ w.heap.size _ _ (rd_L1 t178 x16_3) from Kd.V_mk ul184_0 ge184_0)
                  clear hva_ hvn_ hvc_ ge184_0 ul184_0 hcc184 hce184
                  have HR184_0 := Aside0.mk hi184_0
                  have HC184_0 := Aside0.mk hl184_0
                  clear hi184_0 hl184_0
                  replace p184 := eq_true p184
                  replace q184 := eq_true q184
                  obtain ⟨Ao100, co100, eo100⟩ := Kd.N_slice HO_9.out
                  (first | subst eo100 | (injection eo100 with f1_ f2_ f3_; have f4_ := f1_.symm; have f5_ := f3_.symm; clear f1_ f2_ f3_; subst f4_; subst f5_))
                  have p185 : 0 ≤ (x16_3 : Int) := of_decide_eq_true (by first | (with_reducible assumption) | assumption)
                  have q185 : x16_3 < (t151.length : Int) := of_decide_eq_true (by first | (with_reducible assumption) | assumption)
                  obtain ⟨ad185, A185_0, c185_0, e185, hx185_0, hl185_0, hi185_0⟩ := at_L1 (Kd.N_reads' HO_9.out).2.2 x16_3 p185 q185
                  cases e185
                  obtain ⟨ce185, hce185, hMe185, hcc185⟩ := Kd.N_get HO_9.out [] x16_3 p185 (by first | exact q185 | exact of_decide_eq_true (by first | (with_reducible assumption) | assumption) | (have e_ := (Kd.N_reads' HO_9.out).1; omega))
                  obtain ⟨ua185_0, uc185_0, rfl, ul185_0, ge185_0⟩ := Kd.FK_slice_open hMe185
                  have hv185_0 := hcc185 0 _ rfl
                  rw [Nat.add_zero, show ((Kd.slice 5 (Kd.int .u8))).sz = 1 from rfl, Nat.mul_one] at hv185_0
                  replace hv185_0 := Option.some.inj (hv185_0.symm.trans hx185_0)
                  injection hv185_0 with hva_ hvn_ hvc_
                  rw [hva_] at ge185_0
                  rw [hvc_] at ul185_0
                  have HL185_0 := Aside0.mk (show Kd.V (Kd.int .u8) 5 _ w.heap.size _ _ (rd_L1 t151 x16_3) from Kd.V_mk ul185_0 ge185_0)
                  clear hva_ hvn_ hvc_ ge185_0 ul185_0 hcc185 hce185
                  have HR185_0 := Aside0.mk hi185_0
                  have HC185_0 := Aside0.mk hl185_0
                  clear hi185_0 hl185_0
                  replace p185 := eq_true p185
                  replace q185 := eq_true q185
                  have p186 : 0 ≤ (x16_3 : Int) := of_decide_eq_true (by first | (with_reducible assumption) | assumption)
                  have q186 : x16_3 < (t178.length : Int) := of_decide_eq_true (by first | (with_reducible assumption) | assumption)
                  obtain ⟨ad186, A186_0, c186_0, e186, hx186_0, hl186_0, hi186_0⟩ := at_L1 (Kd.N_reads' HO_14.out).2.2 x16_3 p186 q186
                  obtain rfl : ad184 = ad186 := (by injection e186)
                  obtain ⟨ce186, hce186, hMe186, hcc186⟩ := Kd.N_get HO_14.out [] x16_3 p186 (by first | exact q186 | exact of_decide_eq_true (by first | (with_reducible assumption) | assumption) | (have e_ := (Kd.N_reads' HO_14.out).1; omega))
                  obtain ⟨ua186_0, uc186_0, rfl, ul186_0, ge186_0⟩ := Kd.FK_slice_open hMe186
                  have hv186_0 := hcc186 0 _ rfl
                  rw [Nat.add_zero, show ((Kd.slice 5 (Kd.int .u8))).sz = 1 from rfl, Nat.mul_one] at hv186_0
                  replace hv186_0 := Option.some.inj (hv186_0.symm.trans hx186_0)
                  injection hv186_0 with hva_ hvn_ hvc_
                  rw [hva_] at ge186_0
                  rw [hvc_] at ul186_0
                  have HL186_0 := Aside0.mk (show Kd.V (Kd.int .u8) 5 _ w.heap.size _ _ (rd_L1 t178 x16_3) from Kd.V_mk ul186_0 ge186_0)
                  clear hva_ hvn_ hvc_ ge186_0 ul186_0 hcc186 hce186
                  have HR186_0 := Aside0.mk hi186_0
                  have HC186_0 := Aside0.mk hl186_0
                  clear hi186_0 hl186_0
                  replace p186 := eq_true p186
                  replace q186 := eq_true q186
                  have ea_ := Option.some.inj (hx184_0.symm.trans hx186_0)
                  injection ea_ with ea_ en_ ec_
                  subst ea_
                  subst ec_
                  clear en_
                  have p187 : 0 ≤ (x16_3 : Int) := of_decide_eq_true (by first | (with_reducible assumption) | assumption)
                  have q187 : x16_3 < (t151.length : Int) := of_decide_eq_true (by first | (with_reducible assumption) | assumption)
                  obtain ⟨ad187, A187_0, c187_0, e187, hx187_0, hl187_0, hi187_0⟩ := at_L1 (Kd.N_reads' HO_9.out).2.2 x16_3 p187 q187
                  obtain rfl : ad185 = ad187 := (by injection e187)
                  obtain ⟨ce187, hce187, hMe187, hcc187⟩ := Kd.N_get HO_9.out [] x16_3 p187 (by first | exact q187 | exact of_decide_eq_true (by first | (with_reducible assumption) | assumption) | (have e_ := (Kd.N_reads' HO_9.out).1; omega))
                  obtain ⟨ua187_0, uc187_0, rfl, ul187_0, ge187_0⟩ := Kd.FK_slice_open hMe187
                  have hv187_0 := hcc187 0 _ rfl
                  rw [Nat.add_zero, show ((Kd.slice 5 (Kd.int .u8))).sz = 1 from rfl, Nat.mul_one] at hv187_0
                  replace hv187_0 := Option.some.inj (hv187_0.symm.trans hx187_0)
                  injection hv187_0 with hva_ hvn_ hvc_
                  rw [hva_] at ge187_0
                  rw [hvc_] at ul187_0
                  have HL187_0 := Aside0.mk (show Kd.V (Kd.int .u8) 5 _ w.heap.size _ _ (rd_L1 t151 x16_3) from Kd.V_mk ul187_0 ge187_0)
                  clear hva_ hvn_ hvc_ ge187_0 ul187_0 hcc187 hce187
                  have HR187_0 := Aside0.mk hi187_0
                  have HC187_0 := Aside0.mk hl187_0
                  clear hi187_0 hl187_0
                  replace p187 := eq_true p187
                  replace q187 := eq_true q187
                  have ea_ := Option.some.inj (hx185_0.symm.trans hx187_0)
                  injection ea_ with ea_ en_ ec_
                  subst ea_
                  subst ec_
                  clear en_
                  have p188 : 0 ≤ (x16_3 : Int) := of_decide_eq_true (by first | (with_reducible assumption) | assumption)
                  have q188 : x16_3 < (t178.length : Int) := of_decide_eq_true (by first | (with_reducible assumption) | assumption)
                  obtain ⟨ad188, A188_0, c188_0, e188, hx188_0, hl188_0, hi188_0⟩ := at_L1 (Kd.N_reads' HO_14.out).2.2 x16_3 p188 q188
                  obtain rfl : ad184 = ad188 := (by injection e188)
                  obtain ⟨ce188, hce188, hMe188, hcc188⟩ := Kd.N_get HO_14.out [] x16_3 p188 (by first | exact q188 | exact of_decide_eq_true (by first | (with_reducible assumption) | assumption) | (have e_ := (Kd.N_reads' HO_14.out).1; omega))
                  obtain ⟨ua188_0, uc188_0, rfl, ul188_0, ge188_0⟩ := Kd.FK_slice_open hMe188
                  have hv188_0 := hcc188 0 _ rfl
                  rw [Nat.add_zero, show ((Kd.slice 5 (Kd.int .u8))).sz = 1 from rfl, Nat.mul_one] at hv188_0
                  replace hv188_0 := Option.some.inj (hv188_0.symm.trans hx188_0)
                  injection hv188_0 with hva_ hvn_ hvc_
                  rw [hva_] at ge188_0
                  rw [hvc_] at ul188_0
                  have HL188_0 := Aside0.mk (show Kd.V (Kd.int .u8) 5 _ w.heap.size _ _ (rd_L1 t178 x16_3) from Kd.V_mk ul188_0 ge188_0)
                  clear hva_ hvn_ hvc_ ge188_0 ul188_0 hcc188 hce188
                  have HR188_0 := Aside0.mk hi188_0
                  have HC188_0 := Aside0.mk hl188_0
                  clear hi188_0 hl188_0
                  replace p188 := eq_true p188
                  replace q188 := eq_true q188
                  have ea_ := Option.some.inj (hx184_0.symm.trans hx188_0)
                  injection ea_ with ea_ en_ ec_
                  subst ea_
                  subst ec_
                  clear en_
                  have q101 : (((rd_L1 t178 x16_3).length : Int) : Int) ≤ (((rd_L1 t151 x16_3).length : Int) : Int) := of_decide_eq_true (by first | (with_reducible assumption) | assumption)
                  obtain ⟨i0101, hi0101, _, hsz101, _⟩ := info_parts info5
                  have hroom101 : (rd_L1 t151 x16_3).length ≤ c185_0 := HC187_0.out
                  have hC101 : Kd.F (Kd.int .u8) _ _ A185_0 (rd_L1 t151 x16_3).length (rd_L1 t151 x16_3) := (Kd.V_at (base := w.heap.size) HL187_0.out).2.2
                  have hcut101 := cut_to (P := Try.prog) 24 5 .i64 Try.underlying24 hi0101 A185_0 (rd_L1 t151 x16_3).length c185_0 ((rd_L1 t178 x16_3).length : Int) (of_decide_eq_true (by first | (with_reducible assumption) | assumption)) q101 hroom101
                  have hr101 := Kd.F_take (m := (((rd_L1 t178 x16_3).length : Int) : Int).toNat) hC101 (by omega)
                  have hy101 : y189.length = (((rd_L1 t178 x16_3).length : Int) : Int).toNat := (by rw [Ny189.out, List.length_take]; omega)
                  rw [← Ny189.out] at hr101
                  rw [← hy101] at hcut101
                  have HO193 := Aside0.mk (show Kd.V (Kd.int .u8) 5 _ w.heap.size _ (.slice A185_0 y189.length c185_0) y189 from Kd.V_mk (by omega) hr101)
                  have HC193 := Aside0.mk (show y189.length ≤ c185_0 from by omega)
                  clear hr101 hC101 hroom101 hi0101 hsz101
                  have KY101 := Aside0.mk hy101
                  clear hy101
                  replace q101 := eq_true q101
                  refine start_ (n := 49) (S := fun w' => w'.cell? (ad184.add (x16_3).toNat) = some (.slice A184_0 (rd_L1 t178 x16_3).length c184_0) ∧ w'.cell? (ad185.add (x16_3).toNat) = some (.slice A185_0 (rd_L1 t151 x16_3).length c185_0) ∧ w'.cell? (ad184.add (x16_3).toNat) = some (.slice A184_0 (rd_L1 t178 x16_3).length c184_0) ∧ w'.cell? (ad185.add (x16_3).toNat) = some (.slice A185_0 (rd_L1 t151 x16_3).length c185_0) ∧ w'.cell? (ad184.add (x16_3).toNat) = some (.slice A184_0 (rd_L1 t178 x16_3).length c184_0)) (ds := []) b27_ (by kernel_rfl) rfl rfl ⟨hx184_0, hx185_0, hx186_0, hx187_0, hx188_0⟩ (fun hHeld => ?_); refine with_tabW encorelaw05_StripTorn.tab18 encorelaw05_StripTorn.bits18 (fun HT_ HW_ => ?_)
                  generalize wr.drew = w99 at HO_9 HO_14 BK142 HR182_0 HB HL184_0 HL185_0 HL186_0 HL187_0 HL188_0 HO193 HR184_0 HR185_0 HR186_0 HR187_0 HR188_0 hx184_0 hx185_0 hx186_0 hx187_0 hx188_0 hHeld ⊢
                  refine pure_ (i := 0) (N := some 103) (v := ?_) (a' := ?_) b28_ rfl rfl (any_of HT_.out (by kernel_rfl)) (fun _ _ _ h => h) (Or.inl ⟨by rfl, ?_⟩) ?_ ?_; rotate_left
                  · intro w'; go_simp; with_reducible rfl
                  rotate_left
                  · simp only [Act.put, sets_, i64_w, i32_w]; rfl
                  refine pure_ (i := 1) (N := some 104) (v := ?_) (a' := ?_) b29_ rfl rfl (any_of HT_.out (by kernel_rfl)) (fun _ _ _ h => h) (Or.inl ⟨by rfl, ?_⟩) ?_ ?_; rotate_left
                  · intro w'; go_simp; with_reducible rfl
                  rotate_left
                  · simp only [Act.put, sets_, i64_w, i32_w]; rfl
                  refine pure_ (i := 2) (N := some 105) (v := ?_) (a' := ?_) b30_ rfl rfl (any_of HT_.out (by kernel_rfl)) (fun _ _ _ h => h) (Or.inl ⟨by rfl, ?_⟩) ?_ ?_; rotate_left
                  · intro w'; go_simp; with_reducible rfl
                  rotate_left
                  · simp only [Act.put, sets_, i64_w, i32_w]; rfl
                  refine pure_ (i := 5) (N := some 108) (v := ?_) (a' := ?_) b31_ rfl rfl (any_of HT_.out (by kernel_rfl)) (fun _ _ _ h => h) (Or.inl ⟨by rfl, ?_⟩) ?_ ?_; rotate_left
                  · intro w'; go_simp; with_reducible rfl
                  rotate_left
                  · simp only [Act.put, sets_, i64_w, i32_w]; rfl
                  refine pure_ (i := 6) (N := some 109) (v := ?_) (a' := ?_) b32_ rfl rfl (any_of HT_.out (by kernel_rfl)) (fun _ _ _ h => h) (Or.inl ⟨by rfl, ?_⟩) ?_ ?_; rotate_left
                  · intro w'; go_simp; with_reducible rfl
                  rotate_left
                  · simp only [Act.put, sets_, i64_w, i32_w]; rfl
                  refine pure_ (i := 7) (N := some 110) (v := ?_) (a' := ?_) b33_ rfl rfl (any_of HT_.out (by kernel_rfl)) (fun _ _ _ h => h) (Or.inl ⟨by rfl, ?_⟩) ?_ ?_; rotate_left
                  · intro w'; go_simp; with_reducible rfl
                  rotate_left
                  · simp only [Act.put, sets_, i64_w, i32_w]; rfl
                  refine take_ (i := 3) (N := some 106) (v := ?_) (a' := ?_) b34_ rfl rfl (take_ofW HT_.out HW_.out (by kernel_rfl)) (fun _ _ _ h => h) (Or.inl ⟨by rfl, ?_⟩) hHeld ?_ ?_; rotate_left
                  · rintro w' ⟨s0, s1, s2, s3, s4⟩
                    go_simp; with_reducible rfl
                  rotate_left
                  · simp only [Act.put, sets_, i64_w, i32_w]; rfl
                  refine pure_ (i := 4) (N := some 107) (v := ?_) (a' := ?_) b35_ rfl rfl (any_of HT_.out (by kernel_rfl)) (fun _ _ _ h => h) (Or.inl ⟨by rfl, ?_⟩) ?_ ?_; rotate_left
                  · intro w'; go_simp; with_reducible rfl
                  rotate_left
                  · simp only [Act.put, sets_, i64_w, i32_w]; rfl
                  refine take_ (i := 8) (N := some 111) (v := ?_) (a' := ?_) b36_ rfl rfl (take_ofW HT_.out HW_.out (by kernel_rfl)) (fun _ _ _ h => h) (Or.inl ⟨by rfl, ?_⟩) hHeld ?_ ?_; rotate_left
                  · rintro w' ⟨s0, s1, s2, s3, s4⟩
                    go_simp; with_reducible rfl
                  rotate_left
                  · simp only [Act.put, sets_, i64_w, i32_w]; rfl
                  refine pure_ (i := 9) (N := some 112) (v := ?_) (a' := ?_) b37_ rfl rfl (any_of HT_.out (by kernel_rfl)) (fun _ _ _ h => h) (Or.inl ⟨by rfl, ?_⟩) ?_ ?_; rotate_left
                  · intro w'; go_simp; with_reducible rfl
                  rotate_left
                  · simp only [Act.put, sets_, i64_w, i32_w]; rfl
                  refine pure_ (i := 10) (N := some 113) (v := ?_) (a' := ?_) b38_ rfl rfl (any_of HT_.out (by kernel_rfl)) (fun _ _ _ h => h) (Or.inl ⟨by rfl, ?_⟩) ?_ ?_; rotate_left
                  · intro w'; go_simp; with_reducible rfl
                  rotate_left
                  · simp only [Act.put, sets_, i64_w, i32_w]; rfl
                  refine pure_ (i := 11) (N := some 114) (v := ?_) (a' := ?_) b39_ rfl rfl (any_of HT_.out (by kernel_rfl)) (fun _ _ _ h => h) (Or.inl ⟨by rfl, ?_⟩) ?_ ?_; rotate_left
                  · intro w'; go_simp; with_reducible rfl
                  rotate_left
                  · simp only [Act.put, sets_, i64_w, i32_w]; rfl
                  refine pure_ (i := 12) (N := some 115) (v := ?_) (a' := ?_) b40_ rfl rfl (any_of HT_.out (by kernel_rfl)) (fun _ _ _ h => h) (Or.inl ⟨by rfl, ?_⟩) ?_ ?_; rotate_left
                  · intro w'; go_simp; with_reducible rfl
                  rotate_left
                  · simp only [Act.put, sets_, i64_w, i32_w]; rfl
                  refine pure_ (i := 13) (N := some 116) (v := ?_) (a' := ?_) b41_ rfl rfl (any_of HT_.out (by kernel_rfl)) (fun _ _ _ h => h) (Or.inl ⟨by rfl, ?_⟩) ?_ ?_; rotate_left
                  · intro w'; go_simp; with_reducible rfl
                  rotate_left
                  · simp only [Act.put, sets_, i64_w, i32_w]; rfl
                  refine pure_ (i := 14) (N := some 117) (v := ?_) (a' := ?_) b42_ rfl rfl (any_of HT_.out (by kernel_rfl)) (fun _ _ _ h => h) (Or.inl ⟨by rfl, ?_⟩) ?_ ?_; rotate_left
                  · intro w'; go_simp; with_reducible rfl
                  rotate_left
                  · simp only [Act.put, sets_, i64_w, i32_w]; rfl
                  refine pure_ (i := 16) (N := some 119) (v := ?_) (a' := ?_) b77_ rfl rfl (any_of HT_.out (by kernel_rfl)) (fun _ _ _ h => h) (Or.inl ⟨by rfl, ?_⟩) ?_ ?_; rotate_left
                  · intro w'; go_simp; with_reducible rfl
                  rotate_left
                  · simp only [Act.put, sets_, i64_w, i32_w]; rfl
                  refine pure_ (i := 17) (N := some 120) (v := ?_) (a' := ?_) b78_ rfl rfl (any_of HT_.out (by kernel_rfl)) (fun _ _ _ h => h) (Or.inl ⟨by rfl, ?_⟩) ?_ ?_; rotate_left
                  · intro w'; go_simp; with_reducible rfl
                  rotate_left
                  · simp only [Act.put, sets_, i64_w, i32_w]; rfl
                  refine pure_ (i := 18) (N := some 121) (v := ?_) (a' := ?_) b79_ rfl rfl (any_of HT_.out (by kernel_rfl)) (fun _ _ _ h => h) (Or.inl ⟨by rfl, ?_⟩) ?_ ?_; rotate_left
                  · intro w'; go_simp; with_reducible rfl
                  rotate_left
                  · simp only [Act.put, sets_, i64_w, i32_w]; rfl
                  refine pure_ (i := 20) (N := some 123) (v := ?_) (a' := ?_) b80_ rfl rfl (any_of HT_.out (by kernel_rfl)) (fun _ _ _ h => h) (Or.inl ⟨by rfl, ?_⟩) ?_ ?_; rotate_left
                  · intro w'; go_simp; with_reducible rfl
                  rotate_left
                  · simp only [Act.put, sets_, i64_w, i32_w]; rfl
                  refine pure_ (i := 21) (N := some 124) (v := ?_) (a' := ?_) b81_ rfl rfl (any_of HT_.out (by kernel_rfl)) (fun _ _ _ h => h) (Or.inl ⟨by rfl, ?_⟩) ?_ ?_; rotate_left
                  · intro w'; go_simp; with_reducible rfl
                  rotate_left
                  · simp only [Act.put, sets_, i64_w, i32_w]; rfl
                  refine pure_ (i := 22) (N := some 125) (v := ?_) (a' := ?_) b82_ rfl rfl (any_of HT_.out (by kernel_rfl)) (fun _ _ _ h => h) (Or.inl ⟨by rfl, ?_⟩) ?_ ?_; rotate_left
                  · intro w'; go_simp; with_reducible rfl
                  rotate_left
                  · simp only [Act.put, sets_, i64_w, i32_w]; rfl
                  refine take_ (i := 15) (N := some 118) (v := ?_) (a' := ?_) b83_ rfl rfl (take_ofW HT_.out HW_.out (by kernel_rfl)) (fun _ _ _ h => h) (Or.inl ⟨by rfl, ?_⟩) hHeld ?_ ?_; rotate_left
                  · rintro w' ⟨s0, s1, s2, s3, s4⟩
                    go_simp; with_reducible rfl
                  rotate_left
                  · simp only [Act.put, sets_, i64_w, i32_w]; rfl
                  refine take_ (i := 19) (N := some 122) (v := ?_) (a' := ?_) b50_ rfl rfl (take_ofW HT_.out HW_.out (by kernel_rfl)) (fun _ _ _ h => h) (Or.inl ⟨by rfl, ?_⟩) hHeld ?_ ?_; rotate_left
                  · rintro w' ⟨s0, s1, s2, s3, s4⟩
                    go_simp; with_reducible rfl
                  rotate_left
                  · simp only [Act.put, sets_, i64_w, i32_w]; rfl
                  refine take_ (i := 23) (N := some 126) (v := ?_) (a' := ?_) b51_ rfl rfl (take_ofW HT_.out HW_.out (by kernel_rfl)) (fun _ _ _ h => h) (Or.inl ⟨by rfl, ?_⟩) hHeld ?_ ?_; rotate_left
                  · rintro w' ⟨s0, s1, s2, s3, s4⟩
                    go_simp; with_reducible rfl
                  rotate_left
                  · simp only [Act.put, sets_, i64_w, i32_w]; rfl
                  refine pure_ (i := 24) (N := some 127) (v := ?_) (a' := ?_) b52_ rfl rfl (any_of HT_.out (by kernel_rfl)) (fun _ _ _ h => h) (Or.inl ⟨by rfl, ?_⟩) ?_ ?_; rotate_left
                  · intro w'; go_simp; with_reducible rfl
                  rotate_left
                  · simp only [Act.put, sets_, i64_w, i32_w]; rfl
                  refine pure_ (i := 25) (N := some 128) (v := ?_) (a' := ?_) b53_ rfl rfl (any_of HT_.out (by kernel_rfl)) (fun _ _ _ h => h) (Or.inl ⟨by rfl, ?_⟩) ?_ ?_; rotate_left
                  · intro w'; go_simp; with_reducible rfl
                  rotate_left
                  · simp only [Act.put, sets_, i64_w, i32_w]; rfl
                  refine one_ (i := 26) (N := some 129) b54_ rfl rfl (one_of HT_.out (by kernel_rfl)) (by decide) (fun K hK => ?_)
                  refine goes_ Try.func19 (by kernel_rfl) rfl #[.slice A184_0 (rd_L1 t178 x16_3).length c184_0, .slice A185_0 y189.length c185_0] (by rfl) rfl rfl (by (try simp only [List.map_toArray, List.map_cons, List.map_nil]); first | done | rfl | (simp only [List.length_drop, List.length_take]; rfl)) ?_
                  with_reducible refine (encoreref00_EqBytes.calls k3 _ _ (rd_L1 t178 x16_3) _ _ y189 true _ ?side1 ?side2 ?side3 ?side4 A86.out).mono ?_
                  (case side1 => repeat (first | exact (by repeat (first | (with_reducible exact HR186_0.out) | (with_reducible refine Kd.C_alloc ?_ _) | (with_reducible refine Kd.C_drewN ?_ _) | (with_reducible refine Kd.C_drew ?_) | exact HR186_0.out)) | (with_reducible refine Kd.C_alloc ?_ _) | (with_reducible refine Kd.C_drewN ?_ _) | (with_reducible refine Kd.C_drew ?_)))
                  (case side2 => exact HC186_0.out)
                  (case side3 => repeat (first | exact (Kd.V_reads' HO193.out).2.2 | (with_reducible refine Kd.C_alloc ?_ _) | (with_reducible refine Kd.C_drewN ?_ _) | (with_reducible refine Kd.C_drew ?_)))
                  (case side4 => exact (Kd.V_reads' HO193.out).2.1)
                  rintro e w' ⟨rfl, ⟨nd, rfl⟩⟩
                  refine ⟨_, rfl, ?_⟩
                  refine hK.out _ _ ⟨hHeld.1, hHeld.2.1, hHeld.2.2.1, hHeld.2.2.2.1, hHeld.2.2.2.2⟩ (fun hHeld => ?_)
                  clear hK K
                  refine norm_ (a' := ?_) ?_ ?_
                  rotate_left
                  · show Act.put _ (some 129) _ = _
                    simp only [Act.put, sets_, i64_w, i32_w]; rfl
                  refine pure_ (i := 27) (N := some 130) (v := ?_) (a' := ?_) b55_ rfl rfl (any_of HT_.out (by kernel_rfl)) (fun _ _ _ h => h) (Or.inl ⟨by rfl, ?_⟩) ?_ ?_; rotate_left
                  · intro w'; go_simp; with_reducible rfl
                  rotate_left
                  · simp only [Act.put, sets_, i64_w, i32_w]; rfl
                  refine pure_ (i := 28) (N := some 131) (v := ?_) (a' := ?_) b56_ rfl rfl (any_of HT_.out (by kernel_rfl)) (fun _ _ _ h => h) (Or.inl ⟨by rfl, ?_⟩) ?_ ?_; rotate_left
                  · intro w'; go_simp; with_reducible rfl
                  rotate_left
                  · simp only [Act.put, sets_, i64_w, i32_w]; rfl
                  refine pure_ (i := 29) (N := some 132) (v := ?_) (a' := ?_) b57_ rfl rfl (any_of HT_.out (by kernel_rfl)) (fun _ _ _ h => h) (Or.inl ⟨by rfl, ?_⟩) ?_ ?_; rotate_left
                  · intro w'; go_simp; with_reducible rfl
                  rotate_left
                  · simp only [Act.put, sets_, i64_w, i32_w]; rfl
                  refine pure_ (i := 30) (N := some 133) (v := ?_) (a' := ?_) b58_ rfl rfl (any_of HT_.out (by kernel_rfl)) (fun _ _ _ h => h) (Or.inl ⟨by rfl, ?_⟩) ?_ ?_; rotate_left
                  · intro w'; go_simp; with_reducible rfl
                  rotate_left
                  · simp only [Act.put, sets_, i64_w, i32_w]; rfl
                  refine pure_ (i := 31) (N := some 134) (v := ?_) (a' := ?_) b59_ rfl rfl (any_of HT_.out (by kernel_rfl)) (fun _ _ _ h => h) (Or.inl ⟨by rfl, ?_⟩) ?_ ?_; rotate_left
                  · intro w'; go_simp; with_reducible rfl
                  rotate_left
                  · simp only [Act.put, sets_, i64_w, i32_w]; rfl
                  refine pure_ (i := 32) (N := some 135) (v := ?_) (a' := ?_) b60_ rfl rfl (any_of HT_.out (by kernel_rfl)) (fun _ _ _ h => h) (Or.inl ⟨by rfl, ?_⟩) ?_ ?_; rotate_left
                  · intro w'; go_simp; with_reducible rfl
                  rotate_left
                  · simp only [Act.put, sets_, i64_w, i32_w]; rfl
                  refine pure_ (i := 33) (N := some 136) (v := ?_) (a' := ?_) b61_ rfl rfl (any_of HT_.out (by kernel_rfl)) (fun _ _ _ h => h) (Or.inl ⟨by rfl, ?_⟩) ?_ ?_; rotate_left
                  · intro w'; go_simp; with_reducible rfl
                  rotate_left
                  · simp only [Act.put, sets_, i64_w, i32_w]; rfl
                  refine pure_ (i := 34) (N := some 137) (v := ?_) (a' := ?_) b62_ rfl rfl (any_of HT_.out (by kernel_rfl)) (fun _ _ _ h => h) (Or.inl ⟨by rfl, ?_⟩) ?_ ?_; rotate_left
                  · intro w'; go_simp; with_reducible rfl
                  rotate_left
                  · simp only [Act.put, sets_, i64_w, i32_w]; rfl
                  refine pure_ (i := 35) (N := some 138) (v := ?_) (a' := ?_) b63_ rfl rfl (any_of HT_.out (by kernel_rfl)) (fun _ _ _ h => h) (Or.inl ⟨by rfl, ?_⟩) ?_ ?_; rotate_left
                  · intro w'; go_simp; with_reducible rfl
                  rotate_left
                  · simp only [Act.put, sets_, i64_w, i32_w]; rfl
                  refine pure_ (i := 36) (N := some 139) (v := undef) (a' := ?_) b64_ rfl rfl (any_of HT_.out (by kernel_rfl)) (fun _ _ _ h => h) (Or.inr ⟨by rfl, rfl⟩) ?_ ?_; rotate_left
                  · simp only [Act.put, sets_, i64_w, i32_w]; rfl
                  refine pure_ (i := 37) (N := some 140) (v := undef) (a' := ?_) b65_ rfl rfl (any_of HT_.out (by kernel_rfl)) (fun _ _ _ h => h) (Or.inr ⟨by rfl, rfl⟩) ?_ ?_; rotate_left
                  · simp only [Act.put, sets_, i64_w, i32_w]; rfl
                  refine pure_ (i := 38) (N := some 141) (v := undef) (a' := ?_) b66_ rfl rfl (any_of HT_.out (by kernel_rfl)) (fun _ _ _ h => h) (Or.inr ⟨by rfl, rfl⟩) ?_ ?_; rotate_left
                  · simp only [Act.put, sets_, i64_w, i32_w]; rfl
                  refine pure_ (i := 39) (N := some 142) (v := undef) (a' := ?_) b67_ rfl rfl (any_of HT_.out (by kernel_rfl)) (fun _ _ _ h => h) (Or.inr ⟨by rfl, rfl⟩) ?_ ?_; rotate_left
                  · simp only [Act.put, sets_, i64_w, i32_w]; rfl
                  refine pure_ (i := 40) (N := some 143) (v := undef) (a' := ?_) b68_ rfl rfl (any_of HT_.out (by kernel_rfl)) (fun _ _ _ h => h) (Or.inr ⟨by rfl, rfl⟩) ?_ ?_; rotate_left
                  · simp only [Act.put, sets_, i64_w, i32_w]; rfl
                  refine pure_ (i := 41) (N := some 144) (v := undef) (a' := ?_) b69_ rfl rfl (any_of HT_.out (by kernel_rfl)) (fun _ _ _ h => h) (Or.inr ⟨by rfl, rfl⟩) ?_ ?_; rotate_left
                  · simp only [Act.put, sets_, i64_w, i32_w]; rfl
                  refine pure_ (i := 42) (N := some 145) (v := undef) (a' := ?_) b70_ rfl rfl (any_of HT_.out (by kernel_rfl)) (fun _ _ _ h => h) (Or.inr ⟨by rfl, rfl⟩) ?_ ?_; rotate_left
                  · simp only [Act.put, sets_, i64_w, i32_w]; rfl
                  refine pure_ (i := 43) (N := some 146) (v := undef) (a' := ?_) b71_ rfl rfl (any_of HT_.out (by kernel_rfl)) (fun _ _ _ h => h) (Or.inr ⟨by rfl, rfl⟩) ?_ ?_; rotate_left
                  · simp only [Act.put, sets_, i64_w, i32_w]; rfl
                  refine pure_ (i := 44) (N := some 147) (v := undef) (a' := ?_) b72_ rfl rfl (any_of HT_.out (by kernel_rfl)) (fun _ _ _ h => h) (Or.inr ⟨by rfl, rfl⟩) ?_ ?_; rotate_left
                  · simp only [Act.put, sets_, i64_w, i32_w]; rfl
                  refine pure_ (i := 45) (N := some 148) (v := undef) (a' := ?_) b73_ rfl rfl (any_of HT_.out (by kernel_rfl)) (fun _ _ _ h => h) (Or.inr ⟨by rfl, rfl⟩) ?_ ?_; rotate_left
                  · simp only [Act.put, sets_, i64_w, i32_w]; rfl
                  refine pure_ (i := 46) (N := some 149) (v := undef) (a' := ?_) b74_ rfl rfl (any_of HT_.out (by kernel_rfl)) (fun _ _ _ h => h) (Or.inr ⟨by rfl, rfl⟩) ?_ ?_; rotate_left
                  · simp only [Act.put, sets_, i64_w, i32_w]; rfl
                  refine pure_ (i := 47) (N := some 150) (v := ?_) (a' := ?_) b75_ rfl rfl (any_of HT_.out (by kernel_rfl)) (fun _ _ _ h => h) (Or.inl ⟨by rfl, ?_⟩) ?_ ?_; rotate_left
                  · intro w'; go_simp; with_reducible rfl
                  rotate_left
                  · simp only [Act.put, sets_, i64_w, i32_w]; rfl
                  refine pure_ (i := 48) (N := some 151) (v := ?_) (a' := ?_) b76_ rfl rfl (any_of HT_.out (by kernel_rfl)) (fun _ _ _ h => h) (Or.inl ⟨by rfl, ?_⟩) ?_ ?_; rotate_left
                  · intro w'; go_simp; with_reducible rfl
                  rotate_left
                  · simp only [Act.put, sets_, i64_w, i32_w]; rfl
                  refine done_ (done_of HT_.out (by kernel_rfl)) ?_
                  try go_wp2
                  go_roundg k3
                  case measure => have := HJ7.out; have := HJ59.out; have := HK3.out; omega
                  case rel => exact ⟨(wrap64 (x16_3 + 1)), (by first | rfl | (simp; done) | (simp [*]; done)), H', ⟨by have := HJ7.out; have := HJ59.out; have := HK3.out; omega⟩, ⟨by (with_reducible repeat (first | apply Kd.N_alloc | apply Kd.N_drewN | apply Kd.N_drew)); exact HO_9.out⟩, ⟨by (with_reducible repeat (first | apply Kd.N_alloc | apply Kd.N_drewN | apply Kd.N_drew)); exact HO_14.out⟩, ⟨by (with_reducible repeat (first | refine blk_drewN ?_ _ | refine blk_drew ?_ | refine blk_alloc ?_ _)); exact BK142.out⟩, ⟨by repeat (first | (with_reducible exact HR182_0.out) | (with_reducible refine Kd.C_alloc ?_ _) | (with_reducible refine Kd.C_drewN ?_ _) | (with_reducible refine Kd.C_drew ?_) | exact HR182_0.out)⟩, ⟨by repeat (first | (with_reducible first | exact HB.out | apply below_alloc | apply pw_below_drewN | apply below_drew1 | refine below_set ?_ GE142.out) | exact HB.out)⟩⟩
                rw [if_pos c88] at H
                have c88b0 : decide ((wrap64 (x16_3 + 1)) < (t178.length : Int)) = true := decide_eq_true c88
                clear c88
                by_cases c89 : ((rd_L1 t178 x16_3).length : Int) = ((rd_L1 t151 x16_3).length : Int)
                rotate_left
                · rw [if_neg c89] at H
                  have c89b0 : (((rd_L1 t178 x16_3).length : Int) == ((rd_L1 t151 x16_3).length : Int)) = false := beq_eq_false_iff_ne.mpr c89
                  have c89b1 : (((rd_L1 t178 x16_3).length : Int) != ((rd_L1 t151 x16_3).length : Int)) = true := bne_iff_ne.mpr c89
                  have c89b2 : ((rd_L1 t178 x16_3).length == (rd_L1 t151 x16_3).length) = false := by first | simpa using c89 | (simp at c89 ⊢; omega)
                  obtain rfl := Option.some.inj H
                  obtain ⟨Ao94, co94, eo94⟩ := Kd.N_slice HO_14.out
                  subst eo94
                  try go_wp2
                  have n0_ := Aside0.mk (Kd.N_drew HO_9.out)
                  have n1_ := Aside0.mk (Kd.N_drew HO_14.out)
                  have n2_ := Aside0.mk (blk_drew BK142.out)
                  have n3_ := Aside0.mk (Kd.C_drew HR182_0.out)
                  have n4_ := Aside0.mk (below_drew1 HB.out)
                  clear HO_9 HO_14 BK142 HR182_0 HB; have HO_9 := n0_; have HO_14 := n1_; have BK142 := n2_; have HR182_0 := n3_; have HB := n4_; clear n0_ n1_ n2_ n3_ n4_
                  have p184 : 0 ≤ (x16_3 : Int) := of_decide_eq_true (by first | (with_reducible assumption) | assumption)
                  have q184 : x16_3 < (t178.length : Int) := of_decide_eq_true (by first | (with_reducible assumption) | assumption)
                  obtain ⟨ad184, A184_0, c184_0, e184, hx184_0, hl184_0, hi184_0⟩ := at_L1 (Kd.N_reads' HO_14.out).2.2 x16_3 p184 q184
                  cases e184
                  obtain ⟨ce184, hce184, hMe184, hcc184⟩ := Kd.N_get HO_14.out [] x16_3 p184 (by first | exact q184 | exact of_decide_eq_true (by first | (with_reducible assumption) | assumption) | (have e_ := (Kd.N_reads' HO_14.out).1; omega))
                  obtain ⟨ua184_0, uc184_0, rfl, ul184_0, ge184_0⟩ := Kd.FK_slice_open hMe184
                  have hv184_0 := hcc184 0 _ rfl
                  rw [Nat.add_zero, show ((Kd.slice 5 (Kd.int .u8))).sz = 1 from rfl, Nat.mul_one] at hv184_0
                  replace hv184_0 := Option.some.inj (hv184_0.symm.trans hx184_0)
                  injection hv184_0 with hva_ hvn_ hvc_
                  rw [hva_] at ge184_0
                  rw [hvc_] at ul184_0
                  have HL184_0 := Aside0.mk (show Kd.V (Kd.int .u8) 5 _ w.heap.size _ _ (rd_L1 t178 x16_3) from Kd.V_mk ul184_0 ge184_0)
                  clear hva_ hvn_ hvc_ ge184_0 ul184_0 hcc184 hce184
                  have HR184_0 := Aside0.mk hi184_0
                  have HC184_0 := Aside0.mk hl184_0
                  clear hi184_0 hl184_0
                  replace p184 := eq_true p184
                  replace q184 := eq_true q184
                  obtain ⟨Ao96, co96, eo96⟩ := Kd.N_slice HO_9.out
                  (first | subst eo96 | (injection eo96 with f1_ f2_ f3_; have f4_ := f1_.symm; have f5_ := f3_.symm; clear f1_ f2_ f3_; subst f4_; subst f5_))
                  have p185 : 0 ≤ (x16_3 : Int) := of_decide_eq_true (by first | (with_reducible assumption) | assumption)
                  have q185 : x16_3 < (t151.length : Int) := of_decide_eq_true (by first | (with_reducible assumption) | assumption)
                  obtain ⟨ad185, A185_0, c185_0, e185, hx185_0, hl185_0, hi185_0⟩ := at_L1 (Kd.N_reads' HO_9.out).2.2 x16_3 p185 q185
                  cases e185
                  obtain ⟨ce185, hce185, hMe185, hcc185⟩ := Kd.N_get HO_9.out [] x16_3 p185 (by first | exact q185 | exact of_decide_eq_true (by first | (with_reducible assumption) | assumption) | (have e_ := (Kd.N_reads' HO_9.out).1; omega))
                  obtain ⟨ua185_0, uc185_0, rfl, ul185_0, ge185_0⟩ := Kd.FK_slice_open hMe185
                  have hv185_0 := hcc185 0 _ rfl
                  rw [Nat.add_zero, show ((Kd.slice 5 (Kd.int .u8))).sz = 1 from rfl, Nat.mul_one] at hv185_0
                  replace hv185_0 := Option.some.inj (hv185_0.symm.trans hx185_0)
                  injection hv185_0 with hva_ hvn_ hvc_
                  rw [hva_] at ge185_0
                  rw [hvc_] at ul185_0
                  have HL185_0 := Aside0.mk (show Kd.V (Kd.int .u8) 5 _ w.heap.size _ _ (rd_L1 t151 x16_3) from Kd.V_mk ul185_0 ge185_0)
                  clear hva_ hvn_ hvc_ ge185_0 ul185_0 hcc185 hce185
                  have HR185_0 := Aside0.mk hi185_0
                  have HC185_0 := Aside0.mk hl185_0
                  clear hi185_0 hl185_0
                  replace p185 := eq_true p185
                  replace q185 := eq_true q185
                  have p186 : 0 ≤ (x16_3 : Int) := of_decide_eq_true (by first | (with_reducible assumption) | assumption)
                  have q186 : x16_3 < (t178.length : Int) := of_decide_eq_true (by first | (with_reducible assumption) | assumption)
                  obtain ⟨ad186, A186_0, c186_0, e186, hx186_0, hl186_0, hi186_0⟩ := at_L1 (Kd.N_reads' HO_14.out).2.2 x16_3 p186 q186
                  obtain rfl : ad184 = ad186 := (by injection e186)
                  obtain ⟨ce186, hce186, hMe186, hcc186⟩ := Kd.N_get HO_14.out [] x16_3 p186 (by first | exact q186 | exact of_decide_eq_true (by first | (with_reducible assumption) | assumption) | (have e_ := (Kd.N_reads' HO_14.out).1; omega))
                  obtain ⟨ua186_0, uc186_0, rfl, ul186_0, ge186_0⟩ := Kd.FK_slice_open hMe186
                  have hv186_0 := hcc186 0 _ rfl
                  rw [Nat.add_zero, show ((Kd.slice 5 (Kd.int .u8))).sz = 1 from rfl, Nat.mul_one] at hv186_0
                  replace hv186_0 := Option.some.inj (hv186_0.symm.trans hx186_0)
                  injection hv186_0 with hva_ hvn_ hvc_
                  rw [hva_] at ge186_0
                  rw [hvc_] at ul186_0
                  have HL186_0 := Aside0.mk (show Kd.V (Kd.int .u8) 5 _ w.heap.size _ _ (rd_L1 t178 x16_3) from Kd.V_mk ul186_0 ge186_0)
                  clear hva_ hvn_ hvc_ ge186_0 ul186_0 hcc186 hce186
                  have HR186_0 := Aside0.mk hi186_0
                  have HC186_0 := Aside0.mk hl186_0
                  clear hi186_0 hl186_0
                  replace p186 := eq_true p186
                  replace q186 := eq_true q186
                  have ea_ := Option.some.inj (hx184_0.symm.trans hx186_0)
                  injection ea_ with ea_ en_ ec_
                  subst ea_
                  subst ec_
                  clear en_
                  have p187 : 0 ≤ (x16_3 : Int) := of_decide_eq_true (by first | (with_reducible assumption) | assumption)
                  have q187 : x16_3 < (t151.length : Int) := of_decide_eq_true (by first | (with_reducible assumption) | assumption)
                  obtain ⟨ad187, A187_0, c187_0, e187, hx187_0, hl187_0, hi187_0⟩ := at_L1 (Kd.N_reads' HO_9.out).2.2 x16_3 p187 q187
                  obtain rfl : ad185 = ad187 := (by injection e187)
                  obtain ⟨ce187, hce187, hMe187, hcc187⟩ := Kd.N_get HO_9.out [] x16_3 p187 (by first | exact q187 | exact of_decide_eq_true (by first | (with_reducible assumption) | assumption) | (have e_ := (Kd.N_reads' HO_9.out).1; omega))
                  obtain ⟨ua187_0, uc187_0, rfl, ul187_0, ge187_0⟩ := Kd.FK_slice_open hMe187
                  have hv187_0 := hcc187 0 _ rfl
                  rw [Nat.add_zero, show ((Kd.slice 5 (Kd.int .u8))).sz = 1 from rfl, Nat.mul_one] at hv187_0
                  replace hv187_0 := Option.some.inj (hv187_0.symm.trans hx187_0)
                  injection hv187_0 with hva_ hvn_ hvc_
                  rw [hva_] at ge187_0
                  rw [hvc_] at ul187_0
                  have HL187_0 := Aside0.mk (show Kd.V (Kd.int .u8) 5 _ w.heap.size _ _ (rd_L1 t151 x16_3) from Kd.V_mk ul187_0 ge187_0)
                  clear hva_ hvn_ hvc_ ge187_0 ul187_0 hcc187 hce187
                  have HR187_0 := Aside0.mk hi187_0
                  have HC187_0 := Aside0.mk hl187_0
                  clear hi187_0 hl187_0
                  replace p187 := eq_true p187
                  replace q187 := eq_true q187
                  have ea_ := Option.some.inj (hx185_0.symm.trans hx187_0)
                  injection ea_ with ea_ en_ ec_
                  subst ea_
                  subst ec_
                  clear en_
                  have p188 : 0 ≤ (x16_3 : Int) := of_decide_eq_true (by first | (with_reducible assumption) | assumption)
                  have q188 : x16_3 < (t178.length : Int) := of_decide_eq_true (by first | (with_reducible assumption) | assumption)
                  obtain ⟨ad188, A188_0, c188_0, e188, hx188_0, hl188_0, hi188_0⟩ := at_L1 (Kd.N_reads' HO_14.out).2.2 x16_3 p188 q188
                  obtain rfl : ad184 = ad188 := (by injection e188)
                  obtain ⟨ce188, hce188, hMe188, hcc188⟩ := Kd.N_get HO_14.out [] x16_3 p188 (by first | exact q188 | exact of_decide_eq_true (by first | (with_reducible assumption) | assumption) | (have e_ := (Kd.N_reads' HO_14.out).1; omega))
                  obtain ⟨ua188_0, uc188_0, rfl, ul188_0, ge188_0⟩ := Kd.FK_slice_open hMe188
                  have hv188_0 := hcc188 0 _ rfl
                  rw [Nat.add_zero, show ((Kd.slice 5 (Kd.int .u8))).sz = 1 from rfl, Nat.mul_one] at hv188_0
                  replace hv188_0 := Option.some.inj (hv188_0.symm.trans hx188_0)
                  injection hv188_0 with hva_ hvn_ hvc_
                  rw [hva_] at ge188_0
                  rw [hvc_] at ul188_0
                  have HL188_0 := Aside0.mk (show Kd.V (Kd.int .u8) 5 _ w.heap.size _ _ (rd_L1 t178 x16_3) from Kd.V_mk ul188_0 ge188_0)
                  clear hva_ hvn_ hvc_ ge188_0 ul188_0 hcc188 hce188
                  have HR188_0 := Aside0.mk hi188_0
                  have HC188_0 := Aside0.mk hl188_0
                  clear hi188_0 hl188_0
                  replace p188 := eq_true p188
                  replace q188 := eq_true q188
                  have ea_ := Option.some.inj (hx184_0.symm.trans hx188_0)
                  injection ea_ with ea_ en_ ec_
                  subst ea_
                  subst ec_
                  clear en_
                  have q97 : (((rd_L1 t178 x16_3).length : Int) : Int) ≤ (((rd_L1 t151 x16_3).length : Int) : Int) := of_decide_eq_true (by first | (with_reducible assumption) | assumption)
                  obtain ⟨i097, hi097, _, hsz97, _⟩ := info_parts info5
                  have hroom97 : (rd_L1 t151 x16_3).length ≤ c185_0 := HC187_0.out
                  have hC97 : Kd.F (Kd.int .u8) _ _ A185_0 (rd_L1 t151 x16_3).length (rd_L1 t151 x16_3) := (Kd.V_at (base := w.heap.size) HL187_0.out).2.2
                  have hcut97 := cut_to (P := Try.prog) 24 5 .i64 Try.underlying24 hi097 A185_0 (rd_L1 t151 x16_3).length c185_0 ((rd_L1 t178 x16_3).length : Int) (of_decide_eq_true (by first | (with_reducible assumption) | assumption)) q97 hroom97
                  have hr97 := Kd.F_take (m := (((rd_L1 t178 x16_3).length : Int) : Int).toNat) hC97 (by omega)
                  have hy97 : y189.length = (((rd_L1 t178 x16_3).length : Int) : Int).toNat := (by rw [Ny189.out, List.length_take]; omega)
                  rw [← Ny189.out] at hr97
                  rw [← hy97] at hcut97
                  have HO193 := Aside0.mk (show Kd.V (Kd.int .u8) 5 _ w.heap.size _ (.slice A185_0 y189.length c185_0) y189 from Kd.V_mk (by omega) hr97)
                  have HC193 := Aside0.mk (show y189.length ≤ c185_0 from by omega)
                  clear hr97 hC97 hroom97 hi097 hsz97
                  have KY97 := Aside0.mk hy97
                  clear hy97
                  replace q97 := eq_true q97
                  have p195 : 0 ≤ (x16_3 : Int) := of_decide_eq_true (by first | (with_reducible assumption) | assumption)
                  have q195 : x16_3 < (t178.length : Int) := of_decide_eq_true (by first | (with_reducible assumption) | assumption)
                  obtain ⟨ad195, A195_0, c195_0, e195, hx195_0, hl195_0, hi195_0⟩ := at_L1 (Kd.N_reads' HO_14.out).2.2 x16_3 p195 q195
                  obtain rfl : ad184 = ad195 := (by injection e195)
                  obtain ⟨ce195, hce195, hMe195, hcc195⟩ := Kd.N_get HO_14.out [] x16_3 p195 (by first | exact q195 | exact of_decide_eq_true (by first | (with_reducible assumption) | assumption) | (have e_ := (Kd.N_reads' HO_14.out).1; omega))
                  obtain ⟨ua195_0, uc195_0, rfl, ul195_0, ge195_0⟩ := Kd.FK_slice_open hMe195
                  have hv195_0 := hcc195 0 _ rfl
                  rw [Nat.add_zero, show ((Kd.slice 5 (Kd.int .u8))).sz = 1 from rfl, Nat.mul_one] at hv195_0
                  replace hv195_0 := Option.some.inj (hv195_0.symm.trans hx195_0)
                  injection hv195_0 with hva_ hvn_ hvc_
                  rw [hva_] at ge195_0
                  rw [hvc_] at ul195_0
                  have HL195_0 := Aside0.mk (show Kd.V (Kd.int .u8) 5 _ w.heap.size _ _ (rd_L1 t178 x16_3) from Kd.V_mk ul195_0 ge195_0)
                  clear hva_ hvn_ hvc_ ge195_0 ul195_0 hcc195 hce195
                  have HR195_0 := Aside0.mk hi195_0
                  have HC195_0 := Aside0.mk hl195_0
                  clear hi195_0 hl195_0
                  replace p195 := eq_true p195
                  replace q195 := eq_true q195
                  have ea_ := Option.some.inj (hx184_0.symm.trans hx195_0)
                  injection ea_ with ea_ en_ ec_
                  subst ea_
                  subst ec_
                  clear en_
                  have p196 : 0 ≤ (x16_3 : Int) := of_decide_eq_true (by first | (with_reducible assumption) | assumption)
                  have q196 : x16_3 < (t151.length : Int) := of_decide_eq_true (by first | (with_reducible assumption) | assumption)
                  obtain ⟨ad196, A196_0, c196_0, e196, hx196_0, hl196_0, hi196_0⟩ := at_L1 (Kd.N_reads' HO_9.out).2.2 x16_3 p196 q196
                  obtain rfl : ad185 = ad196 := (by injection e196)
                  obtain ⟨ce196, hce196, hMe196, hcc196⟩ := Kd.N_get HO_9.out [] x16_3 p196 (by first | exact q196 | exact of_decide_eq_true (by first | (with_reducible assumption) | assumption) | (have e_ := (Kd.N_reads' HO_9.out).1; omega))
                  obtain ⟨ua196_0, uc196_0, rfl, ul196_0, ge196_0⟩ := Kd.FK_slice_open hMe196
                  have hv196_0 := hcc196 0 _ rfl
                  rw [Nat.add_zero, show ((Kd.slice 5 (Kd.int .u8))).sz = 1 from rfl, Nat.mul_one] at hv196_0
                  replace hv196_0 := Option.some.inj (hv196_0.symm.trans hx196_0)
                  injection hv196_0 with hva_ hvn_ hvc_
                  rw [hva_] at ge196_0
                  rw [hvc_] at ul196_0
                  have HL196_0 := Aside0.mk (show Kd.V (Kd.int .u8) 5 _ w.heap.size _ _ (rd_L1 t151 x16_3) from Kd.V_mk ul196_0 ge196_0)
                  clear hva_ hvn_ hvc_ ge196_0 ul196_0 hcc196 hce196
                  have HR196_0 := Aside0.mk hi196_0
                  have HC196_0 := Aside0.mk hl196_0
                  clear hi196_0 hl196_0
                  replace p196 := eq_true p196
                  replace q196 := eq_true q196
                  have ea_ := Option.some.inj (hx185_0.symm.trans hx196_0)
                  injection ea_ with ea_ en_ ec_
                  subst ea_
                  subst ec_
                  clear en_
                  refine start_ (n := 49) (S := fun w' => w'.cell? (ad184.add (x16_3).toNat) = some (.slice A184_0 (rd_L1 t178 x16_3).length c184_0) ∧ w'.cell? (ad185.add (x16_3).toNat) = some (.slice A185_0 (rd_L1 t151 x16_3).length c185_0) ∧ w'.cell? (ad184.add (x16_3).toNat) = some (.slice A184_0 (rd_L1 t178 x16_3).length c184_0) ∧ w'.cell? (ad185.add (x16_3).toNat) = some (.slice A185_0 (rd_L1 t151 x16_3).length c185_0) ∧ w'.cell? (ad184.add (x16_3).toNat) = some (.slice A184_0 (rd_L1 t178 x16_3).length c184_0) ∧ w'.cell? (ad184.add (x16_3).toNat) = some (.slice A184_0 (rd_L1 t178 x16_3).length c184_0) ∧ w'.cell? (ad185.add (x16_3).toNat) = some (.slice A185_0 (rd_L1 t151 x16_3).length c185_0)) (ds := []) b27_ (by kernel_rfl) rfl rfl ⟨hx184_0, hx185_0, hx186_0, hx187_0, hx188_0, hx195_0, hx196_0⟩ (fun hHeld => ?_); refine with_tabW encorelaw05_StripTorn.tab18 encorelaw05_StripTorn.bits18 (fun HT_ HW_ => ?_)
                  generalize wr.drew = w95 at HO_9 HO_14 BK142 HR182_0 HB HL184_0 HL185_0 HL186_0 HL187_0 HL188_0 HL195_0 HL196_0 HO193 HR184_0 HR185_0 HR186_0 HR187_0 HR188_0 HR195_0 HR196_0 hx184_0 hx185_0 hx186_0 hx187_0 hx188_0 hx195_0 hx196_0 hHeld ⊢
                  refine pure_ (i := 0) (N := some 103) (v := ?_) (a' := ?_) b28_ rfl rfl (any_of HT_.out (by kernel_rfl)) (fun _ _ _ h => h) (Or.inl ⟨by rfl, ?_⟩) ?_ ?_; rotate_left
                  · intro w'; go_simp; with_reducible rfl
                  rotate_left
                  · simp only [Act.put, sets_, i64_w, i32_w]; rfl
                  refine pure_ (i := 1) (N := some 104) (v := ?_) (a' := ?_) b29_ rfl rfl (any_of HT_.out (by kernel_rfl)) (fun _ _ _ h => h) (Or.inl ⟨by rfl, ?_⟩) ?_ ?_; rotate_left
                  · intro w'; go_simp; with_reducible rfl
                  rotate_left
                  · simp only [Act.put, sets_, i64_w, i32_w]; rfl
                  refine pure_ (i := 2) (N := some 105) (v := ?_) (a' := ?_) b30_ rfl rfl (any_of HT_.out (by kernel_rfl)) (fun _ _ _ h => h) (Or.inl ⟨by rfl, ?_⟩) ?_ ?_; rotate_left
                  · intro w'; go_simp; with_reducible rfl
                  rotate_left
                  · simp only [Act.put, sets_, i64_w, i32_w]; rfl
                  refine pure_ (i := 5) (N := some 108) (v := ?_) (a' := ?_) b31_ rfl rfl (any_of HT_.out (by kernel_rfl)) (fun _ _ _ h => h) (Or.inl ⟨by rfl, ?_⟩) ?_ ?_; rotate_left
                  · intro w'; go_simp; with_reducible rfl
                  rotate_left
                  · simp only [Act.put, sets_, i64_w, i32_w]; rfl
                  refine pure_ (i := 6) (N := some 109) (v := ?_) (a' := ?_) b32_ rfl rfl (any_of HT_.out (by kernel_rfl)) (fun _ _ _ h => h) (Or.inl ⟨by rfl, ?_⟩) ?_ ?_; rotate_left
                  · intro w'; go_simp; with_reducible rfl
                  rotate_left
                  · simp only [Act.put, sets_, i64_w, i32_w]; rfl
                  refine pure_ (i := 7) (N := some 110) (v := ?_) (a' := ?_) b33_ rfl rfl (any_of HT_.out (by kernel_rfl)) (fun _ _ _ h => h) (Or.inl ⟨by rfl, ?_⟩) ?_ ?_; rotate_left
                  · intro w'; go_simp; with_reducible rfl
                  rotate_left
                  · simp only [Act.put, sets_, i64_w, i32_w]; rfl
                  refine take_ (i := 3) (N := some 106) (v := ?_) (a' := ?_) b34_ rfl rfl (take_ofW HT_.out HW_.out (by kernel_rfl)) (fun _ _ _ h => h) (Or.inl ⟨by rfl, ?_⟩) hHeld ?_ ?_; rotate_left
                  · rintro w' ⟨s0, s1, s2, s3, s4, s5, s6⟩
                    go_simp; with_reducible rfl
                  rotate_left
                  · simp only [Act.put, sets_, i64_w, i32_w]; rfl
                  refine pure_ (i := 4) (N := some 107) (v := ?_) (a' := ?_) b35_ rfl rfl (any_of HT_.out (by kernel_rfl)) (fun _ _ _ h => h) (Or.inl ⟨by rfl, ?_⟩) ?_ ?_; rotate_left
                  · intro w'; go_simp; with_reducible rfl
                  rotate_left
                  · simp only [Act.put, sets_, i64_w, i32_w]; rfl
                  refine take_ (i := 8) (N := some 111) (v := ?_) (a' := ?_) b36_ rfl rfl (take_ofW HT_.out HW_.out (by kernel_rfl)) (fun _ _ _ h => h) (Or.inl ⟨by rfl, ?_⟩) hHeld ?_ ?_; rotate_left
                  · rintro w' ⟨s0, s1, s2, s3, s4, s5, s6⟩
                    go_simp; with_reducible rfl
                  rotate_left
                  · simp only [Act.put, sets_, i64_w, i32_w]; rfl
                  refine pure_ (i := 9) (N := some 112) (v := ?_) (a' := ?_) b37_ rfl rfl (any_of HT_.out (by kernel_rfl)) (fun _ _ _ h => h) (Or.inl ⟨by rfl, ?_⟩) ?_ ?_; rotate_left
                  · intro w'; go_simp; with_reducible rfl
                  rotate_left
                  · simp only [Act.put, sets_, i64_w, i32_w]; rfl
                  refine pure_ (i := 10) (N := some 113) (v := ?_) (a' := ?_) b38_ rfl rfl (any_of HT_.out (by kernel_rfl)) (fun _ _ _ h => h) (Or.inl ⟨by rfl, ?_⟩) ?_ ?_; rotate_left
                  · intro w'; go_simp; with_reducible rfl
                  rotate_left
                  · simp only [Act.put, sets_, i64_w, i32_w]; rfl
                  refine pure_ (i := 11) (N := some 114) (v := ?_) (a' := ?_) b39_ rfl rfl (any_of HT_.out (by kernel_rfl)) (fun _ _ _ h => h) (Or.inl ⟨by rfl, ?_⟩) ?_ ?_; rotate_left
                  · intro w'; go_simp; with_reducible rfl
                  rotate_left
                  · simp only [Act.put, sets_, i64_w, i32_w]; rfl
                  refine pure_ (i := 12) (N := some 115) (v := ?_) (a' := ?_) b40_ rfl rfl (any_of HT_.out (by kernel_rfl)) (fun _ _ _ h => h) (Or.inl ⟨by rfl, ?_⟩) ?_ ?_; rotate_left
                  · intro w'; go_simp; with_reducible rfl
                  rotate_left
                  · simp only [Act.put, sets_, i64_w, i32_w]; rfl
                  refine pure_ (i := 13) (N := some 116) (v := ?_) (a' := ?_) b41_ rfl rfl (any_of HT_.out (by kernel_rfl)) (fun _ _ _ h => h) (Or.inl ⟨by rfl, ?_⟩) ?_ ?_; rotate_left
                  · intro w'; go_simp; with_reducible rfl
                  rotate_left
                  · simp only [Act.put, sets_, i64_w, i32_w]; rfl
                  refine pure_ (i := 14) (N := some 117) (v := ?_) (a' := ?_) b42_ rfl rfl (any_of HT_.out (by kernel_rfl)) (fun _ _ _ h => h) (Or.inl ⟨by rfl, ?_⟩) ?_ ?_; rotate_left
                  · intro w'; go_simp; with_reducible rfl
                  rotate_left
                  · simp only [Act.put, sets_, i64_w, i32_w]; rfl
                  refine pure_ (i := 16) (N := some 119) (v := ?_) (a' := ?_) b77_ rfl rfl (any_of HT_.out (by kernel_rfl)) (fun _ _ _ h => h) (Or.inl ⟨by rfl, ?_⟩) ?_ ?_; rotate_left
                  · intro w'; go_simp; with_reducible rfl
                  rotate_left
                  · simp only [Act.put, sets_, i64_w, i32_w]; rfl
                  refine pure_ (i := 17) (N := some 120) (v := ?_) (a' := ?_) b78_ rfl rfl (any_of HT_.out (by kernel_rfl)) (fun _ _ _ h => h) (Or.inl ⟨by rfl, ?_⟩) ?_ ?_; rotate_left
                  · intro w'; go_simp; with_reducible rfl
                  rotate_left
                  · simp only [Act.put, sets_, i64_w, i32_w]; rfl
                  refine pure_ (i := 18) (N := some 121) (v := ?_) (a' := ?_) b79_ rfl rfl (any_of HT_.out (by kernel_rfl)) (fun _ _ _ h => h) (Or.inl ⟨by rfl, ?_⟩) ?_ ?_; rotate_left
                  · intro w'; go_simp; with_reducible rfl
                  rotate_left
                  · simp only [Act.put, sets_, i64_w, i32_w]; rfl
                  refine pure_ (i := 20) (N := some 123) (v := ?_) (a' := ?_) b80_ rfl rfl (any_of HT_.out (by kernel_rfl)) (fun _ _ _ h => h) (Or.inl ⟨by rfl, ?_⟩) ?_ ?_; rotate_left
                  · intro w'; go_simp; with_reducible rfl
                  rotate_left
                  · simp only [Act.put, sets_, i64_w, i32_w]; rfl
                  refine pure_ (i := 21) (N := some 124) (v := ?_) (a' := ?_) b81_ rfl rfl (any_of HT_.out (by kernel_rfl)) (fun _ _ _ h => h) (Or.inl ⟨by rfl, ?_⟩) ?_ ?_; rotate_left
                  · intro w'; go_simp; with_reducible rfl
                  rotate_left
                  · simp only [Act.put, sets_, i64_w, i32_w]; rfl
                  refine pure_ (i := 22) (N := some 125) (v := ?_) (a' := ?_) b82_ rfl rfl (any_of HT_.out (by kernel_rfl)) (fun _ _ _ h => h) (Or.inl ⟨by rfl, ?_⟩) ?_ ?_; rotate_left
                  · intro w'; go_simp; with_reducible rfl
                  rotate_left
                  · simp only [Act.put, sets_, i64_w, i32_w]; rfl
                  refine take_ (i := 15) (N := some 118) (v := ?_) (a' := ?_) b83_ rfl rfl (take_ofW HT_.out HW_.out (by kernel_rfl)) (fun _ _ _ h => h) (Or.inl ⟨by rfl, ?_⟩) hHeld ?_ ?_; rotate_left
                  · rintro w' ⟨s0, s1, s2, s3, s4, s5, s6⟩
                    go_simp; with_reducible rfl
                  rotate_left
                  · simp only [Act.put, sets_, i64_w, i32_w]; rfl
                  refine take_ (i := 19) (N := some 122) (v := ?_) (a' := ?_) b50_ rfl rfl (take_ofW HT_.out HW_.out (by kernel_rfl)) (fun _ _ _ h => h) (Or.inl ⟨by rfl, ?_⟩) hHeld ?_ ?_; rotate_left
                  · rintro w' ⟨s0, s1, s2, s3, s4, s5, s6⟩
                    go_simp; with_reducible rfl
                  rotate_left
                  · simp only [Act.put, sets_, i64_w, i32_w]; rfl
                  refine take_ (i := 23) (N := some 126) (v := ?_) (a' := ?_) b51_ rfl rfl (take_ofW HT_.out HW_.out (by kernel_rfl)) (fun _ _ _ h => h) (Or.inl ⟨by rfl, ?_⟩) hHeld ?_ ?_; rotate_left
                  · rintro w' ⟨s0, s1, s2, s3, s4, s5, s6⟩
                    go_simp; with_reducible rfl
                  rotate_left
                  · simp only [Act.put, sets_, i64_w, i32_w]; rfl
                  refine pure_ (i := 24) (N := some 127) (v := ?_) (a' := ?_) b52_ rfl rfl (any_of HT_.out (by kernel_rfl)) (fun _ _ _ h => h) (Or.inl ⟨by rfl, ?_⟩) ?_ ?_; rotate_left
                  · intro w'; go_simp; with_reducible rfl
                  rotate_left
                  · simp only [Act.put, sets_, i64_w, i32_w]; rfl
                  refine pure_ (i := 25) (N := some 128) (v := ?_) (a' := ?_) b53_ rfl rfl (any_of HT_.out (by kernel_rfl)) (fun _ _ _ h => h) (Or.inl ⟨by rfl, ?_⟩) ?_ ?_; rotate_left
                  · intro w'; go_simp; with_reducible rfl
                  rotate_left
                  · simp only [Act.put, sets_, i64_w, i32_w]; rfl
                  refine one_ (i := 26) (N := some 129) b54_ rfl rfl (one_of HT_.out (by kernel_rfl)) (by decide) (fun K hK => ?_)
                  refine goes_ Try.func19 (by kernel_rfl) rfl #[.slice A184_0 (rd_L1 t178 x16_3).length c184_0, .slice A185_0 y189.length c185_0] (by rfl) rfl rfl (by (try simp only [List.map_toArray, List.map_cons, List.map_nil]); first | done | rfl | (simp only [List.length_drop, List.length_take]; rfl)) ?_
                  with_reducible refine (encoreref00_EqBytes.calls k3 _ _ (rd_L1 t178 x16_3) _ _ y189 true _ ?side1 ?side2 ?side3 ?side4 A86.out).mono ?_
                  (case side1 => repeat (first | exact (by repeat (first | (with_reducible exact HR186_0.out) | (with_reducible refine Kd.C_alloc ?_ _) | (with_reducible refine Kd.C_drewN ?_ _) | (with_reducible refine Kd.C_drew ?_) | exact HR186_0.out)) | (with_reducible refine Kd.C_alloc ?_ _) | (with_reducible refine Kd.C_drewN ?_ _) | (with_reducible refine Kd.C_drew ?_)))
                  (case side2 => exact HC186_0.out)
                  (case side3 => repeat (first | exact (Kd.V_reads' HO193.out).2.2 | (with_reducible refine Kd.C_alloc ?_ _) | (with_reducible refine Kd.C_drewN ?_ _) | (with_reducible refine Kd.C_drew ?_)))
                  (case side4 => exact (Kd.V_reads' HO193.out).2.1)
                  rintro e w' ⟨rfl, ⟨nd, rfl⟩⟩
                  refine ⟨_, rfl, ?_⟩
                  refine hK.out _ _ ⟨hHeld.1, hHeld.2.1, hHeld.2.2.1, hHeld.2.2.2.1, hHeld.2.2.2.2.1, hHeld.2.2.2.2.2.1, hHeld.2.2.2.2.2.2⟩ (fun hHeld => ?_)
                  clear hK K
                  refine norm_ (a' := ?_) ?_ ?_
                  rotate_left
                  · show Act.put _ (some 129) _ = _
                    simp only [Act.put, sets_, i64_w, i32_w]; rfl
                  refine pure_ (i := 27) (N := some 130) (v := ?_) (a' := ?_) b55_ rfl rfl (any_of HT_.out (by kernel_rfl)) (fun _ _ _ h => h) (Or.inl ⟨by rfl, ?_⟩) ?_ ?_; rotate_left
                  · intro w'; go_simp; with_reducible rfl
                  rotate_left
                  · simp only [Act.put, sets_, i64_w, i32_w]; rfl
                  refine pure_ (i := 28) (N := some 131) (v := ?_) (a' := ?_) b56_ rfl rfl (any_of HT_.out (by kernel_rfl)) (fun _ _ _ h => h) (Or.inl ⟨by rfl, ?_⟩) ?_ ?_; rotate_left
                  · intro w'; go_simp; with_reducible rfl
                  rotate_left
                  · simp only [Act.put, sets_, i64_w, i32_w]; rfl
                  refine pure_ (i := 29) (N := some 132) (v := ?_) (a' := ?_) b57_ rfl rfl (any_of HT_.out (by kernel_rfl)) (fun _ _ _ h => h) (Or.inl ⟨by rfl, ?_⟩) ?_ ?_; rotate_left
                  · intro w'; go_simp; with_reducible rfl
                  rotate_left
                  · simp only [Act.put, sets_, i64_w, i32_w]; rfl
                  refine pure_ (i := 30) (N := some 133) (v := ?_) (a' := ?_) b58_ rfl rfl (any_of HT_.out (by kernel_rfl)) (fun _ _ _ h => h) (Or.inl ⟨by rfl, ?_⟩) ?_ ?_; rotate_left
                  · intro w'; go_simp; with_reducible rfl
                  rotate_left
                  · simp only [Act.put, sets_, i64_w, i32_w]; rfl
                  refine pure_ (i := 31) (N := some 134) (v := ?_) (a' := ?_) b59_ rfl rfl (any_of HT_.out (by kernel_rfl)) (fun _ _ _ h => h) (Or.inl ⟨by rfl, ?_⟩) ?_ ?_; rotate_left
                  · intro w'; go_simp; with_reducible rfl
                  rotate_left
                  · simp only [Act.put, sets_, i64_w, i32_w]; rfl
                  refine pure_ (i := 32) (N := some 135) (v := ?_) (a' := ?_) b60_ rfl rfl (any_of HT_.out (by kernel_rfl)) (fun _ _ _ h => h) (Or.inl ⟨by rfl, ?_⟩) ?_ ?_; rotate_left
                  · intro w'; go_simp; with_reducible rfl
                  rotate_left
                  · simp only [Act.put, sets_, i64_w, i32_w]; rfl
                  refine pure_ (i := 33) (N := some 136) (v := ?_) (a' := ?_) b61_ rfl rfl (any_of HT_.out (by kernel_rfl)) (fun _ _ _ h => h) (Or.inl ⟨by rfl, ?_⟩) ?_ ?_; rotate_left
                  · intro w'; go_simp; with_reducible rfl
                  rotate_left
                  · simp only [Act.put, sets_, i64_w, i32_w]; rfl
                  refine pure_ (i := 34) (N := some 137) (v := ?_) (a' := ?_) b62_ rfl rfl (any_of HT_.out (by kernel_rfl)) (fun _ _ _ h => h) (Or.inl ⟨by rfl, ?_⟩) ?_ ?_; rotate_left
                  · intro w'; go_simp; with_reducible rfl
                  rotate_left
                  · simp only [Act.put, sets_, i64_w, i32_w]; rfl
                  refine pure_ (i := 35) (N := some 138) (v := ?_) (a' := ?_) b63_ rfl rfl (any_of HT_.out (by kernel_rfl)) (fun _ _ _ h => h) (Or.inl ⟨by rfl, ?_⟩) ?_ ?_; rotate_left
                  · intro w'; go_simp; with_reducible rfl
                  rotate_left
                  · simp only [Act.put, sets_, i64_w, i32_w]; rfl
                  refine pure_ (i := 36) (N := some 139) (v := ?_) (a' := ?_) b64_ rfl rfl (any_of HT_.out (by kernel_rfl)) (fun _ _ _ h => h) (Or.inl ⟨by rfl, ?_⟩) ?_ ?_; rotate_left
                  · intro w'; go_simp; with_reducible rfl
                  rotate_left
                  · simp only [Act.put, sets_, i64_w, i32_w]; rfl
                  refine pure_ (i := 37) (N := some 140) (v := ?_) (a' := ?_) b65_ rfl rfl (any_of HT_.out (by kernel_rfl)) (fun _ _ _ h => h) (Or.inl ⟨by rfl, ?_⟩) ?_ ?_; rotate_left
                  · intro w'; go_simp; with_reducible rfl
                  rotate_left
                  · simp only [Act.put, sets_, i64_w, i32_w]; rfl
                  refine pure_ (i := 38) (N := some 141) (v := ?_) (a' := ?_) b66_ rfl rfl (any_of HT_.out (by kernel_rfl)) (fun _ _ _ h => h) (Or.inl ⟨by rfl, ?_⟩) ?_ ?_; rotate_left
                  · intro w'; go_simp; with_reducible rfl
                  rotate_left
                  · simp only [Act.put, sets_, i64_w, i32_w]; rfl
                  refine pure_ (i := 41) (N := some 144) (v := ?_) (a' := ?_) b84_ rfl rfl (any_of HT_.out (by kernel_rfl)) (fun _ _ _ h => h) (Or.inl ⟨by rfl, ?_⟩) ?_ ?_; rotate_left
                  · intro w'; go_simp; with_reducible rfl
                  rotate_left
                  · simp only [Act.put, sets_, i64_w, i32_w]; rfl
                  refine pure_ (i := 42) (N := some 145) (v := ?_) (a' := ?_) b85_ rfl rfl (any_of HT_.out (by kernel_rfl)) (fun _ _ _ h => h) (Or.inl ⟨by rfl, ?_⟩) ?_ ?_; rotate_left
                  · intro w'; go_simp; with_reducible rfl
                  rotate_left
                  · simp only [Act.put, sets_, i64_w, i32_w]; rfl
                  refine pure_ (i := 43) (N := some 146) (v := ?_) (a' := ?_) b86_ rfl rfl (any_of HT_.out (by kernel_rfl)) (fun _ _ _ h => h) (Or.inl ⟨by rfl, ?_⟩) ?_ ?_; rotate_left
                  · intro w'; go_simp; with_reducible rfl
                  rotate_left
                  · simp only [Act.put, sets_, i64_w, i32_w]; rfl
                  refine take_ (i := 39) (N := some 142) (v := ?_) (a' := ?_) b87_ rfl rfl (take_ofW HT_.out HW_.out (by kernel_rfl)) (fun _ _ _ h => h) (Or.inl ⟨by rfl, ?_⟩) hHeld ?_ ?_; rotate_left
                  · rintro w' ⟨s0, s1, s2, s3, s4, s5, s6⟩
                    go_simp; with_reducible rfl
                  rotate_left
                  · simp only [Act.put, sets_, i64_w, i32_w]; rfl
                  refine pure_ (i := 40) (N := some 143) (v := ?_) (a' := ?_) b71_ rfl rfl (any_of HT_.out (by kernel_rfl)) (fun _ _ _ h => h) (Or.inl ⟨by rfl, ?_⟩) ?_ ?_; rotate_left
                  · intro w'; go_simp; with_reducible rfl
                  rotate_left
                  · simp only [Act.put, sets_, i64_w, i32_w]; rfl
                  refine take_ (i := 44) (N := some 147) (v := ?_) (a' := ?_) b72_ rfl rfl (take_ofW HT_.out HW_.out (by kernel_rfl)) (fun _ _ _ h => h) (Or.inl ⟨by rfl, ?_⟩) hHeld ?_ ?_; rotate_left
                  · rintro w' ⟨s0, s1, s2, s3, s4, s5, s6⟩
                    go_simp; with_reducible rfl
                  rotate_left
                  · simp only [Act.put, sets_, i64_w, i32_w]; rfl
                  refine pure_ (i := 45) (N := some 148) (v := ?_) (a' := ?_) b73_ rfl rfl (any_of HT_.out (by kernel_rfl)) (fun _ _ _ h => h) (Or.inl ⟨by rfl, ?_⟩) ?_ ?_; rotate_left
                  · intro w'; go_simp; with_reducible rfl
                  rotate_left
                  · simp only [Act.put, sets_, i64_w, i32_w]; rfl
                  refine pure_ (i := 46) (N := some 149) (v := ?_) (a' := ?_) b74_ rfl rfl (any_of HT_.out (by kernel_rfl)) (fun _ _ _ h => h) (Or.inl ⟨by rfl, ?_⟩) ?_ ?_; rotate_left
                  · intro w'; go_simp; with_reducible rfl
                  rotate_left
                  · simp only [Act.put, sets_, i64_w, i32_w]; rfl
                  refine pure_ (i := 47) (N := some 150) (v := ?_) (a' := ?_) b75_ rfl rfl (any_of HT_.out (by kernel_rfl)) (fun _ _ _ h => h) (Or.inl ⟨by rfl, ?_⟩) ?_ ?_; rotate_left
                  · intro w'; go_simp; with_reducible rfl
                  rotate_left
                  · simp only [Act.put, sets_, i64_w, i32_w]; rfl
                  refine pure_ (i := 48) (N := some 151) (v := ?_) (a' := ?_) b76_ rfl rfl (any_of HT_.out (by kernel_rfl)) (fun _ _ _ h => h) (Or.inl ⟨by rfl, ?_⟩) ?_ ?_; rotate_left
                  · intro w'; go_simp; with_reducible rfl
                  rotate_left
                  · simp only [Act.put, sets_, i64_w, i32_w]; rfl
                  refine done_ (done_of HT_.out (by kernel_rfl)) ?_
                  try go_wp2
                  go_ret
                  exact ⟨by first | rfl | (simp [errW_none, errW_some] <;> rfl) | (simp [*, errW_none, errW_some] <;> rfl), by repeat (first | (with_reducible first | exact HB.out | apply below_alloc | apply pw_below_drewN | apply below_drew1 | refine below_set ?_ GE142.out) | exact HB.out)⟩
                rw [if_pos c89] at H
                have c89b0 : (((rd_L1 t178 x16_3).length : Int) == ((rd_L1 t151 x16_3).length : Int)) = true := beq_iff_eq.mpr c89
                have c89b1 : (((rd_L1 t178 x16_3).length : Int) != ((rd_L1 t151 x16_3).length : Int)) = false := bne_eq_false_iff_eq.mpr c89
                have c89b2 : ((rd_L1 t178 x16_3).length == (rd_L1 t151 x16_3).length) = true := by first | simpa using c89 | (simp at c89 ⊢; omega)
                clear c89
                have H' := Aside0.mk H
                clear H
                obtain ⟨Ao90, co90, eo90⟩ := Kd.N_slice HO_14.out
                subst eo90
                try go_wp2
                have n0_ := Aside0.mk (Kd.N_drew HO_9.out)
                have n1_ := Aside0.mk (Kd.N_drew HO_14.out)
                have n2_ := Aside0.mk (blk_drew BK142.out)
                have n3_ := Aside0.mk (Kd.C_drew HR182_0.out)
                have n4_ := Aside0.mk (below_drew1 HB.out)
                clear HO_9 HO_14 BK142 HR182_0 HB; have HO_9 := n0_; have HO_14 := n1_; have BK142 := n2_; have HR182_0 := n3_; have HB := n4_; clear n0_ n1_ n2_ n3_ n4_
                have p184 : 0 ≤ (x16_3 : Int) := of_decide_eq_true (by first | (with_reducible assumption) | assumption)
                have q184 : x16_3 < (t178.length : Int) := of_decide_eq_true (by first | (with_reducible assumption) | assumption)
                obtain ⟨ad184, A184_0, c184_0, e184, hx184_0, hl184_0, hi184_0⟩ := at_L1 (Kd.N_reads' HO_14.out).2.2 x16_3 p184 q184
                cases e184
                obtain ⟨ce184, hce184, hMe184, hcc184⟩ := Kd.N_get HO_14.out [] x16_3 p184 (by first | exact q184 | exact of_decide_eq_true (by first | (with_reducible assumption) | assumption) | (have e_ := (Kd.N_reads' HO_14.out).1; omega))
                obtain ⟨ua184_0, uc184_0, rfl, ul184_0, ge184_0⟩ := Kd.FK_slice_open hMe184
                have hv184_0 := hcc184 0 _ rfl
                rw [Nat.add_zero, show ((Kd.slice 5 (Kd.int .u8))).sz = 1 from rfl, Nat.mul_one] at hv184_0
                replace hv184_0 := Option.some.inj (hv184_0.symm.trans hx184_0)
                injection hv184_0 with hva_ hvn_ hvc_
                rw [hva_] at ge184_0
                rw [hvc_] at ul184_0
                have HL184_0 := Aside0.mk (show Kd.V (Kd.int .u8) 5 _ w.heap.size _ _ (rd_L1 t178 x16_3) from Kd.V_mk ul184_0 ge184_0)
                clear hva_ hvn_ hvc_ ge184_0 ul184_0 hcc184 hce184
                have HR184_0 := Aside0.mk hi184_0
                have HC184_0 := Aside0.mk hl184_0
                clear hi184_0 hl184_0
                replace p184 := eq_true p184
                replace q184 := eq_true q184
                obtain ⟨Ao92, co92, eo92⟩ := Kd.N_slice HO_9.out
                (first | subst eo92 | (injection eo92 with f1_ f2_ f3_; have f4_ := f1_.symm; have f5_ := f3_.symm; clear f1_ f2_ f3_; subst f4_; subst f5_))
                have p185 : 0 ≤ (x16_3 : Int) := of_decide_eq_true (by first | (with_reducible assumption) | assumption)
                have q185 : x16_3 < (t151.length : Int) := of_decide_eq_true (by first | (with_reducible assumption) | assumption)
                obtain ⟨ad185, A185_0, c185_0, e185, hx185_0, hl185_0, hi185_0⟩ := at_L1 (Kd.N_reads' HO_9.out).2.2 x16_3 p185 q185
                cases e185
                obtain ⟨ce185, hce185, hMe185, hcc185⟩ := Kd.N_get HO_9.out [] x16_3 p185 (by first | exact q185 | exact of_decide_eq_true (by first | (with_reducible assumption) | assumption) | (have e_ := (Kd.N_reads' HO_9.out).1; omega))
                obtain ⟨ua185_0, uc185_0, rfl, ul185_0, ge185_0⟩ := Kd.FK_slice_open hMe185
                have hv185_0 := hcc185 0 _ rfl
                rw [Nat.add_zero, show ((Kd.slice 5 (Kd.int .u8))).sz = 1 from rfl, Nat.mul_one] at hv185_0
                replace hv185_0 := Option.some.inj (hv185_0.symm.trans hx185_0)
                injection hv185_0 with hva_ hvn_ hvc_
                rw [hva_] at ge185_0
                rw [hvc_] at ul185_0
                have HL185_0 := Aside0.mk (show Kd.V (Kd.int .u8) 5 _ w.heap.size _ _ (rd_L1 t151 x16_3) from Kd.V_mk ul185_0 ge185_0)
                clear hva_ hvn_ hvc_ ge185_0 ul185_0 hcc185 hce185
                have HR185_0 := Aside0.mk hi185_0
                have HC185_0 := Aside0.mk hl185_0
                clear hi185_0 hl185_0
                replace p185 := eq_true p185
                replace q185 := eq_true q185
                have p186 : 0 ≤ (x16_3 : Int) := of_decide_eq_true (by first | (with_reducible assumption) | assumption)
                have q186 : x16_3 < (t178.length : Int) := of_decide_eq_true (by first | (with_reducible assumption) | assumption)
                obtain ⟨ad186, A186_0, c186_0, e186, hx186_0, hl186_0, hi186_0⟩ := at_L1 (Kd.N_reads' HO_14.out).2.2 x16_3 p186 q186
                obtain rfl : ad184 = ad186 := (by injection e186)
                obtain ⟨ce186, hce186, hMe186, hcc186⟩ := Kd.N_get HO_14.out [] x16_3 p186 (by first | exact q186 | exact of_decide_eq_true (by first | (with_reducible assumption) | assumption) | (have e_ := (Kd.N_reads' HO_14.out).1; omega))
                obtain ⟨ua186_0, uc186_0, rfl, ul186_0, ge186_0⟩ := Kd.FK_slice_open hMe186
                have hv186_0 := hcc186 0 _ rfl
                rw [Nat.add_zero, show ((Kd.slice 5 (Kd.int .u8))).sz = 1 from rfl, Nat.mul_one] at hv186_0
                replace hv186_0 := Option.some.inj (hv186_0.symm.trans hx186_0)
                injection hv186_0 with hva_ hvn_ hvc_
                rw [hva_] at ge186_0
                rw [hvc_] at ul186_0
                have HL186_0 := Aside0.mk (show Kd.V (Kd.int .u8) 5 _ w.heap.size _ _ (rd_L1 t178 x16_3) from Kd.V_mk ul186_0 ge186_0)
                clear hva_ hvn_ hvc_ ge186_0 ul186_0 hcc186 hce186
                have HR186_0 := Aside0.mk hi186_0
                have HC186_0 := Aside0.mk hl186_0
                clear hi186_0 hl186_0
                replace p186 := eq_true p186
                replace q186 := eq_true q186
                have ea_ := Option.some.inj (hx184_0.symm.trans hx186_0)
                injection ea_ with ea_ en_ ec_
                subst ea_
                subst ec_
                clear en_
                have p187 : 0 ≤ (x16_3 : Int) := of_decide_eq_true (by first | (with_reducible assumption) | assumption)
                have q187 : x16_3 < (t151.length : Int) := of_decide_eq_true (by first | (with_reducible assumption) | assumption)
                obtain ⟨ad187, A187_0, c187_0, e187, hx187_0, hl187_0, hi187_0⟩ := at_L1 (Kd.N_reads' HO_9.out).2.2 x16_3 p187 q187
                obtain rfl : ad185 = ad187 := (by injection e187)
                obtain ⟨ce187, hce187, hMe187, hcc187⟩ := Kd.N_get HO_9.out [] x16_3 p187 (by first | exact q187 | exact of_decide_eq_true (by first | (with_reducible assumption) | assumption) | (have e_ := (Kd.N_reads' HO_9.out).1; omega))
                obtain ⟨ua187_0, uc187_0, rfl, ul187_0, ge187_0⟩ := Kd.FK_slice_open hMe187
                have hv187_0 := hcc187 0 _ rfl
                rw [Nat.add_zero, show ((Kd.slice 5 (Kd.int .u8))).sz = 1 from rfl, Nat.mul_one] at hv187_0
                replace hv187_0 := Option.some.inj (hv187_0.symm.trans hx187_0)
                injection hv187_0 with hva_ hvn_ hvc_
                rw [hva_] at ge187_0
                rw [hvc_] at ul187_0
                have HL187_0 := Aside0.mk (show Kd.V (Kd.int .u8) 5 _ w.heap.size _ _ (rd_L1 t151 x16_3) from Kd.V_mk ul187_0 ge187_0)
                clear hva_ hvn_ hvc_ ge187_0 ul187_0 hcc187 hce187
                have HR187_0 := Aside0.mk hi187_0
                have HC187_0 := Aside0.mk hl187_0
                clear hi187_0 hl187_0
                replace p187 := eq_true p187
                replace q187 := eq_true q187
                have ea_ := Option.some.inj (hx185_0.symm.trans hx187_0)
                injection ea_ with ea_ en_ ec_
                subst ea_
                subst ec_
                clear en_
                have p188 : 0 ≤ (x16_3 : Int) := of_decide_eq_true (by first | (with_reducible assumption) | assumption)
                have q188 : x16_3 < (t178.length : Int) := of_decide_eq_true (by first | (with_reducible assumption) | assumption)
                obtain ⟨ad188, A188_0, c188_0, e188, hx188_0, hl188_0, hi188_0⟩ := at_L1 (Kd.N_reads' HO_14.out).2.2 x16_3 p188 q188
                obtain rfl : ad184 = ad188 := (by injection e188)
                obtain ⟨ce188, hce188, hMe188, hcc188⟩ := Kd.N_get HO_14.out [] x16_3 p188 (by first | exact q188 | exact of_decide_eq_true (by first | (with_reducible assumption) | assumption) | (have e_ := (Kd.N_reads' HO_14.out).1; omega))
                obtain ⟨ua188_0, uc188_0, rfl, ul188_0, ge188_0⟩ := Kd.FK_slice_open hMe188
                have hv188_0 := hcc188 0 _ rfl
                rw [Nat.add_zero, show ((Kd.slice 5 (Kd.int .u8))).sz = 1 from rfl, Nat.mul_one] at hv188_0
                replace hv188_0 := Option.some.inj (hv188_0.symm.trans hx188_0)
                injection hv188_0 with hva_ hvn_ hvc_
                rw [hva_] at ge188_0
                rw [hvc_] at ul188_0
                have HL188_0 := Aside0.mk (show Kd.V (Kd.int .u8) 5 _ w.heap.size _ _ (rd_L1 t178 x16_3) from Kd.V_mk ul188_0 ge188_0)
                clear hva_ hvn_ hvc_ ge188_0 ul188_0 hcc188 hce188
                have HR188_0 := Aside0.mk hi188_0
                have HC188_0 := Aside0.mk hl188_0
                clear hi188_0 hl188_0
                replace p188 := eq_true p188
                replace q188 := eq_true q188
                have ea_ := Option.some.inj (hx184_0.symm.trans hx188_0)
                injection ea_ with ea_ en_ ec_
                subst ea_
                subst ec_
                clear en_
                have q93 : (((rd_L1 t178 x16_3).length : Int) : Int) ≤ (((rd_L1 t151 x16_3).length : Int) : Int) := of_decide_eq_true (by first | (with_reducible assumption) | assumption)
                obtain ⟨i093, hi093, _, hsz93, _⟩ := info_parts info5
                have hroom93 : (rd_L1 t151 x16_3).length ≤ c185_0 := HC187_0.out
                have hC93 : Kd.F (Kd.int .u8) _ _ A185_0 (rd_L1 t151 x16_3).length (rd_L1 t151 x16_3) := (Kd.V_at (base := w.heap.size) HL187_0.out).2.2
                have hcut93 := cut_to (P := Try.prog) 24 5 .i64 Try.underlying24 hi093 A185_0 (rd_L1 t151 x16_3).length c185_0 ((rd_L1 t178 x16_3).length : Int) (of_decide_eq_true (by first | (with_reducible assumption) | assumption)) q93 hroom93
                have hr93 := Kd.F_take (m := (((rd_L1 t178 x16_3).length : Int) : Int).toNat) hC93 (by omega)
                have hy93 : y189.length = (((rd_L1 t178 x16_3).length : Int) : Int).toNat := (by rw [Ny189.out, List.length_take]; omega)
                rw [← Ny189.out] at hr93
                rw [← hy93] at hcut93
                have HO193 := Aside0.mk (show Kd.V (Kd.int .u8) 5 _ w.heap.size _ (.slice A185_0 y189.length c185_0) y189 from Kd.V_mk (by omega) hr93)
                have HC193 := Aside0.mk (show y189.length ≤ c185_0 from by omega)
                clear hr93 hC93 hroom93 hi093 hsz93
                have KY93 := Aside0.mk hy93
                clear hy93
                replace q93 := eq_true q93
                have p195 : 0 ≤ (x16_3 : Int) := of_decide_eq_true (by first | (with_reducible assumption) | assumption)
                have q195 : x16_3 < (t178.length : Int) := of_decide_eq_true (by first | (with_reducible assumption) | assumption)
                obtain ⟨ad195, A195_0, c195_0, e195, hx195_0, hl195_0, hi195_0⟩ := at_L1 (Kd.N_reads' HO_14.out).2.2 x16_3 p195 q195
                obtain rfl : ad184 = ad195 := (by injection e195)
                obtain ⟨ce195, hce195, hMe195, hcc195⟩ := Kd.N_get HO_14.out [] x16_3 p195 (by first | exact q195 | exact of_decide_eq_true (by first | (with_reducible assumption) | assumption) | (have e_ := (Kd.N_reads' HO_14.out).1; omega))
                obtain ⟨ua195_0, uc195_0, rfl, ul195_0, ge195_0⟩ := Kd.FK_slice_open hMe195
                have hv195_0 := hcc195 0 _ rfl
                rw [Nat.add_zero, show ((Kd.slice 5 (Kd.int .u8))).sz = 1 from rfl, Nat.mul_one] at hv195_0
                replace hv195_0 := Option.some.inj (hv195_0.symm.trans hx195_0)
                injection hv195_0 with hva_ hvn_ hvc_
                rw [hva_] at ge195_0
                rw [hvc_] at ul195_0
                have HL195_0 := Aside0.mk (show Kd.V (Kd.int .u8) 5 _ w.heap.size _ _ (rd_L1 t178 x16_3) from Kd.V_mk ul195_0 ge195_0)
                clear hva_ hvn_ hvc_ ge195_0 ul195_0 hcc195 hce195
                have HR195_0 := Aside0.mk hi195_0
                have HC195_0 := Aside0.mk hl195_0
                clear hi195_0 hl195_0
                replace p195 := eq_true p195
                replace q195 := eq_true q195
                have ea_ := Option.some.inj (hx184_0.symm.trans hx195_0)
                injection ea_ with ea_ en_ ec_
                subst ea_
                subst ec_
                clear en_
                have p196 : 0 ≤ (x16_3 : Int) := of_decide_eq_true (by first | (with_reducible assumption) | assumption)
                have q196 : x16_3 < (t151.length : Int) := of_decide_eq_true (by first | (with_reducible assumption) | assumption)
                obtain ⟨ad196, A196_0, c196_0, e196, hx196_0, hl196_0, hi196_0⟩ := at_L1 (Kd.N_reads' HO_9.out).2.2 x16_3 p196 q196
                obtain rfl : ad185 = ad196 := (by injection e196)
                obtain ⟨ce196, hce196, hMe196, hcc196⟩ := Kd.N_get HO_9.out [] x16_3 p196 (by first | exact q196 | exact of_decide_eq_true (by first | (with_reducible assumption) | assumption) | (have e_ := (Kd.N_reads' HO_9.out).1; omega))
                obtain ⟨ua196_0, uc196_0, rfl, ul196_0, ge196_0⟩ := Kd.FK_slice_open hMe196
                have hv196_0 := hcc196 0 _ rfl
                rw [Nat.add_zero, show ((Kd.slice 5 (Kd.int .u8))).sz = 1 from rfl, Nat.mul_one] at hv196_0
                replace hv196_0 := Option.some.inj (hv196_0.symm.trans hx196_0)
                injection hv196_0 with hva_ hvn_ hvc_
                rw [hva_] at ge196_0
                rw [hvc_] at ul196_0
                have HL196_0 := Aside0.mk (show Kd.V (Kd.int .u8) 5 _ w.heap.size _ _ (rd_L1 t151 x16_3) from Kd.V_mk ul196_0 ge196_0)
                clear hva_ hvn_ hvc_ ge196_0 ul196_0 hcc196 hce196
                have HR196_0 := Aside0.mk hi196_0
                have HC196_0 := Aside0.mk hl196_0
                clear hi196_0 hl196_0
                replace p196 := eq_true p196
                replace q196 := eq_true q196
                have ea_ := Option.some.inj (hx185_0.symm.trans hx196_0)
                injection ea_ with ea_ en_ ec_
                subst ea_
                subst ec_
                clear en_
                refine start_ (n := 49) (S := fun w' => w'.cell? (ad184.add (x16_3).toNat) = some (.slice A184_0 (rd_L1 t178 x16_3).length c184_0) ∧ w'.cell? (ad185.add (x16_3).toNat) = some (.slice A185_0 (rd_L1 t151 x16_3).length c185_0) ∧ w'.cell? (ad184.add (x16_3).toNat) = some (.slice A184_0 (rd_L1 t178 x16_3).length c184_0) ∧ w'.cell? (ad185.add (x16_3).toNat) = some (.slice A185_0 (rd_L1 t151 x16_3).length c185_0) ∧ w'.cell? (ad184.add (x16_3).toNat) = some (.slice A184_0 (rd_L1 t178 x16_3).length c184_0) ∧ w'.cell? (ad184.add (x16_3).toNat) = some (.slice A184_0 (rd_L1 t178 x16_3).length c184_0) ∧ w'.cell? (ad185.add (x16_3).toNat) = some (.slice A185_0 (rd_L1 t151 x16_3).length c185_0)) (ds := []) b27_ (by kernel_rfl) rfl rfl ⟨hx184_0, hx185_0, hx186_0, hx187_0, hx188_0, hx195_0, hx196_0⟩ (fun hHeld => ?_); refine with_tabW encorelaw05_StripTorn.tab18 encorelaw05_StripTorn.bits18 (fun HT_ HW_ => ?_)
                generalize wr.drew = w91 at HO_9 HO_14 BK142 HR182_0 HB HL184_0 HL185_0 HL186_0 HL187_0 HL188_0 HL195_0 HL196_0 HO193 HR184_0 HR185_0 HR186_0 HR187_0 HR188_0 HR195_0 HR196_0 hx184_0 hx185_0 hx186_0 hx187_0 hx188_0 hx195_0 hx196_0 hHeld ⊢
                refine pure_ (i := 0) (N := some 103) (v := ?_) (a' := ?_) b28_ rfl rfl (any_of HT_.out (by kernel_rfl)) (fun _ _ _ h => h) (Or.inl ⟨by rfl, ?_⟩) ?_ ?_; rotate_left
                · intro w'; go_simp; with_reducible rfl
                rotate_left
                · simp only [Act.put, sets_, i64_w, i32_w]; rfl
                refine pure_ (i := 1) (N := some 104) (v := ?_) (a' := ?_) b29_ rfl rfl (any_of HT_.out (by kernel_rfl)) (fun _ _ _ h => h) (Or.inl ⟨by rfl, ?_⟩) ?_ ?_; rotate_left
                · intro w'; go_simp; with_reducible rfl
                rotate_left
                · simp only [Act.put, sets_, i64_w, i32_w]; rfl
                refine pure_ (i := 2) (N := some 105) (v := ?_) (a' := ?_) b30_ rfl rfl (any_of HT_.out (by kernel_rfl)) (fun _ _ _ h => h) (Or.inl ⟨by rfl, ?_⟩) ?_ ?_; rotate_left
                · intro w'; go_simp; with_reducible rfl
                rotate_left
                · simp only [Act.put, sets_, i64_w, i32_w]; rfl
                refine pure_ (i := 5) (N := some 108) (v := ?_) (a' := ?_) b31_ rfl rfl (any_of HT_.out (by kernel_rfl)) (fun _ _ _ h => h) (Or.inl ⟨by rfl, ?_⟩) ?_ ?_; rotate_left
                · intro w'; go_simp; with_reducible rfl
                rotate_left
                · simp only [Act.put, sets_, i64_w, i32_w]; rfl
                refine pure_ (i := 6) (N := some 109) (v := ?_) (a' := ?_) b32_ rfl rfl (any_of HT_.out (by kernel_rfl)) (fun _ _ _ h => h) (Or.inl ⟨by rfl, ?_⟩) ?_ ?_; rotate_left
                · intro w'; go_simp; with_reducible rfl
                rotate_left
                · simp only [Act.put, sets_, i64_w, i32_w]; rfl
                refine pure_ (i := 7) (N := some 110) (v := ?_) (a' := ?_) b33_ rfl rfl (any_of HT_.out (by kernel_rfl)) (fun _ _ _ h => h) (Or.inl ⟨by rfl, ?_⟩) ?_ ?_; rotate_left
                · intro w'; go_simp; with_reducible rfl
                rotate_left
                · simp only [Act.put, sets_, i64_w, i32_w]; rfl
                refine take_ (i := 3) (N := some 106) (v := ?_) (a' := ?_) b34_ rfl rfl (take_ofW HT_.out HW_.out (by kernel_rfl)) (fun _ _ _ h => h) (Or.inl ⟨by rfl, ?_⟩) hHeld ?_ ?_; rotate_left
                · rintro w' ⟨s0, s1, s2, s3, s4, s5, s6⟩
                  go_simp; with_reducible rfl
                rotate_left
                · simp only [Act.put, sets_, i64_w, i32_w]; rfl
                refine pure_ (i := 4) (N := some 107) (v := ?_) (a' := ?_) b35_ rfl rfl (any_of HT_.out (by kernel_rfl)) (fun _ _ _ h => h) (Or.inl ⟨by rfl, ?_⟩) ?_ ?_; rotate_left
                · intro w'; go_simp; with_reducible rfl
                rotate_left
                · simp only [Act.put, sets_, i64_w, i32_w]; rfl
                refine take_ (i := 8) (N := some 111) (v := ?_) (a' := ?_) b36_ rfl rfl (take_ofW HT_.out HW_.out (by kernel_rfl)) (fun _ _ _ h => h) (Or.inl ⟨by rfl, ?_⟩) hHeld ?_ ?_; rotate_left
                · rintro w' ⟨s0, s1, s2, s3, s4, s5, s6⟩
                  go_simp; with_reducible rfl
                rotate_left
                · simp only [Act.put, sets_, i64_w, i32_w]; rfl
                refine pure_ (i := 9) (N := some 112) (v := ?_) (a' := ?_) b37_ rfl rfl (any_of HT_.out (by kernel_rfl)) (fun _ _ _ h => h) (Or.inl ⟨by rfl, ?_⟩) ?_ ?_; rotate_left
                · intro w'; go_simp; with_reducible rfl
                rotate_left
                · simp only [Act.put, sets_, i64_w, i32_w]; rfl
                refine pure_ (i := 10) (N := some 113) (v := ?_) (a' := ?_) b38_ rfl rfl (any_of HT_.out (by kernel_rfl)) (fun _ _ _ h => h) (Or.inl ⟨by rfl, ?_⟩) ?_ ?_; rotate_left
                · intro w'; go_simp; with_reducible rfl
                rotate_left
                · simp only [Act.put, sets_, i64_w, i32_w]; rfl
                refine pure_ (i := 11) (N := some 114) (v := ?_) (a' := ?_) b39_ rfl rfl (any_of HT_.out (by kernel_rfl)) (fun _ _ _ h => h) (Or.inl ⟨by rfl, ?_⟩) ?_ ?_; rotate_left
                · intro w'; go_simp; with_reducible rfl
                rotate_left
                · simp only [Act.put, sets_, i64_w, i32_w]; rfl
                refine pure_ (i := 12) (N := some 115) (v := ?_) (a' := ?_) b40_ rfl rfl (any_of HT_.out (by kernel_rfl)) (fun _ _ _ h => h) (Or.inl ⟨by rfl, ?_⟩) ?_ ?_; rotate_left
                · intro w'; go_simp; with_reducible rfl
                rotate_left
                · simp only [Act.put, sets_, i64_w, i32_w]; rfl
                refine pure_ (i := 13) (N := some 116) (v := ?_) (a' := ?_) b41_ rfl rfl (any_of HT_.out (by kernel_rfl)) (fun _ _ _ h => h) (Or.inl ⟨by rfl, ?_⟩) ?_ ?_; rotate_left
                · intro w'; go_simp; with_reducible rfl
                rotate_left
                · simp only [Act.put, sets_, i64_w, i32_w]; rfl
                refine pure_ (i := 14) (N := some 117) (v := ?_) (a' := ?_) b42_ rfl rfl (any_of HT_.out (by kernel_rfl)) (fun _ _ _ h => h) (Or.inl ⟨by rfl, ?_⟩) ?_ ?_; rotate_left
                · intro w'; go_simp; with_reducible rfl
                rotate_left
                · simp only [Act.put, sets_, i64_w, i32_w]; rfl
                refine pure_ (i := 16) (N := some 119) (v := ?_) (a' := ?_) b77_ rfl rfl (any_of HT_.out (by kernel_rfl)) (fun _ _ _ h => h) (Or.inl ⟨by rfl, ?_⟩) ?_ ?_; rotate_left
                · intro w'; go_simp; with_reducible rfl
                rotate_left
                · simp only [Act.put, sets_, i64_w, i32_w]; rfl
                refine pure_ (i := 17) (N := some 120) (v := ?_) (a' := ?_) b78_ rfl rfl (any_of HT_.out (by kernel_rfl)) (fun _ _ _ h => h) (Or.inl ⟨by rfl, ?_⟩) ?_ ?_; rotate_left
                · intro w'; go_simp; with_reducible rfl
                rotate_left
                · simp only [Act.put, sets_, i64_w, i32_w]; rfl
                refine pure_ (i := 18) (N := some 121) (v := ?_) (a' := ?_) b79_ rfl rfl (any_of HT_.out (by kernel_rfl)) (fun _ _ _ h => h) (Or.inl ⟨by rfl, ?_⟩) ?_ ?_; rotate_left
                · intro w'; go_simp; with_reducible rfl
                rotate_left
                · simp only [Act.put, sets_, i64_w, i32_w]; rfl
                refine pure_ (i := 20) (N := some 123) (v := ?_) (a' := ?_) b80_ rfl rfl (any_of HT_.out (by kernel_rfl)) (fun _ _ _ h => h) (Or.inl ⟨by rfl, ?_⟩) ?_ ?_; rotate_left
                · intro w'; go_simp; with_reducible rfl
                rotate_left
                · simp only [Act.put, sets_, i64_w, i32_w]; rfl
                refine pure_ (i := 21) (N := some 124) (v := ?_) (a' := ?_) b81_ rfl rfl (any_of HT_.out (by kernel_rfl)) (fun _ _ _ h => h) (Or.inl ⟨by rfl, ?_⟩) ?_ ?_; rotate_left
                · intro w'; go_simp; with_reducible rfl
                rotate_left
                · simp only [Act.put, sets_, i64_w, i32_w]; rfl
                refine pure_ (i := 22) (N := some 125) (v := ?_) (a' := ?_) b82_ rfl rfl (any_of HT_.out (by kernel_rfl)) (fun _ _ _ h => h) (Or.inl ⟨by rfl, ?_⟩) ?_ ?_; rotate_left
                · intro w'; go_simp; with_reducible rfl
                rotate_left
                · simp only [Act.put, sets_, i64_w, i32_w]; rfl
                refine take_ (i := 15) (N := some 118) (v := ?_) (a' := ?_) b83_ rfl rfl (take_ofW HT_.out HW_.out (by kernel_rfl)) (fun _ _ _ h => h) (Or.inl ⟨by rfl, ?_⟩) hHeld ?_ ?_; rotate_left
                · rintro w' ⟨s0, s1, s2, s3, s4, s5, s6⟩
                  go_simp; with_reducible rfl
                rotate_left
                · simp only [Act.put, sets_, i64_w, i32_w]; rfl
                refine take_ (i := 19) (N := some 122) (v := ?_) (a' := ?_) b50_ rfl rfl (take_ofW HT_.out HW_.out (by kernel_rfl)) (fun _ _ _ h => h) (Or.inl ⟨by rfl, ?_⟩) hHeld ?_ ?_; rotate_left
                · rintro w' ⟨s0, s1, s2, s3, s4, s5, s6⟩
                  go_simp; with_reducible rfl
                rotate_left
                · simp only [Act.put, sets_, i64_w, i32_w]; rfl
                refine take_ (i := 23) (N := some 126) (v := ?_) (a' := ?_) b51_ rfl rfl (take_ofW HT_.out HW_.out (by kernel_rfl)) (fun _ _ _ h => h) (Or.inl ⟨by rfl, ?_⟩) hHeld ?_ ?_; rotate_left
                · rintro w' ⟨s0, s1, s2, s3, s4, s5, s6⟩
                  go_simp; with_reducible rfl
                rotate_left
                · simp only [Act.put, sets_, i64_w, i32_w]; rfl
                refine pure_ (i := 24) (N := some 127) (v := ?_) (a' := ?_) b52_ rfl rfl (any_of HT_.out (by kernel_rfl)) (fun _ _ _ h => h) (Or.inl ⟨by rfl, ?_⟩) ?_ ?_; rotate_left
                · intro w'; go_simp; with_reducible rfl
                rotate_left
                · simp only [Act.put, sets_, i64_w, i32_w]; rfl
                refine pure_ (i := 25) (N := some 128) (v := ?_) (a' := ?_) b53_ rfl rfl (any_of HT_.out (by kernel_rfl)) (fun _ _ _ h => h) (Or.inl ⟨by rfl, ?_⟩) ?_ ?_; rotate_left
                · intro w'; go_simp; with_reducible rfl
                rotate_left
                · simp only [Act.put, sets_, i64_w, i32_w]; rfl
                refine one_ (i := 26) (N := some 129) b54_ rfl rfl (one_of HT_.out (by kernel_rfl)) (by decide) (fun K hK => ?_)
                refine goes_ Try.func19 (by kernel_rfl) rfl #[.slice A184_0 (rd_L1 t178 x16_3).length c184_0, .slice A185_0 y189.length c185_0] (by rfl) rfl rfl (by (try simp only [List.map_toArray, List.map_cons, List.map_nil]); first | done | rfl | (simp only [List.length_drop, List.length_take]; rfl)) ?_
                with_reducible refine (encoreref00_EqBytes.calls k3 _ _ (rd_L1 t178 x16_3) _ _ y189 true _ ?side1 ?side2 ?side3 ?side4 A86.out).mono ?_
                (case side1 => repeat (first | exact (by repeat (first | (with_reducible exact HR186_0.out) | (with_reducible refine Kd.C_alloc ?_ _) | (with_reducible refine Kd.C_drewN ?_ _) | (with_reducible refine Kd.C_drew ?_) | exact HR186_0.out)) | (with_reducible refine Kd.C_alloc ?_ _) | (with_reducible refine Kd.C_drewN ?_ _) | (with_reducible refine Kd.C_drew ?_)))
                (case side2 => exact HC186_0.out)
                (case side3 => repeat (first | exact (Kd.V_reads' HO193.out).2.2 | (with_reducible refine Kd.C_alloc ?_ _) | (with_reducible refine Kd.C_drewN ?_ _) | (with_reducible refine Kd.C_drew ?_)))
                (case side4 => exact (Kd.V_reads' HO193.out).2.1)
                rintro e w' ⟨rfl, ⟨nd, rfl⟩⟩
                refine ⟨_, rfl, ?_⟩
                refine hK.out _ _ ⟨hHeld.1, hHeld.2.1, hHeld.2.2.1, hHeld.2.2.2.1, hHeld.2.2.2.2.1, hHeld.2.2.2.2.2.1, hHeld.2.2.2.2.2.2⟩ (fun hHeld => ?_)
                clear hK K
                refine norm_ (a' := ?_) ?_ ?_
                rotate_left
                · show Act.put _ (some 129) _ = _
                  simp only [Act.put, sets_, i64_w, i32_w]; rfl
                refine pure_ (i := 27) (N := some 130) (v := ?_) (a' := ?_) b55_ rfl rfl (any_of HT_.out (by kernel_rfl)) (fun _ _ _ h => h) (Or.inl ⟨by rfl, ?_⟩) ?_ ?_; rotate_left
                · intro w'; go_simp; with_reducible rfl
                rotate_left
                · simp only [Act.put, sets_, i64_w, i32_w]; rfl
                refine pure_ (i := 28) (N := some 131) (v := ?_) (a' := ?_) b56_ rfl rfl (any_of HT_.out (by kernel_rfl)) (fun _ _ _ h => h) (Or.inl ⟨by rfl, ?_⟩) ?_ ?_; rotate_left
                · intro w'; go_simp; with_reducible rfl
                rotate_left
                · simp only [Act.put, sets_, i64_w, i32_w]; rfl
                refine pure_ (i := 29) (N := some 132) (v := ?_) (a' := ?_) b57_ rfl rfl (any_of HT_.out (by kernel_rfl)) (fun _ _ _ h => h) (Or.inl ⟨by rfl, ?_⟩) ?_ ?_; rotate_left
                · intro w'; go_simp; with_reducible rfl
                rotate_left
                · simp only [Act.put, sets_, i64_w, i32_w]; rfl
                refine pure_ (i := 30) (N := some 133) (v := ?_) (a' := ?_) b58_ rfl rfl (any_of HT_.out (by kernel_rfl)) (fun _ _ _ h => h) (Or.inl ⟨by rfl, ?_⟩) ?_ ?_; rotate_left
                · intro w'; go_simp; with_reducible rfl
                rotate_left
                · simp only [Act.put, sets_, i64_w, i32_w]; rfl
                refine pure_ (i := 31) (N := some 134) (v := ?_) (a' := ?_) b59_ rfl rfl (any_of HT_.out (by kernel_rfl)) (fun _ _ _ h => h) (Or.inl ⟨by rfl, ?_⟩) ?_ ?_; rotate_left
                · intro w'; go_simp; with_reducible rfl
                rotate_left
                · simp only [Act.put, sets_, i64_w, i32_w]; rfl
                refine pure_ (i := 32) (N := some 135) (v := ?_) (a' := ?_) b60_ rfl rfl (any_of HT_.out (by kernel_rfl)) (fun _ _ _ h => h) (Or.inl ⟨by rfl, ?_⟩) ?_ ?_; rotate_left
                · intro w'; go_simp; with_reducible rfl
                rotate_left
                · simp only [Act.put, sets_, i64_w, i32_w]; rfl
                refine pure_ (i := 33) (N := some 136) (v := ?_) (a' := ?_) b61_ rfl rfl (any_of HT_.out (by kernel_rfl)) (fun _ _ _ h => h) (Or.inl ⟨by rfl, ?_⟩) ?_ ?_; rotate_left
                · intro w'; go_simp; with_reducible rfl
                rotate_left
                · simp only [Act.put, sets_, i64_w, i32_w]; rfl
                refine pure_ (i := 34) (N := some 137) (v := ?_) (a' := ?_) b62_ rfl rfl (any_of HT_.out (by kernel_rfl)) (fun _ _ _ h => h) (Or.inl ⟨by rfl, ?_⟩) ?_ ?_; rotate_left
                · intro w'; go_simp; with_reducible rfl
                rotate_left
                · simp only [Act.put, sets_, i64_w, i32_w]; rfl
                refine pure_ (i := 35) (N := some 138) (v := ?_) (a' := ?_) b63_ rfl rfl (any_of HT_.out (by kernel_rfl)) (fun _ _ _ h => h) (Or.inl ⟨by rfl, ?_⟩) ?_ ?_; rotate_left
                · intro w'; go_simp; with_reducible rfl
                rotate_left
                · simp only [Act.put, sets_, i64_w, i32_w]; rfl
                refine pure_ (i := 36) (N := some 139) (v := ?_) (a' := ?_) b64_ rfl rfl (any_of HT_.out (by kernel_rfl)) (fun _ _ _ h => h) (Or.inl ⟨by rfl, ?_⟩) ?_ ?_; rotate_left
                · intro w'; go_simp; with_reducible rfl
                rotate_left
                · simp only [Act.put, sets_, i64_w, i32_w]; rfl
                refine pure_ (i := 37) (N := some 140) (v := ?_) (a' := ?_) b65_ rfl rfl (any_of HT_.out (by kernel_rfl)) (fun _ _ _ h => h) (Or.inl ⟨by rfl, ?_⟩) ?_ ?_; rotate_left
                · intro w'; go_simp; with_reducible rfl
                rotate_left
                · simp only [Act.put, sets_, i64_w, i32_w]; rfl
                refine pure_ (i := 38) (N := some 141) (v := ?_) (a' := ?_) b66_ rfl rfl (any_of HT_.out (by kernel_rfl)) (fun _ _ _ h => h) (Or.inl ⟨by rfl, ?_⟩) ?_ ?_; rotate_left
                · intro w'; go_simp; with_reducible rfl
                rotate_left
                · simp only [Act.put, sets_, i64_w, i32_w]; rfl
                refine pure_ (i := 41) (N := some 144) (v := ?_) (a' := ?_) b84_ rfl rfl (any_of HT_.out (by kernel_rfl)) (fun _ _ _ h => h) (Or.inl ⟨by rfl, ?_⟩) ?_ ?_; rotate_left
                · intro w'; go_simp; with_reducible rfl
                rotate_left
                · simp only [Act.put, sets_, i64_w, i32_w]; rfl
                refine pure_ (i := 42) (N := some 145) (v := ?_) (a' := ?_) b85_ rfl rfl (any_of HT_.out (by kernel_rfl)) (fun _ _ _ h => h) (Or.inl ⟨by rfl, ?_⟩) ?_ ?_; rotate_left
                · intro w'; go_simp; with_reducible rfl
                rotate_left
                · simp only [Act.put, sets_, i64_w, i32_w]; rfl
                refine pure_ (i := 43) (N := some 146) (v := ?_) (a' := ?_) b86_ rfl rfl (any_of HT_.out (by kernel_rfl)) (fun _ _ _ h => h) (Or.inl ⟨by rfl, ?_⟩) ?_ ?_; rotate_left
                · intro w'; go_simp; with_reducible rfl
                rotate_left
                · simp only [Act.put, sets_, i64_w, i32_w]; rfl
                refine take_ (i := 39) (N := some 142) (v := ?_) (a' := ?_) b87_ rfl rfl (take_ofW HT_.out HW_.out (by kernel_rfl)) (fun _ _ _ h => h) (Or.inl ⟨by rfl, ?_⟩) hHeld ?_ ?_; rotate_left
                · rintro w' ⟨s0, s1, s2, s3, s4, s5, s6⟩
                  go_simp; with_reducible rfl
                rotate_left
                · simp only [Act.put, sets_, i64_w, i32_w]; rfl
                refine pure_ (i := 40) (N := some 143) (v := ?_) (a' := ?_) b71_ rfl rfl (any_of HT_.out (by kernel_rfl)) (fun _ _ _ h => h) (Or.inl ⟨by rfl, ?_⟩) ?_ ?_; rotate_left
                · intro w'; go_simp; with_reducible rfl
                rotate_left
                · simp only [Act.put, sets_, i64_w, i32_w]; rfl
                refine take_ (i := 44) (N := some 147) (v := ?_) (a' := ?_) b72_ rfl rfl (take_ofW HT_.out HW_.out (by kernel_rfl)) (fun _ _ _ h => h) (Or.inl ⟨by rfl, ?_⟩) hHeld ?_ ?_; rotate_left
                · rintro w' ⟨s0, s1, s2, s3, s4, s5, s6⟩
                  go_simp; with_reducible rfl
                rotate_left
                · simp only [Act.put, sets_, i64_w, i32_w]; rfl
                refine pure_ (i := 45) (N := some 148) (v := ?_) (a' := ?_) b73_ rfl rfl (any_of HT_.out (by kernel_rfl)) (fun _ _ _ h => h) (Or.inl ⟨by rfl, ?_⟩) ?_ ?_; rotate_left
                · intro w'; go_simp; with_reducible rfl
                rotate_left
                · simp only [Act.put, sets_, i64_w, i32_w]; rfl
                refine pure_ (i := 46) (N := some 149) (v := ?_) (a' := ?_) b74_ rfl rfl (any_of HT_.out (by kernel_rfl)) (fun _ _ _ h => h) (Or.inl ⟨by rfl, ?_⟩) ?_ ?_; rotate_left
                · intro w'; go_simp; with_reducible rfl
                rotate_left
                · simp only [Act.put, sets_, i64_w, i32_w]; rfl
                refine pure_ (i := 47) (N := some 150) (v := ?_) (a' := ?_) b75_ rfl rfl (any_of HT_.out (by kernel_rfl)) (fun _ _ _ h => h) (Or.inl ⟨by rfl, ?_⟩) ?_ ?_; rotate_left
                · intro w'; go_simp; with_reducible rfl
                rotate_left
                · simp only [Act.put, sets_, i64_w, i32_w]; rfl
                refine pure_ (i := 48) (N := some 151) (v := ?_) (a' := ?_) b76_ rfl rfl (any_of HT_.out (by kernel_rfl)) (fun _ _ _ h => h) (Or.inl ⟨by rfl, ?_⟩) ?_ ?_; rotate_left
                · intro w'; go_simp; with_reducible rfl
                rotate_left
                · simp only [Act.put, sets_, i64_w, i32_w]; rfl
                refine done_ (done_of HT_.out (by kernel_rfl)) ?_
                try go_wp2
                go_roundg k3
                case measure => have := HJ7.out; have := HJ59.out; have := HK3.out; omega
                case rel => exact ⟨(wrap64 (x16_3 + 1)), (by first | rfl | (simp; done) | (simp [*]; done)), H', ⟨by have := HJ7.out; have := HJ59.out; have := HK3.out; omega⟩, ⟨by (with_reducible repeat (first | apply Kd.N_alloc | apply Kd.N_drewN | apply Kd.N_drew)); exact HO_9.out⟩, ⟨by (with_reducible repeat (first | apply Kd.N_alloc | apply Kd.N_drewN | apply Kd.N_drew)); exact HO_14.out⟩, ⟨by (with_reducible repeat (first | refine blk_drewN ?_ _ | refine blk_drew ?_ | refine blk_alloc ?_ _)); exact BK142.out⟩, ⟨by repeat (first | (with_reducible exact HR182_0.out) | (with_reducible refine Kd.C_alloc ?_ _) | (with_reducible refine Kd.C_drewN ?_ _) | (with_reducible refine Kd.C_drew ?_) | exact HR182_0.out)⟩, ⟨by repeat (first | (with_reducible first | exact HB.out | apply below_alloc | apply pw_below_drewN | apply below_drew1 | refine below_set ?_ GE142.out) | exact HB.out)⟩⟩
end Go.Proofs.Ytfkndnocjelhgaa.LT
