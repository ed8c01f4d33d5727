/- The program's Calc answers as the reference's, for all ints; no condition. -/
import Derived.Test.YtnmcffcjilldfaaPFnExactCalcx1
import Derived.Test.YtnmcffcjilldfaaCom
namespace Go.Proofs.Ytnmcffcjilldfaa.Pure
open Go.RowKit Go.Proofs.Ytnmcffcjilldfaa.PFnExactCalc Go.Proofs.YtnmcffcjilldfaaW.PrintWords Go.Proofs.YtnmcffcjilldfaaW.PrintLast Go.Proofs.Ytnmcffcjilldfaa.Com

theorem isVal_eq (n : Int) : impl_isVal.f n = spec_l03Val.f n := rfl
theorem val_eq (n : Int) : spec_l03Val.f n = some (decide (0 ≤ n ∧ n ≤ 999)) := by
  unfold spec_l03Val.f
  by_cases h : n ≥ 0 <;> simp [h]
theorem mod_some (x : Int) : ∃ r, spec_Mod.f x 1000 = some r := by
  unfold spec_Mod.f
  rw [if_neg (by omega), if_neg (by omega)]
  split <;> exact ⟨_, rfl⟩
theorem mod_pos (x : Int) (h : 0 ≤ x) : spec_Mod.f x 1000 = some (Int.tmod x 1000) := by
  unfold spec_Mod.f
  rw [if_neg (by omega), if_neg (by omega), if_neg (by rw [tmod_pos h]; omega)]
theorem same_mod (x y : Int) : impl_Mod.f x y = spec_Mod.f x y := rfl
theorem FnExactCalc : laws_FnExactCalc.Pure := by
  intro op x y _ _ _
  refine ⟨1, ?_⟩
  unfold laws_FnExactCalc.f spec_Calc.f impl_Calc.f
  simp only [isVal_eq, val_eq, Option.bind_some, spec_Calc.j0, impl_Calc.j0, same_mod]
  obtain ⟨r, hr⟩ := mod_some (wrap64 (x - y))
  by_cases hx : 0 ≤ x ∧ x ≤ 999
  · by_cases hy : 0 ≤ y ∧ y ≤ 999
    · have hm := mod_pos (x + y) (by omega)
      rw [w64 (n := x + y) (by omega) (by omega), hm, hr]
      simp only [hx, hy]
      simp
      repeat (first | rfl | split | simp_all)
    · simp [hx, hy]
  · simp [hx]

end Go.Proofs.Ytnmcffcjilldfaa.Pure
