/- The program's Mod answers as the reference's, for all ints; no condition. -/
import Derived.Test.YtnmcffcjilldfaaPFnExactModx1
import Derived.Test.YtnmcffcjilldfaaCom
namespace Go.Proofs.Ytnmcffcjilldfaa.Pure
open Go.RowKit Go.Proofs.Ytnmcffcjilldfaa.PFnExactMod Go.Proofs.YtnmcffcjilldfaaW.PrintWords Go.Proofs.YtnmcffcjilldfaaW.PrintLast Go.Proofs.Ytnmcffcjilldfaa.Com

theorem FnExactMod : laws_FnExactMod.Pure := by
  intro a0 a1 _ _
  unfold laws_FnExactMod.f
  have e : impl_Mod.f a0 a1 = spec_Mod.f a0 a1 := rfl
  rw [e]
  have h : ∃ r, spec_Mod.f a0 a1 = some r := by
    unfold spec_Mod.f
    by_cases h1 : a1 < 1
    · rw [if_pos h1]; exact ⟨_, rfl⟩
    · rw [if_neg h1, if_neg (by omega)]
      split <;> exact ⟨_, rfl⟩
  obtain ⟨r, h⟩ := h
  rw [h]
  simp

end Go.Proofs.Ytnmcffcjilldfaa.Pure
