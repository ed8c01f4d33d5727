/- The program's OpWord answers as the reference's, for every int; no condition. -/
import Derived.Test.YtnmcffcjilldfaaPFnExactOpWordx1
import Derived.Test.YtnmcffcjilldfaaCom
namespace Go.Proofs.Ytnmcffcjilldfaa.Pure
open Go.RowKit Go.Proofs.Ytnmcffcjilldfaa.PFnExactOpWord Go.Proofs.YtnmcffcjilldfaaW.PrintWords Go.Proofs.YtnmcffcjilldfaaW.PrintLast Go.Proofs.Ytnmcffcjilldfaa.Com

theorem FnExactOpWord : laws_FnExactOpWord.Pure := by
  intro a0 _
  unfold laws_FnExactOpWord.f
  by_cases h0 : a0 < 1
  · by_cases h1 : a0 = 0
    · subst h1; decide +kernel
    · have e1 : spec_OpWord.f a0 = some ⟨#[]⟩ := by unfold spec_OpWord.f; rw [if_pos h0]
      have e2 : impl_OpWord.f a0 = some ⟨#[]⟩ := by
        unfold impl_OpWord.f
        simp only [Option.bind_some]
        rw [if_pos (by omega)]
      rw [e1, e2]; decide +kernel
  · by_cases h1 : a0 > 15
    · have e1 : spec_OpWord.f a0 = some ⟨#[]⟩ := by unfold spec_OpWord.f; rw [if_neg h0, if_pos h1]
      have e2 : impl_OpWord.f a0 = some ⟨#[]⟩ := by
        unfold impl_OpWord.f
        simp only [Option.bind_some]
        rw [if_neg (by omega), if_pos (by simp; omega)]
      rw [e1, e2]; decide +kernel
    · have : a0 = 1 ∨ a0 = 2 ∨ a0 = 3 ∨ a0 = 4 ∨ a0 = 5 ∨ a0 = 6 ∨ a0 = 7 ∨ a0 = 8 ∨ a0 = 9 ∨ a0 = 10 ∨ a0 = 11 ∨ a0 = 12 ∨ a0 = 13 ∨ a0 = 14 ∨ a0 = 15 := by omega
      rcases this with h | h | h | h | h | h | h | h | h | h | h | h | h | h | h <;> subst h <;> decide +kernel

end Go.Proofs.Ytnmcffcjilldfaa.Pure
