/- The program's Shared answers as the reference's, for every int; no condition. -/
import Derived.Test.YtnmcffcjilldfaaPFnExactSharedx1
import Derived.Test.YtnmcffcjilldfaaCom
namespace Go.Proofs.Ytnmcffcjilldfaa.Pure
open Go.RowKit Go.Proofs.Ytnmcffcjilldfaa.PFnExactShared Go.Proofs.YtnmcffcjilldfaaW.PrintWords Go.Proofs.YtnmcffcjilldfaaW.PrintLast Go.Proofs.Ytnmcffcjilldfaa.Com

theorem FnExactShared : laws_FnExactShared.Pure := by
  intro a0 _
  unfold laws_FnExactShared.f spec_Shared.f impl_Shared.f
  by_cases h : a0 ≥ 8 <;> simp [h]

end Go.Proofs.Ytnmcffcjilldfaa.Pure
