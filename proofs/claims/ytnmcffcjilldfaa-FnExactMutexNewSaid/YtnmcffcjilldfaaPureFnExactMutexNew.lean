/- The program's MutexNew answers as the reference's; it has no argument and no condition. -/
import Derived.Test.YtnmcffcjilldfaaPFnExactMutexNewx1
import Derived.Test.YtnmcffcjilldfaaCom
namespace Go.Proofs.Ytnmcffcjilldfaa.Pure
open Go.RowKit Go.Proofs.Ytnmcffcjilldfaa.PFnExactMutexNew Go.Proofs.YtnmcffcjilldfaaW.PrintWords Go.Proofs.YtnmcffcjilldfaaW.PrintLast Go.Proofs.Ytnmcffcjilldfaa.Com

theorem FnExactMutexNew : laws_FnExactMutexNew.Pure := ⟨3, rfl⟩

end Go.Proofs.Ytnmcffcjilldfaa.Pure
