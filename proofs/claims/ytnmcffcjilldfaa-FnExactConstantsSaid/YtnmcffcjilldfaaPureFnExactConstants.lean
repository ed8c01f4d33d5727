/- The law FnExactConstants answers true: it has no argument and no condition. -/
import Derived.Test.YtnmcffcjilldfaaPFnExactConstantsx1
import Derived.Test.YtnmcffcjilldfaaCom
namespace Go.Proofs.Ytnmcffcjilldfaa.Pure
open Go.RowKit Go.Proofs.Ytnmcffcjilldfaa.PFnExactConstants Go.Proofs.YtnmcffcjilldfaaW.PrintWords Go.Proofs.YtnmcffcjilldfaaW.PrintLast Go.Proofs.Ytnmcffcjilldfaa.Com

theorem FnExactConstants : laws_FnExactConstants.Pure := rfl

end Go.Proofs.Ytnmcffcjilldfaa.Pure
