/- Contracts of functions of this seat's program. -/
import Derived.Test.YtjfojepkoknpjaaDoorETy
import Derived.Test.YtjfojepkoknpjaaDoorEIy
namespace Go.Proofs.YtjfojepkoknpjaaDoor.E
set_option linter.unusedVariables false
set_option linter.unusedSimpArgs false
set_option maxHeartbeats 1600000
theorem l_FnExactItemText (x : Y_Item) : Spec Tryd.prog 3 [.ro (t_Item x)] [T.bool true] := by
  have h1 := s_toItem x trivial
  have h2 := s_ItemText x
  have h3 := i_ItemText x
  refine fn Tryd.func3 ?_
  have e : (!((itemText x).toList == (itemText x).toList)) = false := by simp
  repeat' (first | (first | refine brT ?_ | refine brF ?_ | refine And.intro rfl ?_ | refine And.intro trivial ?_ | intro _) | refine ⟨_, h1, ?_⟩ | refine ⟨_, h2, ?_⟩ | refine ⟨_, h3, ?_⟩ | refine brL (by show ¬ ((!((itemText x).toList == (itemText x).toList)) = true); rw [e]; decide) (fun _ => ?_) | fail)
  all_goals exact rfl


end Go.Proofs.YtjfojepkoknpjaaDoor.E
