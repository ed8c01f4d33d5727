/- Contracts of functions of this seat's program. -/
import Derived.Test.YtcnmngbaappdpaaETy
import Derived.Test.YtcnmngbaappdpaaETl
namespace Go.Proofs.Ytcnmngbaappdpaa.E
set_option linter.unusedVariables false
theorem s_Tell (x : Y_Gor) (i : Y_Item) (h : ok_Gor x) (h2 : x.2.2.2.2.length + 1 ≤ bound) : Spec Try.prog 20 [.ro (t_Gor x), .ro (t_Item i)] [t_Gor (tell x i)] := by
  refine fn Try.func20 ?_
  repeat (first | refine ⟨rfl, ?_⟩ | refine brT ?_ | refine brF ?_ | intro _)
  refine ⟨_, s_l08Copy x h, ?_⟩
  repeat (first | refine ⟨rfl, ?_⟩ | refine brT ?_ | refine brF ?_ | intro _)
  refine ⟨fun t ht => (by simp at ht; subst ht; rfl), fun q0 => ?_⟩
  repeat (first | refine ⟨rfl, ?_⟩ | refine brT ?_ | refine brF ?_ | intro _)
  refine ⟨by simp; exact h2, fun q1 => ?_⟩
  repeat (first | refine ⟨rfl, ?_⟩ | refine brT ?_ | refine brF ?_ | intro _)
  have : (x.2.2.2.2 ++ [i]).map t_Item = x.2.2.2.2.map t_Item ++ [t_Item i] := by simp
  unfold tell t_Gor
  simp only [this]
  rfl
theorem i_Tell (x : Y_Gor) (i : Y_Item) (h : ok_Gor x) (h2 : x.2.2.2.2.length + 1 ≤ bound) : Spec Try.prog 22 [.ro (t_Gor x), .ro (t_Item i)] [t_Gor (tell x i)] := by
  refine fn Try.func22 ?_
  repeat (first | refine ⟨rfl, ?_⟩ | refine brT ?_ | refine brF ?_ | intro _)
  refine ⟨_, i_copyGor x h, ?_⟩
  repeat (first | refine ⟨rfl, ?_⟩ | refine brT ?_ | refine brF ?_ | intro _)
  refine ⟨fun t ht => (by simp at ht; subst ht; rfl), fun q0 => ?_⟩
  repeat (first | refine ⟨rfl, ?_⟩ | refine brT ?_ | refine brF ?_ | intro _)
  refine ⟨by simp; exact h2, fun q1 => ?_⟩
  repeat (first | refine ⟨rfl, ?_⟩ | refine brT ?_ | refine brF ?_ | intro _)
  have : (x.2.2.2.2 ++ [i]).map t_Item = x.2.2.2.2.map t_Item ++ [t_Item i] := by simp
  unfold tell t_Gor
  simp only [this]
  rfl


end Go.Proofs.Ytcnmngbaappdpaa.E
