/- The program's Fields answers as the reference's, for every int; no condition. -/
import Derived.Test.YtnmcffcjilldfaaPFnExactFieldsx1
import Derived.Test.YtnmcffcjilldfaaCom
namespace Go.Proofs.Ytnmcffcjilldfaa.Pure
open Go.RowKit Go.Proofs.Ytnmcffcjilldfaa.PFnExactFields Go.Proofs.YtnmcffcjilldfaaW.PrintWords Go.Proofs.YtnmcffcjilldfaaW.PrintLast Go.Proofs.Ytnmcffcjilldfaa.Com

theorem same_j1 : ∀ (k : Nat) (a : Int) (b : Bool), impl_Fields.j1 k a b = spec_Fields.j1 k a b
  | 0, _, _ => by simp [impl_Fields.j1, spec_Fields.j1]
  | k + 1, a, b => by simp only [impl_Fields.j1, spec_Fields.j1]
theorem same_j0 : ∀ (k : Nat) (a : Int) (b : Bool), impl_Fields.j0 k a b = spec_Fields.j0 k a b
  | 0, _, _ => by simp [impl_Fields.j0, spec_Fields.j0]
  | k + 1, a, b => by simp only [impl_Fields.j0, spec_Fields.j0, same_j1]
theorem some_j1 (k : Nat) (a : Int) (b : Bool) : ∃ r, spec_Fields.j1 (k + 1) a b = some r := by
  simp only [spec_Fields.j1]
  repeat (first | exact ⟨_, rfl⟩ | split)
theorem some_j0 (k : Nat) (a : Int) (b : Bool) : ∃ r, spec_Fields.j0 (k + 2) a b = some r := by
  simp only [spec_Fields.j0]
  repeat (first | exact ⟨_, rfl⟩ | exact some_j1 _ _ _ | split)
theorem FnExactFields : laws_FnExactFields.Pure := by
  intro a0 _
  refine ⟨2, ?_⟩
  unfold laws_FnExactFields.f
  have e : impl_Fields.f 2 a0 = spec_Fields.f 2 a0 := by
    unfold impl_Fields.f spec_Fields.f
    simp only [same_j0]
  rw [e]
  have h : ∃ r, spec_Fields.f 2 a0 = some r := by
    unfold spec_Fields.f
    repeat (first | exact ⟨_, rfl⟩ | exact some_j0 0 _ _ | split)
  obtain ⟨r, h⟩ := h
  rw [h]
  simp

end Go.Proofs.Ytnmcffcjilldfaa.Pure
