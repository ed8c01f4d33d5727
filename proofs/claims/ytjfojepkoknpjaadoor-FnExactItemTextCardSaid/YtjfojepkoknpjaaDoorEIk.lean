/- Contracts of functions of this seat's program. -/
import Derived.Test.YtjfojepkoknpjaaDoorETy
import Derived.Test.YtjfojepkoknpjaaDoorEWd
namespace Go.Proofs.YtjfojepkoknpjaaDoor.E
set_option linter.unusedVariables false
set_option linter.unusedSimpArgs false
set_option maxHeartbeats 1600000
def itemOk (x : Y_Item) : Bool :=
  decide (1 ≤ x.1) && decide (x.1 ≤ 10) && decide (0 ≤ x.2.1) && (decide (x.1 < 8) || x.2.1 == 0) && (!x.2.2.2 || x.1 == 2) &&
  (if x.1 = 1 ∨ x.1 = 8 then isV x.2.2.1 else if x.1 = 2 then isV x.2.2.1 && (x.2.2.2 || x.2.2.1 == 0) else if x.1 = 4 then decide (-1 ≤ x.2.2.1) else if x.1 = 7 then decide (0 ≤ x.2.2.1) else if x.1 = 10 then decide (1 ≤ x.2.2.1) && decide (x.2.2.1 ≤ 5) else x.2.2.1 == 0)
theorem kind_cases (k : Int) : k = 1 ∨ k = 2 ∨ k = 3 ∨ k = 4 ∨ k = 5 ∨ k = 6 ∨ k = 7 ∨ k = 8 ∨ k = 9 ∨ k = 10 ∨ (k ≠ 1 ∧ k ≠ 2 ∧ k ≠ 3 ∧ k ≠ 4 ∧ k ≠ 5 ∧ k ≠ 6 ∧ k ≠ 7 ∧ k ≠ 8 ∧ k ≠ 9 ∧ k ≠ 10) := by omega
theorem item_bad {k o v : Int} {b : Bool} (h : k ≠ 1 ∧ k ≠ 2 ∧ k ≠ 3 ∧ k ≠ 4 ∧ k ≠ 5 ∧ k ≠ 6 ∧ k ≠ 7 ∧ k ≠ 8 ∧ k ≠ 9 ∧ k ≠ 10) : itemOk (k, o, v, b) = false := by
  have : ¬ (1 ≤ k ∧ k ≤ 10) := by omega
  by_cases h1 : 1 ≤ k
  · have h2 : ¬ k ≤ 10 := fun h2 => this ⟨h1, h2⟩
    simp [itemOk, h2]
  · simp [itemOk, h1]
theorem s_ItemOk (x : Y_Item) : Spec Tryd.prog 7 [.ro (t_Item x)] [T.bool (itemOk x)] := by
  obtain ⟨k, o, v, b⟩ := x
  refine fn Tryd.func7 ?_
  rcases kind_cases k with rfl | rfl | rfl | rfl | rfl | rfl | rfl | rfl | rfl | rfl | h
  rotate_right
  · rw [item_bad h]
    obtain ⟨h1, h2, h3, h4, h5, h6, h7, h8, h9, h10⟩ := h
    repeat' (first | (first | refine brT ?_ | refine brF ?_ | refine And.intro rfl ?_ | refine And.intro trivial ?_ | intro _) | (refine brL ?a (fun _ => ?_); case a => simp [h1, h2, h3, h4, h5, h6, h7, h8, h9, h10]) | refine brI (fun _ => ?_) (fun _ => ?_))
    all_goals first
      | exact tb rfl
      | (exfalso; simp_all; done)
      | (exfalso; simp_all; omega)
  all_goals
    repeat' (first | (first | refine brT ?_ | refine brF ?_ | refine And.intro rfl ?_ | refine And.intro trivial ?_ | intro _) | refine ⟨_, s_l03Val _, ?_⟩ | refine brI (fun _ => ?_) (fun _ => ?_))
    all_goals (refine tb ?_; simp_all [itemOk] <;> omega)
theorem i_ItemOk (x : Y_Item) : Spec Tryd.prog 11 [.ro (t_Item x)] [T.bool (itemOk x)] := by
  obtain ⟨k, o, v, b⟩ := x
  refine fn Tryd.func11 ?_
  rcases kind_cases k with rfl | rfl | rfl | rfl | rfl | rfl | rfl | rfl | rfl | rfl | h
  rotate_right
  · rw [item_bad h]
    obtain ⟨h1, h2, h3, h4, h5, h6, h7, h8, h9, h10⟩ := h
    repeat' (first | (first | refine brT ?_ | refine brF ?_ | refine And.intro rfl ?_ | refine And.intro trivial ?_ | intro _) | (refine brL ?a (fun _ => ?_); case a => simp [h1, h2, h3, h4, h5, h6, h7, h8, h9, h10]) | refine brI (fun _ => ?_) (fun _ => ?_))
    all_goals first
      | exact tb rfl
      | (exfalso; simp_all; done)
      | (exfalso; simp_all; omega)
  all_goals
    repeat' (first | (first | refine brT ?_ | refine brF ?_ | refine And.intro rfl ?_ | refine And.intro trivial ?_ | intro _) | refine ⟨_, s_isVal _, ?_⟩ | refine brI (fun _ => ?_) (fun _ => ?_))
    all_goals (refine tb ?_; simp_all [itemOk] <;> omega)


end Go.Proofs.YtjfojepkoknpjaaDoor.E
