/- Contracts of functions of this seat's program. -/
import Derived.Test.YtcnmngbaappdpaaETy
import Derived.Test.YtcnmngbaappdpaaEGm
namespace Go.Proofs.Ytcnmngbaappdpaa.E
set_option linter.unusedVariables false
theorem vI {l : List Int} : ∀ t ∈ l.map T.int, ∀ c ∈ t.cells, ∃ x, c = T.v x := by
  intro t ht c hc
  obtain ⟨n, _, rfl⟩ := List.mem_map.1 ht
  have : c = T.int n := by simpa [T.int, T.cells] using hc
  exact ⟨_, this⟩
theorem vItem {l : List Y_Item} : ∀ t ∈ l.map t_Item, ∀ c ∈ t.cells, ∃ x, c = T.v x := by
  intro t ht c hc
  obtain ⟨n, _, rfl⟩ := List.mem_map.1 ht
  have : c ∈ [T.int n.1, T.int n.2.1, T.int n.2.2.1, T.bool n.2.2.2] := hc
  simp at this
  rcases this with rfl | rfl | rfl | rfl <;> exact ⟨_, rfl⟩
theorem s_l08Copy (x : Y_Gor) (h : ok_Gor x) : Spec Try.prog 57 [.ro (t_Gor x)] [t_Gor x] := by
  refine fn Try.func57 ?_
  repeat (first | refine ⟨rfl, ?_⟩ | refine brT ?_ | refine brF ?_ | intro _)
  refine ⟨fun t h => (by cases h), fun q0 => ?_⟩
  repeat (first | refine ⟨rfl, ?_⟩ | refine brT ?_ | refine brF ?_ | intro _)
  refine ⟨vI, by simp; exact h.1, fun q => ?_⟩
  repeat (first | refine ⟨rfl, ?_⟩ | refine brT ?_ | refine brF ?_ | intro _)
  refine ⟨fun t h => (by cases h), fun q0 => ?_⟩
  repeat (first | refine ⟨rfl, ?_⟩ | refine brT ?_ | refine brF ?_ | intro _)
  refine ⟨vItem, by simp; exact h.2.1, fun q => ?_⟩
  repeat (first | refine ⟨rfl, ?_⟩ | refine brT ?_ | refine brF ?_ | intro _)
  rfl
def tell (x : Y_Gor) (i : Y_Item) : Y_Gor := (x.1, x.2.1, x.2.2.1, x.2.2.2.1, x.2.2.2.2 ++ [i])
theorem s_CloneI (l : List Int) (hl : l.length ≤ bound) : Spec Try.prog 84 [.ro (.sl 1 (l.map T.int))] [.sl 1 (l.map T.int)] := by
  refine fn Try.func84 ?_
  intro b hb
  refine brI (fun h => ?_) (fun h => ?_)
  · have : l = [] := by
      cases l with
      | nil => rfl
      | cons a r => have := hb (by simp); rw [h] at this; cases this
    subst this
    exact ⟨1, rfl⟩
  · refine ⟨fun t h => (by cases h), fun q0 => ?_⟩
    repeat (first | refine ⟨rfl, ?_⟩ | refine brT ?_ | refine brF ?_ | intro _)
    refine ⟨vI, by simp; exact hl, fun q => ?_⟩
    repeat (first | refine ⟨rfl, ?_⟩ | refine brT ?_ | refine brF ?_ | intro _)
    rfl
theorem s_CloneItem (l : List Y_Item) (hl : l.length ≤ bound) : Spec Try.prog 85 [.ro (.sl 4 (l.map t_Item))] [.sl 4 (l.map t_Item)] := by
  refine fn Try.func85 ?_
  intro b hb
  refine brI (fun h => ?_) (fun h => ?_)
  · have : l = [] := by
      cases l with
      | nil => rfl
      | cons a r => have := hb (by simp); rw [h] at this; cases this
    subst this
    exact ⟨4, rfl⟩
  · refine ⟨fun t h => (by cases h), fun q0 => ?_⟩
    repeat (first | refine ⟨rfl, ?_⟩ | refine brT ?_ | refine brF ?_ | intro _)
    refine ⟨vItem, by simp; exact hl, fun q => ?_⟩
    repeat (first | refine ⟨rfl, ?_⟩ | refine brT ?_ | refine brF ?_ | intro _)
    rfl
theorem i_copyGor (x : Y_Gor) (h : ok_Gor x) : Spec Try.prog 58 [.ro (t_Gor x)] [t_Gor x] := by
  refine fn Try.func58 ?_
  repeat (first | refine ⟨rfl, ?_⟩ | refine brT ?_ | refine brF ?_ | intro _)
  refine ⟨_, s_CloneI x.2.2.1 h.1, ?_⟩
  repeat (first | refine ⟨rfl, ?_⟩ | refine brT ?_ | refine brF ?_ | intro _)
  refine ⟨_, s_CloneItem x.2.2.2.2 h.2.1, ?_⟩
  repeat (first | refine ⟨rfl, ?_⟩ | refine brT ?_ | refine brF ?_ | intro _)
  rfl


end Go.Proofs.Ytcnmngbaappdpaa.E
