/- Contracts of functions of this seat's program. -/
import Derived.Test.YtadpancnhinlbaaETy
import Derived.Test.YtadpancnhinlbaaEB
namespace Go.Proofs.Ytadpancnhinlbaa.E
set_option linter.unusedVariables false
set_option linter.unusedSimpArgs false
set_option maxHeartbeats 1600000
theorem vI {l : List Int} : ∀ t ∈ l.map T.int, ∀ c ∈ t.cells, ∃ x, c = T.v x := by
  intro t ht c hc
  obtain ⟨n, _, rfl⟩ := List.mem_map.1 ht
  have : c = T.int n := by simpa [T.int, T.cells] using hc
  exact ⟨_, this⟩
theorem vW {l : List Y_Waiter} : ∀ t ∈ l.map t_Waiter, ∀ c ∈ t.cells, ∃ x, c = T.v x := by
  intro t ht c hc
  obtain ⟨n, _, rfl⟩ := List.mem_map.1 ht
  have : c ∈ [T.int n.1, T.int n.2.1, T.int n.2.2] := hc
  simp at this
  rcases this with rfl | rfl | rfl <;> exact ⟨_, rfl⟩
theorem s_l06Copy (x : Y_Chan) (h : ok_Chan x) : Spec Try.prog 41 [.ro (t_Chan x)] [t_Chan x] := by
  refine fn Try.func41 ?_
  repeat (first | refine brT ?_ | refine brF ?_ | refine And.intro rfl ?_ | refine And.intro trivial ?_ | intro _)
  refine ⟨fun t h => (by cases h), fun q0 => ?_⟩
  repeat (first | refine brT ?_ | refine brF ?_ | refine And.intro rfl ?_ | refine And.intro trivial ?_ | intro _)
  refine ⟨vI, by simp; exact h.1, fun q => ?_⟩
  repeat (first | refine brT ?_ | refine brF ?_ | refine And.intro rfl ?_ | refine And.intro trivial ?_ | intro _)
  refine ⟨fun t h => (by cases h), fun q0 => ?_⟩
  repeat (first | refine brT ?_ | refine brF ?_ | refine And.intro rfl ?_ | refine And.intro trivial ?_ | intro _)
  refine ⟨vW, by simp; exact h.2.1.1, fun q => ?_⟩
  repeat (first | refine brT ?_ | refine brF ?_ | refine And.intro rfl ?_ | refine And.intro trivial ?_ | intro _)
  refine ⟨fun t h => (by cases h), fun q0 => ?_⟩
  repeat (first | refine brT ?_ | refine brF ?_ | refine And.intro rfl ?_ | refine And.intro trivial ?_ | intro _)
  refine ⟨vW, by simp; exact h.2.2.1, fun q => ?_⟩
  repeat (first | refine brT ?_ | refine brF ?_ | refine And.intro rfl ?_ | refine And.intro trivial ?_ | intro _)
  rfl
theorem s_CloneI (l : List Int) (hl : l.length ≤ bound) : Spec Try.prog 57 [.ro (.sl 1 (l.map T.int))] [.sl 1 (l.map T.int)] := by
  refine fn Try.func57 ?_
  intro b hb
  refine brI (fun h => ?_) (fun h => ?_)
  · have : l = [] := by
      cases l with
      | nil => rfl
      | cons a r => have := hb (by simp); rw [h] at this; cases this
    subst this
    exact ⟨1, rfl⟩
  · refine ⟨fun t h => (by cases h), fun q0 => ?_⟩
    repeat (first | refine brT ?_ | refine brF ?_ | refine And.intro rfl ?_ | refine And.intro trivial ?_ | intro _)
    refine ⟨vI, by simp; exact hl, fun q => ?_⟩
    repeat (first | refine brT ?_ | refine brF ?_ | refine And.intro rfl ?_ | refine And.intro trivial ?_ | intro _)
    rfl
theorem s_CloneW (l : List Y_Waiter) (hl : l.length ≤ bound) : Spec Try.prog 48 [.ro (.sl 3 (l.map t_Waiter))] [.sl 3 (l.map t_Waiter)] := by
  refine fn Try.func48 ?_
  intro b hb
  refine brI (fun h => ?_) (fun h => ?_)
  · have : l = [] := by
      cases l with
      | nil => rfl
      | cons a r => have := hb (by simp); rw [h] at this; cases this
    subst this
    exact ⟨3, rfl⟩
  · refine ⟨fun t h => (by cases h), fun q0 => ?_⟩
    repeat (first | refine brT ?_ | refine brF ?_ | refine And.intro rfl ?_ | refine And.intro trivial ?_ | intro _)
    refine ⟨vW, by simp; exact hl, fun q => ?_⟩
    repeat (first | refine brT ?_ | refine brF ?_ | refine And.intro rfl ?_ | refine And.intro trivial ?_ | intro _)
    rfl
theorem i_copyChan (x : Y_Chan) (h : ok_Chan x) : Spec Try.prog 37 [.ro (t_Chan x)] [t_Chan x] := by
  refine fn Try.func37 ?_
  repeat (first | refine brT ?_ | refine brF ?_ | refine And.intro rfl ?_ | refine And.intro trivial ?_ | intro _)
  refine ⟨_, s_CloneI _ h.1, ?_⟩
  repeat (first | refine brT ?_ | refine brF ?_ | refine And.intro rfl ?_ | refine And.intro trivial ?_ | intro _)
  refine ⟨_, s_CloneW _ h.2.1.1, ?_⟩
  repeat (first | refine brT ?_ | refine brF ?_ | refine And.intro rfl ?_ | refine And.intro trivial ?_ | intro _)
  refine ⟨_, s_CloneW _ h.2.2.1, ?_⟩
  repeat (first | refine brT ?_ | refine brF ?_ | refine And.intro rfl ?_ | refine And.intro trivial ?_ | intro _)
  rfl


end Go.Proofs.Ytadpancnhinlbaa.E
