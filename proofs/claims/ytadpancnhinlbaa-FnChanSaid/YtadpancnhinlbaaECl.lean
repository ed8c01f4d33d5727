/- Contracts of functions of this seat's program. -/
import Derived.Test.YtadpancnhinlbaaETy
import Derived.Test.YtadpancnhinlbaaESt
namespace Go.Proofs.Ytadpancnhinlbaa.E
set_option linter.unusedVariables false
set_option linter.unusedSimpArgs false
set_option maxHeartbeats 1600000
def closeIt (x : Y_Chan) : Y_Chan × List Y_Waiter × List Y_Waiter × Int :=
  if chOk x.1 x.2.1 x.2.2.1 x.2.2.2.1 x.2.2.2.2 = false then (zC, [], [], 1)
  else if x.2.2.2.2 = true then (zC, [], [], 2)
  else ((x.1, x.2.1, [], [], true), x.2.2.2.1, x.2.2.1, 0)
theorem ok_closeIt {x : Y_Chan} (h : ok_Chan x) : ok_Chan (closeIt x).1 ∧ ((closeIt x).2.1.length ≤ bound ∧ ∀ y ∈ (closeIt x).2.1, ok_Waiter y) ∧ ((closeIt x).2.2.1.length ≤ bound ∧ ∀ y ∈ (closeIt x).2.2.1, ok_Waiter y) := by
  obtain ⟨c, b, s, r, d⟩ := x
  obtain ⟨hb, hs, hr⟩ := h
  have z : ([] : List Y_Waiter).length ≤ bound ∧ ∀ y ∈ ([] : List Y_Waiter), ok_Waiter y := ⟨Nat.zero_le _, fun _ h => (by cases h)⟩
  unfold closeIt
  repeat' split
  · exact ⟨⟨Nat.zero_le _, z, z⟩, z, z⟩
  · exact ⟨⟨Nat.zero_le _, z, z⟩, z, z⟩
  · exact ⟨⟨hb, z, z⟩, hr, hs⟩
theorem i_CloseIt (x : Y_Chan) (h : ok_Chan x) : Spec Try.prog 19 [.ro (t_Chan x)] [t_Chan (closeIt x).1, .sl 3 ((closeIt x).2.1.map t_Waiter), .sl 3 ((closeIt x).2.2.1.map t_Waiter), T.int (closeIt x).2.2.2] := by
  obtain ⟨c, b, s, r, d⟩ := x
  obtain ⟨hb, hs, hr⟩ := id h
  refine fn Try.func19 ?_
  repeat (first | refine brT ?_ | refine brF ?_ | refine And.intro rfl ?_ | refine And.intro trivial ?_ | intro _)
  refine ⟨_, i_ChanOk c b s r d hb hs.1 hr.1, ?_⟩
  repeat (first | refine brT ?_ | refine brF ?_ | refine And.intro rfl ?_ | refine And.intro trivial ?_ | intro _)
  refine brI (fun h1 => ?_) (fun h1 => ?_)
  · repeat (first | refine brT ?_ | refine brF ?_ | refine And.intro rfl ?_ | refine And.intro trivial ?_ | intro _)
    refine ⟨1, ?_⟩
    repeat (first | refine brT ?_ | refine brF ?_ | refine And.intro rfl ?_ | refine And.intro trivial ?_ | intro _)
    refine ⟨3, ?_⟩
    repeat (first | refine brT ?_ | refine brF ?_ | refine And.intro rfl ?_ | refine And.intro trivial ?_ | intro _)
    refine ⟨3, ?_⟩
    repeat (first | refine brT ?_ | refine brF ?_ | refine And.intro rfl ?_ | refine And.intro trivial ?_ | intro _)
    refine ⟨3, ?_⟩
    repeat (first | refine brT ?_ | refine brF ?_ | refine And.intro rfl ?_ | refine And.intro trivial ?_ | intro _)
    refine ⟨3, ?_⟩
    repeat (first | refine brT ?_ | refine brF ?_ | refine And.intro rfl ?_ | refine And.intro trivial ?_ | intro _)
    have e : closeIt (c, b, s, r, d) = (zC, [], [], 1) := if_pos (by simpa using h1)
    rw [e]
    rfl
  have k1 : chOk c b s r d = true := by simpa using h1
  repeat (first | refine brT ?_ | refine brF ?_ | refine And.intro rfl ?_ | refine And.intro trivial ?_ | intro _)
  refine brI (fun h1 => ?_) (fun h1 => ?_)
  · repeat (first | refine brT ?_ | refine brF ?_ | refine And.intro rfl ?_ | refine And.intro trivial ?_ | intro _)
    refine ⟨1, ?_⟩
    repeat (first | refine brT ?_ | refine brF ?_ | refine And.intro rfl ?_ | refine And.intro trivial ?_ | intro _)
    refine ⟨3, ?_⟩
    repeat (first | refine brT ?_ | refine brF ?_ | refine And.intro rfl ?_ | refine And.intro trivial ?_ | intro _)
    refine ⟨3, ?_⟩
    repeat (first | refine brT ?_ | refine brF ?_ | refine And.intro rfl ?_ | refine And.intro trivial ?_ | intro _)
    refine ⟨3, ?_⟩
    repeat (first | refine brT ?_ | refine brF ?_ | refine And.intro rfl ?_ | refine And.intro trivial ?_ | intro _)
    refine ⟨3, ?_⟩
    repeat (first | refine brT ?_ | refine brF ?_ | refine And.intro rfl ?_ | refine And.intro trivial ?_ | intro _)
    have h1 : d = true := h1
    have e : closeIt (c, b, s, r, d) = (zC, [], [], 2) := by subst h1; simp [closeIt, k1]
    rw [e]
    rfl
  have h1 : d = false := h1
  subst h1
  repeat (first | refine brT ?_ | refine brF ?_ | refine And.intro rfl ?_ | refine And.intro trivial ?_ | intro _)
  refine ⟨_, i_copyChan (c, b, s, r, false) h, ?_⟩
  repeat (first | refine brT ?_ | refine brF ?_ | refine And.intro rfl ?_ | refine And.intro trivial ?_ | intro _)
  refine dr (Pl.go 0 (Pl.go 1 (Pl.go 2 (Pl.go 3 (Pl.go 4 (Pl.go 5 Pl.stop)))))) (by kernel_rfl) ?_
  repeat (first | refine brT ?_ | refine brF ?_ | refine And.intro rfl ?_ | refine And.intro trivial ?_ | intro _)
  have e : closeIt (c, b, s, r, false) = ((c, b, [], [], true), r, s, 0) := by simp [closeIt, k1]
  rw [e]
  repeat (first | refine brT ?_ | refine brF ?_ | refine And.intro rfl ?_ | refine And.intro trivial ?_ | intro _)
  refine ⟨3, ?_⟩
  repeat (first | refine brT ?_ | refine brF ?_ | refine And.intro rfl ?_ | refine And.intro trivial ?_ | intro _)
  refine ⟨3, ?_⟩
  repeat (first | refine brT ?_ | refine brF ?_ | refine And.intro rfl ?_ | refine And.intro trivial ?_ | intro _)
  rfl


end Go.Proofs.Ytadpancnhinlbaa.E
