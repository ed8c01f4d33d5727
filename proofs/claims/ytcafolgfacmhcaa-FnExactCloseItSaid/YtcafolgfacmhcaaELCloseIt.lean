/- Contracts of functions of this seat's program. -/
import Derived.Test.YtcafolgfacmhcaaETy
import Derived.Test.YtcafolgfacmhcaaECl
namespace Go.Proofs.Ytcafolgfacmhcaa.E
set_option linter.unusedVariables false
set_option maxHeartbeats 1600000

theorem l_FnExactCloseIt (x : Y_Chan) (hr : raw_Chan x) : Spec Try.prog 9 [.ro (t_Chan x)] [T.bool true] := by
  refine fn Try.func9 ?_
  repeat (first | (first | refine brT ?_ | refine brF ?_ | refine And.intro rfl ?_ | intro _) | (refine brL ?a (fun _ => ?_); case a => (simp <;> omega)) | (refine brR ?a (fun _ => ?_); case a => (simp <;> omega)))
  refine ⟨_, s_szChan x 1048576 hr (by decide) (by decide), ?_⟩
  repeat (first | (first | refine brT ?_ | refine brF ?_ | refine And.intro rfl ?_ | intro _) | (refine brL ?a (fun _ => ?_); case a => (simp <;> omega)) | (refine brR ?a (fun _ => ?_); case a => (simp <;> omega)))
  refine brI (fun h => ?_) (fun h => ?_)
  · exact tb rfl
  have h := of_decide_eq_false h
  obtain ⟨ho, _, _⟩ := in_Chan hr (by decide) (by decide) h
  obtain ⟨hu, hu1, hu2⟩ := ok_closeIt ho
  have n1 := nvle_Chan x ho
  have n2 := nvle_Chan _ hu
  have m1 := nv0_Chan x
  have m2 := nv0_Chan (closeIt x).1
  have n3 := le_WaiterS _ hu1
  have n4 := le_WaiterS _ hu2
  have m3 := nL_nonneg n0_Waiter (closeIt x).2.1
  have m4 := nL_nonneg n0_Waiter (closeIt x).2.2.1
  repeat (first | (first | refine brT ?_ | refine brF ?_ | refine And.intro rfl ?_ | intro _) | (refine brL ?a (fun _ => ?_); case a => (simp <;> omega)) | (refine brR ?a (fun _ => ?_); case a => (simp <;> omega)))
  refine ⟨_, s_toChan x ho, ?_⟩
  repeat (first | (first | refine brT ?_ | refine brF ?_ | refine And.intro rfl ?_ | intro _) | (refine brL ?a (fun _ => ?_); case a => (simp <;> omega)) | (refine brR ?a (fun _ => ?_); case a => (simp <;> omega)))
  refine ⟨_, s_CloseIt x ho, ?_⟩
  repeat (first | (first | refine brT ?_ | refine brF ?_ | refine And.intro rfl ?_ | intro _) | (refine brL ?a (fun _ => ?_); case a => (simp <;> omega)) | (refine brR ?a (fun _ => ?_); case a => (simp <;> omega)))
  refine ⟨_, s_toChan x ho, ?_⟩
  repeat (first | (first | refine brT ?_ | refine brF ?_ | refine And.intro rfl ?_ | intro _) | (refine brL ?a (fun _ => ?_); case a => (simp <;> omega)) | (refine brR ?a (fun _ => ?_); case a => (simp <;> omega)))
  refine ⟨_, i_CloseIt x ho, ?_⟩
  repeat (first | (first | refine brT ?_ | refine brF ?_ | refine And.intro rfl ?_ | intro _) | (refine brL ?a (fun _ => ?_); case a => (simp <;> omega)) | (refine brR ?a (fun _ => ?_); case a => (simp <;> omega)))
  refine ⟨_, s_eqChan ((closeIt x).1) ((closeIt x).1) hu, ?_⟩
  repeat (first | (first | refine brT ?_ | refine brF ?_ | refine And.intro rfl ?_ | intro _) | (refine brL ?a (fun _ => ?_); case a => (simp <;> omega)) | (refine brR ?a (fun _ => ?_); case a => (simp <;> omega)))
  refine ⟨_, s_eqWaiterS ((closeIt x).2.1) ((closeIt x).2.1) hu1, ?_⟩
  repeat (first | (first | refine brT ?_ | refine brF ?_ | refine And.intro rfl ?_ | intro _) | (refine brL ?a (fun _ => ?_); case a => (simp <;> omega)) | (refine brR ?a (fun _ => ?_); case a => (simp <;> omega)))
  refine ⟨_, s_eqWaiterS ((closeIt x).2.2.1) ((closeIt x).2.2.1) hu2, ?_⟩
  repeat (first | (first | refine brT ?_ | refine brF ?_ | refine And.intro rfl ?_ | intro _) | (refine brL ?a (fun _ => ?_); case a => (simp <;> omega)) | (refine brR ?a (fun _ => ?_); case a => (simp <;> omega)))
  repeat (first | (first | refine brT ?_ | refine brF ?_ | refine And.intro rfl ?_ | intro _) | (refine brL ?a (fun _ => ?_); case a => (simp <;> omega)) | (refine brR ?a (fun _ => ?_); case a => (simp <;> omega)))
  refine dr (Pl.go 0 (Pl.go 1 (Pl.go 2 (Pl.go 3 (Pl.go 4 Pl.stop))))) (by kernel_rfl) ?_
  repeat (first | (first | refine brT ?_ | refine brF ?_ | refine And.intro rfl ?_ | intro _) | (refine brL ?a (fun _ => ?_); case a => (simp <;> omega)) | (refine brR ?a (fun _ => ?_); case a => (simp <;> omega)))
  refine ⟨_, s_toChan x ho, ?_⟩
  repeat (first | (first | refine brT ?_ | refine brF ?_ | refine And.intro rfl ?_ | intro _) | (refine brL ?a (fun _ => ?_); case a => (simp <;> omega)) | (refine brR ?a (fun _ => ?_); case a => (simp <;> omega)))
  refine ⟨_, s_eqChan x x ho, ?_⟩
  repeat (first | (first | refine brT ?_ | refine brF ?_ | refine And.intro rfl ?_ | intro _) | (refine brL ?a (fun _ => ?_); case a => (simp <;> omega)) | (refine brR ?a (fun _ => ?_); case a => (simp <;> omega)))
  repeat (first | (first | refine brT ?_ | refine brF ?_ | refine And.intro rfl ?_ | intro _) | (refine brL ?a (fun _ => ?_); case a => (simp <;> omega)) | (refine brR ?a (fun _ => ?_); case a => (simp <;> omega)))
  refine ⟨_, rfl, rfl, rfl, _, s_markChan x (1) ho (by omega) (by omega), ?_⟩
  repeat (first | (first | refine brT ?_ | refine brF ?_ | refine And.intro rfl ?_ | intro _) | (refine brL ?a (fun _ => ?_); case a => (simp <;> omega)) | (refine brR ?a (fun _ => ?_); case a => (simp <;> omega)))
  refine ⟨_, s_eqChan ((closeIt x).1) ((closeIt x).1) hu, ?_⟩
  repeat (first | (first | refine brT ?_ | refine brF ?_ | refine And.intro rfl ?_ | intro _) | (refine brL ?a (fun _ => ?_); case a => (simp <;> omega)) | (refine brR ?a (fun _ => ?_); case a => (simp <;> omega)))
  refine ⟨_, s_eqWaiterS ((closeIt x).2.1) ((closeIt x).2.1) hu1, ?_⟩
  repeat (first | (first | refine brT ?_ | refine brF ?_ | refine And.intro rfl ?_ | intro _) | (refine brL ?a (fun _ => ?_); case a => (simp <;> omega)) | (refine brR ?a (fun _ => ?_); case a => (simp <;> omega)))
  refine ⟨_, s_eqWaiterS ((closeIt x).2.2.1) ((closeIt x).2.2.1) hu2, ?_⟩
  repeat (first | (first | refine brT ?_ | refine brF ?_ | refine And.intro rfl ?_ | intro _) | (refine brL ?a (fun _ => ?_); case a => (simp <;> omega)) | (refine brR ?a (fun _ => ?_); case a => (simp <;> omega)))
  repeat (first | (first | refine brT ?_ | refine brF ?_ | refine And.intro rfl ?_ | intro _) | (refine brL ?a (fun _ => ?_); case a => (simp <;> omega)) | (refine brR ?a (fun _ => ?_); case a => (simp <;> omega)))
  refine ⟨_, rfl, rfl, rfl, _, s_markChan ((closeIt x).1) (1) hu (by omega) (by omega), ?_⟩
  repeat (first | (first | refine brT ?_ | refine brF ?_ | refine And.intro rfl ?_ | intro _) | (refine brL ?a (fun _ => ?_); case a => (simp <;> omega)) | (refine brR ?a (fun _ => ?_); case a => (simp <;> omega)))
  refine ⟨_, rfl, _, s_markWaiterS ((closeIt x).2.1) (1 + nv_Chan ((closeIt x).1)) hu1 (by omega) (by omega), ?_⟩
  repeat (first | (first | refine brT ?_ | refine brF ?_ | refine And.intro rfl ?_ | intro _) | (refine brL ?a (fun _ => ?_); case a => (simp <;> omega)) | (refine brR ?a (fun _ => ?_); case a => (simp <;> omega)))
  refine ⟨_, rfl, _, s_markWaiterS ((closeIt x).2.2.1) (1 + nv_Chan ((closeIt x).1) + nL n_Waiter ((closeIt x).2.1)) hu2 (by omega) (by omega), ?_⟩
  repeat (first | (first | refine brT ?_ | refine brF ?_ | refine And.intro rfl ?_ | intro _) | (refine brL ?a (fun _ => ?_); case a => (simp <;> omega)) | (refine brR ?a (fun _ => ?_); case a => (simp <;> omega)))
  refine ⟨_, s_heldChan ((closeIt x).1) (1) hu (by omega) (by omega), ?_⟩
  repeat (first | (first | refine brT ?_ | refine brF ?_ | refine And.intro rfl ?_ | intro _) | (refine brL ?a (fun _ => ?_); case a => (simp <;> omega)) | (refine brR ?a (fun _ => ?_); case a => (simp <;> omega)))
  repeat (first | (first | refine brT ?_ | refine brF ?_ | refine And.intro rfl ?_ | intro _) | (refine brL ?a (fun _ => ?_); case a => (simp <;> omega)) | (refine brR ?a (fun _ => ?_); case a => (simp <;> omega)))
  refine ⟨_, s_heldWaiterS ((closeIt x).2.1) (1 + nv_Chan ((closeIt x).1)) hu1 (by omega) (by omega), ?_⟩
  repeat (first | (first | refine brT ?_ | refine brF ?_ | refine And.intro rfl ?_ | intro _) | (refine brL ?a (fun _ => ?_); case a => (simp <;> omega)) | (refine brR ?a (fun _ => ?_); case a => (simp <;> omega)))
  repeat (first | (first | refine brT ?_ | refine brF ?_ | refine And.intro rfl ?_ | intro _) | (refine brL ?a (fun _ => ?_); case a => (simp <;> omega)) | (refine brR ?a (fun _ => ?_); case a => (simp <;> omega)))
  refine ⟨_, s_heldWaiterS ((closeIt x).2.2.1) (1 + nv_Chan ((closeIt x).1) + nL n_Waiter ((closeIt x).2.1)) hu2 (by omega) (by omega), ?_⟩
  repeat (first | (first | refine brT ?_ | refine brF ?_ | refine And.intro rfl ?_ | intro _) | (refine brL ?a (fun _ => ?_); case a => (simp <;> omega)) | (refine brR ?a (fun _ => ?_); case a => (simp <;> omega)))
  repeat (first | (first | refine brT ?_ | refine brF ?_ | refine And.intro rfl ?_ | intro _) | (refine brL ?a (fun _ => ?_); case a => (simp <;> omega)) | (refine brR ?a (fun _ => ?_); case a => (simp <;> omega)))
  repeat (first | (first | refine brT ?_ | refine brF ?_ | refine And.intro rfl ?_ | intro _) | (refine brL ?a (fun _ => ?_); case a => (simp <;> omega)) | (refine brR ?a (fun _ => ?_); case a => (simp <;> omega)))
  refine ⟨_, s_toChan x ho, ?_⟩
  repeat (first | (first | refine brT ?_ | refine brF ?_ | refine And.intro rfl ?_ | intro _) | (refine brL ?a (fun _ => ?_); case a => (simp <;> omega)) | (refine brR ?a (fun _ => ?_); case a => (simp <;> omega)))
  refine ⟨_, i_CloseIt x ho, ?_⟩
  repeat (first | (first | refine brT ?_ | refine brF ?_ | refine And.intro rfl ?_ | intro _) | (refine brL ?a (fun _ => ?_); case a => (simp <;> omega)) | (refine brR ?a (fun _ => ?_); case a => (simp <;> omega)))
  refine ⟨_, s_eqChan ((closeIt x).1) ((closeIt x).1) hu, ?_⟩
  repeat (first | (first | refine brT ?_ | refine brF ?_ | refine And.intro rfl ?_ | intro _) | (refine brL ?a (fun _ => ?_); case a => (simp <;> omega)) | (refine brR ?a (fun _ => ?_); case a => (simp <;> omega)))
  refine ⟨_, s_eqWaiterS ((closeIt x).2.1) ((closeIt x).2.1) hu1, ?_⟩
  repeat (first | (first | refine brT ?_ | refine brF ?_ | refine And.intro rfl ?_ | intro _) | (refine brL ?a (fun _ => ?_); case a => (simp <;> omega)) | (refine brR ?a (fun _ => ?_); case a => (simp <;> omega)))
  refine ⟨_, s_eqWaiterS ((closeIt x).2.2.1) ((closeIt x).2.2.1) hu2, ?_⟩
  repeat (first | (first | refine brT ?_ | refine brF ?_ | refine And.intro rfl ?_ | intro _) | (refine brL ?a (fun _ => ?_); case a => (simp <;> omega)) | (refine brR ?a (fun _ => ?_); case a => (simp <;> omega)))
  repeat (first | (first | refine brT ?_ | refine brF ?_ | refine And.intro rfl ?_ | intro _) | (refine brL ?a (fun _ => ?_); case a => (simp <;> omega)) | (refine brR ?a (fun _ => ?_); case a => (simp <;> omega)))
  refine ⟨_, s_heldChan ((closeIt x).1) (1) hu (by omega) (by omega), ?_⟩
  repeat (first | (first | refine brT ?_ | refine brF ?_ | refine And.intro rfl ?_ | intro _) | (refine brL ?a (fun _ => ?_); case a => (simp <;> omega)) | (refine brR ?a (fun _ => ?_); case a => (simp <;> omega)))
  repeat (first | (first | refine brT ?_ | refine brF ?_ | refine And.intro rfl ?_ | intro _) | (refine brL ?a (fun _ => ?_); case a => (simp <;> omega)) | (refine brR ?a (fun _ => ?_); case a => (simp <;> omega)))
  refine ⟨_, s_heldWaiterS ((closeIt x).2.1) (1 + nv_Chan ((closeIt x).1)) hu1 (by omega) (by omega), ?_⟩
  repeat (first | (first | refine brT ?_ | refine brF ?_ | refine And.intro rfl ?_ | intro _) | (refine brL ?a (fun _ => ?_); case a => (simp <;> omega)) | (refine brR ?a (fun _ => ?_); case a => (simp <;> omega)))
  repeat (first | (first | refine brT ?_ | refine brF ?_ | refine And.intro rfl ?_ | intro _) | (refine brL ?a (fun _ => ?_); case a => (simp <;> omega)) | (refine brR ?a (fun _ => ?_); case a => (simp <;> omega)))
  refine ⟨_, s_heldWaiterS ((closeIt x).2.2.1) (1 + nv_Chan ((closeIt x).1) + nL n_Waiter ((closeIt x).2.1)) hu2 (by omega) (by omega), ?_⟩
  repeat (first | (first | refine brT ?_ | refine brF ?_ | refine And.intro rfl ?_ | intro _) | (refine brL ?a (fun _ => ?_); case a => (simp <;> omega)) | (refine brR ?a (fun _ => ?_); case a => (simp <;> omega)))
  repeat (first | (first | refine brT ?_ | refine brF ?_ | refine And.intro rfl ?_ | intro _) | (refine brL ?a (fun _ => ?_); case a => (simp <;> omega)) | (refine brR ?a (fun _ => ?_); case a => (simp <;> omega)))
  exact tb rfl


end Go.Proofs.Ytcafolgfacmhcaa.E
