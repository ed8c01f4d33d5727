/- Contracts of functions of this seat's program. -/
import Derived.Test.YtcafolgfacmhcaaETy
import Derived.Test.YtcafolgfacmhcaaERf
namespace Go.Proofs.Ytcafolgfacmhcaa.E
set_option linter.unusedVariables false
set_option maxHeartbeats 1600000
theorem sm_Chan {x : Y_Chan} (hr : raw_Chan x) (h : ¬ f_Chan x 1048576 < 0) : x.2.1.length ≤ 1048576 := by
  unfold f_Chan at h
  split at h
  · omega
  rename_i c0
  have a := szI_in hr.2.1.1 (by decide) (by decide) c0
  omega


theorem l_FnExactRecvFrom (x : Y_Chan) (hr : raw_Chan x) : Spec Try.prog 8 [.ro (t_Chan x)] [T.bool true] := by
  refine fn Try.func8 ?_
  repeat (first | (first | refine brT ?_ | refine brF ?_ | refine And.intro rfl ?_ | intro _) | (refine brL ?a (fun _ => ?_); case a => (simp <;> omega)) | (refine brR ?a (fun _ => ?_); case a => (simp <;> omega)))
  refine ⟨_, s_szChan x 1048576 hr (by decide) (by decide), ?_⟩
  repeat (first | (first | refine brT ?_ | refine brF ?_ | refine And.intro rfl ?_ | intro _) | (refine brL ?a (fun _ => ?_); case a => (simp <;> omega)) | (refine brR ?a (fun _ => ?_); case a => (simp <;> omega)))
  refine brI (fun h => ?_) (fun h => ?_)
  · exact tb rfl
  have h := of_decide_eq_false h
  obtain ⟨ho, _, _⟩ := in_Chan hr (by decide) (by decide) h
  have hs := sm_Chan hr h
  have hb : x.2.1.length + 1 ≤ bound := by unfold bound; omega
  have hu : ok_Chan (recvFrom x).1 := ok_recvFrom ho hb
  have n1 := nvle_Chan x ho
  have n2 := nvle_Chan _ hu
  have m1 := nv0_Chan x
  have m2 := nv0_Chan (recvFrom x).1
  repeat (first | (first | refine brT ?_ | refine brF ?_ | refine And.intro rfl ?_ | intro _) | (refine brL ?a (fun _ => ?_); case a => (simp <;> omega)) | (refine brR ?a (fun _ => ?_); case a => (simp <;> omega)))
  refine ⟨_, s_toChan x ho, ?_⟩
  repeat (first | (first | refine brT ?_ | refine brF ?_ | refine And.intro rfl ?_ | intro _) | (refine brL ?a (fun _ => ?_); case a => (simp <;> omega)) | (refine brR ?a (fun _ => ?_); case a => (simp <;> omega)))
  refine ⟨_, s_RecvFrom x ho hb, ?_⟩
  repeat (first | (first | refine brT ?_ | refine brF ?_ | refine And.intro rfl ?_ | intro _) | (refine brL ?a (fun _ => ?_); case a => (simp <;> omega)) | (refine brR ?a (fun _ => ?_); case a => (simp <;> omega)))
  refine ⟨_, s_toChan x ho, ?_⟩
  repeat (first | (first | refine brT ?_ | refine brF ?_ | refine And.intro rfl ?_ | intro _) | (refine brL ?a (fun _ => ?_); case a => (simp <;> omega)) | (refine brR ?a (fun _ => ?_); case a => (simp <;> omega)))
  refine ⟨_, i_RecvFrom x ho hb, ?_⟩
  repeat (first | (first | refine brT ?_ | refine brF ?_ | refine And.intro rfl ?_ | intro _) | (refine brL ?a (fun _ => ?_); case a => (simp <;> omega)) | (refine brR ?a (fun _ => ?_); case a => (simp <;> omega)))
  refine ⟨_, s_eqChan ((recvFrom x).1) ((recvFrom x).1) hu, ?_⟩
  repeat (first | (first | refine brT ?_ | refine brF ?_ | refine And.intro rfl ?_ | intro _) | (refine brL ?a (fun _ => ?_); case a => (simp <;> omega)) | (refine brR ?a (fun _ => ?_); case a => (simp <;> omega)))
  refine ⟨_, s_eqWaiter ((recvFrom x).2.2.2.1) ((recvFrom x).2.2.2.1) trivial, ?_⟩
  repeat (first | (first | refine brT ?_ | refine brF ?_ | refine And.intro rfl ?_ | intro _) | (refine brL ?a (fun _ => ?_); case a => (simp <;> omega)) | (refine brR ?a (fun _ => ?_); case a => (simp <;> omega)))
  repeat (first | (first | refine brT ?_ | refine brF ?_ | refine And.intro rfl ?_ | intro _) | (refine brL ?a (fun _ => ?_); case a => (simp <;> omega)) | (refine brR ?a (fun _ => ?_); case a => (simp <;> omega)))
  refine dr (Pl.go 0 (Pl.go 1 (Pl.go 2 (Pl.go 3 (Pl.go 4 Pl.stop))))) (by kernel_rfl) ?_
  repeat (first | (first | refine brT ?_ | refine brF ?_ | refine And.intro rfl ?_ | intro _) | (refine brL ?a (fun _ => ?_); case a => (simp <;> omega)) | (refine brR ?a (fun _ => ?_); case a => (simp <;> omega)))
  refine ⟨_, s_toChan x ho, ?_⟩
  repeat (first | (first | refine brT ?_ | refine brF ?_ | refine And.intro rfl ?_ | intro _) | (refine brL ?a (fun _ => ?_); case a => (simp <;> omega)) | (refine brR ?a (fun _ => ?_); case a => (simp <;> omega)))
  refine ⟨_, s_eqChan x x ho, ?_⟩
  repeat (first | (first | refine brT ?_ | refine brF ?_ | refine And.intro rfl ?_ | intro _) | (refine brL ?a (fun _ => ?_); case a => (simp <;> omega)) | (refine brR ?a (fun _ => ?_); case a => (simp <;> omega)))
  repeat (first | (first | refine brT ?_ | refine brF ?_ | refine And.intro rfl ?_ | intro _) | (refine brL ?a (fun _ => ?_); case a => (simp <;> omega)) | (refine brR ?a (fun _ => ?_); case a => (simp <;> omega)))
  refine ⟨_, rfl, rfl, rfl, _, s_markChan x (1) ho (by omega) (by omega), ?_⟩
  repeat (first | (first | refine brT ?_ | refine brF ?_ | refine And.intro rfl ?_ | intro _) | (refine brL ?a (fun _ => ?_); case a => (simp <;> omega)) | (refine brR ?a (fun _ => ?_); case a => (simp <;> omega)))
  refine ⟨_, s_eqChan ((recvFrom x).1) ((recvFrom x).1) hu, ?_⟩
  repeat (first | (first | refine brT ?_ | refine brF ?_ | refine And.intro rfl ?_ | intro _) | (refine brL ?a (fun _ => ?_); case a => (simp <;> omega)) | (refine brR ?a (fun _ => ?_); case a => (simp <;> omega)))
  refine ⟨_, s_eqWaiter ((recvFrom x).2.2.2.1) ((recvFrom x).2.2.2.1) trivial, ?_⟩
  repeat (first | (first | refine brT ?_ | refine brF ?_ | refine And.intro rfl ?_ | intro _) | (refine brL ?a (fun _ => ?_); case a => (simp <;> omega)) | (refine brR ?a (fun _ => ?_); case a => (simp <;> omega)))
  repeat (first | (first | refine brT ?_ | refine brF ?_ | refine And.intro rfl ?_ | intro _) | (refine brL ?a (fun _ => ?_); case a => (simp <;> omega)) | (refine brR ?a (fun _ => ?_); case a => (simp <;> omega)))
  refine ⟨_, rfl, rfl, rfl, _, s_markChan ((recvFrom x).1) (1) hu (by omega) (by omega), ?_⟩
  repeat (first | (first | refine brT ?_ | refine brF ?_ | refine And.intro rfl ?_ | intro _) | (refine brL ?a (fun _ => ?_); case a => (simp <;> omega)) | (refine brR ?a (fun _ => ?_); case a => (simp <;> omega)))
  refine ⟨_, s_heldChan ((recvFrom x).1) (1) hu (by omega) (by omega), ?_⟩
  repeat (first | (first | refine brT ?_ | refine brF ?_ | refine And.intro rfl ?_ | intro _) | (refine brL ?a (fun _ => ?_); case a => (simp <;> omega)) | (refine brR ?a (fun _ => ?_); case a => (simp <;> omega)))
  repeat (first | (first | refine brT ?_ | refine brF ?_ | refine And.intro rfl ?_ | intro _) | (refine brL ?a (fun _ => ?_); case a => (simp <;> omega)) | (refine brR ?a (fun _ => ?_); case a => (simp <;> omega)))
  repeat (first | (first | refine brT ?_ | refine brF ?_ | refine And.intro rfl ?_ | intro _) | (refine brL ?a (fun _ => ?_); case a => (simp <;> omega)) | (refine brR ?a (fun _ => ?_); case a => (simp <;> omega)))
  refine ⟨_, s_toChan x ho, ?_⟩
  repeat (first | (first | refine brT ?_ | refine brF ?_ | refine And.intro rfl ?_ | intro _) | (refine brL ?a (fun _ => ?_); case a => (simp <;> omega)) | (refine brR ?a (fun _ => ?_); case a => (simp <;> omega)))
  refine ⟨_, i_RecvFrom x ho hb, ?_⟩
  repeat (first | (first | refine brT ?_ | refine brF ?_ | refine And.intro rfl ?_ | intro _) | (refine brL ?a (fun _ => ?_); case a => (simp <;> omega)) | (refine brR ?a (fun _ => ?_); case a => (simp <;> omega)))
  refine ⟨_, s_eqChan ((recvFrom x).1) ((recvFrom x).1) hu, ?_⟩
  repeat (first | (first | refine brT ?_ | refine brF ?_ | refine And.intro rfl ?_ | intro _) | (refine brL ?a (fun _ => ?_); case a => (simp <;> omega)) | (refine brR ?a (fun _ => ?_); case a => (simp <;> omega)))
  refine ⟨_, s_eqWaiter ((recvFrom x).2.2.2.1) ((recvFrom x).2.2.2.1) trivial, ?_⟩
  repeat (first | (first | refine brT ?_ | refine brF ?_ | refine And.intro rfl ?_ | intro _) | (refine brL ?a (fun _ => ?_); case a => (simp <;> omega)) | (refine brR ?a (fun _ => ?_); case a => (simp <;> omega)))
  repeat (first | (first | refine brT ?_ | refine brF ?_ | refine And.intro rfl ?_ | intro _) | (refine brL ?a (fun _ => ?_); case a => (simp <;> omega)) | (refine brR ?a (fun _ => ?_); case a => (simp <;> omega)))
  refine ⟨_, s_heldChan ((recvFrom x).1) (1) hu (by omega) (by omega), ?_⟩
  repeat (first | (first | refine brT ?_ | refine brF ?_ | refine And.intro rfl ?_ | intro _) | (refine brL ?a (fun _ => ?_); case a => (simp <;> omega)) | (refine brR ?a (fun _ => ?_); case a => (simp <;> omega)))
  repeat (first | (first | refine brT ?_ | refine brF ?_ | refine And.intro rfl ?_ | intro _) | (refine brL ?a (fun _ => ?_); case a => (simp <;> omega)) | (refine brR ?a (fun _ => ?_); case a => (simp <;> omega)))
  exact tb rfl


end Go.Proofs.Ytcafolgfacmhcaa.E
