/- Contracts of functions of this seat's program. -/
import Derived.Test.YteibafcohflbdaaETy
import Derived.Test.YteibafcohflbdaaEPt
namespace Go.Proofs.Yteibafcohflbdaa.E
set_option linter.unusedVariables false
set_option linter.unusedSimpArgs false
set_option maxHeartbeats 1600000

theorem l_FnExactProgText (x : Y_Prog) (hr : raw_Prog x) : Spec Try.prog 5 [.ro (t_Prog x)] [T.bool true] := by
  refine fn Try.func5 ?_
  repeat (first | (first | refine brT ?_ | refine brF ?_ | refine And.intro rfl ?_ | refine And.intro trivial ?_ | intro _) | (refine brL ?kzz (fun _ => ?_); case kzz => (simp <;> omega)) | (refine brR ?kzz (fun _ => ?_); case kzz => (simp <;> omega)))
  refine ⟨_, s_szProg x 1048576 hr (by decide) (by decide), ?_⟩
  repeat (first | (first | refine brT ?_ | refine brF ?_ | refine And.intro rfl ?_ | refine And.intro trivial ?_ | intro _) | (refine brL ?kzz (fun _ => ?_); case kzz => (simp <;> omega)) | (refine brR ?kzz (fun _ => ?_); case kzz => (simp <;> omega)))
  refine brI (fun h => ?_) (fun h => ?_)
  · exact tb rfl
  have h := of_decide_eq_false h
  obtain ⟨ho, _, _⟩ := in_Prog hr (by decide) (by decide) h
  repeat (first | (first | refine brT ?_ | refine brF ?_ | refine And.intro rfl ?_ | refine And.intro trivial ?_ | intro _) | (refine brL ?kzz (fun _ => ?_); case kzz => (simp <;> omega)) | (refine brR ?kzz (fun _ => ?_); case kzz => (simp <;> omega)))
  refine ⟨_, s_toProg x ho, ?_⟩
  repeat (first | (first | refine brT ?_ | refine brF ?_ | refine And.intro rfl ?_ | refine And.intro trivial ?_ | intro _) | (refine brL ?kzz (fun _ => ?_); case kzz => (simp <;> omega)) | (refine brR ?kzz (fun _ => ?_); case kzz => (simp <;> omega)))
  refine ⟨_, s_ProgText x ho, ?_⟩
  repeat (first | (first | refine brT ?_ | refine brF ?_ | refine And.intro rfl ?_ | refine And.intro trivial ?_ | intro _) | (refine brL ?kzz (fun _ => ?_); case kzz => (simp <;> omega)) | (refine brR ?kzz (fun _ => ?_); case kzz => (simp <;> omega)))
  refine ⟨_, s_toProg x ho, ?_⟩
  repeat (first | (first | refine brT ?_ | refine brF ?_ | refine And.intro rfl ?_ | refine And.intro trivial ?_ | intro _) | (refine brL ?kzz (fun _ => ?_); case kzz => (simp <;> omega)) | (refine brR ?kzz (fun _ => ?_); case kzz => (simp <;> omega)))
  refine ⟨_, i_ProgText x ho, ?_⟩
  repeat (first | (first | refine brT ?_ | refine brF ?_ | refine And.intro rfl ?_ | refine And.intro trivial ?_ | intro _) | (refine brL ?kzz (fun _ => ?_); case kzz => (simp <;> omega)) | (refine brR ?kzz (fun _ => ?_); case kzz => (simp <;> omega)))
  repeat (first | (first | refine brT ?_ | refine brF ?_ | refine And.intro rfl ?_ | refine And.intro trivial ?_ | intro _) | (refine brL ?kzz (fun _ => ?_); case kzz => (simp <;> omega)) | (refine brR ?kzz (fun _ => ?_); case kzz => (simp <;> omega)))
  refine dr (Pl.go 0 (Pl.go 1 (Pl.go 2 (Pl.go 3 (Pl.go 4 Pl.stop))))) (by kernel_rfl) ?_
  repeat (first | (first | refine brT ?_ | refine brF ?_ | refine And.intro rfl ?_ | refine And.intro trivial ?_ | intro _) | (refine brL ?kzz (fun _ => ?_); case kzz => (simp <;> omega)) | (refine brR ?kzz (fun _ => ?_); case kzz => (simp <;> omega)))
  refine ⟨_, s_toProg x ho, ?_⟩
  repeat (first | (first | refine brT ?_ | refine brF ?_ | refine And.intro rfl ?_ | refine And.intro trivial ?_ | intro _) | (refine brL ?kzz (fun _ => ?_); case kzz => (simp <;> omega)) | (refine brR ?kzz (fun _ => ?_); case kzz => (simp <;> omega)))
  refine ⟨_, s_eqProg x x ho, ?_⟩
  repeat (first | (first | refine brT ?_ | refine brF ?_ | refine And.intro rfl ?_ | refine And.intro trivial ?_ | intro _) | (refine brL ?kzz (fun _ => ?_); case kzz => (simp <;> omega)) | (refine brR ?kzz (fun _ => ?_); case kzz => (simp <;> omega)))
  exact tb rfl


end Go.Proofs.Yteibafcohflbdaa.E
