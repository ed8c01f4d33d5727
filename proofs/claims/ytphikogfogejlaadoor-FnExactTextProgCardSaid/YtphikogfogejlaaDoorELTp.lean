/- Contracts of functions of this seat's program. -/
import Derived.Test.YtphikogfogejlaaDoorETy
import Derived.Test.YtphikogfogejlaaDoorEPg
namespace Go.Proofs.YtphikogfogejlaaDoor.E
set_option linter.unusedVariables false
set_option linter.unusedSimpArgs false
set_option maxHeartbeats 1600000
theorem ok_textProg (s : ByteArray) (hs : s.size ≤ 1048576) : ok_Prog (textProg s).1 := by
  have z : ok_Prog zP := ⟨Nat.zero_le _, ⟨Nat.zero_le _, fun _ h => (by cases h)⟩, ⟨Nat.zero_le _, fun _ h => (by cases h)⟩⟩
  unfold textProg
  split
  · exact z
  rename_i hz
  split
  · exact z
  split
  · have hL := linesB_len s
    have hmem : ∀ w ∈ linesB s, w.size ≤ 20000 := fun w hw => by have := lines_mem hw; omega
    have hR : runS s = stAt (linesB s) (linesB s).length := by unfold runS stAt; rw [List.take_length]
    have hb := stAt_bnd hmem (linesB s).length (Nat.le_refl _)
    rw [← hR] at hb
    obtain ⟨h1, h2, h3, h4⟩ := hb
    have hc : (numsOf (wd (linesB s) 0)).length ≤ 20001 := by
      have h1 := cutB_len 32 (wd (linesB s) 0)
      have h2 : (wd (linesB s) 0).size ≤ 20000 := by
        by_cases h0 : 0 < (linesB s).length
        · rw [wd_get h0]; exact hmem _ (List.getElem_mem _)
        · have : wd (linesB s) 0 = e0 := by unfold wd; rw [List.getD_eq_getElem?_getD, List.getElem?_eq_none (by omega)]; rfl
          rw [this]; exact Nat.zero_le _
      unfold numsOf; rw [List.length_map, List.length_drop]; omega
    exact ⟨Nat.le_trans hc (by decide), ⟨Nat.le_trans (show (runS s).1.1.length ≤ 20001 by omega) (by decide), fun x hx => ⟨Nat.le_trans (h4 x hx) (by decide), fun _ _ => trivial⟩⟩, ⟨Nat.le_trans (show (runS s).1.2.length ≤ 20001 by omega) (by decide), fun c hc => ⟨Nat.le_trans (show c.length ≤ 20001 by have := h3 c hc; omega) (by decide), fun _ _ => trivial⟩⟩⟩
  · exact z


theorem l_FnExactTextProg (s : ByteArray) : Spec Tryd.prog 5 [.ro (T.str (s))] [T.bool true] := by
  refine fn Tryd.func5 ?_
  repeat (first | (first | refine brT ?_ | refine brF ?_ | refine And.intro rfl ?_ | refine And.intro trivial ?_ | intro _) | (refine brL ?kzz (fun _ => ?_); case kzz => (simp <;> omega)) | (refine brR ?kzz (fun _ => ?_); case kzz => (simp <;> omega)))
  refine brI (fun h => ?_) (fun h => ?_)
  · exact tb rfl
  have h := of_decide_eq_false h
  have hs : s.size ≤ 1048576 := by have h' : ¬ ((s.size : Int) > 1048576) := h; omega
  have hu := ok_textProg s hs
  have n1 := nvle_Prog _ hu
  have m1 := nv0_Prog (textProg s).1
  repeat (first | (first | refine brT ?_ | refine brF ?_ | refine And.intro rfl ?_ | refine And.intro trivial ?_ | intro _) | (refine brL ?kzz (fun _ => ?_); case kzz => (simp <;> omega)) | (refine brR ?kzz (fun _ => ?_); case kzz => (simp <;> omega)))
  refine ⟨_, s_TextProg s hs, ?_⟩
  repeat (first | (first | refine brT ?_ | refine brF ?_ | refine And.intro rfl ?_ | refine And.intro trivial ?_ | intro _) | (refine brL ?kzz (fun _ => ?_); case kzz => (simp <;> omega)) | (refine brR ?kzz (fun _ => ?_); case kzz => (simp <;> omega)))
  refine ⟨_, i_TextProg s hs, ?_⟩
  repeat (first | (first | refine brT ?_ | refine brF ?_ | refine And.intro rfl ?_ | refine And.intro trivial ?_ | intro _) | (refine brL ?kzz (fun _ => ?_); case kzz => (simp <;> omega)) | (refine brR ?kzz (fun _ => ?_); case kzz => (simp <;> omega)))
  refine ⟨_, s_eqProg ((textProg s).1) ((textProg s).1) hu, ?_⟩
  repeat (first | (first | refine brT ?_ | refine brF ?_ | refine And.intro rfl ?_ | refine And.intro trivial ?_ | intro _) | (refine brL ?kzz (fun _ => ?_); case kzz => (simp <;> omega)) | (refine brR ?kzz (fun _ => ?_); case kzz => (simp <;> omega)))
  repeat (first | (first | refine brT ?_ | refine brF ?_ | refine And.intro rfl ?_ | refine And.intro trivial ?_ | intro _) | (refine brL ?kzz (fun _ => ?_); case kzz => (simp <;> omega)) | (refine brR ?kzz (fun _ => ?_); case kzz => (simp <;> omega)))
  refine ⟨_, rfl, rfl, rfl, _, s_markProg ((textProg s).1) (1) hu (by omega) (by omega), ?_⟩
  repeat (first | (first | refine brT ?_ | refine brF ?_ | refine And.intro rfl ?_ | refine And.intro trivial ?_ | intro _) | (refine brL ?kzz (fun _ => ?_); case kzz => (simp <;> omega)) | (refine brR ?kzz (fun _ => ?_); case kzz => (simp <;> omega)))
  refine ⟨_, s_heldProg ((textProg s).1) (1) hu (by omega) (by omega), ?_⟩
  repeat (first | (first | refine brT ?_ | refine brF ?_ | refine And.intro rfl ?_ | refine And.intro trivial ?_ | intro _) | (refine brL ?kzz (fun _ => ?_); case kzz => (simp <;> omega)) | (refine brR ?kzz (fun _ => ?_); case kzz => (simp <;> omega)))
  repeat (first | (first | refine brT ?_ | refine brF ?_ | refine And.intro rfl ?_ | refine And.intro trivial ?_ | intro _) | (refine brL ?kzz (fun _ => ?_); case kzz => (simp <;> omega)) | (refine brR ?kzz (fun _ => ?_); case kzz => (simp <;> omega)))
  repeat (first | (first | refine brT ?_ | refine brF ?_ | refine And.intro rfl ?_ | refine And.intro trivial ?_ | intro _) | (refine brL ?kzz (fun _ => ?_); case kzz => (simp <;> omega)) | (refine brR ?kzz (fun _ => ?_); case kzz => (simp <;> omega)))
  refine ⟨_, i_TextProg s hs, ?_⟩
  repeat (first | (first | refine brT ?_ | refine brF ?_ | refine And.intro rfl ?_ | refine And.intro trivial ?_ | intro _) | (refine brL ?kzz (fun _ => ?_); case kzz => (simp <;> omega)) | (refine brR ?kzz (fun _ => ?_); case kzz => (simp <;> omega)))
  refine ⟨_, s_eqProg ((textProg s).1) ((textProg s).1) hu, ?_⟩
  repeat (first | (first | refine brT ?_ | refine brF ?_ | refine And.intro rfl ?_ | refine And.intro trivial ?_ | intro _) | (refine brL ?kzz (fun _ => ?_); case kzz => (simp <;> omega)) | (refine brR ?kzz (fun _ => ?_); case kzz => (simp <;> omega)))
  repeat (first | (first | refine brT ?_ | refine brF ?_ | refine And.intro rfl ?_ | refine And.intro trivial ?_ | intro _) | (refine brL ?kzz (fun _ => ?_); case kzz => (simp <;> omega)) | (refine brR ?kzz (fun _ => ?_); case kzz => (simp <;> omega)))
  refine ⟨_, s_heldProg ((textProg s).1) (1) hu (by omega) (by omega), ?_⟩
  repeat (first | (first | refine brT ?_ | refine brF ?_ | refine And.intro rfl ?_ | refine And.intro trivial ?_ | intro _) | (refine brL ?kzz (fun _ => ?_); case kzz => (simp <;> omega)) | (refine brR ?kzz (fun _ => ?_); case kzz => (simp <;> omega)))
  repeat (first | (first | refine brT ?_ | refine brF ?_ | refine And.intro rfl ?_ | refine And.intro trivial ?_ | intro _) | (refine brL ?kzz (fun _ => ?_); case kzz => (simp <;> omega)) | (refine brR ?kzz (fun _ => ?_); case kzz => (simp <;> omega)))
  exact tb rfl


end Go.Proofs.YtphikogfogejlaaDoor.E
