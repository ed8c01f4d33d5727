/- Contracts of functions of this seat's program. -/
import Derived.Test.YtiphlkclkieanaaETy
import Derived.Test.YtiphlkclkieanaaESc
namespace Go.Proofs.Ytiphlkclkieanaa.E
set_option linter.unusedVariables false
set_option maxHeartbeats 1600000

theorem l_FnExactScan (b : List Int) (hr : rawS_Byte b) : Spec Try.prog 4 [.ro (T.sl 1 ((b).map T.u8))] [T.bool true] := by
  refine fn Try.func4 ?_
  repeat (first | (first | refine brT ?_ | refine brF ?_ | refine And.intro rfl ?_ | refine And.intro trivial ?_ | intro _) | (refine brL ?a (fun _ => ?_); case a => (simp <;> omega)) | (refine brR ?a (fun _ => ?_); case a => (simp <;> omega)))
  refine brI (fun h => ?_) (fun h => ?_)
  · exact tb rfl
  have h := of_decide_eq_false h
  have hl2 : (b.length : Int) ≤ 1048576 := by simpa using h
  have hl : b.length ≤ bound := by unfold bound; omega
  have hB := raw_isB hr
  have hk := scan_ok hB hl
  have t0 := totL_len (scan b).1
  have hc : (scan b).1.length ≤ bound ∧ ∀ y ∈ (scan b).1, ok_Chunk y := ⟨by have := hk.2.2.1; have := hk.2.1; omega, hk.2.2.2⟩
  have n1 := le_ChunkS _ hc
  have m1 := nL_nonneg n0_Chunk (scan b).1
  repeat (first | (first | refine brT ?_ | refine brF ?_ | refine And.intro rfl ?_ | refine And.intro trivial ?_ | intro _) | (refine brL ?a (fun _ => ?_); case a => (simp <;> omega)) | (refine brR ?a (fun _ => ?_); case a => (simp <;> omega)))
  refine ⟨_, s_toByteS b hl, ?_⟩
  repeat (first | (first | refine brT ?_ | refine brF ?_ | refine And.intro rfl ?_ | refine And.intro trivial ?_ | intro _) | (refine brL ?a (fun _ => ?_); case a => (simp <;> omega)) | (refine brR ?a (fun _ => ?_); case a => (simp <;> omega)))
  refine ⟨_, s_Scan b hB hl, ?_⟩
  repeat (first | (first | refine brT ?_ | refine brF ?_ | refine And.intro rfl ?_ | refine And.intro trivial ?_ | intro _) | (refine brL ?a (fun _ => ?_); case a => (simp <;> omega)) | (refine brR ?a (fun _ => ?_); case a => (simp <;> omega)))
  refine ⟨_, s_toByteS b hl, ?_⟩
  repeat (first | (first | refine brT ?_ | refine brF ?_ | refine And.intro rfl ?_ | refine And.intro trivial ?_ | intro _) | (refine brL ?a (fun _ => ?_); case a => (simp <;> omega)) | (refine brR ?a (fun _ => ?_); case a => (simp <;> omega)))
  refine ⟨_, i_Scan b hB hl, ?_⟩
  repeat (first | (first | refine brT ?_ | refine brF ?_ | refine And.intro rfl ?_ | refine And.intro trivial ?_ | intro _) | (refine brL ?a (fun _ => ?_); case a => (simp <;> omega)) | (refine brR ?a (fun _ => ?_); case a => (simp <;> omega)))
  refine ⟨_, s_eqChunkS ((scan b).1) ((scan b).1) hc, ?_⟩
  repeat (first | (first | refine brT ?_ | refine brF ?_ | refine And.intro rfl ?_ | refine And.intro trivial ?_ | intro _) | (refine brL ?a (fun _ => ?_); case a => (simp <;> omega)) | (refine brR ?a (fun _ => ?_); case a => (simp <;> omega)))
  repeat (first | (first | refine brT ?_ | refine brF ?_ | refine And.intro rfl ?_ | refine And.intro trivial ?_ | intro _) | (refine brL ?a (fun _ => ?_); case a => (simp <;> omega)) | (refine brR ?a (fun _ => ?_); case a => (simp <;> omega)))
  refine ⟨_, s_toByteS b hl, ?_⟩
  repeat (first | (first | refine brT ?_ | refine brF ?_ | refine And.intro rfl ?_ | refine And.intro trivial ?_ | intro _) | (refine brL ?a (fun _ => ?_); case a => (simp <;> omega)) | (refine brR ?a (fun _ => ?_); case a => (simp <;> omega)))
  refine ⟨_, s_eqByteS b b hl, ?_⟩
  repeat (first | (first | refine brT ?_ | refine brF ?_ | refine And.intro rfl ?_ | refine And.intro trivial ?_ | intro _) | (refine brL ?a (fun _ => ?_); case a => (simp <;> omega)) | (refine brR ?a (fun _ => ?_); case a => (simp <;> omega)))
  repeat (first | (first | refine brT ?_ | refine brF ?_ | refine And.intro rfl ?_ | refine And.intro trivial ?_ | intro _) | (refine brL ?a (fun _ => ?_); case a => (simp <;> omega)) | (refine brR ?a (fun _ => ?_); case a => (simp <;> omega)))
  refine ⟨_, rfl, _, s_markByteS b (1) hl (by omega) (by omega), ?_⟩
  repeat (first | (first | refine brT ?_ | refine brF ?_ | refine And.intro rfl ?_ | refine And.intro trivial ?_ | intro _) | (refine brL ?a (fun _ => ?_); case a => (simp <;> omega)) | (refine brR ?a (fun _ => ?_); case a => (simp <;> omega)))
  refine ⟨_, s_eqChunkS ((scan b).1) ((scan b).1) hc, ?_⟩
  repeat (first | (first | refine brT ?_ | refine brF ?_ | refine And.intro rfl ?_ | refine And.intro trivial ?_ | intro _) | (refine brL ?a (fun _ => ?_); case a => (simp <;> omega)) | (refine brR ?a (fun _ => ?_); case a => (simp <;> omega)))
  repeat (first | (first | refine brT ?_ | refine brF ?_ | refine And.intro rfl ?_ | refine And.intro trivial ?_ | intro _) | (refine brL ?a (fun _ => ?_); case a => (simp <;> omega)) | (refine brR ?a (fun _ => ?_); case a => (simp <;> omega)))
  refine ⟨_, rfl, _, s_markChunkS ((scan b).1) (1) hc (by omega) (by omega), ?_⟩
  repeat (first | (first | refine brT ?_ | refine brF ?_ | refine And.intro rfl ?_ | refine And.intro trivial ?_ | intro _) | (refine brL ?a (fun _ => ?_); case a => (simp <;> omega)) | (refine brR ?a (fun _ => ?_); case a => (simp <;> omega)))
  refine ⟨_, s_heldChunkS ((scan b).1) (1) hc (by omega) (by omega), ?_⟩
  repeat (first | (first | refine brT ?_ | refine brF ?_ | refine And.intro rfl ?_ | refine And.intro trivial ?_ | intro _) | (refine brL ?a (fun _ => ?_); case a => (simp <;> omega)) | (refine brR ?a (fun _ => ?_); case a => (simp <;> omega)))
  repeat (first | (first | refine brT ?_ | refine brF ?_ | refine And.intro rfl ?_ | refine And.intro trivial ?_ | intro _) | (refine brL ?a (fun _ => ?_); case a => (simp <;> omega)) | (refine brR ?a (fun _ => ?_); case a => (simp <;> omega)))
  repeat (first | (first | refine brT ?_ | refine brF ?_ | refine And.intro rfl ?_ | refine And.intro trivial ?_ | intro _) | (refine brL ?a (fun _ => ?_); case a => (simp <;> omega)) | (refine brR ?a (fun _ => ?_); case a => (simp <;> omega)))
  refine ⟨_, s_toByteS b hl, ?_⟩
  repeat (first | (first | refine brT ?_ | refine brF ?_ | refine And.intro rfl ?_ | refine And.intro trivial ?_ | intro _) | (refine brL ?a (fun _ => ?_); case a => (simp <;> omega)) | (refine brR ?a (fun _ => ?_); case a => (simp <;> omega)))
  refine ⟨_, i_Scan b hB hl, ?_⟩
  repeat (first | (first | refine brT ?_ | refine brF ?_ | refine And.intro rfl ?_ | refine And.intro trivial ?_ | intro _) | (refine brL ?a (fun _ => ?_); case a => (simp <;> omega)) | (refine brR ?a (fun _ => ?_); case a => (simp <;> omega)))
  refine ⟨_, s_eqChunkS ((scan b).1) ((scan b).1) hc, ?_⟩
  repeat (first | (first | refine brT ?_ | refine brF ?_ | refine And.intro rfl ?_ | refine And.intro trivial ?_ | intro _) | (refine brL ?a (fun _ => ?_); case a => (simp <;> omega)) | (refine brR ?a (fun _ => ?_); case a => (simp <;> omega)))
  repeat (first | (first | refine brT ?_ | refine brF ?_ | refine And.intro rfl ?_ | refine And.intro trivial ?_ | intro _) | (refine brL ?a (fun _ => ?_); case a => (simp <;> omega)) | (refine brR ?a (fun _ => ?_); case a => (simp <;> omega)))
  refine ⟨_, s_heldChunkS ((scan b).1) (1) hc (by omega) (by omega), ?_⟩
  repeat (first | (first | refine brT ?_ | refine brF ?_ | refine And.intro rfl ?_ | refine And.intro trivial ?_ | intro _) | (refine brL ?a (fun _ => ?_); case a => (simp <;> omega)) | (refine brR ?a (fun _ => ?_); case a => (simp <;> omega)))
  repeat (first | (first | refine brT ?_ | refine brF ?_ | refine And.intro rfl ?_ | refine And.intro trivial ?_ | intro _) | (refine brL ?a (fun _ => ?_); case a => (simp <;> omega)) | (refine brR ?a (fun _ => ?_); case a => (simp <;> omega)))
  exact tb rfl


end Go.Proofs.Ytiphlkclkieanaa.E
