/- Contracts of functions of this seat's program. -/
import Derived.Test.YtbofjpmighijhaaETy
import Derived.Test.YtbofjpmighijhaaEB
namespace Go.Proofs.Ytbofjpmighijhaa.E
set_option linter.unusedVariables false
def insP (ps : List Y_Proc) (i : Int) : Int := if 0 ≤ i then (match ps[i.toNat]? with | some p => (p.length : Int) | none => 0) else 0
theorem s_within (a b c : Int) : Spec Try.prog 43 [.ro (T.int a), .ro (T.int b), .ro (T.int c)] [T.bool (decide (b ≤ a) && decide (a < c))] := by
  refine fn Try.func43 ?_
  repeat' (first | (first | refine ⟨rfl, ?_⟩ | refine brT ?_ | refine brF ?_ | intro _) | refine brI (fun _ => ?_) (fun _ => ?_))
  all_goals (refine tb ?_; simp_all; try (intros; omega))
theorem insP_no {ps : List Y_Proc} {i : Int} (h : ¬ (0 ≤ i ∧ i < ps.length)) : insP ps i = 0 := by
  unfold insP
  split
  · rw [List.getElem?_eq_none (by omega)]
  · rfl
theorem insP_yes {ps : List Y_Proc} {i : Int} (h0 : 0 ≤ i) (h : i.toNat < ps.length) : insP ps i = (ps[i.toNat].length : Int) := by
  unfold insP
  rw [if_pos h0, List.getElem?_eq_getElem h]
theorem s_Instrs (x : Y_Prog) (i : Int) : Spec Try.prog 11 [.ro (t_Prog x), .ro (T.int i)] [T.int (insP x.2.2.2 i)] := by
  refine fn Try.func11 ?_
  repeat' (first | (first | refine ⟨rfl, ?_⟩ | refine brT ?_ | refine brF ?_ | intro _) | refine brI (fun _ => ?_) (fun _ => ?_))
  · exact ti (insP_no (by simp_all; try omega)).symm
  · exact ti (insP_no (by simp_all; try omega)).symm
  · have h0 : 0 ≤ i := by simp_all
    have h : i.toNat < x.2.2.2.length := by simp_all; (try omega)
    refine ⟨h0, t_Proc x.2.2.2[i.toNat], by simp [h], ?_⟩
    refine ti ?_
    rw [insP_yes h0 h, List.length_map]
theorem i_Instrs (x : Y_Prog) (i : Int) : Spec Try.prog 13 [.ro (t_Prog x), .ro (T.int i)] [T.int (insP x.2.2.2 i)] := by
  refine fn Try.func13 ?_
  repeat (first | refine ⟨rfl, ?_⟩ | refine brT ?_ | refine brF ?_ | intro _)
  refine ⟨_, s_within _ _ _, ?_⟩
  repeat' (first | (first | refine ⟨rfl, ?_⟩ | refine brT ?_ | refine brF ?_ | intro _) | refine brI (fun _ => ?_) (fun _ => ?_))
  · exact ti (insP_no (by simp_all; try omega)).symm
  · have h0 : 0 ≤ i := by simp_all
    have h : i.toNat < x.2.2.2.length := by simp_all; (try omega)
    refine ⟨h0, t_Proc x.2.2.2[i.toNat], by simp [h], ?_⟩
    refine ti ?_
    rw [insP_yes h0 h, List.length_map]

theorem l_Instrs (x : Y_Prog) (i : Int) (hr : raw_Prog x) : Spec Try.prog 3 [.ro (t_Prog x), .ro (T.int i)] [T.bool true] := by
  refine fn Try.func3 ?_
  intro q
  repeat (first | refine ⟨rfl, ?_⟩ | refine brT ?_ | refine brF ?_ | intro _)
  refine ⟨_, s_szProg x 1048576 hr (by decide) (by decide), ?_⟩
  intro _
  refine brI (fun h => ?_) (fun h => ?_)
  · exact tb rfl
  obtain ⟨ho, _, _⟩ := in_Prog hr (by decide) (by decide) (of_decide_eq_false h)
  repeat (first | refine ⟨rfl, ?_⟩ | refine brT ?_ | refine brF ?_ | intro _)
  refine ⟨_, s_toProg x ho, ?_⟩
  repeat (first | refine ⟨rfl, ?_⟩ | refine brT ?_ | refine brF ?_ | intro _)
  refine ⟨_, s_Instrs x i, ?_⟩
  repeat (first | refine ⟨rfl, ?_⟩ | refine brT ?_ | refine brF ?_ | intro _)
  refine ⟨_, s_toProg x ho, ?_⟩
  repeat (first | refine ⟨rfl, ?_⟩ | refine brT ?_ | refine brF ?_ | intro _)
  refine ⟨_, i_Instrs x i, ?_⟩
  intro _
  refine brI (fun h => ?_) (fun h => ?_)
  · simp at h
  refine dr (.line [0, 1, 2, 3, 4]) (by kernel_rfl) ?_
  repeat (first | refine ⟨rfl, ?_⟩ | refine brT ?_ | refine brF ?_ | intro _)
  refine ⟨_, s_toProg x ho, ?_⟩
  repeat (first | refine ⟨rfl, ?_⟩ | refine brT ?_ | refine brF ?_ | intro _)
  refine ⟨_, s_eqProg x x ho, ?_⟩
  intro _
  refine brI (fun h => ?_) (fun h => ?_)
  · simp at h
  exact tb rfl


end Go.Proofs.Ytbofjpmighijhaa.E
