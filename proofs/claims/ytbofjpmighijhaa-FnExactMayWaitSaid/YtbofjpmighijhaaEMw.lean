/- Contracts of functions of this seat's program. -/
import Derived.Test.YtbofjpmighijhaaETy
import Derived.Test.YtbofjpmighijhaaEGl
namespace Go.Proofs.Ytbofjpmighijhaa.E
set_option linter.unusedVariables false
set_option maxHeartbeats 1600000
def insAt (p : Y_Prog) (g : Y_Gor) : Y_Instr := match p.2.2.2[g.1.toNat]? with
  | some c => (match c[g.2.1.toNat]? with
    | some i => i
    | none => (0, 0, 0, 0))
  | none => (0, 0, 0, 0)
theorem ins_ok {p : Y_Prog} {g : Y_Gor} (h : gorOk p g = true) : 0 ≤ g.1 ∧ 0 ≤ g.2.1 ∧ ∃ h1 : g.1.toNat < p.2.2.2.length, ∃ h2 : g.2.1.toNat < p.2.2.2[g.1.toNat].length, insAt p g = p.2.2.2[g.1.toNat][g.2.1.toNat] ∧ instrGood p p.2.2.2[g.1.toNat].length (insAt p g) = true := by
  simp only [gorOk, gorRest, gorHead, Bool.and_eq_true] at h
  obtain ⟨hp, ⟨⟨⟨⟨hw, _⟩, _⟩, _⟩, _⟩, _⟩ := h
  simp only [within, Bool.and_eq_true, decide_eq_true_eq] at hw
  obtain ⟨h0, h1⟩ := hw
  have hg0 : 0 ≤ g.1 := by
    apply Decidable.byContradiction
    intro hn
    simp [insP, hn] at h1
    omega
  have hlt : g.1.toNat < p.2.2.2.length := by
    apply Decidable.byContradiction
    intro hn
    simp [insP, hg0, List.getElem?_eq_none (show p.2.2.2.length ≤ g.1.toNat by omega)] at h1
    omega
  rw [insP_yes hg0 hlt] at h1
  have hlt2 : g.2.1.toNat < p.2.2.2[g.1.toNat].length := by omega
  have e : insAt p g = p.2.2.2[g.1.toNat][g.2.1.toNat] := by simp [insAt, hlt, hlt2]
  refine ⟨hg0, h0, hlt, hlt2, e, ?_⟩
  rw [e]
  simp only [progOk, Bool.and_eq_true] at hp
  have hq := List.all_eq_true.1 hp.2 _ (List.getElem_mem hlt)
  simp only [procOk, Bool.and_eq_true] at hq
  exact List.all_eq_true.1 hq.1.2 _ (List.getElem_mem hlt2)
theorem s_instr (p : Y_Prog) (g : Y_Gor) (h : gorOk p g = true) : Spec Try.prog 103 [.ro (t_Prog p), .ro (t_Gor g)] [t_Instr (insAt p g)] := by
  obtain ⟨h1, h2, h3, h4, h5, _⟩ := ins_ok h
  refine fn Try.func103 ?_
  repeat (first | refine brT ?_ | refine brF ?_ | refine And.intro rfl ?_ | intro _)
  refine dr (Pl.go 0 (Pl.go 1 (Pl.go 2 (Pl.go 3 (Pl.go 4 (Pl.go 5 (Pl.go 6 (Pl.go 7 (Pl.go 8 (Pl.go 9 (Pl.go 10 (Pl.go 11 Pl.stop)))))))))))) (by kernel_rfl) ?_
  repeat (first | refine brT ?_ | refine brF ?_ | refine And.intro rfl ?_ | intro _)
  refine ⟨h1, t_Proc p.2.2.2[g.1.toNat], atS h3, ?_⟩
  repeat (first | refine brT ?_ | refine brF ?_ | refine And.intro rfl ?_ | intro _)
  refine ⟨h2, t_Instr p.2.2.2[g.1.toNat][g.2.1.toNat], atS h4, ?_⟩
  repeat (first | refine brT ?_ | refine brF ?_ | refine And.intro rfl ?_ | intro _)
  rw [h5]
  exact rfl
theorem i_instr (p : Y_Prog) (g : Y_Gor) (h : gorOk p g = true) : Spec Try.prog 67 [.ro (t_Prog p), .ro (t_Gor g)] [t_Instr (insAt p g)] := by
  obtain ⟨h1, h2, h3, h4, h5, _⟩ := ins_ok h
  refine fn Try.func67 ?_
  repeat (first | refine brT ?_ | refine brF ?_ | refine And.intro rfl ?_ | intro _)
  refine dr (Pl.go 0 (Pl.go 1 (Pl.go 2 (Pl.go 3 (Pl.go 4 (Pl.go 5 (Pl.go 6 (Pl.go 7 (Pl.go 8 (Pl.go 9 (Pl.go 10 (Pl.go 11 Pl.stop)))))))))))) (by kernel_rfl) ?_
  repeat (first | refine brT ?_ | refine brF ?_ | refine And.intro rfl ?_ | intro _)
  refine ⟨h1, t_Proc p.2.2.2[g.1.toNat], atS h3, ?_⟩
  repeat (first | refine brT ?_ | refine brF ?_ | refine And.intro rfl ?_ | intro _)
  refine ⟨h2, t_Instr p.2.2.2[g.1.toNat][g.2.1.toNat], atS h4, ?_⟩
  repeat (first | refine brT ?_ | refine brF ?_ | refine And.intro rfl ?_ | intro _)
  rw [h5]
  exact rfl
def mayWait (p : Y_Prog) (g : Y_Gor) : Bool := gorOk p g && ((insAt p g).1 == 8 || (insAt p g).1 == 9 || (insAt p g).1 == 12 || ((insAt p g).1 == 11 && match p.2.2.1[(insAt p g).2.1.toNat]? with
  | some s => decide (s.2 < 0)
  | none => false))
theorem sel_ge {p : Y_Prog} {n : Int} {s : Y_Select} (h : selOk p n s = true) : -1 ≤ s.2 := by
  simp only [selOk, within, Bool.and_eq_true, decide_eq_true_eq] at h
  omega
theorem s_l09May (p : Y_Prog) (g : Y_Gor) (h : gorOk p g = true) : Spec Try.prog 66 [.ro (t_Prog p), .ro (t_Gor g)] [T.bool (mayWait p g)] := by
  obtain ⟨_, _, h3, h4, _, hg⟩ := ins_ok h
  refine fn Try.func66 ?_
  repeat (first | refine brT ?_ | refine brF ?_ | refine And.intro rfl ?_ | intro _)
  refine ⟨_, s_instr p g h, ?_⟩
  have hgo : instrOk p p.2.2.2[g.1.toNat].length (insAt p g) = true := by simp only [instrGood, Bool.and_eq_true] at hg; exact hg.1
  unfold mayWait
  generalize insAt p g = x at hgo
  rw [h]
  by_cases h11 : x.1 = 11
  · obtain ⟨h5, h6⟩ := op11 hgo h11
    repeat' (first | (first | refine brT ?_ | refine brF ?_ | refine And.intro rfl ?_ | intro _) | refine ⟨h5, t_Select p.2.2.1[x.2.1.toNat], atS h6, ?_⟩ | refine brI (fun _ => ?_) (fun _ => ?_))
    all_goals (refine tb ?_; simp_all)
  · repeat' (first | (first | refine brT ?_ | refine brF ?_ | refine And.intro rfl ?_ | intro _) | (refine brL ?a (fun _ => ?_); case a => simp [h11]) | refine brI (fun _ => ?_) (fun _ => ?_))
    all_goals (refine tb ?_; simp_all)
theorem s_MayWait (p : Y_Prog) (g : Y_Gor) (hp : ok_Prog p) (h : ok_Gor g) : Spec Try.prog 30 [.ro (t_Prog p), .ro (t_Gor g)] [T.bool (mayWait p g)] := by
  refine fn Try.func30 ?_
  repeat (first | refine brT ?_ | refine brF ?_ | refine And.intro rfl ?_ | intro _)
  refine ⟨_, s_GorOk p g hp h, ?_⟩
  repeat (first | refine brT ?_ | refine brF ?_ | refine And.intro rfl ?_ | intro _)
  refine brI (fun h1 => ?_) (fun h1 => ?_)
  · repeat (first | refine brT ?_ | refine brF ?_ | refine And.intro rfl ?_ | intro _)
    refine ⟨_, s_l09May p g h1, ?_⟩
    repeat (first | refine brT ?_ | refine brF ?_ | refine And.intro rfl ?_ | intro _)
    exact rfl
  · repeat (first | refine brT ?_ | refine brF ?_ | refine And.intro rfl ?_ | intro _)
    exact tbf (by simp [mayWait, h1])
theorem i_MayWait (p : Y_Prog) (g : Y_Gor) (hp : ok_Prog p) (h : ok_Gor g) : Spec Try.prog 31 [.ro (t_Prog p), .ro (t_Gor g)] [T.bool (mayWait p g)] := by
  refine fn Try.func31 ?_
  repeat (first | refine brT ?_ | refine brF ?_ | refine And.intro rfl ?_ | intro _)
  refine ⟨_, i_GorOk p g hp h, ?_⟩
  repeat (first | refine brT ?_ | refine brF ?_ | refine And.intro rfl ?_ | intro _)
  refine brI (fun h1 => ?_) (fun h1 => ?_)
  · repeat (first | refine brT ?_ | refine brF ?_ | refine And.intro rfl ?_ | intro _)
    have h1 : gorOk p g = false := by simpa using h1
    exact tbf (by simp [mayWait, h1])
  have h1 : gorOk p g = true := by simpa using h1
  obtain ⟨_, _, h3, h4, _, hg⟩ := ins_ok h1
  repeat (first | refine brT ?_ | refine brF ?_ | refine And.intro rfl ?_ | intro _)
  refine ⟨_, i_instr p g h1, ?_⟩
  have hgo : instrOk p p.2.2.2[g.1.toNat].length (insAt p g) = true := by simp only [instrGood, Bool.and_eq_true] at hg; exact hg.1
  unfold mayWait
  generalize insAt p g = x at hgo hg
  rw [h1]
  by_cases h11 : x.1 = 11
  · obtain ⟨h5, h6⟩ := op11 hgo h11
    rw [good11 hgo h11 h6] at hg
    have hge := sel_ge hg
    repeat' (first | (first | refine brT ?_ | refine brF ?_ | refine And.intro rfl ?_ | intro _) | refine ⟨h5, t_Select p.2.2.1[x.2.1.toNat], atS h6, ?_⟩ | refine brI (fun _ => ?_) (fun _ => ?_))
    all_goals (refine tb ?_; clear hg; simp_all)
    all_goals (rw [Bool.eq_iff_iff, beq_iff_eq, decide_eq_true_eq]; omega)
  · repeat' (first | (first | refine brT ?_ | refine brF ?_ | refine And.intro rfl ?_ | intro _) | (refine brL ?a (fun _ => ?_); case a => simp [h11]) | refine brI (fun _ => ?_) (fun _ => ?_))
    all_goals (refine tb ?_; clear hg; simp_all)


end Go.Proofs.Ytbofjpmighijhaa.E
