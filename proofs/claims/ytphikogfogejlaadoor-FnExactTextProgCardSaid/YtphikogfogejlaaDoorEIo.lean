/- Contracts of functions of this seat's program. -/
import Derived.Test.YtphikogfogejlaaDoorETy
import Derived.Test.YtphikogfogejlaaDoorEP
namespace Go.Proofs.YtphikogfogejlaaDoor.E
set_option linter.unusedVariables false
set_option linter.unusedSimpArgs false
set_option maxHeartbeats 1600000
def isV (n : Int) : Bool := decide (n ≥ 0) && decide (n ≤ 999)
theorem s_l03Val (n : Int) : Spec Tryd.prog 84 [.ro (T.int n)] [T.bool (isV n)] := by
  refine fn Tryd.func84 ?_
  refine brI (fun h => ?_) (fun h => ?_)
  · repeat (first | refine brT ?_ | refine brF ?_)
    show _ = _
    simp only [isV, h, Bool.true_and]; rfl
  · repeat (first | refine brT ?_ | refine brF ?_)
    show _ = _
    simp only [isV, h, Bool.false_and]; rfl
theorem s_isVal (n : Int) : Spec Tryd.prog 85 [.ro (T.int n)] [T.bool (isV n)] := by
  refine fn Tryd.func85 ?_
  refine brI (fun h => ?_) (fun h => ?_)
  · repeat (first | refine brT ?_ | refine brF ?_)
    show _ = _
    simp only [isV, h, Bool.true_and]; rfl
  · repeat (first | refine brT ?_ | refine brF ?_)
    show _ = _
    simp only [isV, h, Bool.false_and]; rfl

def isR (n : Int) : Bool := decide (n ≥ 0) && decide (n < 6)
def inR (n lo hi : Int) : Bool := decide (n ≥ lo) && decide (n ≤ hi)
def within (n lo hi : Int) : Bool := decide (n ≥ lo) && decide (n < hi)
def chanR (p : Y_Prog) (ch : Int) : Bool := within ch (-1) p.1.length
theorem s_within (n a b : Int) : Spec Tryd.prog 96 [.ro (T.int n), .ro (T.int a), .ro (T.int b)] [T.bool (within n a b)] := by
  refine fn Tryd.func96 ?_
  repeat' (first | (first | refine brT ?_ | refine brF ?_ | refine And.intro rfl ?_ | refine And.intro trivial ?_ | intro _) | refine brI (fun _ => ?_) (fun _ => ?_))
  all_goals (refine tb ?_; simp_all [within] <;> omega)
theorem s_l04In (n a b : Int) : Spec Tryd.prog 106 [.ro (T.int n), .ro (T.int a), .ro (T.int b)] [T.bool (inR n a b)] := by
  refine fn Tryd.func106 ?_
  repeat' (first | (first | refine brT ?_ | refine brF ?_ | refine And.intro rfl ?_ | refine And.intro trivial ?_ | intro _) | refine brI (fun _ => ?_) (fun _ => ?_))
  all_goals (refine tb ?_; simp_all [inR] <;> omega)
theorem s_l03Reg (n : Int) : Spec Tryd.prog 92 [.ro (T.int n)] [T.bool (isR n)] := by
  refine fn Tryd.func92 ?_
  repeat' (first | (first | refine brT ?_ | refine brF ?_ | refine And.intro rfl ?_ | refine And.intro trivial ?_ | intro _) | refine brI (fun _ => ?_) (fun _ => ?_))
  all_goals (refine tb ?_; simp_all [isR] <;> omega)
theorem i_isReg (n : Int) : Spec Tryd.prog 95 [.ro (T.int n)] [T.bool (isR n)] := by
  refine fn Tryd.func95 ?_
  repeat (first | refine brT ?_ | refine brF ?_ | refine And.intro rfl ?_ | refine And.intro trivial ?_ | intro _)
  refine ⟨_, s_within n 0 6, ?_⟩
  repeat (first | refine brT ?_ | refine brF ?_ | refine And.intro rfl ?_ | refine And.intro trivial ?_ | intro _)
  rfl
theorem in_within {n a : Int} {m : Nat} (h : m ≤ 16777216) : inR n a (w64 (m - 1)) = within n a m := by
  rw [w64_id (by omega) (by omega)]
  unfold inR within
  congr 1
  rw [decide_eq_decide]
  omega
theorem s_l04Chan (p : Y_Prog) (n : Int) (h : p.1.length ≤ bound) : Spec Tryd.prog 91 [.ro (t_Prog p), .ro (T.int n)] [T.bool (chanR p n)] := by
  refine fn Tryd.func91 ?_
  repeat (first | refine brT ?_ | refine brF ?_ | refine And.intro rfl ?_ | refine And.intro trivial ?_ | intro _)
  refine ⟨_, s_l04In _ _ _, ?_⟩
  repeat (first | refine brT ?_ | refine brF ?_ | refine And.intro rfl ?_ | refine And.intro trivial ?_ | intro _)
  refine tb ?_
  have := in_within (n := n) (a := -1) (m := p.1.length) h
  simpa [chanR] using this
theorem i_isChan (p : Y_Prog) (n : Int) : Spec Tryd.prog 94 [.ro (t_Prog p), .ro (T.int n)] [T.bool (chanR p n)] := by
  refine fn Tryd.func94 ?_
  repeat (first | refine brT ?_ | refine brF ?_ | refine And.intro rfl ?_ | refine And.intro trivial ?_ | intro _)
  refine ⟨_, s_within _ _ _, ?_⟩
  repeat (first | refine brT ?_ | refine brF ?_ | refine And.intro rfl ?_ | refine And.intro trivial ?_ | intro _)
  refine tb ?_
  simp [chanR]
theorem op_cases (op : Int) : op = 1 ∨ op = 2 ∨ op = 3 ∨ op = 4 ∨ op = 5 ∨ op = 6 ∨ op = 7 ∨ op = 8 ∨ op = 9 ∨ op = 10 ∨ op = 11 ∨ op = 12 ∨ op = 13 ∨ op = 14 ∨ op = 15 ∨ (op ≠ 1 ∧ op ≠ 2 ∧ op ≠ 3 ∧ op ≠ 4 ∧ op ≠ 5 ∧ op ≠ 6 ∧ op ≠ 7 ∧ op ≠ 8 ∧ op ≠ 9 ∧ op ≠ 10 ∧ op ≠ 11 ∧ op ≠ 12 ∧ op ≠ 13 ∧ op ≠ 14 ∧ op ≠ 15) := by omega
def fieldsOf (op : Int) : Int :=
  if op = 1 then 0 else if op = 6 ∨ op = 10 ∨ op = 11 ∨ op = 12 ∨ op = 13 ∨ op = 15 then 1 else if op = 2 ∨ op = 7 ∨ op = 8 ∨ op = 14 then 2 else if op = 3 ∨ op = 4 ∨ op = 5 ∨ op = 9 then 3 else -1
theorem s_Fields (op k : Int) (h : fieldsOf op = k) : Spec Tryd.prog 71 [.ro (T.int op)] [T.int k] := by
  refine fn Tryd.func71 ?_
  subst h
  rcases op_cases op with rfl | rfl | rfl | rfl | rfl | rfl | rfl | rfl | rfl | rfl | rfl | rfl | rfl | rfl | rfl | ⟨h1, h2, h3, h4, h5, h6, h7, h8, h9, h10, h11, h12, h13, h14, h15⟩
  rotate_right
  · repeat (first | (first | refine brT ?_ | refine brF ?_ | refine And.intro rfl ?_ | refine And.intro trivial ?_ | intro _) | (refine brL ?a (fun _ => ?_); case a => simp [h1, h2, h3, h4, h5, h6, h7, h8, h9, h10, h11, h12, h13, h14, h15]))
    refine ti ?_
    simp [fieldsOf, h1, h2, h3, h4, h5, h6, h7, h8, h9, h10, h11, h12, h13, h14, h15]
  all_goals
    repeat (first | refine brT ?_ | refine brF ?_ | refine And.intro rfl ?_ | refine And.intro trivial ?_ | intro _)
    exact rfl
theorem i_Fields (op k : Int) (h : fieldsOf op = k) : Spec Tryd.prog 36 [.ro (T.int op)] [T.int k] := by
  refine fn Tryd.func36 ?_
  subst h
  rcases op_cases op with rfl | rfl | rfl | rfl | rfl | rfl | rfl | rfl | rfl | rfl | rfl | rfl | rfl | rfl | rfl | ⟨h1, h2, h3, h4, h5, h6, h7, h8, h9, h10, h11, h12, h13, h14, h15⟩
  rotate_right
  · repeat (first | (first | refine brT ?_ | refine brF ?_ | refine And.intro rfl ?_ | refine And.intro trivial ?_ | intro _) | (refine brL ?a (fun _ => ?_); case a => simp [h1, h2, h3, h4, h5, h6, h7, h8, h9, h10, h11, h12, h13, h14, h15]))
    refine ti ?_
    simp [fieldsOf, h1, h2, h3, h4, h5, h6, h7, h8, h9, h10, h11, h12, h13, h14, h15]
  all_goals
    repeat (first | refine brT ?_ | refine brF ?_ | refine And.intro rfl ?_ | refine And.intro trivial ?_ | intro _)
    exact rfl
def restOk (i : Y_Instr) (k : Int) : Bool := (decide (k > 0) || i.2.1 == 0) && (decide (k > 1) || i.2.2.1 == 0) && (decide (k > 2) || i.2.2.2 == 0)
theorem s_l04Rest (i : Y_Instr) (k : Int) : Spec Tryd.prog 72 [.ro (t_Instr i), .ro (T.int k)] [T.bool (restOk i k)] := by
  refine fn Tryd.func72 ?_
  repeat' (first | (first | refine brT ?_ | refine brF ?_ | refine And.intro rfl ?_ | refine And.intro trivial ?_ | intro _) | refine brI (fun _ => ?_) (fun _ => ?_))
  all_goals (refine tb ?_; simp_all [restOk]; try omega)


end Go.Proofs.YtphikogfogejlaaDoor.E
