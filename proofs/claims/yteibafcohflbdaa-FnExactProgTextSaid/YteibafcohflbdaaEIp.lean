/- Contracts of functions of this seat's program. -/
import Derived.Test.YteibafcohflbdaaETy
import Derived.Test.YteibafcohflbdaaEIo
namespace Go.Proofs.Yteibafcohflbdaa.E
set_option linter.unusedVariables false
set_option linter.unusedSimpArgs false
set_option maxHeartbeats 1600000
def instrOk (p : Y_Prog) (n : Int) (i : Y_Instr) : Bool :=
  let A := i.2.1
  let B := i.2.2.1
  let C := i.2.2.2
  if i.1 = 1 then A == 0 && B == 0 && C == 0
  else if i.1 = 2 then C == 0 && (isR A && isV B)
  else if i.1 = 3 then isR A && isR B && isR C
  else if i.1 = 4 then isR A && isR B && isR C
  else if i.1 = 5 then isR A && isR B && isR C
  else if i.1 = 6 then B == 0 && C == 0 && within A 0 n
  else if i.1 = 7 then C == 0 && (isR A && within B 0 n)
  else if i.1 = 8 then C == 0 && (chanR p A && isR B)
  else if i.1 = 9 then chanR p A && isR B && isR C
  else if i.1 = 10 then B == 0 && C == 0 && chanR p A
  else if i.1 = 11 then B == 0 && C == 0 && within A 0 p.2.2.1.length
  else if i.1 = 12 then B == 0 && C == 0 && within A 0 p.2.1
  else if i.1 = 13 then B == 0 && C == 0 && within A 0 p.2.1
  else if i.1 = 14 then C == 0 && (within A 0 p.2.2.2.length && isR B)
  else if i.1 = 15 then B == 0 && C == 0 && isR A
  else false
theorem s_InstrOk (p : Y_Prog) (n : Int) (i : Y_Instr) (h1 : p.1.length ≤ bound) (h2 : p.2.2.1.length ≤ bound) (h3 : p.2.2.2.length ≤ bound) : Spec Try.prog 68 [.ro (t_Prog p), .ro (T.int n), .ro (t_Instr i)] [T.bool (instrOk p n i)] := by
  obtain ⟨op, A, B, C⟩ := i
  have w1 := fun n a => in_within (n := n) (a := a) (m := p.2.2.1.length) h2
  have w2 := fun n a => in_within (n := n) (a := a) (m := p.2.2.2.length) h3
  refine fn Try.func68 ?_
  rcases op_cases op with rfl | rfl | rfl | rfl | rfl | rfl | rfl | rfl | rfl | rfl | rfl | rfl | rfl | rfl | rfl | ⟨h1, h2, h3, h4, h5, h6, h7, h8, h9, h10, h11, h12, h13, h14, h15⟩
  rotate_right
  · have hf : fieldsOf op = -1 := by simp [fieldsOf, h1, h2, h3, h4, h5, h6, h7, h8, h9, h10, h11, h12, h13, h14, h15]
    repeat (first | refine brT ?_ | refine brF ?_ | refine And.intro rfl ?_ | refine And.intro trivial ?_ | intro _)
    refine ⟨_, s_Fields op (-1) hf, ?_⟩
    repeat (first | refine brT ?_ | refine brF ?_ | refine And.intro rfl ?_ | refine And.intro trivial ?_ | intro _)
    refine tb ?_
    simp [instrOk, h1, h2, h3, h4, h5, h6, h7, h8, h9, h10, h11, h12, h13, h14, h15]
  all_goals
    repeat (first | refine brT ?_ | refine brF ?_ | refine And.intro rfl ?_ | refine And.intro trivial ?_ | intro _)
    refine ⟨_, s_Fields _ _ rfl, ?_⟩
    repeat (first | refine brT ?_ | refine brF ?_ | refine And.intro rfl ?_ | refine And.intro trivial ?_ | intro _)
    refine ⟨_, s_l04Rest _ _, ?_⟩
    repeat' (first | (first | refine brT ?_ | refine brF ?_ | refine And.intro rfl ?_ | refine And.intro trivial ?_ | intro _) | refine ⟨_, s_l03Reg _, ?_⟩ | refine ⟨_, s_l03Val _, ?_⟩ | refine ⟨_, s_l04Chan p _ h1, ?_⟩ | refine ⟨_, s_l04In _ _ _, ?_⟩ | refine brI (fun _ => ?_) (fun _ => ?_))
    all_goals (refine tb ?_; simp_all [instrOk, restOk, within, fieldsOf] <;> omega)
theorem i_InstrOk (p : Y_Prog) (n : Int) (i : Y_Instr) : Spec Try.prog 60 [.ro (t_Prog p), .ro (T.int n), .ro (t_Instr i)] [T.bool (instrOk p n i)] := by
  obtain ⟨op, A, B, C⟩ := i
  refine fn Try.func60 ?_
  rcases op_cases op with rfl | rfl | rfl | rfl | rfl | rfl | rfl | rfl | rfl | rfl | rfl | rfl | rfl | rfl | rfl | ⟨h1, h2, h3, h4, h5, h6, h7, h8, h9, h10, h11, h12, h13, h14, h15⟩
  rotate_right
  · have hf : fieldsOf op = -1 := by simp [fieldsOf, h1, h2, h3, h4, h5, h6, h7, h8, h9, h10, h11, h12, h13, h14, h15]
    repeat (first | refine brT ?_ | refine brF ?_ | refine And.intro rfl ?_ | refine And.intro trivial ?_ | intro _)
    refine ⟨_, i_Fields op (-1) hf, ?_⟩
    repeat (first | (first | refine brT ?_ | refine brF ?_ | refine And.intro rfl ?_ | refine And.intro trivial ?_ | intro _) | (refine brL ?a (fun _ => ?_); case a => simp [h1, h2, h3, h4, h5, h6, h7, h8, h9, h10, h11, h12, h13, h14, h15]))
    refine tb ?_
    simp [instrOk, h1, h2, h3, h4, h5, h6, h7, h8, h9, h10, h11, h12, h13, h14, h15]
  all_goals
    repeat (first | refine brT ?_ | refine brF ?_ | refine And.intro rfl ?_ | refine And.intro trivial ?_ | intro _)
    refine ⟨_, i_Fields _ _ rfl, ?_⟩
    repeat' (first | (first | refine brT ?_ | refine brF ?_ | refine And.intro rfl ?_ | refine And.intro trivial ?_ | intro _) | refine ⟨_, i_isReg _, ?_⟩ | refine ⟨_, s_isVal _, ?_⟩ | refine ⟨_, i_isChan p _, ?_⟩ | refine ⟨_, s_within _ _ _, ?_⟩ | refine brI (fun _ => ?_) (fun _ => ?_))
    all_goals (refine tb ?_; simp_all [instrOk, within, fieldsOf] <;> omega)


end Go.Proofs.Yteibafcohflbdaa.E
