/- Contracts of functions of this seat's program. -/
import Derived.Test.YteibafcohflbdaaETy
import Derived.Test.YteibafcohflbdaaEIp
namespace Go.Proofs.Yteibafcohflbdaa.E
set_option linter.unusedVariables false
set_option linter.unusedSimpArgs false
set_option maxHeartbeats 1600000
def caseOk (p : Y_Prog) (n : Int) (x : Y_Case) : Bool := chanR p x.2.1 && isR x.2.2.1 && isR x.2.2.2.1 && !(x.1 && x.2.2.2.1 != 0) && within x.2.2.2.2 0 n
def dup (l : List Y_Case) (c : Int) : Bool := decide (0 ≤ c) && l.any (fun y => c == y.2.1)
def goodK (p : Y_Prog) (n : Int) (cs : List Y_Case) (k : Nat) : Bool := match cs[k]? with
  | some x => caseOk p n x && !dup (cs.take k) x.2.1
  | none => true
def selOk (p : Y_Prog) (n : Int) (s : Y_Select) : Bool := (List.range s.1.length).all (goodK p n s.1) && within s.2 (-1) n
theorem good_at {p : Y_Prog} {n : Int} {cs : List Y_Case} {k : Nat} (h : k < cs.length) : goodK p n cs k = (caseOk p n cs[k] && !dup (cs.take k) cs[k].2.1) := by simp [goodK, h]
theorem sel_no {p : Y_Prog} {n : Int} {s : Y_Select} {k : Nat} (h : k < s.1.length) (hk : goodK p n s.1 k = false) : selOk p n s = false := by
  have : (List.range s.1.length).all (goodK p n s.1) = false := List.all_eq_false.2 ⟨k, List.mem_range.2 h, by simp [hk]⟩
  simp [selOk, this]
theorem sel_yes {p : Y_Prog} {n : Int} {s : Y_Select} (h : ∀ k, k < s.1.length → goodK p n s.1 k = true) : selOk p n s = within s.2 (-1) n := by
  have : (List.range s.1.length).all (goodK p n s.1) = true := List.all_eq_true.2 (fun k hk => h k (List.mem_range.1 hk))
  simp [selOk, this]
theorem all_up {f : Nat → Bool} {i : Nat} (h : ∀ j, j < i → f j = true) (hi : f i = true) : ∀ j, j < i + 1 → f j = true := fun j hj => by
  by_cases e : j = i
  · subst e; exact hi
  · exact h j (by omega)
theorem dup_no {l : List Y_Case} {c : Int} (h : ∀ j (hj : j < l.length), ¬ (0 ≤ c ∧ c = l[j].2.1)) : dup l c = false := by
  cases hd : dup l c with
  | false => rfl
  | true =>
    simp only [dup, Bool.and_eq_true, decide_eq_true_eq, List.any_eq_true, beq_iff_eq] at hd
    obtain ⟨h0, y, hy, e⟩ := hd
    obtain ⟨j, hj, rfl⟩ := List.mem_iff_getElem.1 hy
    exact absurd ⟨h0, e⟩ (h j hj)
theorem dup_yes {l : List Y_Case} {c : Int} {j : Nat} (hj : j < l.length) (h0 : 0 ≤ c) (h : c = l[j].2.1) : dup l c = true := by
  simp only [dup, Bool.and_eq_true, decide_eq_true_eq, List.any_eq_true, beq_iff_eq]
  exact ⟨h0, l[j], List.getElem_mem hj, h⟩
theorem s_SelectOk (p : Y_Prog) (n : Int) (s : Y_Select) (h1 : p.1.length ≤ bound) (h2 : s.1.length ≤ bound) : Spec Try.prog 55 [.ro (t_Prog p), .ro (T.int n), .ro (t_Select s)] [T.bool (selOk p n s)] := by
  have hl : s.1.length ≤ 16777216 := h2
  refine fn Try.func55 ?_
  intro q3 q5
  repeat (first | refine brT ?_ | refine brF ?_ | refine And.intro rfl ?_ | refine And.intro trivial ?_ | intro _)
  refine loopR (fun i => ⟨86, [(1, .int n), (3, .c (.bx 4000 q3 0)), (5, .c (.bx 6000 q5 0)), (12, .c (.ro 5 (s.1.map t_Case))), (13, .int s.1.length), (14, .int i)], [(4000, .box q3 (t_Prog p).a2.cells), (6000, .box q5 (t_Select s).a2.cells)]⟩) s.1.length (fun i => ∀ j, j < i → goodK p n s.1 j = true) (fun j h => absurd h (by omega)) (wk rfl ⟨rfl, rfl, rfl, rfl, lenm, rfl, trivial⟩ ⟨rfl, rfl, trivial⟩) ?_
  intro i hi hI
  refine brD (fun h => ?_) (fun h => ?_)
  · have h : i < s.1.length := by simpa using h
    have hg := good_at (p := p) (n := n) h
    have hno := @sel_no p n s _ h
    refine ⟨nn i, t_Case s.1[i], atm h, ?_⟩
    intro q9
    repeat (first | refine brT ?_ | refine brF ?_ | refine And.intro rfl ?_ | refine And.intro trivial ?_ | intro _)
    refine ⟨_, s_l04Chan p _ h1, ?_⟩
    generalize s.1[i] = x at hg
    repeat' (first | (first | refine brT ?_ | refine brF ?_ | refine And.intro rfl ?_ | refine And.intro trivial ?_ | intro _) | refine ⟨_, s_l03Reg _, ?_⟩ | refine brI (fun _ => ?_) (fun _ => ?_))
    all_goals try (refine tbf (hno ?_); rw [hg]; clear hI hno hg; simp_all [caseOk, within] <;> omega)
    all_goals have hc : caseOk p n x = true := (by clear hI hno hg; simp_all [caseOk, within] <;> omega)
    all_goals (refine And.intro (nn i) (And.intro (Nat.zero_le _) (And.intro (by simp; omega) ?_)))
    all_goals repeat (first | refine brT ?_ | refine brF ?_ | refine And.intro rfl ?_ | refine And.intro trivial ?_ | intro _)
    all_goals have e1 : ((s.1.map t_Case).take ((i : Int)).toNat).drop 0 = (s.1.take i).map t_Case := (by simp [List.map_take])
    all_goals have e2 : (s.1.take i).length = i := (by simp; omega)
    all_goals generalize s.1.take i = l at e1 e2 hg
    all_goals refine loopR (fun j => ⟨86, [(1, .int n), (3, .c (.bx 4000 q3 0)), (5, .c (.bx 6000 q5 0)), (8, .c (.bx 9000 q9 0)), (12, .c (.ro 5 (s.1.map t_Case))), (13, .int s.1.length), (14, .int i), (59, .c (.ro 5 (l.map t_Case))), (60, .int l.length), (61, .int j)], [(4000, .box q3 (t_Prog p).a2.cells), (6000, .box q5 (t_Select s).a2.cells), (9000, .box q9 (t_Case x).a2.cells)]⟩) l.length (fun j => ∀ k (hk : k < l.length), k < j → ¬ (0 ≤ x.2.1 ∧ x.2.1 = l[k].2.1)) (fun j _ h => absurd h (by omega)) (wk rfl ⟨rfl, rfl, rfl, rfl, rfl, rfl, rfl, (by rw [← e1]; rfl), gi rfl (by have := congrArg List.length e1; simp at this ⊢; omega), rfl, trivial⟩ ⟨rfl, rfl, rfl, trivial⟩) ?_
    all_goals intro j hj hJ
    all_goals refine brD (fun h3 => ?_) (fun h3 => ?_)
    all_goals try (
      have h3 : j < l.length := by simpa using h3
      refine ⟨nn j, t_Case l[j], atm h3, ?_⟩
      repeat' (first | (first | refine brT ?_ | refine brF ?_ | refine And.intro rfl ?_ | refine And.intro trivial ?_ | intro _) | refine brI (fun _ => ?_) (fun _ => ?_))
      · rename_i h4 h5
        have h4 : 0 ≤ x.2.1 := by simpa using h4
        have h5 : x.2.1 = l[j].2.1 := by simpa using h5
        exact tbf (hno (by rw [hg, dup_yes h3 h4 h5]; simp))
      · rename_i h4 h5
        have h5 : ¬ x.2.1 = l[j].2.1 := by simpa using h5
        refine nxtR h3 (fun k hk hkj => ?_) (wk rfl ⟨rfl, rfl, rfl, rfl, rfl, rfl, rfl, rfl, rfl, up1 h3 (by omega), trivial⟩ ⟨rfl, rfl, rfl, trivial⟩)
        by_cases e : k = j
        · subst e; exact fun hh => h5 hh.2
        · exact hJ k hk (by omega)
      · rename_i h4
        have h4 : ¬ 0 ≤ x.2.1 := by simpa using h4
        exact nxtR h3 (fun k hk hkj hh => h4 hh.1) (wk rfl ⟨rfl, rfl, rfl, rfl, rfl, rfl, rfl, rfl, rfl, up1 h3 (by omega), trivial⟩ ⟨rfl, rfl, rfl, trivial⟩))
    all_goals (
      have h3 : ¬ j < l.length := by simpa using h3
      exact nxtR h (all_up hI (by rw [hg, hc, dup_no (fun k hk => hJ k hk (by omega))]; rfl)) (wk rfl ⟨rfl, rfl, rfl, rfl, rfl, up1 h hl, trivial⟩ ⟨rfl, rfl, trivial⟩))
  · have : i = s.1.length := by simp at h; omega
    subst this
    repeat' (first | (first | refine brT ?_ | refine brF ?_ | refine And.intro rfl ?_ | refine And.intro trivial ?_ | intro _) | refine brI (fun _ => ?_) (fun _ => ?_))
    all_goals (refine tb ?_; rw [sel_yes hI]; clear hI; simp_all [within] <;> omega)


end Go.Proofs.Yteibafcohflbdaa.E
