/- Contracts of functions of this seat's program. -/
import Derived.Test.YtcnmngbaappdpaaETy
import Derived.Test.YtcnmngbaappdpaaETm
namespace Go.Proofs.Ytcnmngbaappdpaa.E
set_option linter.unusedVariables false
def isV (n : Int) : Bool := decide (n ≥ 0) && decide (n ≤ 999)
theorem s_l03Val (n : Int) : Spec Try.prog 53 [.ro (T.int n)] [T.bool (isV n)] := by
  refine fn Try.func53 ?_
  refine brI (fun h => ?_) (fun h => ?_)
  · repeat (first | refine brT ?_ | refine brF ?_)
    show _ = _
    simp only [isV, h, Bool.true_and]; rfl
  · repeat (first | refine brT ?_ | refine brF ?_)
    show _ = _
    simp only [isV, h, Bool.false_and]; rfl
theorem s_isVal (n : Int) : Spec Try.prog 54 [.ro (T.int n)] [T.bool (isV n)] := by
  refine fn Try.func54 ?_
  refine brI (fun h => ?_) (fun h => ?_)
  · repeat (first | refine brT ?_ | refine brF ?_)
    show _ = _
    simp only [isV, h, Bool.true_and]; rfl
  · repeat (first | refine brT ?_ | refine brF ?_)
    show _ = _
    simp only [isV, h, Bool.false_and]; rfl

def setReg (x : Y_Gor) (r v : Int) : Y_Gor := if 0 ≤ r ∧ r < x.2.2.1.length ∧ isV v = true then (x.1, x.2.1, x.2.2.1.set r.toNat v, x.2.2.2.1, x.2.2.2.2) else x
theorem ok_setReg {x : Y_Gor} {r v : Int} (h : ok_Gor x) : ok_Gor (setReg x r v) := by
  unfold setReg
  split
  · exact ⟨by simpa using h.1, h.2⟩
  · exact h
theorem setReg_no {x : Y_Gor} {r v : Int} (h : ¬ (0 ≤ r ∧ r < x.2.2.1.length ∧ isV v = true)) : setReg x r v = x := if_neg h
theorem s_within (n a b : Int) : Spec Try.prog 51 [.ro (T.int n), .ro (T.int a), .ro (T.int b)] [T.bool (decide (n ≥ a) && decide (n < b))] := by
  refine fn Try.func51 ?_
  repeat' (first | (first | refine ⟨rfl, ?_⟩ | refine brT ?_ | refine brF ?_ | intro _) | refine brI (fun _ => ?_) (fun _ => ?_))
  all_goals (refine tb ?_; simp_all <;> omega)
theorem s_SetReg (x : Y_Gor) (r v : Int) (h : ok_Gor x) : Spec Try.prog 23 [.ro (t_Gor x), .ro (T.int r), .ro (T.int v)] [t_Gor (setReg x r v)] := by
  refine fn Try.func23 ?_
  repeat (first | refine ⟨rfl, ?_⟩ | refine brT ?_ | refine brF ?_ | intro _)
  refine ⟨_, s_l08Copy x h, ?_⟩
  repeat' (first | (first | refine ⟨rfl, ?_⟩ | refine brT ?_ | refine brF ?_ | intro _) | refine brI (fun _ => ?_) (fun _ => ?_))
  · refine ⟨_, s_l03Val v, ?_⟩
    repeat' (first | (first | refine ⟨rfl, ?_⟩ | refine brT ?_ | refine brF ?_ | intro _) | refine brI (fun _ => ?_) (fun _ => ?_))
    · rename_i h1 h2 q h3
      have h1 := of_decide_eq_true h1
      have h2 := of_decide_eq_true h2
      simp only [List.length_map] at h2
      refine ⟨h1, by simp; omega, ?_⟩
      repeat (first | refine ⟨rfl, ?_⟩ | refine brT ?_ | refine brF ?_ | intro _)
      have hlt : r.toNat < x.2.2.1.length := by omega
      refine ⟨T.int x.2.2.1[r.toNat], by simp [hlt], Nat.le_refl _, fun v' => ?_⟩
      repeat (first | refine ⟨rfl, ?_⟩ | refine brT ?_ | refine brF ?_ | intro _)
      have e : setReg x r v = (x.1, x.2.1, x.2.2.1.set r.toNat v, x.2.2.2.1, x.2.2.2.2) := if_pos ⟨h1, h2, h3⟩
      rw [e]
      unfold t_Gor
      simp only [List.map_set]
      rfl
    · rename_i h1 h2 q h3
      have h3 : isV v = false := h3
      rw [setReg_no (fun hh => absurd hh.2.2 (by simp [h3]))]
      rfl
  · rename_i h1 h2
    have h2 := of_decide_eq_false h2
    simp only [List.length_map] at h2
    rw [setReg_no (fun hh => h2 hh.2.1)]
    rfl
  · rename_i h1
    have h1 := of_decide_eq_false h1
    rw [setReg_no (fun hh => h1 hh.1)]
    rfl
theorem i_SetReg (x : Y_Gor) (r v : Int) (h : ok_Gor x) : Spec Try.prog 24 [.ro (t_Gor x), .ro (T.int r), .ro (T.int v)] [t_Gor (setReg x r v)] := by
  refine fn Try.func24 ?_
  repeat (first | refine ⟨rfl, ?_⟩ | refine brT ?_ | refine brF ?_ | intro _)
  refine ⟨_, i_copyGor x h, ?_⟩
  repeat (first | refine ⟨rfl, ?_⟩ | refine brT ?_ | refine brF ?_ | intro _)
  refine ⟨_, s_within r 0 _, ?_⟩
  repeat' (first | (first | refine ⟨rfl, ?_⟩ | refine brT ?_ | refine brF ?_ | intro _) | refine brI (fun _ => ?_) (fun _ => ?_))
  · refine ⟨_, s_isVal v, ?_⟩
    repeat' (first | (first | refine ⟨rfl, ?_⟩ | refine brT ?_ | refine brF ?_ | intro _) | refine brI (fun _ => ?_) (fun _ => ?_))
    · rename_i h1 q h3
      have h3 : isV v = true := h3
      simp only [List.length_map, Bool.and_eq_true, decide_eq_true_eq] at h1
      obtain ⟨h1, h2⟩ := h1
      refine ⟨h1, by simp; omega, ?_⟩
      repeat (first | refine ⟨rfl, ?_⟩ | refine brT ?_ | refine brF ?_ | intro _)
      have hlt : r.toNat < x.2.2.1.length := by omega
      refine ⟨T.int x.2.2.1[r.toNat], by simp [hlt], Nat.le_refl _, fun v' => ?_⟩
      repeat (first | refine ⟨rfl, ?_⟩ | refine brT ?_ | refine brF ?_ | intro _)
      have e : setReg x r v = (x.1, x.2.1, x.2.2.1.set r.toNat v, x.2.2.2.1, x.2.2.2.2) := if_pos ⟨h1, h2, h3⟩
      rw [e]
      unfold t_Gor
      simp only [List.map_set]
      rfl
    · rename_i h1 q h3
      have h3 : isV v = false := h3
      rw [setReg_no (fun hh => absurd hh.2.2 (by simp [h3]))]
      rfl
  · rename_i h1
    simp only [List.length_map, Bool.and_eq_false_iff, decide_eq_false_iff_not] at h1
    rw [setReg_no (fun hh => by rcases h1 with h1 | h1 <;> omega)]
    rfl
def over (x : Y_Gor) (why : Int) : Y_Gor := if why = 0 then (x.1, x.2.1, x.2.2.1, 3, x.2.2.2.2 ++ [(9, 0, 0, false)]) else (x.1, x.2.1, x.2.2.1, 4, x.2.2.2.2 ++ [(10, 0, why, false)])
theorem ok_over {x : Y_Gor} {why : Int} (h : ok_Gor x) (h2 : x.2.2.2.2.length + 1 ≤ bound) : ok_Gor (over x why) := by
  unfold over
  split <;> exact ⟨h.1, by simpa using h2, fun _ _ => trivial⟩
theorem s_Over (x : Y_Gor) (y : Int) (h : ok_Gor x) (h2 : x.2.2.2.2.length + 1 ≤ bound) : Spec Try.prog 25 [.ro (t_Gor x), .ro (T.int y)] [t_Gor (over x y)] := by
  refine fn Try.func25 ?_
  repeat (first | refine ⟨rfl, ?_⟩ | refine brT ?_ | refine brF ?_ | intro _)
  refine ⟨_, s_l08Copy x h, ?_⟩
  repeat' (first | (first | refine ⟨rfl, ?_⟩ | refine brT ?_ | refine brF ?_ | intro _) | refine brI (fun _ => ?_) (fun _ => ?_))
  · rename_i h1
    have h1 : y = 0 := by simpa using h1
    refine ⟨_, s_Tell (x.1, x.2.1, x.2.2.1, 3, x.2.2.2.2) (9, 0, 0, false) h h2, ?_⟩
    repeat (first | refine ⟨rfl, ?_⟩ | refine brT ?_ | refine brF ?_ | intro _)
    have e : over x y = tell (x.1, x.2.1, x.2.2.1, 3, x.2.2.2.2) (9, 0, 0, false) := if_pos h1
    rw [e]
    rfl
  · rename_i h1
    have h1 : y ≠ 0 := by simpa using h1
    refine ⟨_, s_Tell (x.1, x.2.1, x.2.2.1, 4, x.2.2.2.2) (10, 0, y, false) h h2, ?_⟩
    repeat (first | refine ⟨rfl, ?_⟩ | refine brT ?_ | refine brF ?_ | intro _)
    have e : over x y = tell (x.1, x.2.1, x.2.2.1, 4, x.2.2.2.2) (10, 0, y, false) := if_neg h1
    rw [e]
    rfl
theorem i_Over (x : Y_Gor) (y : Int) (h : ok_Gor x) (h2 : x.2.2.2.2.length + 1 ≤ bound) : Spec Try.prog 26 [.ro (t_Gor x), .ro (T.int y)] [t_Gor (over x y)] := by
  refine fn Try.func26 ?_
  repeat' (first | (first | refine ⟨rfl, ?_⟩ | refine brT ?_ | refine brF ?_ | intro _) | refine brI (fun _ => ?_) (fun _ => ?_))
  · rename_i h1
    have h1 : y = 0 := by simpa using h1
    refine ⟨_, i_Tell (x.1, x.2.1, x.2.2.1, 3, x.2.2.2.2) (9, 0, 0, false) h h2, ?_⟩
    repeat (first | refine ⟨rfl, ?_⟩ | refine brT ?_ | refine brF ?_ | intro _)
    have e : over x y = tell (x.1, x.2.1, x.2.2.1, 3, x.2.2.2.2) (9, 0, 0, false) := if_pos h1
    rw [e]
    rfl
  · rename_i h1
    have h1 : y ≠ 0 := by simpa using h1
    refine ⟨_, i_Tell (x.1, x.2.1, x.2.2.1, 4, x.2.2.2.2) (10, 0, y, false) h h2, ?_⟩
    repeat (first | refine ⟨rfl, ?_⟩ | refine brT ?_ | refine brF ?_ | intro _)
    have e : over x y = tell (x.1, x.2.1, x.2.2.1, 4, x.2.2.2.2) (10, 0, y, false) := if_neg h1
    rw [e]
    rfl


end Go.Proofs.Ytcnmngbaappdpaa.E
