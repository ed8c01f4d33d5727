/- Contracts of functions of this seat's program. -/
import Derived.Test.YtadpancnhinlbaaETy
import Derived.Test.YtadpancnhinlbaaERr
namespace Go.Proofs.Ytadpancnhinlbaa.E
set_option linter.unusedVariables false
set_option linter.unusedSimpArgs false
set_option maxHeartbeats 1600000
/-! The drawn channel: in order, and small. -/
def makeC (l : List Int) : Y_Chan := (drawC l (0, hsB l (min l.length 4000))).2
theorem s_MakeChan (l : List Int) (hl : l.length ≤ bound) : Spec Try.prog 12 [.ro (.sl 1 (l.map T.u8))] [t_Chan (makeC l)] := by
  have sn := s_l01New l hl
  have sd := s_l06Draw l hl (0, hsB l (min l.length 4000)) (Int.le_refl _)
  refine fn Try.func12 ?_
  repeat (first | refine brT ?_ | refine brF ?_ | refine And.intro rfl ?_ | refine And.intro trivial ?_ | intro _)
  refine ⟨_, sn, ?_⟩
  repeat (first | refine brT ?_ | refine brF ?_ | refine And.intro rfl ?_ | refine And.intro trivial ?_ | intro _)
  refine ⟨_, _, sd, fun q => ?_⟩
  repeat (first | refine brT ?_ | refine brF ?_ | refine And.intro rfl ?_ | refine And.intro trivial ?_ | intro _)
  exact rfl
theorem drawI_val (l : List Int) (hl : l.length ≤ bound) (c : Int × Int) (h : 0 ≤ c.1) : ∀ k : Nat, ((drawI l 20 k c).2.all isV) = true
  | 0 => rfl
  | k + 1 => by
    have ih := drawI_val l hl c h k
    have a := belowC_in l hl _ (drawI_in l hl 20 c h k).1 20
    have b := a.2.2 (by decide)
    have b0 := a.2.1
    show ((drawI l 20 k c).2 ++ [(belowC l (drawI l 20 k c).1 20).2]).all isV = true
    rw [List.all_append, ih]
    simp only [List.all_cons, List.all_nil, isV, Bool.and_true, Bool.true_and, Bool.and_eq_true, decide_eq_true_eq]
    omega
theorem drawW_val (l : List Int) (hl : l.length ≤ bound) (c : Int × Int) (h : 0 ≤ c.1) : ∀ k : Nat, ((drawW l k c).2.all (wOkP true)) = true
  | 0 => rfl
  | k + 1 => by
    have ih := drawW_val l hl c h k
    have i0 := (drawW_in l hl c h k).1
    have a := belowC_in l hl _ i0 4
    have b := belowC_in l hl _ a.1 3
    have d := belowC_in l hl _ b.1 20
    have a1 := a.2.1
    have b1 := b.2.1
    have b2 := b.2.2 (by decide)
    have d1 := d.2.1
    have d2 := d.2.2 (by decide)
    show ((drawW l k c).2 ++ [((belowC l (drawW l k c).1 4).2, w64 ((belowC l (belowC l (drawW l k c).1 4).1 3).2 - 1), (belowC l (belowC l (belowC l (drawW l k c).1 4).1 3).1 20).2)]).all (wOkP true) = true
    rw [List.all_append, ih]
    simp only [List.all_cons, List.all_nil, wOkP, wOk, isV, Bool.and_true, Bool.true_and, Bool.true_or, Bool.and_eq_true, decide_eq_true_eq]
    rw [w64_id (by omega) (by omega)]
    omega
theorem drawV_val (l : List Int) (hl : l.length ≤ bound) (c : Int × Int) (h : 0 ≤ c.1) : ∀ k : Nat, ((drawV l k c).2.all (wOkP false)) = true
  | 0 => rfl
  | k + 1 => by
    have ih := drawV_val l hl c h k
    have i0 := (drawV_in l hl c h k).1
    have a := belowC_in l hl _ i0 4
    have b := belowC_in l hl _ a.1 3
    have a1 := a.2.1
    have b1 := b.2.1
    have b2 := b.2.2 (by decide)
    show ((drawV l k c).2 ++ [((belowC l (drawV l k c).1 4).2, w64 ((belowC l (belowC l (drawV l k c).1 4).1 3).2 - 1), (0 : Int))]).all (wOkP false) = true
    rw [List.all_append, ih]
    have e0 : isV 0 = true := rfl
    simp only [List.all_cons, List.all_nil, wOkP, wOk, e0, Bool.and_true, Bool.true_and, Bool.and_eq_true, decide_eq_true_eq, Bool.false_or]
    rw [w64_id (by omega) (by omega)]
    refine ⟨⟨by omega, by omega⟩, rfl⟩
theorem makeC_in (l : List Int) (hl : l.length ≤ bound) : chOk (makeC l).1 (makeC l).2.1 (makeC l).2.2.1 (makeC l).2.2.2.1 (makeC l).2.2.2.2 = true ∧ (makeC l).2.1.length ≤ 8 ∧ (makeC l).2.2.1.length ≤ 8 ∧ (makeC l).2.2.2.1.length ≤ 8 := by
  unfold makeC drawC
  generalize hc : ((0 : Int), hsB l (min l.length 4000)) = c
  have h : 0 ≤ c.1 := by rw [← hc]; exact Int.le_refl _
  dsimp only
  have i1 := belowC_in l hl c h 4
  generalize belowC l c 4 = a1 at *
  have i2 := belowC_in l hl _ i1.1 4
  generalize belowC l a1.1 4 = a2 at *
  have i3 := belowC_in l hl _ i2.1 (w64 (a1.2 + 1))
  generalize belowC l a2.1 (w64 (a1.2 + 1)) = a3 at *
  have m1 := i1.2.2 (by decide)
  have n1 := i1.2.1
  have m2 := i2.2.2 (by decide)
  have n2 := i2.2.1
  have m3 := i3.2.2
  have n3 := i3.2.1
  rw [w64_id (by omega) (by omega)] at m3
  have m3 := m3 (by omega)
  have b1 := drawI_in l hl 20 _ i3.1 a3.2.toNat
  have v1 := drawI_val l hl _ i3.1 a3.2.toNat
  generalize drawI l 20 a3.2.toNat a3.1 = d1 at *
  split
  · have b2 := drawI_in l hl 20 _ b1.1 (a1.2 - a3.2).toNat
    have v2 := drawI_val l hl _ b1.1 (a1.2 - a3.2).toNat
    generalize drawI l 20 (a1.2 - a3.2).toNat d1.1 = d2 at *
    have i4 := belowC_in l hl _ b2.1 4
    generalize belowC l d2.1 4 = s0 at *
    have m4 := i4.2.2 (by decide)
    have n4 := i4.2.1
    have b3 := drawW_in l hl _ i4.1 s0.2.toNat
    have v3 := drawW_val l hl _ i4.1 s0.2.toNat
    generalize drawW l s0.2.toNat s0.1 = d3 at *
    have hlen : (d1.2 ++ d2.2).length = a1.2.toNat := by rw [List.length_append, b1.2, b2.2]; omega
    refine ⟨?_, by simp only; omega, by simp only; omega, Nat.zero_le _⟩
    unfold chOk chOkB
    simp only [List.all_append, v1, v2, v3, hlen, List.length_nil]
    simp
    omega
  split
  · have i4 := belowC_in l hl _ b1.1 4
    generalize belowC l d1.1 4 = s0 at *
    have m4 := i4.2.2 (by decide)
    have n4 := i4.2.1
    have b3 := drawV_in l hl _ i4.1 s0.2.toNat
    have v3 := drawV_val l hl _ i4.1 s0.2.toNat
    generalize drawV l s0.2.toNat s0.1 = d3 at *
    refine ⟨?_, Nat.zero_le _, Nat.zero_le _, by simp only; omega⟩
    unfold chOk chOkB
    simp only [v3, List.length_nil]
    simp
    omega
  · refine ⟨?_, by simp only; omega, Nat.zero_le _, Nat.zero_le _⟩
    unfold chOk chOkB
    simp only [v1, List.length_nil]
    simp
    omega


end Go.Proofs.Ytadpancnhinlbaa.E
