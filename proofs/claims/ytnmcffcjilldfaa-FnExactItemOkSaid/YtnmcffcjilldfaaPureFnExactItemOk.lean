/- The program's ItemOk answers as the reference's, for every item; no condition. -/
import Derived.Test.YtnmcffcjilldfaaPFnExactItemOkx2
import Derived.Test.YtnmcffcjilldfaaCom
namespace Go.Proofs.Ytnmcffcjilldfaa.Pure
open Go.RowKit Go.Proofs.Ytnmcffcjilldfaa.PFnExactItemOk Go.Proofs.YtnmcffcjilldfaaW.PrintWords Go.Proofs.YtnmcffcjilldfaaW.PrintLast Go.Proofs.Ytnmcffcjilldfaa.Com

/-! What an item may be. -/
def isV (v : Int) : Bool := decide (0 ≤ v ∧ v ≤ 999)
theorem impl_isVal_eq (v : Int) : impl_isVal.f v = some (isV v) := by
  unfold impl_isVal.f isV
  by_cases h : v ≥ 0 <;> simp [h]
theorem spec_l03Val_eq (v : Int) : spec_l03Val.f v = some (isV v) := by
  unfold spec_l03Val.f isV
  by_cases h : v ≥ 0 <;> simp [h]
def itemOk (kd ob v : Int) (ok : Bool) : Bool :=
  if ob < 0 then false else if ok = true ∧ ¬ kd = 2 then false
  else if kd = 1 then isV v else if kd = 2 then isV v && (ok || v == 0) else if kd = 8 then isV v && ob == 0
  else if kd = 4 then decide (v ≥ -1) else if kd = 7 then decide (v ≥ 0)
  else if kd = 10 then decide (v ≥ 1) && decide (v ≤ 5) && ob == 0 else if kd = 9 then v == 0 && ob == 0
  else if kd = 3 ∨ kd = 5 ∨ kd = 6 then v == 0 else false
theorem impl_ItemOk_j0 (k : Nat) (kd ob v : Int) (ok : Bool) (h0 : ¬ ob < 0) (h1 : ¬ (ok = true ∧ ¬ kd = 2)) : impl_ItemOk.j0 (k + 1) false kd ob v ok = some (itemOk kd ob v ok) := by
  simp only [impl_ItemOk.j0, impl_isVal_eq, Option.bind_some]
  unfold itemOk
  rw [if_neg h0, if_neg h1]
  by_cases a1 : kd = 1
  · simp [a1]
  by_cases a2 : kd = 2
  · subst a2
    cases hv : isV v <;> cases ok <;> simp
  by_cases a8 : kd = 8
  · subst a8
    cases hv : isV v <;> simp
  by_cases a4 : kd = 4
  · simp [a4]
  by_cases a7 : kd = 7
  · simp [a7]
  by_cases a10 : kd = 10
  · subst a10
    by_cases v1 : v ≥ 1 <;> by_cases v2 : v ≤ 5 <;> simp [v1, v2]
  by_cases a9 : kd = 9
  · subst a9
    by_cases v1 : v = 0 <;> simp [v1]
  by_cases a3 : kd = 3
  · simp [a3]
  by_cases a5 : kd = 5
  · simp [a5]
  by_cases a6 : kd = 6
  · simp [a6]
  simp [a1, a2, a8, a4, a7, a10, a9, a3, a5, a6]
theorem impl_ItemOk_eq (k : Nat) (kd ob v : Int) (ok : Bool) : impl_ItemOk.f (k + 1) kd ob v ok = some (itemOk kd ob v ok) := by
  unfold impl_ItemOk.f
  have bad : impl_ItemOk.j0 (k + 1) true kd ob v ok = some false := by simp [impl_ItemOk.j0]
  by_cases h0 : ob < 0
  · rw [if_pos h0, bad]
    unfold itemOk
    rw [if_pos h0]
  · rw [if_neg h0]
    cases ok with
    | false =>
      rw [if_neg (by simp)]
      exact impl_ItemOk_j0 k kd ob v false h0 (by simp)
    | true =>
      rw [if_pos rfl]
      by_cases h2 : kd = 2
      · rw [show (kd != 2) = false by simp [h2]]
        exact impl_ItemOk_j0 k kd ob v true h0 (by simp [h2])
      · rw [show (kd != 2) = true by simp [h2], bad]
        unfold itemOk
        rw [if_neg h0, if_pos ⟨rfl, h2⟩]
theorem spec_ItemOk_j0 (k : Nat) (kd ob v : Int) (ok : Bool) (h0 : ¬ ob < 0) (h1 : ¬ (ok = true ∧ ¬ kd = 2)) (h2 : 1 ≤ kd) (h3 : kd ≤ 10) (h4 : kd ≥ 8 → ob = 0) : spec_ItemOk.j0 (k + 2) false kd ob v ok = some (itemOk kd ob v ok) := by
  simp only [spec_ItemOk.j0, spec_ItemOk.j1, spec_l03Val_eq, Option.bind_some]
  unfold itemOk
  rw [if_neg h0, if_neg h1]
  have : kd = 1 ∨ kd = 2 ∨ kd = 3 ∨ kd = 4 ∨ kd = 5 ∨ kd = 6 ∨ kd = 7 ∨ kd = 8 ∨ kd = 9 ∨ kd = 10 := by omega
  rcases this with h | h | h | h | h | h | h | h | h | h <;> subst h <;> simp at h4 ⊢
  · cases hv : isV v <;> cases ok <;> simp
  · simp [h4]
  · simp [h4]
  · by_cases v1 : v ≥ 1 <;> simp [v1, h4]
theorem spec_ItemOk_eq (k : Nat) (kd ob v : Int) (ok : Bool) : spec_ItemOk.f (k + 2) kd ob v ok = some (itemOk kd ob v ok) := by
  unfold spec_ItemOk.f
  have bad : spec_ItemOk.j0 (k + 2) true kd ob v ok = some false := by simp [spec_ItemOk.j0]
  have no (h : kd < 1 ∨ kd > 10) : itemOk kd ob v ok = false := by
    unfold itemOk
    have a1 : ¬ kd = 1 := by omega
    have a2 : ¬ kd = 2 := by omega
    have a8 : ¬ kd = 8 := by omega
    have a4 : ¬ kd = 4 := by omega
    have a7 : ¬ kd = 7 := by omega
    have a10 : ¬ kd = 10 := by omega
    have a9 : ¬ kd = 9 := by omega
    have a3 : ¬ (kd = 3 ∨ kd = 5 ∨ kd = 6) := by omega
    simp [a1, a2, a8, a4, a7, a10, a9, a3]
  by_cases g1 : kd < 1
  · rw [if_pos g1, bad, no (Or.inl g1)]
  rw [if_neg g1]
  by_cases g2 : kd > 10
  · rw [if_pos g2, bad, no (Or.inr g2)]
  rw [if_neg g2]
  by_cases h0 : ob < 0
  · rw [if_pos h0, bad]
    unfold itemOk
    rw [if_pos h0]
  rw [if_neg h0]
  have ends (h4 : kd ≥ 8 → ob = 0) : (if ok = true then spec_ItemOk.j0 (k + 2) (kd != 2) kd ob v ok else spec_ItemOk.j0 (k + 2) false kd ob v ok) = some (itemOk kd ob v ok) := by
    cases ok with
    | false =>
      rw [if_neg (by simp)]
      exact spec_ItemOk_j0 k kd ob v false h0 (by simp) (by omega) (by omega) h4
    | true =>
      rw [if_pos rfl]
      by_cases h2 : kd = 2
      · rw [show (kd != 2) = false by simp [h2]]
        exact spec_ItemOk_j0 k kd ob v true h0 (by simp [h2]) (by omega) (by omega) h4
      · rw [show (kd != 2) = true by simp [h2], bad]
        unfold itemOk
        rw [if_neg h0, if_pos ⟨rfl, h2⟩]
  by_cases g8 : kd ≥ 8
  · rw [if_pos g8]
    by_cases o0 : ob = 0
    · rw [if_pos o0]
      exact ends (fun _ => o0)
    · rw [if_neg o0, bad]
      unfold itemOk
      rw [if_neg h0]
      have a1 : ¬ kd = 1 := by omega
      have a2 : ¬ kd = 2 := by omega
      have a4 : ¬ kd = 4 := by omega
      have a7 : ¬ kd = 7 := by omega
      have a3 : ¬ (kd = 3 ∨ kd = 5 ∨ kd = 6) := by omega
      simp [a1, a2, a4, a7, a3, o0]
  · rw [if_neg g8]
    exact ends (fun h => absurd h g8)
theorem FnExactItemOk : laws_FnExactItemOk.Pure := by
  intro a b c d _
  refine ⟨2, ?_⟩
  unfold laws_FnExactItemOk.f laws_toItem.f
  simp only [Option.bind_some, spec_ItemOk_eq 0, impl_ItemOk_eq 1]
  simp

end Go.Proofs.Ytnmcffcjilldfaa.Pure
