/- A mutex stays right and goes to those that wait in their order, for every list of bytes that the number of goroutines is drawn from; no condition. -/
import Derived.Test.YtonmkhbojmckhaaPFnLockx3
import Derived.Test.YtonmkhbojmckhaaCom
namespace Go.Proofs.Ytonmkhbojmckhaa.Pure
open Go.RowKit Go.Proofs.Ytonmkhbojmckhaa.PFnLock Go.Proofs.YtonmkhbojmckhaaW.PrintWords Go.Proofs.YtonmkhbojmckhaaW.PrintLast Go.Proofs.Ytonmkhbojmckhaa.Com

/-! What is drawn: a byte. -/
theorem and255 (x : Int) : 0 ≤ Go.bits .and .i64 x 255 ∧ Go.bits .and .i64 x 255 ≤ 255 := by
  have h1 : (BitVec.ofInt 64 255).toNat = 255 := by decide
  have h2 : (BitVec.ofInt 64 x &&& BitVec.ofInt 64 255).toNat ≤ 255 := by
    rw [BitVec.toNat_and, h1]
    exact Nat.and_le_right
  have e : Go.bits .and .i64 x 255 = Go.IntKind.i64.wrap ((BitVec.ofInt 64 x &&& BitVec.ofInt 64 255).toNat : Int) := rfl
  rw [e, Go.IntKind.wrap_i64]
  omega
theorem new_ev (l : List Int) : ∃ h : Int, Ev (fun k => spec_l01New.f k l) (l, 0, h) := by
  have key : ∀ (d i : Nat) (x : Int), i + d = l.length → ∃ h : Int, Ev (fun k => spec_l01New.l0 k l x (i : Int)) (l, 0, h) := by
    intro d
    induction d with
    | zero =>
      intro i x hd
      refine ⟨x, ?_⟩
      refine Ev.step (fun k => (by simp only [spec_l01New.l0]; exact rfl)) ?_
      exact ev_neg (by omega) (Ev.now _)
    | succ d ih =>
      intro i x hd
      by_cases h4 : (i : Int) < 4000
      · obtain ⟨h, e⟩ := ih (i + 1) (Go.bits .and .i64 (wrap64 ((wrap64 ((wrap64 (x * 163)) + (wrap64 (rd l (i : Int))))) + 7)) 1073741823) (by omega)
        refine ⟨h, ?_⟩
        refine Ev.step (fun k => (by simp only [spec_l01New.l0]; exact rfl)) ?_
        refine ev_pos (by omega) (ev_pos h4 (ev_pos (by omega) ?_))
        rw [w64 (n := (i : Int) + 1) (by omega) (by omega)]
        exact e
      · refine ⟨x, ?_⟩
        refine Ev.step (fun k => (by simp only [spec_l01New.l0]; exact rfl)) ?_
        exact ev_pos (by omega) (ev_neg h4 (Ev.now _))
  simp only [spec_l01New.f]
  exact key l.length 0 _ (by omega)
theorem byte_some (l : List Int) (p h : Int) (hp : 0 ≤ p) (hl : l.length ≤ 1048576) (hp2 : p ≤ 1048576) : ∃ x p' h' : Int, spec_l01Byte.f l p h = some (x, p', h') ∧ 0 ≤ x ∧ x ≤ 255 ∧ 0 ≤ p' ∧ p' ≤ 1048576 := by
  unfold spec_l01Byte.f
  by_cases hlt : p < (l.length : Int)
  · rw [if_pos hlt, if_pos hp]
    refine ⟨_, _, _, rfl, (and255 _).1, (and255 _).2, ?_⟩
    rw [w64 (by omega) (by omega)]
    omega
  · rw [if_neg hlt]
    exact ⟨_, _, _, rfl, (and255 _).1, (and255 _).2, hp, hp2⟩
theorem num_ev (l : List Int) (hl : l.length ≤ 1048576) : ∃ n : Int, Ev (fun k => spec_MakeNum.f k l 5) n ∧ 0 ≤ n ∧ n < 5 := by
  obtain ⟨h, e0⟩ := new_ev l
  obtain ⟨x, p1, h1, e1, hx0, hx1, hp3, hp4⟩ := byte_some l 0 (wrap64 (h + 777)) (by omega) hl (by omega)
  have hm := Int.emod_nonneg x (show (5 : Int) ≠ 0 by decide)
  have hm2 := Int.emod_lt_of_pos x (show (0 : Int) < 5 by decide)
  refine ⟨x % 5, ?_, hm, hm2⟩
  simp only [spec_MakeNum.f]
  refine Ev.bind e0 ?_
  refine ev_call (a := (x % 5, p1, h1)) ?_ (Ev.now _)
  unfold spec_l01Below.f
  rw [if_neg (by omega), if_pos (by omega), e1]
  simp only [Option.bind_some]
  rw [if_neg (by omega), tmod_pos hx0]
theorem all_rounds (n : Int) (h0 : 2 ≤ n) (h1 : n ≤ 6) : laws_FnLock.l0 40 n 0 (-1) [] = some true := by
  have : n = 2 ∨ n = 3 ∨ n = 4 ∨ n = 5 ∨ n = 6 := by omega
  rcases this with h | h | h | h | h <;> subst h <;> decide +kernel
theorem FnLock : laws_FnLock.Pure := by
  intro l hl hl2 hw
  refine Ev.rounds (g := fun k => laws_FnLock.f k l) ?_
  simp only [laws_FnLock.f]
  by_cases h : (l.length : Int) > 1048576
  · exact ev_pos h (Ev.now _)
  refine ev_neg h ?_
  obtain ⟨n, e, h0, h1⟩ := num_ev l (by omega)
  refine ev_call (show impl_MutexNew.f = some (-1, []) from rfl) (Ev.bind e ?_)
  rw [w64 (by omega) (by omega)]
  exact Ev.of (fun k => (laws_FnLock.mono_l k).1 _ _ _ _) (all_rounds (2 + n) (by omega) (by omega))

end Go.Proofs.Ytonmkhbojmckhaa.Pure
