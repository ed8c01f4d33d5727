-- Printed by a program of this session's (wip/mkprint.py, over the kit's print): not typed by hand.
import Derived.Test.YtonmkhbojmckhaaRows
import Derived.Test.YtonmkhbojmckhaaPFnExactMutexOkx2
import Derived.Test.YtonmkhbojmckhaaPureFnExactMutexOk
import Derived.Test.YtonmkhbojmckhaaOpen
import Derived.WalkKit
import Derived.ProofKit
import Derived.OpenShut
import Derived.ShutString
import Derived.ChangeOld
import Derived.Below
import Derived.SizedLaws
namespace Go.Proofs.Ytonmkhbojmckhaa.fnExactMutexOk
open Go.ChangeShapes Go.WideShapes Go.ChangeAt Go.RowKit Go.Proofs.Ytonmkhbojmckhaa.PFnExactMutexOk Go.Proofs.YtonmkhbojmckhaaW.PrintWords
open Go.ChangeMaps (open_string shut_string)
set_option linter.unusedVariables false
theorem own : ownKnob Try.prog.godebug = none := by kernel_rfl
theorem laidOut : laidOutB Try.prog = true := by kernel_rfl
theorem k24_at {w : World} {x : S24} {cs : Array Value} (h : k24.K w x cs.toList) : ∃ c_, cs = List.toArray c_ ∧ k24.K w x c_ := ⟨cs.toList, by simp, h⟩
set_option maxRecDepth 100000 in
theorem lifted (os : Os) (started : os.Started) (H : Type) (enc : TypeId × Value → H) :
    ReturnsInHanded {} Try.checked os 3 .any (Rows.fnExactMutexOkSpec.pre6 enc Try.prog Try.f3 Rows.fnExactMutexOkRow.domain false) (Rows.fnExactMutexOkSpec.post enc Try.prog Try.f3 false true false false) := by
  refine returnsInHanded_of_change_sized (C := Try.checked) own started (by kernel_rfl) Try.func3
    (ChangeSpec.witness6 (enc := enc) (C := Try.checked) false ⟨#[], #[.agg #[.int .i64 0, .slice none 0 0]], []⟩ 8 (by kernel_rfl) (by kernel_rfl) (by kernel_rfl) (by kernel_rfl)) ?_
  intro W base args ds gs before hval0 hW hcnd hsz0 _
  have hval : ∀ (j : Nat) t v, Try.f3.params[j]? = some t → args[j]? = some v → Value.okWide Try.prog W .any base t v := hval0
  have hW' := hW
  obtain ⟨p, q, hA0, hV, rfl, hfz, hnd⟩ := hW
  have hA : DataW.TrodAll enc Try.prog W 0 (fun _ => true) true Try.f3.params.toList args.toList ds p := hA0
  rw [Try.params3] at hA hval
  obtain ⟨v0, vs0, d0, ds0, p0, q0, hargs, rfl, rfl, h0, r0⟩ := trodAll_cons hA
  obtain ⟨rfl, rfl, rfl⟩ := trodAll_nil r0
  obtain rfl : args = #[v0] := by cases args; simp_all
  obtain ⟨rfl, rfl⟩ := trodVars_none hV
  have k0 := h0
  have lt0 : ∀ x ∈ p0, x.block < W.heap.size := by obtain ⟨m, hm⟩ := k0; exact DataW.trod_lt m _ _ _ hm
  obtain ⟨cs0, rfl, hz0⟩ := okWide_struct Try.underlying24 (hval 0 24 v0 rfl rfl)
  obtain ⟨f0, e0⟩ := h0
  obtain ⟨x0, hk0, hg0⟩ := (Opn.Opens.iso (f := fun x_ : S24 => (x_.f0, x_.f1)) (fun x_ => ⟨x_.1, x_.2⟩) (fun _ => rfl) (Opn.Opens.struct Try.underlying24 (by kernel_rfl) [(0, 3), (1, 22)] (by kernel_rfl) (Opn.OpensAt.cons (Opn.Opens.int Try.underlying3 (by kernel_rfl)) rfl (Opn.OpensAt.last (Opn.Opens.slice Try.underlying22 (by kernel_rfl) (Opn.Opens.int Try.underlying3 (by kernel_rfl))))))).opn enc W f0 _ _ e0
  have hk0_ : k24.K W x0 cs0.toList := hk0
  obtain ⟨c0_, rfl, hk0'⟩ := k24_at hk0_
  obtain ⟨A0_1, c0_1, rfl, hc0_1, hr0_1⟩ := k24_open hk0'
  obtain ⟨k_, h_⟩ := Pure.FnExactMutexOk x0.f0 x0.f1 (by exact hg0)
  clear hA0 hval0 hsz0
  refine (laws_FnExactMutexOk.calls k_ x0.f0 _ _ x0.f1 true W hr0_1 hc0_1 h_).mono fun e W' ⟨he, bel0⟩ => ?_
  have bel : Below W.heap.size W W' := bel0
  subst he
  exact ⟨_, rfl, _, _, _, [], _, [], hW', trodAll_mk1 (shut_bool Try.underlying4 _), (trodAll_cons_mk (Below.trod laidOut (by kernel_rfl) (of_decide_eq_true (by kernel_rfl)) k0 bel lt0) trodAll_mk0), rfl, bel.frame _, fun h => by cases h⟩
theorem over : Rows.fnExactMutexOkRow.holds Try.pinned (OpenSpec.ofChange Rows.fnExactMutexOkSpec) :=
  OpenClaim.holds_of_wide 3 Try.f3 rfl rfl rfl rfl rfl rfl rfl ⟨rfl, rfl, rfl, rfl, rfl⟩ rfl rfl rfl rfl rfl (by kernel_rfl) Try.func3 (by kernel_rfl)
    (of_decide_eq_true (by kernel_rfl)) (by unfold Func.isWrapper; first | (rw [if_pos (by decide +kernel)]; kernel_rfl) | (rw [if_neg (by decide +kernel)]; exact ⟨rfl, rfl⟩))
    (fun os started H enc _ => lifted os started H enc)
theorem proved : Rows.FnExactMutexOkSaid := over
#print axioms proved
end Go.Proofs.Ytonmkhbojmckhaa.fnExactMutexOk
namespace Go.Proofs.Ytonmkhbojmckhaa
/-- The row, under a short name, for the claim. -/
theorem fnExactMutexOk_holds : Rows.FnExactMutexOkSaid := fnExactMutexOk.proved
end Go.Proofs.Ytonmkhbojmckhaa
