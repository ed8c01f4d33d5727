-- Printed by a program of this session's (wip/mkprint.py, over the kit's print): not typed by hand.
import Derived.Test.YtnmcffcjilldfaaRows
import Derived.Test.YtnmcffcjilldfaaPFnExactItemOkx2
import Derived.Test.YtnmcffcjilldfaaPureFnExactItemOk
import Derived.Test.YtnmcffcjilldfaaOpen
import Derived.WalkKit
import Derived.ProofKit
import Derived.OpenShut
import Derived.ShutString
import Derived.ChangeOld
import Derived.Below
import Derived.SizedLaws
namespace Go.Proofs.Ytnmcffcjilldfaa.fnExactItemOk
open Go.ChangeShapes Go.WideShapes Go.ChangeAt Go.RowKit Go.Proofs.Ytnmcffcjilldfaa.PFnExactItemOk Go.Proofs.YtnmcffcjilldfaaW.PrintWords
open Go.ChangeMaps (open_string shut_string)
set_option linter.unusedVariables false
theorem own : ownKnob Try.prog.godebug = none := by kernel_rfl
theorem laidOut : laidOutB Try.prog = true := by kernel_rfl
theorem k40_at {w : World} {x : S40} {cs : Array Value} (h : k40.K w x cs.toList) : ∃ c_, cs = List.toArray c_ ∧ k40.K w x c_ := ⟨cs.toList, by simp, h⟩
set_option maxRecDepth 100000 in
theorem lifted (os : Os) (started : os.Started) (H : Type) (enc : TypeId × Value → H) :
    ReturnsInHanded {} Try.checked os 11 .any (Rows.fnExactItemOkSpec.pre6 enc Try.prog Try.f11 Rows.fnExactItemOkRow.domain false) (Rows.fnExactItemOkSpec.post enc Try.prog Try.f11 false true false false) := by
  refine returnsInHanded_of_change_sized (C := Try.checked) own started (by kernel_rfl) Try.func11
    (ChangeSpec.witness6 (enc := enc) (C := Try.checked) false ⟨#[], #[.agg #[.int .i64 0, .int .i64 0, .int .i64 0, .bool false]], []⟩ 8 (by kernel_rfl) (by kernel_rfl) (by kernel_rfl) (by kernel_rfl)) ?_
  intro W base args ds gs before hval0 hW hcnd hsz0 _
  have hval : ∀ (j : Nat) t v, Try.f11.params[j]? = some t → args[j]? = some v → Value.okWide Try.prog W .any base t v := hval0
  have hW' := hW
  obtain ⟨p, q, hA0, hV, rfl, hfz, hnd⟩ := hW
  have hA : DataW.TrodAll enc Try.prog W 0 (fun _ => true) true Try.f11.params.toList args.toList ds p := hA0
  rw [Try.params11] at hA hval
  obtain ⟨v0, vs0, d0, ds0, p0, q0, hargs, rfl, rfl, h0, r0⟩ := trodAll_cons hA
  obtain ⟨rfl, rfl, rfl⟩ := trodAll_nil r0
  obtain rfl : args = #[v0] := by cases args; simp_all
  obtain ⟨rfl, rfl⟩ := trodVars_none hV
  have k0 := h0
  have lt0 : ∀ x ∈ p0, x.block < W.heap.size := by obtain ⟨m, hm⟩ := k0; exact DataW.trod_lt m _ _ _ hm
  obtain ⟨cs0, rfl, hz0⟩ := okWide_struct Try.underlying40 (hval 0 40 v0 rfl rfl)
  obtain ⟨f0, e0⟩ := h0
  obtain ⟨x0, hk0, hg0⟩ := (Opn.Opens.iso (f := fun x_ : S40 => (x_.f0, x_.f1, x_.f2, x_.f3)) (fun x_ => ⟨x_.1, x_.2.1, x_.2.2.1, x_.2.2.2⟩) (fun _ => rfl) (Opn.Opens.struct Try.underlying40 (by kernel_rfl) [(0, 3), (1, 3), (2, 3), (3, 4)] (by kernel_rfl) (Opn.OpensAt.cons (Opn.Opens.int Try.underlying3 (by kernel_rfl)) rfl (Opn.OpensAt.cons (Opn.Opens.int Try.underlying3 (by kernel_rfl)) rfl (Opn.OpensAt.cons (Opn.Opens.int Try.underlying3 (by kernel_rfl)) rfl (Opn.OpensAt.last (Opn.Opens.bool Try.underlying4 (by kernel_rfl)))))))).opn enc W f0 _ _ e0
  have hk0_ : k40.K W x0 cs0.toList := hk0
  obtain ⟨c0_, rfl, hk0'⟩ := k40_at hk0_
  obtain rfl := k40_open hk0'
  obtain ⟨k_, h_⟩ := Pure.FnExactItemOk x0.f0 x0.f1 x0.f2 x0.f3 (by exact hg0)
  clear hA0 hval0 hsz0
  refine (laws_FnExactItemOk.calls k_ x0.f0 x0.f1 x0.f2 x0.f3 true W  h_).mono fun e W' ⟨he, bel0⟩ => ?_
  have bel : Below W.heap.size W W' := bel0
  subst he
  exact ⟨_, rfl, _, _, _, [], _, [], hW', trodAll_mk1 (shut_bool Try.underlying4 _), (trodAll_cons_mk (Below.trod laidOut (by kernel_rfl) (of_decide_eq_true (by kernel_rfl)) k0 bel lt0) trodAll_mk0), rfl, bel.frame _, fun h => by cases h⟩
theorem over : Rows.fnExactItemOkRow.holds Try.pinned (OpenSpec.ofChange Rows.fnExactItemOkSpec) :=
  OpenClaim.holds_of_wide 11 Try.f11 rfl rfl rfl rfl rfl rfl rfl ⟨rfl, rfl, rfl, rfl, rfl⟩ rfl rfl rfl rfl rfl (by kernel_rfl) Try.func11 (by kernel_rfl)
    (of_decide_eq_true (by kernel_rfl)) (by unfold Func.isWrapper; first | (rw [if_pos (by decide +kernel)]; kernel_rfl) | (rw [if_neg (by decide +kernel)]; exact ⟨rfl, rfl⟩))
    (fun os started H enc _ => lifted os started H enc)
theorem proved : Rows.FnExactItemOkSaid := over
#print axioms proved
end Go.Proofs.Ytnmcffcjilldfaa.fnExactItemOk
namespace Go.Proofs.Ytnmcffcjilldfaa
/-- The row, under a short name, for the claim. -/
theorem fnExactItemOk_holds : Rows.FnExactItemOkSaid := fnExactItemOk.proved
end Go.Proofs.Ytnmcffcjilldfaa
