-- Printed by a program of this session's (wip/mkprint.py, over the kit's print): not typed by hand.
import Derived.Test.YtnhbbjpdhoojeaaRows
import Derived.Test.YtnhbbjpdhoojeaaPFnExactRegx2
import Derived.Test.YtnhbbjpdhoojeaaPureFnExactReg
import Derived.Test.YtnhbbjpdhoojeaaOpen
import Derived.WalkKit
import Derived.ProofKit
import Derived.OpenShut
import Derived.ShutString
import Derived.ChangeOld
import Derived.Below
import Derived.SizedLaws
namespace Go.Proofs.Ytnhbbjpdhoojeaa.fnExactReg
open Go.ChangeShapes Go.WideShapes Go.ChangeAt Go.RowKit Go.Proofs.Ytnhbbjpdhoojeaa.PFnExactReg Go.Proofs.YtnhbbjpdhoojeaaW.PrintWords
open Go.ChangeMaps (open_string shut_string)
set_option linter.unusedVariables false
theorem own : ownKnob Try.prog.godebug = none := by kernel_rfl
theorem laidOut : laidOutB Try.prog = true := by kernel_rfl
theorem k25_at {w : World} {x : S25} {cs : Array Value} (h : k25.K w x cs.toList) : ∃ c_, cs = List.toArray c_ ∧ k25.K w x c_ := ⟨cs.toList, by simp, h⟩
set_option maxRecDepth 100000 in
theorem lifted (os : Os) (started : os.Started) (H : Type) (enc : TypeId × Value → H) :
    ReturnsInHanded {} Try.checked os 3 .any (Rows.fnExactRegSpec.pre6 enc Try.prog Try.f3 Rows.fnExactRegRow.domain false) (Rows.fnExactRegSpec.post enc Try.prog Try.f3 false true false false) := by
  refine returnsInHanded_of_change_sized (C := Try.checked) own started (by kernel_rfl) Try.func3
    (ChangeSpec.witness6 (enc := enc) (C := Try.checked) false ⟨#[], #[.agg #[.int .i64 0, .int .i64 0, .slice none 0 0, .int .i64 0, .slice none 0 0], .int .i64 0], []⟩ 8 (by kernel_rfl) (by kernel_rfl) (by kernel_rfl) (by kernel_rfl)) ?_
  intro W base args ds gs before hval0 hW hcnd hsz0 _
  have hval : ∀ (j : Nat) t v, Try.f3.params[j]? = some t → args[j]? = some v → Value.okWide Try.prog W .any base t v := hval0
  have hW' := hW
  obtain ⟨p, q, hA0, hV, rfl, hfz, hnd⟩ := hW
  have hA : DataW.TrodAll enc Try.prog W 0 (fun _ => true) true Try.f3.params.toList args.toList ds p := hA0
  rw [Try.params3] at hA hval
  obtain ⟨v0, vs0, d0, ds0, p0, q0, hargs, rfl, rfl, h0, r0⟩ := trodAll_cons hA
  obtain ⟨v1, vs1, d1, ds1, p1, q1, rfl, rfl, rfl, h1, r1⟩ := trodAll_cons r0
  obtain ⟨rfl, rfl, rfl⟩ := trodAll_nil r1
  obtain rfl : args = #[v0, v1] := by cases args; simp_all
  obtain ⟨rfl, rfl⟩ := trodVars_none hV
  have k0 := h0
  have lt0 : ∀ x ∈ p0, x.block < W.heap.size := by obtain ⟨m, hm⟩ := k0; exact DataW.trod_lt m _ _ _ hm
  obtain ⟨cs0, rfl, hz0⟩ := okWide_struct Try.underlying25 (hval 0 25 v0 rfl rfl)
  obtain ⟨f0, e0⟩ := h0
  obtain ⟨x0, hk0, hg0⟩ := (Opn.Opens.iso (f := fun x_ : S25 => (x_.f0, x_.f1, x_.f2, x_.f3, x_.f4)) (fun x_ => ⟨x_.1, x_.2.1, x_.2.2.1, x_.2.2.2.1, x_.2.2.2.2⟩) (fun _ => rfl) (Opn.Opens.struct Try.underlying25 (by kernel_rfl) [(0, 3), (1, 3), (2, 22), (3, 3), (4, 23)] (by kernel_rfl) (Opn.OpensAt.cons (Opn.Opens.int Try.underlying3 (by kernel_rfl)) rfl (Opn.OpensAt.cons (Opn.Opens.int Try.underlying3 (by kernel_rfl)) rfl (Opn.OpensAt.cons (Opn.Opens.slice Try.underlying22 (by kernel_rfl) (Opn.Opens.int Try.underlying3 (by kernel_rfl))) rfl (Opn.OpensAt.cons (Opn.Opens.int Try.underlying3 (by kernel_rfl)) rfl (Opn.OpensAt.last (Opn.Opens.slice Try.underlying23 (by kernel_rfl) (Opn.Opens.iso (f := fun x_ : S37 => (x_.f0, x_.f1, x_.f2, x_.f3)) (fun x_ => ⟨x_.1, x_.2.1, x_.2.2.1, x_.2.2.2⟩) (fun _ => rfl) (Opn.Opens.struct Try.underlying37 (by kernel_rfl) [(0, 3), (1, 3), (2, 3), (3, 4)] (by kernel_rfl) (Opn.OpensAt.cons (Opn.Opens.int Try.underlying3 (by kernel_rfl)) rfl (Opn.OpensAt.cons (Opn.Opens.int Try.underlying3 (by kernel_rfl)) rfl (Opn.OpensAt.cons (Opn.Opens.int Try.underlying3 (by kernel_rfl)) rfl (Opn.OpensAt.last (Opn.Opens.bool Try.underlying4 (by kernel_rfl)))))))))))))))).opn enc W f0 _ _ e0
  have hk0_ : k25.K W x0 cs0.toList := hk0
  obtain ⟨c0_, rfl, hk0'⟩ := k25_at hk0_
  obtain ⟨A0_2, c0_2, A0_4, c0_4, rfl, hc0_2, hr0_2, hc0_4, hr0_4⟩ := k25_open hk0'
  obtain ⟨a1, rfl, rfl, rfl, w1⟩ := open_int Try.underlying3 (hval 1 3 v1 rfl rfl) h1
  obtain ⟨k_, h_⟩ := Pure.FnExactReg x0.f0 x0.f1 x0.f2 x0.f3 x0.f4 a1 (by exact hg0) w1
  clear hA0 hval0 hsz0
  refine (laws_FnExactReg.calls k_ x0.f0 x0.f1 _ _ x0.f2 x0.f3 _ _ x0.f4 a1 true W hr0_2 hc0_2 hr0_4 hc0_4 h_).mono fun e W' ⟨he, bel0⟩ => ?_
  have bel : Below W.heap.size W W' := bel0
  subst he
  exact ⟨_, rfl, _, _, _, [], _, [], hW', trodAll_mk1 (shut_bool Try.underlying4 _), (trodAll_cons_mk (Below.trod laidOut (by kernel_rfl) (of_decide_eq_true (by kernel_rfl)) k0 bel lt0) (trodAll_cons_mk (shut_int Try.underlying3 w1) trodAll_mk0)), rfl, bel.frame _, fun h => by cases h⟩
theorem over : Rows.fnExactRegRow.holds Try.pinned (OpenSpec.ofChange Rows.fnExactRegSpec) :=
  OpenClaim.holds_of_wide 3 Try.f3 rfl rfl rfl rfl rfl rfl rfl ⟨rfl, rfl, rfl, rfl, rfl⟩ rfl rfl rfl rfl rfl (by kernel_rfl) Try.func3 (by kernel_rfl)
    (of_decide_eq_true (by kernel_rfl)) (by unfold Func.isWrapper; first | (rw [if_pos (by decide +kernel)]; kernel_rfl) | (rw [if_neg (by decide +kernel)]; exact ⟨rfl, rfl⟩))
    (fun os started H enc _ => lifted os started H enc)
theorem proved : Rows.FnExactRegSaid := over
#print axioms proved
end Go.Proofs.Ytnhbbjpdhoojeaa.fnExactReg
namespace Go.Proofs.Ytnhbbjpdhoojeaa
/-- The row, under a short name, for the claim. -/
theorem fnExactReg_holds : Rows.FnExactRegSaid := fnExactReg.proved
end Go.Proofs.Ytnhbbjpdhoojeaa
