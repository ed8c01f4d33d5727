/- The row of laws.FnFrames: whatever the input, it returns true and leaves the input as it was. -/
import Derived.Test.YtadpancnhinlbaaRows
import Derived.Test.YtadpancnhinlbaaELf
import Derived.Test.YtadpancnhinlbaaEOpn
import Derived.WalkKit
import Derived.ProofKit
import Derived.OpenShut
import Derived.ShutString
import Derived.ChangeOld
import Derived.Below
import Derived.SizedLaws
namespace Go.Proofs.Ytadpancnhinlbaa.fnFrames
open Go.ChangeShapes Go.WideShapes Go.ChangeAt Go.RowKit Go.Proofs.Ytadpancnhinlbaa.E
open Go.ChangeMaps (open_string shut_string)
set_option linter.unusedVariables false
set_option linter.unusedSimpArgs false
theorem own : ownKnob Try.prog.godebug = none := by kernel_rfl
theorem laidOut : laidOutB Try.prog = true := by kernel_rfl
set_option maxRecDepth 100000 in
theorem lifted (os : Os) (started : os.Started) (H : Type) (enc : TypeId × Value → H) :
    ReturnsInHanded {} Try.checked os 3 .any (Rows.fnFramesSpec.pre6 enc Try.prog Try.f3 Rows.fnFramesRow.domain false) (Rows.fnFramesSpec.post enc Try.prog Try.f3 false true false false) := by
  refine returnsInHanded_of_change_sized (C := Try.checked) own started (by kernel_rfl) Try.func3
    (ChangeSpec.witness6 (enc := enc) (C := Try.checked) false ⟨#[], #[.slice none 0 0], []⟩ 8 (by kernel_rfl) (by kernel_rfl) (by kernel_rfl) (by kernel_rfl)) ?_
  intro W base args ds gs before hval0 hW hcnd hsz0 _
  have hval : ∀ (j : Nat) t v, Try.f3.params[j]? = some t → args[j]? = some v → Value.okWide Try.prog W .any base t v := hval0
  have hW' := hW
  obtain ⟨p, q, hA0, hV, rfl, hfz, hnd⟩ := hW
  have hA : DataW.TrodAll enc Try.prog W 0 (fun _ => true) true Try.f3.params.toList args.toList ds p := hA0
  rw [Try.params3] at hA hval
  obtain ⟨v0, vs0, d0, ds0, p0, q0, hargs, rfl, rfl, h0, r0⟩ := trodAll_cons hA
  obtain ⟨rfl, rfl, rfl⟩ := trodAll_nil r0
  obtain rfl : args = #[v0] := by cases args; simp_all
  obtain ⟨rfl, rfl⟩ := trodVars_none hV
  have k0 := h0
  have lt0 : ∀ x ∈ p0, x.block < W.heap.size := by obtain ⟨m, hm⟩ := k0; exact DataW.trod_lt m _ _ _ hm
  obtain ⟨a0, len0, cap0, rfl⟩ := okWide_slice Try.underlying22 (hval 0 22 v0 rfl rfl)
  obtain ⟨f0, e0⟩ := h0
  obtain ⟨x0, hk0, g0⟩ := (Op1.slice Try.underlying22 (by kernel_rfl) (by decide) (Op1.int Try.underlying5 (by kernel_rfl))).opn enc W f0 _ _ e0
  clear hA0 hval0 hsz0
  have law := l_FnFrames x0
  refine (law.2 W [_] (fun _ => False) ⟨fun _ h => h.elim, trivial⟩ ⟨rfl, fun _ _ => False, fun _ _ h => h, fun _ _ _ h => h.elim, fun i a hi => ?_⟩).mono ?_
  · match i, hi with
    | 0, hi => cases hi; exact hk0.2 0 _ rfl
  · rintro e W' ⟨x, S, Ss, rfl, hout, _, _, _, _, _, up, old⟩
    have bel : Below W.heap.size W W' := ⟨up.os, up.tape, up.output, up.size, fun k hk => old k hk (fun h => h)⟩
    obtain rfl : x = .bool true := by cases hout; rfl
    exact ⟨_, rfl, _, _, _, [], _, [], hW', trodAll_mk1 (shut_bool Try.underlying4 _), (trodAll_cons_mk (Below.trod laidOut (by kernel_rfl) (of_decide_eq_true (by kernel_rfl)) k0 bel lt0) trodAll_mk0), rfl, bel.frame _, fun h => by cases h⟩
theorem over : Rows.fnFramesRow.holds Try.pinned (OpenSpec.ofChange Rows.fnFramesSpec) :=
  OpenClaim.holds_of_wide 3 Try.f3 rfl rfl rfl rfl rfl rfl rfl ⟨rfl, rfl, rfl, rfl, rfl⟩ rfl rfl rfl rfl rfl (by kernel_rfl) Try.func3 (by kernel_rfl)
    (of_decide_eq_true (by kernel_rfl)) (by unfold Func.isWrapper; first | (rw [if_pos (by decide +kernel)]; kernel_rfl) | (rw [if_neg (by decide +kernel)]; exact ⟨rfl, rfl⟩))
    (fun os started H enc _ => lifted os started H enc)
theorem proved : Rows.FnFramesSaid := over
#print axioms proved
end Go.Proofs.Ytadpancnhinlbaa.fnFrames
namespace Go.Proofs.Ytadpancnhinlbaa
/-- The row, under a short name, for the claim. -/
theorem fnFrames_holds : Rows.FnFramesSaid := fnFrames.proved
end Go.Proofs.Ytadpancnhinlbaa
