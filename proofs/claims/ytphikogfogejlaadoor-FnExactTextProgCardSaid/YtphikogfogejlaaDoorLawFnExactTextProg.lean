/- The row and the tied card of laws.FnExactTextProg: whatever the input, it returns true and leaves the input as it was, where the listed variables read as the program's text lays them. -/
import Derived.Test.YtphikogfogejlaaDoorRows
import Derived.Test.YtphikogfogejlaaDoorCards
import Derived.Test.YtphikogfogejlaaDoorTie
import Derived.Test.YtphikogfogejlaaDoorELTp
import Derived.Test.YtphikogfogejlaaDoorEDoorS
import Derived.WalkKit
import Derived.ProofKit
import Derived.OpenShut
import Derived.ShutString
import Derived.ChangeOld
import Derived.Below
import Derived.LaidMore
import Derived.Lay
import Derived.SevenTiedAt
import Derived.Stop.Joined
namespace Go.Proofs.YtphikogfogejlaaDoor.fnExactTextProg
open Go.ChangeShapes Go.WideShapes Go.ChangeAt Go.RowKit Go.Proofs.YtphikogfogejlaaDoor.E
open Go.ChangeMaps (open_string shut_string)
set_option linter.unusedVariables false
set_option linter.unusedSimpArgs false
theorem own : ownKnob Tryd.prog.godebug = none := by kernel_rfl
theorem laidOut : laidOutB Tryd.prog = true := by kernel_rfl
set_option maxRecDepth 100000 in
theorem lifted (os : Os) (started : os.Started) (H : Type) (enc : TypeId × Value → H) :
    ReturnsInHanded {} Tryd.checked os 5 .any (fun w args => (Rows.fnExactTextProgSpec.pre enc Tryd.prog Tryd.f5 Rows.fnExactTextProgRow.domain false w args ∧ laidMetH Tryd.prog Rows.fnExactTextProgRow.laid w) ∧ sizedMet enc Tryd.prog Tryd.f5 (OpenSpec.ofChange Rows.fnExactTextProgSpec) false w args) (Rows.fnExactTextProgSpec.post enc Tryd.prog Tryd.f5 false true false false) := by
  refine returns_shaped (C := Tryd.checked) (X := fun w _ => laidMetH Tryd.prog Rows.fnExactTextProgRow.laid w) (fun _ _ _ hh h => h.of_heap hh) own started (by kernel_rfl) Tryd.func5
    (ChangeSpec.witness_shaped (enc := enc) (C := Tryd.checked) (os := os) (X := fun w _ => laidMetH Tryd.prog Rows.fnExactTextProgRow.laid w) false (World.laidAll Tryd.prog os Rows.fnExactTextProgRow.laid) #[.string ByteArray.empty] 8 (World.laidAll_os _ _ _)
      (World.shaped_of_ZipB (by kernel_rfl) (by kernel_rfl)) (by kernel_rfl) (by kernel_rfl) (by kernel_rfl) (by rw [MakeChecks.laidMetH_plain _ _ _ (by kernel_rfl)]; exact laidMet_laidAll _ (by kernel_rfl) (by kernel_rfl))) ?_
  intro W base args ds gs before hval0 hW hcnd hsz0 hL hsh
  have hval : ∀ (j : Nat) t v, Tryd.f5.params[j]? = some t → args[j]? = some v → Value.okWide Tryd.prog W .any base t v := hval0
  have hW' := hW
  obtain ⟨p, q, hA0, hV, rfl, hfz, hnd⟩ := hW
  have hA : DataW.TrodAll enc Tryd.prog W 0 (fun _ => true) true Tryd.f5.params.toList args.toList ds p := hA0
  rw [Tryd.params5] at hA hval
  obtain ⟨v0, vs0, d0, ds0, p0, q0, hargs, rfl, rfl, h0, r0⟩ := trodAll_cons hA
  obtain ⟨rfl, rfl, rfl⟩ := trodAll_nil r0
  obtain rfl : args = #[v0] := by cases args; simp_all
  obtain ⟨rfl, rfl⟩ := trodVars_none hV
  obtain ⟨x0, rfl, rfl, rfl, g0⟩ := open_string Tryd.underlying9 (hval 0 9 v0 rfl rfl) h0
  have hinv : Inv W (fun _ => False) := inv_of_shaped hsh
  clear hA0 hval0 hsz0 hL hsh
  have law := l_FnExactTextProg x0
  refine (law.2 W [_] (fun _ => False) ⟨fun _ h => h.elim, hinv⟩ ⟨rfl, fun _ _ => False, fun _ _ h => h, fun _ _ _ h => h.elim, fun i a hi => ?_⟩).mono ?_
  · match i, hi with
    | 0, hi => cases hi; exact .v rfl
  · rintro e W' ⟨x, S, Ss, rfl, hout, _, _, _, _, _, up, old⟩
    have bel : Below W.heap.size W W' := ⟨up.os, up.tape, up.output, up.size, fun k hk => old k hk (fun h => h)⟩
    obtain rfl : x = .bool true := by cases hout; rfl
    exact ⟨_, rfl, _, _, _, [], _, [], hW', trodAll_mk1 (shut_bool Tryd.underlying4 _), (trodAll_cons_mk (shut_string Tryd.underlying9 g0) trodAll_mk0), rfl, bel.frame _, fun h => by cases h⟩
theorem over : Rows.FnExactTextProgSaid :=
  OpenClaim.holds_of_wide 5 Tryd.f5 rfl rfl rfl rfl rfl rfl rfl ⟨rfl, rfl, rfl, rfl, rfl⟩ rfl rfl rfl rfl rfl (by kernel_rfl) Tryd.func5 (by kernel_rfl)
    (of_decide_eq_true (by kernel_rfl)) (by unfold Func.isWrapper; first | (rw [if_pos (by decide +kernel)]; kernel_rfl) | (rw [if_neg (by decide +kernel)]; exact ⟨rfl, rfl⟩))
    (fun os started H enc _ => lifted os started H enc)
theorem card : Rows.FnExactTextProgCardSaid :=
  Claim7.holds_tied_plain_at .later [] [.data, .pinned] true (true, "0d10b14f8f9649ce6952612b220fc84140ef6226acb150368ae733839396d0b6") false over (fun _ h => by cases h) (by kernel_rfl) (fun _ h => by cases h) fnExactTextProg_row_tie rfl ⟨rfl, rfl⟩ (by kernel_rfl) rfl
    (fun f fn hf hfn => by
      obtain rfl : f = 5 := Option.some.inj ((show Tryd.prog.funcNamed "loop.example/g00679/laws.FnExactTextProg" = some 5 by kernel_rfl).symm.trans hf) |>.symm
      obtain rfl : fn = Tryd.f5 := (Option.some.inj (Tryd.func5.symm.trans hfn)).symm
      exact ⟨by kernel_rfl, fun j t ht => by
        rw [Tryd.params5] at ht
        have hm : t ∈ [9] := by simpa using Array.mem_of_getElem? ht
        have hall : ([9].all fun u => !Tryd.prog.wantsStandIn u) = true := by kernel_rfl
        exact (show Tryd.prog.wantsStandIn t = false by simpa using List.all_eq_true.1 hall t hm)⟩)
    (by kernel_rfl)
#print axioms card
end Go.Proofs.YtphikogfogejlaaDoor.fnExactTextProg
namespace Go.Proofs.YtphikogfogejlaaDoor
/-- The card, under a short name, for the claim. -/
theorem fnExactTextProg_holds : Rows.FnExactTextProgCardSaid := fnExactTextProg.card
end Go.Proofs.YtphikogfogejlaaDoor
