/-
  No cell of these rows narrows 'for every input' (looked for: loops, veiled, ifaces, maps, wideKeys, modest, calm, conditions, laid).
  DERIVED. THE GIVEN ROWS OF THIS SEAT. 12 by the template 'for every input the law returns true; each argument reads behind the call as it read before'; 0 by the template 'total and deterministic' (their statements: YtnmcffcjilldfaaTotals.lean).
  GIVEN WITH THE SEED: the statements are not yours to turn. If you find one false, say at which input.
  Laid BY PROGRAM, IN A SANDBOX (cutbox-rows.mjs): the forced cells as the released guide's own fill.sh prints them over the translation b94174b9972e4ff1… (all of the seat's roots in one cut). By AI agents, Wed Nov 11 2026. No macro, syntax, notation, axiom, sorry.
-/
import Derived.Test.YtnmcffcjilldfaaChecked
import GoSem.Claim
import GoSem.ClaimJoined
import GoSem.ClaimMapViews
import Derived.JoinedTies
import Derived.KernelRfl
namespace Go.Proofs.Ytnmcffcjilldfaa
/- THE CELL 'sum', in the pinned program and in every row, IS THE sha256 OF THE DUMP (.gsa) THAT YtnmcffcjilldfaaProg.lean LOADS. Nothing in Lean hashes anything: it is a label: what it is worth is what the hold of that sum in a sandbox is worth. -/
noncomputable def Try.pinned : Pinned := { name := "ytnmcffcjilldfaa", sum := "b94174b9972e4ff1fb6a82f1e3a3543001750c1600e1b020716323e7b3d351d5", checked := Try.checked }
namespace Rows
def none {H : Type} : Left H := { results := [], args := [] }

/-- 'laws.FnExactConstants': WHATEVER THE INPUT: true; the input reads as it did. -/
def fnExactConstantsSpec : ChangeSpec := { name := "fnExactConstants", fn := fun _ => fun
  | [] => { results := [.lit (.bool true)], args := [] }
  | _ => none }
def fnExactConstantsRow : OpenClaim := { program := "ytnmcffcjilldfaa", sum := "b94174b9972e4ff1fb6a82f1e3a3543001750c1600e1b020716323e7b3d351d5", func := "loop.example/g00679/laws.FnExactConstants", spec := "fnExactConstants", apart := false }
def FnExactConstantsSaid : Prop := fnExactConstantsRow.holds Try.pinned (OpenSpec.ofChange fnExactConstantsSpec)

/-- ITS FALSE NEIGHBOUR: 'it returns false'. Refute it at one input. -/
def fnExactConstantsWrong : ChangeSpec := { name := "fnExactConstants", fn := fun _ => fun
  | [] => { results := [.lit (.bool false)], args := [] }
  | _ => none }
def FnExactConstantsWrongFalsely : Prop := fnExactConstantsRow.holds Try.pinned (OpenSpec.ofChange fnExactConstantsWrong)

/-- 'laws.FnExactShared': WHATEVER THE INPUT: true; the input reads as it did. -/
def fnExactSharedSpec : ChangeSpec := { name := "fnExactShared", fn := fun _ => fun
  | [d] => { results := [.lit (.bool true)], args := [d] }
  | _ => none }
def fnExactSharedRow : OpenClaim := { program := "ytnmcffcjilldfaa", sum := "b94174b9972e4ff1fb6a82f1e3a3543001750c1600e1b020716323e7b3d351d5", func := "loop.example/g00679/laws.FnExactShared", spec := "fnExactShared", apart := false }
def FnExactSharedSaid : Prop := fnExactSharedRow.holds Try.pinned (OpenSpec.ofChange fnExactSharedSpec)

/-- ITS FALSE NEIGHBOUR: 'it returns false'. Refute it at one input. -/
def fnExactSharedWrong : ChangeSpec := { name := "fnExactShared", fn := fun _ => fun
  | [d] => { results := [.lit (.bool false)], args := [d] }
  | _ => none }
def FnExactSharedWrongFalsely : Prop := fnExactSharedRow.holds Try.pinned (OpenSpec.ofChange fnExactSharedWrong)

/-- 'laws.FnExactOpWord': WHATEVER THE INPUT: true; the input reads as it did. -/
def fnExactOpWordSpec : ChangeSpec := { name := "fnExactOpWord", fn := fun _ => fun
  | [d] => { results := [.lit (.bool true)], args := [d] }
  | _ => none }
def fnExactOpWordRow : OpenClaim := { program := "ytnmcffcjilldfaa", sum := "b94174b9972e4ff1fb6a82f1e3a3543001750c1600e1b020716323e7b3d351d5", func := "loop.example/g00679/laws.FnExactOpWord", spec := "fnExactOpWord", apart := false }
def FnExactOpWordSaid : Prop := fnExactOpWordRow.holds Try.pinned (OpenSpec.ofChange fnExactOpWordSpec)

/-- ITS FALSE NEIGHBOUR: 'it returns false'. Refute it at one input. -/
def fnExactOpWordWrong : ChangeSpec := { name := "fnExactOpWord", fn := fun _ => fun
  | [d] => { results := [.lit (.bool false)], args := [d] }
  | _ => none }
def FnExactOpWordWrongFalsely : Prop := fnExactOpWordRow.holds Try.pinned (OpenSpec.ofChange fnExactOpWordWrong)

/-- 'laws.FnExactMod': WHATEVER THE INPUT: true; the input reads as it did. -/
def fnExactModSpec : ChangeSpec := { name := "fnExactMod", fn := fun _ => fun
  | [d1, d2] => { results := [.lit (.bool true)], args := [d1, d2] }
  | _ => none }
def fnExactModRow : OpenClaim := { program := "ytnmcffcjilldfaa", sum := "b94174b9972e4ff1fb6a82f1e3a3543001750c1600e1b020716323e7b3d351d5", func := "loop.example/g00679/laws.FnExactMod", spec := "fnExactMod", apart := false }
def FnExactModSaid : Prop := fnExactModRow.holds Try.pinned (OpenSpec.ofChange fnExactModSpec)

/-- ITS FALSE NEIGHBOUR: 'it returns false'. Refute it at one input. -/
def fnExactModWrong : ChangeSpec := { name := "fnExactMod", fn := fun _ => fun
  | [d1, d2] => { results := [.lit (.bool false)], args := [d1, d2] }
  | _ => none }
def FnExactModWrongFalsely : Prop := fnExactModRow.holds Try.pinned (OpenSpec.ofChange fnExactModWrong)

/-- 'laws.FnExactNumText': WHATEVER THE INPUT: true; the input reads as it did. -/
def fnExactNumTextSpec : ChangeSpec := { name := "fnExactNumText", fn := fun _ => fun
  | [d] => { results := [.lit (.bool true)], args := [d] }
  | _ => none }
def fnExactNumTextRow : OpenClaim := { program := "ytnmcffcjilldfaa", sum := "b94174b9972e4ff1fb6a82f1e3a3543001750c1600e1b020716323e7b3d351d5", func := "loop.example/g00679/laws.FnExactNumText", spec := "fnExactNumText", recurses := true, apart := false }
def FnExactNumTextSaid : Prop := fnExactNumTextRow.holds Try.pinned (OpenSpec.ofChange fnExactNumTextSpec)

/-- ITS FALSE NEIGHBOUR: 'it returns false'. Refute it at one input. -/
def fnExactNumTextWrong : ChangeSpec := { name := "fnExactNumText", fn := fun _ => fun
  | [d] => { results := [.lit (.bool false)], args := [d] }
  | _ => none }
def FnExactNumTextWrongFalsely : Prop := fnExactNumTextRow.holds Try.pinned (OpenSpec.ofChange fnExactNumTextWrong)

/-- 'laws.FnExactFields': WHATEVER THE INPUT: true; the input reads as it did. -/
def fnExactFieldsSpec : ChangeSpec := { name := "fnExactFields", fn := fun _ => fun
  | [d] => { results := [.lit (.bool true)], args := [d] }
  | _ => none }
def fnExactFieldsRow : OpenClaim := { program := "ytnmcffcjilldfaa", sum := "b94174b9972e4ff1fb6a82f1e3a3543001750c1600e1b020716323e7b3d351d5", func := "loop.example/g00679/laws.FnExactFields", spec := "fnExactFields", apart := false }
def FnExactFieldsSaid : Prop := fnExactFieldsRow.holds Try.pinned (OpenSpec.ofChange fnExactFieldsSpec)

/-- ITS FALSE NEIGHBOUR: 'it returns false'. Refute it at one input. -/
def fnExactFieldsWrong : ChangeSpec := { name := "fnExactFields", fn := fun _ => fun
  | [d] => { results := [.lit (.bool false)], args := [d] }
  | _ => none }
def FnExactFieldsWrongFalsely : Prop := fnExactFieldsRow.holds Try.pinned (OpenSpec.ofChange fnExactFieldsWrong)

/-- 'laws.FnExactCrc': WHATEVER THE INPUT: true; the input reads as it did. -/
def fnExactCrcSpec : ChangeSpec := { name := "fnExactCrc", fn := fun _ => fun
  | [d] => { results := [.lit (.bool true)], args := [d] }
  | _ => none }
def fnExactCrcRow : OpenClaim := { program := "ytnmcffcjilldfaa", sum := "b94174b9972e4ff1fb6a82f1e3a3543001750c1600e1b020716323e7b3d351d5", func := "loop.example/g00679/laws.FnExactCrc", spec := "fnExactCrc", apart := false }
def FnExactCrcSaid : Prop := fnExactCrcRow.holds Try.pinned (OpenSpec.ofChange fnExactCrcSpec)

/-- ITS FALSE NEIGHBOUR: 'it returns false'. Refute it at one input. -/
def fnExactCrcWrong : ChangeSpec := { name := "fnExactCrc", fn := fun _ => fun
  | [d] => { results := [.lit (.bool false)], args := [d] }
  | _ => none }
def FnExactCrcWrongFalsely : Prop := fnExactCrcRow.holds Try.pinned (OpenSpec.ofChange fnExactCrcWrong)

/-- 'laws.FnExactMutexNew': WHATEVER THE INPUT: true; the input reads as it did. -/
def fnExactMutexNewSpec : ChangeSpec := { name := "fnExactMutexNew", fn := fun _ => fun
  | [] => { results := [.lit (.bool true)], args := [] }
  | _ => none }
def fnExactMutexNewRow : OpenClaim := { program := "ytnmcffcjilldfaa", sum := "b94174b9972e4ff1fb6a82f1e3a3543001750c1600e1b020716323e7b3d351d5", func := "loop.example/g00679/laws.FnExactMutexNew", spec := "fnExactMutexNew", apart := false }
def FnExactMutexNewSaid : Prop := fnExactMutexNewRow.holds Try.pinned (OpenSpec.ofChange fnExactMutexNewSpec)

/-- ITS FALSE NEIGHBOUR: 'it returns false'. Refute it at one input. -/
def fnExactMutexNewWrong : ChangeSpec := { name := "fnExactMutexNew", fn := fun _ => fun
  | [] => { results := [.lit (.bool false)], args := [] }
  | _ => none }
def FnExactMutexNewWrongFalsely : Prop := fnExactMutexNewRow.holds Try.pinned (OpenSpec.ofChange fnExactMutexNewWrong)

/-- 'laws.FnExactItemOk': WHATEVER THE INPUT: true; the input reads as it did. -/
def fnExactItemOkSpec : ChangeSpec := { name := "fnExactItemOk", fn := fun _ => fun
  | [d] => { results := [.lit (.bool true)], args := [d] }
  | _ => none }
def fnExactItemOkRow : OpenClaim := { program := "ytnmcffcjilldfaa", sum := "b94174b9972e4ff1fb6a82f1e3a3543001750c1600e1b020716323e7b3d351d5", func := "loop.example/g00679/laws.FnExactItemOk", spec := "fnExactItemOk", apart := false }
def FnExactItemOkSaid : Prop := fnExactItemOkRow.holds Try.pinned (OpenSpec.ofChange fnExactItemOkSpec)

/-- ITS FALSE NEIGHBOUR: 'it returns false'. Refute it at one input. -/
def fnExactItemOkWrong : ChangeSpec := { name := "fnExactItemOk", fn := fun _ => fun
  | [d] => { results := [.lit (.bool false)], args := [d] }
  | _ => none }
def FnExactItemOkWrongFalsely : Prop := fnExactItemOkRow.holds Try.pinned (OpenSpec.ofChange fnExactItemOkWrong)

/-- 'laws.FnExactTextNum': WHATEVER THE INPUT: true; the input reads as it did. -/
def fnExactTextNumSpec : ChangeSpec := { name := "fnExactTextNum", fn := fun _ => fun
  | [d] => { results := [.lit (.bool true)], args := [d] }
  | _ => none }
def fnExactTextNumRow : OpenClaim := { program := "ytnmcffcjilldfaa", sum := "b94174b9972e4ff1fb6a82f1e3a3543001750c1600e1b020716323e7b3d351d5", func := "loop.example/g00679/laws.FnExactTextNum", spec := "fnExactTextNum", recurses := true, apart := false }
def FnExactTextNumSaid : Prop := fnExactTextNumRow.holds Try.pinned (OpenSpec.ofChange fnExactTextNumSpec)

/-- ITS FALSE NEIGHBOUR: 'it returns false'. Refute it at one input. -/
def fnExactTextNumWrong : ChangeSpec := { name := "fnExactTextNum", fn := fun _ => fun
  | [d] => { results := [.lit (.bool false)], args := [d] }
  | _ => none }
def FnExactTextNumWrongFalsely : Prop := fnExactTextNumRow.holds Try.pinned (OpenSpec.ofChange fnExactTextNumWrong)

/-- 'laws.FnExactCalc': WHATEVER THE INPUT: true; the input reads as it did. -/
def fnExactCalcSpec : ChangeSpec := { name := "fnExactCalc", fn := fun _ => fun
  | [d1, d2, d3] => { results := [.lit (.bool true)], args := [d1, d2, d3] }
  | _ => none }
def fnExactCalcRow : OpenClaim := { program := "ytnmcffcjilldfaa", sum := "b94174b9972e4ff1fb6a82f1e3a3543001750c1600e1b020716323e7b3d351d5", func := "loop.example/g00679/laws.FnExactCalc", spec := "fnExactCalc", apart := false }
def FnExactCalcSaid : Prop := fnExactCalcRow.holds Try.pinned (OpenSpec.ofChange fnExactCalcSpec)

/-- ITS FALSE NEIGHBOUR: 'it returns false'. Refute it at one input. -/
def fnExactCalcWrong : ChangeSpec := { name := "fnExactCalc", fn := fun _ => fun
  | [d1, d2, d3] => { results := [.lit (.bool false)], args := [d1, d2, d3] }
  | _ => none }
def FnExactCalcWrongFalsely : Prop := fnExactCalcRow.holds Try.pinned (OpenSpec.ofChange fnExactCalcWrong)

/-- 'laws.FnExactPutVar': WHATEVER THE INPUT: true; the input reads as it did. -/
def fnExactPutVarSpec : ChangeSpec := { name := "fnExactPutVar", fn := fun _ => fun
  | [d1, d2] => { results := [.lit (.bool true)], args := [d1, d2] }
  | _ => none }
def fnExactPutVarRow : OpenClaim := { program := "ytnmcffcjilldfaa", sum := "b94174b9972e4ff1fb6a82f1e3a3543001750c1600e1b020716323e7b3d351d5", func := "loop.example/g00679/laws.FnExactPutVar", spec := "fnExactPutVar", apart := false }
def FnExactPutVarSaid : Prop := fnExactPutVarRow.holds Try.pinned (OpenSpec.ofChange fnExactPutVarSpec)

/-- ITS FALSE NEIGHBOUR: 'it returns false'. Refute it at one input. -/
def fnExactPutVarWrong : ChangeSpec := { name := "fnExactPutVar", fn := fun _ => fun
  | [d1, d2] => { results := [.lit (.bool false)], args := [d1, d2] }
  | _ => none }
def FnExactPutVarWrongFalsely : Prop := fnExactPutVarRow.holds Try.pinned (OpenSpec.ofChange fnExactPutVarWrong)

/- THE SECOND FORM. 'bulk': how many values and letters a reading holds, each counted each time it is reached (what is shared counts as often as it is met; a slice's spare places count too). A statement '..UptoSaid' is the law's where the arguments, and the package variables that the reading takes, are together of bulk at most 1048576: NARROWER than '..Said'. Prove '..Said' where nothing that the law and all that it calls make is longer than what came in: it says more and counts as full. Else prove '..UptoSaid'. A law counts once. -/
mutual
def uptoBulk {H : Type} : DataW H → Nat
  | .lit (.string bytes) => bytes.length + 1
  | .lit _ => 1
  | .nil => 1
  | .ptr d => uptoBulk d + 1
  | .slice elems spare => uptoBulkAll elems + uptoBulkAll spare + 1
  | .agg parts => uptoBulkAll parts + 1
  | .iface _ d => uptoBulk d + 1
  | .map entries => uptoBulkEntries entries + 1
  | .held _ => 1
def uptoBulkAll {H : Type} : List (DataW H) → Nat
  | [] => 0
  | d :: r => uptoBulk d + uptoBulkAll r
def uptoBulkEntries {H : Type} : List (Lit × DataW H) → Nat
  | [] => 0
  | x :: r => uptoBulkEntry x + uptoBulkEntries r
def uptoBulkEntry {H : Type} : Lit × DataW H → Nat
  | (.string bytes, d) => bytes.length + uptoBulk d + 1
  | (_, d) => uptoBulk d + 1
 end
def uptoSmall : (H : Type) → List (DataW H) → Bool := fun _ ds => decide (uptoBulkAll ds ≤ 1048576)
def OpenSpec.upto (s : _root_.Go.ChangeSpec) : _root_.Go.OpenSpec := { _root_.Go.OpenSpec.ofChange s with cond := some uptoSmall }

/-- 'laws.FnExactConstants', WHERE WHAT IT READS IS OF BULK AT MOST 1048576: true; the input reads as it did. -/
def fnExactConstantsUptoRow : OpenClaim := { program := "ytnmcffcjilldfaa", sum := "b94174b9972e4ff1fb6a82f1e3a3543001750c1600e1b020716323e7b3d351d5", func := "loop.example/g00679/laws.FnExactConstants", spec := "fnExactConstants", apart := false, narrowed := true }
def FnExactConstantsUptoSaid : Prop := fnExactConstantsUptoRow.holds Try.pinned (OpenSpec.upto fnExactConstantsSpec)

/-- 'laws.FnExactShared', WHERE WHAT IT READS IS OF BULK AT MOST 1048576: true; the input reads as it did. -/
def fnExactSharedUptoRow : OpenClaim := { program := "ytnmcffcjilldfaa", sum := "b94174b9972e4ff1fb6a82f1e3a3543001750c1600e1b020716323e7b3d351d5", func := "loop.example/g00679/laws.FnExactShared", spec := "fnExactShared", apart := false, narrowed := true }
def FnExactSharedUptoSaid : Prop := fnExactSharedUptoRow.holds Try.pinned (OpenSpec.upto fnExactSharedSpec)

/-- 'laws.FnExactOpWord', WHERE WHAT IT READS IS OF BULK AT MOST 1048576: true; the input reads as it did. -/
def fnExactOpWordUptoRow : OpenClaim := { program := "ytnmcffcjilldfaa", sum := "b94174b9972e4ff1fb6a82f1e3a3543001750c1600e1b020716323e7b3d351d5", func := "loop.example/g00679/laws.FnExactOpWord", spec := "fnExactOpWord", apart := false, narrowed := true }
def FnExactOpWordUptoSaid : Prop := fnExactOpWordUptoRow.holds Try.pinned (OpenSpec.upto fnExactOpWordSpec)

/-- 'laws.FnExactMod', WHERE WHAT IT READS IS OF BULK AT MOST 1048576: true; the input reads as it did. -/
def fnExactModUptoRow : OpenClaim := { program := "ytnmcffcjilldfaa", sum := "b94174b9972e4ff1fb6a82f1e3a3543001750c1600e1b020716323e7b3d351d5", func := "loop.example/g00679/laws.FnExactMod", spec := "fnExactMod", apart := false, narrowed := true }
def FnExactModUptoSaid : Prop := fnExactModUptoRow.holds Try.pinned (OpenSpec.upto fnExactModSpec)

/-- 'laws.FnExactNumText', WHERE WHAT IT READS IS OF BULK AT MOST 1048576: true; the input reads as it did. -/
def fnExactNumTextUptoRow : OpenClaim := { program := "ytnmcffcjilldfaa", sum := "b94174b9972e4ff1fb6a82f1e3a3543001750c1600e1b020716323e7b3d351d5", func := "loop.example/g00679/laws.FnExactNumText", spec := "fnExactNumText", recurses := true, apart := false, narrowed := true }
def FnExactNumTextUptoSaid : Prop := fnExactNumTextUptoRow.holds Try.pinned (OpenSpec.upto fnExactNumTextSpec)

/-- 'laws.FnExactFields', WHERE WHAT IT READS IS OF BULK AT MOST 1048576: true; the input reads as it did. -/
def fnExactFieldsUptoRow : OpenClaim := { program := "ytnmcffcjilldfaa", sum := "b94174b9972e4ff1fb6a82f1e3a3543001750c1600e1b020716323e7b3d351d5", func := "loop.example/g00679/laws.FnExactFields", spec := "fnExactFields", apart := false, narrowed := true }
def FnExactFieldsUptoSaid : Prop := fnExactFieldsUptoRow.holds Try.pinned (OpenSpec.upto fnExactFieldsSpec)

/-- 'laws.FnExactCrc', WHERE WHAT IT READS IS OF BULK AT MOST 1048576: true; the input reads as it did. -/
def fnExactCrcUptoRow : OpenClaim := { program := "ytnmcffcjilldfaa", sum := "b94174b9972e4ff1fb6a82f1e3a3543001750c1600e1b020716323e7b3d351d5", func := "loop.example/g00679/laws.FnExactCrc", spec := "fnExactCrc", apart := false, narrowed := true }
def FnExactCrcUptoSaid : Prop := fnExactCrcUptoRow.holds Try.pinned (OpenSpec.upto fnExactCrcSpec)

/-- 'laws.FnExactMutexNew', WHERE WHAT IT READS IS OF BULK AT MOST 1048576: true; the input reads as it did. -/
def fnExactMutexNewUptoRow : OpenClaim := { program := "ytnmcffcjilldfaa", sum := "b94174b9972e4ff1fb6a82f1e3a3543001750c1600e1b020716323e7b3d351d5", func := "loop.example/g00679/laws.FnExactMutexNew", spec := "fnExactMutexNew", apart := false, narrowed := true }
def FnExactMutexNewUptoSaid : Prop := fnExactMutexNewUptoRow.holds Try.pinned (OpenSpec.upto fnExactMutexNewSpec)

/-- 'laws.FnExactItemOk', WHERE WHAT IT READS IS OF BULK AT MOST 1048576: true; the input reads as it did. -/
def fnExactItemOkUptoRow : OpenClaim := { program := "ytnmcffcjilldfaa", sum := "b94174b9972e4ff1fb6a82f1e3a3543001750c1600e1b020716323e7b3d351d5", func := "loop.example/g00679/laws.FnExactItemOk", spec := "fnExactItemOk", apart := false, narrowed := true }
def FnExactItemOkUptoSaid : Prop := fnExactItemOkUptoRow.holds Try.pinned (OpenSpec.upto fnExactItemOkSpec)

/-- 'laws.FnExactTextNum', WHERE WHAT IT READS IS OF BULK AT MOST 1048576: true; the input reads as it did. -/
def fnExactTextNumUptoRow : OpenClaim := { program := "ytnmcffcjilldfaa", sum := "b94174b9972e4ff1fb6a82f1e3a3543001750c1600e1b020716323e7b3d351d5", func := "loop.example/g00679/laws.FnExactTextNum", spec := "fnExactTextNum", recurses := true, apart := false, narrowed := true }
def FnExactTextNumUptoSaid : Prop := fnExactTextNumUptoRow.holds Try.pinned (OpenSpec.upto fnExactTextNumSpec)

/-- 'laws.FnExactCalc', WHERE WHAT IT READS IS OF BULK AT MOST 1048576: true; the input reads as it did. -/
def fnExactCalcUptoRow : OpenClaim := { program := "ytnmcffcjilldfaa", sum := "b94174b9972e4ff1fb6a82f1e3a3543001750c1600e1b020716323e7b3d351d5", func := "loop.example/g00679/laws.FnExactCalc", spec := "fnExactCalc", apart := false, narrowed := true }
def FnExactCalcUptoSaid : Prop := fnExactCalcUptoRow.holds Try.pinned (OpenSpec.upto fnExactCalcSpec)

/-- 'laws.FnExactPutVar', WHERE WHAT IT READS IS OF BULK AT MOST 1048576: true; the input reads as it did. -/
def fnExactPutVarUptoRow : OpenClaim := { program := "ytnmcffcjilldfaa", sum := "b94174b9972e4ff1fb6a82f1e3a3543001750c1600e1b020716323e7b3d351d5", func := "loop.example/g00679/laws.FnExactPutVar", spec := "fnExactPutVar", apart := false, narrowed := true }
def FnExactPutVarUptoSaid : Prop := fnExactPutVarUptoRow.holds Try.pinned (OpenSpec.upto fnExactPutVarSpec)

end Rows
end Go.Proofs.Ytnmcffcjilldfaa
