/-
  No cell of these rows narrows 'for every input' (looked for: loops, veiled, ifaces, maps, wideKeys, modest, calm, conditions, laid).
  DERIVED. THE GIVEN ROWS OF THIS SEAT. 3 by the template 'for every input the law returns true; each argument reads behind the call as it read before'; 0 by the template 'total and deterministic' (their statements: YteibafcohflbdaaTotals.lean).
  GIVEN WITH THE SEED: the statements are not yours to turn. If you find one false, say at which input.
  Laid BY PROGRAM, IN A SANDBOX (cutbox-rows.mjs): the forced cells as the released guide's own fill.sh prints them over the translation 26071fafa48714b4… (all of the seat's roots in one cut). By AI agents, Wed Nov 11 2026. No macro, syntax, notation, axiom, sorry.
-/
import Derived.Test.YteibafcohflbdaaChecked
import GoSem.Claim
import GoSem.ClaimJoined
import GoSem.ClaimMapViews
import Derived.JoinedTies
import Derived.KernelRfl
namespace Go.Proofs.Yteibafcohflbdaa
/- THE CELL 'sum', in the pinned program and in every row, IS THE sha256 OF THE DUMP (.gsa) THAT YteibafcohflbdaaProg.lean LOADS. Nothing in Lean hashes anything: it is a label: what it is worth is what the hold of that sum in a sandbox is worth. -/
noncomputable def Try.pinned : Pinned := { name := "yteibafcohflbdaa", sum := "26071fafa48714b4a6628ef8902ab7e8ca3be457112c4a39d5135dba2f930d91", checked := Try.checked }
namespace Rows
def none {H : Type} : Left H := { results := [], args := [] }

/-- 'laws.FnExactInstrText': WHATEVER THE INPUT: true; the input reads as it did. -/
def fnExactInstrTextSpec : ChangeSpec := { name := "fnExactInstrText", fn := fun _ => fun
  | [d] => { results := [.lit (.bool true)], args := [d] }
  | _ => none }
def fnExactInstrTextRow : OpenClaim := { program := "yteibafcohflbdaa", sum := "26071fafa48714b4a6628ef8902ab7e8ca3be457112c4a39d5135dba2f930d91", func := "loop.example/g00679/laws.FnExactInstrText", spec := "fnExactInstrText", inPlace := ["internal/abi.NoEscape", "internal/bytealg.MakeNoZero"], recurses := true, apart := false }
def FnExactInstrTextSaid : Prop := fnExactInstrTextRow.holds Try.pinned (OpenSpec.ofChange fnExactInstrTextSpec)

/-- ITS FALSE NEIGHBOUR: 'it returns false'. Refute it at one input. -/
def fnExactInstrTextWrong : ChangeSpec := { name := "fnExactInstrText", fn := fun _ => fun
  | [d] => { results := [.lit (.bool false)], args := [d] }
  | _ => none }
def FnExactInstrTextWrongFalsely : Prop := fnExactInstrTextRow.holds Try.pinned (OpenSpec.ofChange fnExactInstrTextWrong)

/-- 'laws.FnExactSelectText': WHATEVER THE INPUT: true; the input reads as it did. -/
def fnExactSelectTextSpec : ChangeSpec := { name := "fnExactSelectText", fn := fun _ => fun
  | [d] => { results := [.lit (.bool true)], args := [d] }
  | _ => none }
def fnExactSelectTextRow : OpenClaim := { program := "yteibafcohflbdaa", sum := "26071fafa48714b4a6628ef8902ab7e8ca3be457112c4a39d5135dba2f930d91", func := "loop.example/g00679/laws.FnExactSelectText", spec := "fnExactSelectText", inPlace := ["internal/abi.NoEscape", "internal/bytealg.MakeNoZero"], recurses := true, apart := false }
def FnExactSelectTextSaid : Prop := fnExactSelectTextRow.holds Try.pinned (OpenSpec.ofChange fnExactSelectTextSpec)

/-- ITS FALSE NEIGHBOUR: 'it returns false'. Refute it at one input. -/
def fnExactSelectTextWrong : ChangeSpec := { name := "fnExactSelectText", fn := fun _ => fun
  | [d] => { results := [.lit (.bool false)], args := [d] }
  | _ => none }
def FnExactSelectTextWrongFalsely : Prop := fnExactSelectTextRow.holds Try.pinned (OpenSpec.ofChange fnExactSelectTextWrong)

/-- 'laws.FnExactProgText': WHATEVER THE INPUT: true; the input reads as it did. -/
def fnExactProgTextSpec : ChangeSpec := { name := "fnExactProgText", fn := fun _ => fun
  | [d] => { results := [.lit (.bool true)], args := [d] }
  | _ => none }
def fnExactProgTextRow : OpenClaim := { program := "yteibafcohflbdaa", sum := "26071fafa48714b4a6628ef8902ab7e8ca3be457112c4a39d5135dba2f930d91", func := "loop.example/g00679/laws.FnExactProgText", spec := "fnExactProgText", inPlace := ["internal/abi.NoEscape", "internal/bytealg.MakeNoZero"], recurses := true, apart := false }
def FnExactProgTextSaid : Prop := fnExactProgTextRow.holds Try.pinned (OpenSpec.ofChange fnExactProgTextSpec)

/-- ITS FALSE NEIGHBOUR: 'it returns false'. Refute it at one input. -/
def fnExactProgTextWrong : ChangeSpec := { name := "fnExactProgText", fn := fun _ => fun
  | [d] => { results := [.lit (.bool false)], args := [d] }
  | _ => none }
def FnExactProgTextWrongFalsely : Prop := fnExactProgTextRow.holds Try.pinned (OpenSpec.ofChange fnExactProgTextWrong)

/- THE SECOND FORM. 'bulk': how many values and letters a reading holds, each counted each time it is reached (what is shared counts as often as it is met; a slice's spare places count too). A statement '..UptoSaid' is the law's where the arguments, and the package variables that the reading takes, are together of bulk at most 1048576: NARROWER than '..Said'. Prove '..Said' where nothing that the law and all that it calls make is longer than what came in: it says more and counts as full. Else prove '..UptoSaid'. A law counts once. -/
mutual
def uptoBulk {H : Type} : DataW H → Nat
  | .lit (.string bytes) => bytes.length + 1
  | .lit _ => 1
  | .nil => 1
  | .ptr d => uptoBulk d + 1
  | .slice elems spare => uptoBulkAll elems + uptoBulkAll spare + 1
  | .agg parts => uptoBulkAll parts + 1
  | .iface _ d => uptoBulk d + 1
  | .map entries => uptoBulkEntries entries + 1
  | .held _ => 1
def uptoBulkAll {H : Type} : List (DataW H) → Nat
  | [] => 0
  | d :: r => uptoBulk d + uptoBulkAll r
def uptoBulkEntries {H : Type} : List (Lit × DataW H) → Nat
  | [] => 0
  | x :: r => uptoBulkEntry x + uptoBulkEntries r
def uptoBulkEntry {H : Type} : Lit × DataW H → Nat
  | (.string bytes, d) => bytes.length + uptoBulk d + 1
  | (_, d) => uptoBulk d + 1
 end
def uptoSmall : (H : Type) → List (DataW H) → Bool := fun _ ds => decide (uptoBulkAll ds ≤ 1048576)
def OpenSpec.upto (s : _root_.Go.ChangeSpec) : _root_.Go.OpenSpec := { _root_.Go.OpenSpec.ofChange s with cond := some uptoSmall }

/-- 'laws.FnExactInstrText', WHERE WHAT IT READS IS OF BULK AT MOST 1048576: true; the input reads as it did. -/
def fnExactInstrTextUptoRow : OpenClaim := { program := "yteibafcohflbdaa", sum := "26071fafa48714b4a6628ef8902ab7e8ca3be457112c4a39d5135dba2f930d91", func := "loop.example/g00679/laws.FnExactInstrText", spec := "fnExactInstrText", inPlace := ["internal/abi.NoEscape", "internal/bytealg.MakeNoZero"], recurses := true, apart := false, narrowed := true }
def FnExactInstrTextUptoSaid : Prop := fnExactInstrTextUptoRow.holds Try.pinned (OpenSpec.upto fnExactInstrTextSpec)

/-- 'laws.FnExactSelectText', WHERE WHAT IT READS IS OF BULK AT MOST 1048576: true; the input reads as it did. -/
def fnExactSelectTextUptoRow : OpenClaim := { program := "yteibafcohflbdaa", sum := "26071fafa48714b4a6628ef8902ab7e8ca3be457112c4a39d5135dba2f930d91", func := "loop.example/g00679/laws.FnExactSelectText", spec := "fnExactSelectText", inPlace := ["internal/abi.NoEscape", "internal/bytealg.MakeNoZero"], recurses := true, apart := false, narrowed := true }
def FnExactSelectTextUptoSaid : Prop := fnExactSelectTextUptoRow.holds Try.pinned (OpenSpec.upto fnExactSelectTextSpec)

/-- 'laws.FnExactProgText', WHERE WHAT IT READS IS OF BULK AT MOST 1048576: true; the input reads as it did. -/
def fnExactProgTextUptoRow : OpenClaim := { program := "yteibafcohflbdaa", sum := "26071fafa48714b4a6628ef8902ab7e8ca3be457112c4a39d5135dba2f930d91", func := "loop.example/g00679/laws.FnExactProgText", spec := "fnExactProgText", inPlace := ["internal/abi.NoEscape", "internal/bytealg.MakeNoZero"], recurses := true, apart := false, narrowed := true }
def FnExactProgTextUptoSaid : Prop := fnExactProgTextUptoRow.holds Try.pinned (OpenSpec.upto fnExactProgTextSpec)

end Rows
end Go.Proofs.Yteibafcohflbdaa
