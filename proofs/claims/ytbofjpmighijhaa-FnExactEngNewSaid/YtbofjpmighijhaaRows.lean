/-
  No cell of these rows narrows 'for every input' (looked for: loops, veiled, ifaces, maps, wideKeys, modest, calm, conditions, laid).
  DERIVED. THE GIVEN ROWS OF THIS SEAT. 7 by the template 'for every input the law returns true; each argument reads behind the call as it read before'; 0 by the template 'total and deterministic' (their statements: YtbofjpmighijhaaTotals.lean).
  GIVEN WITH THE SEED: the statements are not yours to turn. If you find one false, say at which input.
  Laid BY PROGRAM, IN A SANDBOX (cutbox-rows.mjs): the forced cells as the released guide's own fill.sh prints them over the translation b632c5feba39c72f… (all of the seat's roots in one cut). By AI agents, Wed Nov 11 2026. No macro, syntax, notation, axiom, sorry.
-/
import Derived.Test.YtbofjpmighijhaaChecked
import GoSem.Claim
import GoSem.ClaimJoined
import GoSem.ClaimMapViews
import Derived.JoinedTies
import Derived.KernelRfl
namespace Go.Proofs.Ytbofjpmighijhaa
/- THE CELL 'sum', in the pinned program and in every row, IS THE sha256 OF THE DUMP (.gsa) THAT YtbofjpmighijhaaProg.lean LOADS. Nothing in Lean hashes anything: it is a label: what it is worth is what the hold of that sum in a sandbox is worth. -/
noncomputable def Try.pinned : Pinned := { name := "ytbofjpmighijhaa", sum := "b632c5feba39c72fbc363270110f5f5e30161fb4db4200e9b8005581006055ce", checked := Try.checked }
namespace Rows
def none {H : Type} : Left H := { results := [], args := [] }

/-- 'laws.FnExactInstrs': WHATEVER THE INPUT: true; the input reads as it did. -/
def fnExactInstrsSpec : ChangeSpec := { name := "fnExactInstrs", fn := fun _ => fun
  | [d1, d2] => { results := [.lit (.bool true)], args := [d1, d2] }
  | _ => none }
def fnExactInstrsRow : OpenClaim := { program := "ytbofjpmighijhaa", sum := "b632c5feba39c72fbc363270110f5f5e30161fb4db4200e9b8005581006055ce", func := "loop.example/g00679/laws.FnExactInstrs", spec := "fnExactInstrs", apart := false }
def FnExactInstrsSaid : Prop := fnExactInstrsRow.holds Try.pinned (OpenSpec.ofChange fnExactInstrsSpec)

/-- ITS FALSE NEIGHBOUR: 'it returns false'. Refute it at one input. -/
def fnExactInstrsWrong : ChangeSpec := { name := "fnExactInstrs", fn := fun _ => fun
  | [d1, d2] => { results := [.lit (.bool false)], args := [d1, d2] }
  | _ => none }
def FnExactInstrsWrongFalsely : Prop := fnExactInstrsRow.holds Try.pinned (OpenSpec.ofChange fnExactInstrsWrong)

/-- 'laws.FnExactProgOk': WHATEVER THE INPUT: true; the input reads as it did. -/
def fnExactProgOkSpec : ChangeSpec := { name := "fnExactProgOk", fn := fun _ => fun
  | [d] => { results := [.lit (.bool true)], args := [d] }
  | _ => none }
def fnExactProgOkRow : OpenClaim := { program := "ytbofjpmighijhaa", sum := "b632c5feba39c72fbc363270110f5f5e30161fb4db4200e9b8005581006055ce", func := "loop.example/g00679/laws.FnExactProgOk", spec := "fnExactProgOk", apart := false }
def FnExactProgOkSaid : Prop := fnExactProgOkRow.holds Try.pinned (OpenSpec.ofChange fnExactProgOkSpec)

/-- ITS FALSE NEIGHBOUR: 'it returns false'. Refute it at one input. -/
def fnExactProgOkWrong : ChangeSpec := { name := "fnExactProgOk", fn := fun _ => fun
  | [d] => { results := [.lit (.bool false)], args := [d] }
  | _ => none }
def FnExactProgOkWrongFalsely : Prop := fnExactProgOkRow.holds Try.pinned (OpenSpec.ofChange fnExactProgOkWrong)

/-- 'laws.FnExactProgNums': WHATEVER THE INPUT: true; the input reads as it did. -/
def fnExactProgNumsSpec : ChangeSpec := { name := "fnExactProgNums", fn := fun _ => fun
  | [d] => { results := [.lit (.bool true)], args := [d] }
  | _ => none }
def fnExactProgNumsRow : OpenClaim := { program := "ytbofjpmighijhaa", sum := "b632c5feba39c72fbc363270110f5f5e30161fb4db4200e9b8005581006055ce", func := "loop.example/g00679/laws.FnExactProgNums", spec := "fnExactProgNums", apart := false }
def FnExactProgNumsSaid : Prop := fnExactProgNumsRow.holds Try.pinned (OpenSpec.ofChange fnExactProgNumsSpec)

/-- ITS FALSE NEIGHBOUR: 'it returns false'. Refute it at one input. -/
def fnExactProgNumsWrong : ChangeSpec := { name := "fnExactProgNums", fn := fun _ => fun
  | [d] => { results := [.lit (.bool false)], args := [d] }
  | _ => none }
def FnExactProgNumsWrongFalsely : Prop := fnExactProgNumsRow.holds Try.pinned (OpenSpec.ofChange fnExactProgNumsWrong)

/-- 'laws.FnExactPrint': WHATEVER THE INPUT: true; the input reads as it did. -/
def fnExactPrintSpec : ChangeSpec := { name := "fnExactPrint", fn := fun _ => fun
  | [d] => { results := [.lit (.bool true)], args := [d] }
  | _ => none }
def fnExactPrintRow : OpenClaim := { program := "ytbofjpmighijhaa", sum := "b632c5feba39c72fbc363270110f5f5e30161fb4db4200e9b8005581006055ce", func := "loop.example/g00679/laws.FnExactPrint", spec := "fnExactPrint", apart := false }
def FnExactPrintSaid : Prop := fnExactPrintRow.holds Try.pinned (OpenSpec.ofChange fnExactPrintSpec)

/-- ITS FALSE NEIGHBOUR: 'it returns false'. Refute it at one input. -/
def fnExactPrintWrong : ChangeSpec := { name := "fnExactPrint", fn := fun _ => fun
  | [d] => { results := [.lit (.bool false)], args := [d] }
  | _ => none }
def FnExactPrintWrongFalsely : Prop := fnExactPrintRow.holds Try.pinned (OpenSpec.ofChange fnExactPrintWrong)

/-- 'laws.FnExactGorOk': WHATEVER THE INPUT: true; the input reads as it did. -/
def fnExactGorOkSpec : ChangeSpec := { name := "fnExactGorOk", fn := fun _ => fun
  | [d1, d2] => { results := [.lit (.bool true)], args := [d1, d2] }
  | _ => none }
def fnExactGorOkRow : OpenClaim := { program := "ytbofjpmighijhaa", sum := "b632c5feba39c72fbc363270110f5f5e30161fb4db4200e9b8005581006055ce", func := "loop.example/g00679/laws.FnExactGorOk", spec := "fnExactGorOk", unfollowed := true, recurses := true, apart := false }
def FnExactGorOkSaid : Prop := fnExactGorOkRow.holds Try.pinned (OpenSpec.ofChange fnExactGorOkSpec)

/-- ITS FALSE NEIGHBOUR: 'it returns false'. Refute it at one input. -/
def fnExactGorOkWrong : ChangeSpec := { name := "fnExactGorOk", fn := fun _ => fun
  | [d1, d2] => { results := [.lit (.bool false)], args := [d1, d2] }
  | _ => none }
def FnExactGorOkWrongFalsely : Prop := fnExactGorOkRow.holds Try.pinned (OpenSpec.ofChange fnExactGorOkWrong)

/-- 'laws.FnExactMayWait': WHATEVER THE INPUT: true; the input reads as it did. -/
def fnExactMayWaitSpec : ChangeSpec := { name := "fnExactMayWait", fn := fun _ => fun
  | [d1, d2] => { results := [.lit (.bool true)], args := [d1, d2] }
  | _ => none }
def fnExactMayWaitRow : OpenClaim := { program := "ytbofjpmighijhaa", sum := "b632c5feba39c72fbc363270110f5f5e30161fb4db4200e9b8005581006055ce", func := "loop.example/g00679/laws.FnExactMayWait", spec := "fnExactMayWait", unfollowed := true, recurses := true, apart := false }
def FnExactMayWaitSaid : Prop := fnExactMayWaitRow.holds Try.pinned (OpenSpec.ofChange fnExactMayWaitSpec)

/-- ITS FALSE NEIGHBOUR: 'it returns false'. Refute it at one input. -/
def fnExactMayWaitWrong : ChangeSpec := { name := "fnExactMayWait", fn := fun _ => fun
  | [d1, d2] => { results := [.lit (.bool false)], args := [d1, d2] }
  | _ => none }
def FnExactMayWaitWrongFalsely : Prop := fnExactMayWaitRow.holds Try.pinned (OpenSpec.ofChange fnExactMayWaitWrong)

/-- 'laws.FnExactEngNew': WHATEVER THE INPUT: true; the input reads as it did. -/
def fnExactEngNewSpec : ChangeSpec := { name := "fnExactEngNew", fn := fun _ => fun
  | [d] => { results := [.lit (.bool true)], args := [d] }
  | _ => none }
def fnExactEngNewRow : OpenClaim := { program := "ytbofjpmighijhaa", sum := "b632c5feba39c72fbc363270110f5f5e30161fb4db4200e9b8005581006055ce", func := "loop.example/g00679/laws.FnExactEngNew", spec := "fnExactEngNew", apart := false }
def FnExactEngNewSaid : Prop := fnExactEngNewRow.holds Try.pinned (OpenSpec.ofChange fnExactEngNewSpec)

/-- ITS FALSE NEIGHBOUR: 'it returns false'. Refute it at one input. -/
def fnExactEngNewWrong : ChangeSpec := { name := "fnExactEngNew", fn := fun _ => fun
  | [d] => { results := [.lit (.bool false)], args := [d] }
  | _ => none }
def FnExactEngNewWrongFalsely : Prop := fnExactEngNewRow.holds Try.pinned (OpenSpec.ofChange fnExactEngNewWrong)

/- THE SECOND FORM. 'bulk': how many values and letters a reading holds, each counted each time it is reached (what is shared counts as often as it is met; a slice's spare places count too). A statement '..UptoSaid' is the law's where the arguments, and the package variables that the reading takes, are together of bulk at most 1048576: NARROWER than '..Said'. Prove '..Said' where nothing that the law and all that it calls make is longer than what came in: it says more and counts as full. Else prove '..UptoSaid'. A law counts once. -/
mutual
def uptoBulk {H : Type} : DataW H → Nat
  | .lit (.string bytes) => bytes.length + 1
  | .lit _ => 1
  | .nil => 1
  | .ptr d => uptoBulk d + 1
  | .slice elems spare => uptoBulkAll elems + uptoBulkAll spare + 1
  | .agg parts => uptoBulkAll parts + 1
  | .iface _ d => uptoBulk d + 1
  | .map entries => uptoBulkEntries entries + 1
  | .held _ => 1
def uptoBulkAll {H : Type} : List (DataW H) → Nat
  | [] => 0
  | d :: r => uptoBulk d + uptoBulkAll r
def uptoBulkEntries {H : Type} : List (Lit × DataW H) → Nat
  | [] => 0
  | x :: r => uptoBulkEntry x + uptoBulkEntries r
def uptoBulkEntry {H : Type} : Lit × DataW H → Nat
  | (.string bytes, d) => bytes.length + uptoBulk d + 1
  | (_, d) => uptoBulk d + 1
 end
def uptoSmall : (H : Type) → List (DataW H) → Bool := fun _ ds => decide (uptoBulkAll ds ≤ 1048576)
def OpenSpec.upto (s : _root_.Go.ChangeSpec) : _root_.Go.OpenSpec := { _root_.Go.OpenSpec.ofChange s with cond := some uptoSmall }

/-- 'laws.FnExactInstrs', WHERE WHAT IT READS IS OF BULK AT MOST 1048576: true; the input reads as it did. -/
def fnExactInstrsUptoRow : OpenClaim := { program := "ytbofjpmighijhaa", sum := "b632c5feba39c72fbc363270110f5f5e30161fb4db4200e9b8005581006055ce", func := "loop.example/g00679/laws.FnExactInstrs", spec := "fnExactInstrs", apart := false, narrowed := true }
def FnExactInstrsUptoSaid : Prop := fnExactInstrsUptoRow.holds Try.pinned (OpenSpec.upto fnExactInstrsSpec)

/-- 'laws.FnExactProgOk', WHERE WHAT IT READS IS OF BULK AT MOST 1048576: true; the input reads as it did. -/
def fnExactProgOkUptoRow : OpenClaim := { program := "ytbofjpmighijhaa", sum := "b632c5feba39c72fbc363270110f5f5e30161fb4db4200e9b8005581006055ce", func := "loop.example/g00679/laws.FnExactProgOk", spec := "fnExactProgOk", apart := false, narrowed := true }
def FnExactProgOkUptoSaid : Prop := fnExactProgOkUptoRow.holds Try.pinned (OpenSpec.upto fnExactProgOkSpec)

/-- 'laws.FnExactProgNums', WHERE WHAT IT READS IS OF BULK AT MOST 1048576: true; the input reads as it did. -/
def fnExactProgNumsUptoRow : OpenClaim := { program := "ytbofjpmighijhaa", sum := "b632c5feba39c72fbc363270110f5f5e30161fb4db4200e9b8005581006055ce", func := "loop.example/g00679/laws.FnExactProgNums", spec := "fnExactProgNums", apart := false, narrowed := true }
def FnExactProgNumsUptoSaid : Prop := fnExactProgNumsUptoRow.holds Try.pinned (OpenSpec.upto fnExactProgNumsSpec)

/-- 'laws.FnExactPrint', WHERE WHAT IT READS IS OF BULK AT MOST 1048576: true; the input reads as it did. -/
def fnExactPrintUptoRow : OpenClaim := { program := "ytbofjpmighijhaa", sum := "b632c5feba39c72fbc363270110f5f5e30161fb4db4200e9b8005581006055ce", func := "loop.example/g00679/laws.FnExactPrint", spec := "fnExactPrint", apart := false, narrowed := true }
def FnExactPrintUptoSaid : Prop := fnExactPrintUptoRow.holds Try.pinned (OpenSpec.upto fnExactPrintSpec)

/-- 'laws.FnExactGorOk', WHERE WHAT IT READS IS OF BULK AT MOST 1048576: true; the input reads as it did. -/
def fnExactGorOkUptoRow : OpenClaim := { program := "ytbofjpmighijhaa", sum := "b632c5feba39c72fbc363270110f5f5e30161fb4db4200e9b8005581006055ce", func := "loop.example/g00679/laws.FnExactGorOk", spec := "fnExactGorOk", unfollowed := true, recurses := true, apart := false, narrowed := true }
def FnExactGorOkUptoSaid : Prop := fnExactGorOkUptoRow.holds Try.pinned (OpenSpec.upto fnExactGorOkSpec)

/-- 'laws.FnExactMayWait', WHERE WHAT IT READS IS OF BULK AT MOST 1048576: true; the input reads as it did. -/
def fnExactMayWaitUptoRow : OpenClaim := { program := "ytbofjpmighijhaa", sum := "b632c5feba39c72fbc363270110f5f5e30161fb4db4200e9b8005581006055ce", func := "loop.example/g00679/laws.FnExactMayWait", spec := "fnExactMayWait", unfollowed := true, recurses := true, apart := false, narrowed := true }
def FnExactMayWaitUptoSaid : Prop := fnExactMayWaitUptoRow.holds Try.pinned (OpenSpec.upto fnExactMayWaitSpec)

/-- 'laws.FnExactEngNew', WHERE WHAT IT READS IS OF BULK AT MOST 1048576: true; the input reads as it did. -/
def fnExactEngNewUptoRow : OpenClaim := { program := "ytbofjpmighijhaa", sum := "b632c5feba39c72fbc363270110f5f5e30161fb4db4200e9b8005581006055ce", func := "loop.example/g00679/laws.FnExactEngNew", spec := "fnExactEngNew", apart := false, narrowed := true }
def FnExactEngNewUptoSaid : Prop := fnExactEngNewUptoRow.holds Try.pinned (OpenSpec.upto fnExactEngNewSpec)

end Rows
end Go.Proofs.Ytbofjpmighijhaa
