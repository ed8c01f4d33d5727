/-
  No cell of these rows narrows 'for every input' (looked for: loops, veiled, ifaces, maps, wideKeys, modest, calm, conditions, laid).
  DERIVED. THE GIVEN ROWS OF THIS SEAT. 12 by the template 'for every input the law returns true; each argument reads behind the call as it read before'; 0 by the template 'total and deterministic' (their statements: YtonmkhbojmckhaaTotals.lean).
  GIVEN WITH THE SEED: the statements are not yours to turn. If you find one false, say at which input.
  Laid BY PROGRAM, IN A SANDBOX (cutbox-rows.mjs): the forced cells as the released guide's own fill.sh prints them over the translation ccf152f7e53e3538… (all of the seat's roots in one cut). By AI agents, Wed Nov 11 2026. No macro, syntax, notation, axiom, sorry.
-/
import Derived.Test.YtonmkhbojmckhaaChecked
import GoSem.Claim
import GoSem.ClaimJoined
import GoSem.ClaimMapViews
import Derived.JoinedTies
import Derived.KernelRfl
namespace Go.Proofs.Ytonmkhbojmckhaa
/- THE CELL 'sum', in the pinned program and in every row, IS THE sha256 OF THE DUMP (.gsa) THAT YtonmkhbojmckhaaProg.lean LOADS. Nothing in Lean hashes anything: it is a label: what it is worth is what the hold of that sum in a sandbox is worth. -/
noncomputable def Try.pinned : Pinned := { name := "ytonmkhbojmckhaa", sum := "ccf152f7e53e3538b13368835669793c70ae544765a13f108012f49cbdab06e4", checked := Try.checked }
namespace Rows
def none {H : Type} : Left H := { results := [], args := [] }

/-- 'laws.FnExactMutexOk': WHATEVER THE INPUT: true; the input reads as it did. -/
def fnExactMutexOkSpec : ChangeSpec := { name := "fnExactMutexOk", fn := fun _ => fun
  | [d] => { results := [.lit (.bool true)], args := [d] }
  | _ => none }
def fnExactMutexOkRow : OpenClaim := { program := "ytonmkhbojmckhaa", sum := "ccf152f7e53e3538b13368835669793c70ae544765a13f108012f49cbdab06e4", func := "loop.example/g00679/laws.FnExactMutexOk", spec := "fnExactMutexOk", apart := false }
def FnExactMutexOkSaid : Prop := fnExactMutexOkRow.holds Try.pinned (OpenSpec.ofChange fnExactMutexOkSpec)

/-- ITS FALSE NEIGHBOUR: 'it returns false'. Refute it at one input. -/
def fnExactMutexOkWrong : ChangeSpec := { name := "fnExactMutexOk", fn := fun _ => fun
  | [d] => { results := [.lit (.bool false)], args := [d] }
  | _ => none }
def FnExactMutexOkWrongFalsely : Prop := fnExactMutexOkRow.holds Try.pinned (OpenSpec.ofChange fnExactMutexOkWrong)

/-- 'laws.FnExactLock': WHATEVER THE INPUT: true; the input reads as it did. -/
def fnExactLockSpec : ChangeSpec := { name := "fnExactLock", fn := fun _ => fun
  | [d1, d2] => { results := [.lit (.bool true)], args := [d1, d2] }
  | _ => none }
def fnExactLockRow : OpenClaim := { program := "ytonmkhbojmckhaa", sum := "ccf152f7e53e3538b13368835669793c70ae544765a13f108012f49cbdab06e4", func := "loop.example/g00679/laws.FnExactLock", spec := "fnExactLock", apart := false }
def FnExactLockSaid : Prop := fnExactLockRow.holds Try.pinned (OpenSpec.ofChange fnExactLockSpec)

/-- ITS FALSE NEIGHBOUR: 'it returns false'. Refute it at one input. -/
def fnExactLockWrong : ChangeSpec := { name := "fnExactLock", fn := fun _ => fun
  | [d1, d2] => { results := [.lit (.bool false)], args := [d1, d2] }
  | _ => none }
def FnExactLockWrongFalsely : Prop := fnExactLockRow.holds Try.pinned (OpenSpec.ofChange fnExactLockWrong)

/-- 'laws.FnExactUnlock': WHATEVER THE INPUT: true; the input reads as it did. -/
def fnExactUnlockSpec : ChangeSpec := { name := "fnExactUnlock", fn := fun _ => fun
  | [d1, d2] => { results := [.lit (.bool true)], args := [d1, d2] }
  | _ => none }
def fnExactUnlockRow : OpenClaim := { program := "ytonmkhbojmckhaa", sum := "ccf152f7e53e3538b13368835669793c70ae544765a13f108012f49cbdab06e4", func := "loop.example/g00679/laws.FnExactUnlock", spec := "fnExactUnlock", apart := false }
def FnExactUnlockSaid : Prop := fnExactUnlockRow.holds Try.pinned (OpenSpec.ofChange fnExactUnlockSpec)

/-- ITS FALSE NEIGHBOUR: 'it returns false'. Refute it at one input. -/
def fnExactUnlockWrong : ChangeSpec := { name := "fnExactUnlock", fn := fun _ => fun
  | [d1, d2] => { results := [.lit (.bool false)], args := [d1, d2] }
  | _ => none }
def FnExactUnlockWrongFalsely : Prop := fnExactUnlockRow.holds Try.pinned (OpenSpec.ofChange fnExactUnlockWrong)

/-- 'laws.FnLock': WHATEVER THE INPUT: true; the input reads as it did. -/
def fnLockSpec : ChangeSpec := { name := "fnLock", fn := fun _ => fun
  | [d] => { results := [.lit (.bool true)], args := [d] }
  | _ => none }
def fnLockRow : OpenClaim := { program := "ytonmkhbojmckhaa", sum := "ccf152f7e53e3538b13368835669793c70ae544765a13f108012f49cbdab06e4", func := "loop.example/g00679/laws.FnLock", spec := "fnLock", apart := false }
def FnLockSaid : Prop := fnLockRow.holds Try.pinned (OpenSpec.ofChange fnLockSpec)

/-- ITS FALSE NEIGHBOUR: 'it returns false'. Refute it at one input. -/
def fnLockWrong : ChangeSpec := { name := "fnLock", fn := fun _ => fun
  | [d] => { results := [.lit (.bool false)], args := [d] }
  | _ => none }
def FnLockWrongFalsely : Prop := fnLockRow.holds Try.pinned (OpenSpec.ofChange fnLockWrong)

/-- 'laws.FnExactWaits': WHATEVER THE INPUT: true; the input reads as it did. -/
def fnExactWaitsSpec : ChangeSpec := { name := "fnExactWaits", fn := fun _ => fun
  | [d1, d2] => { results := [.lit (.bool true)], args := [d1, d2] }
  | _ => none }
def fnExactWaitsRow : OpenClaim := { program := "ytonmkhbojmckhaa", sum := "ccf152f7e53e3538b13368835669793c70ae544765a13f108012f49cbdab06e4", func := "loop.example/g00679/laws.FnExactWaits", spec := "fnExactWaits", unfollowed := true, recurses := true, apart := false }
def FnExactWaitsSaid : Prop := fnExactWaitsRow.holds Try.pinned (OpenSpec.ofChange fnExactWaitsSpec)

/-- ITS FALSE NEIGHBOUR: 'it returns false'. Refute it at one input. -/
def fnExactWaitsWrong : ChangeSpec := { name := "fnExactWaits", fn := fun _ => fun
  | [d1, d2] => { results := [.lit (.bool false)], args := [d1, d2] }
  | _ => none }
def FnExactWaitsWrongFalsely : Prop := fnExactWaitsRow.holds Try.pinned (OpenSpec.ofChange fnExactWaitsWrong)

/-- 'laws.FnExactDrop': WHATEVER THE INPUT: true; the input reads as it did. -/
def fnExactDropSpec : ChangeSpec := { name := "fnExactDrop", fn := fun _ => fun
  | [d1, d2] => { results := [.lit (.bool true)], args := [d1, d2] }
  | _ => none }
def fnExactDropRow : OpenClaim := { program := "ytonmkhbojmckhaa", sum := "ccf152f7e53e3538b13368835669793c70ae544765a13f108012f49cbdab06e4", func := "loop.example/g00679/laws.FnExactDrop", spec := "fnExactDrop", unfollowed := true, recurses := true, apart := false }
def FnExactDropSaid : Prop := fnExactDropRow.holds Try.pinned (OpenSpec.ofChange fnExactDropSpec)

/-- ITS FALSE NEIGHBOUR: 'it returns false'. Refute it at one input. -/
def fnExactDropWrong : ChangeSpec := { name := "fnExactDrop", fn := fun _ => fun
  | [d1, d2] => { results := [.lit (.bool false)], args := [d1, d2] }
  | _ => none }
def FnExactDropWrongFalsely : Prop := fnExactDropRow.holds Try.pinned (OpenSpec.ofChange fnExactDropWrong)

/-- 'laws.FnExactChanOk': WHATEVER THE INPUT: true; the input reads as it did. -/
def fnExactChanOkSpec : ChangeSpec := { name := "fnExactChanOk", fn := fun _ => fun
  | [d] => { results := [.lit (.bool true)], args := [d] }
  | _ => none }
def fnExactChanOkRow : OpenClaim := { program := "ytonmkhbojmckhaa", sum := "ccf152f7e53e3538b13368835669793c70ae544765a13f108012f49cbdab06e4", func := "loop.example/g00679/laws.FnExactChanOk", spec := "fnExactChanOk", unfollowed := true, recurses := true, apart := false }
def FnExactChanOkSaid : Prop := fnExactChanOkRow.holds Try.pinned (OpenSpec.ofChange fnExactChanOkSpec)

/-- ITS FALSE NEIGHBOUR: 'it returns false'. Refute it at one input. -/
def fnExactChanOkWrong : ChangeSpec := { name := "fnExactChanOk", fn := fun _ => fun
  | [d] => { results := [.lit (.bool false)], args := [d] }
  | _ => none }
def FnExactChanOkWrongFalsely : Prop := fnExactChanOkRow.holds Try.pinned (OpenSpec.ofChange fnExactChanOkWrong)

/-- 'laws.FnExactCanRecv': WHATEVER THE INPUT: true; the input reads as it did. -/
def fnExactCanRecvSpec : ChangeSpec := { name := "fnExactCanRecv", fn := fun _ => fun
  | [d] => { results := [.lit (.bool true)], args := [d] }
  | _ => none }
def fnExactCanRecvRow : OpenClaim := { program := "ytonmkhbojmckhaa", sum := "ccf152f7e53e3538b13368835669793c70ae544765a13f108012f49cbdab06e4", func := "loop.example/g00679/laws.FnExactCanRecv", spec := "fnExactCanRecv", unfollowed := true, recurses := true, apart := false }
def FnExactCanRecvSaid : Prop := fnExactCanRecvRow.holds Try.pinned (OpenSpec.ofChange fnExactCanRecvSpec)

/-- ITS FALSE NEIGHBOUR: 'it returns false'. Refute it at one input. -/
def fnExactCanRecvWrong : ChangeSpec := { name := "fnExactCanRecv", fn := fun _ => fun
  | [d] => { results := [.lit (.bool false)], args := [d] }
  | _ => none }
def FnExactCanRecvWrongFalsely : Prop := fnExactCanRecvRow.holds Try.pinned (OpenSpec.ofChange fnExactCanRecvWrong)

/-- 'laws.FnExactCanSend': WHATEVER THE INPUT: true; the input reads as it did. -/
def fnExactCanSendSpec : ChangeSpec := { name := "fnExactCanSend", fn := fun _ => fun
  | [d] => { results := [.lit (.bool true)], args := [d] }
  | _ => none }
def fnExactCanSendRow : OpenClaim := { program := "ytonmkhbojmckhaa", sum := "ccf152f7e53e3538b13368835669793c70ae544765a13f108012f49cbdab06e4", func := "loop.example/g00679/laws.FnExactCanSend", spec := "fnExactCanSend", unfollowed := true, recurses := true, apart := false }
def FnExactCanSendSaid : Prop := fnExactCanSendRow.holds Try.pinned (OpenSpec.ofChange fnExactCanSendSpec)

/-- ITS FALSE NEIGHBOUR: 'it returns false'. Refute it at one input. -/
def fnExactCanSendWrong : ChangeSpec := { name := "fnExactCanSend", fn := fun _ => fun
  | [d] => { results := [.lit (.bool false)], args := [d] }
  | _ => none }
def FnExactCanSendWrongFalsely : Prop := fnExactCanSendRow.holds Try.pinned (OpenSpec.ofChange fnExactCanSendWrong)

/-- 'laws.FnExactSendTo': WHATEVER THE INPUT: true; the input reads as it did. -/
def fnExactSendToSpec : ChangeSpec := { name := "fnExactSendTo", fn := fun _ => fun
  | [d1, d2] => { results := [.lit (.bool true)], args := [d1, d2] }
  | _ => none }
def fnExactSendToRow : OpenClaim := { program := "ytonmkhbojmckhaa", sum := "ccf152f7e53e3538b13368835669793c70ae544765a13f108012f49cbdab06e4", func := "loop.example/g00679/laws.FnExactSendTo", spec := "fnExactSendTo", unfollowed := true, recurses := true, apart := false }
def FnExactSendToSaid : Prop := fnExactSendToRow.holds Try.pinned (OpenSpec.ofChange fnExactSendToSpec)

/-- ITS FALSE NEIGHBOUR: 'it returns false'. Refute it at one input. -/
def fnExactSendToWrong : ChangeSpec := { name := "fnExactSendTo", fn := fun _ => fun
  | [d1, d2] => { results := [.lit (.bool false)], args := [d1, d2] }
  | _ => none }
def FnExactSendToWrongFalsely : Prop := fnExactSendToRow.holds Try.pinned (OpenSpec.ofChange fnExactSendToWrong)

/-- 'laws.FnExactRecvFrom': WHATEVER THE INPUT: true; the input reads as it did. -/
def fnExactRecvFromSpec : ChangeSpec := { name := "fnExactRecvFrom", fn := fun _ => fun
  | [d] => { results := [.lit (.bool true)], args := [d] }
  | _ => none }
def fnExactRecvFromRow : OpenClaim := { program := "ytonmkhbojmckhaa", sum := "ccf152f7e53e3538b13368835669793c70ae544765a13f108012f49cbdab06e4", func := "loop.example/g00679/laws.FnExactRecvFrom", spec := "fnExactRecvFrom", unfollowed := true, recurses := true, apart := false }
def FnExactRecvFromSaid : Prop := fnExactRecvFromRow.holds Try.pinned (OpenSpec.ofChange fnExactRecvFromSpec)

/-- ITS FALSE NEIGHBOUR: 'it returns false'. Refute it at one input. -/
def fnExactRecvFromWrong : ChangeSpec := { name := "fnExactRecvFrom", fn := fun _ => fun
  | [d] => { results := [.lit (.bool false)], args := [d] }
  | _ => none }
def FnExactRecvFromWrongFalsely : Prop := fnExactRecvFromRow.holds Try.pinned (OpenSpec.ofChange fnExactRecvFromWrong)

/-- 'laws.FnExactCloseIt': WHATEVER THE INPUT: true; the input reads as it did. -/
def fnExactCloseItSpec : ChangeSpec := { name := "fnExactCloseIt", fn := fun _ => fun
  | [d] => { results := [.lit (.bool true)], args := [d] }
  | _ => none }
def fnExactCloseItRow : OpenClaim := { program := "ytonmkhbojmckhaa", sum := "ccf152f7e53e3538b13368835669793c70ae544765a13f108012f49cbdab06e4", func := "loop.example/g00679/laws.FnExactCloseIt", spec := "fnExactCloseIt", unfollowed := true, recurses := true, apart := false }
def FnExactCloseItSaid : Prop := fnExactCloseItRow.holds Try.pinned (OpenSpec.ofChange fnExactCloseItSpec)

/-- ITS FALSE NEIGHBOUR: 'it returns false'. Refute it at one input. -/
def fnExactCloseItWrong : ChangeSpec := { name := "fnExactCloseIt", fn := fun _ => fun
  | [d] => { results := [.lit (.bool false)], args := [d] }
  | _ => none }
def FnExactCloseItWrongFalsely : Prop := fnExactCloseItRow.holds Try.pinned (OpenSpec.ofChange fnExactCloseItWrong)

/- THE SECOND FORM. 'bulk': how many values and letters a reading holds, each counted each time it is reached (what is shared counts as often as it is met; a slice's spare places count too). A statement '..UptoSaid' is the law's where the arguments, and the package variables that the reading takes, are together of bulk at most 1048576: NARROWER than '..Said'. Prove '..Said' where nothing that the law and all that it calls make is longer than what came in: it says more and counts as full. Else prove '..UptoSaid'. A law counts once. -/
mutual
def uptoBulk {H : Type} : DataW H → Nat
  | .lit (.string bytes) => bytes.length + 1
  | .lit _ => 1
  | .nil => 1
  | .ptr d => uptoBulk d + 1
  | .slice elems spare => uptoBulkAll elems + uptoBulkAll spare + 1
  | .agg parts => uptoBulkAll parts + 1
  | .iface _ d => uptoBulk d + 1
  | .map entries => uptoBulkEntries entries + 1
  | .held _ => 1
def uptoBulkAll {H : Type} : List (DataW H) → Nat
  | [] => 0
  | d :: r => uptoBulk d + uptoBulkAll r
def uptoBulkEntries {H : Type} : List (Lit × DataW H) → Nat
  | [] => 0
  | x :: r => uptoBulkEntry x + uptoBulkEntries r
def uptoBulkEntry {H : Type} : Lit × DataW H → Nat
  | (.string bytes, d) => bytes.length + uptoBulk d + 1
  | (_, d) => uptoBulk d + 1
 end
def uptoSmall : (H : Type) → List (DataW H) → Bool := fun _ ds => decide (uptoBulkAll ds ≤ 1048576)
def OpenSpec.upto (s : _root_.Go.ChangeSpec) : _root_.Go.OpenSpec := { _root_.Go.OpenSpec.ofChange s with cond := some uptoSmall }

/-- 'laws.FnExactMutexOk', WHERE WHAT IT READS IS OF BULK AT MOST 1048576: true; the input reads as it did. -/
def fnExactMutexOkUptoRow : OpenClaim := { program := "ytonmkhbojmckhaa", sum := "ccf152f7e53e3538b13368835669793c70ae544765a13f108012f49cbdab06e4", func := "loop.example/g00679/laws.FnExactMutexOk", spec := "fnExactMutexOk", apart := false, narrowed := true }
def FnExactMutexOkUptoSaid : Prop := fnExactMutexOkUptoRow.holds Try.pinned (OpenSpec.upto fnExactMutexOkSpec)

/-- 'laws.FnExactLock', WHERE WHAT IT READS IS OF BULK AT MOST 1048576: true; the input reads as it did. -/
def fnExactLockUptoRow : OpenClaim := { program := "ytonmkhbojmckhaa", sum := "ccf152f7e53e3538b13368835669793c70ae544765a13f108012f49cbdab06e4", func := "loop.example/g00679/laws.FnExactLock", spec := "fnExactLock", apart := false, narrowed := true }
def FnExactLockUptoSaid : Prop := fnExactLockUptoRow.holds Try.pinned (OpenSpec.upto fnExactLockSpec)

/-- 'laws.FnExactUnlock', WHERE WHAT IT READS IS OF BULK AT MOST 1048576: true; the input reads as it did. -/
def fnExactUnlockUptoRow : OpenClaim := { program := "ytonmkhbojmckhaa", sum := "ccf152f7e53e3538b13368835669793c70ae544765a13f108012f49cbdab06e4", func := "loop.example/g00679/laws.FnExactUnlock", spec := "fnExactUnlock", apart := false, narrowed := true }
def FnExactUnlockUptoSaid : Prop := fnExactUnlockUptoRow.holds Try.pinned (OpenSpec.upto fnExactUnlockSpec)

/-- 'laws.FnLock', WHERE WHAT IT READS IS OF BULK AT MOST 1048576: true; the input reads as it did. -/
def fnLockUptoRow : OpenClaim := { program := "ytonmkhbojmckhaa", sum := "ccf152f7e53e3538b13368835669793c70ae544765a13f108012f49cbdab06e4", func := "loop.example/g00679/laws.FnLock", spec := "fnLock", apart := false, narrowed := true }
def FnLockUptoSaid : Prop := fnLockUptoRow.holds Try.pinned (OpenSpec.upto fnLockSpec)

/-- 'laws.FnExactWaits', WHERE WHAT IT READS IS OF BULK AT MOST 1048576: true; the input reads as it did. -/
def fnExactWaitsUptoRow : OpenClaim := { program := "ytonmkhbojmckhaa", sum := "ccf152f7e53e3538b13368835669793c70ae544765a13f108012f49cbdab06e4", func := "loop.example/g00679/laws.FnExactWaits", spec := "fnExactWaits", unfollowed := true, recurses := true, apart := false, narrowed := true }
def FnExactWaitsUptoSaid : Prop := fnExactWaitsUptoRow.holds Try.pinned (OpenSpec.upto fnExactWaitsSpec)

/-- 'laws.FnExactDrop', WHERE WHAT IT READS IS OF BULK AT MOST 1048576: true; the input reads as it did. -/
def fnExactDropUptoRow : OpenClaim := { program := "ytonmkhbojmckhaa", sum := "ccf152f7e53e3538b13368835669793c70ae544765a13f108012f49cbdab06e4", func := "loop.example/g00679/laws.FnExactDrop", spec := "fnExactDrop", unfollowed := true, recurses := true, apart := false, narrowed := true }
def FnExactDropUptoSaid : Prop := fnExactDropUptoRow.holds Try.pinned (OpenSpec.upto fnExactDropSpec)

/-- 'laws.FnExactChanOk', WHERE WHAT IT READS IS OF BULK AT MOST 1048576: true; the input reads as it did. -/
def fnExactChanOkUptoRow : OpenClaim := { program := "ytonmkhbojmckhaa", sum := "ccf152f7e53e3538b13368835669793c70ae544765a13f108012f49cbdab06e4", func := "loop.example/g00679/laws.FnExactChanOk", spec := "fnExactChanOk", unfollowed := true, recurses := true, apart := false, narrowed := true }
def FnExactChanOkUptoSaid : Prop := fnExactChanOkUptoRow.holds Try.pinned (OpenSpec.upto fnExactChanOkSpec)

/-- 'laws.FnExactCanRecv', WHERE WHAT IT READS IS OF BULK AT MOST 1048576: true; the input reads as it did. -/
def fnExactCanRecvUptoRow : OpenClaim := { program := "ytonmkhbojmckhaa", sum := "ccf152f7e53e3538b13368835669793c70ae544765a13f108012f49cbdab06e4", func := "loop.example/g00679/laws.FnExactCanRecv", spec := "fnExactCanRecv", unfollowed := true, recurses := true, apart := false, narrowed := true }
def FnExactCanRecvUptoSaid : Prop := fnExactCanRecvUptoRow.holds Try.pinned (OpenSpec.upto fnExactCanRecvSpec)

/-- 'laws.FnExactCanSend', WHERE WHAT IT READS IS OF BULK AT MOST 1048576: true; the input reads as it did. -/
def fnExactCanSendUptoRow : OpenClaim := { program := "ytonmkhbojmckhaa", sum := "ccf152f7e53e3538b13368835669793c70ae544765a13f108012f49cbdab06e4", func := "loop.example/g00679/laws.FnExactCanSend", spec := "fnExactCanSend", unfollowed := true, recurses := true, apart := false, narrowed := true }
def FnExactCanSendUptoSaid : Prop := fnExactCanSendUptoRow.holds Try.pinned (OpenSpec.upto fnExactCanSendSpec)

/-- 'laws.FnExactSendTo', WHERE WHAT IT READS IS OF BULK AT MOST 1048576: true; the input reads as it did. -/
def fnExactSendToUptoRow : OpenClaim := { program := "ytonmkhbojmckhaa", sum := "ccf152f7e53e3538b13368835669793c70ae544765a13f108012f49cbdab06e4", func := "loop.example/g00679/laws.FnExactSendTo", spec := "fnExactSendTo", unfollowed := true, recurses := true, apart := false, narrowed := true }
def FnExactSendToUptoSaid : Prop := fnExactSendToUptoRow.holds Try.pinned (OpenSpec.upto fnExactSendToSpec)

/-- 'laws.FnExactRecvFrom', WHERE WHAT IT READS IS OF BULK AT MOST 1048576: true; the input reads as it did. -/
def fnExactRecvFromUptoRow : OpenClaim := { program := "ytonmkhbojmckhaa", sum := "ccf152f7e53e3538b13368835669793c70ae544765a13f108012f49cbdab06e4", func := "loop.example/g00679/laws.FnExactRecvFrom", spec := "fnExactRecvFrom", unfollowed := true, recurses := true, apart := false, narrowed := true }
def FnExactRecvFromUptoSaid : Prop := fnExactRecvFromUptoRow.holds Try.pinned (OpenSpec.upto fnExactRecvFromSpec)

/-- 'laws.FnExactCloseIt', WHERE WHAT IT READS IS OF BULK AT MOST 1048576: true; the input reads as it did. -/
def fnExactCloseItUptoRow : OpenClaim := { program := "ytonmkhbojmckhaa", sum := "ccf152f7e53e3538b13368835669793c70ae544765a13f108012f49cbdab06e4", func := "loop.example/g00679/laws.FnExactCloseIt", spec := "fnExactCloseIt", unfollowed := true, recurses := true, apart := false, narrowed := true }
def FnExactCloseItUptoSaid : Prop := fnExactCloseItUptoRow.holds Try.pinned (OpenSpec.upto fnExactCloseItSpec)

end Rows
end Go.Proofs.Ytonmkhbojmckhaa
