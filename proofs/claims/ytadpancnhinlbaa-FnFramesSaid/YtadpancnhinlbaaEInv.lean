/- What this seat's contracts take for granted of a world: nothing. -/
import GoSem.Step
namespace Go.Proofs.Ytadpancnhinlbaa.E
def Inv (w : World) (R : Nat → Prop) : Prop := True
theorem Inv.turn {w w' : World} {R R' : Nat → Prop} (_ : Inv w R) (_ : w.heap.size ≤ w'.heap.size) (_ : ∀ b, b < w.heap.size → ¬ R b → w'.heap[b]? = w.heap[b]?) (_ : ∀ b, R' b → R b ∨ w.heap.size ≤ b) : Inv w' R' := trivial
end Go.Proofs.Ytadpancnhinlbaa.E
