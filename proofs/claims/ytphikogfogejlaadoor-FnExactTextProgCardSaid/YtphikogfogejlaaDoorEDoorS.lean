/- The condition on worlds out of the world's shape: internal/bytealg.MaxLen holds a number. -/
import Derived.Test.YtphikogfogejlaaDoorEDoor
import Derived.Test.YtphikogfogejlaaDoorESp
namespace Go.Proofs.YtphikogfogejlaaDoor.E
theorem inv_of_shaped {W : World} (h : W.ShapedOpen Tryd.prog) : Inv W (fun _ => False) where
  high _ h := h.elim
  size := size_of_shaped h
  max := by
    have := Tryd.laysSplit.s1_3 W h
    rwa [gMax_is] at this
end Go.Proofs.YtphikogfogejlaaDoor.E
