/- The condition on worlds out of the row's list: the table strings.asciiSpace lies as it was laid. -/
import Derived.Test.YtjfojepkoknpjaaDoorEDoor
import Derived.Test.YtjfojepkoknpjaaDoorRows
import Derived.Lib.LaidTab
import Derived.Lib.Space
import Derived.LaidHandle
import Derived.MakeChecks
import Derived.Stop.LaidErr
namespace Go.Proofs.YtjfojepkoknpjaaDoor.E
theorem inv_of_laid {W : World} (h : W.ShapedOpen Tryd.prog) (hL : laidMetH Tryd.prog Rows.fnExactItemTextRow.laid W) : Inv W (fun _ => False) where
  high _ h := h.elim
  size := size_of_shaped h
  tab := by
    rw [MakeChecks.laidMetH_plain _ _ _ (by kernel_rfl)] at hL
    have h2 : laidMet Tryd.prog [("strings.asciiSpace", Rows.laid_strings_asciiSpace)] W := hL.tail
    have e : Rows.laid_strings_asciiSpace (H := Unit) = Lib.tabData .u8 Lib.asciiSpaceTab := by kernel_rfl
    have hz : tabZ = Lib.asciiSpaceTab := by kernel_rfl
    rw [e] at h2
    have ht := Lib.tabIs_of_head (t := 37) (e := 5) (n := 256) gTab_is (by kernel_rfl) (by kernel_rfl) (by kernel_rfl) (by kernel_rfl) (by kernel_rfl) h2
    unfold Lib.TabIs at ht
    rw [ht, ← hz]; rfl
end Go.Proofs.YtjfojepkoknpjaaDoor.E
