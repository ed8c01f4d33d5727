/- What this seat's contracts take for granted of a world: the table strings.asciiSpace, which strings.Fields reads. -/
import Derived.Test.YtjfojepkoknpjaaDoorProg
import GoSem.Claims
import Derived.KernelRfl
namespace Go.Proofs.YtjfojepkoknpjaaDoor.E
noncomputable def gTab : Nat := (Tryd.prog.globalNamed "strings.asciiSpace").getD 0
noncomputable def nG : Nat := Tryd.prog.globals.size
theorem gTab_is : Tryd.prog.globalNamed "strings.asciiSpace" = some gTab := by kernel_rfl
def tabZ : List Int := (List.range 256).map fun c => if 9 ≤ c ∧ c ≤ 13 ∨ c = 32 then 1 else 0
def tabV : Array Value := (tabZ.map fun z => Value.int .u8 z).toArray
structure Inv (w : World) (R : Nat → Prop) : Prop where
  high : ∀ b, R b → nG ≤ b
  size : nG ≤ w.heap.size
  tab : w.var? Tryd.prog "strings.asciiSpace" = some tabV
theorem gTab_lt : gTab < nG := by
  have h : Nat.ble (gTab + 1) nG = true := by kernel_rfl
  exact Nat.le_of_ble_eq_true h
theorem Inv.turn {w w' : World} {R R' : Nat → Prop} (h : Inv w R) (hs : w.heap.size ≤ w'.heap.size) (hold : ∀ b, b < w.heap.size → ¬ R b → w'.heap[b]? = w.heap[b]?) (hr : ∀ b, R' b → R b ∨ w.heap.size ≤ b) : Inv w' R' where
  high b hb := (hr b hb).elim (h.high b) (fun e => Nat.le_trans h.size e)
  size := Nat.le_trans h.size hs
  tab := by
    have ht := h.tab
    have same : w'.heap[gTab]? = w.heap[gTab]? := hold _ (Nat.lt_of_lt_of_le gTab_lt h.size) (fun e => Nat.not_lt.2 (h.high _ e) gTab_lt)
    unfold World.var? at ht ⊢
    rw [gTab_is] at ht ⊢
    simp only [Option.bind_some] at ht ⊢
    rw [same]; exact ht
end Go.Proofs.YtjfojepkoknpjaaDoor.E
