/- What this seat's contracts take for granted of a world: a package-level variable's cell, which strings.Split reads. -/
import Derived.Test.YtphikogfogejlaaDoorProg
import GoSem.Claims
import Derived.KernelRfl
namespace Go.Proofs.YtphikogfogejlaaDoor.E
noncomputable def gMax : Nat := (Tryd.prog.globalNamed "internal/bytealg.MaxLen").getD 0
noncomputable def nG : Nat := Tryd.prog.globals.size
structure Inv (w : World) (R : Nat → Prop) : Prop where
  high : ∀ b, R b → nG ≤ b
  size : nG ≤ w.heap.size
  max : ∃ m, w.cell? ⟨gMax, 0, none⟩ = some (.int .i64 m)
theorem gMax_lt : gMax < nG := by
  have h : Nat.ble (gMax + 1) nG = true := by kernel_rfl
  exact Nat.le_of_ble_eq_true h
theorem Inv.turn {w w' : World} {R R' : Nat → Prop} (h : Inv w R) (hs : w.heap.size ≤ w'.heap.size) (hold : ∀ b, b < w.heap.size → ¬ R b → w'.heap[b]? = w.heap[b]?) (hr : ∀ b, R' b → R b ∨ w.heap.size ≤ b) : Inv w' R' where
  high b hb := (hr b hb).elim (h.high b) (fun e => Nat.le_trans h.size e)
  size := Nat.le_trans h.size hs
  max := by
    obtain ⟨m, hm⟩ := h.max
    refine ⟨m, ?_⟩
    have same : w'.heap[gMax]? = w.heap[gMax]? := hold _ (Nat.lt_of_lt_of_le gMax_lt h.size) (fun e => Nat.not_lt.2 (h.high _ e) gMax_lt)
    simp only [World.cell?] at hm ⊢
    rw [same]; exact hm
end Go.Proofs.YtphikogfogejlaaDoor.E
