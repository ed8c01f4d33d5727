/- Contracts of functions of this seat's program. -/
import Derived.Test.YtjfojepkoknpjaaDoorETy
import Derived.Test.YtjfojepkoknpjaaDoorEIk
import Derived.Ground.NamesProg
import Derived.Shelf.Lay
import Derived.Shelf.LaysM
import Derived.Shelf.Strings.Fields
namespace Go.Proofs.YtjfojepkoknpjaaDoor.E
set_option linter.unusedVariables false
set_option linter.unusedSimpArgs false
set_option maxHeartbeats 1600000
open Go.Shelf Go.RowKit
shelf_lay LaysM.n157 Nm 157 at Tryd as Tryd.laysFields
abbrev itemLine : ByteArray := ⟨#[115, 101, 110, 116, 32, 103, 111, 116, 32, 99, 108, 111, 115, 101, 100, 32, 112, 105, 99, 107, 101, 100, 32, 108, 111, 99, 107, 101, 100, 32, 117, 110, 108, 111, 99, 107, 101, 100, 32, 115, 112, 97, 119, 110, 101, 100, 32, 112, 114, 105, 110, 116, 101, 100, 32, 100, 111, 110, 101, 32, 100, 101, 97, 100]⟩
def itemKW : List ByteArray := [⟨#[115, 101, 110, 116]⟩, ⟨#[103, 111, 116]⟩, ⟨#[99, 108, 111, 115, 101, 100]⟩, ⟨#[112, 105, 99, 107, 101, 100]⟩, ⟨#[108, 111, 99, 107, 101, 100]⟩, ⟨#[117, 110, 108, 111, 99, 107, 101, 100]⟩, ⟨#[115, 112, 97, 119, 110, 101, 100]⟩, ⟨#[112, 114, 105, 110, 116, 101, 100]⟩, ⟨#[100, 111, 110, 101]⟩, ⟨#[100, 101, 97, 100]⟩]
theorem fields_item : (Lib.fields itemLine.data.toList).map (fun l => (⟨l.toArray⟩ : ByteArray)) = itemKW := by kernel_rfl
theorem flat_strs : ∀ l : List ByteArray, flat (l.map T.str) = l.map T.str
  | [] => rfl
  | b :: l => by
    have := flat_strs l
    unfold flat at this ⊢
    rw [List.map_cons, List.flatMap_cons, this]; rfl
/-- A new block of strings. -/
theorem ow_strs {w : World} (l : List ByteArray) (te : Nat) : Ow (w.alloc (.cells (l.map Value.string).toArray te)) (.sl 1 (l.map T.str)) (.slice (some ⟨w.heap.size, 0, none⟩) l.length l.length) (fun b => b = w.heap.size) := by
  have e : (l.map T.str).length = l.length := by simp
  have hv : Value.slice (some ⟨w.heap.size, 0, none⟩) l.length l.length = .slice (some ⟨w.heap.size, 0, none⟩) (l.map T.str).length l.length := by rw [e]
  rw [hv]
  refine .row (o := 0) (Ss := fun _ _ => False) (heap_alloc_new w _) (by simp) (by simp) (fun t ht => ?_) (fun j ct hj => ?_) rfl (fun _ h => h) (fun _ _ h => h.elim) (fun _ _ _ h => h.elim)
  · obtain ⟨b, _, rfl⟩ := List.mem_map.1 ht; rfl
  · rw [flat_strs, List.getElem?_map, Option.map_eq_some_iff] at hj
    obtain ⟨b, hb, rfl⟩ := hj
    rw [Nat.zero_add, Array.getD_eq_getD_getElem?, List.getElem?_toArray, List.getElem?_map, hb]
    exact .v rfl
theorem s_Fields : Spec Tryd.prog 12 [.ro (T.str itemLine)] [.sl 1 (itemKW.map T.str)] where
  callable := ⟨Tryd.f12, Tryd.func12, by kernel_rfl, by kernel_rfl⟩
  calls := by
    intro w vals R hR ⟨hv0, Ss, _, _, hv⟩
    have h0 := hv 0 _ rfl
    match vals, hv0 with
    | [y], _ =>
      have h0 : Rd w (fun b => b < w.heap.size ∧ ¬ R b) (.v (.string itemLine)) y := h0
      cases h0
      have ht : Lib.TabIs Tryd.prog w "strings.asciiSpace" .u8 Lib.asciiSpaceTab := by
        have := hR.inv.tab
        unfold Lib.TabIs
        rw [this]
        have e : tabZ = Lib.asciiSpaceTab := by kernel_rfl
        rw [← e]; rfl
      have key := Any.strings_Fields { Tryd.laysFields with } Tryd.laysFields.i9 Tryd.laysFields.m0 itemLine w (by decide) (fun j b hb => by
        have hm := List.mem_of_getElem? hb
        have : ∀ b ∈ itemLine.data.toList, b.toNat < 128 := by decide
        exact this b hm) ht
      have hn : (Lib.fields itemLine.data.toList).length = itemKW.length := by rw [← fields_item, List.length_map]
      have hc : ((Lib.fields itemLine.data.toList).map fun l => Value.string ⟨l.toArray⟩) = itemKW.map Value.string := by rw [← fields_item, List.map_map]; rfl
      rw [hn, hc] at key
      refine key.mono fun e w' ⟨he, hw⟩ => ?_
      subst hw
      refine ⟨_, fun b => b = w.heap.size, fun _ _ => False, he, ow_strs _ _, fun i a hi => ?_, fun b hb => ?_, fun _ _ h => h.elim, fun _ _ _ h => h, fun _ _ _ h => h.elim, up_alloc _ _, fun b hb _ => heap_alloc_old w _ hb⟩
      · match i, hi with
        | 0, hi => cases hi; trivial
      · subst hb; exact ⟨.inl (Nat.le_refl _), by simp⟩


end Go.Proofs.YtjfojepkoknpjaaDoor.E
