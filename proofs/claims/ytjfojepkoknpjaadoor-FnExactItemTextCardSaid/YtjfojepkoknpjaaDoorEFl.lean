/- Contracts of functions of this seat's program. -/
import Derived.Test.YtjfojepkoknpjaaDoorETy
import Derived.Test.YtjfojepkoknpjaaDoorEIk
import Derived.Shelf.LaysM
import Derived.Shelf.Strings.Fields
namespace Go.Proofs.YtjfojepkoknpjaaDoor.E
set_option linter.unusedVariables false
set_option linter.unusedSimpArgs false
set_option maxHeartbeats 1600000
open Go.Shelf Go.RowKit
def Tryd.laysFields_ren : Go.Shelf.Ren := ⟨fun | 157 => 12 | 229 => 17 | 199 => 18 | 261 => 21 | 311 => 25 | 312 => 26 | n => n, fun | 9 => 9 | 31 => 30 | 3 => 3 | 5 => 5 | 4 => 4 | 119 => 37 | 0 => 0 | 40 => 39 | 152 => 40 | 21 => 21 | 154 => 42 | 51 => 43 | 141 => 45 | 196 => 58 | 193 => 55 | 198 => 61 | 49 => 59 | 194 => 56 | 201 => 64 | 226 => 67 | 46 => 68 | 227 => 69 | n => n, fun | 0 => 0 | 6 => 1 | n => n⟩
theorem Tryd.laysFields : Go.Proofs.LaysM.n157 Tryd.prog Tryd.laysFields_ren := {
  mixed := by kernel_rfl
  f157 := Tryd.func12.trans (congrArg some (by kernel_rfl))
  f199 := Tryd.func18.trans (congrArg some (by kernel_rfl))
  f229 := Tryd.func17.trans (congrArg some (by kernel_rfl))
  f261 := Tryd.func21.trans (congrArg some (by kernel_rfl))
  f311 := Tryd.func25.trans (congrArg some (by kernel_rfl))
  f312 := Tryd.func26.trans (congrArg some (by kernel_rfl))
  t0 := Tryd.underlying0
  a0 := Tryd.isAgg0
  z0 := Tryd.sizeOf0
  v0 := Tryd.zeroValue0
  t3 := Tryd.underlying3
  a3 := Tryd.isAgg3
  z3 := Tryd.sizeOf3
  v3 := Tryd.zeroValue3
  t4 := Tryd.underlying4
  a4 := Tryd.isAgg4
  z4 := Tryd.sizeOf4
  v4 := Tryd.zeroValue4
  t5 := Tryd.underlying5
  a5 := Tryd.isAgg5
  z5 := Tryd.sizeOf5
  v5 := Tryd.zeroValue5
  t9 := Tryd.underlying9
  a9 := Tryd.isAgg9
  z9 := Tryd.sizeOf9
  v9 := Tryd.zeroValue9
  t21 := Tryd.underlying21
  a21 := Tryd.isAgg21
  z21 := Tryd.sizeOf21
  v21 := Tryd.zeroValue21
  t31 := Tryd.underlying30
  a31 := Tryd.isAgg30
  z31 := Tryd.sizeOf30
  v31 := Tryd.zeroValue30
  t40 := Tryd.underlying39
  a40 := Tryd.isAgg39
  z40 := Tryd.sizeOf39
  v40 := Tryd.zeroValue39
  t46 := Tryd.underlying68
  a46 := Tryd.isAgg68
  z46 := Tryd.sizeOf68
  v46 := Tryd.zeroValue68
  t49 := Tryd.underlying59
  a49 := Tryd.isAgg59
  z49 := Tryd.sizeOf59
  v49 := Tryd.zeroValue59
  t51 := Tryd.underlying43
  a51 := Tryd.isAgg43
  z51 := Tryd.sizeOf43
  v51 := Tryd.zeroValue43
  t119 := Tryd.underlying37
  a119 := Tryd.isAgg37
  z119 := Tryd.sizeOf37
  t141 := Tryd.underlying45
  a141 := Tryd.isAgg45
  z141 := Tryd.sizeOf45
  v141 := Tryd.zeroValue45
  t152 := Tryd.underlying40
  a152 := Tryd.isAgg40
  z152 := Tryd.sizeOf40
  v152 := Tryd.zeroValue40
  t154 := Tryd.underlying42
  a154 := Tryd.isAgg42
  z154 := Tryd.sizeOf42
  v154 := Tryd.zeroValue42
  t193 := Tryd.underlying55
  a193 := Tryd.isAgg55
  z193 := Tryd.sizeOf55
  v193 := Tryd.zeroValue55
  t194 := Tryd.underlying56
  a194 := Tryd.isAgg56
  z194 := Tryd.sizeOf56
  v194 := Tryd.zeroValue56
  t196 := Tryd.underlying58
  a196 := Tryd.isAgg58
  z196 := Tryd.sizeOf58
  v196 := Tryd.zeroValue58
  t198 := Tryd.underlying61
  a198 := Tryd.isAgg61
  z198 := Tryd.sizeOf61
  v198 := Tryd.zeroValue61
  t201 := Tryd.underlying64
  a201 := Tryd.isAgg64
  z201 := Tryd.sizeOf64
  v201 := Tryd.zeroValue64
  t226 := Tryd.underlying67
  a226 := Tryd.isAgg67
  z226 := Tryd.sizeOf67
  v226 := Tryd.zeroValue67
  t227 := Tryd.underlying69
  a227 := Tryd.isAgg69
  z227 := Tryd.sizeOf69
  v227 := Tryd.zeroValue69
  g0 := by kernel_rfl
  g6 := by kernel_rfl
  i0 := by kernel_rfl
  i3 := by kernel_rfl
  i4 := by kernel_rfl
  i5 := by kernel_rfl
  i9 := by kernel_rfl
  i21 := by kernel_rfl
  i31 := by kernel_rfl
  i40 := by kernel_rfl
  i46 := by kernel_rfl
  i49 := by kernel_rfl
  i51 := by kernel_rfl
  i141 := by kernel_rfl
  i152 := by kernel_rfl
  i154 := by kernel_rfl
  i193 := by kernel_rfl
  i194 := by kernel_rfl
  i196 := by kernel_rfl
  i198 := by kernel_rfl
  i201 := by kernel_rfl
  i226 := by kernel_rfl
  i227 := by kernel_rfl
  m0 := by kernel_rfl
  m6 := by kernel_rfl }
abbrev itemLine : ByteArray := ⟨#[115, 101, 110, 116, 32, 103, 111, 116, 32, 99, 108, 111, 115, 101, 100, 32, 112, 105, 99, 107, 101, 100, 32, 108, 111, 99, 107, 101, 100, 32, 117, 110, 108, 111, 99, 107, 101, 100, 32, 115, 112, 97, 119, 110, 101, 100, 32, 112, 114, 105, 110, 116, 101, 100, 32, 100, 111, 110, 101, 32, 100, 101, 97, 100]⟩
def itemKW : List ByteArray := [⟨#[115, 101, 110, 116]⟩, ⟨#[103, 111, 116]⟩, ⟨#[99, 108, 111, 115, 101, 100]⟩, ⟨#[112, 105, 99, 107, 101, 100]⟩, ⟨#[108, 111, 99, 107, 101, 100]⟩, ⟨#[117, 110, 108, 111, 99, 107, 101, 100]⟩, ⟨#[115, 112, 97, 119, 110, 101, 100]⟩, ⟨#[112, 114, 105, 110, 116, 101, 100]⟩, ⟨#[100, 111, 110, 101]⟩, ⟨#[100, 101, 97, 100]⟩]
theorem fields_item : (Lib.fields itemLine.data.toList).map (fun l => (⟨l.toArray⟩ : ByteArray)) = itemKW := by kernel_rfl
theorem flat_strs : ∀ l : List ByteArray, flat (l.map T.str) = l.map T.str
  | [] => rfl
  | b :: l => by
    have := flat_strs l
    unfold flat at this ⊢
    rw [List.map_cons, List.flatMap_cons, this]; rfl
/-- A new block of strings. -/
theorem ow_strs {w : World} (l : List ByteArray) (te : Nat) : Ow (w.alloc (.cells (l.map Value.string).toArray te)) (.sl 1 (l.map T.str)) (.slice (some ⟨w.heap.size, 0, none⟩) l.length l.length) (fun b => b = w.heap.size) := by
  have e : (l.map T.str).length = l.length := by simp
  have hv : Value.slice (some ⟨w.heap.size, 0, none⟩) l.length l.length = .slice (some ⟨w.heap.size, 0, none⟩) (l.map T.str).length l.length := by rw [e]
  rw [hv]
  refine .row (o := 0) (Ss := fun _ _ => False) (heap_alloc_new w _) (by simp) (by simp) (fun t ht => ?_) (fun j ct hj => ?_) rfl (fun _ h => h) (fun _ _ h => h.elim) (fun _ _ _ h => h.elim)
  · obtain ⟨b, _, rfl⟩ := List.mem_map.1 ht; rfl
  · rw [flat_strs, List.getElem?_map, Option.map_eq_some_iff] at hj
    obtain ⟨b, hb, rfl⟩ := hj
    rw [Nat.zero_add, Array.getD_eq_getD_getElem?, List.getElem?_toArray, List.getElem?_map, hb]
    exact .v rfl
theorem s_Fields : Spec Tryd.prog 12 [.ro (T.str itemLine)] [.sl 1 (itemKW.map T.str)] where
  callable := ⟨Tryd.f12, Tryd.func12, by kernel_rfl, by kernel_rfl⟩
  calls := by
    intro w vals R hR ⟨hv0, Ss, _, _, hv⟩
    have h0 := hv 0 _ rfl
    match vals, hv0 with
    | [y], _ =>
      have h0 : Rd w (fun b => b < w.heap.size ∧ ¬ R b) (.v (.string itemLine)) y := h0
      cases h0
      have ht : Lib.TabIs Tryd.prog w "strings.asciiSpace" .u8 Lib.asciiSpaceTab := by
        have := hR.inv.tab
        unfold Lib.TabIs
        rw [this]
        have e : tabZ = Lib.asciiSpaceTab := by kernel_rfl
        rw [← e]; rfl
      have key := Any.strings_Fields { Tryd.laysFields with } Tryd.laysFields.i9 Tryd.laysFields.m0 itemLine w (by decide) (fun j b hb => by
        have hm := List.mem_of_getElem? hb
        have : ∀ b ∈ itemLine.data.toList, b.toNat < 128 := by decide
        exact this b hm) ht
      have hn : (Lib.fields itemLine.data.toList).length = itemKW.length := by rw [← fields_item, List.length_map]
      have hc : ((Lib.fields itemLine.data.toList).map fun l => Value.string ⟨l.toArray⟩) = itemKW.map Value.string := by rw [← fields_item, List.map_map]; rfl
      rw [hn, hc] at key
      refine key.mono fun e w' ⟨he, hw⟩ => ?_
      subst hw
      refine ⟨_, fun b => b = w.heap.size, fun _ _ => False, he, ow_strs _ _, fun i a hi => ?_, fun b hb => ?_, fun _ _ h => h.elim, fun _ _ _ h => h, fun _ _ _ h => h.elim, up_alloc _ _, fun b hb _ => heap_alloc_old w _ hb⟩
      · match i, hi with
        | 0, hi => cases hi; trivial
      · subst hb; exact ⟨.inl (Nat.le_refl _), by simp⟩


end Go.Proofs.YtjfojepkoknpjaaDoor.E
