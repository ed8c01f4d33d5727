/- Contracts of functions of this seat's program. -/
import Derived.Test.YtphikogfogejlaaDoorETy
import Derived.Test.YtphikogfogejlaaDoorEIo
import Derived.Shelf.Strings.OnBuilder
namespace Go.Proofs.YtphikogfogejlaaDoor.E
set_option linter.unusedVariables false
set_option linter.unusedSimpArgs false
set_option maxHeartbeats 1600000
open Go.Shelf Go.RowKit
def Tryd.laysJoin_ren : Go.Shelf.Ren := ⟨fun | 156 => 89 | 165 => 100 | 166 => 101 | 169 => 102 | 240 => 110 | 241 => 111 | 276 => 116 | 277 => 117 | n => n, fun | 31 => 50 | 9 => 9 | 3 => 3 | 4 => 4 | 0 => 0 | 20 => 20 | 72 => 115 | 76 => 119 | 70 => 113 | 37 => 98 | 75 => 118 | 127 => 134 | 164 => 142 | 5 => 5 | 80 => 121 | n => n, fun | n => n⟩
theorem Tryd.laysJoin : Go.Proofs.Lays.n156 Tryd.prog Tryd.laysJoin_ren := {
  mixed := by kernel_rfl
  f156 := Tryd.func89.trans (congrArg some (by kernel_rfl))
  f165 := Tryd.func100.trans (congrArg some (by kernel_rfl))
  f166 := Tryd.func101.trans (congrArg some (by kernel_rfl))
  f169 := Tryd.func102.trans (congrArg some (by kernel_rfl))
  f240 := Tryd.func110.trans (congrArg some (by kernel_rfl))
  f241 := Tryd.func111.trans (congrArg some (by kernel_rfl))
  f276 := Tryd.func116.trans (congrArg some (by kernel_rfl))
  f277 := Tryd.func117.trans (congrArg some (by kernel_rfl))
  t0 := Tryd.underlying0
  a0 := Tryd.isAgg0
  z0 := Tryd.sizeOf0
  v0 := Tryd.zeroValue0
  t3 := Tryd.underlying3
  a3 := Tryd.isAgg3
  z3 := Tryd.sizeOf3
  v3 := Tryd.zeroValue3
  t4 := Tryd.underlying4
  a4 := Tryd.isAgg4
  z4 := Tryd.sizeOf4
  v4 := Tryd.zeroValue4
  t9 := Tryd.underlying9
  a9 := Tryd.isAgg9
  z9 := Tryd.sizeOf9
  v9 := Tryd.zeroValue9
  t20 := Tryd.underlying20
  a20 := Tryd.isAgg20
  z20 := Tryd.sizeOf20
  v20 := Tryd.zeroValue20
  t31 := Tryd.underlying50
  a31 := Tryd.isAgg50
  z31 := Tryd.sizeOf50
  v31 := Tryd.zeroValue50
  t37 := Tryd.underlying98
  a37 := Tryd.isAgg98
  z37 := Tryd.sizeOf98
  v37 := Tryd.zeroValue98
  t70 := Tryd.underlying113
  a70 := Tryd.isAgg113
  z70 := Tryd.sizeOf113
  v70 := Tryd.zeroValue113
  t72 := Tryd.underlying115
  a72 := Tryd.isAgg115
  z72 := Tryd.sizeOf115
  v72 := Tryd.zeroValue115
  t75 := Tryd.underlying118
  a75 := Tryd.isAgg118
  z75 := Tryd.sizeOf118
  v75 := Tryd.zeroValue118
  t76 := Tryd.underlying119
  a76 := Tryd.isAgg119
  z76 := Tryd.sizeOf119
  v76 := Tryd.zeroValue119
  t127 := Tryd.underlying134
  a127 := Tryd.isAgg134
  z127 := Tryd.sizeOf134
  v127 := Tryd.zeroValue134
  t164 := Tryd.underlying142
  a164 := Tryd.isAgg142
  z164 := Tryd.sizeOf142
  v164 := Tryd.zeroValue142 }
theorem extraJoin : Builder.Extra Tryd.prog Tryd.laysJoin_ren where
  sizeBuilder := by kernel_rfl
  liesBuilder := by kernel_rfl
  t5 := Tryd.underlying5
  a5 := Tryd.isAgg5
  z5 := Tryd.sizeOf5
  v5 := Tryd.zeroValue5
  infoByte := by kernel_rfl
  cellsByte := by kernel_rfl
  sizeByte := by kernel_rfl
  neB5 := by decide
def joinB (l : List ByteArray) (sep : ByteArray) : ByteArray := ⟨(Lib.join (l.map (·.data.toList)) sep.data.toList).toArray⟩
theorem cell_none {w : World} {a : Addr} {v : Value} (h : w.cell? (a.add 0) = some v) : ∃ b o, a = ⟨b, o, none⟩ := by
  obtain ⟨b, o, s⟩ := a
  cases s with
  | none => exact ⟨b, o, rfl⟩
  | some k =>
    simp [Addr.add, World.cell?] at h
    split at h <;> cases h
theorem flat_str : ∀ l : List ByteArray, flat (l.map T.str) = l.map T.str
  | [] => rfl
  | b :: l => by
    have := flat_str l
    unfold flat at this ⊢
    rw [List.map_cons, List.flatMap_cons, this]; rfl
theorem s_Join (l : List ByteArray) (sep : ByteArray) (hn : l.length ≤ 140737488355328) (hlen : (joinB l sep).size ≤ 140737488355328) : Spec Tryd.prog 89 [.ro (.sl 1 (l.map T.str)), .ro (T.str sep)] [T.str (joinB l sep)] where
  callable := ⟨Tryd.f89, Tryd.func89, by kernel_rfl, by kernel_rfl⟩
  calls := by
    intro w vals R hR ⟨hv0, Ss, _, _, hv⟩
    have h0 := hv 0 _ rfl
    have h1 := hv 1 _ rfl
    have post : ∀ {e : Ending} {w' : World}, e = .returned (.string (joinB l sep)) ∧ Below w.heap.size w w' → Ret w R [.ro (.sl 1 (l.map T.str)), .ro (T.str sep)] [T.str (joinB l sep)] vals e w' := by
      rintro e w' ⟨he, hb⟩
      refine ⟨_, fun _ => False, fun _ _ => False, he, Ow.v rfl, fun i a hi => ?_, fun _ h => h.elim, fun _ _ h => h.elim, fun _ _ h => h.elim, fun _ _ _ h => h.elim, ⟨hb.os, hb.tape, hb.output, hb.size⟩, fun b hb' _ => hb.block b hb'⟩
      match i, hi with
      | 0, hi => cases hi; trivial
      | 1, hi => cases hi; trivial
    match vals, hv0 with
    | [y, z], _ =>
      have h0 : Rd w (fun b => b < w.heap.size ∧ ¬ R b) (.sl 1 (l.map T.str)) y := h0
      have h1 : Rd w (fun b => b < w.heap.size ∧ ¬ R b) (.v (.string sep)) z := h1
      cases h1
      by_cases hl : l = []
      · subst hl
        obtain ⟨A, c, rfl⟩ := h0.sl_val
        refine (Any.strings_Join_none Tryd.laysJoin extraJoin A c sep w).mono fun e w' ⟨he, hw⟩ => post ⟨he, hw ▸ Below.refl _ _⟩
      · generalize hes : l.map T.str = es at h0
        cases h0 with
        | nil => exact absurd (List.map_eq_nil_iff.1 hes) hl
        | @row _ a _ cap u hcap hz hc hcell hrd =>
          have hll : es.length = l.length := by rw [← hes, List.length_map]
          have hfl : flat es = es := by rw [← hes]; exact flat_str l
          have hat : ∀ (j : Nat) (x : ByteArray), l[j]? = some x → w.cell? (a.add j) = some (.string x) := by
            intro j x hx
            have hj : (flat es)[j]? = some (T.str x) := by rw [hfl, ← hes, List.getElem?_map, hx]; rfl
            rw [hcell j _ hj]
            have hr := hrd j _ hj
            generalize u j = q at hr ⊢
            cases hr
            rfl
          obtain ⟨x0, hx0⟩ : ∃ x0, l[0]? = some x0 := by
            cases l with
            | nil => exact absurd rfl hl
            | cons x r => exact ⟨x, rfl⟩
          obtain ⟨b, o, rfl⟩ := cell_none (hat 0 x0 hx0)
          have hsz : (joinB l sep).size = (Lib.join (l.map (·.data.toList)) sep.data.toList).length := by
            show (Lib.join (l.map (·.data.toList)) sep.data.toList).toArray.size = _
            simp
          have key := Any.strings_Join Tryd.laysJoin extraJoin b o cap l sep w (fun j x hx => by
            have := hat j x hx
            rwa [add_mk] at this) hz.1 hn (by omega) (by omega)
          rw [← hll] at key
          subst hes
          exact key.mono fun e w' h => post h


end Go.Proofs.YtphikogfogejlaaDoor.E
