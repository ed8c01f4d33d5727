/- Contracts of functions of this seat's program. -/
import Derived.Test.YteibafcohflbdaaETy
import Derived.Test.YteibafcohflbdaaEIo
import Derived.Shelf.Strings.OnBuilder
namespace Go.Proofs.Yteibafcohflbdaa.E
set_option linter.unusedVariables false
set_option linter.unusedSimpArgs false
set_option maxHeartbeats 1600000
open Go.Shelf Go.RowKit
def Try.laysJoin_ren : Go.Shelf.Ren := ⟨fun | 156 => 51 | 165 => 62 | 166 => 63 | 169 => 64 | 240 => 76 | 241 => 77 | 276 => 82 | 277 => 83 | n => n, fun | 31 => 59 | 9 => 9 | 3 => 3 | 4 => 4 | 0 => 0 | 20 => 20 | 72 => 97 | 76 => 101 | 70 => 95 | 37 => 94 | 75 => 100 | 127 => 110 | 164 => 112 | 5 => 5 | 80 => 103 | n => n, fun | n => n⟩
theorem Try.laysJoin : Go.Proofs.Lays.n156 Try.prog Try.laysJoin_ren := {
  mixed := by kernel_rfl
  f156 := Try.func51.trans (congrArg some (by kernel_rfl))
  f165 := Try.func62.trans (congrArg some (by kernel_rfl))
  f166 := Try.func63.trans (congrArg some (by kernel_rfl))
  f169 := Try.func64.trans (congrArg some (by kernel_rfl))
  f240 := Try.func76.trans (congrArg some (by kernel_rfl))
  f241 := Try.func77.trans (congrArg some (by kernel_rfl))
  f276 := Try.func82.trans (congrArg some (by kernel_rfl))
  f277 := Try.func83.trans (congrArg some (by kernel_rfl))
  t0 := Try.underlying0
  a0 := Try.isAgg0
  z0 := Try.sizeOf0
  v0 := Try.zeroValue0
  t3 := Try.underlying3
  a3 := Try.isAgg3
  z3 := Try.sizeOf3
  v3 := Try.zeroValue3
  t4 := Try.underlying4
  a4 := Try.isAgg4
  z4 := Try.sizeOf4
  v4 := Try.zeroValue4
  t9 := Try.underlying9
  a9 := Try.isAgg9
  z9 := Try.sizeOf9
  v9 := Try.zeroValue9
  t20 := Try.underlying20
  a20 := Try.isAgg20
  z20 := Try.sizeOf20
  v20 := Try.zeroValue20
  t31 := Try.underlying59
  a31 := Try.isAgg59
  z31 := Try.sizeOf59
  v31 := Try.zeroValue59
  t37 := Try.underlying94
  a37 := Try.isAgg94
  z37 := Try.sizeOf94
  v37 := Try.zeroValue94
  t70 := Try.underlying95
  a70 := Try.isAgg95
  z70 := Try.sizeOf95
  v70 := Try.zeroValue95
  t72 := Try.underlying97
  a72 := Try.isAgg97
  z72 := Try.sizeOf97
  v72 := Try.zeroValue97
  t75 := Try.underlying100
  a75 := Try.isAgg100
  z75 := Try.sizeOf100
  v75 := Try.zeroValue100
  t76 := Try.underlying101
  a76 := Try.isAgg101
  z76 := Try.sizeOf101
  v76 := Try.zeroValue101
  t127 := Try.underlying110
  a127 := Try.isAgg110
  z127 := Try.sizeOf110
  v127 := Try.zeroValue110
  t164 := Try.underlying112
  a164 := Try.isAgg112
  z164 := Try.sizeOf112
  v164 := Try.zeroValue112 }
theorem extraJoin : Builder.Extra Try.prog Try.laysJoin_ren where
  sizeBuilder := by kernel_rfl
  liesBuilder := by kernel_rfl
  t5 := Try.underlying5
  a5 := Try.isAgg5
  z5 := Try.sizeOf5
  v5 := Try.zeroValue5
  infoByte := by kernel_rfl
  cellsByte := by kernel_rfl
  sizeByte := by kernel_rfl
  neB5 := by decide
def joinB (l : List ByteArray) (sep : ByteArray) : ByteArray := ⟨(Lib.join (l.map (·.data.toList)) sep.data.toList).toArray⟩
theorem cell_none {w : World} {a : Addr} {v : Value} (h : w.cell? (a.add 0) = some v) : ∃ b o, a = ⟨b, o, none⟩ := by
  obtain ⟨b, o, s⟩ := a
  cases s with
  | none => exact ⟨b, o, rfl⟩
  | some k =>
    simp [Addr.add, World.cell?] at h
    split at h <;> cases h
theorem flat_str : ∀ l : List ByteArray, flat (l.map T.str) = l.map T.str
  | [] => rfl
  | b :: l => by
    have := flat_str l
    unfold flat at this ⊢
    rw [List.map_cons, List.flatMap_cons, this]; rfl
theorem s_Join (l : List ByteArray) (sep : ByteArray) (hn : l.length ≤ 140737488355328) (hlen : (joinB l sep).size ≤ 140737488355328) : Spec Try.prog 51 [.ro (.sl 1 (l.map T.str)), .ro (T.str sep)] [T.str (joinB l sep)] where
  callable := ⟨Try.f51, Try.func51, by kernel_rfl, by kernel_rfl⟩
  calls := by
    intro w vals R hR ⟨hv0, Ss, _, _, hv⟩
    have h0 := hv 0 _ rfl
    have h1 := hv 1 _ rfl
    have post : ∀ {e : Ending} {w' : World}, e = .returned (.string (joinB l sep)) ∧ Below w.heap.size w w' → Ret w R [.ro (.sl 1 (l.map T.str)), .ro (T.str sep)] [T.str (joinB l sep)] vals e w' := by
      rintro e w' ⟨he, hb⟩
      refine ⟨_, fun _ => False, fun _ _ => False, he, Ow.v rfl, fun i a hi => ?_, fun _ h => h.elim, fun _ _ h => h.elim, fun _ _ h => h.elim, fun _ _ _ h => h.elim, ⟨hb.os, hb.tape, hb.output, hb.size⟩, fun b hb' _ => hb.block b hb'⟩
      match i, hi with
      | 0, hi => cases hi; trivial
      | 1, hi => cases hi; trivial
    match vals, hv0 with
    | [y, z], _ =>
      have h0 : Rd w (fun b => b < w.heap.size ∧ ¬ R b) (.sl 1 (l.map T.str)) y := h0
      have h1 : Rd w (fun b => b < w.heap.size ∧ ¬ R b) (.v (.string sep)) z := h1
      cases h1
      by_cases hl : l = []
      · subst hl
        obtain ⟨A, c, rfl⟩ := h0.sl_val
        refine (Any.strings_Join_none Try.laysJoin extraJoin A c sep w).mono fun e w' ⟨he, hw⟩ => post ⟨he, hw ▸ Below.refl _ _⟩
      · generalize hes : l.map T.str = es at h0
        cases h0 with
        | nil => exact absurd (List.map_eq_nil_iff.1 hes) hl
        | @row _ a _ cap u hcap hz hc hcell hrd =>
          have hll : es.length = l.length := by rw [← hes, List.length_map]
          have hfl : flat es = es := by rw [← hes]; exact flat_str l
          have hat : ∀ (j : Nat) (x : ByteArray), l[j]? = some x → w.cell? (a.add j) = some (.string x) := by
            intro j x hx
            have hj : (flat es)[j]? = some (T.str x) := by rw [hfl, ← hes, List.getElem?_map, hx]; rfl
            rw [hcell j _ hj]
            have hr := hrd j _ hj
            generalize u j = q at hr ⊢
            cases hr
            rfl
          obtain ⟨x0, hx0⟩ : ∃ x0, l[0]? = some x0 := by
            cases l with
            | nil => exact absurd rfl hl
            | cons x r => exact ⟨x, rfl⟩
          obtain ⟨b, o, rfl⟩ := cell_none (hat 0 x0 hx0)
          have hsz : (joinB l sep).size = (Lib.join (l.map (·.data.toList)) sep.data.toList).length := by
            show (Lib.join (l.map (·.data.toList)) sep.data.toList).toArray.size = _
            simp
          have key := Any.strings_Join Try.laysJoin extraJoin b o cap l sep w (fun j x hx => by
            have := hat j x hx
            rwa [add_mk] at this) hz.1 hn (by omega) (by omega)
          rw [← hll] at key
          subst hes
          exact key.mono fun e w' h => post h


end Go.Proofs.Yteibafcohflbdaa.E
