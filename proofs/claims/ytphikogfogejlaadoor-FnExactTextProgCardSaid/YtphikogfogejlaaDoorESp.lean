/- Contracts of functions of this seat's program. -/
import Derived.Test.YtphikogfogejlaaDoorETy
import Derived.Test.YtphikogfogejlaaDoorECu
import Derived.Shelf.LaysM
import Derived.Shelf.Strings.Split
namespace Go.Proofs.YtphikogfogejlaaDoor.E
set_option linter.unusedVariables false
set_option linter.unusedSimpArgs false
set_option maxHeartbeats 1600000
open Go.Shelf Go.RowKit
def Tryd.laysSplit_ren : Go.Shelf.Ren := ⟨fun | 146 => 67 | 221 => 90 | 268 => 103 | 138 => 104 | 143 => 105 | 195 => 112 | 197 => 113 | 218 => 114 | 219 => 115 | 260 => 118 | 217 => 119 | 225 => 120 | 224 => 121 | 267 => 122 | 266 => 123 | 314 => 124 | n => n, fun | 9 => 9 | 31 => 50 | 3 => 3 | 4 => 4 | 0 => 0 | 105 => 136 | 21 => 21 | 5 => 5 | 46 => 140 | 119 => 99 | 139 => 147 | 138 => 146 | 146 => 148 | 51 => 110 | n => n, fun | 1 => 2 | 3 => 3 | 4 => 4 | n => n⟩
theorem Tryd.laysSplit : Go.Proofs.LaysM.n146 Tryd.prog Tryd.laysSplit_ren := {
  mixed := by kernel_rfl
  f138 := Tryd.func104.trans (congrArg some (by kernel_rfl))
  f143 := Tryd.func105.trans (congrArg some (by kernel_rfl))
  f146 := Tryd.func67.trans (congrArg some (by kernel_rfl))
  f195 := Tryd.func112.trans (congrArg some (by kernel_rfl))
  f197 := Tryd.func113.trans (congrArg some (by kernel_rfl))
  f217 := Tryd.func119.trans (congrArg some (by kernel_rfl))
  f218 := Tryd.func114.trans (congrArg some (by kernel_rfl))
  f219 := Tryd.func115.trans (congrArg some (by kernel_rfl))
  f221 := Tryd.func90.trans (congrArg some (by kernel_rfl))
  f224 := Tryd.func121.trans (congrArg some (by kernel_rfl))
  f225 := Tryd.func120.trans (congrArg some (by kernel_rfl))
  f260 := Tryd.func118.trans (congrArg some (by kernel_rfl))
  f266 := Tryd.func123.trans (congrArg some (by kernel_rfl))
  f267 := Tryd.func122.trans (congrArg some (by kernel_rfl))
  f268 := Tryd.func103.trans (congrArg some (by kernel_rfl))
  f314 := Tryd.func124.trans (congrArg some (by kernel_rfl))
  t0 := Tryd.underlying0
  a0 := Tryd.isAgg0
  z0 := Tryd.sizeOf0
  v0 := Tryd.zeroValue0
  t3 := Tryd.underlying3
  a3 := Tryd.isAgg3
  z3 := Tryd.sizeOf3
  v3 := Tryd.zeroValue3
  t4 := Tryd.underlying4
  a4 := Tryd.isAgg4
  z4 := Tryd.sizeOf4
  v4 := Tryd.zeroValue4
  t5 := Tryd.underlying5
  a5 := Tryd.isAgg5
  z5 := Tryd.sizeOf5
  v5 := Tryd.zeroValue5
  t9 := Tryd.underlying9
  a9 := Tryd.isAgg9
  z9 := Tryd.sizeOf9
  v9 := Tryd.zeroValue9
  t21 := Tryd.underlying21
  a21 := Tryd.isAgg21
  z21 := Tryd.sizeOf21
  v21 := Tryd.zeroValue21
  t31 := Tryd.underlying50
  a31 := Tryd.isAgg50
  z31 := Tryd.sizeOf50
  v31 := Tryd.zeroValue50
  t46 := Tryd.underlying140
  a46 := Tryd.isAgg140
  z46 := Tryd.sizeOf140
  v46 := Tryd.zeroValue140
  t51 := Tryd.underlying110
  a51 := Tryd.isAgg110
  z51 := Tryd.sizeOf110
  v51 := Tryd.zeroValue110
  t105 := Tryd.underlying136
  a105 := Tryd.isAgg136
  z105 := Tryd.sizeOf136
  v105 := Tryd.zeroValue136
  t119 := Tryd.underlying99
  a119 := Tryd.isAgg99
  z119 := Tryd.sizeOf99
  t138 := Tryd.underlying146
  a138 := Tryd.isAgg146
  z138 := Tryd.sizeOf146
  v138 := Tryd.zeroValue146
  t139 := Tryd.underlying147
  a139 := Tryd.isAgg147
  z139 := Tryd.sizeOf147
  v139 := Tryd.zeroValue147
  t146 := Tryd.underlying148
  a146 := Tryd.isAgg148
  z146 := Tryd.sizeOf148
  v146 := Tryd.zeroValue148
  g1 := by kernel_rfl
  g3 := by kernel_rfl
  g4 := by kernel_rfl
  i0 := by kernel_rfl
  i3 := by kernel_rfl
  i4 := by kernel_rfl
  i5 := by kernel_rfl
  i9 := by kernel_rfl
  i21 := by kernel_rfl
  i31 := by kernel_rfl
  i46 := by kernel_rfl
  i51 := by kernel_rfl
  i105 := by kernel_rfl
  i138 := by kernel_rfl
  i139 := by kernel_rfl
  i146 := by kernel_rfl
  m1 := by kernel_rfl
  s1_3 := fun w h => Go.Proofs.cell_of_shapedOpen_int (zero := #[.int .i64 0]) (t := 3) h (of_decide_eq_true (by kernel_rfl)) (by kernel_rfl) rfl (by kernel_rfl) (by kernel_rfl) Tryd.underlying3
  m3 := by kernel_rfl
  m4 := by kernel_rfl }
theorem gMax_is : Tryd.laysSplit_ren.g 1 = gMax := by kernel_rfl
theorem flat_strs : ∀ l : List ByteArray, flat (l.map T.str) = l.map T.str
  | [] => rfl
  | b :: l => by
    have := flat_strs l
    unfold flat at this ⊢
    rw [List.map_cons, List.flatMap_cons, this]; rfl
/-- A new block of strings. -/
theorem ow_strs {w : World} (l : List ByteArray) (te : Nat) : Ow (w.alloc (.cells (l.map Value.string).toArray te)) (.sl 1 (l.map T.str)) (.slice (some ⟨w.heap.size, 0, none⟩) l.length l.length) (fun b => b = w.heap.size) := by
  have e : (l.map T.str).length = l.length := by simp
  have hv : Value.slice (some ⟨w.heap.size, 0, none⟩) l.length l.length = .slice (some ⟨w.heap.size, 0, none⟩) (l.map T.str).length l.length := by rw [e]
  rw [hv]
  refine .row (o := 0) (Ss := fun _ _ => False) (heap_alloc_new w _) (by simp) (by simp) (fun t ht => ?_) (fun j ct hj => ?_) rfl (fun _ h => h) (fun _ _ h => h.elim) (fun _ _ _ h => h.elim)
  · obtain ⟨b, _, rfl⟩ := List.mem_map.1 ht; rfl
  · rw [flat_strs, List.getElem?_map, Option.map_eq_some_iff] at hj
    obtain ⟨b, hb, rfl⟩ := hj
    rw [Nat.zero_add, Array.getD_eq_getD_getElem?, List.getElem?_toArray, List.getElem?_map, hb]
    exact .v rfl
theorem s_Split (c : UInt8) (s : ByteArray) (hs : s.size ≤ 1048576) : Spec Tryd.prog 67 [.ro (T.str s), .ro (T.str ⟨#[c]⟩)] [.sl 1 ((cutB c s).map T.str)] where
  callable := ⟨Tryd.f67, Tryd.func67, by kernel_rfl, by kernel_rfl⟩
  calls := by
    intro w vals R hR ⟨hv0, Ss, _, _, hv⟩
    have h0 := hv 0 _ rfl
    have h1 := hv 1 _ rfl
    match vals, hv0 with
    | [y, z], _ =>
      have h0 : Rd w (fun b => b < w.heap.size ∧ ¬ R b) (.v (.string s)) y := h0
      have h1 : Rd w (fun b => b < w.heap.size ∧ ¬ R b) (.v (.string ⟨#[c]⟩)) z := h1
      cases h0
      cases h1
      obtain ⟨m, hm⟩ := hR.inv.max
      rw [← gMax_is] at hm
      have key := Any.strings_Split { Tryd.laysSplit with } Tryd.laysSplit.i9 s ⟨#[c]⟩ m w (by omega) hm (Nat.le_refl _)
      rw [splitB_cut] at key
      have hn : Lib.countB s ⟨#[c]⟩ + 1 = (cutB c s).length := by rw [← splitB_cut]; exact (Lib.splitB_all ⟨#[c]⟩ (Nat.le_refl _) 0 _ s rfl).symm
      rw [hn] at key
      refine key.mono fun e w' ⟨he, hw⟩ => ?_
      subst hw
      refine ⟨_, fun b => b = w.heap.size, fun _ _ => False, he, ow_strs _ _, fun i a hi => ?_, fun b hb => ?_, fun _ _ h => h.elim, fun _ _ _ h => h, fun _ _ _ h => h.elim, up_alloc _ _, fun b hb _ => heap_alloc_old w _ hb⟩
      · match i, hi with
        | 0, hi => cases hi; trivial
        | 1, hi => cases hi; trivial
      · subst hb; exact ⟨.inl (Nat.le_refl _), by simp⟩
theorem i_Parts (s : ByteArray) (hs : s.size ≤ 1048576) : Spec Tryd.prog 26 [.ro (T.str s)] [.sl 1 ((cutB 32 s).map T.str)] := by
  refine fn Tryd.func26 ?_
  repeat (first | refine brT ?_ | refine brF ?_ | refine And.intro rfl ?_ | refine And.intro trivial ?_ | intro _)
  refine ⟨_, s_Split 32 s hs, ?_⟩
  repeat (first | refine brT ?_ | refine brF ?_ | refine And.intro rfl ?_ | refine And.intro trivial ?_ | intro _)
  exact rfl
/-! Lines: what is cut at breaks, without an empty last one. -/
def linesOf (L : List ByteArray) : List ByteArray := if L.getLast? = some ⟨#[]⟩ then L.dropLast else L
def linesB (s : ByteArray) : List ByteArray := linesOf (cutB 10 s)
theorem linesB_len (s : ByteArray) : (linesB s).length ≤ s.size + 1 := by
  have := cutB_len 10 s
  unfold linesB linesOf
  split
  · simp; omega
  · exact this
theorem i_Lines (s : ByteArray) (hs : s.size ≤ 1048576) : Spec Tryd.prog 31 [.ro (T.str s)] [.sl 1 ((linesB s).map T.str)] := by
  have hne := cutB_ne 10 s
  have hlen := cutB_len 10 s
  obtain ⟨L, x, hL⟩ : ∃ L x, cutB 10 s = L ++ [x] := ⟨_, _, (List.dropLast_concat_getLast hne).symm⟩
  have hL2 : L.length ≤ 1048576 := by rw [hL] at hlen; simp at hlen; omega
  refine fn Tryd.func31 ?_
  unfold linesB linesOf
  repeat (first | refine brT ?_ | refine brF ?_ | refine And.intro rfl ?_ | refine And.intro trivial ?_ | intro _)
  refine ⟨_, s_Split 10 s hs, ?_⟩
  repeat (first | refine brT ?_ | refine brF ?_ | refine And.intro rfl ?_ | refine And.intro trivial ?_ | intro _)
  have hw : w64 ((((cutB 10 s).map T.str).length : Int) - 1) = (L.length : Int) := by rw [hL]; simp; exact w64_id (by omega) (by omega)
  refine ⟨by show 0 ≤ w64 _; rw [hw]; omega, by show (w64 _).toNat < _; rw [hw, hL]; simp, ?_⟩
  repeat (first | refine brT ?_ | refine brF ?_ | refine And.intro rfl ?_ | refine And.intro trivial ?_ | intro _)
  refine ⟨T.str x, by show ((cutB 10 s).map T.str)[(w64 _).toNat]? = _; rw [hw, hL]; simp, ?_⟩
  by_cases hx : x = ⟨#[]⟩
  · refine brR (by show ¬ ((x.toList == (⟨#[]⟩ : ByteArray).toList) = false); rw [beq_str, decide_eq_true hx]; decide) (fun _ => ?_)
    have e : (cutB 10 s).getLast? = some ⟨#[]⟩ := by rw [hL]; simp [hx]
    rw [if_pos e]
    repeat (first | refine brT ?_ | refine brF ?_ | refine And.intro rfl ?_ | refine And.intro trivial ?_ | intro _)
    refine ⟨by show 0 ≤ w64 _; rw [hw]; omega, ?_⟩
    refine ⟨Nat.zero_le _, by show (w64 _).toNat ≤ _; rw [hw, hL]; simp, fun q1 => ?_⟩
    repeat (first | refine brT ?_ | refine brF ?_ | refine And.intro rfl ?_ | refine And.intro trivial ?_ | intro _)
    exact congrArg (fun z => [T.sl 1 z]) (by show ((((cutB 10 s).map T.str).take (w64 _).toNat).drop 0) = _; rw [hw, hL]; simp)
  · refine brL (by show ¬ ((x.toList == (⟨#[]⟩ : ByteArray).toList) = true); rw [beq_str, decide_eq_false hx]; decide) (fun _ => ?_)
    have e : ¬ (cutB 10 s).getLast? = some ⟨#[]⟩ := by rw [hL]; simp [hx]
    rw [if_neg e]
    repeat (first | refine brT ?_ | refine brF ?_ | refine And.intro rfl ?_ | refine And.intro trivial ?_ | intro _)
    exact rfl
theorem s_Lines (s : ByteArray) (hs : s.size ≤ 1048576) : Spec Tryd.prog 30 [.ro (T.str s)] [.sl 1 ((linesB s).map T.str)] := by
  refine fn Tryd.func30 ?_
  repeat (first | refine brT ?_ | refine brF ?_ | refine And.intro rfl ?_ | refine And.intro trivial ?_ | intro _)
  refine ⟨fun t ht => (by simp at ht), fun q0 => ?_⟩
  repeat (first | refine brT ?_ | refine brF ?_ | refine And.intro rfl ?_ | refine And.intro trivial ?_ | intro _)
  refine loopI (fun x : Nat × Nat × Nat × Nat × List ByteArray => ⟨37, [(0, .vv (.string s)), (3, .c (.own 7000 x.1)), (4, .int x.2.2.2.1), (5, .int x.2.2.1)], [(7000, .row x.1 x.2.1 1 (x.2.2.2.2.map T.str))]⟩) (fun x => s.size - x.2.2.1) (fun x => x.2.2.1 ≤ s.size ∧ cutI 10 s x.2.2.1 x.2.2.2.1 x.2.2.2.2) (q0, 0, 0, 0, []) ⟨Nat.zero_le _, cutI_start _ _⟩
    (wk rfl ⟨rfl, rfl, rfl, rfl, trivial⟩ ⟨rfl, trivial⟩) ?_
  rintro ⟨q, v, i, f, out⟩ ⟨hi, hI⟩
  simp only at hi hI
  have hf := hI.1
  have ho := hI.2.1
  repeat (first | refine brT ?_ | refine brF ?_ | refine And.intro rfl ?_ | refine And.intro trivial ?_ | intro _)
  refine brD (fun h => ?_) (fun h => ?_)
  · have hlt : i < s.size := by have h' : (i : Int) < (s.size : Int) := h; omega
    repeat (first | refine brT ?_ | refine brF ?_ | refine And.intro rfl ?_ | refine And.intro trivial ?_ | intro _)
    refine ⟨nn i, h, ?_⟩
    repeat (first | refine brT ?_ | refine brF ?_ | refine And.intro rfl ?_ | refine And.intro trivial ?_ | intro _)
    by_cases hc : s[i]! = 10
    · have e : (((s[((i : Int)).toNat]!).toNat : Int) == 10) = true := by
        have := @u8_eq s[i]! 10
        rw [decide_eq_true hc] at this
        exact this
      refine brR (by rw [e]; decide) (fun _ => ?_)
      repeat (first | refine brT ?_ | refine brF ?_ | refine And.intro rfl ?_ | refine And.intro trivial ?_ | intro _)
      refine ⟨nn f, ?_⟩
      refine ⟨nn i, ?_⟩
      refine ⟨by show f ≤ i; omega, by show i ≤ s.size; omega, ?_⟩
      repeat (first | refine brT ?_ | refine brF ?_ | refine And.intro rfl ?_ | refine And.intro trivial ?_ | intro _)
      refine ⟨fun t ht => (by simp at ht; subst ht; rfl), fun q1 => ?_⟩
      repeat (first | refine brT ?_ | refine brF ?_ | refine And.intro rfl ?_ | refine And.intro trivial ?_ | intro _)
      refine ⟨by simp; unfold bound; omega, fun q2 => ?_⟩
      repeat (first | refine brT ?_ | refine brF ?_ | refine And.intro rfl ?_ | refine And.intro trivial ?_ | intro _)
      refine nxt (q2, 0, i + 1, i + 1, out ++ [s.extract f i]) ⟨hlt, cutI_hit hI hlt hc⟩ (by show s.size - (i + 1) < s.size - i; omega) (wk rfl ⟨rfl, rfl, up1 hlt (by omega), up1 hlt (by omega), trivial⟩ ⟨gr rfl (by simp; rfl), trivial⟩)
    · have e : (((s[((i : Int)).toNat]!).toNat : Int) == 10) = false := by
        have := @u8_eq s[i]! 10
        rw [decide_eq_false hc] at this
        exact this
      refine brL (by rw [e]; decide) (fun _ => ?_)
      repeat (first | refine brT ?_ | refine brF ?_ | refine And.intro rfl ?_ | refine And.intro trivial ?_ | intro _)
      refine nxt (q, v, i + 1, f, out) ⟨hlt, cutI_miss hI hlt hc⟩ (by show s.size - (i + 1) < s.size - i; omega) (wk rfl ⟨rfl, rfl, rfl, up1 hlt (by omega), trivial⟩ ⟨rfl, trivial⟩)
  · have hge : i = s.size := by have h' : ¬ (i : Int) < (s.size : Int) := h; omega
    subst hge
    have hend := cutI_end hI
    have hlast : (cutB 10 s).getLast? = some (s.extract f s.size) := by rw [← hend]; simp
    repeat (first | refine brT ?_ | refine brF ?_ | refine And.intro rfl ?_ | refine And.intro trivial ?_ | intro _)
    by_cases hfs : f < s.size
    · have hx : s.extract f s.size ≠ ⟨#[]⟩ := by
        intro e
        have := congrArg ByteArray.size e
        rw [ByteArray.size_extract] at this
        have h0 : (⟨#[]⟩ : ByteArray).size = 0 := rfl
        omega
      refine brR (by simp; omega) (fun _ => ?_)
      repeat (first | refine brT ?_ | refine brF ?_ | refine And.intro rfl ?_ | refine And.intro trivial ?_ | intro _)
      refine ⟨nn f, ?_⟩
      refine ⟨by show f ≤ s.size; omega, by show s.size ≤ s.size; omega, ?_⟩
      repeat (first | refine brT ?_ | refine brF ?_ | refine And.intro rfl ?_ | refine And.intro trivial ?_ | intro _)
      refine ⟨fun t ht => (by simp at ht; subst ht; rfl), fun q1 => ?_⟩
      repeat (first | refine brT ?_ | refine brF ?_ | refine And.intro rfl ?_ | refine And.intro trivial ?_ | intro _)
      refine ⟨by simp; unfold bound; omega, fun q2 => ?_⟩
      repeat (first | refine brT ?_ | refine brF ?_ | refine And.intro rfl ?_ | refine And.intro trivial ?_ | intro _)
      exact congrArg (fun z => [T.sl 1 z]) (by unfold linesB linesOf; rw [hlast, if_neg (by simpa using hx), ← hend]; simp; rfl)
    · have hfe : f = s.size := by omega
      have hx : s.extract f s.size = ⟨#[]⟩ := bx_ext (by rw [ext_list, hfe]; simp)
      refine brL (by simp; omega) (fun _ => ?_)
      repeat (first | refine brT ?_ | refine brF ?_ | refine And.intro rfl ?_ | refine And.intro trivial ?_ | intro _)
      exact congrArg (fun z => [T.sl 1 z]) (by unfold linesB linesOf; rw [hlast, hx, if_pos rfl, ← hend]; simp)


end Go.Proofs.YtphikogfogejlaaDoor.E
