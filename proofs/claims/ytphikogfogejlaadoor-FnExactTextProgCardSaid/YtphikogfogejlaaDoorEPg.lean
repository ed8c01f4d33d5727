/- Contracts of functions of this seat's program. -/
import Derived.Test.YtphikogfogejlaaDoorETy
import Derived.Test.YtphikogfogejlaaDoorEPe
namespace Go.Proofs.YtphikogfogejlaaDoor.E
set_option linter.unusedVariables false
set_option linter.unusedSimpArgs false
set_option maxHeartbeats 1600000
def okNums (l : ByteArray) : Bool := ((cutB 32 l).drop 1).all fun x => (textNum x).2
theorem nums_take {W : List ByteArray} (h : (W.drop 1).all (fun x => (textNum x).2) = true) : (W.drop 1).map (fun x => (textNum x).1) = (W.drop 1).map fun w => readW w e0 := List.map_congr_left (fun x hx => (val_numQ (List.all_eq_true.1 h x hx)).2.symm)
theorem i_readNums (l w : ByteArray) (hl : l.size ≤ 20000) : Spec Tryd.prog 48 [.ro (T.str l), .ro (T.str w)] [.sl 1 ((if okNums l then numsOf l else []).map T.int), T.bool (okNums l && decide (wd (cutB 32 l) 0 = w))] := by
  have hlen := cutB_len 32 l
  have hne := cutB_ne 32 l
  refine fn Tryd.func48 ?_
  unfold numsOf okNums
  repeat (first | refine brT ?_ | refine brF ?_ | refine And.intro rfl ?_ | refine And.intro trivial ?_ | intro _)
  refine ⟨_, i_Parts l (by omega), ?_⟩
  generalize cutB 32 l = W at hlen hne ⊢
  have hW1 : 1 ≤ W.length := by cases W; exact absurd rfl hne; simp
  intro qW
  repeat (first | refine brT ?_ | refine brF ?_ | refine And.intro rfl ?_ | refine And.intro trivial ?_ | intro _)
  refine ⟨fun t ht => (by cases ht), fun q7 => ?_⟩
  repeat (first | refine brT ?_ | refine brF ?_ | refine And.intro rfl ?_ | refine And.intro trivial ?_ | intro _)
  refine ⟨by decide, by show 1 ≤ (W.map T.str).length; simp; omega, Nat.le_refl _, ?_⟩
  repeat (first | refine brT ?_ | refine brF ?_ | refine And.intro rfl ?_ | refine And.intro trivial ?_ | intro _)
  obtain ⟨V, hV⟩ : ∃ V, V = W.drop 1 := ⟨_, rfl⟩
  have hVl : V.length = W.length - 1 := by rw [hV]; simp
  have hVat : ∀ k (h : k < V.length), wd W (1 + k) = V[k] := fun k h => by
    have h2 : 1 + k < W.length := by omega
    have a := wd_at h2
    have b : (W.drop 1)[k]? = W[1 + k]? := List.getElem?_drop ..
    rw [← hV, List.getElem?_eq_getElem h, a] at b
    exact (Option.some.inj b).symm
  rw [← hV]
  refine loopI (fun x : Nat × Nat => ⟨40, [(1, .vv (.string w)), (6, .c (.own 14000 qW)), (7, .c (.own 15000 x.2)), (16, .c (.vw 14000 qW 1 1 (W.map T.str).length)), (17, .int (((W.map T.str).length - 1 : Nat) : Int)), (18, .int x.1)],
    [(14000, .row qW 0 1 (W.map T.str)), (15000, .row x.2 0 1 (((V.take x.1).map fun y => (textNum y).1).map T.int))]⟩) (fun x => V.length - x.1) (fun x => x.1 ≤ V.length ∧ ∀ j (hj : j < V.length), j < x.1 → (textNum V[j]).2 = true) (0, q7) ⟨Nat.zero_le _, fun j _ h => absurd h (by simp)⟩
    (wk rfl ⟨rfl, rfl, rfl, rfl, rfl, rfl, trivial⟩ ⟨rfl, rfl, trivial⟩) ?_
  rintro ⟨k, q⟩ ⟨hk, hI⟩
  simp only at hk hI
  repeat (first | refine brT ?_ | refine brF ?_ | refine And.intro rfl ?_ | refine And.intro trivial ?_ | intro _)
  by_cases hk2 : k < V.length
  · refine brR (by show ¬ (decide ((k : Int) < (((W.map T.str).length - 1 : Nat) : Int)) = false); rw [List.length_map, decide_eq_true (by omega)]; decide) (fun _ => ?_)
    repeat (first | refine brT ?_ | refine brF ?_ | refine And.intro rfl ?_ | refine And.intro trivial ?_ | intro _)
    refine ⟨nn k, by show 1 + k < (W.map T.str).length; simp; omega, ?_⟩
    repeat (first | refine brT ?_ | refine brF ?_ | refine And.intro rfl ?_ | refine And.intro trivial ?_ | intro _)
    refine ⟨T.str V[k], by rw [← hVat k hk2]; exact wd_str (k := 1 + k) (by omega), ?_⟩
    repeat (first | refine brT ?_ | refine brF ?_ | refine And.intro rfl ?_ | refine And.intro trivial ?_ | intro _)
    refine ⟨_, i_TextNum V[k], ?_⟩
    repeat (first | refine brT ?_ | refine brF ?_ | refine And.intro rfl ?_ | refine And.intro trivial ?_ | intro _)
    cases ht : (textNum V[k]).2 with
    | false =>
      have hall : V.all (fun x => (textNum x).2) = false := List.all_eq_false.2 ⟨V[k], List.getElem_mem hk2, by simp [ht]⟩
      refine brR (by decide) (fun _ => ?_)
      repeat (first | refine brT ?_ | refine brF ?_ | refine And.intro rfl ?_ | refine And.intro trivial ?_ | intro _)
      rw [hall]
      exact ⟨1, rfl⟩
    | true =>
      refine brL (by decide) (fun _ => ?_)
      repeat (first | refine brT ?_ | refine brF ?_ | refine And.intro rfl ?_ | refine And.intro trivial ?_ | intro _)
      refine ⟨fun t ht => (by simp at ht; subst ht; rfl), fun qa => ?_⟩
      repeat (first | refine brT ?_ | refine brF ?_ | refine And.intro rfl ?_ | refine And.intro trivial ?_ | intro _)
      refine ⟨by simp; unfold bound; omega, fun qb => ?_⟩
      repeat (first | refine brT ?_ | refine brF ?_ | refine And.intro rfl ?_ | refine And.intro trivial ?_ | intro _)
      refine nxt (k + 1, qb) ⟨hk2, fun j hj h => ?_⟩ (by show V.length - (k + 1) < V.length - k; omega) (wk rfl ⟨rfl, rfl, rfl, rfl, rfl, up1 hk2 (by omega), trivial⟩ ⟨rfl, congrArg (fun z => some (Ob.row qb 0 1 z)) ?_, trivial⟩)
      · by_cases e : j = k
        · subst e; exact ht
        · exact hI j hj (by simp at h; omega)
      · show _ = ((V.take (k + 1)).map fun y => (textNum y).1).map T.int
        rw [List.take_succ_eq_append_getElem hk2, List.map_append, List.map_append]; rfl
  · have hkv : k = V.length := by omega
    subst hkv
    have hall : V.all (fun x => (textNum x).2) = true := List.all_eq_true.2 (fun x hx => by
      obtain ⟨j, hj, rfl⟩ := List.mem_iff_getElem.1 hx
      exact hI j hj hj)
    have hnm := nums_take (W := W) (by rw [← hV]; exact hall)
    rw [← hV] at hnm
    have hb : ((wd W 0).toList == w.toList) = decide (wd W 0 = w) := beq_str _ _
    rw [hall, if_pos rfl, ← hnm, Bool.true_and, ← hb]
    refine brL (by show ¬ (decide ((V.length : Int) < (((W.map T.str).length - 1 : Nat) : Int)) = true); rw [List.length_map, decide_eq_false (by omega)]; decide) (fun _ => ?_)
    refine drM (Pl.go 0 (Pl.go 1 (Pl.go 2 (Pl.go 3 (Pl.go 4 (Pl.go 5 (Pl.go 6 (Pl.go 7 Pl.stop)))))))) (fun s => s = ⟨40, [(4, .c (.own 15000 q)), (5, .bool ((wd W 0).toList == w.toList))], [(15000, .row q 0 1 ((V.map fun y => (textNum y).1).map T.int))]⟩) (by kernel_rfl) ?_ ?_
    · repeat' (first | (first | refine brT ?_ | refine brF ?_ | refine And.intro rfl ?_ | refine And.intro trivial ?_ | intro _) | refine ⟨T.str (wd W 0), wd_str hW1, ?_⟩ | refine And.intro ?_ ?_ | fail)
      all_goals first
        | exact Int.le_refl _
        | (show 0 < (W.map T.str).length; simp; omega)
        | exact ⟨_, rfl, wk rfl ⟨rfl, rfl, trivial⟩ ⟨congrArg (fun z : List ByteArray => some (Ob.row q 0 1 ((z.map fun y => (textNum y).1).map T.int))) (List.take_length (l := V)), trivial⟩⟩
    rintro s rfl
    repeat (first | refine brT ?_ | refine brF ?_ | refine And.intro rfl ?_ | refine And.intro trivial ?_ | intro _)
    exact rfl

theorem numsIn_iff {w l : ByteArray} : numsIn w l ↔ (okNums l && decide (wd (cutB 32 l) 0 = w)) = true := by
  unfold numsIn okNums
  rw [Bool.and_eq_true, List.all_eq_true, decide_eq_true_eq]
  exact ⟨fun h => ⟨h.2, h.1⟩, fun h => ⟨h.2, h.1⟩⟩
theorem s_one {l : ByteArray} (h : (cutB 32 l).length = 2) : (numsOf l).length = 1 := by unfold numsOf; rw [List.length_map, List.length_drop, h]
theorem one_of {l : ByteArray} (h : (numsOf l).length = 1) : (cutB 32 l).length = 2 := by unfold numsOf at h; rw [List.length_map, List.length_drop] at h; omega
theorem implStep_bnd {st st1 : PS} {w : ByteArray} {n : Nat} (h : st.1.length ≤ n ∧ st.2.length ≤ n ∧ ∀ c ∈ st.2, c.length ≤ n) (hw : w.size ≤ 20000) (hs : ∀ x ∈ st.1, x.1.length ≤ 20001) (e : implStep (some st) w = some st1) : stB (n + 1) (st1, false) := by
  have := (run_A [w] st st1 e).1
  have hb := step_bnd (st := (st, false)) (n := n) ⟨h.1, h.2.1, h.2.2, hs⟩ hw
  rw [show specStep (st, false) w = (st1, false) from this] at hb
  exact hb
set_option maxHeartbeats 64000000 in
set_option maxRecDepth 20000 in
theorem i_TextProg (s : ByteArray) (hs : s.size ≤ 1048576) : Spec Tryd.prog 18 [.ro (T.str s)] [t_Prog (textProg s).1, T.int (textProg s).2] := by
  refine fn Tryd.func18 ?_
  repeat (first | refine brT ?_ | refine brF ?_ | refine And.intro rfl ?_ | refine And.intro trivial ?_ | intro _)
  by_cases hz : 20000 < s.size
  · have e : textProg s = (zP, 1) := by unfold textProg; rw [if_pos hz]
    rw [e]
    repeat (first | (first | refine brT ?_ | refine brF ?_ | refine And.intro rfl ?_ | refine And.intro trivial ?_ | intro _) | (refine brL ?kzz (fun _ => ?_); case kzz => (simp <;> omega)) | (refine brR ?kzz (fun _ => ?_); case kzz => (simp <;> omega)))
    exact ⟨1, 2, 1, rfl⟩
  have hyes := fun st => textProg_yes (s := s) (st := st) hz
  have hno := textProg_no hz
  repeat (first | (first | refine brT ?_ | refine brF ?_ | refine And.intro rfl ?_ | refine And.intro trivial ?_ | intro _) | (refine brL ?kzz (fun _ => ?_); case kzz => (simp <;> omega)) | (refine brR ?kzz (fun _ => ?_); case kzz => (simp <;> omega)))
  refine ⟨_, i_Lines s hs, ?_⟩
  intro qL
  repeat (first | refine brT ?_ | refine brF ?_ | refine And.intro rfl ?_ | refine And.intro trivial ?_ | intro _)
  have hLl := linesB_len s
  have hmem : ∀ w ∈ linesB s, w.size ≤ s.size := fun w hw => lines_mem hw
  obtain ⟨L, hL⟩ : ∃ L, L = linesB s := ⟨_, rfl⟩
  rw [← hL] at hLl hmem hyes ⊢
  by_cases h2 : 2 ≤ L.length
  case neg =>
    rw [hno (fun st h => h2 (by rw [hL]; exact h.two))]
    repeat (first | (first | refine brT ?_ | refine brF ?_ | refine And.intro rfl ?_ | refine And.intro trivial ?_ | intro _) | (refine brL ?kzz (fun _ => ?_); case kzz => (simp <;> omega)) | (refine brR ?kzz (fun _ => ?_); case kzz => (simp <;> omega)))
    exact ⟨1, 2, 1, rfl⟩
  have hw1 : w64 ((s.size : Int) - 1) = ((s.size - 1 : Nat) : Int) := by rw [w64_id (by omega) (by omega)]; omega
  have hlast : s.data.toList.getLast? = some s[s.size - 1]! := by
    have := ba_at (s := s) (i := s.size - 1) (by omega)
    rw [List.getLast?_eq_getElem?]
    have e : s.data.toList.length = s.size := by rw [Array.length_toList]; rfl
    rw [e]; exact this
  have hw0m : (wd L 0).size ≤ 20000 := by rw [wd_get (by omega)]; have := hmem _ (List.getElem_mem (show 0 < L.length by omega)); omega
  have hw1m : (wd L 1).size ≤ 20000 := by rw [wd_get (by omega)]; have := hmem _ (List.getElem_mem (show 1 < L.length by omega)); omega
  have hi0 : 0 < (L.map T.str).length := by simp; omega
  have hi1 : 1 < (L.map T.str).length := by simp; omega
  have w0 : (L.map T.str)[0]? = some (T.str (wd L 0)) := wd_str (k := 0) (by omega)
  have w1 : (L.map T.str)[1]? = some (T.str (wd L 1)) := wd_str (k := 1) (by omega)
  have r1 := i_readNums (wd L 0) chansW hw0m
  have r2 := i_readNums (wd L 1) mutexesW hw1m
  have hrow : (((L.map T.str).take (L.map T.str).length).drop 2) = (L.drop 2).map T.str := by rw [List.take_of_length_le (Nat.le_refl _), List.map_drop]
  have hmemV : ∀ w ∈ L.drop 2, w.size ≤ s.size := fun w hw => hmem w (List.mem_of_mem_drop hw)
  obtain ⟨V, hV⟩ : ∃ V, V = L.drop 2 := ⟨_, rfl⟩
  have hVl : V.length = L.length - 2 := by rw [hV]; simp
  rw [← hV] at hrow hmemV
  have x0 : 0 ≤ w64 ((s.size : Int) - 1) ∧ w64 ((s.size : Int) - 1) < (s.size : Int) := by rw [hw1]; omega
  refine brL (by show ¬ (decide (((L.map T.str).length : Int) < 2) = true); simp; omega) (fun _ => ?_)
  refine brF ?_
  refine brF ?_
  refine brF ?_
  refine brF ?_
  refine And.intro x0.1 (And.intro x0.2 ?_)
  refine brF ?_
  by_cases hc : s[s.size - 1]! = 10
  case neg =>
    rw [hno (fun st h => by have := h.last; rw [hlast] at this; exact hc (Option.some.inj this))]
    refine brI (fun h => ?_) (fun h => ?_)
    · repeat (first | refine brT ?_ | refine brF ?_ | refine And.intro rfl ?_ | refine And.intro trivial ?_ | intro _)
      exact ⟨1, 2, 1, rfl⟩
    · exfalso
      replace h : (bif false then true else (((s[(w64 ((s.size : Int) - 1)).toNat]!).toNat : Int) != 10)) = false := h
      rw [hw1] at h
      simp at h
      exact hc (by have : (s[s.size - 1]!).toNat = 10 := by omega
                   exact UInt8.toNat_inj.1 this)
  refine brI (fun h => ?_) (fun h => ?_)
  · exfalso
    replace h : (bif false then true else (((s[(w64 ((s.size : Int) - 1)).toNat]!).toNat : Int) != 10)) = true := h
    rw [hw1] at h
    simp [hc] at h
  clear h
  rename_i q2 _ _
  cases hA : (okNums (wd L 0) && decide (wd (cutB 32 (wd L 0)) 0 = chansW)) with
  | false =>
    rw [hA] at r1
    rw [hno (fun st h => by have := numsIn_iff.1 (by rw [hL]; exact h.caps : numsIn chansW (wd L 0)); rw [hA] at this; cases this)]
    repeat (first | refine brT ?_ | refine brF ?_ | refine And.intro rfl ?_ | refine And.intro trivial ?_ | intro _)
    refine ⟨(by decide : (0 : Int) ≤ 0), hi0, ?_⟩
    repeat (first | refine brT ?_ | refine brF ?_ | refine And.intro rfl ?_ | refine And.intro trivial ?_ | intro _)
    refine ⟨_, w0, ?_⟩
    repeat (first | refine brT ?_ | refine brF ?_ | refine And.intro rfl ?_ | refine And.intro trivial ?_ | intro _)
    refine ⟨_, r1, fun qc => ?_⟩
    repeat (first | refine brT ?_ | refine brF ?_ | refine And.intro rfl ?_ | refine And.intro trivial ?_ | intro _)
    refine ⟨(by decide : (0 : Int) ≤ 1), hi1, ?_⟩
    repeat (first | refine brT ?_ | refine brF ?_ | refine And.intro rfl ?_ | refine And.intro trivial ?_ | intro _)
    refine ⟨_, w1, ?_⟩
    repeat (first | refine brT ?_ | refine brF ?_ | refine And.intro rfl ?_ | refine And.intro trivial ?_ | intro _)
    refine ⟨_, r2, fun qd => ?_⟩
    repeat (first | refine brT ?_ | refine brF ?_ | refine And.intro rfl ?_ | refine And.intro trivial ?_ | intro _)
    exact ⟨1, 2, 1, rfl⟩
  | true =>
    rw [hA] at r1
    have o1 : okNums (wd L 0) = true := by cases ho : okNums (wd L 0) with | true => rfl | false => rw [ho] at hA; cases hA
    rw [o1, if_pos rfl] at r1
    cases hB : (okNums (wd L 1) && decide (wd (cutB 32 (wd L 1)) 0 = mutexesW)) with
    | false =>
      rw [hB] at r2
      rw [hno (fun st h => by have := numsIn_iff.1 (by rw [hL]; exact h.mus : numsIn mutexesW (wd L 1)); rw [hB] at this; cases this)]
      repeat (first | refine brT ?_ | refine brF ?_ | refine And.intro rfl ?_ | refine And.intro trivial ?_ | intro _)
      refine ⟨(by decide : (0 : Int) ≤ 0), hi0, ?_⟩
      repeat (first | refine brT ?_ | refine brF ?_ | refine And.intro rfl ?_ | refine And.intro trivial ?_ | intro _)
      refine ⟨_, w0, ?_⟩
      repeat (first | refine brT ?_ | refine brF ?_ | refine And.intro rfl ?_ | refine And.intro trivial ?_ | intro _)
      refine ⟨_, r1, fun qc => ?_⟩
      repeat (first | refine brT ?_ | refine brF ?_ | refine And.intro rfl ?_ | refine And.intro trivial ?_ | intro _)
      refine ⟨(by decide : (0 : Int) ≤ 1), hi1, ?_⟩
      repeat (first | refine brT ?_ | refine brF ?_ | refine And.intro rfl ?_ | refine And.intro trivial ?_ | intro _)
      refine ⟨_, w1, ?_⟩
      repeat (first | refine brT ?_ | refine brF ?_ | refine And.intro rfl ?_ | refine And.intro trivial ?_ | intro _)
      refine ⟨_, r2, fun qd => ?_⟩
      repeat (first | refine brT ?_ | refine brF ?_ | refine And.intro rfl ?_ | refine And.intro trivial ?_ | intro _)
      exact ⟨1, 2, 1, rfl⟩
    | true =>
      rw [hB] at r2
      have o2 : okNums (wd L 1) = true := by cases ho : okNums (wd L 1) with | true => rfl | false => rw [ho] at hB; cases hB
      rw [o2, if_pos rfl] at r2
      by_cases hM : (numsOf (wd L 1)).length = 1
      case neg =>
        rw [hno (fun st h => hM (s_one (by rw [hL]; exact h.one)))]
        repeat (first | refine brT ?_ | refine brF ?_ | refine And.intro rfl ?_ | refine And.intro trivial ?_ | intro _)
        refine ⟨(by decide : (0 : Int) ≤ 0), hi0, ?_⟩
        repeat (first | refine brT ?_ | refine brF ?_ | refine And.intro rfl ?_ | refine And.intro trivial ?_ | intro _)
        refine ⟨_, w0, ?_⟩
        repeat (first | refine brT ?_ | refine brF ?_ | refine And.intro rfl ?_ | refine And.intro trivial ?_ | intro _)
        refine ⟨_, r1, fun qc => ?_⟩
        repeat (first | refine brT ?_ | refine brF ?_ | refine And.intro rfl ?_ | refine And.intro trivial ?_ | intro _)
        refine ⟨(by decide : (0 : Int) ≤ 1), hi1, ?_⟩
        repeat (first | refine brT ?_ | refine brF ?_ | refine And.intro rfl ?_ | refine And.intro trivial ?_ | intro _)
        refine ⟨_, w1, ?_⟩
        repeat (first | refine brT ?_ | refine brF ?_ | refine And.intro rfl ?_ | refine And.intro trivial ?_ | intro _)
        refine ⟨_, r2, fun qd => ?_⟩
        repeat (first | (first | refine brT ?_ | refine brF ?_ | refine And.intro rfl ?_ | refine And.intro trivial ?_ | intro _) | (refine brL ?kzz (fun _ => ?_); case kzz => (simp <;> omega)) | (refine brR ?kzz (fun _ => ?_); case kzz => (simp <;> omega)))
        exact ⟨1, 2, 1, rfl⟩
      obtain ⟨m, hm⟩ : ∃ m, numsOf (wd L 1) = [m] := by
        match hq : numsOf (wd L 1), hM with
        | [a], _ => exact ⟨a, rfl⟩
      rw [hm] at r2
      have hCl : (numsOf (wd L 0)).length ≤ 20001 := by
        have := cutB_len 32 (wd L 0)
        unfold numsOf; rw [List.length_map, List.length_drop]; omega
      have hP0 : ∀ st : PS, (L.drop 2).foldl implStep (some ([], [])) = some st → ProgIn s st := fun st h => ⟨by rw [← hL]; exact h2, by rw [hlast, hc], by rw [← hL]; exact numsIn_iff.2 hA, by rw [← hL]; exact numsIn_iff.2 hB, by rw [← hL]; exact one_of hM, by rw [← hL]; exact h⟩
      have hP1 : ∀ st : PS, ProgIn s st → (L.drop 2).foldl implStep (some ([], [])) = some st := fun st h => by rw [hL]; exact h.run
      rw [hm] at hyes
      obtain ⟨C, hC⟩ : ∃ C, C = numsOf (wd L 0) := ⟨_, rfl⟩
      rw [← hC] at r1 hCl hyes
      repeat (first | refine brT ?_ | refine brF ?_ | refine And.intro rfl ?_ | refine And.intro trivial ?_ | intro _)
      rename_i q5
      refine ⟨(by decide : (0 : Int) ≤ 0), hi0, ?_⟩
      repeat (first | refine brT ?_ | refine brF ?_ | refine And.intro rfl ?_ | refine And.intro trivial ?_ | intro _)
      refine ⟨_, w0, ?_⟩
      repeat (first | refine brT ?_ | refine brF ?_ | refine And.intro rfl ?_ | refine And.intro trivial ?_ | intro _)
      refine ⟨_, r1, fun qc => ?_⟩
      repeat (first | refine brT ?_ | refine brF ?_ | refine And.intro rfl ?_ | refine And.intro trivial ?_ | intro _)
      refine ⟨(by decide : (0 : Int) ≤ 1), hi1, ?_⟩
      repeat (first | refine brT ?_ | refine brF ?_ | refine And.intro rfl ?_ | refine And.intro trivial ?_ | intro _)
      refine ⟨_, w1, ?_⟩
      repeat (first | refine brT ?_ | refine brF ?_ | refine And.intro rfl ?_ | refine And.intro trivial ?_ | intro _)
      refine ⟨_, r2, fun qd => ?_⟩
      repeat (first | refine brT ?_ | refine brF ?_ | refine And.intro (rfl : (_ : Nat) = _) ?_)
      refine ⟨(by decide : (0 : Int) ≤ 0), Nat.lt_succ_self 0, ?_⟩
      repeat (first | refine brT ?_ | refine brF ?_ | refine And.intro rfl ?_ | refine And.intro trivial ?_ | intro _)
      refine ⟨T.int m, rfl, ?_⟩
      repeat (first | refine brT ?_ | refine brF ?_ | refine And.intro rfl ?_ | refine And.intro trivial ?_ | intro _)
      refine ⟨by decide, by show 2 ≤ (L.map T.str).length; simp; omega, Nat.le_refl _, fun q3 => ?_⟩
      repeat (first | refine brT ?_ | refine brF ?_ | refine And.intro rfl ?_ | refine And.intro trivial ?_ | intro _)
      rw [← hV] at hP0 hP1
      clear r1 r2
      refine loopE (fun x : Nat × PS × Nat × Nat × Nat => ⟨132, [(2, .c (.bx 3000 q2 0)), (5, .c (.bx 6000 q5 0)), (69, .c (.own 70000 q3)), (70, .int (V.length : Int)), (71, .int x.1)],
    [(3000, .box q2 [.v (.slice none 0 0), .v (.int .i64 0), .v (.slice none 0 0), .v (.slice none 0 0)]), (6000, .box q5 [.own 41000 qc, .v (.int .i64 m), .own 101000 x.2.2.1, .own 85000 x.2.2.2.1]), (70000, .row q3 0 1 (V.map T.str)),
     (41000, .row qc 0 1 (C.map T.int)), (101000, .row x.2.2.1 0 2 (x.2.1.1.map t_Select)), (85000, .row x.2.2.2.1 x.2.2.2.2 1 (x.2.1.2.map t_Proc))]⟩) (fun x => V.length - x.1) (fun x => x.1 ≤ V.length ∧ (V.take x.1).foldl implStep (some ([], [])) = some x.2.1 ∧ stB x.1 (x.2.1, false))
        (.box 6000 101000 2 2 rfl rfl rfl rfl (fun qs => .box 6000 85000 3 1 rfl rfl rfl rfl (fun qp => .here ⟨(0, ([], []), qs, qp, 0), ⟨Nat.zero_le _, rfl, ⟨Nat.zero_le _, Nat.zero_le _, fun _ h => (by cases h), fun _ h => (by cases h)⟩⟩, rfl⟩ (wk rfl ⟨rfl, rfl, rfl, congrArg (fun z : Nat => AV.int z) ((congrArg List.length hrow).trans (by simp)), rfl, trivial⟩ ⟨rfl, rfl, congrArg (fun z => some (Ob.row q3 0 1 z)) hrow, rfl, rfl, rfl, trivial⟩)))) ?_
      rintro ⟨k, ⟨S, P⟩, qs, qp, vp⟩ ⟨hk, hF, hbnd⟩
      simp only at hk hF
      obtain ⟨hS1, hP2, hPc, hSc⟩ := id hbnd
      simp only at hS1 hP2 hPc hSc
      repeat (first | refine brT ?_ | refine brF ?_ | refine And.intro rfl ?_ | refine And.intro trivial ?_ | intro _)
      by_cases hk2 : k < V.length
      · repeat (first | (first | refine brT ?_ | refine brF ?_ | refine And.intro rfl ?_ | refine And.intro trivial ?_ | intro _) | (refine brL ?kzz (fun _ => ?_); case kzz => (simp <;> omega)) | (refine brR ?kzz (fun _ => ?_); case kzz => (simp <;> omega)))
        have hwm := hmemV _ (List.getElem_mem hk2)
        have hat : (V.map T.str)[((k : Int)).toNat]? = some (T.str V[k]) := by simp [hk2]
        have hb1 : (V[k].toList == procW0.toList) = decide (V[k] = procW0) := beq_str _ _
        have hstop : implStep (some (S, P)) V[k] = none → V.foldl implStep (some ([], [])) = none := fun hn => by
          rw [← List.take_append_drop k V, List.foldl_append, hF, List.drop_eq_getElem_cons hk2, List.foldl_cons, hn, fold_none]
        have hbs : ∀ st1 : PS, implStep (some (S, P)) V[k] = some st1 → stB (k + 1) (st1, false) := fun st1 e => implStep_bnd ⟨hS1, hP2, hPc⟩ (by omega) hSc e
        refine ⟨nn k, by show k < (V.map T.str).length; simpa using hk2, ?_⟩
        repeat (first | refine brT ?_ | refine brF ?_ | refine And.intro rfl ?_ | refine And.intro trivial ?_ | intro _)
        refine ⟨T.str V[k], hat, ?_⟩
        repeat (first | refine brT ?_ | refine brF ?_ | refine And.intro rfl ?_ | refine And.intro trivial ?_ | intro _)
        by_cases hCp : V[k] = procW0
        · have hstep : implStep (some (S, P)) V[k] = some (S, P ++ [[]]) := by unfold implStep; simp only; rw [if_pos hCp]
          have hbnd1 := hbs _ hstep
          refine brR (by show ¬ ((V[k].toList == procW0.toList) = false); rw [hb1, decide_eq_true hCp]; decide) (fun _ => ?_)
          repeat (first | refine brT ?_ | refine brF ?_ | refine And.intro rfl ?_ | refine And.intro trivial ?_ | intro _)
          refine ⟨4, ?_⟩
          repeat (first | refine brT ?_ | refine brF ?_ | refine And.intro rfl ?_ | refine And.intro trivial ?_ | intro _)
          refine ⟨fun t ht => (by simp at ht; subst ht; rfl), fun qn => ?_⟩
          repeat (first | refine brT ?_ | refine brF ?_ | refine And.intro rfl ?_ | refine And.intro trivial ?_ | intro _)
          refine ⟨by simp; unfold bound; omega, fun qm => ?_⟩
          repeat (first | refine brT ?_ | refine brF ?_ | refine And.intro rfl ?_ | refine And.intro trivial ?_ | intro _)
          exact nxt (k + 1, (S, P ++ [[]]), qs, qm, 0) ⟨hk2, by rw [List.take_succ_eq_append_getElem hk2, List.foldl_append, hF]; exact hstep, hbnd1⟩ (by show V.length - (k + 1) < V.length - k; omega) (wk rfl ⟨rfl, rfl, rfl, rfl, up1 hk2 (by omega), trivial⟩ ⟨rfl, rfl, rfl, rfl, rfl, congrArg (fun z => some (Ob.row qm 0 1 z)) (List.map_append (f := t_Proc) (l₁ := P) (l₂ := [[]])).symm, trivial⟩)
        refine brL (by show ¬ ((V[k].toList == procW0.toList) = true); rw [hb1, decide_eq_false hCp]; decide) (fun _ => ?_)
        repeat (first | refine brT ?_ | refine brF ?_ | refine And.intro rfl ?_ | refine And.intro trivial ?_ | intro _)
        by_cases hz0 : P.length = 0
        · refine brR (by show ¬ ((((P.map t_Proc).length : Int) == 0) = false); simp [hz0]) (fun _ => ?_)
          repeat (first | refine brT ?_ | refine brF ?_ | refine And.intro rfl ?_ | refine And.intro trivial ?_ | intro _)
          refine ⟨_, i_TextSelect V[k] (by omega), ?_⟩
          repeat (first | refine brT ?_ | refine brF ?_ | refine And.intro rfl ?_ | refine And.intro trivial ?_ | intro _)
          cases ht : (textSelect V[k]).2 with
          | false =>
            have hnone := hstop (by unfold implStep; simp only; rw [if_neg hCp, if_pos hz0, ht]; rfl)
            rw [hno (fun st h => by have := hP1 st h; rw [hnone] at this; cases this)]
            refine brR (by decide) (fun _ => ?_)
            repeat (first | refine brT ?_ | refine brF ?_ | refine And.intro rfl ?_ | refine And.intro trivial ?_ | intro _)
            exact ⟨1, 2, 1, rfl⟩
          | true =>
            have hstep : implStep (some (S, P)) V[k] = some (S ++ [(textSelect V[k]).1], P) := by unfold implStep; simp only; rw [if_neg hCp, if_pos hz0, ht]; rfl
            have hbnd1 := hbs _ hstep
            refine brL (by decide) (fun _ => ?_)
            repeat (first | refine brT ?_ | refine brF ?_ | refine And.intro rfl ?_ | refine And.intro trivial ?_ | intro _)
            refine ⟨fun t ht => (by simp at ht; subst ht; rfl), fun qn => ?_⟩
            repeat (first | refine brT ?_ | refine brF ?_ | refine And.intro rfl ?_ | refine And.intro trivial ?_ | intro _)
            refine ⟨by simp; unfold bound; omega, fun qm => ?_⟩
            repeat (first | refine brT ?_ | refine brF ?_ | refine And.intro rfl ?_ | refine And.intro trivial ?_ | intro _)
            exact nxt (k + 1, (S ++ [(textSelect V[k]).1], P), qm, qp, vp) ⟨hk2, by rw [List.take_succ_eq_append_getElem hk2, List.foldl_append, hF]; exact hstep, hbnd1⟩ (by show V.length - (k + 1) < V.length - k; omega) (wk rfl ⟨rfl, rfl, rfl, rfl, up1 hk2 (by omega), trivial⟩ ⟨rfl, rfl, rfl, rfl, congrArg (fun z => some (Ob.row qm 0 2 z)) (List.map_append (f := t_Select) (l₁ := S) (l₂ := [(textSelect V[k]).1])).symm, rfl, trivial⟩)
        obtain ⟨w, hw⟩ : ∃ w, w = V[k] := ⟨_, rfl⟩
        have ⟨c, hcd⟩ : ∃ c, c = P.getD (P.length - 1) [] := ⟨_, rfl⟩
        have hPl : P.length - 1 < P.length := by omega
        have hatc : (P.map t_Proc)[P.length - 1]? = some (t_Proc c) := by
          rw [hcd, List.getElem?_map, List.getD_eq_getElem?_getD, List.getElem?_eq_getElem hPl]; rfl
        have hcl : c.length ≤ k := by
          have : c ∈ P := by rw [hcd, List.getD_eq_getElem?_getD, List.getElem?_eq_getElem hPl]; exact List.getElem_mem _
          exact hPc c this
        have hwt : w64 (((P.map t_Proc).length : Int) - 1) = ((P.length - 1 : Nat) : Int) := by rw [List.length_map, w64_id (by omega) (by omega)]; omega
        have j1 : 0 ≤ w64 (((P.map t_Proc).length : Int) - 1) ∧ (w64 (((P.map t_Proc).length : Int) - 1)).toNat < (P.map t_Proc).length := by rw [hwt]; refine ⟨Int.natCast_nonneg _, ?_⟩; rw [List.length_map]; exact hPl
        have hjk : (w64 (((P.map t_Proc).length : Int) - 1)).toNat * 1 + 0 = (P.length - 1) * 1 + 0 := by rw [hwt]; rfl
        have hbl : (c.map t_Instr).length + [t_Instr (textInstr V[k]).1].length ≤ bound := by rw [List.length_map]; simp; unfold bound; omega
        have hln : ∀ xx : Value, (w64 (((P.map t_Proc).length : Int) - 1)).toNat < ((P.map t_Proc).set (P.length - 1) ((t_Proc c).setCells 0 [.v xx])).length := fun xx => by rw [List.length_set]; exact j1.2
        have hset : ∀ xx : Value, ((P.map t_Proc).set (P.length - 1) ((t_Proc c).setCells 0 [.v xx]))[(w64 (((P.map t_Proc).length : Int) - 1)).toNat]? = some ((t_Proc c).setCells 0 [.v xx]) := fun xx => by rw [hwt]; simp [hPl]
        have hfin : ∀ xx : Value, ((P.map t_Proc).set (P.length - 1) ((t_Proc c).setCells 0 [.v xx])).set (w64 (((P.map t_Proc).length : Int) - 1)).toNat (((t_Proc c).setCells 0 [.v xx]).setCells 0 [.sl 4 (c.map t_Instr ++ [t_Instr (textInstr V[k]).1])]) = (addI P (textInstr V[k]).1).map t_Proc := fun xx => by
          rw [hwt]
          simp only [Int.toNat_natCast, List.set_set]
          unfold addI
          rw [List.map_set, ← hcd]
          have : t_Proc (c ++ [(textInstr V[k]).1]) = .agg [.sl 4 (c.map t_Instr ++ [t_Instr (textInstr V[k]).1])] := by show T.agg [T.sl 4 ((c ++ [(textInstr V[k]).1]).map t_Instr)] = _; rw [List.map_append]; rfl
          rw [this]; rfl
        have hatk : (P.map t_Proc)[(w64 (((P.map t_Proc).length : Int) - 1)).toNat]? = some (t_Proc c) := by rw [hwt]; exact hatc
        refine brL (by show ¬ ((((P.map t_Proc).length : Int) == 0) = true); simp; intro e; exact hz0 (by rw [e]; rfl)) (fun _ => ?_)
        repeat (first | refine brT ?_ | refine brF ?_ | refine And.intro rfl ?_ | refine And.intro trivial ?_ | intro _)
        refine ⟨_, i_TextInstr V[k] (by omega), ?_⟩
        repeat (first | refine brT ?_ | refine brF ?_ | refine And.intro rfl ?_ | refine And.intro trivial ?_ | intro _)
        cases ht : (textInstr V[k]).2 with
        | false =>
          have hnone := hstop (by unfold implStep; simp only; rw [if_neg hCp, if_neg hz0, ht]; rfl)
          rw [hno (fun st h => by have := hP1 st h; rw [hnone] at this; cases this)]
          refine brR (by decide) (fun _ => ?_)
          repeat (first | refine brT ?_ | refine brF ?_ | refine And.intro rfl ?_ | refine And.intro trivial ?_ | intro _)
          exact ⟨1, 2, 1, rfl⟩
        | true =>
          have hstep : implStep (some (S, P)) V[k] = some (S, addI P (textInstr V[k]).1) := by unfold implStep; simp only; rw [if_neg hCp, if_neg hz0, ht]; rfl
          have hbnd1 := hbs _ hstep
          refine brL (by decide) (fun _ => ?_)
          repeat (first | refine brT ?_ | refine brF ?_ | refine And.intro rfl ?_ | refine And.intro trivial ?_ | intro _)
          refine drM0 (Pl.go 0 (Pl.go 2 (Pl.go 3 (Pl.go 4 (Pl.go 6 (Pl.go 7 ((Pl.go 1 ((Pl.go 5 (Pl.go 8 (Pl.go 9 ((Pl.go 10 (Pl.go 11 (Pl.go 12 (Pl.go 13 (Pl.go 14 (Pl.go 15 (Pl.go 16 Pl.stop))))))).or (Pl.go 11 ((Pl.go 10 (Pl.go 12 (Pl.go 13 (Pl.go 14 (Pl.go 15 (Pl.go 16 Pl.stop)))))).or (Pl.go 12 (Pl.go 10 (Pl.go 13 (Pl.go 14 (Pl.go 15 (Pl.go 16 Pl.stop)))))))))))).or (Pl.go 11 ((Pl.go 5 (Pl.go 8 (Pl.go 9 ((Pl.go 10 (Pl.go 12 (Pl.go 13 (Pl.go 14 (Pl.go 15 (Pl.go 16 Pl.stop)))))).or (Pl.go 12 (Pl.go 10 (Pl.go 13 (Pl.go 14 (Pl.go 15 (Pl.go 16 Pl.stop)))))))))).or (Pl.go 12 (Pl.go 5 (Pl.go 8 (Pl.go 9 (Pl.go 10 (Pl.go 13 (Pl.go 14 (Pl.go 15 (Pl.go 16 Pl.stop))))))))))))).or ((Pl.go 5 (Pl.go 8 (Pl.go 9 ((Pl.go 1 ((Pl.go 10 (Pl.go 11 (Pl.go 12 (Pl.go 13 (Pl.go 14 (Pl.go 15 (Pl.go 16 Pl.stop))))))).or (Pl.go 11 ((Pl.go 10 (Pl.go 12 (Pl.go 13 (Pl.go 14 (Pl.go 15 (Pl.go 16 Pl.stop)))))).or (Pl.go 12 (Pl.go 10 (Pl.go 13 (Pl.go 14 (Pl.go 15 (Pl.go 16 Pl.stop)))))))))).or ((Pl.go 10 ((Pl.go 1 (Pl.go 11 (Pl.go 12 (Pl.go 13 (Pl.go 14 (Pl.go 15 (Pl.go 16 Pl.stop))))))).or (Pl.go 11 ((Pl.go 1 (Pl.go 12 (Pl.go 13 (Pl.go 14 (Pl.go 15 (Pl.go 16 Pl.stop)))))).or (Pl.go 12 ((Pl.go 1 (Pl.go 13 (Pl.go 14 (Pl.go 15 (Pl.go 16 Pl.stop))))).or (Pl.go 13 (Pl.go 1 (Pl.go 14 (Pl.go 15 (Pl.go 16 Pl.stop))))))))))).or (Pl.go 11 ((Pl.go 1 ((Pl.go 10 (Pl.go 12 (Pl.go 13 (Pl.go 14 (Pl.go 15 (Pl.go 16 Pl.stop)))))).or (Pl.go 12 (Pl.go 10 (Pl.go 13 (Pl.go 14 (Pl.go 15 (Pl.go 16 Pl.stop)))))))).or ((Pl.go 10 ((Pl.go 1 (Pl.go 12 (Pl.go 13 (Pl.go 14 (Pl.go 15 (Pl.go 16 Pl.stop)))))).or (Pl.go 12 ((Pl.go 1 (Pl.go 13 (Pl.go 14 (Pl.go 15 (Pl.go 16 Pl.stop))))).or (Pl.go 13 (Pl.go 1 (Pl.go 14 (Pl.go 15 (Pl.go 16 Pl.stop))))))))).or (Pl.go 12 ((Pl.go 1 (Pl.go 10 (Pl.go 13 (Pl.go 14 (Pl.go 15 (Pl.go 16 Pl.stop)))))).or (Pl.go 10 ((Pl.go 1 (Pl.go 13 (Pl.go 14 (Pl.go 15 (Pl.go 16 Pl.stop))))).or (Pl.go 13 (Pl.go 1 (Pl.go 14 (Pl.go 15 (Pl.go 16 Pl.stop))))))))))))))))).or (Pl.go 11 ((Pl.go 1 ((Pl.go 5 (Pl.go 8 (Pl.go 9 ((Pl.go 10 (Pl.go 12 (Pl.go 13 (Pl.go 14 (Pl.go 15 (Pl.go 16 Pl.stop)))))).or (Pl.go 12 (Pl.go 10 (Pl.go 13 (Pl.go 14 (Pl.go 15 (Pl.go 16 Pl.stop)))))))))).or (Pl.go 12 (Pl.go 5 (Pl.go 8 (Pl.go 9 (Pl.go 10 (Pl.go 13 (Pl.go 14 (Pl.go 15 (Pl.go 16 Pl.stop))))))))))).or ((Pl.go 5 (Pl.go 8 (Pl.go 9 ((Pl.go 1 ((Pl.go 10 (Pl.go 12 (Pl.go 13 (Pl.go 14 (Pl.go 15 (Pl.go 16 Pl.stop)))))).or (Pl.go 12 (Pl.go 10 (Pl.go 13 (Pl.go 14 (Pl.go 15 (Pl.go 16 Pl.stop)))))))).or ((Pl.go 10 ((Pl.go 1 (Pl.go 12 (Pl.go 13 (Pl.go 14 (Pl.go 15 (Pl.go 16 Pl.stop)))))).or (Pl.go 12 ((Pl.go 1 (Pl.go 13 (Pl.go 14 (Pl.go 15 (Pl.go 16 Pl.stop))))).or (Pl.go 13 (Pl.go 1 (Pl.go 14 (Pl.go 15 (Pl.go 16 Pl.stop))))))))).or (Pl.go 12 ((Pl.go 1 (Pl.go 10 (Pl.go 13 (Pl.go 14 (Pl.go 15 (Pl.go 16 Pl.stop)))))).or (Pl.go 10 ((Pl.go 1 (Pl.go 13 (Pl.go 14 (Pl.go 15 (Pl.go 16 Pl.stop))))).or (Pl.go 13 (Pl.go 1 (Pl.go 14 (Pl.go 15 (Pl.go 16 Pl.stop)))))))))))))).or (Pl.go 12 ((Pl.go 1 (Pl.go 5 (Pl.go 8 (Pl.go 9 (Pl.go 10 (Pl.go 13 (Pl.go 14 (Pl.go 15 (Pl.go 16 Pl.stop))))))))).or (Pl.go 5 (Pl.go 8 (Pl.go 9 ((Pl.go 1 (Pl.go 10 (Pl.go 13 (Pl.go 14 (Pl.go 15 (Pl.go 16 Pl.stop)))))).or (Pl.go 10 ((Pl.go 1 (Pl.go 13 (Pl.go 14 (Pl.go 15 (Pl.go 16 Pl.stop))))).or (Pl.go 13 (Pl.go 1 (Pl.go 14 (Pl.go 15 (Pl.go 16 Pl.stop)))))))))))))))))))))))) (fun z => ∃ v : Nat, z = ⟨132, [(2, .c (.bx 3000 q2 0)), (5, .c (.bx 6000 q5 0)), (69, .c (.own 70000 q3)), (70, .int (V.length : Int)), (71, .int k)],
    [(3000, .box q2 [.v (.slice none 0 0), .v (.int .i64 0), .v (.slice none 0 0), .v (.slice none 0 0)]), (6000, .box q5 [.own 41000 qc, .v (.int .i64 m), .own 101000 qs, .own 85000 qp]), (70000, .row q3 0 1 (V.map T.str)),
     (41000, .row qc 0 1 (C.map T.int)), (101000, .row qs 0 2 (S.map t_Select)), (85000, .row qp v 1 ((addI P (textInstr V[k]).1).map t_Proc))]⟩) (by kernel_rfl) ?_ ?_
          · refine And.intro (rfl : (_ : Nat) = _) ?_
            refine And.intro (rfl : (_ : Nat) = _) ?_
            refine And.intro ?_ ?_
            · refine And.intro (rfl : (_ : Nat) = _) ?_
              refine And.intro ?_ ?_
              · refine And.intro (rfl : (_ : Nat) = _) ?_
                refine And.intro (rfl : (_ : Nat) = _) (And.intro j1.1 (And.intro j1.2 ?_))
                refine And.intro (rfl : (_ : Nat) = _) ?_
                refine And.intro ?_ ?_
                · refine And.intro (rfl : (_ : Nat) = _) ⟨t_Proc c, hatk, ?_⟩
                  refine And.intro (rfl : (_ : Nat) = _) ?_
                  refine ⟨fun t ht => (by simp at ht; subst ht; rfl), fun qf => ?_⟩
                  refine And.intro (rfl : (_ : Nat) = _) (And.intro (rfl : (_ : Nat) = _) ⟨P.length - 1, 0, t_Proc c, c.map t_Instr, hjk, Nat.zero_lt_one, hatc, rfl, fun vv xx => ?_⟩)
                  refine And.intro (rfl : (_ : Nat) = _) ?_
                  refine ⟨hbl, fun qg => ?_⟩
                  refine And.intro (rfl : (_ : Nat) = _) (And.intro j1.1 (And.intro (hln xx) ?_))
                  refine And.intro (rfl : (_ : Nat) = _) ?_
                  refine And.intro (rfl : (_ : Nat) = _) (And.intro (rfl : (_ : Nat) = _) ⟨(t_Proc c).setCells 0 [.v xx], hset xx, Nat.le_refl _, fun v3 => ?_⟩)
                  exact ⟨_, ⟨_, rfl⟩, wk rfl ⟨rfl, rfl, rfl, rfl, rfl, trivial⟩ ⟨rfl, rfl, rfl, rfl, rfl, congrArg (fun z => some (Ob.row qp v3 1 z)) (hfin xx), trivial⟩⟩
                · refine And.intro (rfl : (_ : Nat) = _) ?_
                  refine And.intro ?_ ?_
                  · refine And.intro (rfl : (_ : Nat) = _) ⟨t_Proc c, hatk, ?_⟩
                    refine ⟨fun t ht => (by simp at ht; subst ht; rfl), fun qf => ?_⟩
                    refine And.intro (rfl : (_ : Nat) = _) (And.intro (rfl : (_ : Nat) = _) ⟨P.length - 1, 0, t_Proc c, c.map t_Instr, hjk, Nat.zero_lt_one, hatc, rfl, fun vv xx => ?_⟩)
                    refine And.intro (rfl : (_ : Nat) = _) ?_
                    refine ⟨hbl, fun qg => ?_⟩
                    refine And.intro (rfl : (_ : Nat) = _) (And.intro j1.1 (And.intro (hln xx) ?_))
                    refine And.intro (rfl : (_ : Nat) = _) ?_
                    refine And.intro (rfl : (_ : Nat) = _) (And.intro (rfl : (_ : Nat) = _) ⟨(t_Proc c).setCells 0 [.v xx], hset xx, Nat.le_refl _, fun v3 => ?_⟩)
                    exact ⟨_, ⟨_, rfl⟩, wk rfl ⟨rfl, rfl, rfl, rfl, rfl, trivial⟩ ⟨rfl, rfl, rfl, rfl, rfl, congrArg (fun z => some (Ob.row qp v3 1 z)) (hfin xx), trivial⟩⟩
                  · refine ⟨fun t ht => (by simp at ht; subst ht; rfl), fun qf => ?_⟩
                    refine And.intro (rfl : (_ : Nat) = _) ⟨t_Proc c, hatk, ?_⟩
                    refine And.intro (rfl : (_ : Nat) = _) (And.intro (rfl : (_ : Nat) = _) ⟨P.length - 1, 0, t_Proc c, c.map t_Instr, hjk, Nat.zero_lt_one, hatc, rfl, fun vv xx => ?_⟩)
                    refine And.intro (rfl : (_ : Nat) = _) ?_
                    refine ⟨hbl, fun qg => ?_⟩
                    refine And.intro (rfl : (_ : Nat) = _) (And.intro j1.1 (And.intro (hln xx) ?_))
                    refine And.intro (rfl : (_ : Nat) = _) ?_
                    refine And.intro (rfl : (_ : Nat) = _) (And.intro (rfl : (_ : Nat) = _) ⟨(t_Proc c).setCells 0 [.v xx], hset xx, Nat.le_refl _, fun v3 => ?_⟩)
                    exact ⟨_, ⟨_, rfl⟩, wk rfl ⟨rfl, rfl, rfl, rfl, rfl, trivial⟩ ⟨rfl, rfl, rfl, rfl, rfl, congrArg (fun z => some (Ob.row qp v3 1 z)) (hfin xx), trivial⟩⟩
              · refine And.intro (rfl : (_ : Nat) = _) ?_
                refine And.intro ?_ ?_
                · refine And.intro (rfl : (_ : Nat) = _) ?_
                  refine And.intro (rfl : (_ : Nat) = _) (And.intro j1.1 (And.intro j1.2 ?_))
                  refine And.intro (rfl : (_ : Nat) = _) ?_
                  refine And.intro ?_ ?_
                  · refine And.intro (rfl : (_ : Nat) = _) ⟨t_Proc c, hatk, ?_⟩
                    refine ⟨fun t ht => (by simp at ht; subst ht; rfl), fun qf => ?_⟩
                    refine And.intro (rfl : (_ : Nat) = _) (And.intro (rfl : (_ : Nat) = _) ⟨P.length - 1, 0, t_Proc c, c.map t_Instr, hjk, Nat.zero_lt_one, hatc, rfl, fun vv xx => ?_⟩)
                    refine And.intro (rfl : (_ : Nat) = _) ?_
                    refine ⟨hbl, fun qg => ?_⟩
                    refine And.intro (rfl : (_ : Nat) = _) (And.intro j1.1 (And.intro (hln xx) ?_))
                    refine And.intro (rfl : (_ : Nat) = _) ?_
                    refine And.intro (rfl : (_ : Nat) = _) (And.intro (rfl : (_ : Nat) = _) ⟨(t_Proc c).setCells 0 [.v xx], hset xx, Nat.le_refl _, fun v3 => ?_⟩)
                    exact ⟨_, ⟨_, rfl⟩, wk rfl ⟨rfl, rfl, rfl, rfl, rfl, trivial⟩ ⟨rfl, rfl, rfl, rfl, rfl, congrArg (fun z => some (Ob.row qp v3 1 z)) (hfin xx), trivial⟩⟩
                  · refine ⟨fun t ht => (by simp at ht; subst ht; rfl), fun qf => ?_⟩
                    refine And.intro (rfl : (_ : Nat) = _) ⟨t_Proc c, hatk, ?_⟩
                    refine And.intro (rfl : (_ : Nat) = _) (And.intro (rfl : (_ : Nat) = _) ⟨P.length - 1, 0, t_Proc c, c.map t_Instr, hjk, Nat.zero_lt_one, hatc, rfl, fun vv xx => ?_⟩)
                    refine And.intro (rfl : (_ : Nat) = _) ?_
                    refine ⟨hbl, fun qg => ?_⟩
                    refine And.intro (rfl : (_ : Nat) = _) (And.intro j1.1 (And.intro (hln xx) ?_))
                    refine And.intro (rfl : (_ : Nat) = _) ?_
                    refine And.intro (rfl : (_ : Nat) = _) (And.intro (rfl : (_ : Nat) = _) ⟨(t_Proc c).setCells 0 [.v xx], hset xx, Nat.le_refl _, fun v3 => ?_⟩)
                    exact ⟨_, ⟨_, rfl⟩, wk rfl ⟨rfl, rfl, rfl, rfl, rfl, trivial⟩ ⟨rfl, rfl, rfl, rfl, rfl, congrArg (fun z => some (Ob.row qp v3 1 z)) (hfin xx), trivial⟩⟩
                · refine ⟨fun t ht => (by simp at ht; subst ht; rfl), fun qf => ?_⟩
                  refine And.intro (rfl : (_ : Nat) = _) ?_
                  refine And.intro (rfl : (_ : Nat) = _) (And.intro j1.1 (And.intro j1.2 ?_))
                  refine And.intro (rfl : (_ : Nat) = _) ?_
                  refine And.intro (rfl : (_ : Nat) = _) ⟨t_Proc c, hatk, ?_⟩
                  refine And.intro (rfl : (_ : Nat) = _) (And.intro (rfl : (_ : Nat) = _) ⟨P.length - 1, 0, t_Proc c, c.map t_Instr, hjk, Nat.zero_lt_one, hatc, rfl, fun vv xx => ?_⟩)
                  refine And.intro (rfl : (_ : Nat) = _) ?_
                  refine ⟨hbl, fun qg => ?_⟩
                  refine And.intro (rfl : (_ : Nat) = _) (And.intro j1.1 (And.intro (hln xx) ?_))
                  refine And.intro (rfl : (_ : Nat) = _) ?_
                  refine And.intro (rfl : (_ : Nat) = _) (And.intro (rfl : (_ : Nat) = _) ⟨(t_Proc c).setCells 0 [.v xx], hset xx, Nat.le_refl _, fun v3 => ?_⟩)
                  exact ⟨_, ⟨_, rfl⟩, wk rfl ⟨rfl, rfl, rfl, rfl, rfl, trivial⟩ ⟨rfl, rfl, rfl, rfl, rfl, congrArg (fun z => some (Ob.row qp v3 1 z)) (hfin xx), trivial⟩⟩
            · refine And.intro ?_ ?_
              · refine And.intro (rfl : (_ : Nat) = _) ?_
                refine And.intro (rfl : (_ : Nat) = _) (And.intro j1.1 (And.intro j1.2 ?_))
                refine And.intro (rfl : (_ : Nat) = _) ?_
                refine And.intro ?_ ?_
                · refine And.intro (rfl : (_ : Nat) = _) ?_
                  refine And.intro ?_ ?_
                  · refine And.intro (rfl : (_ : Nat) = _) ⟨t_Proc c, hatk, ?_⟩
                    refine And.intro (rfl : (_ : Nat) = _) ?_
                    refine ⟨fun t ht => (by simp at ht; subst ht; rfl), fun qf => ?_⟩
                    refine And.intro (rfl : (_ : Nat) = _) (And.intro (rfl : (_ : Nat) = _) ⟨P.length - 1, 0, t_Proc c, c.map t_Instr, hjk, Nat.zero_lt_one, hatc, rfl, fun vv xx => ?_⟩)
                    refine And.intro (rfl : (_ : Nat) = _) ?_
                    refine ⟨hbl, fun qg => ?_⟩
                    refine And.intro (rfl : (_ : Nat) = _) (And.intro j1.1 (And.intro (hln xx) ?_))
                    refine And.intro (rfl : (_ : Nat) = _) ?_
                    refine And.intro (rfl : (_ : Nat) = _) (And.intro (rfl : (_ : Nat) = _) ⟨(t_Proc c).setCells 0 [.v xx], hset xx, Nat.le_refl _, fun v3 => ?_⟩)
                    exact ⟨_, ⟨_, rfl⟩, wk rfl ⟨rfl, rfl, rfl, rfl, rfl, trivial⟩ ⟨rfl, rfl, rfl, rfl, rfl, congrArg (fun z => some (Ob.row qp v3 1 z)) (hfin xx), trivial⟩⟩
                  · refine And.intro (rfl : (_ : Nat) = _) ?_
                    refine And.intro ?_ ?_
                    · refine And.intro (rfl : (_ : Nat) = _) ⟨t_Proc c, hatk, ?_⟩
                      refine ⟨fun t ht => (by simp at ht; subst ht; rfl), fun qf => ?_⟩
                      refine And.intro (rfl : (_ : Nat) = _) (And.intro (rfl : (_ : Nat) = _) ⟨P.length - 1, 0, t_Proc c, c.map t_Instr, hjk, Nat.zero_lt_one, hatc, rfl, fun vv xx => ?_⟩)
                      refine And.intro (rfl : (_ : Nat) = _) ?_
                      refine ⟨hbl, fun qg => ?_⟩
                      refine And.intro (rfl : (_ : Nat) = _) (And.intro j1.1 (And.intro (hln xx) ?_))
                      refine And.intro (rfl : (_ : Nat) = _) ?_
                      refine And.intro (rfl : (_ : Nat) = _) (And.intro (rfl : (_ : Nat) = _) ⟨(t_Proc c).setCells 0 [.v xx], hset xx, Nat.le_refl _, fun v3 => ?_⟩)
                      exact ⟨_, ⟨_, rfl⟩, wk rfl ⟨rfl, rfl, rfl, rfl, rfl, trivial⟩ ⟨rfl, rfl, rfl, rfl, rfl, congrArg (fun z => some (Ob.row qp v3 1 z)) (hfin xx), trivial⟩⟩
                    · refine ⟨fun t ht => (by simp at ht; subst ht; rfl), fun qf => ?_⟩
                      refine And.intro (rfl : (_ : Nat) = _) ⟨t_Proc c, hatk, ?_⟩
                      refine And.intro (rfl : (_ : Nat) = _) (And.intro (rfl : (_ : Nat) = _) ⟨P.length - 1, 0, t_Proc c, c.map t_Instr, hjk, Nat.zero_lt_one, hatc, rfl, fun vv xx => ?_⟩)
                      refine And.intro (rfl : (_ : Nat) = _) ?_
                      refine ⟨hbl, fun qg => ?_⟩
                      refine And.intro (rfl : (_ : Nat) = _) (And.intro j1.1 (And.intro (hln xx) ?_))
                      refine And.intro (rfl : (_ : Nat) = _) ?_
                      refine And.intro (rfl : (_ : Nat) = _) (And.intro (rfl : (_ : Nat) = _) ⟨(t_Proc c).setCells 0 [.v xx], hset xx, Nat.le_refl _, fun v3 => ?_⟩)
                      exact ⟨_, ⟨_, rfl⟩, wk rfl ⟨rfl, rfl, rfl, rfl, rfl, trivial⟩ ⟨rfl, rfl, rfl, rfl, rfl, congrArg (fun z => some (Ob.row qp v3 1 z)) (hfin xx), trivial⟩⟩
                · refine And.intro ?_ ?_
                  · refine And.intro (rfl : (_ : Nat) = _) ⟨t_Proc c, hatk, ?_⟩
                    refine And.intro ?_ ?_
                    · refine And.intro (rfl : (_ : Nat) = _) ?_
                      refine And.intro (rfl : (_ : Nat) = _) ?_
                      refine ⟨fun t ht => (by simp at ht; subst ht; rfl), fun qf => ?_⟩
                      refine And.intro (rfl : (_ : Nat) = _) (And.intro (rfl : (_ : Nat) = _) ⟨P.length - 1, 0, t_Proc c, c.map t_Instr, hjk, Nat.zero_lt_one, hatc, rfl, fun vv xx => ?_⟩)
                      refine And.intro (rfl : (_ : Nat) = _) ?_
                      refine ⟨hbl, fun qg => ?_⟩
                      refine And.intro (rfl : (_ : Nat) = _) (And.intro j1.1 (And.intro (hln xx) ?_))
                      refine And.intro (rfl : (_ : Nat) = _) ?_
                      refine And.intro (rfl : (_ : Nat) = _) (And.intro (rfl : (_ : Nat) = _) ⟨(t_Proc c).setCells 0 [.v xx], hset xx, Nat.le_refl _, fun v3 => ?_⟩)
                      exact ⟨_, ⟨_, rfl⟩, wk rfl ⟨rfl, rfl, rfl, rfl, rfl, trivial⟩ ⟨rfl, rfl, rfl, rfl, rfl, congrArg (fun z => some (Ob.row qp v3 1 z)) (hfin xx), trivial⟩⟩
                    · refine And.intro (rfl : (_ : Nat) = _) ?_
                      refine And.intro ?_ ?_
                      · refine And.intro (rfl : (_ : Nat) = _) ?_
                        refine ⟨fun t ht => (by simp at ht; subst ht; rfl), fun qf => ?_⟩
                        refine And.intro (rfl : (_ : Nat) = _) (And.intro (rfl : (_ : Nat) = _) ⟨P.length - 1, 0, t_Proc c, c.map t_Instr, hjk, Nat.zero_lt_one, hatc, rfl, fun vv xx => ?_⟩)
                        refine And.intro (rfl : (_ : Nat) = _) ?_
                        refine ⟨hbl, fun qg => ?_⟩
                        refine And.intro (rfl : (_ : Nat) = _) (And.intro j1.1 (And.intro (hln xx) ?_))
                        refine And.intro (rfl : (_ : Nat) = _) ?_
                        refine And.intro (rfl : (_ : Nat) = _) (And.intro (rfl : (_ : Nat) = _) ⟨(t_Proc c).setCells 0 [.v xx], hset xx, Nat.le_refl _, fun v3 => ?_⟩)
                        exact ⟨_, ⟨_, rfl⟩, wk rfl ⟨rfl, rfl, rfl, rfl, rfl, trivial⟩ ⟨rfl, rfl, rfl, rfl, rfl, congrArg (fun z => some (Ob.row qp v3 1 z)) (hfin xx), trivial⟩⟩
                      · refine ⟨fun t ht => (by simp at ht; subst ht; rfl), fun qf => ?_⟩
                        refine And.intro ?_ ?_
                        · refine And.intro (rfl : (_ : Nat) = _) ?_
                          refine And.intro (rfl : (_ : Nat) = _) (And.intro (rfl : (_ : Nat) = _) ⟨P.length - 1, 0, t_Proc c, c.map t_Instr, hjk, Nat.zero_lt_one, hatc, rfl, fun vv xx => ?_⟩)
                          refine And.intro (rfl : (_ : Nat) = _) ?_
                          refine ⟨hbl, fun qg => ?_⟩
                          refine And.intro (rfl : (_ : Nat) = _) (And.intro j1.1 (And.intro (hln xx) ?_))
                          refine And.intro (rfl : (_ : Nat) = _) ?_
                          refine And.intro (rfl : (_ : Nat) = _) (And.intro (rfl : (_ : Nat) = _) ⟨(t_Proc c).setCells 0 [.v xx], hset xx, Nat.le_refl _, fun v3 => ?_⟩)
                          exact ⟨_, ⟨_, rfl⟩, wk rfl ⟨rfl, rfl, rfl, rfl, rfl, trivial⟩ ⟨rfl, rfl, rfl, rfl, rfl, congrArg (fun z => some (Ob.row qp v3 1 z)) (hfin xx), trivial⟩⟩
                        · refine And.intro (rfl : (_ : Nat) = _) (And.intro (rfl : (_ : Nat) = _) ⟨P.length - 1, 0, t_Proc c, c.map t_Instr, hjk, Nat.zero_lt_one, hatc, rfl, fun vv xx => ?_⟩)
                          refine And.intro (rfl : (_ : Nat) = _) ?_
                          refine ⟨hbl, fun qg => ?_⟩
                          refine And.intro (rfl : (_ : Nat) = _) ?_
                          refine And.intro (rfl : (_ : Nat) = _) (And.intro j1.1 (And.intro (hln xx) ?_))
                          refine And.intro (rfl : (_ : Nat) = _) ?_
                          refine And.intro (rfl : (_ : Nat) = _) (And.intro (rfl : (_ : Nat) = _) ⟨(t_Proc c).setCells 0 [.v xx], hset xx, Nat.le_refl _, fun v3 => ?_⟩)
                          exact ⟨_, ⟨_, rfl⟩, wk rfl ⟨rfl, rfl, rfl, rfl, rfl, trivial⟩ ⟨rfl, rfl, rfl, rfl, rfl, congrArg (fun z => some (Ob.row qp v3 1 z)) (hfin xx), trivial⟩⟩
                  · refine And.intro (rfl : (_ : Nat) = _) ?_
                    refine And.intro ?_ ?_
                    · refine And.intro (rfl : (_ : Nat) = _) ?_
                      refine And.intro ?_ ?_
                      · refine And.intro (rfl : (_ : Nat) = _) ⟨t_Proc c, hatk, ?_⟩
                        refine ⟨fun t ht => (by simp at ht; subst ht; rfl), fun qf => ?_⟩
                        refine And.intro (rfl : (_ : Nat) = _) (And.intro (rfl : (_ : Nat) = _) ⟨P.length - 1, 0, t_Proc c, c.map t_Instr, hjk, Nat.zero_lt_one, hatc, rfl, fun vv xx => ?_⟩)
                        refine And.intro (rfl : (_ : Nat) = _) ?_
                        refine ⟨hbl, fun qg => ?_⟩
                        refine And.intro (rfl : (_ : Nat) = _) (And.intro j1.1 (And.intro (hln xx) ?_))
                        refine And.intro (rfl : (_ : Nat) = _) ?_
                        refine And.intro (rfl : (_ : Nat) = _) (And.intro (rfl : (_ : Nat) = _) ⟨(t_Proc c).setCells 0 [.v xx], hset xx, Nat.le_refl _, fun v3 => ?_⟩)
                        exact ⟨_, ⟨_, rfl⟩, wk rfl ⟨rfl, rfl, rfl, rfl, rfl, trivial⟩ ⟨rfl, rfl, rfl, rfl, rfl, congrArg (fun z => some (Ob.row qp v3 1 z)) (hfin xx), trivial⟩⟩
                      · refine ⟨fun t ht => (by simp at ht; subst ht; rfl), fun qf => ?_⟩
                        refine And.intro (rfl : (_ : Nat) = _) ⟨t_Proc c, hatk, ?_⟩
                        refine And.intro (rfl : (_ : Nat) = _) (And.intro (rfl : (_ : Nat) = _) ⟨P.length - 1, 0, t_Proc c, c.map t_Instr, hjk, Nat.zero_lt_one, hatc, rfl, fun vv xx => ?_⟩)
                        refine And.intro (rfl : (_ : Nat) = _) ?_
                        refine ⟨hbl, fun qg => ?_⟩
                        refine And.intro (rfl : (_ : Nat) = _) (And.intro j1.1 (And.intro (hln xx) ?_))
                        refine And.intro (rfl : (_ : Nat) = _) ?_
                        refine And.intro (rfl : (_ : Nat) = _) (And.intro (rfl : (_ : Nat) = _) ⟨(t_Proc c).setCells 0 [.v xx], hset xx, Nat.le_refl _, fun v3 => ?_⟩)
                        exact ⟨_, ⟨_, rfl⟩, wk rfl ⟨rfl, rfl, rfl, rfl, rfl, trivial⟩ ⟨rfl, rfl, rfl, rfl, rfl, congrArg (fun z => some (Ob.row qp v3 1 z)) (hfin xx), trivial⟩⟩
                    · refine And.intro ?_ ?_
                      · refine And.intro (rfl : (_ : Nat) = _) ⟨t_Proc c, hatk, ?_⟩
                        refine And.intro ?_ ?_
                        · refine And.intro (rfl : (_ : Nat) = _) ?_
                          refine ⟨fun t ht => (by simp at ht; subst ht; rfl), fun qf => ?_⟩
                          refine And.intro (rfl : (_ : Nat) = _) (And.intro (rfl : (_ : Nat) = _) ⟨P.length - 1, 0, t_Proc c, c.map t_Instr, hjk, Nat.zero_lt_one, hatc, rfl, fun vv xx => ?_⟩)
                          refine And.intro (rfl : (_ : Nat) = _) ?_
                          refine ⟨hbl, fun qg => ?_⟩
                          refine And.intro (rfl : (_ : Nat) = _) (And.intro j1.1 (And.intro (hln xx) ?_))
                          refine And.intro (rfl : (_ : Nat) = _) ?_
                          refine And.intro (rfl : (_ : Nat) = _) (And.intro (rfl : (_ : Nat) = _) ⟨(t_Proc c).setCells 0 [.v xx], hset xx, Nat.le_refl _, fun v3 => ?_⟩)
                          exact ⟨_, ⟨_, rfl⟩, wk rfl ⟨rfl, rfl, rfl, rfl, rfl, trivial⟩ ⟨rfl, rfl, rfl, rfl, rfl, congrArg (fun z => some (Ob.row qp v3 1 z)) (hfin xx), trivial⟩⟩
                        · refine ⟨fun t ht => (by simp at ht; subst ht; rfl), fun qf => ?_⟩
                          refine And.intro ?_ ?_
                          · refine And.intro (rfl : (_ : Nat) = _) ?_
                            refine And.intro (rfl : (_ : Nat) = _) (And.intro (rfl : (_ : Nat) = _) ⟨P.length - 1, 0, t_Proc c, c.map t_Instr, hjk, Nat.zero_lt_one, hatc, rfl, fun vv xx => ?_⟩)
                            refine And.intro (rfl : (_ : Nat) = _) ?_
                            refine ⟨hbl, fun qg => ?_⟩
                            refine And.intro (rfl : (_ : Nat) = _) (And.intro j1.1 (And.intro (hln xx) ?_))
                            refine And.intro (rfl : (_ : Nat) = _) ?_
                            refine And.intro (rfl : (_ : Nat) = _) (And.intro (rfl : (_ : Nat) = _) ⟨(t_Proc c).setCells 0 [.v xx], hset xx, Nat.le_refl _, fun v3 => ?_⟩)
                            exact ⟨_, ⟨_, rfl⟩, wk rfl ⟨rfl, rfl, rfl, rfl, rfl, trivial⟩ ⟨rfl, rfl, rfl, rfl, rfl, congrArg (fun z => some (Ob.row qp v3 1 z)) (hfin xx), trivial⟩⟩
                          · refine And.intro (rfl : (_ : Nat) = _) (And.intro (rfl : (_ : Nat) = _) ⟨P.length - 1, 0, t_Proc c, c.map t_Instr, hjk, Nat.zero_lt_one, hatc, rfl, fun vv xx => ?_⟩)
                            refine And.intro (rfl : (_ : Nat) = _) ?_
                            refine ⟨hbl, fun qg => ?_⟩
                            refine And.intro (rfl : (_ : Nat) = _) ?_
                            refine And.intro (rfl : (_ : Nat) = _) (And.intro j1.1 (And.intro (hln xx) ?_))
                            refine And.intro (rfl : (_ : Nat) = _) ?_
                            refine And.intro (rfl : (_ : Nat) = _) (And.intro (rfl : (_ : Nat) = _) ⟨(t_Proc c).setCells 0 [.v xx], hset xx, Nat.le_refl _, fun v3 => ?_⟩)
                            exact ⟨_, ⟨_, rfl⟩, wk rfl ⟨rfl, rfl, rfl, rfl, rfl, trivial⟩ ⟨rfl, rfl, rfl, rfl, rfl, congrArg (fun z => some (Ob.row qp v3 1 z)) (hfin xx), trivial⟩⟩
                      · refine ⟨fun t ht => (by simp at ht; subst ht; rfl), fun qf => ?_⟩
                        refine And.intro ?_ ?_
                        · refine And.intro (rfl : (_ : Nat) = _) ?_
                          refine And.intro (rfl : (_ : Nat) = _) ⟨t_Proc c, hatk, ?_⟩
                          refine And.intro (rfl : (_ : Nat) = _) (And.intro (rfl : (_ : Nat) = _) ⟨P.length - 1, 0, t_Proc c, c.map t_Instr, hjk, Nat.zero_lt_one, hatc, rfl, fun vv xx => ?_⟩)
                          refine And.intro (rfl : (_ : Nat) = _) ?_
                          refine ⟨hbl, fun qg => ?_⟩
                          refine And.intro (rfl : (_ : Nat) = _) (And.intro j1.1 (And.intro (hln xx) ?_))
                          refine And.intro (rfl : (_ : Nat) = _) ?_
                          refine And.intro (rfl : (_ : Nat) = _) (And.intro (rfl : (_ : Nat) = _) ⟨(t_Proc c).setCells 0 [.v xx], hset xx, Nat.le_refl _, fun v3 => ?_⟩)
                          exact ⟨_, ⟨_, rfl⟩, wk rfl ⟨rfl, rfl, rfl, rfl, rfl, trivial⟩ ⟨rfl, rfl, rfl, rfl, rfl, congrArg (fun z => some (Ob.row qp v3 1 z)) (hfin xx), trivial⟩⟩
                        · refine And.intro (rfl : (_ : Nat) = _) ⟨t_Proc c, hatk, ?_⟩
                          refine And.intro ?_ ?_
                          · refine And.intro (rfl : (_ : Nat) = _) ?_
                            refine And.intro (rfl : (_ : Nat) = _) (And.intro (rfl : (_ : Nat) = _) ⟨P.length - 1, 0, t_Proc c, c.map t_Instr, hjk, Nat.zero_lt_one, hatc, rfl, fun vv xx => ?_⟩)
                            refine And.intro (rfl : (_ : Nat) = _) ?_
                            refine ⟨hbl, fun qg => ?_⟩
                            refine And.intro (rfl : (_ : Nat) = _) (And.intro j1.1 (And.intro (hln xx) ?_))
                            refine And.intro (rfl : (_ : Nat) = _) ?_
                            refine And.intro (rfl : (_ : Nat) = _) (And.intro (rfl : (_ : Nat) = _) ⟨(t_Proc c).setCells 0 [.v xx], hset xx, Nat.le_refl _, fun v3 => ?_⟩)
                            exact ⟨_, ⟨_, rfl⟩, wk rfl ⟨rfl, rfl, rfl, rfl, rfl, trivial⟩ ⟨rfl, rfl, rfl, rfl, rfl, congrArg (fun z => some (Ob.row qp v3 1 z)) (hfin xx), trivial⟩⟩
                          · refine And.intro (rfl : (_ : Nat) = _) (And.intro (rfl : (_ : Nat) = _) ⟨P.length - 1, 0, t_Proc c, c.map t_Instr, hjk, Nat.zero_lt_one, hatc, rfl, fun vv xx => ?_⟩)
                            refine And.intro (rfl : (_ : Nat) = _) ?_
                            refine ⟨hbl, fun qg => ?_⟩
                            refine And.intro (rfl : (_ : Nat) = _) ?_
                            refine And.intro (rfl : (_ : Nat) = _) (And.intro j1.1 (And.intro (hln xx) ?_))
                            refine And.intro (rfl : (_ : Nat) = _) ?_
                            refine And.intro (rfl : (_ : Nat) = _) (And.intro (rfl : (_ : Nat) = _) ⟨(t_Proc c).setCells 0 [.v xx], hset xx, Nat.le_refl _, fun v3 => ?_⟩)
                            exact ⟨_, ⟨_, rfl⟩, wk rfl ⟨rfl, rfl, rfl, rfl, rfl, trivial⟩ ⟨rfl, rfl, rfl, rfl, rfl, congrArg (fun z => some (Ob.row qp v3 1 z)) (hfin xx), trivial⟩⟩
              · refine And.intro (rfl : (_ : Nat) = _) ?_
                refine And.intro ?_ ?_
                · refine And.intro (rfl : (_ : Nat) = _) ?_
                  refine And.intro ?_ ?_
                  · refine And.intro (rfl : (_ : Nat) = _) ?_
                    refine And.intro (rfl : (_ : Nat) = _) (And.intro j1.1 (And.intro j1.2 ?_))
                    refine And.intro (rfl : (_ : Nat) = _) ?_
                    refine And.intro ?_ ?_
                    · refine And.intro (rfl : (_ : Nat) = _) ⟨t_Proc c, hatk, ?_⟩
                      refine ⟨fun t ht => (by simp at ht; subst ht; rfl), fun qf => ?_⟩
                      refine And.intro (rfl : (_ : Nat) = _) (And.intro (rfl : (_ : Nat) = _) ⟨P.length - 1, 0, t_Proc c, c.map t_Instr, hjk, Nat.zero_lt_one, hatc, rfl, fun vv xx => ?_⟩)
                      refine And.intro (rfl : (_ : Nat) = _) ?_
                      refine ⟨hbl, fun qg => ?_⟩
                      refine And.intro (rfl : (_ : Nat) = _) (And.intro j1.1 (And.intro (hln xx) ?_))
                      refine And.intro (rfl : (_ : Nat) = _) ?_
                      refine And.intro (rfl : (_ : Nat) = _) (And.intro (rfl : (_ : Nat) = _) ⟨(t_Proc c).setCells 0 [.v xx], hset xx, Nat.le_refl _, fun v3 => ?_⟩)
                      exact ⟨_, ⟨_, rfl⟩, wk rfl ⟨rfl, rfl, rfl, rfl, rfl, trivial⟩ ⟨rfl, rfl, rfl, rfl, rfl, congrArg (fun z => some (Ob.row qp v3 1 z)) (hfin xx), trivial⟩⟩
                    · refine ⟨fun t ht => (by simp at ht; subst ht; rfl), fun qf => ?_⟩
                      refine And.intro (rfl : (_ : Nat) = _) ⟨t_Proc c, hatk, ?_⟩
                      refine And.intro (rfl : (_ : Nat) = _) (And.intro (rfl : (_ : Nat) = _) ⟨P.length - 1, 0, t_Proc c, c.map t_Instr, hjk, Nat.zero_lt_one, hatc, rfl, fun vv xx => ?_⟩)
                      refine And.intro (rfl : (_ : Nat) = _) ?_
                      refine ⟨hbl, fun qg => ?_⟩
                      refine And.intro (rfl : (_ : Nat) = _) (And.intro j1.1 (And.intro (hln xx) ?_))
                      refine And.intro (rfl : (_ : Nat) = _) ?_
                      refine And.intro (rfl : (_ : Nat) = _) (And.intro (rfl : (_ : Nat) = _) ⟨(t_Proc c).setCells 0 [.v xx], hset xx, Nat.le_refl _, fun v3 => ?_⟩)
                      exact ⟨_, ⟨_, rfl⟩, wk rfl ⟨rfl, rfl, rfl, rfl, rfl, trivial⟩ ⟨rfl, rfl, rfl, rfl, rfl, congrArg (fun z => some (Ob.row qp v3 1 z)) (hfin xx), trivial⟩⟩
                  · refine ⟨fun t ht => (by simp at ht; subst ht; rfl), fun qf => ?_⟩
                    refine And.intro (rfl : (_ : Nat) = _) ?_
                    refine And.intro (rfl : (_ : Nat) = _) (And.intro j1.1 (And.intro j1.2 ?_))
                    refine And.intro (rfl : (_ : Nat) = _) ?_
                    refine And.intro (rfl : (_ : Nat) = _) ⟨t_Proc c, hatk, ?_⟩
                    refine And.intro (rfl : (_ : Nat) = _) (And.intro (rfl : (_ : Nat) = _) ⟨P.length - 1, 0, t_Proc c, c.map t_Instr, hjk, Nat.zero_lt_one, hatc, rfl, fun vv xx => ?_⟩)
                    refine And.intro (rfl : (_ : Nat) = _) ?_
                    refine ⟨hbl, fun qg => ?_⟩
                    refine And.intro (rfl : (_ : Nat) = _) (And.intro j1.1 (And.intro (hln xx) ?_))
                    refine And.intro (rfl : (_ : Nat) = _) ?_
                    refine And.intro (rfl : (_ : Nat) = _) (And.intro (rfl : (_ : Nat) = _) ⟨(t_Proc c).setCells 0 [.v xx], hset xx, Nat.le_refl _, fun v3 => ?_⟩)
                    exact ⟨_, ⟨_, rfl⟩, wk rfl ⟨rfl, rfl, rfl, rfl, rfl, trivial⟩ ⟨rfl, rfl, rfl, rfl, rfl, congrArg (fun z => some (Ob.row qp v3 1 z)) (hfin xx), trivial⟩⟩
                · refine And.intro ?_ ?_
                  · refine And.intro (rfl : (_ : Nat) = _) ?_
                    refine And.intro (rfl : (_ : Nat) = _) (And.intro j1.1 (And.intro j1.2 ?_))
                    refine And.intro (rfl : (_ : Nat) = _) ?_
                    refine And.intro ?_ ?_
                    · refine And.intro (rfl : (_ : Nat) = _) ?_
                      refine And.intro ?_ ?_
                      · refine And.intro (rfl : (_ : Nat) = _) ⟨t_Proc c, hatk, ?_⟩
                        refine ⟨fun t ht => (by simp at ht; subst ht; rfl), fun qf => ?_⟩
                        refine And.intro (rfl : (_ : Nat) = _) (And.intro (rfl : (_ : Nat) = _) ⟨P.length - 1, 0, t_Proc c, c.map t_Instr, hjk, Nat.zero_lt_one, hatc, rfl, fun vv xx => ?_⟩)
                        refine And.intro (rfl : (_ : Nat) = _) ?_
                        refine ⟨hbl, fun qg => ?_⟩
                        refine And.intro (rfl : (_ : Nat) = _) (And.intro j1.1 (And.intro (hln xx) ?_))
                        refine And.intro (rfl : (_ : Nat) = _) ?_
                        refine And.intro (rfl : (_ : Nat) = _) (And.intro (rfl : (_ : Nat) = _) ⟨(t_Proc c).setCells 0 [.v xx], hset xx, Nat.le_refl _, fun v3 => ?_⟩)
                        exact ⟨_, ⟨_, rfl⟩, wk rfl ⟨rfl, rfl, rfl, rfl, rfl, trivial⟩ ⟨rfl, rfl, rfl, rfl, rfl, congrArg (fun z => some (Ob.row qp v3 1 z)) (hfin xx), trivial⟩⟩
                      · refine ⟨fun t ht => (by simp at ht; subst ht; rfl), fun qf => ?_⟩
                        refine And.intro (rfl : (_ : Nat) = _) ⟨t_Proc c, hatk, ?_⟩
                        refine And.intro (rfl : (_ : Nat) = _) (And.intro (rfl : (_ : Nat) = _) ⟨P.length - 1, 0, t_Proc c, c.map t_Instr, hjk, Nat.zero_lt_one, hatc, rfl, fun vv xx => ?_⟩)
                        refine And.intro (rfl : (_ : Nat) = _) ?_
                        refine ⟨hbl, fun qg => ?_⟩
                        refine And.intro (rfl : (_ : Nat) = _) (And.intro j1.1 (And.intro (hln xx) ?_))
                        refine And.intro (rfl : (_ : Nat) = _) ?_
                        refine And.intro (rfl : (_ : Nat) = _) (And.intro (rfl : (_ : Nat) = _) ⟨(t_Proc c).setCells 0 [.v xx], hset xx, Nat.le_refl _, fun v3 => ?_⟩)
                        exact ⟨_, ⟨_, rfl⟩, wk rfl ⟨rfl, rfl, rfl, rfl, rfl, trivial⟩ ⟨rfl, rfl, rfl, rfl, rfl, congrArg (fun z => some (Ob.row qp v3 1 z)) (hfin xx), trivial⟩⟩
                    · refine And.intro ?_ ?_
                      · refine And.intro (rfl : (_ : Nat) = _) ⟨t_Proc c, hatk, ?_⟩
                        refine And.intro ?_ ?_
                        · refine And.intro (rfl : (_ : Nat) = _) ?_
                          refine ⟨fun t ht => (by simp at ht; subst ht; rfl), fun qf => ?_⟩
                          refine And.intro (rfl : (_ : Nat) = _) (And.intro (rfl : (_ : Nat) = _) ⟨P.length - 1, 0, t_Proc c, c.map t_Instr, hjk, Nat.zero_lt_one, hatc, rfl, fun vv xx => ?_⟩)
                          refine And.intro (rfl : (_ : Nat) = _) ?_
                          refine ⟨hbl, fun qg => ?_⟩
                          refine And.intro (rfl : (_ : Nat) = _) (And.intro j1.1 (And.intro (hln xx) ?_))
                          refine And.intro (rfl : (_ : Nat) = _) ?_
                          refine And.intro (rfl : (_ : Nat) = _) (And.intro (rfl : (_ : Nat) = _) ⟨(t_Proc c).setCells 0 [.v xx], hset xx, Nat.le_refl _, fun v3 => ?_⟩)
                          exact ⟨_, ⟨_, rfl⟩, wk rfl ⟨rfl, rfl, rfl, rfl, rfl, trivial⟩ ⟨rfl, rfl, rfl, rfl, rfl, congrArg (fun z => some (Ob.row qp v3 1 z)) (hfin xx), trivial⟩⟩
                        · refine ⟨fun t ht => (by simp at ht; subst ht; rfl), fun qf => ?_⟩
                          refine And.intro ?_ ?_
                          · refine And.intro (rfl : (_ : Nat) = _) ?_
                            refine And.intro (rfl : (_ : Nat) = _) (And.intro (rfl : (_ : Nat) = _) ⟨P.length - 1, 0, t_Proc c, c.map t_Instr, hjk, Nat.zero_lt_one, hatc, rfl, fun vv xx => ?_⟩)
                            refine And.intro (rfl : (_ : Nat) = _) ?_
                            refine ⟨hbl, fun qg => ?_⟩
                            refine And.intro (rfl : (_ : Nat) = _) (And.intro j1.1 (And.intro (hln xx) ?_))
                            refine And.intro (rfl : (_ : Nat) = _) ?_
                            refine And.intro (rfl : (_ : Nat) = _) (And.intro (rfl : (_ : Nat) = _) ⟨(t_Proc c).setCells 0 [.v xx], hset xx, Nat.le_refl _, fun v3 => ?_⟩)
                            exact ⟨_, ⟨_, rfl⟩, wk rfl ⟨rfl, rfl, rfl, rfl, rfl, trivial⟩ ⟨rfl, rfl, rfl, rfl, rfl, congrArg (fun z => some (Ob.row qp v3 1 z)) (hfin xx), trivial⟩⟩
                          · refine And.intro (rfl : (_ : Nat) = _) (And.intro (rfl : (_ : Nat) = _) ⟨P.length - 1, 0, t_Proc c, c.map t_Instr, hjk, Nat.zero_lt_one, hatc, rfl, fun vv xx => ?_⟩)
                            refine And.intro (rfl : (_ : Nat) = _) ?_
                            refine ⟨hbl, fun qg => ?_⟩
                            refine And.intro (rfl : (_ : Nat) = _) ?_
                            refine And.intro (rfl : (_ : Nat) = _) (And.intro j1.1 (And.intro (hln xx) ?_))
                            refine And.intro (rfl : (_ : Nat) = _) ?_
                            refine And.intro (rfl : (_ : Nat) = _) (And.intro (rfl : (_ : Nat) = _) ⟨(t_Proc c).setCells 0 [.v xx], hset xx, Nat.le_refl _, fun v3 => ?_⟩)
                            exact ⟨_, ⟨_, rfl⟩, wk rfl ⟨rfl, rfl, rfl, rfl, rfl, trivial⟩ ⟨rfl, rfl, rfl, rfl, rfl, congrArg (fun z => some (Ob.row qp v3 1 z)) (hfin xx), trivial⟩⟩
                      · refine ⟨fun t ht => (by simp at ht; subst ht; rfl), fun qf => ?_⟩
                        refine And.intro ?_ ?_
                        · refine And.intro (rfl : (_ : Nat) = _) ?_
                          refine And.intro (rfl : (_ : Nat) = _) ⟨t_Proc c, hatk, ?_⟩
                          refine And.intro (rfl : (_ : Nat) = _) (And.intro (rfl : (_ : Nat) = _) ⟨P.length - 1, 0, t_Proc c, c.map t_Instr, hjk, Nat.zero_lt_one, hatc, rfl, fun vv xx => ?_⟩)
                          refine And.intro (rfl : (_ : Nat) = _) ?_
                          refine ⟨hbl, fun qg => ?_⟩
                          refine And.intro (rfl : (_ : Nat) = _) (And.intro j1.1 (And.intro (hln xx) ?_))
                          refine And.intro (rfl : (_ : Nat) = _) ?_
                          refine And.intro (rfl : (_ : Nat) = _) (And.intro (rfl : (_ : Nat) = _) ⟨(t_Proc c).setCells 0 [.v xx], hset xx, Nat.le_refl _, fun v3 => ?_⟩)
                          exact ⟨_, ⟨_, rfl⟩, wk rfl ⟨rfl, rfl, rfl, rfl, rfl, trivial⟩ ⟨rfl, rfl, rfl, rfl, rfl, congrArg (fun z => some (Ob.row qp v3 1 z)) (hfin xx), trivial⟩⟩
                        · refine And.intro (rfl : (_ : Nat) = _) ⟨t_Proc c, hatk, ?_⟩
                          refine And.intro ?_ ?_
                          · refine And.intro (rfl : (_ : Nat) = _) ?_
                            refine And.intro (rfl : (_ : Nat) = _) (And.intro (rfl : (_ : Nat) = _) ⟨P.length - 1, 0, t_Proc c, c.map t_Instr, hjk, Nat.zero_lt_one, hatc, rfl, fun vv xx => ?_⟩)
                            refine And.intro (rfl : (_ : Nat) = _) ?_
                            refine ⟨hbl, fun qg => ?_⟩
                            refine And.intro (rfl : (_ : Nat) = _) (And.intro j1.1 (And.intro (hln xx) ?_))
                            refine And.intro (rfl : (_ : Nat) = _) ?_
                            refine And.intro (rfl : (_ : Nat) = _) (And.intro (rfl : (_ : Nat) = _) ⟨(t_Proc c).setCells 0 [.v xx], hset xx, Nat.le_refl _, fun v3 => ?_⟩)
                            exact ⟨_, ⟨_, rfl⟩, wk rfl ⟨rfl, rfl, rfl, rfl, rfl, trivial⟩ ⟨rfl, rfl, rfl, rfl, rfl, congrArg (fun z => some (Ob.row qp v3 1 z)) (hfin xx), trivial⟩⟩
                          · refine And.intro (rfl : (_ : Nat) = _) (And.intro (rfl : (_ : Nat) = _) ⟨P.length - 1, 0, t_Proc c, c.map t_Instr, hjk, Nat.zero_lt_one, hatc, rfl, fun vv xx => ?_⟩)
                            refine And.intro (rfl : (_ : Nat) = _) ?_
                            refine ⟨hbl, fun qg => ?_⟩
                            refine And.intro (rfl : (_ : Nat) = _) ?_
                            refine And.intro (rfl : (_ : Nat) = _) (And.intro j1.1 (And.intro (hln xx) ?_))
                            refine And.intro (rfl : (_ : Nat) = _) ?_
                            refine And.intro (rfl : (_ : Nat) = _) (And.intro (rfl : (_ : Nat) = _) ⟨(t_Proc c).setCells 0 [.v xx], hset xx, Nat.le_refl _, fun v3 => ?_⟩)
                            exact ⟨_, ⟨_, rfl⟩, wk rfl ⟨rfl, rfl, rfl, rfl, rfl, trivial⟩ ⟨rfl, rfl, rfl, rfl, rfl, congrArg (fun z => some (Ob.row qp v3 1 z)) (hfin xx), trivial⟩⟩
                  · refine ⟨fun t ht => (by simp at ht; subst ht; rfl), fun qf => ?_⟩
                    refine And.intro ?_ ?_
                    · refine And.intro (rfl : (_ : Nat) = _) ?_
                      refine And.intro (rfl : (_ : Nat) = _) ?_
                      refine And.intro (rfl : (_ : Nat) = _) (And.intro j1.1 (And.intro j1.2 ?_))
                      refine And.intro (rfl : (_ : Nat) = _) ?_
                      refine And.intro (rfl : (_ : Nat) = _) ⟨t_Proc c, hatk, ?_⟩
                      refine And.intro (rfl : (_ : Nat) = _) (And.intro (rfl : (_ : Nat) = _) ⟨P.length - 1, 0, t_Proc c, c.map t_Instr, hjk, Nat.zero_lt_one, hatc, rfl, fun vv xx => ?_⟩)
                      refine And.intro (rfl : (_ : Nat) = _) ?_
                      refine ⟨hbl, fun qg => ?_⟩
                      refine And.intro (rfl : (_ : Nat) = _) (And.intro j1.1 (And.intro (hln xx) ?_))
                      refine And.intro (rfl : (_ : Nat) = _) ?_
                      refine And.intro (rfl : (_ : Nat) = _) (And.intro (rfl : (_ : Nat) = _) ⟨(t_Proc c).setCells 0 [.v xx], hset xx, Nat.le_refl _, fun v3 => ?_⟩)
                      exact ⟨_, ⟨_, rfl⟩, wk rfl ⟨rfl, rfl, rfl, rfl, rfl, trivial⟩ ⟨rfl, rfl, rfl, rfl, rfl, congrArg (fun z => some (Ob.row qp v3 1 z)) (hfin xx), trivial⟩⟩
                    · refine And.intro (rfl : (_ : Nat) = _) ?_
                      refine And.intro (rfl : (_ : Nat) = _) (And.intro j1.1 (And.intro j1.2 ?_))
                      refine And.intro (rfl : (_ : Nat) = _) ?_
                      refine And.intro ?_ ?_
                      · refine And.intro (rfl : (_ : Nat) = _) ?_
                        refine And.intro (rfl : (_ : Nat) = _) ⟨t_Proc c, hatk, ?_⟩
                        refine And.intro (rfl : (_ : Nat) = _) (And.intro (rfl : (_ : Nat) = _) ⟨P.length - 1, 0, t_Proc c, c.map t_Instr, hjk, Nat.zero_lt_one, hatc, rfl, fun vv xx => ?_⟩)
                        refine And.intro (rfl : (_ : Nat) = _) ?_
                        refine ⟨hbl, fun qg => ?_⟩
                        refine And.intro (rfl : (_ : Nat) = _) (And.intro j1.1 (And.intro (hln xx) ?_))
                        refine And.intro (rfl : (_ : Nat) = _) ?_
                        refine And.intro (rfl : (_ : Nat) = _) (And.intro (rfl : (_ : Nat) = _) ⟨(t_Proc c).setCells 0 [.v xx], hset xx, Nat.le_refl _, fun v3 => ?_⟩)
                        exact ⟨_, ⟨_, rfl⟩, wk rfl ⟨rfl, rfl, rfl, rfl, rfl, trivial⟩ ⟨rfl, rfl, rfl, rfl, rfl, congrArg (fun z => some (Ob.row qp v3 1 z)) (hfin xx), trivial⟩⟩
                      · refine And.intro (rfl : (_ : Nat) = _) ⟨t_Proc c, hatk, ?_⟩
                        refine And.intro ?_ ?_
                        · refine And.intro (rfl : (_ : Nat) = _) ?_
                          refine And.intro (rfl : (_ : Nat) = _) (And.intro (rfl : (_ : Nat) = _) ⟨P.length - 1, 0, t_Proc c, c.map t_Instr, hjk, Nat.zero_lt_one, hatc, rfl, fun vv xx => ?_⟩)
                          refine And.intro (rfl : (_ : Nat) = _) ?_
                          refine ⟨hbl, fun qg => ?_⟩
                          refine And.intro (rfl : (_ : Nat) = _) (And.intro j1.1 (And.intro (hln xx) ?_))
                          refine And.intro (rfl : (_ : Nat) = _) ?_
                          refine And.intro (rfl : (_ : Nat) = _) (And.intro (rfl : (_ : Nat) = _) ⟨(t_Proc c).setCells 0 [.v xx], hset xx, Nat.le_refl _, fun v3 => ?_⟩)
                          exact ⟨_, ⟨_, rfl⟩, wk rfl ⟨rfl, rfl, rfl, rfl, rfl, trivial⟩ ⟨rfl, rfl, rfl, rfl, rfl, congrArg (fun z => some (Ob.row qp v3 1 z)) (hfin xx), trivial⟩⟩
                        · refine And.intro (rfl : (_ : Nat) = _) (And.intro (rfl : (_ : Nat) = _) ⟨P.length - 1, 0, t_Proc c, c.map t_Instr, hjk, Nat.zero_lt_one, hatc, rfl, fun vv xx => ?_⟩)
                          refine And.intro (rfl : (_ : Nat) = _) ?_
                          refine ⟨hbl, fun qg => ?_⟩
                          refine And.intro (rfl : (_ : Nat) = _) ?_
                          refine And.intro (rfl : (_ : Nat) = _) (And.intro j1.1 (And.intro (hln xx) ?_))
                          refine And.intro (rfl : (_ : Nat) = _) ?_
                          refine And.intro (rfl : (_ : Nat) = _) (And.intro (rfl : (_ : Nat) = _) ⟨(t_Proc c).setCells 0 [.v xx], hset xx, Nat.le_refl _, fun v3 => ?_⟩)
                          exact ⟨_, ⟨_, rfl⟩, wk rfl ⟨rfl, rfl, rfl, rfl, rfl, trivial⟩ ⟨rfl, rfl, rfl, rfl, rfl, congrArg (fun z => some (Ob.row qp v3 1 z)) (hfin xx), trivial⟩⟩
          rintro z ⟨v, rfl⟩
          repeat (first | refine brT ?_ | refine brF ?_ | refine And.intro rfl ?_ | refine And.intro trivial ?_ | intro _)
          exact nxt (k + 1, (S, addI P (textInstr V[k]).1), qs, qp, v) ⟨hk2, by rw [List.take_succ_eq_append_getElem hk2, List.foldl_append, hF]; exact hstep, hbnd1⟩ (by show V.length - (k + 1) < V.length - k; omega) (wk rfl ⟨rfl, rfl, rfl, rfl, up1 hk2 (by omega), trivial⟩ ⟨rfl, rfl, rfl, rfl, rfl, rfl, trivial⟩)
      · have hkv : k = V.length := by omega
        subst hkv
        rw [List.take_length] at hF
        have hok : ok_Prog (C, m, S, P) := ⟨Nat.le_trans hCl (by decide), ⟨Nat.le_trans (show S.length ≤ 20001 by omega) (by decide), fun x hx => ⟨Nat.le_trans (hSc x hx) (by decide), fun _ _ => trivial⟩⟩, ⟨Nat.le_trans (show P.length ≤ 20001 by omega) (by decide), fun c hc => ⟨Nat.le_trans (show c.length ≤ 20001 by have := hPc c hc; omega) (by decide), fun _ _ => trivial⟩⟩⟩
        have sO := i_ProgOk (C, m, S, P) hok
        have e := hyes (S, P) (hP0 _ hF)
        rw [show ([m].getLast?.getD 0 : Int) = m from rfl] at e
        rw [e]
        refine brL (by show ¬ (decide ((V.length : Int) < (V.length : Int)) = true); simp) (fun _ => ?_)
        repeat (first | refine brT ?_ | refine brF ?_ | refine And.intro rfl ?_ | refine And.intro trivial ?_ | intro _)
        cases hO : progOk (C, m, S, P) with
        | false =>
          rw [hO] at sO
          rw [if_neg (by decide)]
          refine ⟨_, sO, ?_⟩
          repeat (first | refine brT ?_ | refine brF ?_ | refine And.intro rfl ?_ | refine And.intro trivial ?_ | intro _)
          exact ⟨1, 2, 1, rfl⟩
        | true =>
          rw [hO] at sO
          rw [if_pos rfl]
          refine ⟨_, sO, ?_⟩
          repeat (first | refine brT ?_ | refine brF ?_ | refine And.intro rfl ?_ | refine And.intro trivial ?_ | intro _)
          exact rfl


end Go.Proofs.YtphikogfogejlaaDoor.E
