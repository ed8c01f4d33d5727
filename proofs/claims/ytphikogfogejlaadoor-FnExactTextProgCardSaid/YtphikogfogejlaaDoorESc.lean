/- Contracts of functions of this seat's program. -/
import Derived.Test.YtphikogfogejlaaDoorETy
import Derived.Test.YtphikogfogejlaaDoorESb
namespace Go.Proofs.YtphikogfogejlaaDoor.E
set_option linter.unusedVariables false
set_option linter.unusedSimpArgs false
set_option maxHeartbeats 1600000
def caseW (w : ByteArray) : Y_Case := caseOf (cutB 58 w)
def padW (w : ByteArray) : List ByteArray := cutB 58 w ++ [e0, e0, e0, e0]
theorem pad_at {w : ByteArray} {j : Nat} (h : j < 5) : ((padW w).map T.str)[j]? = some (T.str (wd (cutB 58 w) j)) ∧ j < ((padW w).map T.str).length := by
  have hne := cutB_ne 58 w
  unfold padW
  generalize cutB 58 w = W at hne ⊢
  have hl1 : 1 ≤ W.length := by cases W; exact absurd rfl hne; simp
  refine ⟨?_, by simp; omega⟩
  rw [List.getElem?_map, wd, List.getD_eq_getElem?_getD]
  by_cases hj : j < W.length
  · rw [List.getElem?_append_left hj, List.getElem?_eq_getElem hj]; rfl
  · have hn : W[j]? = none := List.getElem?_eq_none (by omega)
    rw [List.getElem?_append_right (by omega), hn]
    have : j - W.length = 0 ∨ j - W.length = 1 ∨ j - W.length = 2 ∨ j - W.length = 3 := by omega
    rcases this with h | h | h | h <;> rw [h] <;> rfl
theorem s_TextSelect (s : ByteArray) (hs : s.size ≤ 1048576) : Spec Tryd.prog 12 [.ro (T.str s)] [t_Select (textSelect s).1, T.bool (textSelect s).2] := by
  have hlen := cutB_len 32 s
  have hmem : ∀ w ∈ cutB 32 s, w.size ≤ s.size := fun w hw => cutB_mem hw
  refine fn Tryd.func12 ?_
  unfold textSelect
  repeat (first | refine brT ?_ | refine brF ?_ | refine And.intro rfl ?_ | refine And.intro trivial ?_ | intro _)
  refine ⟨_, s_Parts s hs, ?_⟩
  generalize cutB 32 s = W at hlen hmem ⊢
  intro qW
  repeat (first | refine brT ?_ | refine brF ?_ | refine And.intro rfl ?_ | refine And.intro trivial ?_ | intro _)
  rename_i q2
  by_cases h2 : 2 ≤ W.length
  case neg =>
    rw [if_neg (fun e => h2 e.1)]
    repeat (first | (first | refine brT ?_ | refine brF ?_ | refine And.intro rfl ?_ | refine And.intro trivial ?_ | intro _) | (refine brL ?kzz (fun _ => ?_); case kzz => (simp <;> omega)) | (refine brR ?kzz (fun _ => ?_); case kzz => (simp <;> omega)))
    exact ⟨_, rfl⟩
  repeat (first | (first | refine brT ?_ | refine brF ?_ | refine And.intro rfl ?_ | refine And.intro trivial ?_ | intro _) | (refine brL ?kzz (fun _ => ?_); case kzz => (simp <;> omega)) | (refine brR ?kzz (fun _ => ?_); case kzz => (simp <;> omega)))
  refine ⟨by decide, by show 1 < (W.map T.str).length; simp; omega, ?_⟩
  repeat (first | refine brT ?_ | refine brF ?_ | refine And.intro rfl ?_ | refine And.intro trivial ?_ | intro _)
  refine ⟨T.str (wd W 1), wd_str (k := 1) (by omega), ?_⟩
  repeat (first | refine brT ?_ | refine brF ?_ | refine And.intro rfl ?_ | refine And.intro trivial ?_ | intro _)
  refine ⟨_, s_l05Read (wd W 1) dash, ?_⟩
  repeat (first | refine brT ?_ | refine brF ?_ | refine And.intro rfl ?_ | refine And.intro trivial ?_ | intro _)
  refine ⟨by decide, by show 2 ≤ (W.map T.str).length; simp; omega, Nat.le_refl _, fun q3 => ?_⟩
  repeat (first | refine brT ?_ | refine brF ?_ | refine And.intro rfl ?_ | refine And.intro trivial ?_ | intro _)
  rename_i q5
  have hrow : (((W.map T.str).take (W.map T.str).length).drop 2) = (W.drop 2).map T.str := by rw [List.take_of_length_le (Nat.le_refl _), List.map_drop]
  obtain ⟨V, hV⟩ : ∃ V, V = W.drop 2 := ⟨_, rfl⟩
  have hVl : V.length = W.length - 2 := by rw [hV]; simp
  refine loopE (fun x : Nat × Nat => ⟨76, [(0, .vv (.string s)), (2, .c (.bx 3000 q2 0)), (5, .c (.bx 6000 q5 0)), (22, .c (.own 23000 q3)), (23, .int (V.length : Int)), (24, .int x.1)],
    [(3000, .box q2 [.v (.slice none 0 0), .v (.int .i64 0)]), (6000, .box q5 [.own 68000 x.2, .v (.int .i64 (readW (wd W 1) dash))]), (23000, .row q3 0 1 (V.map T.str)), (68000, .row x.2 0 5 (((V.take x.1).map caseW).map t_Case))]⟩) (fun x => V.length - x.1) (fun x => x.1 ≤ V.length)
    (.box 6000 68000 0 5 rfl rfl rfl rfl (fun qc => .here ⟨(0, qc), Nat.zero_le _, rfl⟩ (wk rfl ⟨rfl, rfl, rfl, rfl, congrArg (fun z : Nat => AV.int z) ((congrArg List.length hrow).trans (by rw [hV]; simp)), rfl, trivial⟩ ⟨rfl, rfl, by rw [hV]; exact congrArg (fun z => some (Ob.row q3 0 1 z)) hrow, rfl, trivial⟩))) ?_
  rintro ⟨k, q⟩ hk
  simp only at hk
  repeat (first | refine brT ?_ | refine brF ?_ | refine And.intro rfl ?_ | refine And.intro trivial ?_ | intro _)
  by_cases hk2 : k < V.length
  · repeat (first | (first | refine brT ?_ | refine brF ?_ | refine And.intro rfl ?_ | refine And.intro trivial ?_ | intro _) | (refine brL ?kzz (fun _ => ?_); case kzz => (simp <;> omega)) | (refine brR ?kzz (fun _ => ?_); case kzz => (simp <;> omega)))
    have hat : (V.map T.str)[((k : Int)).toNat]? = some (T.str V[k]) := by simp [hk2]
    have hvm : V[k] ∈ W := List.mem_of_mem_drop (by rw [← hV]; exact List.getElem_mem hk2)
    have hvs := hmem _ hvm
    obtain ⟨w, hw⟩ : ∃ w, w = V[k] := ⟨_, rfl⟩
    rw [← hw] at hat hvs
    have hpl : (cutB 58 w).length + 4 ≤ bound := by have := cutB_len 58 w; unfold bound; omega
    refine ⟨nn k, by show k < (V.map T.str).length; simpa using hk2, ?_⟩
    repeat (first | refine brT ?_ | refine brF ?_ | refine And.intro rfl ?_ | refine And.intro trivial ?_ | intro _)
    refine ⟨T.str w, hat, ?_⟩
    repeat (first | refine brT ?_ | refine brF ?_ | refine And.intro rfl ?_ | refine And.intro trivial ?_ | intro _)
    refine ⟨_, s_Colons w (by omega), ?_⟩
    intro qc
    repeat (first | refine brT ?_ | refine brF ?_ | refine And.intro rfl ?_ | refine And.intro trivial ?_ | intro _)
    refine ⟨fun t ht => (by simp at ht; rcases ht with rfl | rfl | rfl | rfl <;> rfl), fun qe => ?_⟩
    repeat (first | refine brT ?_ | refine brF ?_ | refine And.intro rfl ?_ | refine And.intro trivial ?_ | intro _)
    refine ⟨by simp; omega, fun qp => ?_⟩
    repeat (first | refine brT ?_ | refine brF ?_ | refine And.intro rfl ?_ | refine And.intro trivial ?_ | intro _)
    have hpad : (cutB 58 w).map T.str ++ [T.str e0, T.str e0, T.str e0, T.str e0] = (padW w).map T.str := by simp [padW]
    have p0 := pad_at (w := w) (j := 0) (by decide)
    have p1 := pad_at (w := w) (j := 1) (by decide)
    have p2 := pad_at (w := w) (j := 2) (by decide)
    have p3 := pad_at (w := w) (j := 3) (by decide)
    have p4 := pad_at (w := w) (j := 4) (by decide)
    rw [← hpad] at p0 p1 p2 p3 p4
    refine drM (Pl.go 0 (Pl.go 1 (Pl.go 2 (Pl.go 3 (Pl.go 4 (Pl.go 5 (Pl.go 6 (Pl.go 8 (Pl.go 9 (Pl.go 10 ((Pl.go 7 ((Pl.go 11 ((Pl.go 12 (Pl.go 13 (Pl.go 14 Pl.stop))).or (Pl.go 13 (Pl.go 12 (Pl.go 14 Pl.stop))))).or (Pl.go 13 (Pl.go 11 (Pl.go 12 (Pl.go 14 Pl.stop)))))).or (Pl.go 13 (Pl.go 7 (Pl.go 11 (Pl.go 12 (Pl.go 14 Pl.stop)))))))))))))))) (fun m => ∃ Q : Nat, m = ⟨76, [(0, .vv (.string s)), (2, .c (.bx 3000 q2 0)), (5, .c (.bx 6000 q5 0)), (8, .c (.own 30000 qp)), (9, .c (.bx 10000 Q 0)), (22, .c (.own 23000 q3)), (23, .int (V.length : Int)), (24, .int k)],
    [(3000, .box q2 [.v (.slice none 0 0), .v (.int .i64 0)]), (6000, .box q5 [.own 68000 q, .v (.int .i64 (readW (wd W 1) dash))]), (23000, .row q3 0 1 (V.map T.str)), (68000, .row q 0 5 (((V.take k).map caseW).map t_Case)), (30000, .row qp 0 1 ((padW w).map T.str)),
      (10000, .box Q [.v (.bool ((wd (cutB 58 w) 0).toList == sendW.toList)), .v (.int .i64 (readW (wd (cutB 58 w) 1) nilW)), .v (.int .i64 (readW (wd (cutB 58 w) 2) e0)), .v (.int .i64 0), .v (.int .i64 0)])]⟩) (by kernel_rfl) ?_ ?_
    · repeat' (first | (first | refine brT ?_ | refine brF ?_ | refine And.intro rfl ?_ | refine And.intro trivial ?_ | intro _) | refine ⟨_, p0.1, ?_⟩ | refine ⟨_, p1.1, ?_⟩ | refine ⟨_, p2.1, ?_⟩ | refine ⟨_, s_l05Read (wd (cutB 58 w) 1) nilW, ?_⟩ | refine ⟨_, s_l05Read (wd (cutB 58 w) 2) e0, ?_⟩ | refine And.intro ?_ ?_)
      all_goals first | exact p0.2 | exact p1.2 | exact p2.2 | exact (by decide : (0 : Int) ≤ 0) | exact (by decide : (0 : Int) ≤ 1) | exact (by decide : (0 : Int) ≤ 2) | exact ⟨_, ⟨_, rfl⟩, wk rfl ⟨rfl, rfl, rfl, rfl, rfl, rfl, rfl, rfl, trivial⟩ ⟨rfl, rfl, rfl, rfl, congrArg (fun z => some (Ob.row qp 0 1 z)) hpad, rfl, trivial⟩⟩
    rw [hpad] at p3 p4
    rintro m ⟨Q, rfl⟩
    have hb : ((wd (cutB 58 w) 0).toList == sendW.toList) = decide (wd (cutB 58 w) 0 = sendW) := beq_str _ _
    have hrowc : ((V.take (k + 1)).map caseW).map t_Case = ((V.take k).map caseW).map t_Case ++ [t_Case (caseW w)] := by
      rw [List.take_succ_eq_append_getElem hk2, ← hw]; simp
    have hcl : (((V.take k).map caseW).map t_Case).length + 1 ≤ bound := by simp; unfold bound; omega
    repeat (first | refine brT ?_ | refine brF ?_ | refine And.intro rfl ?_ | refine And.intro trivial ?_ | intro _)
    refine ⟨by decide, p3.2, ?_⟩
    repeat (first | refine brT ?_ | refine brF ?_ | refine And.intro rfl ?_ | refine And.intro trivial ?_ | intro _)
    refine ⟨_, p3.1, ?_⟩
    repeat (first | refine brT ?_ | refine brF ?_ | refine And.intro rfl ?_ | refine And.intro trivial ?_ | intro _)
    refine ⟨_, s_l05Read (wd (cutB 58 w) 3) e0, ?_⟩
    repeat (first | refine brT ?_ | refine brF ?_ | refine And.intro rfl ?_ | refine And.intro trivial ?_ | intro _)
    by_cases hsd : wd (cutB 58 w) 0 = sendW
    · rw [decide_eq_true hsd] at hb
      refine brL (by show ¬ ((!((wd (cutB 58 w) 0).toList == sendW.toList)) = true); rw [hb]; decide) (fun _ => ?_)
      repeat (first | refine brT ?_ | refine brF ?_ | refine And.intro rfl ?_ | refine And.intro trivial ?_ | intro _)
      refine ⟨fun t ht => (by simp at ht; subst ht; rfl), fun qa => ?_⟩
      repeat (first | refine brT ?_ | refine brF ?_ | refine And.intro rfl ?_ | refine And.intro trivial ?_ | intro _)
      refine ⟨hcl, fun qb => ?_⟩
      repeat (first | refine brT ?_ | refine brF ?_ | refine And.intro rfl ?_ | refine And.intro trivial ?_ | intro _)
      refine nxt (k + 1, qb) hk2 (by show V.length - (k + 1) < V.length - k; omega) (wk rfl ⟨rfl, rfl, rfl, rfl, rfl, up1 hk2 (by omega), trivial⟩ ⟨rfl, rfl, rfl, ?_, trivial⟩)
      refine congrArg (fun z => some (Ob.row qb 0 5 z)) ?_
      rw [hrowc]
      unfold caseW caseOf
      rw [if_pos hsd, if_pos hsd, decide_eq_true hsd, ← hb]
      rfl
    · rw [decide_eq_false hsd] at hb
      refine brR (by show ¬ ((!((wd (cutB 58 w) 0).toList == sendW.toList)) = false); rw [hb]; decide) (fun _ => ?_)
      repeat (first | refine brT ?_ | refine brF ?_ | refine And.intro rfl ?_ | refine And.intro trivial ?_ | intro _)
      refine ⟨by decide, p3.2, ?_⟩
      repeat (first | refine brT ?_ | refine brF ?_ | refine And.intro rfl ?_ | refine And.intro trivial ?_ | intro _)
      refine ⟨_, p3.1, ?_⟩
      repeat (first | refine brT ?_ | refine brF ?_ | refine And.intro rfl ?_ | refine And.intro trivial ?_ | intro _)
      refine ⟨_, s_l05Read (wd (cutB 58 w) 3) e0, ?_⟩
      repeat (first | refine brT ?_ | refine brF ?_ | refine And.intro rfl ?_ | refine And.intro trivial ?_ | intro _)
      refine ⟨by decide, p4.2, ?_⟩
      repeat (first | refine brT ?_ | refine brF ?_ | refine And.intro rfl ?_ | refine And.intro trivial ?_ | intro _)
      refine ⟨_, p4.1, ?_⟩
      repeat (first | refine brT ?_ | refine brF ?_ | refine And.intro rfl ?_ | refine And.intro trivial ?_ | intro _)
      refine ⟨_, s_l05Read (wd (cutB 58 w) 4) e0, ?_⟩
      repeat (first | refine brT ?_ | refine brF ?_ | refine And.intro rfl ?_ | refine And.intro trivial ?_ | intro _)
      refine ⟨fun t ht => (by simp at ht; subst ht; rfl), fun qa => ?_⟩
      repeat (first | refine brT ?_ | refine brF ?_ | refine And.intro rfl ?_ | refine And.intro trivial ?_ | intro _)
      refine ⟨hcl, fun qb => ?_⟩
      repeat (first | refine brT ?_ | refine brF ?_ | refine And.intro rfl ?_ | refine And.intro trivial ?_ | intro _)
      refine nxt (k + 1, qb) hk2 (by show V.length - (k + 1) < V.length - k; omega) (wk rfl ⟨rfl, rfl, rfl, rfl, rfl, up1 hk2 (by omega), trivial⟩ ⟨rfl, rfl, rfl, ?_, trivial⟩)
      refine congrArg (fun z => some (Ob.row qb 0 5 z)) ?_
      rw [hrowc]
      unfold caseW caseOf
      rw [if_neg hsd, if_neg hsd, decide_eq_false hsd, ← hb]
      rfl
  · have hkv : k = V.length := by omega
    subst hkv
    have hxe : selOf W = (V.map caseW, readW (wd W 1) dash) := by rw [hV]; rfl
    have hxt : ((V.take V.length).map caseW, readW (wd W 1) dash) = selOf W := by rw [hxe, List.take_length]
    have sT := s_SelectText ((V.take V.length).map caseW, readW (wd W 1) dash) (by simp; unfold bound; omega)
    repeat (first | (first | refine brT ?_ | refine brF ?_ | refine And.intro rfl ?_ | refine And.intro trivial ?_ | intro _) | (refine brL ?kzz (fun _ => ?_); case kzz => (simp <;> omega)) | (refine brR ?kzz (fun _ => ?_); case kzz => (simp <;> omega)))
    refine ⟨_, sT, ?_⟩
    repeat (first | refine brT ?_ | refine brF ?_ | refine And.intro rfl ?_ | refine And.intro trivial ?_ | intro _)
    have hb : ((selText ((V.take V.length).map caseW, readW (wd W 1) dash)).toList == s.toList) = decide (selText ((V.take V.length).map caseW, readW (wd W 1) dash) = s) := beq_str _ _
    rw [← hxt]
    by_cases he : selText ((V.take V.length).map caseW, readW (wd W 1) dash) = s
    · rw [decide_eq_true he] at hb
      rw [if_pos ⟨h2, he⟩]
      refine brL (by show ¬ ((!((selText ((V.take V.length).map caseW, readW (wd W 1) dash)).toList == s.toList)) = true); rw [hb]; decide) (fun _ => ?_)
      repeat (first | refine brT ?_ | refine brF ?_ | refine And.intro rfl ?_ | refine And.intro trivial ?_ | intro _)
      exact rfl
    · rw [decide_eq_false he] at hb
      rw [if_neg (fun e => he e.2)]
      refine brR (by show ¬ ((!((selText ((V.take V.length).map caseW, readW (wd W 1) dash)).toList == s.toList)) = false); rw [hb]; decide) (fun _ => ?_)
      repeat (first | refine brT ?_ | refine brF ?_ | refine And.intro rfl ?_ | refine And.intro trivial ?_ | intro _)
      exact ⟨_, rfl⟩


end Go.Proofs.YtphikogfogejlaaDoor.E
