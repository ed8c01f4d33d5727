/- Contracts of functions of this seat's program. -/
import Derived.Test.YtphikogfogejlaaDoorETy
import Derived.Test.YtphikogfogejlaaDoorESc
namespace Go.Proofs.YtphikogfogejlaaDoor.E
set_option linter.unusedVariables false
set_option linter.unusedSimpArgs false
set_option maxHeartbeats 1600000
theorem i_TextSelect (s : ByteArray) (hs : s.size ≤ 1048576) : Spec Tryd.prog 13 [.ro (T.str s)] [t_Select (textSelect s).1, T.bool (textSelect s).2] := by
  have hlen := cutB_len 32 s
  have hmem : ∀ w ∈ cutB 32 s, w.size ≤ s.size := fun w hw => cutB_mem hw
  have hyes := textSelect_yes (s := s)
  have hno := textSelect_no (s := s)
  refine fn Tryd.func13 ?_
  repeat (first | refine brT ?_ | refine brF ?_ | refine And.intro rfl ?_ | refine And.intro trivial ?_ | intro _)
  refine ⟨_, i_Parts s hs, ?_⟩
  generalize cutB 32 s = W at hlen hmem hyes hno ⊢
  intro qW
  repeat (first | refine brT ?_ | refine brF ?_ | refine And.intro rfl ?_ | refine And.intro trivial ?_ | intro _)
  rename_i q2
  by_cases h2 : 2 ≤ W.length
  case neg =>
    rw [hno (fun e => h2 e.1)]
    repeat (first | (first | refine brT ?_ | refine brF ?_ | refine And.intro rfl ?_ | refine And.intro trivial ?_ | intro _) | (refine brL ?kzz (fun _ => ?_); case kzz => (simp <;> omega)) | (refine brR ?kzz (fun _ => ?_); case kzz => (simp <;> omega)))
    exact ⟨_, rfl⟩
  repeat (first | (first | refine brT ?_ | refine brF ?_ | refine And.intro rfl ?_ | refine And.intro trivial ?_ | intro _) | (refine brL ?kzz (fun _ => ?_); case kzz => (simp <;> omega)) | (refine brR ?kzz (fun _ => ?_); case kzz => (simp <;> omega)))
  refine ⟨by decide, by show 0 < (W.map T.str).length; simp; omega, ?_⟩
  repeat (first | refine brT ?_ | refine brF ?_ | refine And.intro rfl ?_ | refine And.intro trivial ?_ | intro _)
  refine ⟨T.str (wd W 0), wd_str (k := 0) (by omega), ?_⟩
  have hb : ((wd W 0).toList == selW.toList) = decide (wd W 0 = selW) := beq_str _ _
  have hrow : (((W.map T.str).take (W.map T.str).length).drop 2) = (W.drop 2).map T.str := by rw [List.take_of_length_le (Nat.le_refl _), List.map_drop]
  obtain ⟨V, hV⟩ : ∃ V, V = W.drop 2 := ⟨_, rfl⟩
  have hVl : V.length = W.length - 2 := by rw [hV]; simp
  by_cases h0 : wd W 0 = selW
  case neg =>
    rw [decide_eq_false h0] at hb
    repeat (first | (first | refine brT ?_ | refine brF ?_ | refine And.intro rfl ?_ | refine And.intro trivial ?_ | intro _) | (refine brR (by show ¬ ((!((wd W 0).toList == selW.toList)) = false); rw [hb]; decide) (fun _ => ?_)))
    rw [hno (fun e => h0 e.2.1)]
    exact ⟨_, rfl⟩
  rw [decide_eq_true h0] at hb
  repeat (first | (first | refine brT ?_ | refine brF ?_ | refine And.intro rfl ?_ | refine And.intro trivial ?_ | intro _) | (refine brL (by show ¬ ((!((wd W 0).toList == selW.toList)) = true); rw [hb]; decide) (fun _ => ?_)))
  rename_i q5
  refine ⟨by decide, by show 1 < (W.map T.str).length; simp; omega, ?_⟩
  repeat (first | refine brT ?_ | refine brF ?_ | refine And.intro rfl ?_ | refine And.intro trivial ?_ | intro _)
  refine ⟨T.str (wd W 1), wd_str (k := 1) (by omega), ?_⟩
  repeat (first | refine brT ?_ | refine brF ?_ | refine And.intro rfl ?_ | refine And.intro trivial ?_ | intro _)
  have hb1 : ((wd W 1).toList == dash.toList) = decide (wd W 1 = dash) := beq_str _ _
  by_cases hd : wd W 1 = dash
  · rw [decide_eq_true hd] at hb1
    have hels : readW (wd W 1) dash = -1 := by unfold readW; rw [if_pos hd]
    refine brL (by show ¬ ((!((wd W 1).toList == dash.toList)) = true); rw [hb1]; decide) (fun _ => ?_)
    repeat (first | refine brT ?_ | refine brF ?_ | refine And.intro rfl ?_ | refine And.intro trivial ?_ | intro _)
    · refine ⟨by decide, by show 2 ≤ (W.map T.str).length; simp; omega, Nat.le_refl _, fun q3 => ?_⟩
      repeat (first | refine brT ?_ | refine brF ?_ | refine And.intro rfl ?_ | refine And.intro trivial ?_ | intro _)
      refine loopE (fun x : Nat × Nat => ⟨64, [(2, .c (.bx 3000 q2 0)), (5, .c (.bx 6000 q5 0)), (42, .c (.own 43000 q3)), (43, .int (V.length : Int)), (44, .int x.1)],
        [(3000, .box q2 [.v (.slice none 0 0), .v (.int .i64 0)]), (6000, .box q5 [.own 61000 x.2, .v (.int .i64 (readW (wd W 1) dash))]), (43000, .row q3 0 1 (V.map T.str)), (61000, .row x.2 0 5 (((V.take x.1).map caseW).map t_Case))]⟩) (fun x => V.length - x.1) (fun x => x.1 ≤ V.length ∧ ∀ j (hj : j < V.length), j < x.1 → (textCase V[j]).2 = true)
        (.box 6000 61000 0 5 rfl rfl rfl rfl (fun qc => .here ⟨(0, qc), ⟨Nat.zero_le _, fun j _ h => absurd h (by simp)⟩, rfl⟩ (wk rfl ⟨rfl, rfl, rfl, congrArg (fun z : Nat => AV.int z) ((congrArg List.length hrow).trans (by rw [hV]; simp)), rfl, trivial⟩ ⟨rfl, by rw [hels]; rfl, by rw [hV]; exact congrArg (fun z => some (Ob.row q3 0 1 z)) hrow, rfl, trivial⟩))) ?_
      rintro ⟨k, q⟩ ⟨hk, hI⟩
      simp only at hk hI
      repeat (first | refine brT ?_ | refine brF ?_ | refine And.intro rfl ?_ | refine And.intro trivial ?_ | intro _)
      by_cases hk2 : k < V.length
      · repeat (first | (first | refine brT ?_ | refine brF ?_ | refine And.intro rfl ?_ | refine And.intro trivial ?_ | intro _) | (refine brL ?kzz (fun _ => ?_); case kzz => (simp <;> omega)) | (refine brR ?kzz (fun _ => ?_); case kzz => (simp <;> omega)))
        have hat : (V.map T.str)[((k : Int)).toNat]? = some (T.str V[k]) := by simp [hk2]
        have hvd : V[k] ∈ W.drop 2 := by rw [← hV]; exact List.getElem_mem hk2
        have hvm : V[k] ∈ W := List.mem_of_mem_drop hvd
        have hvs := hmem _ hvm
        have hrowc : ((V.take (k + 1)).map caseW).map t_Case = ((V.take k).map caseW).map t_Case ++ [t_Case (caseW V[k])] := by
          rw [List.take_succ_eq_append_getElem hk2, List.map_append, List.map_append]; rfl
        have hcl : (((V.take k).map caseW).map t_Case).length + 1 ≤ bound := by simp; unfold bound; omega
        refine ⟨nn k, by show k < (V.map T.str).length; simpa using hk2, ?_⟩
        repeat (first | refine brT ?_ | refine brF ?_ | refine And.intro rfl ?_ | refine And.intro trivial ?_ | intro _)
        refine ⟨T.str V[k], hat, ?_⟩
        repeat (first | refine brT ?_ | refine brF ?_ | refine And.intro rfl ?_ | refine And.intro trivial ?_ | intro _)
        refine ⟨_, i_textCase V[k] (by omega), ?_⟩
        repeat (first | refine brT ?_ | refine brF ?_ | refine And.intro rfl ?_ | refine And.intro trivial ?_ | intro _)
        cases hr : (textCase V[k]).2 with
        | false =>
          refine brR (by decide) (fun _ => ?_)
          repeat (first | refine brT ?_ | refine brF ?_ | refine And.intro rfl ?_ | refine And.intro trivial ?_ | intro _)
          rw [hno (fun h => by have := h.2.2.2 _ hvd; rw [hr] at this; cases this)]
          exact ⟨_, rfl⟩
        | true =>
          refine brL (by decide) (fun _ => ?_)
          have hcv : (textCase V[k]).1 = caseW V[k] := by
            unfold textCase at hr ⊢
            split at hr
            · rename_i e; rw [if_pos e]; rfl
            · cases hr
          rw [hcv]
          repeat (first | refine brT ?_ | refine brF ?_ | refine And.intro rfl ?_ | refine And.intro trivial ?_ | intro _)
          refine ⟨fun t ht => (by simp at ht; subst ht; rfl), fun qa => ?_⟩
          repeat (first | refine brT ?_ | refine brF ?_ | refine And.intro rfl ?_ | refine And.intro trivial ?_ | intro _)
          refine ⟨hcl, fun qb => ?_⟩
          repeat (first | refine brT ?_ | refine brF ?_ | refine And.intro rfl ?_ | refine And.intro trivial ?_ | intro _)
          refine nxt (k + 1, qb) ⟨hk2, fun j hj h => ?_⟩ (by show V.length - (k + 1) < V.length - k; omega) (wk rfl ⟨rfl, rfl, rfl, rfl, up1 hk2 (by omega), trivial⟩ ⟨rfl, rfl, rfl, ?_, trivial⟩)
          · by_cases e : j = k
            · subst e; exact hr
            · exact hI j hj (by simp at h; omega)
          refine congrArg (fun z => some (Ob.row qb 0 5 z)) ?_
          rw [hrowc]
          rfl
      · have hkv : k = V.length := by omega
        subst hkv
        have hxt : ((V.take V.length).map caseW, readW (wd W 1) dash) = selOf W := by rw [List.take_length, hV]; rfl
        have hin : selIn W := ⟨h2, h0, .inl hd, fun w hw => by
          rw [← hV] at hw
          obtain ⟨j, hj, rfl⟩ := List.mem_iff_getElem.1 hw
          exact hI j hj hj⟩
        rw [hyes hin, ← hxt]
        repeat (first | (first | refine brT ?_ | refine brF ?_ | refine And.intro rfl ?_ | refine And.intro trivial ?_ | intro _) | (refine brL ?kzz (fun _ => ?_); case kzz => (simp <;> omega)) | (refine brR ?kzz (fun _ => ?_); case kzz => (simp <;> omega)))
        exact rfl
  · rw [decide_eq_false hd] at hb1
    have hels : readW (wd W 1) dash = (textNum (wd W 1)).1 := by unfold readW; rw [if_neg hd]
    refine brR (by show ¬ ((!((wd W 1).toList == dash.toList)) = false); rw [hb1]; decide) (fun _ => ?_)
    repeat (first | refine brT ?_ | refine brF ?_ | refine And.intro rfl ?_ | refine And.intro trivial ?_ | intro _)
    refine ⟨by decide, by show 1 < (W.map T.str).length; simp; omega, ?_⟩
    repeat (first | refine brT ?_ | refine brF ?_ | refine And.intro rfl ?_ | refine And.intro trivial ?_ | intro _)
    refine ⟨T.str (wd W 1), wd_str (k := 1) (by omega), ?_⟩
    repeat (first | refine brT ?_ | refine brF ?_ | refine And.intro rfl ?_ | refine And.intro trivial ?_ | intro _)
    refine ⟨_, i_TextNum (wd W 1), ?_⟩
    repeat (first | refine brT ?_ | refine brF ?_ | refine And.intro rfl ?_ | refine And.intro trivial ?_ | intro _)
    cases hn : (textNum (wd W 1)).2 with
    | false =>
      refine brR (by decide) (fun _ => ?_)
      repeat (first | refine brT ?_ | refine brF ?_ | refine And.intro rfl ?_ | refine And.intro trivial ?_ | intro _)
      rw [hno (fun h => by rcases h.2.2.1 with e | e; exact hd e; rw [hn] at e; cases e)]
      exact ⟨_, rfl⟩
    | true =>
      refine brL (by decide) (fun _ => ?_)
      repeat (first | refine brT ?_ | refine brF ?_ | refine And.intro rfl ?_ | refine And.intro trivial ?_ | intro _)
      refine ⟨by decide, by show 2 ≤ (W.map T.str).length; simp; omega, Nat.le_refl _, fun q3 => ?_⟩
      repeat (first | refine brT ?_ | refine brF ?_ | refine And.intro rfl ?_ | refine And.intro trivial ?_ | intro _)
      refine loopE (fun x : Nat × Nat => ⟨64, [(2, .c (.bx 3000 q2 0)), (5, .c (.bx 6000 q5 0)), (42, .c (.own 43000 q3)), (43, .int (V.length : Int)), (44, .int x.1)],
        [(3000, .box q2 [.v (.slice none 0 0), .v (.int .i64 0)]), (6000, .box q5 [.own 61000 x.2, .v (.int .i64 (readW (wd W 1) dash))]), (43000, .row q3 0 1 (V.map T.str)), (61000, .row x.2 0 5 (((V.take x.1).map caseW).map t_Case))]⟩) (fun x => V.length - x.1) (fun x => x.1 ≤ V.length ∧ ∀ j (hj : j < V.length), j < x.1 → (textCase V[j]).2 = true)
        (.box 6000 61000 0 5 rfl rfl rfl rfl (fun qc => .here ⟨(0, qc), ⟨Nat.zero_le _, fun j _ h => absurd h (by simp)⟩, rfl⟩ (wk rfl ⟨rfl, rfl, rfl, congrArg (fun z : Nat => AV.int z) ((congrArg List.length hrow).trans (by rw [hV]; simp)), rfl, trivial⟩ ⟨rfl, by rw [hels]; rfl, by rw [hV]; exact congrArg (fun z => some (Ob.row q3 0 1 z)) hrow, rfl, trivial⟩))) ?_
      rintro ⟨k, q⟩ ⟨hk, hI⟩
      simp only at hk hI
      repeat (first | refine brT ?_ | refine brF ?_ | refine And.intro rfl ?_ | refine And.intro trivial ?_ | intro _)
      by_cases hk2 : k < V.length
      · repeat (first | (first | refine brT ?_ | refine brF ?_ | refine And.intro rfl ?_ | refine And.intro trivial ?_ | intro _) | (refine brL ?kzz (fun _ => ?_); case kzz => (simp <;> omega)) | (refine brR ?kzz (fun _ => ?_); case kzz => (simp <;> omega)))
        have hat : (V.map T.str)[((k : Int)).toNat]? = some (T.str V[k]) := by simp [hk2]
        have hvd : V[k] ∈ W.drop 2 := by rw [← hV]; exact List.getElem_mem hk2
        have hvm : V[k] ∈ W := List.mem_of_mem_drop hvd
        have hvs := hmem _ hvm
        have hrowc : ((V.take (k + 1)).map caseW).map t_Case = ((V.take k).map caseW).map t_Case ++ [t_Case (caseW V[k])] := by
          rw [List.take_succ_eq_append_getElem hk2, List.map_append, List.map_append]; rfl
        have hcl : (((V.take k).map caseW).map t_Case).length + 1 ≤ bound := by simp; unfold bound; omega
        refine ⟨nn k, by show k < (V.map T.str).length; simpa using hk2, ?_⟩
        repeat (first | refine brT ?_ | refine brF ?_ | refine And.intro rfl ?_ | refine And.intro trivial ?_ | intro _)
        refine ⟨T.str V[k], hat, ?_⟩
        repeat (first | refine brT ?_ | refine brF ?_ | refine And.intro rfl ?_ | refine And.intro trivial ?_ | intro _)
        refine ⟨_, i_textCase V[k] (by omega), ?_⟩
        repeat (first | refine brT ?_ | refine brF ?_ | refine And.intro rfl ?_ | refine And.intro trivial ?_ | intro _)
        cases hr : (textCase V[k]).2 with
        | false =>
          refine brR (by decide) (fun _ => ?_)
          repeat (first | refine brT ?_ | refine brF ?_ | refine And.intro rfl ?_ | refine And.intro trivial ?_ | intro _)
          rw [hno (fun h => by have := h.2.2.2 _ hvd; rw [hr] at this; cases this)]
          exact ⟨_, rfl⟩
        | true =>
          refine brL (by decide) (fun _ => ?_)
          have hcv : (textCase V[k]).1 = caseW V[k] := by
            unfold textCase at hr ⊢
            split at hr
            · rename_i e; rw [if_pos e]; rfl
            · cases hr
          rw [hcv]
          repeat (first | refine brT ?_ | refine brF ?_ | refine And.intro rfl ?_ | refine And.intro trivial ?_ | intro _)
          refine ⟨fun t ht => (by simp at ht; subst ht; rfl), fun qa => ?_⟩
          repeat (first | refine brT ?_ | refine brF ?_ | refine And.intro rfl ?_ | refine And.intro trivial ?_ | intro _)
          refine ⟨hcl, fun qb => ?_⟩
          repeat (first | refine brT ?_ | refine brF ?_ | refine And.intro rfl ?_ | refine And.intro trivial ?_ | intro _)
          refine nxt (k + 1, qb) ⟨hk2, fun j hj h => ?_⟩ (by show V.length - (k + 1) < V.length - k; omega) (wk rfl ⟨rfl, rfl, rfl, rfl, up1 hk2 (by omega), trivial⟩ ⟨rfl, rfl, rfl, ?_, trivial⟩)
          · by_cases e : j = k
            · subst e; exact hr
            · exact hI j hj (by simp at h; omega)
          refine congrArg (fun z => some (Ob.row qb 0 5 z)) ?_
          rw [hrowc]
          rfl
      · have hkv : k = V.length := by omega
        subst hkv
        have hxt : ((V.take V.length).map caseW, readW (wd W 1) dash) = selOf W := by rw [List.take_length, hV]; rfl
        have hin : selIn W := ⟨h2, h0, .inr hn, fun w hw => by
          rw [← hV] at hw
          obtain ⟨j, hj, rfl⟩ := List.mem_iff_getElem.1 hw
          exact hI j hj hj⟩
        rw [hyes hin, ← hxt]
        repeat (first | (first | refine brT ?_ | refine brF ?_ | refine And.intro rfl ?_ | refine And.intro trivial ?_ | intro _) | (refine brL ?kzz (fun _ => ?_); case kzz => (simp <;> omega)) | (refine brR ?kzz (fun _ => ?_); case kzz => (simp <;> omega)))
        exact rfl


end Go.Proofs.YtphikogfogejlaaDoor.E
