/- Contracts of functions of this seat's program. -/
import Derived.Test.YtphikogfogejlaaDoorETy
import Derived.Test.YtphikogfogejlaaDoorETj
namespace Go.Proofs.YtphikogfogejlaaDoor.E
set_option linter.unusedVariables false
set_option linter.unusedSimpArgs false
set_option maxHeartbeats 1600000
theorem i_TextInstr (s : ByteArray) (hs : s.size ≤ 1048576) : Spec Tryd.prog 10 [.ro (T.str s)] [t_Instr (textInstr s).1, T.bool (textInstr s).2] := by
  have hlen := cutB_len 32 s
  have hne := cutB_ne 32 s
  have hyes := impl_accepts (s := s)
  have hno := textInstr_no (s := s)
  refine fn Tryd.func10 ?_
  repeat (first | refine brT ?_ | refine brF ?_ | refine And.intro rfl ?_ | refine And.intro trivial ?_ | intro _)
  refine ⟨_, i_Parts s hs, ?_⟩
  generalize cutB 32 s = W at hlen hne hyes hno ⊢
  have hl1 : 1 ≤ W.length := by cases W; exact absurd rfl hne; simp
  intro qW
  repeat (first | refine brT ?_ | refine brF ?_ | refine And.intro rfl ?_ | refine And.intro trivial ?_ | intro _)
  rename_i q2 Q
  refine loopI (fun n : Nat => ⟨70, [(0, .vv (.string s)), (2, .c (.bx 3000 q2 0)), (4, .c (.own 14000 qW)), (5, .c (.bx 6000 Q 0)), (6, .int (n + 1 : Nat))],
    [(3000, .box q2 [.v (.int .i64 0), .v (.int .i64 0), .v (.int .i64 0), .v (.int .i64 0)]), (14000, .row qW 0 1 (W.map T.str)), (6000, .box Q [.v (.int .i64 (opScan (wd W 0) n)), .v (.int .i64 0), .v (.int .i64 0), .v (.int .i64 0)])]⟩) (fun n => 15 - n) (fun n => n ≤ 15) 0 (Nat.zero_le _)
    (wk rfl ⟨rfl, rfl, rfl, rfl, rfl, trivial⟩ ⟨rfl, rfl, rfl, trivial⟩) ?_
  intro n hn
  repeat (first | refine brT ?_ | refine brF ?_ | refine And.intro rfl ?_ | refine And.intro trivial ?_ | intro _)
  by_cases hn2 : n < 15
  · repeat (first | (first | refine brT ?_ | refine brF ?_ | refine And.intro rfl ?_ | refine And.intro trivial ?_ | intro _) | (refine brL ?kzz (fun _ => ?_); case kzz => (simp <;> omega)) | (refine brR ?kzz (fun _ => ?_); case kzz => (simp <;> omega)))
    refine dr (Pl.go 0 (Pl.go 2 (Pl.go 3 (Pl.go 4 (Pl.go 1 (Pl.go 5 Pl.stop)))))) (by kernel_rfl) ?_
    repeat' (first | (first | refine brT ?_ | refine brF ?_ | refine And.intro rfl ?_ | refine And.intro trivial ?_ | intro _) | refine ⟨_, i_OpWord (n + 1 : Nat), ?_⟩ | refine ⟨T.str (wd W 0), wd_str hl1, ?_⟩ | refine And.intro ?_ ?_)
    · decide
    · show 0 < (W.map T.str).length; simp; omega
    have hcase : opScan (wd W 0) (n + 1) = if opWord ((n + 1 : Nat) : Int) = wd W 0 then ((n + 1 : Nat) : Int) else opScan (wd W 0) n := rfl
    by_cases he : opWord ((n + 1 : Nat) : Int) = wd W 0
    · rw [if_pos he] at hcase
      refine brR (by show ¬ (((opWord ((n + 1 : Nat) : Int)).toList == (wd W 0).toList) = false); rw [beq_str, decide_eq_true he]; decide) (fun _ => ?_)
      repeat (first | refine brT ?_ | refine brF ?_ | refine And.intro rfl ?_ | refine And.intro trivial ?_ | intro _)
      refine nxt (n + 1) hn2 (by show 15 - (n + 1) < 15 - n; omega) (wk rfl ⟨rfl, rfl, rfl, rfl, up1 (n := 16) (by omega) (by omega), trivial⟩ ⟨rfl, rfl, ?_, trivial⟩)
      rw [hcase]; rfl
    · rw [if_neg he] at hcase
      refine brL (by show ¬ (((opWord ((n + 1 : Nat) : Int)).toList == (wd W 0).toList) = true); rw [beq_str, decide_eq_false he]; decide) (fun _ => ?_)
      repeat (first | refine brT ?_ | refine brF ?_ | refine And.intro rfl ?_ | refine And.intro trivial ?_ | intro _)
      refine nxt (n + 1) hn2 (by show 15 - (n + 1) < 15 - n; omega) (wk rfl ⟨rfl, rfl, rfl, rfl, up1 (n := 16) (by omega) (by omega), trivial⟩ ⟨rfl, rfl, ?_, trivial⟩)
      rw [hcase]; rfl
  · have : n = 15 := by omega
    subst this
    repeat (first | (first | refine brT ?_ | refine brF ?_ | refine And.intro rfl ?_ | refine And.intro trivial ?_ | intro _) | (refine brL ?kzz (fun _ => ?_); case kzz => (simp <;> omega)) | (refine brR ?kzz (fun _ => ?_); case kzz => (simp <;> omega)))
    refine ⟨_, i_Fields (opScan (wd W 0) 15) _ rfl, ?_⟩
    repeat (first | refine brT ?_ | refine brF ?_ | refine And.intro rfl ?_ | refine And.intro trivial ?_ | intro _)
    have hwl : w64 (((W.map T.str).length : Int) - 1) = (W.length : Int) - 1 := by simp; exact w64_id (by omega) (by omega)
    by_cases hf : fieldsOf (opScan (wd W 0) 15) = (W.length : Int) - 1
    · refine brL (by show ¬ ((fieldsOf (opScan (wd W 0) 15) != w64 (((W.map T.str).length : Int) - 1)) = true); rw [hwl, hf]; simp) (fun _ => ?_)
      have hin := fields_pos (op := opScan (wd W 0) 15) (by omega)
      repeat (first | refine brT ?_ | refine brF ?_ | refine And.intro rfl ?_ | refine And.intro trivial ?_ | intro _)
      refine ⟨by decide, ?_⟩
      refine ⟨by show 1 ≤ (W.map T.str).length; simp; omega, Nat.le_refl _, fun q3 => ?_⟩
      repeat (first | refine brT ?_ | refine brF ?_ | refine And.intro rfl ?_ | refine And.intro trivial ?_ | intro _)
      have hrow : (((W.map T.str).take (W.map T.str).length).drop 1) = (W.drop 1).map T.str := by rw [List.take_of_length_le (Nat.le_refl _), List.map_drop]
      refine loopI (fun k : Nat => ⟨70, [(2, .c (.bx 3000 q2 0)), (5, .c (.bx 6000 Q 0)), (36, .c (.own 37000 q3)), (37, .int ((W.length - 1 : Nat) : Int)), (38, .int k)],
        [(3000, .box q2 [.v (.int .i64 0), .v (.int .i64 0), .v (.int .i64 0), .v (.int .i64 0)]), (6000, .box Q [.v (.int .i64 (opScan (wd W 0) 15)), .v (.int .i64 (implV W k 0)), .v (.int .i64 (implV W k 1)), .v (.int .i64 (implV W k 2))]), (37000, .row q3 0 1 ((W.drop 1).map T.str))]⟩) (fun k => W.length - 1 - k) (fun k => k ≤ W.length - 1 ∧ ∀ j, j < k → (rdI W j).2 = true) 0 ⟨Nat.zero_le _, fun j h => absurd h (by omega)⟩
        (wk rfl ⟨rfl, rfl, rfl, congrArg AV.int (by simp), rfl, trivial⟩ ⟨rfl, rfl, congrArg (fun z => some (Ob.row q3 0 1 z)) hrow, trivial⟩) ?_
      rintro k ⟨hk, hI⟩
      repeat (first | refine brT ?_ | refine brF ?_ | refine And.intro rfl ?_ | refine And.intro trivial ?_ | intro _)
      by_cases hk2 : k < W.length - 1
      · have hk3 : k = 0 ∨ k = 1 ∨ k = 2 := by omega
        have hat : ((W.drop 1).map T.str)[((k : Int)).toNat]? = some (T.str (wd W (k + 1))) := by
          rw [List.map_drop, List.getElem?_drop, Nat.add_comm]; exact wd_str (by omega)
        have hlt : k < ((W.drop 1).map T.str).length := by simp; omega
        have hn1 : wd W (k + 1) = wd W (k + 1) := rfl
        repeat (first | (first | refine brT ?_ | refine brF ?_ | refine And.intro rfl ?_ | refine And.intro trivial ?_ | intro _) | (refine brL ?kzz (fun _ => ?_); case kzz => (simp <;> omega)) | (refine brR ?kzz (fun _ => ?_); case kzz => (simp <;> omega)))
        refine ⟨nn k, hlt, ?_⟩
        repeat (first | refine brT ?_ | refine brF ?_ | refine And.intro rfl ?_ | refine And.intro trivial ?_ | intro _)
        refine ⟨T.str (wd W (k + 1)), hat, ?_⟩
        repeat (first | refine brT ?_ | refine brF ?_ | refine And.intro rfl ?_ | refine And.intro trivial ?_ | intro _)
        rcases hk3 with rfl | rfl | rfl
        · by_cases hch : isCh (opScan (wd W 0) 15) = true
          · have tc := i_textChan (wd W (0 + 1))
            rw [← show rdI W 0 = textChan (wd W (0 + 1)) from if_pos ⟨rfl, hch⟩] at tc
            refine brR (by decide) (fun _ => ?_)
            repeat (first | refine brT ?_ | refine brF ?_ | refine And.intro rfl ?_ | refine And.intro trivial ?_ | intro _)
            refine ⟨_, i_hasCh (opScan (wd W 0) 15), ?_⟩
            repeat (first | refine brT ?_ | refine brF ?_ | refine And.intro rfl ?_ | refine And.intro trivial ?_ | intro _)
            refine brR (by show ¬ (isCh (opScan (wd W 0) 15) = false); rw [hch]; decide) (fun _ => ?_)
            repeat (first | refine brT ?_ | refine brF ?_ | refine And.intro rfl ?_ | refine And.intro trivial ?_ | intro _)
            refine ⟨_, tc, ?_⟩
            repeat (first | refine brT ?_ | refine brF ?_ | refine And.intro rfl ?_ | refine And.intro trivial ?_ | intro _)
            cases hr : (rdI W 0).2 with
            | false =>
              refine brR (by decide) (fun _ => ?_)
              repeat (first | refine brT ?_ | refine brF ?_ | refine And.intro rfl ?_ | refine And.intro trivial ?_ | intro _)
              rw [hno (fun h => by have := h.2 0 (by omega); rw [hr] at this; cases this)]
              exact rfl
            | true =>
              refine brL (by decide) (fun _ => ?_)
              repeat (first | refine brT ?_ | refine brF ?_ | refine And.intro rfl ?_ | refine And.intro trivial ?_ | intro _)
              refine ⟨by decide, by decide, ?_⟩
              repeat (first | refine brT ?_ | refine brF ?_ | refine And.intro rfl ?_ | refine And.intro trivial ?_ | intro _)
              refine nxt (0 + 1) ⟨by omega, fun j hj => ?_⟩ (by show W.length - 1 - (0 + 1) < W.length - 1 - 0; omega) (wk rfl ⟨rfl, rfl, rfl, rfl, up1 (n := 4) (by decide) (by decide), trivial⟩ ⟨rfl, rfl, rfl, trivial⟩)
              by_cases hjk : j = 0
              · rw [hjk]; exact hr
              · exact hI j (by omega)
          · have tc := i_TextNum (wd W (0 + 1))
            rw [← show rdI W 0 = textNum (wd W (0 + 1)) from if_neg (fun h => hch h.2)] at tc
            refine brR (by decide) (fun _ => ?_)
            repeat (first | refine brT ?_ | refine brF ?_ | refine And.intro rfl ?_ | refine And.intro trivial ?_ | intro _)
            refine ⟨_, i_hasCh (opScan (wd W 0) 15), ?_⟩
            repeat (first | refine brT ?_ | refine brF ?_ | refine And.intro rfl ?_ | refine And.intro trivial ?_ | intro _)
            refine brL (by show ¬ (isCh (opScan (wd W 0) 15) = true); exact hch) (fun _ => ?_)
            repeat (first | refine brT ?_ | refine brF ?_ | refine And.intro rfl ?_ | refine And.intro trivial ?_ | intro _)
            refine ⟨_, tc, ?_⟩
            repeat (first | refine brT ?_ | refine brF ?_ | refine And.intro rfl ?_ | refine And.intro trivial ?_ | intro _)
            cases hr : (rdI W 0).2 with
            | false =>
              refine brR (by decide) (fun _ => ?_)
              repeat (first | refine brT ?_ | refine brF ?_ | refine And.intro rfl ?_ | refine And.intro trivial ?_ | intro _)
              rw [hno (fun h => by have := h.2 0 (by omega); rw [hr] at this; cases this)]
              exact rfl
            | true =>
              refine brL (by decide) (fun _ => ?_)
              repeat (first | refine brT ?_ | refine brF ?_ | refine And.intro rfl ?_ | refine And.intro trivial ?_ | intro _)
              refine ⟨by decide, by decide, ?_⟩
              repeat (first | refine brT ?_ | refine brF ?_ | refine And.intro rfl ?_ | refine And.intro trivial ?_ | intro _)
              refine nxt (0 + 1) ⟨by omega, fun j hj => ?_⟩ (by show W.length - 1 - (0 + 1) < W.length - 1 - 0; omega) (wk rfl ⟨rfl, rfl, rfl, rfl, up1 (n := 4) (by decide) (by decide), trivial⟩ ⟨rfl, rfl, rfl, trivial⟩)
              by_cases hjk : j = 0
              · rw [hjk]; exact hr
              · exact hI j (by omega)
        · have tc := i_TextNum (wd W (1 + 1))
          rw [← show rdI W 1 = textNum (wd W (1 + 1)) from if_neg (fun h => absurd h.1 (by decide))] at tc
          refine brL (by decide) (fun _ => ?_)
          repeat (first | refine brT ?_ | refine brF ?_ | refine And.intro rfl ?_ | refine And.intro trivial ?_ | intro _)
          refine ⟨_, tc, ?_⟩
          repeat (first | refine brT ?_ | refine brF ?_ | refine And.intro rfl ?_ | refine And.intro trivial ?_ | intro _)
          cases hr : (rdI W 1).2 with
          | false =>
            refine brR (by decide) (fun _ => ?_)
            repeat (first | refine brT ?_ | refine brF ?_ | refine And.intro rfl ?_ | refine And.intro trivial ?_ | intro _)
            rw [hno (fun h => by have := h.2 1 (by omega); rw [hr] at this; cases this)]
            exact rfl
          | true =>
            refine brL (by decide) (fun _ => ?_)
            repeat (first | refine brT ?_ | refine brF ?_ | refine And.intro rfl ?_ | refine And.intro trivial ?_ | intro _)
            refine ⟨by decide, by decide, ?_⟩
            repeat (first | refine brT ?_ | refine brF ?_ | refine And.intro rfl ?_ | refine And.intro trivial ?_ | intro _)
            refine nxt (1 + 1) ⟨by omega, fun j hj => ?_⟩ (by show W.length - 1 - (1 + 1) < W.length - 1 - 1; omega) (wk rfl ⟨rfl, rfl, rfl, rfl, up1 (n := 4) (by decide) (by decide), trivial⟩ ⟨rfl, rfl, rfl, trivial⟩)
            by_cases hjk : j = 1
            · rw [hjk]; exact hr
            · exact hI j (by omega)
        · have tc := i_TextNum (wd W (2 + 1))
          rw [← show rdI W 2 = textNum (wd W (2 + 1)) from if_neg (fun h => absurd h.1 (by decide))] at tc
          refine brL (by decide) (fun _ => ?_)
          repeat (first | refine brT ?_ | refine brF ?_ | refine And.intro rfl ?_ | refine And.intro trivial ?_ | intro _)
          refine ⟨_, tc, ?_⟩
          repeat (first | refine brT ?_ | refine brF ?_ | refine And.intro rfl ?_ | refine And.intro trivial ?_ | intro _)
          cases hr : (rdI W 2).2 with
          | false =>
            refine brR (by decide) (fun _ => ?_)
            repeat (first | refine brT ?_ | refine brF ?_ | refine And.intro rfl ?_ | refine And.intro trivial ?_ | intro _)
            rw [hno (fun h => by have := h.2 2 (by omega); rw [hr] at this; cases this)]
            exact rfl
          | true =>
            refine brL (by decide) (fun _ => ?_)
            repeat (first | refine brT ?_ | refine brF ?_ | refine And.intro rfl ?_ | refine And.intro trivial ?_ | intro _)
            refine ⟨by decide, by decide, ?_⟩
            repeat (first | refine brT ?_ | refine brF ?_ | refine And.intro rfl ?_ | refine And.intro trivial ?_ | intro _)
            refine nxt (2 + 1) ⟨by omega, fun j hj => ?_⟩ (by show W.length - 1 - (2 + 1) < W.length - 1 - 2; omega) (wk rfl ⟨rfl, rfl, rfl, rfl, up1 (n := 4) (by decide) (by decide), trivial⟩ ⟨rfl, rfl, rfl, trivial⟩)
            by_cases hjk : j = 2
            · rw [hjk]; exact hr
            · exact hI j (by omega)
      · have hkl : k = W.length - 1 := by omega
        have hok : implOk W := ⟨hf, fun j hj => hI j (by omega)⟩
        repeat (first | (first | refine brT ?_ | refine brF ?_ | refine And.intro rfl ?_ | refine And.intro trivial ?_ | intro _) | (refine brL ?kzz (fun _ => ?_); case kzz => (simp <;> omega)) | (refine brR ?kzz (fun _ => ?_); case kzz => (simp <;> omega)))
        rw [hyes hok, hkl]
        exact rfl
    · refine brR (by show ¬ ((fieldsOf (opScan (wd W 0) 15) != w64 (((W.map T.str).length : Int) - 1)) = false); rw [hwl]; simpa using hf) (fun _ => ?_)
      repeat (first | refine brT ?_ | refine brF ?_ | refine And.intro rfl ?_ | refine And.intro trivial ?_ | intro _)
      rw [hno (fun h => hf h.1)]
      exact rfl


end Go.Proofs.YtphikogfogejlaaDoor.E
