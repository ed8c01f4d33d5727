/- Contracts of functions of this seat's program. -/
import Derived.Test.YtphikogfogejlaaDoorETy
import Derived.Test.YtphikogfogejlaaDoorETi
namespace Go.Proofs.YtphikogfogejlaaDoor.E
set_option linter.unusedVariables false
set_option linter.unusedSimpArgs false
set_option maxHeartbeats 1600000
def sv (W : List ByteArray) (i j : Nat) : Int := if j < i then specV W j else 0
theorem sv_end {W : List ByteArray} {i j : Nat} (hj : j < 3) (hi : ¬ (i + 1 < W.length ∧ i < 3)) : sv W i j = specV W j := by
  unfold sv
  split
  · rfl
  · unfold specV
    rw [if_neg (by omega)]
theorem readW_at {W : List ByteArray} {j : Nat} (h : j + 1 < W.length) : readW (wd W (j + 1)) nilW = specV W j := by
  unfold specV; rw [if_pos h]
theorem wd_str {W : List ByteArray} {k : Nat} (h : k < W.length) : (W.map T.str)[k]? = some (T.str (wd W k)) := by
  rw [List.getElem?_map, wd_at h]; rfl
theorem s_TextInstr (s : ByteArray) (hs : s.size ≤ 1048576) : Spec Tryd.prog 9 [.ro (T.str s)] [t_Instr (textInstr s).1, T.bool (textInstr s).2] := by
  have hlen := cutB_len 32 s
  have hne := cutB_ne 32 s
  refine fn Tryd.func9 ?_
  unfold textInstr
  repeat (first | refine brT ?_ | refine brF ?_ | refine And.intro rfl ?_ | refine And.intro trivial ?_ | intro _)
  refine ⟨_, s_Parts s hs, ?_⟩
  generalize cutB 32 s = W at hlen hne ⊢
  have hl1 : 1 ≤ W.length := by cases W; exact absurd rfl hne; simp
  intro qW
  repeat (first | refine brT ?_ | refine brF ?_ | refine And.intro rfl ?_ | refine And.intro trivial ?_ | intro _)
  refine ⟨fun t ht => (by simp at ht; rcases ht with rfl | rfl | rfl <;> rfl), fun qV => ?_⟩
  repeat (first | refine brT ?_ | refine brF ?_ | refine And.intro rfl ?_ | refine And.intro trivial ?_ | intro _)
  rename_i q2
  refine loopI (fun x : Nat × Nat => ⟨63, [(0, .vv (.string s)), (2, .c (.bx 3000 q2 0)), (4, .c (.own 11000 qW)), (5, .c (.own 12000 qV)), (6, .int (x.1 + 1 : Nat))],
    [(3000, .box q2 [.v (.int .i64 0), .v (.int .i64 0), .v (.int .i64 0), .v (.int .i64 0)]), (11000, .row qW 0 1 (W.map T.str)), (12000, .row qV x.2 1 [T.int (sv W x.1 0), T.int (sv W x.1 1), T.int (sv W x.1 2)])]⟩) (fun x => 3 - x.1) (fun x => x.1 ≤ 3) (0, 0) (Nat.zero_le _)
    (wk rfl ⟨rfl, rfl, rfl, rfl, rfl, trivial⟩ ⟨rfl, rfl, rfl, trivial⟩) ?_
  rintro ⟨i, v⟩ hi
  simp only at hi
  repeat (first | refine brT ?_ | refine brF ?_ | refine And.intro rfl ?_ | refine And.intro trivial ?_ | intro _)
  by_cases hc : i + 1 < W.length ∧ i < 3
  · obtain ⟨hc1, hc2⟩ := hc
    have hwt : w64 (((i + 1 : Nat) : Int) - 1) = (i : Int) := by rw [w64_id (by omega) (by omega)]; omega
    repeat (first | (first | refine brT ?_ | refine brF ?_ | refine And.intro rfl ?_ | refine And.intro trivial ?_ | intro _) | (refine brL ?kzz (fun _ => ?_); case kzz => (simp <;> omega)) | (refine brR ?kzz (fun _ => ?_); case kzz => (simp <;> omega)))
    refine ⟨nn (i + 1), by show i + 1 < _; simp; omega, ?_⟩
    repeat (first | refine brT ?_ | refine brF ?_ | refine And.intro rfl ?_ | refine And.intro trivial ?_ | intro _)
    refine ⟨T.str (wd W (i + 1)), wd_str hc1, ?_⟩
    repeat (first | refine brT ?_ | refine brF ?_ | refine And.intro rfl ?_ | refine And.intro trivial ?_ | intro _)
    refine ⟨_, s_l05Read (wd W (i + 1)) nilW, ?_⟩
    repeat (first | refine brT ?_ | refine brF ?_ | refine And.intro rfl ?_ | refine And.intro trivial ?_ | intro _)
    refine ⟨by show 0 ≤ w64 _; rw [hwt]; omega, by show (w64 _).toNat < 3; rw [hwt]; omega, ?_⟩
    repeat (first | refine brT ?_ | refine brF ?_ | refine And.intro rfl ?_ | refine And.intro trivial ?_ | intro _)
    have h3 : i = 0 ∨ i = 1 ∨ i = 2 := by omega
    have hr := readW_at hc1
    refine ⟨T.int (sv W i i), ?_, Nat.le_refl _, fun v' => ?_⟩
    · show [T.int (sv W i 0), T.int (sv W i 1), T.int (sv W i 2)][(w64 _).toNat]? = _
      rw [hwt]
      rcases h3 with rfl | rfl | rfl <;> rfl
    repeat (first | refine brT ?_ | refine brF ?_ | refine And.intro rfl ?_ | refine And.intro trivial ?_ | intro _)
    refine nxt (i + 1, v') (by show i + 1 ≤ 3; omega) (by show 3 - (i + 1) < 3 - i; omega) (wk rfl ⟨rfl, rfl, rfl, rfl, up1 (n := 4) (by omega) (by omega), trivial⟩ ⟨rfl, rfl, ?_, trivial⟩)
    refine congrArg (fun z => some (Ob.row qV v' 1 z)) ?_
    show [T.int (sv W i 0), T.int (sv W i 1), T.int (sv W i 2)].set (w64 (((i + 1 : Nat) : Int) - 1)).toNat (T.int (readW (wd W (i + 1)) nilW)) = _
    rw [hwt, hr]
    rcases h3 with rfl | rfl | rfl <;> rfl
  · have e0 := sv_end (W := W) (i := i) (j := 0) (by decide) hc
    have e1 := sv_end (W := W) (i := i) (j := 1) (by decide) hc
    have e2 := sv_end (W := W) (i := i) (j := 2) (by decide) hc
    rw [e0, e1, e2]
    by_cases hc1 : i + 1 < W.length
    · have hc2 : ¬ i < 3 := fun e => hc ⟨hc1, e⟩
      repeat (first | (first | refine brT ?_ | refine brF ?_ | refine And.intro rfl ?_ | refine And.intro trivial ?_ | intro _) | (refine brL ?kzz (fun _ => ?_); case kzz => (simp <;> omega)) | (refine brR ?kzz (fun _ => ?_); case kzz => (simp <;> omega)))
      refine drM (Pl.go 0 (Pl.go 1 (Pl.go 2 (Pl.go 3 (Pl.go 4 (Pl.go 5 (Pl.go 6 (Pl.go 7 (Pl.go 8 ((Pl.go 9 (Pl.go 10 (Pl.go 11 Pl.stop))).or (Pl.go 10 (Pl.go 9 (Pl.go 11 Pl.stop))))))))))))) (fun m => ∃ Q : Nat, m = ⟨63, [(0, .vv (.string s)), (2, .c (.bx 3000 q2 0)), (4, .c (.own 11000 qW)), (7, .c (.bx 8000 Q 0))],
        [(3000, .box q2 [.v (.int .i64 0), .v (.int .i64 0), .v (.int .i64 0), .v (.int .i64 0)]), (11000, .row qW 0 1 (W.map T.str)), (8000, .box Q [.v (.int .i64 0), .v (.int .i64 (specV W 0)), .v (.int .i64 (specV W 1)), .v (.int .i64 (specV W 2))])]⟩) (by kernel_rfl) ?_ ?_
      · repeat' (first | (first | refine brT ?_ | refine brF ?_ | refine And.intro rfl ?_ | refine And.intro trivial ?_ | intro _) | refine ⟨by decide, by decide, ?_⟩ | refine ⟨_, rfl, ?_⟩ | refine And.intro ?_ ?_)
        all_goals first | decide | exact Nat.le_of_ble_eq_true rfl | exact ⟨_, ⟨_, rfl⟩, wk rfl ⟨rfl, rfl, rfl, rfl, trivial⟩ ⟨rfl, rfl, rfl, trivial⟩⟩
      rintro m ⟨Q, rfl⟩
      repeat (first | refine brT ?_ | refine brF ?_ | refine And.intro rfl ?_ | refine And.intro trivial ?_ | intro _)
      refine loopI (fun n : Nat => ⟨63, [(0, .vv (.string s)), (2, .c (.bx 3000 q2 0)), (4, .c (.own 11000 qW)), (7, .c (.bx 8000 Q 0)), (8, .int (n + 1 : Nat))],
        [(3000, .box q2 [.v (.int .i64 0), .v (.int .i64 0), .v (.int .i64 0), .v (.int .i64 0)]), (11000, .row qW 0 1 (W.map T.str)), (8000, .box Q [.v (.int .i64 (opScan (wd W 0) n)), .v (.int .i64 (specV W 0)), .v (.int .i64 (specV W 1)), .v (.int .i64 (specV W 2))])]⟩) (fun n => 15 - n) (fun n => n ≤ 15) 0 (Nat.zero_le _)
        (wk rfl ⟨rfl, rfl, rfl, rfl, rfl, trivial⟩ ⟨rfl, rfl, rfl, trivial⟩) ?_
      intro n hn
      repeat (first | refine brT ?_ | refine brF ?_ | refine And.intro rfl ?_ | refine And.intro trivial ?_ | intro _)
      by_cases hn2 : n < 15
      · repeat (first | (first | refine brT ?_ | refine brF ?_ | refine And.intro rfl ?_ | refine And.intro trivial ?_ | intro _) | (refine brL ?kzz (fun _ => ?_); case kzz => (simp <;> omega)) | (refine brR ?kzz (fun _ => ?_); case kzz => (simp <;> omega)))
        refine dr (Pl.go 0 (Pl.go 2 (Pl.go 3 (Pl.go 4 (Pl.go 1 (Pl.go 5 Pl.stop)))))) (by kernel_rfl) ?_
        repeat' (first | (first | refine brT ?_ | refine brF ?_ | refine And.intro rfl ?_ | refine And.intro trivial ?_ | intro _) | refine ⟨_, s_OpWord (n + 1 : Nat), ?_⟩ | refine ⟨T.str (wd W 0), wd_str hl1, ?_⟩ | refine And.intro ?_ ?_)
        · decide
        · show 0 < (W.map T.str).length; simp; omega
        have hcase : opScan (wd W 0) (n + 1) = if opWord ((n + 1 : Nat) : Int) = wd W 0 then ((n + 1 : Nat) : Int) else opScan (wd W 0) n := rfl
        by_cases he : opWord ((n + 1 : Nat) : Int) = wd W 0
        · rw [if_pos he] at hcase
          refine brR (by show ¬ (((opWord ((n + 1 : Nat) : Int)).toList == (wd W 0).toList) = false); rw [beq_str, decide_eq_true he]; decide) (fun _ => ?_)
          repeat (first | refine brT ?_ | refine brF ?_ | refine And.intro rfl ?_ | refine And.intro trivial ?_ | intro _)
          refine nxt (n + 1) hn2 (by show 15 - (n + 1) < 15 - n; omega) (wk rfl ⟨rfl, rfl, rfl, rfl, up1 (n := 16) (by omega) (by omega), trivial⟩ ⟨rfl, rfl, ?_, trivial⟩)
          rw [hcase]; rfl
        · rw [if_neg he] at hcase
          refine brL (by show ¬ (((opWord ((n + 1 : Nat) : Int)).toList == (wd W 0).toList) = true); rw [beq_str, decide_eq_false he]; decide) (fun _ => ?_)
          repeat (first | refine brT ?_ | refine brF ?_ | refine And.intro rfl ?_ | refine And.intro trivial ?_ | intro _)
          refine nxt (n + 1) hn2 (by show 15 - (n + 1) < 15 - n; omega) (wk rfl ⟨rfl, rfl, rfl, rfl, up1 (n := 16) (by omega) (by omega), trivial⟩ ⟨rfl, rfl, ?_, trivial⟩)
          rw [hcase]; rfl
      · have : n = 15 := by omega
        subst this
        repeat (first | (first | refine brT ?_ | refine brF ?_ | refine And.intro rfl ?_ | refine And.intro trivial ?_ | intro _) | (refine brL ?kzz (fun _ => ?_); case kzz => (simp <;> omega)) | (refine brR ?kzz (fun _ => ?_); case kzz => (simp <;> omega)))
        by_cases h0 : s = ⟨#[]⟩
        · rw [if_pos (.inl h0)]
          refine brR (by show ¬ ((s.toList == (⟨#[]⟩ : ByteArray).toList) = false); rw [beq_str, decide_eq_true h0]; decide) (fun _ => ?_)
          repeat (first | refine brT ?_ | refine brF ?_ | refine And.intro rfl ?_ | refine And.intro trivial ?_ | intro _)
          exact rfl
        · refine brL (by show ¬ ((s.toList == (⟨#[]⟩ : ByteArray).toList) = true); rw [beq_str, decide_eq_false h0]; decide) (fun _ => ?_)
          repeat (first | refine brT ?_ | refine brF ?_ | refine And.intro rfl ?_ | refine And.intro trivial ?_ | intro _)
          refine ⟨_, s_InstrText (specI W), ?_⟩
          repeat (first | refine brT ?_ | refine brF ?_ | refine And.intro rfl ?_ | refine And.intro trivial ?_ | intro _)
          by_cases h1 : instrText (specI W) = s
          · rw [if_neg (by rintro (e | e); exact h0 e; exact e h1)]
            refine brL (by show ¬ ((!((instrText (specI W)).toList == s.toList)) = true); rw [beq_str, decide_eq_true h1]; decide) (fun _ => ?_)
            repeat (first | refine brT ?_ | refine brF ?_ | refine And.intro rfl ?_ | refine And.intro trivial ?_ | intro _)
            exact rfl
          · rw [if_pos (.inr h1)]
            refine brR (by show ¬ ((!((instrText (specI W)).toList == s.toList)) = false); rw [beq_str, decide_eq_false h1]; decide) (fun _ => ?_)
            repeat (first | refine brT ?_ | refine brF ?_ | refine And.intro rfl ?_ | refine And.intro trivial ?_ | intro _)
            exact rfl
    · repeat (first | (first | refine brT ?_ | refine brF ?_ | refine And.intro rfl ?_ | refine And.intro trivial ?_ | intro _) | (refine brL ?kzz (fun _ => ?_); case kzz => (simp <;> omega)) | (refine brR ?kzz (fun _ => ?_); case kzz => (simp <;> omega)))
      refine drM (Pl.go 0 (Pl.go 1 (Pl.go 2 (Pl.go 3 (Pl.go 4 (Pl.go 5 (Pl.go 6 (Pl.go 7 (Pl.go 8 ((Pl.go 9 (Pl.go 10 (Pl.go 11 Pl.stop))).or (Pl.go 10 (Pl.go 9 (Pl.go 11 Pl.stop))))))))))))) (fun m => ∃ Q : Nat, m = ⟨63, [(0, .vv (.string s)), (2, .c (.bx 3000 q2 0)), (4, .c (.own 11000 qW)), (7, .c (.bx 8000 Q 0))],
        [(3000, .box q2 [.v (.int .i64 0), .v (.int .i64 0), .v (.int .i64 0), .v (.int .i64 0)]), (11000, .row qW 0 1 (W.map T.str)), (8000, .box Q [.v (.int .i64 0), .v (.int .i64 (specV W 0)), .v (.int .i64 (specV W 1)), .v (.int .i64 (specV W 2))])]⟩) (by kernel_rfl) ?_ ?_
      · repeat' (first | (first | refine brT ?_ | refine brF ?_ | refine And.intro rfl ?_ | refine And.intro trivial ?_ | intro _) | refine ⟨by decide, by decide, ?_⟩ | refine ⟨_, rfl, ?_⟩ | refine And.intro ?_ ?_)
        all_goals first | decide | exact Nat.le_of_ble_eq_true rfl | exact ⟨_, ⟨_, rfl⟩, wk rfl ⟨rfl, rfl, rfl, rfl, trivial⟩ ⟨rfl, rfl, rfl, trivial⟩⟩
      rintro m ⟨Q, rfl⟩
      repeat (first | refine brT ?_ | refine brF ?_ | refine And.intro rfl ?_ | refine And.intro trivial ?_ | intro _)
      refine loopI (fun n : Nat => ⟨63, [(0, .vv (.string s)), (2, .c (.bx 3000 q2 0)), (4, .c (.own 11000 qW)), (7, .c (.bx 8000 Q 0)), (8, .int (n + 1 : Nat))],
        [(3000, .box q2 [.v (.int .i64 0), .v (.int .i64 0), .v (.int .i64 0), .v (.int .i64 0)]), (11000, .row qW 0 1 (W.map T.str)), (8000, .box Q [.v (.int .i64 (opScan (wd W 0) n)), .v (.int .i64 (specV W 0)), .v (.int .i64 (specV W 1)), .v (.int .i64 (specV W 2))])]⟩) (fun n => 15 - n) (fun n => n ≤ 15) 0 (Nat.zero_le _)
        (wk rfl ⟨rfl, rfl, rfl, rfl, rfl, trivial⟩ ⟨rfl, rfl, rfl, trivial⟩) ?_
      intro n hn
      repeat (first | refine brT ?_ | refine brF ?_ | refine And.intro rfl ?_ | refine And.intro trivial ?_ | intro _)
      by_cases hn2 : n < 15
      · repeat (first | (first | refine brT ?_ | refine brF ?_ | refine And.intro rfl ?_ | refine And.intro trivial ?_ | intro _) | (refine brL ?kzz (fun _ => ?_); case kzz => (simp <;> omega)) | (refine brR ?kzz (fun _ => ?_); case kzz => (simp <;> omega)))
        refine dr (Pl.go 0 (Pl.go 2 (Pl.go 3 (Pl.go 4 (Pl.go 1 (Pl.go 5 Pl.stop)))))) (by kernel_rfl) ?_
        repeat' (first | (first | refine brT ?_ | refine brF ?_ | refine And.intro rfl ?_ | refine And.intro trivial ?_ | intro _) | refine ⟨_, s_OpWord (n + 1 : Nat), ?_⟩ | refine ⟨T.str (wd W 0), wd_str hl1, ?_⟩ | refine And.intro ?_ ?_)
        · decide
        · show 0 < (W.map T.str).length; simp; omega
        have hcase : opScan (wd W 0) (n + 1) = if opWord ((n + 1 : Nat) : Int) = wd W 0 then ((n + 1 : Nat) : Int) else opScan (wd W 0) n := rfl
        by_cases he : opWord ((n + 1 : Nat) : Int) = wd W 0
        · rw [if_pos he] at hcase
          refine brR (by show ¬ (((opWord ((n + 1 : Nat) : Int)).toList == (wd W 0).toList) = false); rw [beq_str, decide_eq_true he]; decide) (fun _ => ?_)
          repeat (first | refine brT ?_ | refine brF ?_ | refine And.intro rfl ?_ | refine And.intro trivial ?_ | intro _)
          refine nxt (n + 1) hn2 (by show 15 - (n + 1) < 15 - n; omega) (wk rfl ⟨rfl, rfl, rfl, rfl, up1 (n := 16) (by omega) (by omega), trivial⟩ ⟨rfl, rfl, ?_, trivial⟩)
          rw [hcase]; rfl
        · rw [if_neg he] at hcase
          refine brL (by show ¬ (((opWord ((n + 1 : Nat) : Int)).toList == (wd W 0).toList) = true); rw [beq_str, decide_eq_false he]; decide) (fun _ => ?_)
          repeat (first | refine brT ?_ | refine brF ?_ | refine And.intro rfl ?_ | refine And.intro trivial ?_ | intro _)
          refine nxt (n + 1) hn2 (by show 15 - (n + 1) < 15 - n; omega) (wk rfl ⟨rfl, rfl, rfl, rfl, up1 (n := 16) (by omega) (by omega), trivial⟩ ⟨rfl, rfl, ?_, trivial⟩)
          rw [hcase]; rfl
      · have : n = 15 := by omega
        subst this
        repeat (first | (first | refine brT ?_ | refine brF ?_ | refine And.intro rfl ?_ | refine And.intro trivial ?_ | intro _) | (refine brL ?kzz (fun _ => ?_); case kzz => (simp <;> omega)) | (refine brR ?kzz (fun _ => ?_); case kzz => (simp <;> omega)))
        by_cases h0 : s = ⟨#[]⟩
        · rw [if_pos (.inl h0)]
          refine brR (by show ¬ ((s.toList == (⟨#[]⟩ : ByteArray).toList) = false); rw [beq_str, decide_eq_true h0]; decide) (fun _ => ?_)
          repeat (first | refine brT ?_ | refine brF ?_ | refine And.intro rfl ?_ | refine And.intro trivial ?_ | intro _)
          exact rfl
        · refine brL (by show ¬ ((s.toList == (⟨#[]⟩ : ByteArray).toList) = true); rw [beq_str, decide_eq_false h0]; decide) (fun _ => ?_)
          repeat (first | refine brT ?_ | refine brF ?_ | refine And.intro rfl ?_ | refine And.intro trivial ?_ | intro _)
          refine ⟨_, s_InstrText (specI W), ?_⟩
          repeat (first | refine brT ?_ | refine brF ?_ | refine And.intro rfl ?_ | refine And.intro trivial ?_ | intro _)
          by_cases h1 : instrText (specI W) = s
          · rw [if_neg (by rintro (e | e); exact h0 e; exact e h1)]
            refine brL (by show ¬ ((!((instrText (specI W)).toList == s.toList)) = true); rw [beq_str, decide_eq_true h1]; decide) (fun _ => ?_)
            repeat (first | refine brT ?_ | refine brF ?_ | refine And.intro rfl ?_ | refine And.intro trivial ?_ | intro _)
            exact rfl
          · rw [if_pos (.inr h1)]
            refine brR (by show ¬ ((!((instrText (specI W)).toList == s.toList)) = false); rw [beq_str, decide_eq_false h1]; decide) (fun _ => ?_)
            repeat (first | refine brT ?_ | refine brF ?_ | refine And.intro rfl ?_ | refine And.intro trivial ?_ | intro _)
            exact rfl


end Go.Proofs.YtphikogfogejlaaDoor.E
