/- Contracts of functions of this seat's program. -/
import Derived.Test.YtphikogfogejlaaDoorETy
import Derived.Test.YtphikogfogejlaaDoorESa
import Derived.Test.YtphikogfogejlaaDoorETj
namespace Go.Proofs.YtphikogfogejlaaDoor.E
set_option linter.unusedVariables false
set_option linter.unusedSimpArgs false
set_option maxHeartbeats 1600000
def okk (W : List ByteArray) (k : Nat) : Bool := (textChan (wd W 1)).2 && (List.range k).all fun j => (textNum (wd W (j + 2))).2
def fnum (W : List ByteArray) (j : Nat) : Int := (textNum (wd W (j + 2))).1
def fk (W : List ByteArray) (k j : Nat) : Int := if j < k then fnum W j else 0
theorem okk_step (W : List ByteArray) (k : Nat) : okk W (k + 1) = (okk W k && (textNum (wd W (k + 2))).2) := by
  simp [okk, List.range_succ, Bool.and_assoc]
theorem okk_iff {W : List ByteArray} {k : Nat} : okk W k = true ↔ (textChan (wd W 1)).2 = true ∧ ∀ j, j < k → (textNum (wd W (j + 2))).2 = true := by
  unfold okk
  rw [Bool.and_eq_true, List.all_eq_true]
  constructor
  · rintro ⟨a, b⟩; exact ⟨a, fun j hj => b j (List.mem_range.2 hj)⟩
  · rintro ⟨a, b⟩; exact ⟨a, fun j hj => b j (List.mem_range.1 hj)⟩
theorem i_textCase (w : ByteArray) (hs : w.size ≤ 1048576) : Spec Tryd.prog 42 [.ro (T.str w)] [t_Case (textCase w).1, T.bool (textCase w).2] := by
  have hyes := textCase_yes (w := w)
  have hno := textCase_no (w := w)
  have hval := case_yes (w := w)
  have hlen := cutB_len 58 w
  have hne := cutB_ne 58 w
  refine fn Tryd.func42 ?_
  repeat (first | refine brT ?_ | refine brF ?_ | refine And.intro rfl ?_ | refine And.intro trivial ?_ | intro _)
  refine ⟨_, s_Split 58 w hs, ?_⟩
  generalize cutB 58 w = W at hlen hne hyes hno hval ⊢
  have hl1 : 1 ≤ W.length := by cases W; exact absurd rfl hne; simp
  intro qW
  repeat (first | refine brT ?_ | refine brF ?_ | refine And.intro rfl ?_ | refine And.intro trivial ?_ | intro _)
  refine ⟨by decide, by show 0 < (W.map T.str).length; simp; omega, ?_⟩
  repeat (first | refine brT ?_ | refine brF ?_ | refine And.intro rfl ?_ | refine And.intro trivial ?_ | intro _)
  refine ⟨T.str (wd W 0), wd_str hl1, ?_⟩
  have hb : ((wd W 0).toList == sendW.toList) = decide (wd W 0 = sendW) := beq_str _ _
  by_cases hsd : wd W 0 = sendW
  · rw [decide_eq_true hsd] at hb
    repeat (first | (first | refine brT ?_ | refine brF ?_ | refine And.intro rfl ?_ | refine And.intro trivial ?_ | intro _) | (refine brR (by show ¬ (((wd W 0).toList == sendW.toList) = false); rw [hb]; decide) (fun _ => ?_)) | (refine brL (by show ¬ ((!((wd W 0).toList == sendW.toList)) = true); rw [hb]; decide) (fun _ => ?_)))
    rename_i q2 q5 qr _ qp _
    refine brI (fun h1 => ?_) (fun h1 => ?_)
    · have h4 : ¬ W.length = 4 := by
        intro e
        replace h1 : (((W.map T.str).length : Int) != w64 (2 + 2)) = true := h1
        rw [List.length_map, e] at h1
        exact absurd h1 (by decide)
      rw [hno (fun h => h4 (by have := h.2.1; rw [if_pos hsd] at this; exact this))]
      repeat (first | refine brT ?_ | refine brF ?_ | refine And.intro rfl ?_ | refine And.intro trivial ?_ | intro _)
      exact rfl
    have h4 : W.length = 4 := by
      replace h1 : (((W.map T.str).length : Int) != w64 (2 + 2)) = false := h1
      rw [List.length_map] at h1
      have h1 : ((W.length : Int) == w64 (2 + 2)) = true := by simpa [bne] using h1
      have := eq_of_beq h1
      exact Int.ofNat.inj this
    repeat (first | refine brT ?_ | refine brF ?_ | refine And.intro rfl ?_ | refine And.intro trivial ?_ | intro _)
    refine ⟨by decide, by show 1 < (W.map T.str).length; simp; omega, ?_⟩
    repeat (first | refine brT ?_ | refine brF ?_ | refine And.intro rfl ?_ | refine And.intro trivial ?_ | intro _)
    refine ⟨T.str (wd W 1), wd_str (by omega), ?_⟩
    repeat (first | refine brT ?_ | refine brF ?_ | refine And.intro rfl ?_ | refine And.intro trivial ?_ | intro _)
    refine ⟨_, i_textChan (wd W 1), ?_⟩
    repeat (first | refine brT ?_ | refine brF ?_ | refine And.intro rfl ?_ | refine And.intro trivial ?_ | intro _)
    refine loopI (fun k : Nat => ⟨84, [(2, .c (.bx 3000 q2 0)), (4, .c (.own 15000 qW)), (5, .c (.bx 6000 q5 0)), (8, .bool (okk W k)), (56, .c (.bs 29000 qp 2)), (57, .int 2), (58, .int k)],
      [(3000, .box q2 [.v (.bool false), .v (.int .i64 0), .v (.int .i64 0), .v (.int .i64 0), .v (.int .i64 0)]), (15000, .row qW 0 1 (W.map T.str)), (6000, .box q5 [.v (.bool ((wd W 0).toList == sendW.toList)), .v (.int .i64 (textChan (wd W 1)).1), .v (.int .i64 (fk W k 0)), .v (.int .i64 0), .v (.int .i64 (fk W k 1))]), (29000, .box qp [.bx 6000 q5 2, .bx 6000 q5 4])]⟩) (fun k => 2 - k) (fun k => k ≤ 2) 0 (Nat.zero_le _)
      (wk rfl ⟨rfl, rfl, rfl, congrArg AV.bool (by simp [okk]), rfl, rfl, rfl, trivial⟩ ⟨rfl, rfl, rfl, rfl, trivial⟩) ?_
    intro k hk
    repeat (first | refine brT ?_ | refine brF ?_ | refine And.intro rfl ?_ | refine And.intro trivial ?_ | intro _)
    by_cases hk2 : k < 2
    · repeat (first | (first | refine brT ?_ | refine brF ?_ | refine And.intro rfl ?_ | refine And.intro trivial ?_ | intro _) | (refine brL ?kzz (fun _ => ?_); case kzz => (simp <;> omega)) | (refine brR ?kzz (fun _ => ?_); case kzz => (simp <;> omega)))
      have hkc : k = 0 ∨ k = 1 := by omega
      have hst := okk_step W k
      rcases hkc with rfl | rfl
      · refine ⟨by decide, by decide, ?_⟩
        repeat (first | refine brT ?_ | refine brF ?_ | refine And.intro rfl ?_ | refine And.intro trivial ?_ | intro _)
        refine ⟨by decide, by rw [List.length_map, h4]; decide, ?_⟩
        repeat (first | refine brT ?_ | refine brF ?_ | refine And.intro rfl ?_ | refine And.intro trivial ?_ | intro _)
        refine ⟨T.str (wd W 2), wd_str (k := 2) (by omega), ?_⟩
        repeat (first | refine brT ?_ | refine brF ?_ | refine And.intro rfl ?_ | refine And.intro trivial ?_ | intro _)
        refine ⟨_, i_TextNum (wd W 2), ?_⟩
        repeat (first | refine brT ?_ | refine brF ?_ | refine And.intro rfl ?_ | refine And.intro trivial ?_ | intro _)
        refine brI (fun h5 => ?_) (fun h5 => ?_)
        · repeat (first | refine brT ?_ | refine brF ?_ | refine And.intro rfl ?_ | refine And.intro trivial ?_ | intro _)
          refine nxt (0 + 1) (by decide) (by decide) (wk rfl ⟨rfl, rfl, rfl, congrArg AV.bool (by rw [hst]; show (textNum (wd W 2)).2 = (okk W 0 && _); rw [h5]; rfl), rfl, rfl, up1 (n := 4) (by decide) (by decide), trivial⟩ ⟨rfl, rfl, rfl, rfl, trivial⟩)
        · repeat (first | refine brT ?_ | refine brF ?_ | refine And.intro rfl ?_ | refine And.intro trivial ?_ | intro _)
          refine nxt (0 + 1) (by decide) (by decide) (wk rfl ⟨rfl, rfl, rfl, congrArg AV.bool (by rw [hst, h5]; rfl), rfl, rfl, up1 (n := 4) (by decide) (by decide), trivial⟩ ⟨rfl, rfl, rfl, rfl, trivial⟩)
      · refine ⟨by decide, by decide, ?_⟩
        repeat (first | refine brT ?_ | refine brF ?_ | refine And.intro rfl ?_ | refine And.intro trivial ?_ | intro _)
        refine ⟨by decide, by rw [List.length_map, h4]; decide, ?_⟩
        repeat (first | refine brT ?_ | refine brF ?_ | refine And.intro rfl ?_ | refine And.intro trivial ?_ | intro _)
        refine ⟨T.str (wd W 3), wd_str (k := 3) (by omega), ?_⟩
        repeat (first | refine brT ?_ | refine brF ?_ | refine And.intro rfl ?_ | refine And.intro trivial ?_ | intro _)
        refine ⟨_, i_TextNum (wd W 3), ?_⟩
        repeat (first | refine brT ?_ | refine brF ?_ | refine And.intro rfl ?_ | refine And.intro trivial ?_ | intro _)
        refine brI (fun h5 => ?_) (fun h5 => ?_)
        · repeat (first | refine brT ?_ | refine brF ?_ | refine And.intro rfl ?_ | refine And.intro trivial ?_ | intro _)
          refine nxt (1 + 1) (by decide) (by decide) (wk rfl ⟨rfl, rfl, rfl, congrArg AV.bool (by rw [hst]; show (textNum (wd W 3)).2 = (okk W 1 && _); rw [h5]; rfl), rfl, rfl, up1 (n := 4) (by decide) (by decide), trivial⟩ ⟨rfl, rfl, rfl, rfl, trivial⟩)
        · repeat (first | refine brT ?_ | refine brF ?_ | refine And.intro rfl ?_ | refine And.intro trivial ?_ | intro _)
          refine nxt (1 + 1) (by decide) (by decide) (wk rfl ⟨rfl, rfl, rfl, congrArg AV.bool (by rw [hst, h5]; rfl), rfl, rfl, up1 (n := 4) (by decide) (by decide), trivial⟩ ⟨rfl, rfl, rfl, rfl, trivial⟩)
    · have : k = 2 := by omega
      subst this
      repeat (first | (first | refine brT ?_ | refine brF ?_ | refine And.intro rfl ?_ | refine And.intro trivial ?_ | intro _) | (refine brL ?kzz (fun _ => ?_); case kzz => (simp <;> omega)) | (refine brR ?kzz (fun _ => ?_); case kzz => (simp <;> omega)))
      refine brI (fun h5 => ?_) (fun h5 => ?_)
      · have h5 : okk W 2 = false := by simpa using h5
        rw [hno (fun h => by rw [okk_iff.2 ⟨h.2.2.1, fun j hj => h.2.2.2 j (by omega)⟩] at h5; cases h5)]
        repeat (first | refine brT ?_ | refine brF ?_ | refine And.intro rfl ?_ | refine And.intro trivial ?_ | intro _)
        exact rfl
      · have h5 : okk W 2 = true := by simpa using h5
        have hin : caseIn W := ⟨.inl hsd, (by rw [if_pos hsd]; exact h4), (okk_iff.1 h5).1, fun j hj => (okk_iff.1 h5).2 j (by omega)⟩
        obtain ⟨_, _, v1, v2⟩ := hval hin
        rw [hyes hin]
        have hc : caseOf W = (((wd W 0).toList == sendW.toList), (textChan (wd W 1)).1, fnum W 0, 0, fnum W 1) := by
          have v1 : readW (wd W 1) nilW = (textChan (wd W 1)).1 := v1
          have n0 : readW (wd W 2) e0 = fnum W 0 := v2 0 (by omega)
          have n1 : readW (wd W 3) e0 = fnum W 1 := v2 1 (by omega)
          unfold caseOf
          rw [if_pos hsd, if_pos hsd, hb, decide_eq_true hsd, v1, n0, n1]
        rw [hc]
        repeat (first | refine brT ?_ | refine brF ?_ | refine And.intro rfl ?_ | refine And.intro trivial ?_ | intro _)
        exact rfl
  · rw [decide_eq_false hsd] at hb
    have hb2 : ((wd W 0).toList == recvW.toList) = decide (wd W 0 = recvW) := beq_str _ _
    repeat (first | (first | refine brT ?_ | refine brF ?_ | refine And.intro rfl ?_ | refine And.intro trivial ?_ | intro _) | (refine brL (by show ¬ (((wd W 0).toList == sendW.toList) = true); rw [hb]; decide) (fun _ => ?_)) | (refine brR (by show ¬ ((!((wd W 0).toList == sendW.toList)) = false); rw [hb]; decide) (fun _ => ?_)))
    rename_i q2 q5 qp _ _
    refine ⟨by decide, by show 0 < (W.map T.str).length; simp; omega, ?_⟩
    repeat (first | refine brT ?_ | refine brF ?_ | refine And.intro rfl ?_ | refine And.intro trivial ?_ | intro _)
    refine ⟨T.str (wd W 0), wd_str hl1, ?_⟩
    by_cases hr : wd W 0 = recvW
    case neg =>
      rw [decide_eq_false hr] at hb2
      repeat (first | (first | refine brT ?_ | refine brF ?_ | refine And.intro rfl ?_ | refine And.intro trivial ?_ | intro _) | (refine brR (by show ¬ ((!((wd W 0).toList == recvW.toList)) = false); rw [hb2]; decide) (fun _ => ?_)))
      rw [hno (fun h => by rcases h.1 with e | e; exact hsd e; exact hr e)]
      exact rfl
    rw [decide_eq_true hr] at hb2
    repeat (first | (first | refine brT ?_ | refine brF ?_ | refine And.intro rfl ?_ | refine And.intro trivial ?_ | intro _) | (refine brL (by show ¬ ((!((wd W 0).toList == recvW.toList)) = true); rw [hb2]; decide) (fun _ => ?_)))
    refine brI (fun h1 => ?_) (fun h1 => ?_)
    · have h4 : ¬ W.length = 5 := by
        intro e
        replace h1 : (((W.map T.str).length : Int) != w64 (3 + 2)) = true := h1
        rw [List.length_map, e] at h1
        exact absurd h1 (by decide)
      rw [hno (fun h => h4 (by have := h.2.1; rw [if_neg hsd] at this; exact this))]
      repeat (first | refine brT ?_ | refine brF ?_ | refine And.intro rfl ?_ | refine And.intro trivial ?_ | intro _)
      exact rfl
    have h4 : W.length = 5 := by
      replace h1 : (((W.map T.str).length : Int) != w64 (3 + 2)) = false := h1
      rw [List.length_map] at h1
      have h1 : ((W.length : Int) == w64 (3 + 2)) = true := by simpa [bne] using h1
      have := eq_of_beq h1
      exact Int.ofNat.inj this
    repeat (first | refine brT ?_ | refine brF ?_ | refine And.intro rfl ?_ | refine And.intro trivial ?_ | intro _)
    refine ⟨by decide, by show 1 < (W.map T.str).length; simp; omega, ?_⟩
    repeat (first | refine brT ?_ | refine brF ?_ | refine And.intro rfl ?_ | refine And.intro trivial ?_ | intro _)
    refine ⟨T.str (wd W 1), wd_str (by omega), ?_⟩
    repeat (first | refine brT ?_ | refine brF ?_ | refine And.intro rfl ?_ | refine And.intro trivial ?_ | intro _)
    refine ⟨_, i_textChan (wd W 1), ?_⟩
    repeat (first | refine brT ?_ | refine brF ?_ | refine And.intro rfl ?_ | refine And.intro trivial ?_ | intro _)
    refine loopI (fun k : Nat => ⟨84, [(2, .c (.bx 3000 q2 0)), (4, .c (.own 15000 qW)), (5, .c (.bx 6000 q5 0)), (8, .bool (okk W k)), (56, .c (.bs 24000 qp 3)), (57, .int 3), (58, .int k)],
      [(3000, .box q2 [.v (.bool false), .v (.int .i64 0), .v (.int .i64 0), .v (.int .i64 0), .v (.int .i64 0)]), (15000, .row qW 0 1 (W.map T.str)), (6000, .box q5 [.v (.bool ((wd W 0).toList == sendW.toList)), .v (.int .i64 (textChan (wd W 1)).1), .v (.int .i64 (fk W k 0)), .v (.int .i64 (fk W k 1)), .v (.int .i64 (fk W k 2))]), (24000, .box qp [.bx 6000 q5 2, .bx 6000 q5 3, .bx 6000 q5 4])]⟩) (fun k => 3 - k) (fun k => k ≤ 3) 0 (Nat.zero_le _)
      (wk rfl ⟨rfl, rfl, rfl, congrArg AV.bool (by simp [okk]), rfl, rfl, rfl, trivial⟩ ⟨rfl, rfl, rfl, rfl, trivial⟩) ?_
    intro k hk
    repeat (first | refine brT ?_ | refine brF ?_ | refine And.intro rfl ?_ | refine And.intro trivial ?_ | intro _)
    by_cases hk2 : k < 3
    · repeat (first | (first | refine brT ?_ | refine brF ?_ | refine And.intro rfl ?_ | refine And.intro trivial ?_ | intro _) | (refine brL ?kzz (fun _ => ?_); case kzz => (simp <;> omega)) | (refine brR ?kzz (fun _ => ?_); case kzz => (simp <;> omega)))
      have hkc : k = 0 ∨ k = 1 ∨ k = 2 := by omega
      have hst := okk_step W k
      rcases hkc with rfl | rfl | rfl
      · refine ⟨by decide, by decide, ?_⟩
        repeat (first | refine brT ?_ | refine brF ?_ | refine And.intro rfl ?_ | refine And.intro trivial ?_ | intro _)
        refine ⟨by decide, by rw [List.length_map, h4]; decide, ?_⟩
        repeat (first | refine brT ?_ | refine brF ?_ | refine And.intro rfl ?_ | refine And.intro trivial ?_ | intro _)
        refine ⟨T.str (wd W 2), wd_str (k := 2) (by omega), ?_⟩
        repeat (first | refine brT ?_ | refine brF ?_ | refine And.intro rfl ?_ | refine And.intro trivial ?_ | intro _)
        refine ⟨_, i_TextNum (wd W 2), ?_⟩
        repeat (first | refine brT ?_ | refine brF ?_ | refine And.intro rfl ?_ | refine And.intro trivial ?_ | intro _)
        refine brI (fun h5 => ?_) (fun h5 => ?_)
        · repeat (first | refine brT ?_ | refine brF ?_ | refine And.intro rfl ?_ | refine And.intro trivial ?_ | intro _)
          refine nxt (0 + 1) (by decide) (by decide) (wk rfl ⟨rfl, rfl, rfl, congrArg AV.bool (by rw [hst]; show (textNum (wd W 2)).2 = (okk W 0 && _); rw [h5]; rfl), rfl, rfl, up1 (n := 4) (by decide) (by decide), trivial⟩ ⟨rfl, rfl, rfl, rfl, trivial⟩)
        · repeat (first | refine brT ?_ | refine brF ?_ | refine And.intro rfl ?_ | refine And.intro trivial ?_ | intro _)
          refine nxt (0 + 1) (by decide) (by decide) (wk rfl ⟨rfl, rfl, rfl, congrArg AV.bool (by rw [hst, h5]; rfl), rfl, rfl, up1 (n := 4) (by decide) (by decide), trivial⟩ ⟨rfl, rfl, rfl, rfl, trivial⟩)
      · refine ⟨by decide, by decide, ?_⟩
        repeat (first | refine brT ?_ | refine brF ?_ | refine And.intro rfl ?_ | refine And.intro trivial ?_ | intro _)
        refine ⟨by decide, by rw [List.length_map, h4]; decide, ?_⟩
        repeat (first | refine brT ?_ | refine brF ?_ | refine And.intro rfl ?_ | refine And.intro trivial ?_ | intro _)
        refine ⟨T.str (wd W 3), wd_str (k := 3) (by omega), ?_⟩
        repeat (first | refine brT ?_ | refine brF ?_ | refine And.intro rfl ?_ | refine And.intro trivial ?_ | intro _)
        refine ⟨_, i_TextNum (wd W 3), ?_⟩
        repeat (first | refine brT ?_ | refine brF ?_ | refine And.intro rfl ?_ | refine And.intro trivial ?_ | intro _)
        refine brI (fun h5 => ?_) (fun h5 => ?_)
        · repeat (first | refine brT ?_ | refine brF ?_ | refine And.intro rfl ?_ | refine And.intro trivial ?_ | intro _)
          refine nxt (1 + 1) (by decide) (by decide) (wk rfl ⟨rfl, rfl, rfl, congrArg AV.bool (by rw [hst]; show (textNum (wd W 3)).2 = (okk W 1 && _); rw [h5]; rfl), rfl, rfl, up1 (n := 4) (by decide) (by decide), trivial⟩ ⟨rfl, rfl, rfl, rfl, trivial⟩)
        · repeat (first | refine brT ?_ | refine brF ?_ | refine And.intro rfl ?_ | refine And.intro trivial ?_ | intro _)
          refine nxt (1 + 1) (by decide) (by decide) (wk rfl ⟨rfl, rfl, rfl, congrArg AV.bool (by rw [hst, h5]; rfl), rfl, rfl, up1 (n := 4) (by decide) (by decide), trivial⟩ ⟨rfl, rfl, rfl, rfl, trivial⟩)
      · refine ⟨by decide, by decide, ?_⟩
        repeat (first | refine brT ?_ | refine brF ?_ | refine And.intro rfl ?_ | refine And.intro trivial ?_ | intro _)
        refine ⟨by decide, by rw [List.length_map, h4]; decide, ?_⟩
        repeat (first | refine brT ?_ | refine brF ?_ | refine And.intro rfl ?_ | refine And.intro trivial ?_ | intro _)
        refine ⟨T.str (wd W 4), wd_str (k := 4) (by omega), ?_⟩
        repeat (first | refine brT ?_ | refine brF ?_ | refine And.intro rfl ?_ | refine And.intro trivial ?_ | intro _)
        refine ⟨_, i_TextNum (wd W 4), ?_⟩
        repeat (first | refine brT ?_ | refine brF ?_ | refine And.intro rfl ?_ | refine And.intro trivial ?_ | intro _)
        refine brI (fun h5 => ?_) (fun h5 => ?_)
        · repeat (first | refine brT ?_ | refine brF ?_ | refine And.intro rfl ?_ | refine And.intro trivial ?_ | intro _)
          refine nxt (2 + 1) (by decide) (by decide) (wk rfl ⟨rfl, rfl, rfl, congrArg AV.bool (by rw [hst]; show (textNum (wd W 4)).2 = (okk W 2 && _); rw [h5]; rfl), rfl, rfl, up1 (n := 4) (by decide) (by decide), trivial⟩ ⟨rfl, rfl, rfl, rfl, trivial⟩)
        · repeat (first | refine brT ?_ | refine brF ?_ | refine And.intro rfl ?_ | refine And.intro trivial ?_ | intro _)
          refine nxt (2 + 1) (by decide) (by decide) (wk rfl ⟨rfl, rfl, rfl, congrArg AV.bool (by rw [hst, h5]; rfl), rfl, rfl, up1 (n := 4) (by decide) (by decide), trivial⟩ ⟨rfl, rfl, rfl, rfl, trivial⟩)
    · have : k = 3 := by omega
      subst this
      repeat (first | (first | refine brT ?_ | refine brF ?_ | refine And.intro rfl ?_ | refine And.intro trivial ?_ | intro _) | (refine brL ?kzz (fun _ => ?_); case kzz => (simp <;> omega)) | (refine brR ?kzz (fun _ => ?_); case kzz => (simp <;> omega)))
      refine brI (fun h5 => ?_) (fun h5 => ?_)
      · have h5 : okk W 3 = false := by simpa using h5
        rw [hno (fun h => by rw [okk_iff.2 ⟨h.2.2.1, fun j hj => h.2.2.2 j (by omega)⟩] at h5; cases h5)]
        repeat (first | refine brT ?_ | refine brF ?_ | refine And.intro rfl ?_ | refine And.intro trivial ?_ | intro _)
        exact rfl
      · have h5 : okk W 3 = true := by simpa using h5
        have hin : caseIn W := ⟨.inr hr, (by rw [if_neg hsd]; exact h4), (okk_iff.1 h5).1, fun j hj => (okk_iff.1 h5).2 j (by omega)⟩
        obtain ⟨_, _, v1, v2⟩ := hval hin
        rw [hyes hin]
        have hc : caseOf W = (((wd W 0).toList == sendW.toList), (textChan (wd W 1)).1, fnum W 0, fnum W 1, fnum W 2) := by
          have v1 : readW (wd W 1) nilW = (textChan (wd W 1)).1 := v1
          have n0 : readW (wd W 2) e0 = fnum W 0 := v2 0 (by omega)
          have n1 : readW (wd W 3) e0 = fnum W 1 := v2 1 (by omega)
          have n2 : readW (wd W 4) e0 = fnum W 2 := v2 2 (by omega)
          unfold caseOf
          rw [if_neg hsd, if_neg hsd, hb, decide_eq_false hsd, v1, n0, n1, n2]
        rw [hc]
        repeat (first | refine brT ?_ | refine brF ?_ | refine And.intro rfl ?_ | refine And.intro trivial ?_ | intro _)
        exact rfl


end Go.Proofs.YtphikogfogejlaaDoor.E
