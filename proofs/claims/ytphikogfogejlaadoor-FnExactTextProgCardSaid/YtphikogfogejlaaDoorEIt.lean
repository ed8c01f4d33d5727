/- Contracts of functions of this seat's program. -/
import Derived.Test.YtphikogfogejlaaDoorETy
import Derived.Test.YtphikogfogejlaaDoorEWd
namespace Go.Proofs.YtphikogfogejlaaDoor.E
set_option linter.unusedVariables false
set_option linter.unusedSimpArgs false
set_option maxHeartbeats 1600000
theorem args_at (i : Y_Instr) {j : Nat} (h : j < 3) : [T.int i.2.1, T.int i.2.2.1, T.int i.2.2.2][j]? = some (T.int (ag i j)) := by
  have : j = 0 ∨ j = 1 ∨ j = 2 := by omega
  rcases this with rfl | rfl | rfl <;> rfl
theorem s_InstrText (i : Y_Instr) : Spec Tryd.prog 34 [.ro (t_Instr i)] [T.str (instrText i)] := by
  refine fn Tryd.func34 ?_
  intro q1
  repeat (first | refine brT ?_ | refine brF ?_ | refine And.intro rfl ?_ | refine And.intro trivial ?_ | intro _)
  refine ⟨_, s_Fields i.1 _ rfl, ?_⟩
  repeat (first | refine brT ?_ | refine brF ?_ | refine And.intro rfl ?_ | refine And.intro trivial ?_ | intro _)
  by_cases hf : fieldsOf i.1 < 0
  · have e : instrText i = ⟨#[]⟩ := if_pos (.inl hf)
    rw [e]
    repeat (first | (first | refine brT ?_ | refine brF ?_ | refine And.intro rfl ?_ | refine And.intro trivial ?_ | intro _) | (refine brL ?kzz (fun _ => ?_); case kzz => (simp <;> omega)) | (refine brR ?kzz (fun _ => ?_); case kzz => (simp <;> omega)))
    exact rfl
  obtain ⟨o1, o2, k0, k3⟩ := op_in hf
  repeat (first | (first | refine brT ?_ | refine brF ?_ | refine And.intro rfl ?_ | refine And.intro trivial ?_ | intro _) | (refine brL ?kzz (fun _ => ?_); case kzz => (simp <;> omega)) | (refine brR ?kzz (fun _ => ?_); case kzz => (simp <;> omega)))
  refine ⟨_, s_l04Rest i (fieldsOf i.1), ?_⟩
  repeat (first | refine brT ?_ | refine brF ?_ | refine And.intro rfl ?_ | refine And.intro trivial ?_ | intro _)
  refine brI (fun hr => ?_) (fun hr => ?_)
  · have e : instrText i = ⟨#[]⟩ := if_pos (.inr (by simpa using hr))
    rw [e]
    repeat (first | refine brT ?_ | refine brF ?_ | refine And.intro rfl ?_ | refine And.intro trivial ?_ | intro _)
    exact rfl
  have hr : restOk i (fieldsOf i.1) = true := by simpa using hr
  repeat (first | refine brT ?_ | refine brF ?_ | refine And.intro rfl ?_ | refine And.intro trivial ?_ | intro _)
  refine ⟨_, s_OpWord i.1, ?_⟩
  repeat (first | refine brT ?_ | refine brF ?_ | refine And.intro rfl ?_ | refine And.intro trivial ?_ | intro _)
  refine ⟨fun t ht => (by simp at ht; rcases ht with rfl | rfl | rfl <;> rfl), fun q3 => ?_⟩
  repeat (first | refine brT ?_ | refine brF ?_ | refine And.intro rfl ?_ | refine And.intro trivial ?_ | intro _)
  obtain ⟨k, hk⟩ : ∃ k : Nat, fieldsOf i.1 = k := ⟨(fieldsOf i.1).toNat, by omega⟩
  refine ⟨k0, Nat.zero_le _, by show (fieldsOf i.1).toNat ≤ 3; omega, fun q4 => ?_⟩
  repeat (first | refine brT ?_ | refine brF ?_ | refine And.intro rfl ?_ | refine And.intro trivial ?_ | intro _)
  have ek : (fieldsOf i.1).toNat = k := by omega
  have hln : (([T.int i.2.1, T.int i.2.2.1, T.int i.2.2.2].take (fieldsOf i.1).toNat).drop 0).length = k := by rw [ek, List.drop_zero, List.length_take]; show min k 3 = k; omega
  have e0 : joinB (words i 0) sp = opWord i.1 := joinB_one _ _
  refine loopI (fun j : Nat => ⟨58, [(1, .c (.bx 2000 q1 0)), (4, .vv (.string (joinB (words i j) sp))), (31, .c (.own 32000 q4)), (32, .int k), (33, .int j)], [(2000, .box q1 [.v (.int .i64 i.1), .v (.int .i64 i.2.1), .v (.int .i64 i.2.2.1), .v (.int .i64 i.2.2.2)]), (32000, .row q4 0 1 (([T.int i.2.1, T.int i.2.2.1, T.int i.2.2.2].take (fieldsOf i.1).toNat).drop 0))]⟩) (fun j => k - j) (fun j => j ≤ k ∧ ∀ m : Nat, m < j → okj i m = true) 0 ⟨Nat.zero_le _, fun m h => absurd h (by simp)⟩ (wk rfl ⟨rfl, (by rw [e0]; rfl), rfl, gi rfl (congrArg _ hln), rfl, trivial⟩ ⟨rfl, rfl, trivial⟩) ?_
  rintro j ⟨hj, hI⟩
  refine brD (fun h => ?_) (fun h => ?_)
  · have h : j < k := by have h : (j : Int) < k := h; omega
    have hat : (([T.int i.2.1, T.int i.2.2.1, T.int i.2.2.2].take (fieldsOf i.1).toNat).drop 0)[j]? = some (T.int (ag i j)) := by
      rw [List.drop_zero, ek, List.getElem?_take_of_lt h]; exact args_at i (by omega)
    repeat (first | refine brT ?_ | refine brF ?_ | refine And.intro rfl ?_ | refine And.intro trivial ?_ | intro _)
    refine ⟨nn j, by rw [hln]; show ((j : Int)).toNat < k; omega, ?_⟩
    repeat (first | refine brT ?_ | refine brF ?_ | refine And.intro rfl ?_ | refine And.intro trivial ?_ | intro _)
    refine ⟨T.int (ag i j), hat, ?_⟩
    have num : ∀ c, c = cj i j → Spec Tryd.prog 62 [.ro (T.int (ag i j)), .ro (T.bool c), .ro (T.str nilW)] [T.str (ws i j), T.bool (okj i j)] := fun c hc => by subst hc; exact s_l05Num (ag i j) (cj i j) nilW
    have hs1 := joinW_size ⟨o1, o2⟩ j
    have hs2 := ws_size i j
    by_cases hj0 : j = 0
    · have hj1 : (j : Int) = 0 := by omega
      repeat (first | (first | refine brT ?_ | refine brF ?_ | refine And.intro rfl ?_ | refine And.intro trivial ?_ | intro _) | (refine brL ?kzz (fun _ => ?_); case kzz => (simp <;> omega)) | (refine brR ?kzz (fun _ => ?_); case kzz => (simp <;> omega)))
      refine ⟨_, s_IsCh i.1, ?_⟩
      repeat (first | refine brT ?_ | refine brF ?_ | refine And.intro rfl ?_ | refine And.intro trivial ?_ | intro _)
      refine ⟨_, num _ ?ec, ?_⟩
      case ec => rw [hj0]; rfl
      repeat (first | refine brT ?_ | refine brF ?_ | refine And.intro rfl ?_ | refine And.intro trivial ?_ | intro _)
      refine brI (fun hb => ?_) (fun hb => ?_)
      · have hb : okj i j = false := by simpa using hb
        have e : instrText i = ⟨#[]⟩ := by
          unfold instrText
          rw [if_neg (fun h => h.elim hf (fun h => by rw [hr] at h; cases h)), ek, if_neg (fun ha => by
            have := List.all_eq_true.1 ha j (List.mem_range.2 h)
            rw [hb] at this; cases this)]
        rw [e]
        repeat (first | refine brT ?_ | refine brF ?_ | refine And.intro rfl ?_ | refine And.intro trivial ?_ | intro _)
        exact rfl
      · have hb : okj i j = true := by simpa using hb
        repeat (first | refine brT ?_ | refine brF ?_ | refine And.intro rfl ?_ | refine And.intro trivial ?_ | intro _)
        refine ⟨by show (joinB (words i j) sp).size + 1 ≤ _; omega, ?_⟩
        repeat (first | refine brT ?_ | refine brF ?_ | refine And.intro rfl ?_ | refine And.intro trivial ?_ | intro _)
        refine ⟨by show (joinB (words i j) sp ++ sp).size + (ws i j).size ≤ _; rw [size_app]; show _ + 1 + _ ≤ _; omega, ?_⟩
        repeat (first | refine brT ?_ | refine brF ?_ | refine And.intro rfl ?_ | refine And.intro trivial ?_ | intro _)
        refine nxt (j + 1) ⟨h, fun m hm => ?_⟩ (by show k - (j + 1) < k - j; omega) (wk rfl ⟨rfl, (by rw [joinW_succ]; rfl), rfl, rfl, up1 h (by omega), trivial⟩ ⟨rfl, rfl, trivial⟩)
        by_cases h3 : m = j
        · subst h3; exact hb
        · exact hI m (by omega)
    · have hj1 : ¬ (j : Int) = 0 := by omega
      repeat (first | refine brT ?_ | refine brF ?_ | refine And.intro rfl ?_ | refine And.intro trivial ?_ | intro _)
      refine brL (fun hh => hj1 (eq_of_beq hh)) (fun _ => ?_)
      repeat (first | refine brT ?_ | refine brF ?_ | refine And.intro rfl ?_ | refine And.intro trivial ?_ | intro _)
      refine ⟨_, num _ ?ec, ?_⟩
      case ec => unfold cj; rw [show (j == 0) = false by simpa using hj0]; rfl
      repeat (first | refine brT ?_ | refine brF ?_ | refine And.intro rfl ?_ | refine And.intro trivial ?_ | intro _)
      refine brI (fun hb => ?_) (fun hb => ?_)
      · have hb : okj i j = false := by simpa using hb
        have e : instrText i = ⟨#[]⟩ := by
          unfold instrText
          rw [if_neg (fun h => h.elim hf (fun h => by rw [hr] at h; cases h)), ek, if_neg (fun ha => by
            have := List.all_eq_true.1 ha j (List.mem_range.2 h)
            rw [hb] at this; cases this)]
        rw [e]
        repeat (first | refine brT ?_ | refine brF ?_ | refine And.intro rfl ?_ | refine And.intro trivial ?_ | intro _)
        exact rfl
      · have hb : okj i j = true := by simpa using hb
        repeat (first | refine brT ?_ | refine brF ?_ | refine And.intro rfl ?_ | refine And.intro trivial ?_ | intro _)
        refine ⟨by show (joinB (words i j) sp).size + 1 ≤ _; omega, ?_⟩
        repeat (first | refine brT ?_ | refine brF ?_ | refine And.intro rfl ?_ | refine And.intro trivial ?_ | intro _)
        refine ⟨by show (joinB (words i j) sp ++ sp).size + (ws i j).size ≤ _; rw [size_app]; show _ + 1 + _ ≤ _; omega, ?_⟩
        repeat (first | refine brT ?_ | refine brF ?_ | refine And.intro rfl ?_ | refine And.intro trivial ?_ | intro _)
        refine nxt (j + 1) ⟨h, fun m hm => ?_⟩ (by show k - (j + 1) < k - j; omega) (wk rfl ⟨rfl, (by rw [joinW_succ]; rfl), rfl, rfl, up1 h (by omega), trivial⟩ ⟨rfl, rfl, trivial⟩)
        by_cases h3 : m = j
        · subst h3; exact hb
        · exact hI m (by omega)
  · have h : j = k := by have h : ¬ (j : Int) < k := h; omega
    subst h
    have e : instrText i = joinB (words i j) sp := by
      unfold instrText
      rw [if_neg (fun h => h.elim hf (fun h => by rw [hr] at h; cases h)), ek, if_pos (List.all_eq_true.2 (fun m hm => hI m (List.mem_range.1 hm)))]
    rw [e]
    repeat (first | refine brT ?_ | refine brF ?_ | refine And.intro rfl ?_ | refine And.intro trivial ?_ | intro _)
    exact rfl


end Go.Proofs.YtphikogfogejlaaDoor.E
