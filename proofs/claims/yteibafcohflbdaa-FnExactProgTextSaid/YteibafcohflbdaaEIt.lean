/- Contracts of functions of this seat's program. -/
import Derived.Test.YteibafcohflbdaaETy
import Derived.Test.YteibafcohflbdaaEWd
namespace Go.Proofs.Yteibafcohflbdaa.E
set_option linter.unusedVariables false
set_option linter.unusedSimpArgs false
set_option maxHeartbeats 1600000
theorem args_at (i : Y_Instr) {j : Nat} (h : j < 3) : [T.int i.2.1, T.int i.2.2.1, T.int i.2.2.2][j]? = some (T.int (ag i j)) := by
  have : j = 0 ∨ j = 1 ∨ j = 2 := by omega
  rcases this with rfl | rfl | rfl <;> rfl
theorem i_InstrText (i : Y_Instr) : Spec Try.prog 8 [.ro (t_Instr i)] [T.str (instrText i)] := by
  refine fn Try.func8 ?_
  intro q1
  repeat (first | refine brT ?_ | refine brF ?_ | refine And.intro rfl ?_ | refine And.intro trivial ?_ | intro _)
  refine ⟨_, i_Fields i.1 _ rfl, ?_⟩
  repeat (first | refine brT ?_ | refine brF ?_ | refine And.intro rfl ?_ | refine And.intro trivial ?_ | intro _)
  by_cases hf : fieldsOf i.1 < 0
  · have e : instrText i = ⟨#[]⟩ := if_pos (.inl hf)
    rw [e]
    repeat (first | (first | refine brT ?_ | refine brF ?_ | refine And.intro rfl ?_ | refine And.intro trivial ?_ | intro _) | (refine brL ?a (fun _ => ?_); case a => (simp <;> omega)) | (refine brR ?a (fun _ => ?_); case a => (simp <;> omega)))
    exact rfl
  obtain ⟨o1, o2, k0, k3⟩ := op_in hf
  repeat (first | (first | refine brT ?_ | refine brF ?_ | refine And.intro rfl ?_ | refine And.intro trivial ?_ | intro _) | (refine brL ?a (fun _ => ?_); case a => (simp <;> omega)) | (refine brR ?a (fun _ => ?_); case a => (simp <;> omega)))
  refine ⟨_, i_OpWord i.1, ?_⟩
  repeat (first | refine brT ?_ | refine brF ?_ | refine And.intro rfl ?_ | refine And.intro trivial ?_ | intro _)
  refine ⟨fun t ht => (by simp at ht; subst ht; rfl), fun q2 => ?_⟩
  repeat (first | refine brT ?_ | refine brF ?_ | refine And.intro rfl ?_ | refine And.intro trivial ?_ | intro _)
  refine ⟨fun t ht => (by simp at ht; rcases ht with rfl | rfl | rfl <;> rfl), fun q3 => ?_⟩
  repeat (first | refine brT ?_ | refine brF ?_ | refine And.intro rfl ?_ | refine And.intro trivial ?_ | intro _)
  obtain ⟨k, hk⟩ : ∃ k : Nat, fieldsOf i.1 = k := ⟨(fieldsOf i.1).toNat, by omega⟩
  refine loopI (fun x : Nat × Nat => ⟨62, [(1, .c (.bx 2000 q1 0)), (3, .int (fieldsOf i.1)), (4, .c (.own 16000 x.2)), (22, .c (.own 23000 q3)), (23, .int 3), (24, .int x.1)], [(2000, .box q1 [.v (.int .i64 i.1), .v (.int .i64 i.2.1), .v (.int .i64 i.2.2.1), .v (.int .i64 i.2.2.2)]), (16000, .row x.2 0 1 ((words i (min x.1 k)).map T.str)), (23000, .row q3 0 1 [T.int i.2.1, T.int i.2.2.1, T.int i.2.2.2])]⟩) (fun x => 3 - x.1) (fun x => x.1 ≤ 3 ∧ ∀ j : Nat, j < x.1 → k ≤ j → ag i j = 0) (0, q2) ⟨Nat.zero_le _, fun j h => absurd h (by simp)⟩ (wk rfl ⟨rfl, rfl, rfl, rfl, rfl, rfl, trivial⟩ ⟨rfl, gr rfl (by rw [Nat.zero_min]; rfl), rfl, trivial⟩) ?_
  rintro ⟨j, q⟩ ⟨hj, hI⟩
  simp only at hj hI
  refine brD (fun h => ?_) (fun h => ?_)
  · have h : j < 3 := by have h : (j : Int) < 3 := h; omega
    refine ⟨rfl, nn j, by show ((j : Int)).toNat < 3; omega, ?_⟩
    repeat (first | refine brT ?_ | refine brF ?_ | refine And.intro rfl ?_ | refine And.intro trivial ?_ | intro _)
    refine ⟨T.int (ag i j), args_at i h, ?_⟩
    by_cases hjk : k ≤ j
    · have h1 : (j : Int) ≥ fieldsOf i.1 := by omega
      have em : min (j + 1) k = min j k := by omega
      by_cases ha : ag i j = 0
      · repeat (first | (first | refine brT ?_ | refine brF ?_ | refine And.intro rfl ?_ | refine And.intro trivial ?_ | intro _) | (refine brL ?a (fun _ => ?_); case a => (simp <;> omega)) | (refine brR ?a (fun _ => ?_); case a => (simp <;> omega)))
        refine nxt (j + 1, q) ⟨by simp only; omega, fun m h1 h2 => ?_⟩ (by show 3 - (j + 1) < 3 - j; omega) (wk rfl ⟨rfl, rfl, rfl, rfl, rfl, up1 h (by decide), trivial⟩ ⟨rfl, gr rfl (by rw [em]), rfl, trivial⟩)
        by_cases hm : m = j
        · rw [hm]; exact ha
        · exact hI m (by simp only at h1; omega) h2
      · have e : instrText i = ⟨#[]⟩ := if_pos (.inr (by
          cases hr : restOk i (fieldsOf i.1) with
          | false => rfl
          | true => exact absurd ((restOk_iff k0 k3).1 hr j h (by omega)) ha))
        rw [e]
        repeat (first | (first | refine brT ?_ | refine brF ?_ | refine And.intro rfl ?_ | refine And.intro trivial ?_ | intro _) | (refine brL ?a (fun _ => ?_); case a => (simp <;> omega)) | (refine brR ?a (fun _ => ?_); case a => (simp <;> omega)))
        exact rfl
    · have h1 : ¬ (j : Int) ≥ fieldsOf i.1 := by omega
      have em : min (j + 1) k = min j k + 1 := by omega
      have em2 : min j k = j := by omega
      have hin : (j + 1, q).1 ≤ 3 ∧ ∀ m : Nat, m < (j + 1, q).1 → k ≤ m → ag i m = 0 := ⟨by simp only; omega, fun m h1 h2 => by simp only at h1; omega⟩
      have hlen : ((words i (min j k)).map T.str).length + 1 ≤ bound := by simp [words]; unfold bound; omega
      by_cases hj0 : j = 0
      · subst hj0
        repeat (first | (first | refine brT ?_ | refine brF ?_ | refine And.intro rfl ?_ | refine And.intro trivial ?_ | intro _) | (refine brL ?a (fun _ => ?_); case a => (simp <;> omega)) | (refine brR ?a (fun _ => ?_); case a => (simp <;> omega)))
        refine ⟨_, i_hasCh i.1, ?_⟩
        repeat (first | refine brT ?_ | refine brF ?_ | refine And.intro rfl ?_ | refine And.intro trivial ?_ | intro _)
        refine brI (fun hc => ?_) (fun hc => ?_)
        · have hc : isCh i.1 = true := hc
          have ew : ws i 0 = wordOf (ag i 0) true nilW := by unfold ws cj; rw [hc]; rfl
          repeat (first | refine brT ?_ | refine brF ?_ | refine And.intro rfl ?_ | refine And.intro trivial ?_ | intro _)
          refine ⟨_, i_chanText (ag i 0), ?_⟩
          repeat (first | refine brT ?_ | refine brF ?_ | refine And.intro rfl ?_ | refine And.intro trivial ?_ | intro _)
          refine ⟨fun t ht => (by simp at ht; subst ht; rfl), fun q5 => ?_⟩
          repeat (first | refine brT ?_ | refine brF ?_ | refine And.intro rfl ?_ | refine And.intro trivial ?_ | intro _)
          refine ⟨hlen, fun q6 => ?_⟩
          repeat (first | refine brT ?_ | refine brF ?_ | refine And.intro rfl ?_ | refine And.intro trivial ?_ | intro _)
          exact nxt (0 + 1, q6) hin (by show 3 - (0 + 1) < 3 - 0; omega) (wk rfl ⟨rfl, rfl, rfl, rfl, rfl, up1 h (by decide), trivial⟩ ⟨rfl, gr rfl (by rw [em, em2, words_succ, List.map_append, ew]; rfl), rfl, trivial⟩)
        · have hc : isCh i.1 = false := hc
          have ew : ws i 0 = numText (ag i 0) := by unfold ws cj wordOf; rw [hc]; rfl
          repeat (first | refine brT ?_ | refine brF ?_ | refine And.intro rfl ?_ | refine And.intro trivial ?_ | intro _)
          refine ⟨_, i_NumText (ag i 0), ?_⟩
          repeat (first | refine brT ?_ | refine brF ?_ | refine And.intro rfl ?_ | refine And.intro trivial ?_ | intro _)
          refine ⟨fun t ht => (by simp at ht; subst ht; rfl), fun q5 => ?_⟩
          repeat (first | refine brT ?_ | refine brF ?_ | refine And.intro rfl ?_ | refine And.intro trivial ?_ | intro _)
          refine ⟨hlen, fun q6 => ?_⟩
          repeat (first | refine brT ?_ | refine brF ?_ | refine And.intro rfl ?_ | refine And.intro trivial ?_ | intro _)
          exact nxt (0 + 1, q6) hin (by show 3 - (0 + 1) < 3 - 0; omega) (wk rfl ⟨rfl, rfl, rfl, rfl, rfl, up1 h (by decide), trivial⟩ ⟨rfl, gr rfl (by rw [em, em2, words_succ, List.map_append, ew]; rfl), rfl, trivial⟩)
      · have hj1 : ¬ (j : Int) = 0 := by omega
        have ew : ws i j = numText (ag i j) := by
          have : cj i j = false := by unfold cj; rw [show (j == 0) = false by simpa using hj0]; rfl
          unfold ws wordOf; rw [this]; rfl
        repeat (first | (first | refine brT ?_ | refine brF ?_ | refine And.intro rfl ?_ | refine And.intro trivial ?_ | intro _) | (refine brL ?a (fun _ => ?_); case a => (simp <;> omega)) | (refine brR ?a (fun _ => ?_); case a => (simp <;> omega)))
        refine ⟨_, i_NumText (ag i j), ?_⟩
        repeat (first | refine brT ?_ | refine brF ?_ | refine And.intro rfl ?_ | refine And.intro trivial ?_ | intro _)
        refine ⟨fun t ht => (by simp at ht; subst ht; rfl), fun q5 => ?_⟩
        repeat (first | refine brT ?_ | refine brF ?_ | refine And.intro rfl ?_ | refine And.intro trivial ?_ | intro _)
        refine ⟨hlen, fun q6 => ?_⟩
        repeat (first | refine brT ?_ | refine brF ?_ | refine And.intro rfl ?_ | refine And.intro trivial ?_ | intro _)
        exact nxt (j + 1, q6) hin (by show 3 - (j + 1) < 3 - j; omega) (wk rfl ⟨rfl, rfl, rfl, rfl, rfl, up1 h (by decide), trivial⟩ ⟨rfl, gr rfl (by rw [em, em2, words_succ, List.map_append, ew]; rfl), rfl, trivial⟩)
  · have h : j = 3 := by have h : ¬ (j : Int) < 3 := h; omega
    subst h
    have em : min 3 k = k := by omega
    have hsz := joinW_size ⟨o1, o2⟩ k
    have e : instrText i = joined (words i (min 3 k)) sp := by
      have hr : restOk i (fieldsOf i.1) = true := (restOk_iff k0 k3).2 (fun m h1 h2 => hI m h1 (by omega))
      unfold instrText joined
      rw [if_neg (fun h => h.elim hf (fun h => by rw [hr] at h; cases h)), em, hk, Int.toNat_natCast]
      have hop : isE (opWord i.1) = false := by rw [isE_iff]; have := opWord_size ⟨o1, o2⟩; exact decide_eq_false (by omega)
      have ha : (words i k).any isE = !(List.range k).all (okj i) := by
        unfold words
        rw [List.any_cons, hop, Bool.false_or, List.any_map, List.not_all_eq_any_not]
        congr 1
        funext m
        exact (ws_size i m).2
      rw [ha]
      cases (List.range k).all (okj i) <;> rfl
    rw [e]
    repeat (first | refine brT ?_ | refine brF ?_ | refine And.intro rfl ?_ | refine And.intro trivial ?_ | intro _)
    have hwl : (words i (min 3 k)).length ≤ bound := by simp [words]; unfold bound; omega
    have hwz : (joinB (words i (min 3 k)) sp).size ≤ 140737488355328 := by rw [em]; omega
    refine ⟨_, i_joined (words i (min 3 k)) sp hwl hwz, ?_⟩
    repeat (first | refine brT ?_ | refine brF ?_ | refine And.intro rfl ?_ | refine And.intro trivial ?_ | intro _)
    exact rfl
theorem s_InstrText (i : Y_Instr) : Spec Try.prog 6 [.ro (t_Instr i)] [T.str (instrText i)] := by
  refine fn Try.func6 ?_
  intro q1
  repeat (first | refine brT ?_ | refine brF ?_ | refine And.intro rfl ?_ | refine And.intro trivial ?_ | intro _)
  refine ⟨_, s_Fields i.1 _ rfl, ?_⟩
  repeat (first | refine brT ?_ | refine brF ?_ | refine And.intro rfl ?_ | refine And.intro trivial ?_ | intro _)
  by_cases hf : fieldsOf i.1 < 0
  · have e : instrText i = ⟨#[]⟩ := if_pos (.inl hf)
    rw [e]
    repeat (first | (first | refine brT ?_ | refine brF ?_ | refine And.intro rfl ?_ | refine And.intro trivial ?_ | intro _) | (refine brL ?a (fun _ => ?_); case a => (simp <;> omega)) | (refine brR ?a (fun _ => ?_); case a => (simp <;> omega)))
    exact rfl
  obtain ⟨o1, o2, k0, k3⟩ := op_in hf
  repeat (first | (first | refine brT ?_ | refine brF ?_ | refine And.intro rfl ?_ | refine And.intro trivial ?_ | intro _) | (refine brL ?a (fun _ => ?_); case a => (simp <;> omega)) | (refine brR ?a (fun _ => ?_); case a => (simp <;> omega)))
  refine ⟨_, s_l04Rest i (fieldsOf i.1), ?_⟩
  repeat (first | refine brT ?_ | refine brF ?_ | refine And.intro rfl ?_ | refine And.intro trivial ?_ | intro _)
  refine brI (fun hr => ?_) (fun hr => ?_)
  · have e : instrText i = ⟨#[]⟩ := if_pos (.inr (by simpa using hr))
    rw [e]
    repeat (first | refine brT ?_ | refine brF ?_ | refine And.intro rfl ?_ | refine And.intro trivial ?_ | intro _)
    exact rfl
  have hr : restOk i (fieldsOf i.1) = true := by simpa using hr
  repeat (first | refine brT ?_ | refine brF ?_ | refine And.intro rfl ?_ | refine And.intro trivial ?_ | intro _)
  refine ⟨_, s_OpWord i.1, ?_⟩
  repeat (first | refine brT ?_ | refine brF ?_ | refine And.intro rfl ?_ | refine And.intro trivial ?_ | intro _)
  refine ⟨fun t ht => (by simp at ht; rcases ht with rfl | rfl | rfl <;> rfl), fun q3 => ?_⟩
  repeat (first | refine brT ?_ | refine brF ?_ | refine And.intro rfl ?_ | refine And.intro trivial ?_ | intro _)
  obtain ⟨k, hk⟩ : ∃ k : Nat, fieldsOf i.1 = k := ⟨(fieldsOf i.1).toNat, by omega⟩
  refine ⟨k0, Nat.zero_le _, by show (fieldsOf i.1).toNat ≤ 3; omega, fun q4 => ?_⟩
  repeat (first | refine brT ?_ | refine brF ?_ | refine And.intro rfl ?_ | refine And.intro trivial ?_ | intro _)
  have ek : (fieldsOf i.1).toNat = k := by omega
  have hln : (([T.int i.2.1, T.int i.2.2.1, T.int i.2.2.2].take (fieldsOf i.1).toNat).drop 0).length = k := by rw [ek, List.drop_zero, List.length_take]; show min k 3 = k; omega
  have e0 : joinB (words i 0) sp = opWord i.1 := joinB_one _ _
  refine loopI (fun j : Nat => ⟨58, [(1, .c (.bx 2000 q1 0)), (4, .vv (.string (joinB (words i j) sp))), (31, .c (.own 32000 q4)), (32, .int k), (33, .int j)], [(2000, .box q1 [.v (.int .i64 i.1), .v (.int .i64 i.2.1), .v (.int .i64 i.2.2.1), .v (.int .i64 i.2.2.2)]), (32000, .row q4 0 1 (([T.int i.2.1, T.int i.2.2.1, T.int i.2.2.2].take (fieldsOf i.1).toNat).drop 0))]⟩) (fun j => k - j) (fun j => j ≤ k ∧ ∀ m : Nat, m < j → okj i m = true) 0 ⟨Nat.zero_le _, fun m h => absurd h (by simp)⟩ (wk rfl ⟨rfl, (by rw [e0]; rfl), rfl, gi rfl (congrArg _ hln), rfl, trivial⟩ ⟨rfl, rfl, trivial⟩) ?_
  rintro j ⟨hj, hI⟩
  refine brD (fun h => ?_) (fun h => ?_)
  · have h : j < k := by have h : (j : Int) < k := h; omega
    have hat : (([T.int i.2.1, T.int i.2.2.1, T.int i.2.2.2].take (fieldsOf i.1).toNat).drop 0)[j]? = some (T.int (ag i j)) := by
      rw [List.drop_zero, ek, List.getElem?_take_of_lt h]; exact args_at i (by omega)
    repeat (first | refine brT ?_ | refine brF ?_ | refine And.intro rfl ?_ | refine And.intro trivial ?_ | intro _)
    refine ⟨nn j, by rw [hln]; show ((j : Int)).toNat < k; omega, ?_⟩
    repeat (first | refine brT ?_ | refine brF ?_ | refine And.intro rfl ?_ | refine And.intro trivial ?_ | intro _)
    refine ⟨T.int (ag i j), hat, ?_⟩
    have num : ∀ c, c = cj i j → Spec Try.prog 22 [.ro (T.int (ag i j)), .ro (T.bool c), .ro (T.str nilW)] [T.str (ws i j), T.bool (okj i j)] := fun c hc => by subst hc; exact s_l05Num (ag i j) (cj i j) nilW
    have hs1 := joinW_size ⟨o1, o2⟩ j
    have hs2 := ws_size i j
    by_cases hj0 : j = 0
    · have hj1 : (j : Int) = 0 := by omega
      repeat (first | (first | refine brT ?_ | refine brF ?_ | refine And.intro rfl ?_ | refine And.intro trivial ?_ | intro _) | (refine brL ?a (fun _ => ?_); case a => (simp <;> omega)) | (refine brR ?a (fun _ => ?_); case a => (simp <;> omega)))
      refine ⟨_, s_IsCh i.1, ?_⟩
      repeat (first | refine brT ?_ | refine brF ?_ | refine And.intro rfl ?_ | refine And.intro trivial ?_ | intro _)
      refine ⟨_, num _ ?ec, ?_⟩
      case ec => rw [hj0]; rfl
      repeat (first | refine brT ?_ | refine brF ?_ | refine And.intro rfl ?_ | refine And.intro trivial ?_ | intro _)
      refine brI (fun hb => ?_) (fun hb => ?_)
      · have hb : okj i j = false := by simpa using hb
        have e : instrText i = ⟨#[]⟩ := by
          unfold instrText
          rw [if_neg (fun h => h.elim hf (fun h => by rw [hr] at h; cases h)), ek, if_neg (fun ha => by
            have := List.all_eq_true.1 ha j (List.mem_range.2 h)
            rw [hb] at this; cases this)]
        rw [e]
        repeat (first | refine brT ?_ | refine brF ?_ | refine And.intro rfl ?_ | refine And.intro trivial ?_ | intro _)
        exact rfl
      · have hb : okj i j = true := by simpa using hb
        repeat (first | refine brT ?_ | refine brF ?_ | refine And.intro rfl ?_ | refine And.intro trivial ?_ | intro _)
        refine ⟨by show (joinB (words i j) sp).size + 1 ≤ _; omega, ?_⟩
        repeat (first | refine brT ?_ | refine brF ?_ | refine And.intro rfl ?_ | refine And.intro trivial ?_ | intro _)
        refine ⟨by show (joinB (words i j) sp ++ sp).size + (ws i j).size ≤ _; rw [size_app]; show _ + 1 + _ ≤ _; omega, ?_⟩
        repeat (first | refine brT ?_ | refine brF ?_ | refine And.intro rfl ?_ | refine And.intro trivial ?_ | intro _)
        refine nxt (j + 1) ⟨h, fun m hm => ?_⟩ (by show k - (j + 1) < k - j; omega) (wk rfl ⟨rfl, (by rw [joinW_succ]; rfl), rfl, rfl, up1 h (by omega), trivial⟩ ⟨rfl, rfl, trivial⟩)
        by_cases h3 : m = j
        · subst h3; exact hb
        · exact hI m (by omega)
    · have hj1 : ¬ (j : Int) = 0 := by omega
      repeat (first | refine brT ?_ | refine brF ?_ | refine And.intro rfl ?_ | refine And.intro trivial ?_ | intro _)
      refine brL (fun hh => hj1 (eq_of_beq hh)) (fun _ => ?_)
      repeat (first | refine brT ?_ | refine brF ?_ | refine And.intro rfl ?_ | refine And.intro trivial ?_ | intro _)
      refine ⟨_, num _ ?ec, ?_⟩
      case ec => unfold cj; rw [show (j == 0) = false by simpa using hj0]; rfl
      repeat (first | refine brT ?_ | refine brF ?_ | refine And.intro rfl ?_ | refine And.intro trivial ?_ | intro _)
      refine brI (fun hb => ?_) (fun hb => ?_)
      · have hb : okj i j = false := by simpa using hb
        have e : instrText i = ⟨#[]⟩ := by
          unfold instrText
          rw [if_neg (fun h => h.elim hf (fun h => by rw [hr] at h; cases h)), ek, if_neg (fun ha => by
            have := List.all_eq_true.1 ha j (List.mem_range.2 h)
            rw [hb] at this; cases this)]
        rw [e]
        repeat (first | refine brT ?_ | refine brF ?_ | refine And.intro rfl ?_ | refine And.intro trivial ?_ | intro _)
        exact rfl
      · have hb : okj i j = true := by simpa using hb
        repeat (first | refine brT ?_ | refine brF ?_ | refine And.intro rfl ?_ | refine And.intro trivial ?_ | intro _)
        refine ⟨by show (joinB (words i j) sp).size + 1 ≤ _; omega, ?_⟩
        repeat (first | refine brT ?_ | refine brF ?_ | refine And.intro rfl ?_ | refine And.intro trivial ?_ | intro _)
        refine ⟨by show (joinB (words i j) sp ++ sp).size + (ws i j).size ≤ _; rw [size_app]; show _ + 1 + _ ≤ _; omega, ?_⟩
        repeat (first | refine brT ?_ | refine brF ?_ | refine And.intro rfl ?_ | refine And.intro trivial ?_ | intro _)
        refine nxt (j + 1) ⟨h, fun m hm => ?_⟩ (by show k - (j + 1) < k - j; omega) (wk rfl ⟨rfl, (by rw [joinW_succ]; rfl), rfl, rfl, up1 h (by omega), trivial⟩ ⟨rfl, rfl, trivial⟩)
        by_cases h3 : m = j
        · subst h3; exact hb
        · exact hI m (by omega)
  · have h : j = k := by have h : ¬ (j : Int) < k := h; omega
    subst h
    have e : instrText i = joinB (words i j) sp := by
      unfold instrText
      rw [if_neg (fun h => h.elim hf (fun h => by rw [hr] at h; cases h)), ek, if_pos (List.all_eq_true.2 (fun m hm => hI m (List.mem_range.1 hm)))]
    rw [e]
    repeat (first | refine brT ?_ | refine brF ?_ | refine And.intro rfl ?_ | refine And.intro trivial ?_ | intro _)
    exact rfl


end Go.Proofs.Yteibafcohflbdaa.E
