/- Contracts of functions of this seat's program. -/
import Derived.Test.YtphikogfogejlaaDoorETy
import Derived.Test.YtphikogfogejlaaDoorEIt
namespace Go.Proofs.YtphikogfogejlaaDoor.E
set_option linter.unusedVariables false
set_option linter.unusedSimpArgs false
set_option maxHeartbeats 1600000
def isNb (n : Int) : Bool := decide (0 ≤ n ∧ n ≤ 4294967295)
abbrev colon : ByteArray := ⟨#[58]⟩
abbrev sendW : ByteArray := ⟨#[115, 101, 110, 100]⟩
abbrev recvW : ByteArray := ⟨#[114, 101, 99, 118]⟩
def caseFit (c : Y_Case) : Bool := okW c.2.1 true && isNb c.2.2.1 && isNb c.2.2.2.1 && isNb c.2.2.2.2 && !(c.1 && c.2.2.2.1 != 0)
def cw (c : Y_Case) : ByteArray := wordOf c.2.1 true nilW
def caseT (c : Y_Case) : ByteArray := if caseFit c = false then ⟨#[]⟩ else if c.1 = true then joinB [sendW, cw c, numText c.2.2.1, numText c.2.2.2.2] colon else joinB [recvW, cw c, numText c.2.2.1, numText c.2.2.2.1, numText c.2.2.2.2] colon
theorem wordOf_size (n : Int) (c : Bool) : (wordOf n c nilW).size ≤ 10 ∧ isE (wordOf n c nilW) = !okW n c := by
  have hn := numText_size n
  unfold wordOf okW
  rw [isE_iff]
  split
  · rename_i h
    refine ⟨by decide, ?_⟩
    rw [h.1, h.2]; rfl
  · rename_i h
    refine ⟨hn.1, ?_⟩
    have e : (c && n == -1) = false := by
      cases hc : c with
      | false => rfl
      | true => have : ¬ n = -1 := fun e => h ⟨hc, e⟩; simpa using this
    rw [e, Bool.false_or]
    by_cases hk : 0 ≤ n ∧ n ≤ 4294967295
    · rw [decide_eq_true hk, decide_eq_false (fun e => hn.2.1 e hk)]; rfl
    · rw [decide_eq_false hk, decide_eq_true (hn.2.2 hk)]; rfl
theorem isE_num (n : Int) : isE (numText n) = !isNb n := by
  rw [isE_iff]
  have hn := numText_size n
  unfold isNb
  by_cases hk : 0 ≤ n ∧ n ≤ 4294967295
  · rw [decide_eq_true hk, decide_eq_false (fun e => hn.2.1 e hk)]; rfl
  · rw [decide_eq_false hk, decide_eq_true (hn.2.2 hk)]; rfl
theorem join4 (a b c d s : ByteArray) : joinB [a, b, c, d] s = a ++ s ++ b ++ s ++ c ++ s ++ d := by
  rw [show [a, b, c, d] = a :: ([b, c] ++ [d]) from rfl, joinB_snoc, show a :: [b, c] = a :: ([b] ++ [c]) from rfl, joinB_snoc, show a :: [b] = a :: ([] ++ [b]) from rfl, joinB_snoc, joinB_one]
theorem join5 (a b c d e s : ByteArray) : joinB [a, b, c, d, e] s = a ++ s ++ b ++ s ++ c ++ s ++ d ++ s ++ e := by
  rw [show [a, b, c, d, e] = a :: ([b, c, d] ++ [e]) from rfl, joinB_snoc, join4]
theorem case_joined (c : Y_Case) : (c.1 = false → joined [recvW, cw c, numText c.2.2.1, numText c.2.2.2.1, numText c.2.2.2.2] colon = caseT c) ∧ (c.1 = true → c.2.2.2.1 = 0 → joined [sendW, cw c, numText c.2.2.1, numText c.2.2.2.2] colon = caseT c) := by
  have hw := (wordOf_size c.2.1 true).2
  have e1 : isE recvW = false := by rw [isE_iff]; rfl
  have e2 : isE sendW = false := by rw [isE_iff]; rfl
  refine ⟨fun h => ?_, fun h h0 => ?_⟩
  · unfold joined caseT caseFit cw
    simp only [List.any_cons, List.any_nil, e1, hw, isE_num, h, Bool.false_or, Bool.or_false, Bool.false_and, Bool.not_false, Bool.and_true]
    cases okW c.2.1 true <;> cases isNb c.2.2.1 <;> cases isNb c.2.2.2.1 <;> cases isNb c.2.2.2.2 <;> rfl
  · have e3 : isNb c.2.2.2.1 = true := by rw [h0]; rfl
    unfold joined caseT caseFit cw
    simp only [List.any_cons, List.any_nil, e2, hw, isE_num, h, e3, h0, Bool.false_or, Bool.or_false, Bool.true_and, Bool.and_true]
    cases okW c.2.1 true <;> cases isNb c.2.2.1 <;> cases isNb c.2.2.2.2 <;> rfl
theorem kr1 : (recvW ++ colon) = ⟨#[114, 101, 99, 118, 58]⟩ := by decide
theorem kr2 : (sendW ++ colon) = ⟨#[115, 101, 110, 100, 58]⟩ := by decide
theorem zc1 : (⟨#[58]⟩ : ByteArray).size = 1 := rfl
theorem zc2 : (⟨#[114, 101, 99, 118, 58]⟩ : ByteArray).size = 5 := rfl
theorem zc3 : (⟨#[115, 101, 110, 100, 58]⟩ : ByteArray).size = 5 := rfl
theorem s_l05Case (c : Y_Case) : Spec Tryd.prog 74 [.ro (t_Case c)] [T.str (caseT c)] := by
  obtain ⟨b, x1, x2, x3, x4⟩ := c
  have s1 := (wordOf_size x1 true).1
  have s2 := (numText_size x2).1
  have s3 := (numText_size x3).1
  have s4 := (numText_size x4).1
  have nil : caseFit (b, x1, x2, x3, x4) = false → caseT (b, x1, x2, x3, x4) = ⟨#[]⟩ := fun h => if_pos h
  have n2 := s_l01Num x2
  have n3 := s_l01Num x3
  have n4 := s_l01Num x4
  rw [show decide (0 ≤ x2 ∧ x2 ≤ 4294967295) = isNb x2 from rfl] at n2
  rw [show decide (0 ≤ x3 ∧ x3 ≤ 4294967295) = isNb x3 from rfl] at n3
  rw [show decide (0 ≤ x4 ∧ x4 ≤ 4294967295) = isNb x4 from rfl] at n4
  refine fn Tryd.func74 ?_
  intro q1
  repeat (first | refine brT ?_ | refine brF ?_ | refine And.intro rfl ?_ | refine And.intro trivial ?_ | intro _)
  refine ⟨_, s_l05Num x1 true nilW, ?_⟩
  repeat (first | refine brT ?_ | refine brF ?_ | refine And.intro rfl ?_ | refine And.intro trivial ?_ | intro _)
  cases h1 : okW x1 true
  · rw [nil (by unfold caseFit; rw [h1]; rfl)]
    repeat (first | (first | refine brT ?_ | refine brF ?_ | refine And.intro rfl ?_ | refine And.intro trivial ?_ | intro _) | refine ⟨_, n2, ?_⟩ | refine ⟨_, n3, ?_⟩ | refine ⟨_, n4, ?_⟩ | (refine brL ?kzz (fun _ => ?_); case kzz => simp [*]) | (refine brR ?kzz (fun _ => ?_); case kzz => simp [*]))
    exact rfl
  cases h2 : isNb x2
  · rw [nil (by unfold caseFit; rw [h1, h2]; rfl)]
    repeat (first | (first | refine brT ?_ | refine brF ?_ | refine And.intro rfl ?_ | refine And.intro trivial ?_ | intro _) | refine ⟨_, n2, ?_⟩ | refine ⟨_, n3, ?_⟩ | refine ⟨_, n4, ?_⟩ | (refine brL ?kzz (fun _ => ?_); case kzz => simp [*]) | (refine brR ?kzz (fun _ => ?_); case kzz => simp [*]))
    exact rfl
  cases h3 : isNb x3
  · rw [nil (by unfold caseFit; rw [h1, h2, h3]; rfl)]
    repeat (first | (first | refine brT ?_ | refine brF ?_ | refine And.intro rfl ?_ | refine And.intro trivial ?_ | intro _) | refine ⟨_, n2, ?_⟩ | refine ⟨_, n3, ?_⟩ | refine ⟨_, n4, ?_⟩ | (refine brL ?kzz (fun _ => ?_); case kzz => simp [*]) | (refine brR ?kzz (fun _ => ?_); case kzz => simp [*]))
    exact rfl
  cases h4 : isNb x4
  · rw [nil (by unfold caseFit; rw [h1, h2, h3, h4]; rfl)]
    repeat (first | (first | refine brT ?_ | refine brF ?_ | refine And.intro rfl ?_ | refine And.intro trivial ?_ | intro _) | refine ⟨_, n2, ?_⟩ | refine ⟨_, n3, ?_⟩ | refine ⟨_, n4, ?_⟩ | (refine brL ?kzz (fun _ => ?_); case kzz => simp [*]) | (refine brR ?kzz (fun _ => ?_); case kzz => simp [*]))
    exact rfl
  cases b
  · have e : caseT (false, x1, x2, x3, x4) = recvW ++ colon ++ cw (false, x1, x2, x3, x4) ++ colon ++ numText x2 ++ colon ++ numText x3 ++ colon ++ numText x4 := by
      unfold caseT
      rw [if_neg (by unfold caseFit; rw [h1, h2, h3, h4]; simp), if_neg (by simp), join5]
    rw [e]
    repeat (first | (first | refine brT ?_ | refine brF ?_ | refine And.intro rfl ?_ | refine And.intro trivial ?_ | intro _) | refine ⟨_, n2, ?_⟩ | refine ⟨_, n3, ?_⟩ | refine ⟨_, n4, ?_⟩ | (refine brL ?kzz (fun _ => ?_); case kzz => simp [*]) | (refine brR ?kzz (fun _ => ?_); case kzz => simp [*]))
    repeat (first | refine brT ?_ | refine brF ?_ | refine And.intro rfl ?_ | refine And.intro trivial ?_ | intro _)
    refine dr (Pl.go 0 (Pl.go 1 (Pl.go 2 (Pl.go 3 (Pl.go 4 (Pl.go 8 (Pl.go 9 (Pl.go 13 (Pl.go 14 (Pl.go 5 (Pl.go 6 (Pl.go 7 (Pl.go 10 (Pl.go 11 (Pl.go 12 (Pl.go 15 (Pl.go 16 (Pl.go 17 Pl.stop)))))))))))))))))) (by kernel_rfl) ?_
    repeat' (first | (first | refine brT ?_ | refine brF ?_ | refine And.intro rfl ?_ | refine And.intro trivial ?_ | intro _) | refine ⟨_, s_NumText _, ?_⟩ | refine And.intro ?_ ?_)
    all_goals first
      | (show ByteArray.size _ + ByteArray.size _ ≤ _; simp only [size_app, zc1, zc2, zc3]; omega)
      | exact congrArg (fun z => [T.str (z ++ cw (false, x1, x2, x3, x4) ++ colon ++ numText x2 ++ colon ++ numText x3 ++ colon ++ numText x4)]) kr1.symm
  · by_cases h6 : x3 = 0
    · subst h6
      have e : caseT (true, x1, x2, 0, x4) = sendW ++ colon ++ cw (true, x1, x2, 0, x4) ++ colon ++ numText x2 ++ colon ++ numText x4 := by
        unfold caseT
        rw [if_neg (by unfold caseFit; rw [h1, h2, h3, h4]; simp), if_pos rfl, join4]
      rw [e]
      repeat (first | (first | refine brT ?_ | refine brF ?_ | refine And.intro rfl ?_ | refine And.intro trivial ?_ | intro _) | refine ⟨_, n2, ?_⟩ | refine ⟨_, n3, ?_⟩ | refine ⟨_, n4, ?_⟩ | (refine brL ?kzz (fun _ => ?_); case kzz => simp [*]) | (refine brR ?kzz (fun _ => ?_); case kzz => simp [*]))
      repeat (first | refine brT ?_ | refine brF ?_ | refine And.intro rfl ?_ | refine And.intro trivial ?_ | intro _)
      refine dr (Pl.go 0 (Pl.go 1 (Pl.go 2 (Pl.go 3 (Pl.go 4 (Pl.go 8 (Pl.go 9 (Pl.go 5 (Pl.go 6 (Pl.go 7 (Pl.go 10 (Pl.go 11 (Pl.go 12 Pl.stop))))))))))))) (by kernel_rfl) ?_
      repeat' (first | (first | refine brT ?_ | refine brF ?_ | refine And.intro rfl ?_ | refine And.intro trivial ?_ | intro _) | refine ⟨_, s_NumText _, ?_⟩ | refine And.intro ?_ ?_)
      all_goals first
        | (show ByteArray.size _ + ByteArray.size _ ≤ _; simp only [size_app, zc1, zc2, zc3]; omega)
        | exact congrArg (fun z => [T.str (z ++ cw (true, x1, x2, 0, x4) ++ colon ++ numText x2 ++ colon ++ numText x4)]) kr2.symm
    · rw [nil (by unfold caseFit; rw [h1, h2, h3, h4, show (x3 != 0) = true by simpa using h6]; rfl)]
      repeat (first | (first | refine brT ?_ | refine brF ?_ | refine And.intro rfl ?_ | refine And.intro trivial ?_ | intro _) | refine ⟨_, n2, ?_⟩ | refine ⟨_, n3, ?_⟩ | refine ⟨_, n4, ?_⟩ | (refine brL ?kzz (fun _ => ?_); case kzz => simp [*]) | (refine brR ?kzz (fun _ => ?_); case kzz => simp [*]))
      exact rfl


end Go.Proofs.YtphikogfogejlaaDoor.E
