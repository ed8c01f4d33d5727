/- Contracts of functions of this seat's program. -/
import Derived.Test.YtjfojepkoknpjaaDoorETy
import Derived.Test.YtjfojepkoknpjaaDoorEFl
namespace Go.Proofs.YtjfojepkoknpjaaDoor.E
set_option linter.unusedVariables false
set_option linter.unusedSimpArgs false
set_option maxHeartbeats 1600000
/-! The text of an item. -/
theorem numText_size (n : Int) : (numText n).size ≤ 10 ∧ ((numText n).size = 0 ↔ ¬ (0 ≤ n ∧ n ≤ 4294967295)) := by
  unfold numText
  split
  · rename_i h
    have := ntF_size 9 n.toNat
    exact ⟨by omega, by omega, fun h2 => absurd h h2⟩
  · rename_i h
    exact ⟨Nat.zero_le _, fun _ => h, fun _ => rfl⟩
abbrev elseW : ByteArray := ⟨#[101, 108, 115, 101]⟩
abbrev zeroW : ByteArray := ⟨#[122, 101, 114, 111]⟩
abbrev e0 : ByteArray := ⟨#[]⟩
def inS (k : Int) : Bool := k == 1 || k == 2 || k == 4 || k == 7 || k == 8 || k == 10
def isNb (n : Int) : Bool := decide (0 ≤ n ∧ n ≤ 4294967295)
def itemWords (x : Y_Item) : List ByteArray := itemKW.getD (x.1 - 1).toNat e0 :: ((if x.1 < 8 then [numText x.2.1] else []) ++ ((if inS x.1 then [wordOf x.2.2.1 true elseW] else []) ++ (if x.1 = 2 ∧ x.2.2.2 = false then [zeroW] else [])))
def itemGood (x : Y_Item) : Bool := itemOk x && isNb x.2.1 && (x.2.2.1 == -1 || isNb x.2.2.1)
def itemText (x : Y_Item) : ByteArray := if itemGood x then joinB (itemWords x) sp else e0
theorem join2 (a b : ByteArray) : joinB [a, b] sp = a ++ sp ++ b := by
  have := joinB_snoc a [] b sp
  rw [List.nil_append, joinB_one] at this
  exact this
theorem join3 (a b c : ByteArray) : joinB [a, b, c] sp = a ++ sp ++ b ++ sp ++ c := by
  have := joinB_snoc a [b] c sp
  rw [join2] at this
  exact this
theorem join4 (a b c d : ByteArray) : joinB [a, b, c, d] sp = a ++ sp ++ b ++ sp ++ c ++ sp ++ d := by
  have := joinB_snoc a [b, c] d sp
  rw [join3] at this
  exact this
theorem kind_in {k : Int} (h1 : 1 ≤ k) (h2 : k ≤ 10) : k = 1 ∨ k = 2 ∨ k = 3 ∨ k = 4 ∨ k = 5 ∨ k = 6 ∨ k = 7 ∨ k = 8 ∨ k = 9 ∨ k = 10 := by omega
theorem item_kind {x : Y_Item} (h : itemOk x = true) : 1 ≤ x.1 ∧ x.1 ≤ 10 := by
  simp only [itemOk, Bool.and_eq_true, decide_eq_true_eq] at h
  exact ⟨h.1.1.1.1.1, h.1.1.1.1.2⟩
theorem app_zero (a : ByteArray) : a ++ (⟨#[32, 122, 101, 114, 111]⟩ : ByteArray) = a ++ sp ++ zeroW := by
  refine ba_ext ?_
  simp [ByteArray.data_append, Array.toList_append]
theorem szA (a b : ByteArray) : (a ++ b).size = a.size + b.size := ByteArray.size_append
theorem item_word {k : Int} (h1 : 1 ≤ k) (h2 : k ≤ 10) : ∃ W : ByteArray, itemKW.getD (k - 1).toNat e0 = W ∧ W.size ≤ 8 ∧ 0 < W.size ∧ (itemKW.map T.str)[(w64 (k - 1)).toNat]? = some (T.str W) ∧ 0 ≤ w64 (k - 1) ∧ (w64 (k - 1)).toNat < 10 := by
  rcases kind_in h1 h2 with rfl | rfl | rfl | rfl | rfl | rfl | rfl | rfl | rfl | rfl <;> exact ⟨_, rfl, by decide, by decide, rfl, by decide, by decide⟩
set_option maxHeartbeats 16000000 in
theorem s_ItemText (x : Y_Item) : Spec Tryd.prog 4 [.ro (t_Item x)] [T.str (itemText x)] := by
  have c0 := s_ItemOk x
  have c1 := s_l01Num x.2.1
  have c2 := s_l01Num x.2.2.1
  have c3 := s_NumText x.2.1
  have c4 := s_l05Num x.2.2.1 true elseW
  have z3 := (numText_size x.2.1).1
  have z4 : (wordOf x.2.2.1 true elseW).size ≤ 10 := by
    unfold wordOf
    split
    · decide
    · exact (numText_size x.2.2.1).1
  refine fn Tryd.func4 ?_
  unfold itemText itemGood
  cases h0 : itemOk x with
  | false =>
    rw [h0] at c0
    repeat (first | refine brT ?_ | refine brF ?_ | refine And.intro rfl ?_ | refine And.intro trivial ?_ | intro _)
    refine ⟨_, c0, ?_⟩
    repeat (first | refine brT ?_ | refine brF ?_ | refine And.intro rfl ?_ | refine And.intro trivial ?_ | intro _)
    exact rfl
  | true =>
    have hk := item_kind h0
    rw [h0] at c0
    obtain ⟨k, o, v, b⟩ := x
    simp only at hk c1 c2 c3 c4 z3 z4
    obtain ⟨W, hW, hWs, _, hat, hi0, hi1⟩ := item_word hk.1 hk.2
    generalize hn : numText o = N at *
    generalize hv4 : wordOf v true elseW = V at *
    have zs : sp.size = 1 := rfl
    have zz : (⟨#[32, 122, 101, 114, 111]⟩ : ByteArray).size = 5 := rfl
    have b1 : W.size + sp.size ≤ maxLen := by unfold maxLen; omega
    have b2 : (W ++ sp).size + N.size ≤ maxLen := by rw [szA]; unfold maxLen; omega
    have b3 : (W ++ sp ++ N).size + sp.size ≤ maxLen := by rw [szA, szA]; unfold maxLen; omega
    have b4 : (W ++ sp ++ N ++ sp).size + V.size ≤ maxLen := by rw [szA, szA, szA]; unfold maxLen; omega
    have b5 : (W ++ sp ++ N ++ sp ++ V).size + (⟨#[32, 122, 101, 114, 111]⟩ : ByteArray).size ≤ maxLen := by rw [szA, szA, szA, szA]; unfold maxLen; omega
    have b6 : (W ++ sp).size + V.size ≤ maxLen := by rw [szA]; unfold maxLen; omega
    repeat (first | refine brT ?_ | refine brF ?_ | refine And.intro rfl ?_ | refine And.intro trivial ?_ | intro _)
    refine ⟨_, c0, ?_⟩
    repeat (first | refine brT ?_ | refine brF ?_ | refine And.intro rfl ?_ | refine And.intro trivial ?_ | intro _)
    refine ⟨_, c1, ?_⟩
    cases h1 : isNb o with
    | false =>
      have h1' : decide (0 ≤ o ∧ o ≤ 4294967295) = false := h1
      rw [h1']
      repeat (first | refine brT ?_ | refine brF ?_ | refine And.intro rfl ?_ | refine And.intro trivial ?_ | intro _)
      exact rfl
    | true =>
      have h1' : decide (0 ≤ o ∧ o ≤ 4294967295) = true := h1
      rw [h1']
      repeat (first | refine brT ?_ | refine brF ?_ | refine And.intro rfl ?_ | refine And.intro trivial ?_ | intro _)
      by_cases hv : v = -1
      · have hg : (v == -1 || isNb v) = true := by simp [hv]
        rw [hg]
        rcases kind_in hk.1 hk.2 with rfl | rfl | rfl | rfl | rfl | rfl | rfl | rfl | rfl | rfl
        all_goals cases b
        all_goals repeat' (first | (first | refine brT ?_ | refine brF ?_ | refine And.intro rfl ?_ | refine And.intro trivial ?_ | intro _) | (refine brL ?kzz (fun _ => ?_); case kzz => (simp <;> omega)) | (refine brR ?kzz (fun _ => ?_); case kzz => (simp <;> omega)) | refine ⟨_, c3, ?_⟩ | refine ⟨_, c4, ?_⟩ | refine ⟨fun t ht => (by simp at ht; rcases ht with rfl | rfl | rfl | rfl | rfl | rfl | rfl | rfl | rfl | rfl <;> rfl), fun q2 => ?_⟩ | refine ⟨hi0, hi1, ?_⟩ | refine ⟨_, hat, ?_⟩ | refine ⟨b1, ?_⟩ | refine ⟨b2, ?_⟩ | refine ⟨b3, ?_⟩ | refine ⟨b4, ?_⟩ | refine ⟨b5, ?_⟩ | refine ⟨b6, ?_⟩ | fail)
        all_goals (subst hW hn hv4)
        all_goals first
          | exact congrArg (fun z => [T.str z]) (joinB_one _ _).symm
          | exact congrArg (fun z => [T.str z]) (join2 _ _).symm
          | exact congrArg (fun z => [T.str z]) (join3 _ _ _).symm
          | exact congrArg (fun z => [T.str z]) ((app_zero _).trans (join4 _ _ _ _).symm)
      · refine brR (by show ¬ ((v != -1) = false); simpa using hv) (fun _ => ?_)
        repeat (first | refine brT ?_ | refine brF ?_ | refine And.intro rfl ?_ | refine And.intro trivial ?_ | intro _)
        refine ⟨_, c2, ?_⟩
        cases h2 : isNb v with
        | false =>
          have h2' : decide (0 ≤ v ∧ v ≤ 4294967295) = false := h2
          have hg : (v == -1 || false) = false := by simpa using hv
          rw [h2', hg]
          repeat (first | refine brT ?_ | refine brF ?_ | refine And.intro rfl ?_ | refine And.intro trivial ?_ | intro _)
          exact rfl
        | true =>
          have h2' : decide (0 ≤ v ∧ v ≤ 4294967295) = true := h2
          have hg : (v == -1 || true) = true := by simp
          rw [h2', hg]
          repeat (first | refine brT ?_ | refine brF ?_ | refine And.intro rfl ?_ | refine And.intro trivial ?_ | intro _)
          rcases kind_in hk.1 hk.2 with rfl | rfl | rfl | rfl | rfl | rfl | rfl | rfl | rfl | rfl
          all_goals cases b
          all_goals repeat' (first | (first | refine brT ?_ | refine brF ?_ | refine And.intro rfl ?_ | refine And.intro trivial ?_ | intro _) | (refine brL ?kzz (fun _ => ?_); case kzz => (simp <;> omega)) | (refine brR ?kzz (fun _ => ?_); case kzz => (simp <;> omega)) | refine ⟨_, c3, ?_⟩ | refine ⟨_, c4, ?_⟩ | refine ⟨fun t ht => (by simp at ht; rcases ht with rfl | rfl | rfl | rfl | rfl | rfl | rfl | rfl | rfl | rfl <;> rfl), fun q2 => ?_⟩ | refine ⟨hi0, hi1, ?_⟩ | refine ⟨_, hat, ?_⟩ | refine ⟨b1, ?_⟩ | refine ⟨b2, ?_⟩ | refine ⟨b3, ?_⟩ | refine ⟨b4, ?_⟩ | refine ⟨b5, ?_⟩ | refine ⟨b6, ?_⟩ | fail)
          all_goals (subst hW hn hv4)
          all_goals first
            | exact congrArg (fun z => [T.str z]) (joinB_one _ _).symm
            | exact congrArg (fun z => [T.str z]) (join2 _ _).symm
            | exact congrArg (fun z => [T.str z]) (join3 _ _ _).symm
            | exact congrArg (fun z => [T.str z]) ((app_zero _).trans (join4 _ _ _ _).symm)


end Go.Proofs.YtjfojepkoknpjaaDoor.E
