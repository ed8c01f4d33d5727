/- Contracts of functions of this seat's program. -/
import Derived.Test.YtjfojepkoknpjaaDoorETy
import Derived.Test.YtjfojepkoknpjaaDoorEIx
namespace Go.Proofs.YtjfojepkoknpjaaDoor.E
set_option linter.unusedVariables false
set_option linter.unusedSimpArgs false
set_option maxHeartbeats 1600000
def itemW4 (k o : Int) (V : ByteArray) (b : Bool) : List ByteArray := itemKW.getD (k - 1).toNat e0 :: ((if k < 8 then [numText o] else []) ++ ((if inS k then [V] else []) ++ (if k = 2 ∧ b = false then [zeroW] else [])))
theorem itemW4_is (x : Y_Item) : itemWords x = itemW4 x.1 x.2.1 (wordOf x.2.2.1 true elseW) x.2.2.2 := rfl
theorem isE_num (n : Int) : isE (numText n) = !isNb n := by
  rw [isE_iff]
  have h := (numText_size n).2
  unfold isNb
  by_cases hn : 0 ≤ n ∧ n ≤ 4294967295
  · rw [decide_eq_true hn, decide_eq_false (fun e => h.1 e hn)]; rfl
  · rw [decide_eq_false hn, decide_eq_true (h.2 hn)]; rfl
theorem isE_word (n : Int) : isE (wordOf n true elseW) = !(n == -1 || isNb n) := by
  unfold wordOf
  by_cases hn : n = -1
  · subst hn; rw [if_pos ⟨rfl, rfl⟩, isE_iff]; rfl
  · rw [if_neg (fun e => hn e.2), isE_num]
    have : (n == -1) = false := by simpa using hn
    rw [this, Bool.false_or]
theorem joined_item {x : Y_Item} (h0 : itemOk x = true) : joined (itemWords x) sp = itemText x := by
  have hk := item_kind h0
  obtain ⟨k, o, v, b⟩ := x
  simp only at hk
  unfold itemText itemGood joined
  have key : (itemWords (k, o, v, b)).any isE = !(isNb o && (v == -1 || isNb v)) := by
    have nb0 : isNb 0 = true := rfl
    have ew := isE_word v
    have en := isE_num o
    have ez : isE zeroW = false := by rw [isE_iff]; rfl
    unfold itemWords
    simp only [List.any_cons, List.any_append]
    rcases kind_in hk.1 hk.2 with rfl | rfl | rfl | rfl | rfl | rfl | rfl | rfl | rfl | rfl
    all_goals rw [show isE (itemKW.getD _ e0) = false by rw [isE_iff]; rfl]
    all_goals cases b
    all_goals simp [itemOk, inS] at h0 ⊢
    all_goals simp_all
  rw [h0, key]
  show (if (!(isNb o && (v == -1 || isNb v))) = true then e0 else _) = (if (true && isNb o && (v == -1 || isNb v)) = true then _ else e0)
  rw [Bool.true_and]
  cases isNb o && (v == -1 || isNb v) <;> rfl
theorem itemW4_size (k o : Int) (V : ByteArray) (b : Bool) (h1 : 1 ≤ k) (h2 : k ≤ 10) (hV : V.size ≤ 10) : (itemW4 k o V b).length ≤ 4 ∧ (joinB (itemW4 k o V b) sp).size ≤ 100 := by
  obtain ⟨W, hW, hWs, _, _, _, _⟩ := item_word h1 h2
  have hn := (numText_size o).1
  have zs : sp.size = 1 := rfl
  have zz : zeroW.size = 4 := rfl
  unfold itemW4
  rw [hW]
  generalize numText o = N at hn ⊢
  rcases kind_in h1 h2 with rfl | rfl | rfl | rfl | rfl | rfl | rfl | rfl | rfl | rfl
  all_goals cases b
  all_goals refine ⟨Nat.le_of_ble_eq_true rfl, ?_⟩
  all_goals first
    | (show (joinB [W] sp).size ≤ 100; rw [joinB_one]; omega)
    | (show (joinB [W, N] sp).size ≤ 100; rw [join2]; simp only [szA]; omega)
    | (show (joinB [W, V] sp).size ≤ 100; rw [join2]; simp only [szA]; omega)
    | (show (joinB [W, N, V] sp).size ≤ 100; rw [join3]; simp only [szA]; omega)
    | (show (joinB [W, N, V, zeroW] sp).size ≤ 100; rw [join4]; simp only [szA]; omega)
set_option maxHeartbeats 16000000 in
theorem i_ItemText (x : Y_Item) : Spec Tryd.prog 6 [.ro (t_Item x)] [T.str (itemText x)] := by
  have c0 := i_ItemOk x
  have c3 := i_NumText x.2.1
  have c4 := i_NumText x.2.2.1
  cases h0 : itemOk x with
  | false =>
    refine fn Tryd.func6 ?_
    unfold itemText itemGood
    rw [h0] at c0 ⊢
    repeat (first | refine brT ?_ | refine brF ?_ | refine And.intro rfl ?_ | refine And.intro trivial ?_ | intro _)
    refine ⟨_, c0, ?_⟩
    repeat (first | refine brT ?_ | refine brF ?_ | refine And.intro rfl ?_ | refine And.intro trivial ?_ | intro _)
    exact rfl
  | true =>
    have hk := item_kind h0
    rw [← joined_item h0, itemW4_is]
    rw [h0] at c0
    obtain ⟨k, o, v, b⟩ := x
    simp only at hk c3 c4 ⊢
    obtain ⟨W, hW, _, _, hat, hi0, hi1⟩ := item_word hk.1 hk.2
    refine fn Tryd.func6 ?_
    repeat (first | refine brT ?_ | refine brF ?_ | refine And.intro rfl ?_ | refine And.intro trivial ?_ | intro _)
    refine ⟨_, c0, ?_⟩
    repeat (first | refine brT ?_ | refine brF ?_ | refine And.intro rfl ?_ | refine And.intro trivial ?_ | intro _)
    rename_i q1 _
    refine drM0 (Pl.go 1 ((Pl.go 0 (Pl.go 2 (Pl.go 3 (Pl.go 4 (Pl.go 5 (Pl.go 6 (Pl.go 7 Pl.stop))))))).or (Pl.go 2 (Pl.go 3 (Pl.go 0 (Pl.go 4 (Pl.go 5 (Pl.go 6 (Pl.go 7 Pl.stop))))))))) (fun m => ∃ Q : Nat, m = ⟨57, [(1, .c (.bx 2000 q1 0)), (3, .c (.own 14000 Q))],
      [(2000, .box q1 [.v (.int .i64 k), .v (.int .i64 o), .v (.int .i64 v), .v (.bool b)]), (14000, .row Q 0 1 [T.str (itemKW.getD (k - 1).toNat e0)])]⟩) (by kernel_rfl) ?_ ?_
    · rw [hW]
      repeat' (first | (first | refine brT ?_ | refine brF ?_ | refine And.intro rfl ?_ | refine And.intro trivial ?_ | intro _) | refine ⟨_, s_Fields, ?_⟩ | refine ⟨hi0, hi1, ?_⟩ | refine ⟨_, hat, ?_⟩ | refine ⟨fun t ht => (by simp at ht; subst ht; rfl), fun q2 => ?_⟩ | refine And.intro ?_ ?_)
      all_goals exact ⟨_, ⟨_, rfl⟩, wk rfl ⟨rfl, rfl, trivial⟩ ⟨rfl, rfl, trivial⟩⟩
    rintro m ⟨Q, rfl⟩
    clear hat hi0 hi1
    by_cases hv : v = -1
    · have hwv : wordOf v true elseW = elseW := by unfold wordOf; rw [if_pos ⟨rfl, hv⟩]
      rw [hwv]
      obtain ⟨hl, hz⟩ := itemW4_size k o elseW b hk.1 hk.2 (by decide)
      have cj := i_joined (itemW4 k o elseW b) sp (Nat.le_trans hl (by decide)) (Nat.le_trans hz (by decide))
      rcases kind_in hk.1 hk.2 with rfl | rfl | rfl | rfl | rfl | rfl | rfl | rfl | rfl | rfl
      all_goals cases b
      all_goals repeat' (first | (first | refine brT ?_ | refine brF ?_ | refine And.intro rfl ?_ | refine And.intro trivial ?_ | intro _) | (refine brL ?kzz (fun _ => ?_); case kzz => (simp <;> omega)) | (refine brR ?kzz (fun _ => ?_); case kzz => (simp <;> omega)) | refine ⟨_, c3, ?_⟩ | refine ⟨_, cj, ?_⟩ | refine ⟨fun t ht => (by simp at ht; subst ht; rfl), fun q2 => ?_⟩ | refine ⟨Nat.le_of_ble_eq_true rfl, fun q3 => ?_⟩ | fail)
      all_goals exact rfl
    · have hwv : wordOf v true elseW = numText v := by unfold wordOf; rw [if_neg (fun e => hv e.2)]
      rw [hwv]
      obtain ⟨hl, hz⟩ := itemW4_size k o (numText v) b hk.1 hk.2 (numText_size v).1
      have cj := i_joined (itemW4 k o (numText v) b) sp (Nat.le_trans hl (by decide)) (Nat.le_trans hz (by decide))
      rcases kind_in hk.1 hk.2 with rfl | rfl | rfl | rfl | rfl | rfl | rfl | rfl | rfl | rfl
      all_goals cases b
      all_goals repeat' (first | (first | refine brT ?_ | refine brF ?_ | refine And.intro rfl ?_ | refine And.intro trivial ?_ | intro _) | (refine brL ?kzz (fun _ => ?_); case kzz => (simp <;> omega)) | (refine brR ?kzz (fun _ => ?_); case kzz => (simp <;> omega)) | refine ⟨_, c3, ?_⟩ | refine ⟨_, c4, ?_⟩ | refine ⟨_, cj, ?_⟩ | refine ⟨fun t ht => (by simp at ht; subst ht; rfl), fun q2 => ?_⟩ | refine ⟨Nat.le_of_ble_eq_true rfl, fun q3 => ?_⟩ | fail)
      all_goals exact rfl


end Go.Proofs.YtjfojepkoknpjaaDoor.E
