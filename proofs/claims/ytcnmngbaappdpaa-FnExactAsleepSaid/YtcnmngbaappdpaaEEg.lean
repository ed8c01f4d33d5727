/- Contracts of functions of this seat's program. -/
import Derived.Test.YtcnmngbaappdpaaETy
import Derived.Test.YtcnmngbaappdpaaEGm
namespace Go.Proofs.Ytcnmngbaappdpaa.E
set_option linter.unusedVariables false
/-! Waiter -/
abbrev Y_Waiter := Int × Int × Int
def t_Waiter (x : Y_Waiter) : T := .agg [T.int (x.1), T.int (x.2.1), T.int (x.2.2)]
def raw_Waiter (x : Y_Waiter) : Prop := (Lit.int .i64 (x.1)).wf = true ∧ (Lit.int .i64 (x.2.1)).wf = true ∧ (Lit.int .i64 (x.2.2)).wf = true
def ok_Waiter (x : Y_Waiter) : Prop := True
theorem s_toWaiter (x : Y_Waiter) (h : ok_Waiter x) : Spec Try.prog 101 [.ro (t_Waiter x)] [t_Waiter x] := by
  refine fn Try.func101 ?_
  repeat (first | refine ⟨rfl, ?_⟩ | refine brT ?_ | refine brF ?_ | intro _)
  rfl
theorem s_eqWaiter (x y : Y_Waiter) (h : ok_Waiter x) : Spec Try.prog 102 [.ro (t_Waiter x), .ro (t_Waiter y)] [T.bool (x == y)] := by
  obtain ⟨x0, x1, x2⟩ := x
  obtain ⟨y0, y1, y2⟩ := y
  refine fn Try.func102 ?_
  repeat' (first | (first | refine ⟨rfl, ?_⟩ | refine brT ?_ | refine brF ?_ | intro _) | refine brI (fun _ => ?_) (fun _ => ?_))
  all_goals (refine tb ?_; clear h; simp_all)
abbrev rawS_Waiter (l : List Y_Waiter) : Prop := l.length ≤ maxLen ∧ ∀ y ∈ l, raw_Waiter y
theorem s_toWaiterS (l : List Y_Waiter) (h : l.length ≤ bound ∧ ∀ y ∈ l, ok_Waiter y) : Spec Try.prog 98 [.ro (.sl 3 (l.map t_Waiter))] [.sl 3 (l.map t_Waiter)] := by
  obtain ⟨hl, hel⟩ := h
  have hl' : l.length ≤ 16777216 := hl
  refine fn Try.func98 ?_
  refine ⟨rfl, by simp, by simpa using hl, fun q => ?_⟩
  refine loopI (fun x : Nat × Nat => ⟨23, [(0, .c (.ro 3 (l.map t_Waiter))), (3, .c (.own 8000 q)), (4, .int x.1)], [(8000, .row q x.2 3 ((l.map t_Waiter).take x.1 ++ List.replicate (l.length - x.1) (t_Waiter (0, 0, 0))))]⟩) (fun x => l.length - x.1) (fun x => x.1 ≤ l.length) (0, 0) (Nat.zero_le _)
    (wk rfl ⟨rfl, rfl, rfl, trivial⟩ ⟨?_, trivial⟩) ?_
  · simp; rfl
  · rintro ⟨i, v⟩ hi
    refine brD (fun h => ?_) (fun h => ?_)
    · have hlt : i < l.length := by simpa using h
      refine ⟨by omega, t_Waiter l[i], by simp [hlt], ?_⟩
      refine ⟨_, s_toWaiter l[i] (hel _ (List.getElem_mem hlt)), ?_⟩
      intro q1
      refine ⟨rfl, by omega, by simp; omega, ?_⟩
      repeat (first | refine ⟨rfl, ?_⟩ | refine brT ?_ | refine brF ?_ | intro _)
      refine ⟨t_Waiter (0, 0, 0), ?_, Nat.le_refl _, fun v' => ?_⟩
      · have h1 : min i l.length = i := by omega
        simp [List.getElem?_append_right, h1, List.getElem?_replicate]; omega
      · refine nxt (i + 1, v') hlt (by show _ < _; simp only; omega) (wk rfl ⟨rfl, rfl, congrArg AV.int (w64_id (by omega) (by omega)), trivial⟩ ⟨?_, trivial⟩)
        have := fill_set (l.map t_Waiter) (t_Waiter (0, 0, 0)) l.length i (by simp) hlt
        simp only [List.getElem_map] at this
        rw [← this]; rfl
    · have : i = l.length := by simp at h; omega
      subst this
      refine ⟨rfl, ?_⟩
      show _ = _
      simp [List.take_of_length_le]
theorem s_eqWaiterS (a b : List Y_Waiter) (h : a.length ≤ bound ∧ ∀ y ∈ a, ok_Waiter y) : Spec Try.prog 99 [.ro (.sl 3 (a.map t_Waiter)), .ro (.sl 3 (b.map t_Waiter))] [T.bool (a == b)] := by
  obtain ⟨hl, hel⟩ := h
  have hl' : a.length ≤ 16777216 := hl
  refine fn Try.func99 ?_
  refine brI (fun h => ?_) (fun h => ?_)
  · have hne : a.length ≠ b.length := by intro h1; simp [h1] at h
    refine tbf ?_
    cases hab : a == b
    · rfl
    · exact absurd (by rw [eq_of_beq hab]) hne
  have hab : a.length = b.length := by simp at h; omega
  refine loopR (fun i => ⟨27, [(0, .c (.ro 3 (a.map t_Waiter))), (1, .c (.ro 3 (b.map t_Waiter))), (5, .int i)], []⟩) a.length (fun i => ∀ j (hj : j < a.length), j < i → a[j] = b[j]) (fun j _ h => absurd h (by omega)) (wk rfl ⟨rfl, rfl, rfl, trivial⟩ trivial) ?_
  intro i hi hI
  refine brD (fun h => ?_) (fun h => ?_)
  · have h : i < a.length := by simpa using h
    refine dr (.line [0, 1, 2, 3, 4, 5, 6, 7, 8, 9]) (by kernel_rfl) ?_
    refine ⟨nn i, t_Waiter a[i], atm h, ?_⟩
    refine ⟨nn i, t_Waiter b[i], atm (by omega), ?_⟩
    refine ⟨_, s_eqWaiter a[i] b[i] (hel _ (List.getElem_mem h)), ?_⟩
    intro _
    refine brI (fun h1 => ?_) (fun h1 => ?_)
    · refine tbf ?_
      simp only [Bool.not_eq_true'] at h1
      cases hab : a == b
      · rfl
      · have := eq_of_beq hab
        subst this
        simp at h1
    · refine nxtR h ?_ (wk rfl ⟨rfl, rfl, up1 h hl', trivial⟩ trivial)
      intro j hj h2
      by_cases h3 : j = i
      · subst h3; simpa using h1
      · exact hI j hj (by omega)
  · refine tbt ?_
    have : a = b := List.ext_getElem hab (fun j h1 h2 => hI j h1 (by simp at h; omega))
    simp [this]
def f_WaiterS (l : List Y_Waiter) (n : Int) : Int := szI l.length n
theorem in_WaiterS {l : List Y_Waiter} {n : Int} (hr : rawS_Waiter l) (h0 : 0 ≤ n) (hn : n ≤ 1048576) (h : ¬ f_WaiterS l n < 0) : (l.length ≤ bound ∧ ∀ y ∈ l, ok_Waiter y) ∧ 0 ≤ f_WaiterS l n ∧ f_WaiterS l n ≤ n := by
  have := szI_in hr.1 h0 hn h
  unfold f_WaiterS at h ⊢
  exact ⟨⟨by unfold bound; omega, fun _ _ => trivial⟩, by omega, by omega⟩
theorem s_szWaiterS (l : List Y_Waiter) (n : Int) (hr : rawS_Waiter l) (h0 : 0 ≤ n) (hn : n ≤ 1048576) : Spec Try.prog 97 [.ro (.sl 3 (l.map t_Waiter)), .ro (.int n)] [.int (f_WaiterS l n)] := by
  refine fn Try.func97 ?_
  refine brI (fun h => ?_) (fun h => ?_)
  · have h1 := of_decide_eq_true h
    rw [List.length_map] at h1
    refine ti ?_
    simp only [f_WaiterS, szI, w64, h1, if_true]
  · have h1 := of_decide_eq_false h
    rw [List.length_map] at h1
    refine ti ?_
    simp only [f_WaiterS, szI, w64, h1, if_false, List.length_map]
/-! Chan -/
abbrev Y_Chan := Int × List Int × List Y_Waiter × List Y_Waiter × Bool
def t_Chan (x : Y_Chan) : T := .agg [T.int (x.1), .sl 1 ((x.2.1).map T.int), .sl 3 ((x.2.2.1).map t_Waiter), .sl 3 ((x.2.2.2.1).map t_Waiter), T.bool (x.2.2.2.2)]
def raw_Chan (x : Y_Chan) : Prop := (Lit.int .i64 (x.1)).wf = true ∧ ((x.2.1).length ≤ maxLen ∧ ∀ y ∈ x.2.1, (Lit.int .i64 y).wf = true) ∧ ((x.2.2.1).length ≤ maxLen ∧ ∀ y ∈ x.2.2.1, raw_Waiter y) ∧ ((x.2.2.2.1).length ≤ maxLen ∧ ∀ y ∈ x.2.2.2.1, raw_Waiter y) ∧ True
def ok_Chan (x : Y_Chan) : Prop := (x.2.1).length ≤ bound ∧ ((x.2.2.1).length ≤ bound ∧ ∀ y ∈ x.2.2.1, ok_Waiter y) ∧ ((x.2.2.2.1).length ≤ bound ∧ ∀ y ∈ x.2.2.2.1, ok_Waiter y)
theorem s_toChan (x : Y_Chan) (h : ok_Chan x) : Spec Try.prog 88 [.ro (t_Chan x)] [t_Chan x] := by
  refine fn Try.func88 ?_
  repeat (first | refine ⟨rfl, ?_⟩ | refine brT ?_ | refine brF ?_ | intro _)
  refine ⟨_, s_toIntS _ (h.1), ?_⟩
  repeat (first | refine ⟨rfl, ?_⟩ | refine brT ?_ | refine brF ?_ | intro _)
  refine ⟨_, s_toWaiterS _ (h.2.1), ?_⟩
  repeat (first | refine ⟨rfl, ?_⟩ | refine brT ?_ | refine brF ?_ | intro _)
  refine ⟨_, s_toWaiterS _ (h.2.2), ?_⟩
  repeat (first | refine ⟨rfl, ?_⟩ | refine brT ?_ | refine brF ?_ | intro _)
  rfl
theorem s_eqChan (x y : Y_Chan) (h : ok_Chan x) : Spec Try.prog 90 [.ro (t_Chan x), .ro (t_Chan y)] [T.bool (x == y)] := by
  obtain ⟨x0, x1, x2, x3, x4⟩ := x
  obtain ⟨y0, y1, y2, y3, y4⟩ := y
  refine fn Try.func90 ?_
  repeat' (first | (first | refine ⟨rfl, ?_⟩ | refine brT ?_ | refine brF ?_ | intro _) | refine brI (fun _ => ?_) (fun _ => ?_))
  all_goals try exact tb (by clear h; simp_all)
  refine ⟨_, s_eqIntS _ _ (h.1), ?_⟩
  repeat' (first | (first | refine ⟨rfl, ?_⟩ | refine brT ?_ | refine brF ?_ | intro _) | refine brI (fun _ => ?_) (fun _ => ?_))
  all_goals try exact tb (by clear h; simp_all)
  refine ⟨_, s_eqWaiterS _ _ (h.2.1), ?_⟩
  repeat' (first | (first | refine ⟨rfl, ?_⟩ | refine brT ?_ | refine brF ?_ | intro _) | refine brI (fun _ => ?_) (fun _ => ?_))
  all_goals try exact tb (by clear h; simp_all)
  refine ⟨_, s_eqWaiterS _ _ (h.2.2), ?_⟩
  repeat' (first | (first | refine ⟨rfl, ?_⟩ | refine brT ?_ | refine brF ?_ | intro _) | refine brI (fun _ => ?_) (fun _ => ?_))
  all_goals (refine tb ?_; clear h; simp_all)
def f_Chan (x : Y_Chan) (n : Int) : Int := if szI (x.2.1).length n < 0 then -1 else (if f_WaiterS (x.2.2.1) (szI (x.2.1).length n) < 0 then -1 else (if f_WaiterS (x.2.2.2.1) (f_WaiterS (x.2.2.1) (szI (x.2.1).length n)) < 0 then -1 else f_WaiterS (x.2.2.2.1) (f_WaiterS (x.2.2.1) (szI (x.2.1).length n))))
theorem in_Chan {x : Y_Chan} {n : Int} (hr : raw_Chan x) (h0 : 0 ≤ n) (hn : n ≤ 1048576) (h : ¬ f_Chan x n < 0) : ok_Chan x ∧ 0 ≤ f_Chan x n ∧ f_Chan x n ≤ n := by
  unfold f_Chan at h ⊢
  split at h
  · omega
  rename_i c0
  obtain ⟨o0, a0, b0⟩ := in_IntS (hr.2.1) h0 hn c0
  split at h
  · omega
  rename_i c1
  obtain ⟨o1, a1, b1⟩ := in_WaiterS (hr.2.2.1) a0 (by omega) c1
  split at h
  · omega
  rename_i c2
  obtain ⟨o2, a2, b2⟩ := in_WaiterS (hr.2.2.2.1) a1 (by omega) c2
  rw [if_neg c0]
  rw [if_neg c1]
  rw [if_neg c2]
  exact ⟨⟨o0, o1, o2⟩, a2, by omega⟩
theorem s_szChan (x : Y_Chan) (n : Int) (hr : raw_Chan x) (h0 : 0 ≤ n) (hn : n ≤ 1048576) : Spec Try.prog 86 [.ro (t_Chan x), .ro (.int n)] [.int (f_Chan x n)] := by
  refine fn Try.func86 ?_
  repeat (first | refine ⟨rfl, ?_⟩ | refine brT ?_ | refine brF ?_ | intro _)
  refine ⟨_, s_szIntS' _ _ (hr.2.1) h0 hn, ?_⟩
  intro _
  refine brI (fun c0 => ?_) (fun c0 => ?_)
  · have c0 := of_decide_eq_true c0
    refine ti ?_
    unfold f_Chan
    rw [if_pos c0]
  have c0 := of_decide_eq_false c0
  obtain ⟨o0, a0, b0⟩ := in_IntS (hr.2.1) h0 hn c0
  repeat (first | refine ⟨rfl, ?_⟩ | refine brT ?_ | refine brF ?_ | intro _)
  refine ⟨_, s_szWaiterS _ _ (hr.2.2.1) a0 (by omega), ?_⟩
  intro _
  refine brI (fun c1 => ?_) (fun c1 => ?_)
  · have c1 := of_decide_eq_true c1
    refine ti ?_
    unfold f_Chan
    rw [if_neg c0]
    rw [if_pos c1]
  have c1 := of_decide_eq_false c1
  obtain ⟨o1, a1, b1⟩ := in_WaiterS (hr.2.2.1) a0 (by omega) c1
  repeat (first | refine ⟨rfl, ?_⟩ | refine brT ?_ | refine brF ?_ | intro _)
  refine ⟨_, s_szWaiterS _ _ (hr.2.2.2.1) a1 (by omega), ?_⟩
  intro _
  refine brI (fun c2 => ?_) (fun c2 => ?_)
  · have c2 := of_decide_eq_true c2
    refine ti ?_
    unfold f_Chan
    rw [if_neg c0]
    rw [if_neg c1]
    rw [if_pos c2]
  have c2 := of_decide_eq_false c2
  refine ti ?_
  unfold f_Chan
  rw [if_neg c0]
  rw [if_neg c1]
  rw [if_neg c2]
abbrev rawS_Chan (l : List Y_Chan) : Prop := l.length ≤ maxLen ∧ ∀ y ∈ l, raw_Chan y
theorem s_toChanS (l : List Y_Chan) (h : l.length ≤ bound ∧ ∀ y ∈ l, ok_Chan y) : Spec Try.prog 64 [.ro (.sl 5 (l.map t_Chan))] [.sl 5 (l.map t_Chan)] := by
  obtain ⟨hl, hel⟩ := h
  have hl' : l.length ≤ 16777216 := hl
  refine fn Try.func64 ?_
  refine ⟨rfl, by simp, by simpa using hl, fun q => ?_⟩
  refine loopI (fun x : Nat × Nat => ⟨23, [(0, .c (.ro 5 (l.map t_Chan))), (3, .c (.own 8000 q)), (4, .int x.1)], [(8000, .row q x.2 5 ((l.map t_Chan).take x.1 ++ List.replicate (l.length - x.1) (t_Chan (0, [], [], [], false))))]⟩) (fun x => l.length - x.1) (fun x => x.1 ≤ l.length) (0, 0) (Nat.zero_le _)
    (wk rfl ⟨rfl, rfl, rfl, trivial⟩ ⟨?_, trivial⟩) ?_
  · simp; rfl
  · rintro ⟨i, v⟩ hi
    refine brD (fun h => ?_) (fun h => ?_)
    · have hlt : i < l.length := by simpa using h
      refine ⟨by omega, t_Chan l[i], by simp [hlt], ?_⟩
      refine ⟨_, s_toChan l[i] (hel _ (List.getElem_mem hlt)), ?_⟩
      intro q1
      refine ⟨rfl, by omega, by simp; omega, ?_⟩
      repeat (first | refine ⟨rfl, ?_⟩ | refine brT ?_ | refine brF ?_ | intro _)
      refine ⟨t_Chan (0, [], [], [], false), ?_, Nat.le_refl _, fun v' => ?_⟩
      · have h1 : min i l.length = i := by omega
        simp [List.getElem?_append_right, h1, List.getElem?_replicate]; omega
      · refine nxt (i + 1, v') hlt (by show _ < _; simp only; omega) (wk rfl ⟨rfl, rfl, congrArg AV.int (w64_id (by omega) (by omega)), trivial⟩ ⟨?_, trivial⟩)
        have := fill_set (l.map t_Chan) (t_Chan (0, [], [], [], false)) l.length i (by simp) hlt
        simp only [List.getElem_map] at this
        rw [← this]; rfl
    · have : i = l.length := by simp at h; omega
      subst this
      refine ⟨rfl, ?_⟩
      show _ = _
      simp [List.take_of_length_le]
theorem s_eqChanS (a b : List Y_Chan) (h : a.length ≤ bound ∧ ∀ y ∈ a, ok_Chan y) : Spec Try.prog 68 [.ro (.sl 5 (a.map t_Chan)), .ro (.sl 5 (b.map t_Chan))] [T.bool (a == b)] := by
  obtain ⟨hl, hel⟩ := h
  have hl' : a.length ≤ 16777216 := hl
  refine fn Try.func68 ?_
  refine brI (fun h => ?_) (fun h => ?_)
  · have hne : a.length ≠ b.length := by intro h1; simp [h1] at h
    refine tbf ?_
    cases hab : a == b
    · rfl
    · exact absurd (by rw [eq_of_beq hab]) hne
  have hab : a.length = b.length := by simp at h; omega
  refine loopR (fun i => ⟨27, [(0, .c (.ro 5 (a.map t_Chan))), (1, .c (.ro 5 (b.map t_Chan))), (5, .int i)], []⟩) a.length (fun i => ∀ j (hj : j < a.length), j < i → a[j] = b[j]) (fun j _ h => absurd h (by omega)) (wk rfl ⟨rfl, rfl, rfl, trivial⟩ trivial) ?_
  intro i hi hI
  refine brD (fun h => ?_) (fun h => ?_)
  · have h : i < a.length := by simpa using h
    refine dr (.line [0, 1, 2, 3, 4, 5, 6, 7, 8, 9]) (by kernel_rfl) ?_
    refine ⟨nn i, t_Chan a[i], atm h, ?_⟩
    refine ⟨nn i, t_Chan b[i], atm (by omega), ?_⟩
    refine ⟨_, s_eqChan a[i] b[i] (hel _ (List.getElem_mem h)), ?_⟩
    intro _
    refine brI (fun h1 => ?_) (fun h1 => ?_)
    · refine tbf ?_
      simp only [Bool.not_eq_true'] at h1
      cases hab : a == b
      · rfl
      · have := eq_of_beq hab
        subst this
        simp at h1
    · refine nxtR h ?_ (wk rfl ⟨rfl, rfl, up1 h hl', trivial⟩ trivial)
      intro j hj h2
      by_cases h3 : j = i
      · subst h3; simpa using h1
      · exact hI j hj (by omega)
  · refine tbt ?_
    have : a = b := List.ext_getElem hab (fun j h1 h2 => hI j h1 (by simp at h; omega))
    simp [this]
def f_ChanS (l : List Y_Chan) (n : Int) : Int := szS f_Chan l n
theorem in_ChanS {l : List Y_Chan} {n : Int} (hr : rawS_Chan l) (h0 : 0 ≤ n) (hn : n ≤ 1048576) (h : ¬ f_ChanS l n < 0) : (l.length ≤ bound ∧ ∀ y ∈ l, ok_Chan y) ∧ 0 ≤ f_ChanS l n ∧ f_ChanS l n ≤ n :=
  szS_in (fun x n hr h0 hn h => in_Chan hr h0 hn h) hr.1 hr.2 h0 hn h
theorem s_szChanS (l : List Y_Chan) (n : Int) (hr : rawS_Chan l) (h0 : 0 ≤ n) (hn : n ≤ 1048576) : Spec Try.prog 60 [.ro (.sl 5 (l.map t_Chan)), .ro (.int n)] [.int (f_ChanS l n)] := by
  refine fn Try.func60 ?_
  refine brI (fun h => ?_) (fun h => ?_)
  · have h1 := of_decide_eq_true h
    rw [List.length_map] at h1
    refine ti ?_
    simp only [f_ChanS, szS, szI, w64, h1, if_true]; rfl
  have h1 := of_decide_eq_false h
  rw [List.length_map] at h1
  have hI : ¬ szI l.length n < 0 := by simp only [szI, w64, h1, if_false, not_false_eq_true]
  obtain ⟨c1, c2⟩ := szI_in hr.1 h0 hn hI
  have hw : w64 (n - l.length) = szI l.length n := by simp only [szI, w64, h1, if_false]
  have hl' : l.length ≤ 16777216 := by omega
  refine loopI (fun x : Nat × Int => ⟨27, [(0, .c (.ro 5 (l.map t_Chan))), (1, .int x.2), (5, .int x.1)], []⟩) (fun x => l.length - x.1) (fun x => x.1 ≤ l.length ∧ 0 ≤ x.2 ∧ x.2 ≤ 1048576 ∧ foldSz f_Chan (l.drop x.1) x.2 = f_ChanS l n) (0, szI l.length n) ⟨Nat.zero_le _, by simp only; omega, by simp only; omega, by simp only [f_ChanS, szS, hI, if_false, List.drop_zero]⟩
    (wk rfl ⟨rfl, (by rw [← hw]; exact congrArg (fun k : Nat => AV.int (w64 (n - (k : Int)))) (List.length_map ..)), rfl, trivial⟩ trivial) ?_
  rintro ⟨i, m⟩ ⟨hi, hm0, hm1, hI⟩
  simp only at hi hm0 hm1 hI
  refine brD (fun h => ?_) (fun h => ?_)
  · have h : i < l.length := by simpa using h
    have hraw := hr.2 _ (List.getElem_mem h)
    refine ⟨nn i, t_Chan l[i], atm h, ?_⟩
    refine ⟨_, s_szChan l[i] m hraw hm0 hm1, ?_⟩
    intro _
    rw [List.drop_eq_getElem_cons h] at hI
    simp only [foldSz] at hI
    refine brI (fun h2 => ?_) (fun h2 => ?_)
    · have h2 := of_decide_eq_true h2
      rw [if_pos h2] at hI
      exact ti hI
    · have h2 := of_decide_eq_false h2
      rw [if_neg h2] at hI
      obtain ⟨_, a1, a2⟩ := in_Chan hraw hm0 hm1 h2
      exact nxt (i + 1, f_Chan l[i] m) ⟨h, a1, by simp only; omega, hI⟩ (by show l.length - (i + 1) < l.length - i; omega) (wk rfl ⟨rfl, rfl, up1 h hl', trivial⟩ trivial)
  · have : i = l.length := by simp at h; omega
    subst this
    rw [List.drop_length] at hI
    exact ti hI
/-! Mutex -/
abbrev Y_Mutex := Int × List Int
def t_Mutex (x : Y_Mutex) : T := .agg [T.int (x.1), .sl 1 ((x.2).map T.int)]
def raw_Mutex (x : Y_Mutex) : Prop := (Lit.int .i64 (x.1)).wf = true ∧ ((x.2).length ≤ maxLen ∧ ∀ y ∈ x.2, (Lit.int .i64 y).wf = true)
def ok_Mutex (x : Y_Mutex) : Prop := (x.2).length ≤ bound
theorem s_toMutex (x : Y_Mutex) (h : ok_Mutex x) : Spec Try.prog 89 [.ro (t_Mutex x)] [t_Mutex x] := by
  refine fn Try.func89 ?_
  repeat (first | refine ⟨rfl, ?_⟩ | refine brT ?_ | refine brF ?_ | intro _)
  refine ⟨_, s_toIntS _ (h), ?_⟩
  repeat (first | refine ⟨rfl, ?_⟩ | refine brT ?_ | refine brF ?_ | intro _)
  rfl
theorem s_eqMutex (x y : Y_Mutex) (h : ok_Mutex x) : Spec Try.prog 91 [.ro (t_Mutex x), .ro (t_Mutex y)] [T.bool (x == y)] := by
  obtain ⟨x0, x1⟩ := x
  obtain ⟨y0, y1⟩ := y
  refine fn Try.func91 ?_
  repeat' (first | (first | refine ⟨rfl, ?_⟩ | refine brT ?_ | refine brF ?_ | intro _) | refine brI (fun _ => ?_) (fun _ => ?_))
  all_goals try exact tb (by clear h; simp_all)
  refine ⟨_, s_eqIntS _ _ (h), ?_⟩
  repeat' (first | (first | refine ⟨rfl, ?_⟩ | refine brT ?_ | refine brF ?_ | intro _) | refine brI (fun _ => ?_) (fun _ => ?_))
  all_goals (refine tb ?_; clear h; simp_all)
def f_Mutex (x : Y_Mutex) (n : Int) : Int := if szI (x.2).length n < 0 then -1 else szI (x.2).length n
theorem in_Mutex {x : Y_Mutex} {n : Int} (hr : raw_Mutex x) (h0 : 0 ≤ n) (hn : n ≤ 1048576) (h : ¬ f_Mutex x n < 0) : ok_Mutex x ∧ 0 ≤ f_Mutex x n ∧ f_Mutex x n ≤ n := by
  unfold f_Mutex at h ⊢
  split at h
  · omega
  rename_i c0
  obtain ⟨o0, a0, b0⟩ := in_IntS (hr.2) h0 hn c0
  rw [if_neg c0]
  exact ⟨o0, a0, by omega⟩
theorem s_szMutex (x : Y_Mutex) (n : Int) (hr : raw_Mutex x) (h0 : 0 ≤ n) (hn : n ≤ 1048576) : Spec Try.prog 87 [.ro (t_Mutex x), .ro (.int n)] [.int (f_Mutex x n)] := by
  refine fn Try.func87 ?_
  repeat (first | refine ⟨rfl, ?_⟩ | refine brT ?_ | refine brF ?_ | intro _)
  refine ⟨_, s_szIntS' _ _ (hr.2) h0 hn, ?_⟩
  intro _
  refine brI (fun c0 => ?_) (fun c0 => ?_)
  · have c0 := of_decide_eq_true c0
    refine ti ?_
    unfold f_Mutex
    rw [if_pos c0]
  have c0 := of_decide_eq_false c0
  refine ti ?_
  unfold f_Mutex
  rw [if_neg c0]
abbrev rawS_Mutex (l : List Y_Mutex) : Prop := l.length ≤ maxLen ∧ ∀ y ∈ l, raw_Mutex y
theorem s_toMutexS (l : List Y_Mutex) (h : l.length ≤ bound ∧ ∀ y ∈ l, ok_Mutex y) : Spec Try.prog 65 [.ro (.sl 2 (l.map t_Mutex))] [.sl 2 (l.map t_Mutex)] := by
  obtain ⟨hl, hel⟩ := h
  have hl' : l.length ≤ 16777216 := hl
  refine fn Try.func65 ?_
  refine ⟨rfl, by simp, by simpa using hl, fun q => ?_⟩
  refine loopI (fun x : Nat × Nat => ⟨23, [(0, .c (.ro 2 (l.map t_Mutex))), (3, .c (.own 8000 q)), (4, .int x.1)], [(8000, .row q x.2 2 ((l.map t_Mutex).take x.1 ++ List.replicate (l.length - x.1) (t_Mutex (0, []))))]⟩) (fun x => l.length - x.1) (fun x => x.1 ≤ l.length) (0, 0) (Nat.zero_le _)
    (wk rfl ⟨rfl, rfl, rfl, trivial⟩ ⟨?_, trivial⟩) ?_
  · simp; rfl
  · rintro ⟨i, v⟩ hi
    refine brD (fun h => ?_) (fun h => ?_)
    · have hlt : i < l.length := by simpa using h
      refine ⟨by omega, t_Mutex l[i], by simp [hlt], ?_⟩
      refine ⟨_, s_toMutex l[i] (hel _ (List.getElem_mem hlt)), ?_⟩
      intro q1
      refine ⟨rfl, by omega, by simp; omega, ?_⟩
      repeat (first | refine ⟨rfl, ?_⟩ | refine brT ?_ | refine brF ?_ | intro _)
      refine ⟨t_Mutex (0, []), ?_, Nat.le_refl _, fun v' => ?_⟩
      · have h1 : min i l.length = i := by omega
        simp [List.getElem?_append_right, h1, List.getElem?_replicate]; omega
      · refine nxt (i + 1, v') hlt (by show _ < _; simp only; omega) (wk rfl ⟨rfl, rfl, congrArg AV.int (w64_id (by omega) (by omega)), trivial⟩ ⟨?_, trivial⟩)
        have := fill_set (l.map t_Mutex) (t_Mutex (0, [])) l.length i (by simp) hlt
        simp only [List.getElem_map] at this
        rw [← this]; rfl
    · have : i = l.length := by simp at h; omega
      subst this
      refine ⟨rfl, ?_⟩
      show _ = _
      simp [List.take_of_length_le]
theorem s_eqMutexS (a b : List Y_Mutex) (h : a.length ≤ bound ∧ ∀ y ∈ a, ok_Mutex y) : Spec Try.prog 69 [.ro (.sl 2 (a.map t_Mutex)), .ro (.sl 2 (b.map t_Mutex))] [T.bool (a == b)] := by
  obtain ⟨hl, hel⟩ := h
  have hl' : a.length ≤ 16777216 := hl
  refine fn Try.func69 ?_
  refine brI (fun h => ?_) (fun h => ?_)
  · have hne : a.length ≠ b.length := by intro h1; simp [h1] at h
    refine tbf ?_
    cases hab : a == b
    · rfl
    · exact absurd (by rw [eq_of_beq hab]) hne
  have hab : a.length = b.length := by simp at h; omega
  refine loopR (fun i => ⟨27, [(0, .c (.ro 2 (a.map t_Mutex))), (1, .c (.ro 2 (b.map t_Mutex))), (5, .int i)], []⟩) a.length (fun i => ∀ j (hj : j < a.length), j < i → a[j] = b[j]) (fun j _ h => absurd h (by omega)) (wk rfl ⟨rfl, rfl, rfl, trivial⟩ trivial) ?_
  intro i hi hI
  refine brD (fun h => ?_) (fun h => ?_)
  · have h : i < a.length := by simpa using h
    refine dr (.line [0, 1, 2, 3, 4, 5, 6, 7, 8, 9]) (by kernel_rfl) ?_
    refine ⟨nn i, t_Mutex a[i], atm h, ?_⟩
    refine ⟨nn i, t_Mutex b[i], atm (by omega), ?_⟩
    refine ⟨_, s_eqMutex a[i] b[i] (hel _ (List.getElem_mem h)), ?_⟩
    intro _
    refine brI (fun h1 => ?_) (fun h1 => ?_)
    · refine tbf ?_
      simp only [Bool.not_eq_true'] at h1
      cases hab : a == b
      · rfl
      · have := eq_of_beq hab
        subst this
        simp at h1
    · refine nxtR h ?_ (wk rfl ⟨rfl, rfl, up1 h hl', trivial⟩ trivial)
      intro j hj h2
      by_cases h3 : j = i
      · subst h3; simpa using h1
      · exact hI j hj (by omega)
  · refine tbt ?_
    have : a = b := List.ext_getElem hab (fun j h1 h2 => hI j h1 (by simp at h; omega))
    simp [this]
def f_MutexS (l : List Y_Mutex) (n : Int) : Int := szS f_Mutex l n
theorem in_MutexS {l : List Y_Mutex} {n : Int} (hr : rawS_Mutex l) (h0 : 0 ≤ n) (hn : n ≤ 1048576) (h : ¬ f_MutexS l n < 0) : (l.length ≤ bound ∧ ∀ y ∈ l, ok_Mutex y) ∧ 0 ≤ f_MutexS l n ∧ f_MutexS l n ≤ n :=
  szS_in (fun x n hr h0 hn h => in_Mutex hr h0 hn h) hr.1 hr.2 h0 hn h
theorem s_szMutexS (l : List Y_Mutex) (n : Int) (hr : rawS_Mutex l) (h0 : 0 ≤ n) (hn : n ≤ 1048576) : Spec Try.prog 61 [.ro (.sl 2 (l.map t_Mutex)), .ro (.int n)] [.int (f_MutexS l n)] := by
  refine fn Try.func61 ?_
  refine brI (fun h => ?_) (fun h => ?_)
  · have h1 := of_decide_eq_true h
    rw [List.length_map] at h1
    refine ti ?_
    simp only [f_MutexS, szS, szI, w64, h1, if_true]; rfl
  have h1 := of_decide_eq_false h
  rw [List.length_map] at h1
  have hI : ¬ szI l.length n < 0 := by simp only [szI, w64, h1, if_false, not_false_eq_true]
  obtain ⟨c1, c2⟩ := szI_in hr.1 h0 hn hI
  have hw : w64 (n - l.length) = szI l.length n := by simp only [szI, w64, h1, if_false]
  have hl' : l.length ≤ 16777216 := by omega
  refine loopI (fun x : Nat × Int => ⟨27, [(0, .c (.ro 2 (l.map t_Mutex))), (1, .int x.2), (5, .int x.1)], []⟩) (fun x => l.length - x.1) (fun x => x.1 ≤ l.length ∧ 0 ≤ x.2 ∧ x.2 ≤ 1048576 ∧ foldSz f_Mutex (l.drop x.1) x.2 = f_MutexS l n) (0, szI l.length n) ⟨Nat.zero_le _, by simp only; omega, by simp only; omega, by simp only [f_MutexS, szS, hI, if_false, List.drop_zero]⟩
    (wk rfl ⟨rfl, (by rw [← hw]; exact congrArg (fun k : Nat => AV.int (w64 (n - (k : Int)))) (List.length_map ..)), rfl, trivial⟩ trivial) ?_
  rintro ⟨i, m⟩ ⟨hi, hm0, hm1, hI⟩
  simp only at hi hm0 hm1 hI
  refine brD (fun h => ?_) (fun h => ?_)
  · have h : i < l.length := by simpa using h
    have hraw := hr.2 _ (List.getElem_mem h)
    refine ⟨nn i, t_Mutex l[i], atm h, ?_⟩
    refine ⟨_, s_szMutex l[i] m hraw hm0 hm1, ?_⟩
    intro _
    rw [List.drop_eq_getElem_cons h] at hI
    simp only [foldSz] at hI
    refine brI (fun h2 => ?_) (fun h2 => ?_)
    · have h2 := of_decide_eq_true h2
      rw [if_pos h2] at hI
      exact ti hI
    · have h2 := of_decide_eq_false h2
      rw [if_neg h2] at hI
      obtain ⟨_, a1, a2⟩ := in_Mutex hraw hm0 hm1 h2
      exact nxt (i + 1, f_Mutex l[i] m) ⟨h, a1, by simp only; omega, hI⟩ (by show l.length - (i + 1) < l.length - i; omega) (wk rfl ⟨rfl, rfl, up1 h hl', trivial⟩ trivial)
  · have : i = l.length := by simp at h; omega
    subst this
    rw [List.drop_length] at hI
    exact ti hI
/-! Eng -/
abbrev Y_Eng := List Y_Gor × List Y_Chan × List Y_Mutex
def t_Eng (x : Y_Eng) : T := .agg [.sl 5 ((x.1).map t_Gor), .sl 5 ((x.2.1).map t_Chan), .sl 2 ((x.2.2).map t_Mutex)]
def raw_Eng (x : Y_Eng) : Prop := ((x.1).length ≤ maxLen ∧ ∀ y ∈ x.1, raw_Gor y) ∧ ((x.2.1).length ≤ maxLen ∧ ∀ y ∈ x.2.1, raw_Chan y) ∧ ((x.2.2).length ≤ maxLen ∧ ∀ y ∈ x.2.2, raw_Mutex y)
def ok_Eng (x : Y_Eng) : Prop := ((x.1).length ≤ bound ∧ ∀ y ∈ x.1, ok_Gor y) ∧ ((x.2.1).length ≤ bound ∧ ∀ y ∈ x.2.1, ok_Chan y) ∧ ((x.2.2).length ≤ bound ∧ ∀ y ∈ x.2.2, ok_Mutex y)
theorem s_toEng (x : Y_Eng) (h : ok_Eng x) : Spec Try.prog 29 [.ro (t_Eng x)] [t_Eng x] := by
  refine fn Try.func29 ?_
  repeat (first | refine ⟨rfl, ?_⟩ | refine brT ?_ | refine brF ?_ | intro _)
  refine ⟨_, s_toGorS _ (h.1), ?_⟩
  repeat (first | refine ⟨rfl, ?_⟩ | refine brT ?_ | refine brF ?_ | intro _)
  refine ⟨_, s_toChanS _ (h.2.1), ?_⟩
  repeat (first | refine ⟨rfl, ?_⟩ | refine brT ?_ | refine brF ?_ | intro _)
  refine ⟨_, s_toMutexS _ (h.2.2), ?_⟩
  repeat (first | refine ⟨rfl, ?_⟩ | refine brT ?_ | refine brF ?_ | intro _)
  rfl
theorem s_eqEng (x y : Y_Eng) (h : ok_Eng x) : Spec Try.prog 32 [.ro (t_Eng x), .ro (t_Eng y)] [T.bool (x == y)] := by
  obtain ⟨x0, x1, x2⟩ := x
  obtain ⟨y0, y1, y2⟩ := y
  refine fn Try.func32 ?_
  repeat' (first | (first | refine ⟨rfl, ?_⟩ | refine brT ?_ | refine brF ?_ | intro _) | refine brI (fun _ => ?_) (fun _ => ?_))
  all_goals try exact tb (by clear h; simp_all)
  refine ⟨_, s_eqGorS _ _ (h.1), ?_⟩
  repeat' (first | (first | refine ⟨rfl, ?_⟩ | refine brT ?_ | refine brF ?_ | intro _) | refine brI (fun _ => ?_) (fun _ => ?_))
  all_goals try exact tb (by clear h; simp_all)
  refine ⟨_, s_eqChanS _ _ (h.2.1), ?_⟩
  repeat' (first | (first | refine ⟨rfl, ?_⟩ | refine brT ?_ | refine brF ?_ | intro _) | refine brI (fun _ => ?_) (fun _ => ?_))
  all_goals try exact tb (by clear h; simp_all)
  refine ⟨_, s_eqMutexS _ _ (h.2.2), ?_⟩
  repeat' (first | (first | refine ⟨rfl, ?_⟩ | refine brT ?_ | refine brF ?_ | intro _) | refine brI (fun _ => ?_) (fun _ => ?_))
  all_goals (refine tb ?_; clear h; simp_all)
def f_Eng (x : Y_Eng) (n : Int) : Int := if f_GorS (x.1) n < 0 then -1 else (if f_ChanS (x.2.1) (f_GorS (x.1) n) < 0 then -1 else (if f_MutexS (x.2.2) (f_ChanS (x.2.1) (f_GorS (x.1) n)) < 0 then -1 else f_MutexS (x.2.2) (f_ChanS (x.2.1) (f_GorS (x.1) n))))
theorem in_Eng {x : Y_Eng} {n : Int} (hr : raw_Eng x) (h0 : 0 ≤ n) (hn : n ≤ 1048576) (h : ¬ f_Eng x n < 0) : ok_Eng x ∧ 0 ≤ f_Eng x n ∧ f_Eng x n ≤ n := by
  unfold f_Eng at h ⊢
  split at h
  · omega
  rename_i c0
  obtain ⟨o0, a0, b0⟩ := in_GorS (hr.1) h0 hn c0
  split at h
  · omega
  rename_i c1
  obtain ⟨o1, a1, b1⟩ := in_ChanS (hr.2.1) a0 (by omega) c1
  split at h
  · omega
  rename_i c2
  obtain ⟨o2, a2, b2⟩ := in_MutexS (hr.2.2) a1 (by omega) c2
  rw [if_neg c0]
  rw [if_neg c1]
  rw [if_neg c2]
  exact ⟨⟨o0, o1, o2⟩, a2, by omega⟩
theorem s_szEng (x : Y_Eng) (n : Int) (hr : raw_Eng x) (h0 : 0 ≤ n) (hn : n ≤ 1048576) : Spec Try.prog 27 [.ro (t_Eng x), .ro (.int n)] [.int (f_Eng x n)] := by
  refine fn Try.func27 ?_
  repeat (first | refine ⟨rfl, ?_⟩ | refine brT ?_ | refine brF ?_ | intro _)
  refine ⟨_, s_szGorS _ _ (hr.1) h0 hn, ?_⟩
  intro _
  refine brI (fun c0 => ?_) (fun c0 => ?_)
  · have c0 := of_decide_eq_true c0
    refine ti ?_
    unfold f_Eng
    rw [if_pos c0]
  have c0 := of_decide_eq_false c0
  obtain ⟨o0, a0, b0⟩ := in_GorS (hr.1) h0 hn c0
  repeat (first | refine ⟨rfl, ?_⟩ | refine brT ?_ | refine brF ?_ | intro _)
  refine ⟨_, s_szChanS _ _ (hr.2.1) a0 (by omega), ?_⟩
  intro _
  refine brI (fun c1 => ?_) (fun c1 => ?_)
  · have c1 := of_decide_eq_true c1
    refine ti ?_
    unfold f_Eng
    rw [if_neg c0]
    rw [if_pos c1]
  have c1 := of_decide_eq_false c1
  obtain ⟨o1, a1, b1⟩ := in_ChanS (hr.2.1) a0 (by omega) c1
  repeat (first | refine ⟨rfl, ?_⟩ | refine brT ?_ | refine brF ?_ | intro _)
  refine ⟨_, s_szMutexS _ _ (hr.2.2) a1 (by omega), ?_⟩
  intro _
  refine brI (fun c2 => ?_) (fun c2 => ?_)
  · have c2 := of_decide_eq_true c2
    refine ti ?_
    unfold f_Eng
    rw [if_neg c0]
    rw [if_neg c1]
    rw [if_pos c2]
  have c2 := of_decide_eq_false c2
  refine ti ?_
  unfold f_Eng
  rw [if_neg c0]
  rw [if_neg c1]
  rw [if_neg c2]


end Go.Proofs.Ytcnmngbaappdpaa.E
