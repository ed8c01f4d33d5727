/- Contracts of functions of this seat's program. -/
import Derived.Test.YtbofjpmighijhaaETy
import Derived.Test.YtbofjpmighijhaaEGr
import Derived.Test.YtbofjpmighijhaaEPm
namespace Go.Proofs.Ytbofjpmighijhaa.E
set_option linter.unusedVariables false
set_option linter.unusedSimpArgs false
set_option maxHeartbeats 1600000
/-! Waiter -/
abbrev Y_Waiter := Int × Int × Int
def t_Waiter (x : Y_Waiter) : T := .agg [T.int (x.1), T.int (x.2.1), T.int (x.2.2)]
def raw_Waiter (x : Y_Waiter) : Prop := (Lit.int .i64 (x.1)).wf = true ∧ (Lit.int .i64 (x.2.1)).wf = true ∧ (Lit.int .i64 (x.2.2)).wf = true
def ok_Waiter (x : Y_Waiter) : Prop := True
theorem s_eqWaiter (x y : Y_Waiter) (h : ok_Waiter x) : Spec Try.prog 129 [.ro (t_Waiter x), .ro (t_Waiter y)] [T.bool (x == y)] := by
  obtain ⟨x0, x1, x2⟩ := x
  obtain ⟨y0, y1, y2⟩ := y
  refine fn Try.func129 ?_
  repeat' (first | (first | refine brT ?_ | refine brF ?_ | refine And.intro rfl ?_ | refine And.intro trivial ?_ | intro _) | refine brI (fun _ => ?_) (fun _ => ?_))
  all_goals (refine tb ?_; clear h; simp_all)
abbrev rawS_Waiter (l : List Y_Waiter) : Prop := l.length ≤ maxLen ∧ ∀ y ∈ l, raw_Waiter y
theorem s_eqWaiterS (a b : List Y_Waiter) (h : a.length ≤ bound ∧ ∀ y ∈ a, ok_Waiter y) : Spec Try.prog 124 [.ro (.sl 3 (a.map t_Waiter)), .ro (.sl 3 (b.map t_Waiter))] [T.bool (a == b)] := by
  obtain ⟨hl, hel⟩ := h
  have hl' : a.length ≤ 16777216 := hl
  refine fn Try.func124 ?_
  refine brI (fun h => ?_) (fun h => ?_)
  · have hne : a.length ≠ b.length := by intro h1; simp [h1] at h
    refine tbf ?_
    cases hab : a == b
    · rfl
    · exact absurd (by rw [eq_of_beq hab]) hne
  have hab : a.length = b.length := by simp at h; omega
  refine loopR (fun i => ⟨27, [(0, .c (.ro 3 (a.map t_Waiter))), (1, .c (.ro 3 (b.map t_Waiter))), (5, .int i)], []⟩) a.length (fun i => ∀ j (hj : j < a.length), j < i → a[j] = b[j]) (fun j _ h => absurd h (by omega)) (wk rfl ⟨rfl, rfl, rfl, trivial⟩ trivial) ?_
  intro i hi hI
  refine brD (fun h => ?_) (fun h => ?_)
  · have h : i < a.length := by simpa using h
    refine dr (.line [0, 1, 2, 3, 4, 5, 6, 7, 8, 9]) (by kernel_rfl) ?_
    refine ⟨nn i, t_Waiter a[i], atm h, ?_⟩
    refine ⟨nn i, t_Waiter b[i], atm (by omega), ?_⟩
    refine ⟨_, s_eqWaiter a[i] b[i] (hel _ (List.getElem_mem h)), ?_⟩
    intro _
    refine brI (fun h1 => ?_) (fun h1 => ?_)
    · refine tbf ?_
      simp only [Bool.not_eq_true'] at h1
      cases hab : a == b
      · rfl
      · have := eq_of_beq hab
        subst this
        simp at h1
    · refine nxtR h ?_ (wk rfl ⟨rfl, rfl, up1 h hl', trivial⟩ trivial)
      intro j hj h2
      by_cases h3 : j = i
      · subst h3; simpa using h1
      · exact hI j hj (by omega)
  · refine tbt ?_
    have : a = b := List.ext_getElem hab (fun j h1 h2 => hI j h1 (by simp at h; omega))
    simp [this]
def f_WaiterS (l : List Y_Waiter) (n : Int) : Int := szI l.length n
/-! Chan -/
abbrev Y_Chan := Int × List Int × List Y_Waiter × List Y_Waiter × Bool
def t_Chan (x : Y_Chan) : T := .agg [T.int (x.1), .sl 1 ((x.2.1).map T.int), .sl 3 ((x.2.2.1).map t_Waiter), .sl 3 ((x.2.2.2.1).map t_Waiter), T.bool (x.2.2.2.2)]
def raw_Chan (x : Y_Chan) : Prop := (Lit.int .i64 (x.1)).wf = true ∧ ((x.2.1).length ≤ maxLen ∧ ∀ y ∈ x.2.1, (Lit.int .i64 y).wf = true) ∧ ((x.2.2.1).length ≤ maxLen ∧ ∀ y ∈ x.2.2.1, raw_Waiter y) ∧ ((x.2.2.2.1).length ≤ maxLen ∧ ∀ y ∈ x.2.2.2.1, raw_Waiter y) ∧ True
def ok_Chan (x : Y_Chan) : Prop := (x.2.1).length ≤ bound ∧ ((x.2.2.1).length ≤ bound ∧ ∀ y ∈ x.2.2.1, ok_Waiter y) ∧ ((x.2.2.2.1).length ≤ bound ∧ ∀ y ∈ x.2.2.2.1, ok_Waiter y)
theorem s_eqChan (x y : Y_Chan) (h : ok_Chan x) : Spec Try.prog 104 [.ro (t_Chan x), .ro (t_Chan y)] [T.bool (x == y)] := by
  obtain ⟨x0, x1, x2, x3, x4⟩ := x
  obtain ⟨y0, y1, y2, y3, y4⟩ := y
  refine fn Try.func104 ?_
  repeat' (first | (first | refine brT ?_ | refine brF ?_ | refine And.intro rfl ?_ | refine And.intro trivial ?_ | intro _) | refine brI (fun _ => ?_) (fun _ => ?_))
  all_goals try exact tb (by clear h; simp_all)
  refine ⟨_, s_eqIntS _ _ (h.1), ?_⟩
  repeat' (first | (first | refine brT ?_ | refine brF ?_ | refine And.intro rfl ?_ | refine And.intro trivial ?_ | intro _) | refine brI (fun _ => ?_) (fun _ => ?_))
  all_goals try exact tb (by clear h; simp_all)
  refine ⟨_, s_eqWaiterS _ _ (h.2.1), ?_⟩
  repeat' (first | (first | refine brT ?_ | refine brF ?_ | refine And.intro rfl ?_ | refine And.intro trivial ?_ | intro _) | refine brI (fun _ => ?_) (fun _ => ?_))
  all_goals try exact tb (by clear h; simp_all)
  refine ⟨_, s_eqWaiterS _ _ (h.2.2), ?_⟩
  repeat' (first | (first | refine brT ?_ | refine brF ?_ | refine And.intro rfl ?_ | refine And.intro trivial ?_ | intro _) | refine brI (fun _ => ?_) (fun _ => ?_))
  all_goals (refine tb ?_; clear h; simp_all)
def f_Chan (x : Y_Chan) (n : Int) : Int := if szI (x.2.1).length n < 0 then -1 else (if f_WaiterS (x.2.2.1) (szI (x.2.1).length n) < 0 then -1 else (if f_WaiterS (x.2.2.2.1) (f_WaiterS (x.2.2.1) (szI (x.2.1).length n)) < 0 then -1 else f_WaiterS (x.2.2.2.1) (f_WaiterS (x.2.2.1) (szI (x.2.1).length n))))
abbrev rawS_Chan (l : List Y_Chan) : Prop := l.length ≤ maxLen ∧ ∀ y ∈ l, raw_Chan y
theorem s_eqChanS (a b : List Y_Chan) (h : a.length ≤ bound ∧ ∀ y ∈ a, ok_Chan y) : Spec Try.prog 73 [.ro (.sl 5 (a.map t_Chan)), .ro (.sl 5 (b.map t_Chan))] [T.bool (a == b)] := by
  obtain ⟨hl, hel⟩ := h
  have hl' : a.length ≤ 16777216 := hl
  refine fn Try.func73 ?_
  refine brI (fun h => ?_) (fun h => ?_)
  · have hne : a.length ≠ b.length := by intro h1; simp [h1] at h
    refine tbf ?_
    cases hab : a == b
    · rfl
    · exact absurd (by rw [eq_of_beq hab]) hne
  have hab : a.length = b.length := by simp at h; omega
  refine loopR (fun i => ⟨27, [(0, .c (.ro 5 (a.map t_Chan))), (1, .c (.ro 5 (b.map t_Chan))), (5, .int i)], []⟩) a.length (fun i => ∀ j (hj : j < a.length), j < i → a[j] = b[j]) (fun j _ h => absurd h (by omega)) (wk rfl ⟨rfl, rfl, rfl, trivial⟩ trivial) ?_
  intro i hi hI
  refine brD (fun h => ?_) (fun h => ?_)
  · have h : i < a.length := by simpa using h
    refine dr (.line [0, 1, 2, 3, 4, 5, 6, 7, 8, 9]) (by kernel_rfl) ?_
    refine ⟨nn i, t_Chan a[i], atm h, ?_⟩
    refine ⟨nn i, t_Chan b[i], atm (by omega), ?_⟩
    refine ⟨_, s_eqChan a[i] b[i] (hel _ (List.getElem_mem h)), ?_⟩
    intro _
    refine brI (fun h1 => ?_) (fun h1 => ?_)
    · refine tbf ?_
      simp only [Bool.not_eq_true'] at h1
      cases hab : a == b
      · rfl
      · have := eq_of_beq hab
        subst this
        simp at h1
    · refine nxtR h ?_ (wk rfl ⟨rfl, rfl, up1 h hl', trivial⟩ trivial)
      intro j hj h2
      by_cases h3 : j = i
      · subst h3; simpa using h1
      · exact hI j hj (by omega)
  · refine tbt ?_
    have : a = b := List.ext_getElem hab (fun j h1 h2 => hI j h1 (by simp at h; omega))
    simp [this]
def f_ChanS (l : List Y_Chan) (n : Int) : Int := szS f_Chan l n
/-! Mutex -/
abbrev Y_Mutex := Int × List Int
def t_Mutex (x : Y_Mutex) : T := .agg [T.int (x.1), .sl 1 ((x.2).map T.int)]
def raw_Mutex (x : Y_Mutex) : Prop := (Lit.int .i64 (x.1)).wf = true ∧ ((x.2).length ≤ maxLen ∧ ∀ y ∈ x.2, (Lit.int .i64 y).wf = true)
def ok_Mutex (x : Y_Mutex) : Prop := (x.2).length ≤ bound
theorem s_eqMutex (x y : Y_Mutex) (h : ok_Mutex x) : Spec Try.prog 105 [.ro (t_Mutex x), .ro (t_Mutex y)] [T.bool (x == y)] := by
  obtain ⟨x0, x1⟩ := x
  obtain ⟨y0, y1⟩ := y
  refine fn Try.func105 ?_
  repeat' (first | (first | refine brT ?_ | refine brF ?_ | refine And.intro rfl ?_ | refine And.intro trivial ?_ | intro _) | refine brI (fun _ => ?_) (fun _ => ?_))
  all_goals try exact tb (by clear h; simp_all)
  refine ⟨_, s_eqIntS _ _ (h), ?_⟩
  repeat' (first | (first | refine brT ?_ | refine brF ?_ | refine And.intro rfl ?_ | refine And.intro trivial ?_ | intro _) | refine brI (fun _ => ?_) (fun _ => ?_))
  all_goals (refine tb ?_; clear h; simp_all)
def f_Mutex (x : Y_Mutex) (n : Int) : Int := if szI (x.2).length n < 0 then -1 else szI (x.2).length n
abbrev rawS_Mutex (l : List Y_Mutex) : Prop := l.length ≤ maxLen ∧ ∀ y ∈ l, raw_Mutex y
theorem s_eqMutexS (a b : List Y_Mutex) (h : a.length ≤ bound ∧ ∀ y ∈ a, ok_Mutex y) : Spec Try.prog 74 [.ro (.sl 2 (a.map t_Mutex)), .ro (.sl 2 (b.map t_Mutex))] [T.bool (a == b)] := by
  obtain ⟨hl, hel⟩ := h
  have hl' : a.length ≤ 16777216 := hl
  refine fn Try.func74 ?_
  refine brI (fun h => ?_) (fun h => ?_)
  · have hne : a.length ≠ b.length := by intro h1; simp [h1] at h
    refine tbf ?_
    cases hab : a == b
    · rfl
    · exact absurd (by rw [eq_of_beq hab]) hne
  have hab : a.length = b.length := by simp at h; omega
  refine loopR (fun i => ⟨27, [(0, .c (.ro 2 (a.map t_Mutex))), (1, .c (.ro 2 (b.map t_Mutex))), (5, .int i)], []⟩) a.length (fun i => ∀ j (hj : j < a.length), j < i → a[j] = b[j]) (fun j _ h => absurd h (by omega)) (wk rfl ⟨rfl, rfl, rfl, trivial⟩ trivial) ?_
  intro i hi hI
  refine brD (fun h => ?_) (fun h => ?_)
  · have h : i < a.length := by simpa using h
    refine dr (.line [0, 1, 2, 3, 4, 5, 6, 7, 8, 9]) (by kernel_rfl) ?_
    refine ⟨nn i, t_Mutex a[i], atm h, ?_⟩
    refine ⟨nn i, t_Mutex b[i], atm (by omega), ?_⟩
    refine ⟨_, s_eqMutex a[i] b[i] (hel _ (List.getElem_mem h)), ?_⟩
    intro _
    refine brI (fun h1 => ?_) (fun h1 => ?_)
    · refine tbf ?_
      simp only [Bool.not_eq_true'] at h1
      cases hab : a == b
      · rfl
      · have := eq_of_beq hab
        subst this
        simp at h1
    · refine nxtR h ?_ (wk rfl ⟨rfl, rfl, up1 h hl', trivial⟩ trivial)
      intro j hj h2
      by_cases h3 : j = i
      · subst h3; simpa using h1
      · exact hI j hj (by omega)
  · refine tbt ?_
    have : a = b := List.ext_getElem hab (fun j h1 h2 => hI j h1 (by simp at h; omega))
    simp [this]
def f_MutexS (l : List Y_Mutex) (n : Int) : Int := szS f_Mutex l n
abbrev rawS_Gor (l : List Y_Gor) : Prop := l.length ≤ maxLen ∧ ∀ y ∈ l, raw_Gor y
theorem s_eqGorS (a b : List Y_Gor) (h : a.length ≤ bound ∧ ∀ y ∈ a, ok_Gor y) : Spec Try.prog 72 [.ro (.sl 5 (a.map t_Gor)), .ro (.sl 5 (b.map t_Gor))] [T.bool (a == b)] := by
  obtain ⟨hl, hel⟩ := h
  have hl' : a.length ≤ 16777216 := hl
  refine fn Try.func72 ?_
  refine brI (fun h => ?_) (fun h => ?_)
  · have hne : a.length ≠ b.length := by intro h1; simp [h1] at h
    refine tbf ?_
    cases hab : a == b
    · rfl
    · exact absurd (by rw [eq_of_beq hab]) hne
  have hab : a.length = b.length := by simp at h; omega
  refine loopR (fun i => ⟨27, [(0, .c (.ro 5 (a.map t_Gor))), (1, .c (.ro 5 (b.map t_Gor))), (5, .int i)], []⟩) a.length (fun i => ∀ j (hj : j < a.length), j < i → a[j] = b[j]) (fun j _ h => absurd h (by omega)) (wk rfl ⟨rfl, rfl, rfl, trivial⟩ trivial) ?_
  intro i hi hI
  refine brD (fun h => ?_) (fun h => ?_)
  · have h : i < a.length := by simpa using h
    refine dr (.line [0, 1, 2, 3, 4, 5, 6, 7, 8, 9]) (by kernel_rfl) ?_
    refine ⟨nn i, t_Gor a[i], atm h, ?_⟩
    refine ⟨nn i, t_Gor b[i], atm (by omega), ?_⟩
    refine ⟨_, s_eqGor a[i] b[i] (hel _ (List.getElem_mem h)), ?_⟩
    intro _
    refine brI (fun h1 => ?_) (fun h1 => ?_)
    · refine tbf ?_
      simp only [Bool.not_eq_true'] at h1
      cases hab : a == b
      · rfl
      · have := eq_of_beq hab
        subst this
        simp at h1
    · refine nxtR h ?_ (wk rfl ⟨rfl, rfl, up1 h hl', trivial⟩ trivial)
      intro j hj h2
      by_cases h3 : j = i
      · subst h3; simpa using h1
      · exact hI j hj (by omega)
  · refine tbt ?_
    have : a = b := List.ext_getElem hab (fun j h1 h2 => hI j h1 (by simp at h; omega))
    simp [this]
def f_GorS (l : List Y_Gor) (n : Int) : Int := szS f_Gor l n
/-! Eng -/
abbrev Y_Eng := List Y_Gor × List Y_Chan × List Y_Mutex
def t_Eng (x : Y_Eng) : T := .agg [.sl 5 ((x.1).map t_Gor), .sl 5 ((x.2.1).map t_Chan), .sl 2 ((x.2.2).map t_Mutex)]
def raw_Eng (x : Y_Eng) : Prop := ((x.1).length ≤ maxLen ∧ ∀ y ∈ x.1, raw_Gor y) ∧ ((x.2.1).length ≤ maxLen ∧ ∀ y ∈ x.2.1, raw_Chan y) ∧ ((x.2.2).length ≤ maxLen ∧ ∀ y ∈ x.2.2, raw_Mutex y)
def ok_Eng (x : Y_Eng) : Prop := ((x.1).length ≤ bound ∧ ∀ y ∈ x.1, ok_Gor y) ∧ ((x.2.1).length ≤ bound ∧ ∀ y ∈ x.2.1, ok_Chan y) ∧ ((x.2.2).length ≤ bound ∧ ∀ y ∈ x.2.2, ok_Mutex y)
theorem s_eqEng (x y : Y_Eng) (h : ok_Eng x) : Spec Try.prog 34 [.ro (t_Eng x), .ro (t_Eng y)] [T.bool (x == y)] := by
  obtain ⟨x0, x1, x2⟩ := x
  obtain ⟨y0, y1, y2⟩ := y
  refine fn Try.func34 ?_
  repeat' (first | (first | refine brT ?_ | refine brF ?_ | refine And.intro rfl ?_ | refine And.intro trivial ?_ | intro _) | refine brI (fun _ => ?_) (fun _ => ?_))
  all_goals try exact tb (by clear h; simp_all)
  refine ⟨_, s_eqGorS _ _ (h.1), ?_⟩
  repeat' (first | (first | refine brT ?_ | refine brF ?_ | refine And.intro rfl ?_ | refine And.intro trivial ?_ | intro _) | refine brI (fun _ => ?_) (fun _ => ?_))
  all_goals try exact tb (by clear h; simp_all)
  refine ⟨_, s_eqChanS _ _ (h.2.1), ?_⟩
  repeat' (first | (first | refine brT ?_ | refine brF ?_ | refine And.intro rfl ?_ | refine And.intro trivial ?_ | intro _) | refine brI (fun _ => ?_) (fun _ => ?_))
  all_goals try exact tb (by clear h; simp_all)
  refine ⟨_, s_eqMutexS _ _ (h.2.2), ?_⟩
  repeat' (first | (first | refine brT ?_ | refine brF ?_ | refine And.intro rfl ?_ | refine And.intro trivial ?_ | intro _) | refine brI (fun _ => ?_) (fun _ => ?_))
  all_goals (refine tb ?_; clear h; simp_all)
def f_Eng (x : Y_Eng) (n : Int) : Int := if f_GorS (x.1) n < 0 then -1 else (if f_ChanS (x.2.1) (f_GorS (x.1) n) < 0 then -1 else (if f_MutexS (x.2.2) (f_ChanS (x.2.1) (f_GorS (x.1) n)) < 0 then -1 else f_MutexS (x.2.2) (f_ChanS (x.2.1) (f_GorS (x.1) n))))


end Go.Proofs.Ytbofjpmighijhaa.E
