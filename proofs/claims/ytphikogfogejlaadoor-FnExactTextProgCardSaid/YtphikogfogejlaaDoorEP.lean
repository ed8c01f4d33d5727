/- Contracts of functions of this seat's program. -/
import Derived.Test.YtphikogfogejlaaDoorETy
import Derived.Test.YtphikogfogejlaaDoorEMs
namespace Go.Proofs.YtphikogfogejlaaDoor.E
set_option linter.unusedVariables false
set_option linter.unusedSimpArgs false
set_option maxHeartbeats 1600000
/-! Instr -/
abbrev Y_Instr := Int × Int × Int × Int
def t_Instr (x : Y_Instr) : T := .agg [T.int (x.1), T.int (x.2.1), T.int (x.2.2.1), T.int (x.2.2.2)]
def raw_Instr (x : Y_Instr) : Prop := (Lit.int .i64 (x.1)).wf = true ∧ (Lit.int .i64 (x.2.1)).wf = true ∧ (Lit.int .i64 (x.2.2.1)).wf = true ∧ (Lit.int .i64 (x.2.2.2)).wf = true
def ok_Instr (x : Y_Instr) : Prop := True
theorem s_eqInstr (x y : Y_Instr) (h : ok_Instr x) : Spec Tryd.prog 11 [.ro (t_Instr x), .ro (t_Instr y)] [T.bool (x == y)] := by
  obtain ⟨x0, x1, x2, x3⟩ := x
  obtain ⟨y0, y1, y2, y3⟩ := y
  refine fn Tryd.func11 ?_
  repeat' (first | (first | refine brT ?_ | refine brF ?_ | refine And.intro rfl ?_ | refine And.intro trivial ?_ | intro _) | refine brI (fun _ => ?_) (fun _ => ?_))
  all_goals (refine tb ?_; clear h; simp_all)
abbrev rawS_Instr (l : List Y_Instr) : Prop := l.length ≤ maxLen ∧ ∀ y ∈ l, raw_Instr y
theorem s_eqInstrS (a b : List Y_Instr) (h : a.length ≤ bound ∧ ∀ y ∈ a, ok_Instr y) : Spec Tryd.prog 98 [.ro (.sl 4 (a.map t_Instr)), .ro (.sl 4 (b.map t_Instr))] [T.bool (a == b)] := by
  obtain ⟨hl, hel⟩ := h
  have hl' : a.length ≤ 16777216 := hl
  refine fn Tryd.func98 ?_
  refine brI (fun h => ?_) (fun h => ?_)
  · have hne : a.length ≠ b.length := by intro h1; simp [h1] at h
    refine tbf ?_
    cases hab : a == b
    · rfl
    · exact absurd (by rw [eq_of_beq hab]) hne
  have hab : a.length = b.length := by simp at h; omega
  refine loopR (fun i => ⟨27, [(0, .c (.ro 4 (a.map t_Instr))), (1, .c (.ro 4 (b.map t_Instr))), (5, .int i)], []⟩) a.length (fun i => ∀ j (hj : j < a.length), j < i → a[j] = b[j]) (fun j _ h => absurd h (by omega)) (wk rfl ⟨rfl, rfl, rfl, trivial⟩ trivial) ?_
  intro i hi hI
  refine brD (fun h => ?_) (fun h => ?_)
  · have h : i < a.length := by simpa using h
    refine dr (.line [0, 1, 2, 3, 4, 5, 6, 7, 8, 9]) (by kernel_rfl) ?_
    refine ⟨nn i, t_Instr a[i], atm h, ?_⟩
    refine ⟨nn i, t_Instr b[i], atm (by omega), ?_⟩
    refine ⟨_, s_eqInstr a[i] b[i] (hel _ (List.getElem_mem h)), ?_⟩
    intro _
    refine brI (fun h1 => ?_) (fun h1 => ?_)
    · refine tbf ?_
      simp only [Bool.not_eq_true'] at h1
      cases hab : a == b
      · rfl
      · have := eq_of_beq hab
        subst this
        simp at h1
    · refine nxtR h ?_ (wk rfl ⟨rfl, rfl, up1 h hl', trivial⟩ trivial)
      intro j hj h2
      by_cases h3 : j = i
      · subst h3; simpa using h1
      · exact hI j hj (by omega)
  · refine tbt ?_
    have : a = b := List.ext_getElem hab (fun j h1 h2 => hI j h1 (by simp at h; omega))
    simp [this]
def f_InstrS (l : List Y_Instr) (n : Int) : Int := szI l.length n
/-! Case -/
abbrev Y_Case := Bool × Int × Int × Int × Int
def t_Case (x : Y_Case) : T := .agg [T.bool (x.1), T.int (x.2.1), T.int (x.2.2.1), T.int (x.2.2.2.1), T.int (x.2.2.2.2)]
def raw_Case (x : Y_Case) : Prop := True ∧ (Lit.int .i64 (x.2.1)).wf = true ∧ (Lit.int .i64 (x.2.2.1)).wf = true ∧ (Lit.int .i64 (x.2.2.2.1)).wf = true ∧ (Lit.int .i64 (x.2.2.2.2)).wf = true
def ok_Case (x : Y_Case) : Prop := True
theorem s_eqCase (x y : Y_Case) (h : ok_Case x) : Spec Tryd.prog 75 [.ro (t_Case x), .ro (t_Case y)] [T.bool (x == y)] := by
  obtain ⟨x0, x1, x2, x3, x4⟩ := x
  obtain ⟨y0, y1, y2, y3, y4⟩ := y
  refine fn Tryd.func75 ?_
  repeat' (first | (first | refine brT ?_ | refine brF ?_ | refine And.intro rfl ?_ | refine And.intro trivial ?_ | intro _) | refine brI (fun _ => ?_) (fun _ => ?_))
  all_goals (refine tb ?_; clear h; simp_all)
abbrev rawS_Case (l : List Y_Case) : Prop := l.length ≤ maxLen ∧ ∀ y ∈ l, raw_Case y
theorem s_eqCaseS (a b : List Y_Case) (h : a.length ≤ bound ∧ ∀ y ∈ a, ok_Case y) : Spec Tryd.prog 43 [.ro (.sl 5 (a.map t_Case)), .ro (.sl 5 (b.map t_Case))] [T.bool (a == b)] := by
  obtain ⟨hl, hel⟩ := h
  have hl' : a.length ≤ 16777216 := hl
  refine fn Tryd.func43 ?_
  refine brI (fun h => ?_) (fun h => ?_)
  · have hne : a.length ≠ b.length := by intro h1; simp [h1] at h
    refine tbf ?_
    cases hab : a == b
    · rfl
    · exact absurd (by rw [eq_of_beq hab]) hne
  have hab : a.length = b.length := by simp at h; omega
  refine loopR (fun i => ⟨27, [(0, .c (.ro 5 (a.map t_Case))), (1, .c (.ro 5 (b.map t_Case))), (5, .int i)], []⟩) a.length (fun i => ∀ j (hj : j < a.length), j < i → a[j] = b[j]) (fun j _ h => absurd h (by omega)) (wk rfl ⟨rfl, rfl, rfl, trivial⟩ trivial) ?_
  intro i hi hI
  refine brD (fun h => ?_) (fun h => ?_)
  · have h : i < a.length := by simpa using h
    refine dr (.line [0, 1, 2, 3, 4, 5, 6, 7, 8, 9]) (by kernel_rfl) ?_
    refine ⟨nn i, t_Case a[i], atm h, ?_⟩
    refine ⟨nn i, t_Case b[i], atm (by omega), ?_⟩
    refine ⟨_, s_eqCase a[i] b[i] (hel _ (List.getElem_mem h)), ?_⟩
    intro _
    refine brI (fun h1 => ?_) (fun h1 => ?_)
    · refine tbf ?_
      simp only [Bool.not_eq_true'] at h1
      cases hab : a == b
      · rfl
      · have := eq_of_beq hab
        subst this
        simp at h1
    · refine nxtR h ?_ (wk rfl ⟨rfl, rfl, up1 h hl', trivial⟩ trivial)
      intro j hj h2
      by_cases h3 : j = i
      · subst h3; simpa using h1
      · exact hI j hj (by omega)
  · refine tbt ?_
    have : a = b := List.ext_getElem hab (fun j h1 h2 => hI j h1 (by simp at h; omega))
    simp [this]
def f_CaseS (l : List Y_Case) (n : Int) : Int := szI l.length n
/-! Select -/
abbrev Y_Select := List Y_Case × Int
def t_Select (x : Y_Select) : T := .agg [.sl 5 ((x.1).map t_Case), T.int (x.2)]
def raw_Select (x : Y_Select) : Prop := ((x.1).length ≤ maxLen ∧ ∀ y ∈ x.1, raw_Case y) ∧ (Lit.int .i64 (x.2)).wf = true
def ok_Select (x : Y_Select) : Prop := ((x.1).length ≤ bound ∧ ∀ y ∈ x.1, ok_Case y)
theorem s_eqSelect (x y : Y_Select) (h : ok_Select x) : Spec Tryd.prog 14 [.ro (t_Select x), .ro (t_Select y)] [T.bool (x == y)] := by
  obtain ⟨x0, x1⟩ := x
  obtain ⟨y0, y1⟩ := y
  refine fn Tryd.func14 ?_
  repeat' (first | (first | refine brT ?_ | refine brF ?_ | refine And.intro rfl ?_ | refine And.intro trivial ?_ | intro _) | refine brI (fun _ => ?_) (fun _ => ?_))
  all_goals try exact tb (by clear h; simp_all)
  refine ⟨_, s_eqCaseS _ _ (h), ?_⟩
  repeat' (first | (first | refine brT ?_ | refine brF ?_ | refine And.intro rfl ?_ | refine And.intro trivial ?_ | intro _) | refine brI (fun _ => ?_) (fun _ => ?_))
  all_goals (refine tb ?_; clear h; simp_all)
def f_Select (x : Y_Select) (n : Int) : Int := if f_CaseS (x.1) n < 0 then -1 else f_CaseS (x.1) n
abbrev rawS_Select (l : List Y_Select) : Prop := l.length ≤ maxLen ∧ ∀ y ∈ l, raw_Select y
theorem s_eqSelectS (a b : List Y_Select) (h : a.length ≤ bound ∧ ∀ y ∈ a, ok_Select y) : Spec Tryd.prog 51 [.ro (.sl 2 (a.map t_Select)), .ro (.sl 2 (b.map t_Select))] [T.bool (a == b)] := by
  obtain ⟨hl, hel⟩ := h
  have hl' : a.length ≤ 16777216 := hl
  refine fn Tryd.func51 ?_
  refine brI (fun h => ?_) (fun h => ?_)
  · have hne : a.length ≠ b.length := by intro h1; simp [h1] at h
    refine tbf ?_
    cases hab : a == b
    · rfl
    · exact absurd (by rw [eq_of_beq hab]) hne
  have hab : a.length = b.length := by simp at h; omega
  refine loopR (fun i => ⟨27, [(0, .c (.ro 2 (a.map t_Select))), (1, .c (.ro 2 (b.map t_Select))), (5, .int i)], []⟩) a.length (fun i => ∀ j (hj : j < a.length), j < i → a[j] = b[j]) (fun j _ h => absurd h (by omega)) (wk rfl ⟨rfl, rfl, rfl, trivial⟩ trivial) ?_
  intro i hi hI
  refine brD (fun h => ?_) (fun h => ?_)
  · have h : i < a.length := by simpa using h
    refine dr (.line [0, 1, 2, 3, 4, 5, 6, 7, 8, 9]) (by kernel_rfl) ?_
    refine ⟨nn i, t_Select a[i], atm h, ?_⟩
    refine ⟨nn i, t_Select b[i], atm (by omega), ?_⟩
    refine ⟨_, s_eqSelect a[i] b[i] (hel _ (List.getElem_mem h)), ?_⟩
    intro _
    refine brI (fun h1 => ?_) (fun h1 => ?_)
    · refine tbf ?_
      simp only [Bool.not_eq_true'] at h1
      cases hab : a == b
      · rfl
      · have := eq_of_beq hab
        subst this
        simp at h1
    · refine nxtR h ?_ (wk rfl ⟨rfl, rfl, up1 h hl', trivial⟩ trivial)
      intro j hj h2
      by_cases h3 : j = i
      · subst h3; simpa using h1
      · exact hI j hj (by omega)
  · refine tbt ?_
    have : a = b := List.ext_getElem hab (fun j h1 h2 => hI j h1 (by simp at h; omega))
    simp [this]
def f_SelectS (l : List Y_Select) (n : Int) : Int := szS f_Select l n
/-! Proc -/
abbrev Y_Proc := List Y_Instr
def t_Proc (x : Y_Proc) : T := .agg [.sl 4 ((x).map t_Instr)]
def raw_Proc (x : Y_Proc) : Prop := ((x).length ≤ maxLen ∧ ∀ y ∈ x, raw_Instr y)
def ok_Proc (x : Y_Proc) : Prop := ((x).length ≤ bound ∧ ∀ y ∈ x, ok_Instr y)
theorem s_eqProc (x y : Y_Proc) (h : ok_Proc x) : Spec Tryd.prog 81 [.ro (t_Proc x), .ro (t_Proc y)] [T.bool (x == y)] := by
  refine fn Tryd.func81 ?_
  repeat' (first | (first | refine brT ?_ | refine brF ?_ | refine And.intro rfl ?_ | refine And.intro trivial ?_ | intro _) | refine brI (fun _ => ?_) (fun _ => ?_))
  all_goals try exact tb (by clear h; simp_all)
  refine ⟨_, s_eqInstrS _ _ (h), ?_⟩
  repeat' (first | (first | refine brT ?_ | refine brF ?_ | refine And.intro rfl ?_ | refine And.intro trivial ?_ | intro _) | refine brI (fun _ => ?_) (fun _ => ?_))
  all_goals (refine tb ?_; clear h; simp_all)
def f_Proc (x : Y_Proc) (n : Int) : Int := if f_InstrS (x) n < 0 then -1 else f_InstrS (x) n
abbrev rawS_Proc (l : List Y_Proc) : Prop := l.length ≤ maxLen ∧ ∀ y ∈ l, raw_Proc y
theorem s_eqProcS (a b : List Y_Proc) (h : a.length ≤ bound ∧ ∀ y ∈ a, ok_Proc y) : Spec Tryd.prog 52 [.ro (.sl 1 (a.map t_Proc)), .ro (.sl 1 (b.map t_Proc))] [T.bool (a == b)] := by
  obtain ⟨hl, hel⟩ := h
  have hl' : a.length ≤ 16777216 := hl
  refine fn Tryd.func52 ?_
  refine brI (fun h => ?_) (fun h => ?_)
  · have hne : a.length ≠ b.length := by intro h1; simp [h1] at h
    refine tbf ?_
    cases hab : a == b
    · rfl
    · exact absurd (by rw [eq_of_beq hab]) hne
  have hab : a.length = b.length := by simp at h; omega
  refine loopR (fun i => ⟨27, [(0, .c (.ro 1 (a.map t_Proc))), (1, .c (.ro 1 (b.map t_Proc))), (5, .int i)], []⟩) a.length (fun i => ∀ j (hj : j < a.length), j < i → a[j] = b[j]) (fun j _ h => absurd h (by omega)) (wk rfl ⟨rfl, rfl, rfl, trivial⟩ trivial) ?_
  intro i hi hI
  refine brD (fun h => ?_) (fun h => ?_)
  · have h : i < a.length := by simpa using h
    refine dr (.line [0, 1, 2, 3, 4, 5, 6, 7, 8, 9]) (by kernel_rfl) ?_
    refine ⟨nn i, t_Proc a[i], atm h, ?_⟩
    refine ⟨nn i, t_Proc b[i], atm (by omega), ?_⟩
    refine ⟨_, s_eqProc a[i] b[i] (hel _ (List.getElem_mem h)), ?_⟩
    intro _
    refine brI (fun h1 => ?_) (fun h1 => ?_)
    · refine tbf ?_
      simp only [Bool.not_eq_true'] at h1
      cases hab : a == b
      · rfl
      · have := eq_of_beq hab
        subst this
        simp at h1
    · refine nxtR h ?_ (wk rfl ⟨rfl, rfl, up1 h hl', trivial⟩ trivial)
      intro j hj h2
      by_cases h3 : j = i
      · subst h3; simpa using h1
      · exact hI j hj (by omega)
  · refine tbt ?_
    have : a = b := List.ext_getElem hab (fun j h1 h2 => hI j h1 (by simp at h; omega))
    simp [this]
def f_ProcS (l : List Y_Proc) (n : Int) : Int := szS f_Proc l n
/-! Prog -/
abbrev Y_Prog := List Int × Int × List Y_Select × List Y_Proc
def t_Prog (x : Y_Prog) : T := .agg [.sl 1 ((x.1).map T.int), T.int (x.2.1), .sl 2 ((x.2.2.1).map t_Select), .sl 1 ((x.2.2.2).map t_Proc)]
def raw_Prog (x : Y_Prog) : Prop := ((x.1).length ≤ maxLen ∧ ∀ y ∈ x.1, (Lit.int .i64 y).wf = true) ∧ (Lit.int .i64 (x.2.1)).wf = true ∧ ((x.2.2.1).length ≤ maxLen ∧ ∀ y ∈ x.2.2.1, raw_Select y) ∧ ((x.2.2.2).length ≤ maxLen ∧ ∀ y ∈ x.2.2.2, raw_Proc y)
def ok_Prog (x : Y_Prog) : Prop := (x.1).length ≤ bound ∧ ((x.2.2.1).length ≤ bound ∧ ∀ y ∈ x.2.2.1, ok_Select y) ∧ ((x.2.2.2).length ≤ bound ∧ ∀ y ∈ x.2.2.2, ok_Proc y)
theorem s_eqProg (x y : Y_Prog) (h : ok_Prog x) : Spec Tryd.prog 19 [.ro (t_Prog x), .ro (t_Prog y)] [T.bool (x == y)] := by
  obtain ⟨x0, x1, x2, x3⟩ := x
  obtain ⟨y0, y1, y2, y3⟩ := y
  refine fn Tryd.func19 ?_
  repeat' (first | (first | refine brT ?_ | refine brF ?_ | refine And.intro rfl ?_ | refine And.intro trivial ?_ | intro _) | refine brI (fun _ => ?_) (fun _ => ?_))
  all_goals try exact tb (by clear h; simp_all)
  refine ⟨_, s_eqIntS _ _ (h.1), ?_⟩
  repeat' (first | (first | refine brT ?_ | refine brF ?_ | refine And.intro rfl ?_ | refine And.intro trivial ?_ | intro _) | refine brI (fun _ => ?_) (fun _ => ?_))
  all_goals try exact tb (by clear h; simp_all)
  refine ⟨_, s_eqSelectS _ _ (h.2.1), ?_⟩
  repeat' (first | (first | refine brT ?_ | refine brF ?_ | refine And.intro rfl ?_ | refine And.intro trivial ?_ | intro _) | refine brI (fun _ => ?_) (fun _ => ?_))
  all_goals try exact tb (by clear h; simp_all)
  refine ⟨_, s_eqProcS _ _ (h.2.2), ?_⟩
  repeat' (first | (first | refine brT ?_ | refine brF ?_ | refine And.intro rfl ?_ | refine And.intro trivial ?_ | intro _) | refine brI (fun _ => ?_) (fun _ => ?_))
  all_goals (refine tb ?_; clear h; simp_all)
def f_Prog (x : Y_Prog) (n : Int) : Int := if szI (x.1).length n < 0 then -1 else (if f_SelectS (x.2.2.1) (szI (x.1).length n) < 0 then -1 else (if f_ProcS (x.2.2.2) (f_SelectS (x.2.2.1) (szI (x.1).length n)) < 0 then -1 else f_ProcS (x.2.2.2) (f_SelectS (x.2.2.1) (szI (x.1).length n))))
abbrev rawS_Prog (l : List Y_Prog) : Prop := l.length ≤ maxLen ∧ ∀ y ∈ l, raw_Prog y
def f_ProgS (l : List Y_Prog) (n : Int) : Int := szS f_Prog l n


end Go.Proofs.YtphikogfogejlaaDoor.E
