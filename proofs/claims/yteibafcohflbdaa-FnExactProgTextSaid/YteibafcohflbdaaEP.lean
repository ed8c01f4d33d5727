/- Contracts of functions of this seat's program. -/
import Derived.Test.YteibafcohflbdaaETy
import Derived.Test.YteibafcohflbdaaEA
namespace Go.Proofs.Yteibafcohflbdaa.E
set_option linter.unusedVariables false
set_option linter.unusedSimpArgs false
set_option maxHeartbeats 1600000
/-! Instr -/
abbrev Y_Instr := Int × Int × Int × Int
def t_Instr (x : Y_Instr) : T := .agg [T.int (x.1), T.int (x.2.1), T.int (x.2.2.1), T.int (x.2.2.2)]
def raw_Instr (x : Y_Instr) : Prop := (Lit.int .i64 (x.1)).wf = true ∧ (Lit.int .i64 (x.2.1)).wf = true ∧ (Lit.int .i64 (x.2.2.1)).wf = true ∧ (Lit.int .i64 (x.2.2.2)).wf = true
def ok_Instr (x : Y_Instr) : Prop := True
theorem s_toInstr (x : Y_Instr) (h : ok_Instr x) : Spec Try.prog 7 [.ro (t_Instr x)] [t_Instr x] := by
  refine fn Try.func7 ?_
  repeat (first | refine brT ?_ | refine brF ?_ | refine And.intro rfl ?_ | refine And.intro trivial ?_ | intro _)
  rfl
theorem s_eqInstr (x y : Y_Instr) (h : ok_Instr x) : Spec Try.prog 81 [.ro (t_Instr x), .ro (t_Instr y)] [T.bool (x == y)] := by
  obtain ⟨x0, x1, x2, x3⟩ := x
  obtain ⟨y0, y1, y2, y3⟩ := y
  refine fn Try.func81 ?_
  repeat' (first | (first | refine brT ?_ | refine brF ?_ | refine And.intro rfl ?_ | refine And.intro trivial ?_ | intro _) | refine brI (fun _ => ?_) (fun _ => ?_))
  all_goals (refine tb ?_; clear h; simp_all)
abbrev rawS_Instr (l : List Y_Instr) : Prop := l.length ≤ maxLen ∧ ∀ y ∈ l, raw_Instr y
theorem s_toInstrS (l : List Y_Instr) (h : l.length ≤ bound ∧ ∀ y ∈ l, ok_Instr y) : Spec Try.prog 69 [.ro (.sl 4 (l.map t_Instr))] [.sl 4 (l.map t_Instr)] := by
  obtain ⟨hl, hel⟩ := h
  have hl' : l.length ≤ 16777216 := hl
  refine fn Try.func69 ?_
  refine ⟨rfl, by simp, by simpa using hl, fun q => ?_⟩
  refine loopI (fun x : Nat × Nat => ⟨23, [(0, .c (.ro 4 (l.map t_Instr))), (3, .c (.own 8000 q)), (4, .int x.1)], [(8000, .row q x.2 4 ((l.map t_Instr).take x.1 ++ List.replicate (l.length - x.1) (t_Instr (0, 0, 0, 0))))]⟩) (fun x => l.length - x.1) (fun x => x.1 ≤ l.length) (0, 0) (Nat.zero_le _)
    (wk rfl ⟨rfl, rfl, rfl, trivial⟩ ⟨?_, trivial⟩) ?_
  · simp; rfl
  · rintro ⟨i, v⟩ hi
    refine brD (fun h => ?_) (fun h => ?_)
    · have hlt : i < l.length := by simpa using h
      refine ⟨by omega, t_Instr l[i], by simp [hlt], ?_⟩
      refine ⟨_, s_toInstr l[i] (hel _ (List.getElem_mem hlt)), ?_⟩
      intro q1
      refine ⟨rfl, by omega, by simp; omega, ?_⟩
      repeat (first | refine brT ?_ | refine brF ?_ | refine And.intro rfl ?_ | refine And.intro trivial ?_ | intro _)
      refine ⟨t_Instr (0, 0, 0, 0), ?_, Nat.le_refl _, fun v' => ?_⟩
      · have h1 : min i l.length = i := by omega
        simp [List.getElem?_append_right, h1, List.getElem?_replicate]; omega
      · refine nxt (i + 1, v') hlt (by show _ < _; simp only; omega) (wk rfl ⟨rfl, rfl, congrArg AV.int (w64_id (by omega) (by omega)), trivial⟩ ⟨?_, trivial⟩)
        have := fill_set (l.map t_Instr) (t_Instr (0, 0, 0, 0)) l.length i (by simp) hlt
        simp only [List.getElem_map] at this
        rw [← this]; rfl
    · have : i = l.length := by simp at h; omega
      subst this
      refine ⟨rfl, ?_⟩
      show _ = _
      simp [List.take_of_length_le]
theorem s_eqInstrS (a b : List Y_Instr) (h : a.length ≤ bound ∧ ∀ y ∈ a, ok_Instr y) : Spec Try.prog 75 [.ro (.sl 4 (a.map t_Instr)), .ro (.sl 4 (b.map t_Instr))] [T.bool (a == b)] := by
  obtain ⟨hl, hel⟩ := h
  have hl' : a.length ≤ 16777216 := hl
  refine fn Try.func75 ?_
  refine brI (fun h => ?_) (fun h => ?_)
  · have hne : a.length ≠ b.length := by intro h1; simp [h1] at h
    refine tbf ?_
    cases hab : a == b
    · rfl
    · exact absurd (by rw [eq_of_beq hab]) hne
  have hab : a.length = b.length := by simp at h; omega
  refine loopR (fun i => ⟨27, [(0, .c (.ro 4 (a.map t_Instr))), (1, .c (.ro 4 (b.map t_Instr))), (5, .int i)], []⟩) a.length (fun i => ∀ j (hj : j < a.length), j < i → a[j] = b[j]) (fun j _ h => absurd h (by omega)) (wk rfl ⟨rfl, rfl, rfl, trivial⟩ trivial) ?_
  intro i hi hI
  refine brD (fun h => ?_) (fun h => ?_)
  · have h : i < a.length := by simpa using h
    refine dr (.line [0, 1, 2, 3, 4, 5, 6, 7, 8, 9]) (by kernel_rfl) ?_
    refine ⟨nn i, t_Instr a[i], atm h, ?_⟩
    refine ⟨nn i, t_Instr b[i], atm (by omega), ?_⟩
    refine ⟨_, s_eqInstr a[i] b[i] (hel _ (List.getElem_mem h)), ?_⟩
    intro _
    refine brI (fun h1 => ?_) (fun h1 => ?_)
    · refine tbf ?_
      simp only [Bool.not_eq_true'] at h1
      cases hab : a == b
      · rfl
      · have := eq_of_beq hab
        subst this
        simp at h1
    · refine nxtR h ?_ (wk rfl ⟨rfl, rfl, up1 h hl', trivial⟩ trivial)
      intro j hj h2
      by_cases h3 : j = i
      · subst h3; simpa using h1
      · exact hI j hj (by omega)
  · refine tbt ?_
    have : a = b := List.ext_getElem hab (fun j h1 h2 => hI j h1 (by simp at h; omega))
    simp [this]
def f_InstrS (l : List Y_Instr) (n : Int) : Int := szI l.length n
theorem in_InstrS {l : List Y_Instr} {n : Int} (hr : rawS_Instr l) (h0 : 0 ≤ n) (hn : n ≤ 1048576) (h : ¬ f_InstrS l n < 0) : (l.length ≤ bound ∧ ∀ y ∈ l, ok_Instr y) ∧ 0 ≤ f_InstrS l n ∧ f_InstrS l n ≤ n := by
  have := szI_in hr.1 h0 hn h
  unfold f_InstrS at h ⊢
  exact ⟨⟨by unfold bound; omega, fun _ _ => trivial⟩, by omega, by omega⟩
theorem s_szInstrS (l : List Y_Instr) (n : Int) (hr : rawS_Instr l) (h0 : 0 ≤ n) (hn : n ≤ 1048576) : Spec Try.prog 65 [.ro (.sl 4 (l.map t_Instr)), .ro (.int n)] [.int (f_InstrS l n)] := by
  refine fn Try.func65 ?_
  refine brI (fun h => ?_) (fun h => ?_)
  · have h1 := of_decide_eq_true h
    rw [List.length_map] at h1
    refine ti ?_
    simp only [f_InstrS, szI, w64, h1, if_true]
  · have h1 := of_decide_eq_false h
    rw [List.length_map] at h1
    refine ti ?_
    simp only [f_InstrS, szI, w64, h1, if_false, List.length_map]
/-! Case -/
abbrev Y_Case := Bool × Int × Int × Int × Int
def t_Case (x : Y_Case) : T := .agg [T.bool (x.1), T.int (x.2.1), T.int (x.2.2.1), T.int (x.2.2.2.1), T.int (x.2.2.2.2)]
def raw_Case (x : Y_Case) : Prop := True ∧ (Lit.int .i64 (x.2.1)).wf = true ∧ (Lit.int .i64 (x.2.2.1)).wf = true ∧ (Lit.int .i64 (x.2.2.2.1)).wf = true ∧ (Lit.int .i64 (x.2.2.2.2)).wf = true
def ok_Case (x : Y_Case) : Prop := True
theorem s_toCase (x : Y_Case) (h : ok_Case x) : Spec Try.prog 52 [.ro (t_Case x)] [t_Case x] := by
  refine fn Try.func52 ?_
  repeat (first | refine brT ?_ | refine brF ?_ | refine And.intro rfl ?_ | refine And.intro trivial ?_ | intro _)
  rfl
theorem s_eqCase (x y : Y_Case) (h : ok_Case x) : Spec Try.prog 53 [.ro (t_Case x), .ro (t_Case y)] [T.bool (x == y)] := by
  obtain ⟨x0, x1, x2, x3, x4⟩ := x
  obtain ⟨y0, y1, y2, y3, y4⟩ := y
  refine fn Try.func53 ?_
  repeat' (first | (first | refine brT ?_ | refine brF ?_ | refine And.intro rfl ?_ | refine And.intro trivial ?_ | intro _) | refine brI (fun _ => ?_) (fun _ => ?_))
  all_goals (refine tb ?_; clear h; simp_all)
abbrev rawS_Case (l : List Y_Case) : Prop := l.length ≤ maxLen ∧ ∀ y ∈ l, raw_Case y
theorem s_toCaseS (l : List Y_Case) (h : l.length ≤ bound ∧ ∀ y ∈ l, ok_Case y) : Spec Try.prog 32 [.ro (.sl 5 (l.map t_Case))] [.sl 5 (l.map t_Case)] := by
  obtain ⟨hl, hel⟩ := h
  have hl' : l.length ≤ 16777216 := hl
  refine fn Try.func32 ?_
  refine ⟨rfl, by simp, by simpa using hl, fun q => ?_⟩
  refine loopI (fun x : Nat × Nat => ⟨23, [(0, .c (.ro 5 (l.map t_Case))), (3, .c (.own 8000 q)), (4, .int x.1)], [(8000, .row q x.2 5 ((l.map t_Case).take x.1 ++ List.replicate (l.length - x.1) (t_Case (false, 0, 0, 0, 0))))]⟩) (fun x => l.length - x.1) (fun x => x.1 ≤ l.length) (0, 0) (Nat.zero_le _)
    (wk rfl ⟨rfl, rfl, rfl, trivial⟩ ⟨?_, trivial⟩) ?_
  · simp; rfl
  · rintro ⟨i, v⟩ hi
    refine brD (fun h => ?_) (fun h => ?_)
    · have hlt : i < l.length := by simpa using h
      refine ⟨by omega, t_Case l[i], by simp [hlt], ?_⟩
      refine ⟨_, s_toCase l[i] (hel _ (List.getElem_mem hlt)), ?_⟩
      intro q1
      refine ⟨rfl, by omega, by simp; omega, ?_⟩
      repeat (first | refine brT ?_ | refine brF ?_ | refine And.intro rfl ?_ | refine And.intro trivial ?_ | intro _)
      refine ⟨t_Case (false, 0, 0, 0, 0), ?_, Nat.le_refl _, fun v' => ?_⟩
      · have h1 : min i l.length = i := by omega
        simp [List.getElem?_append_right, h1, List.getElem?_replicate]; omega
      · refine nxt (i + 1, v') hlt (by show _ < _; simp only; omega) (wk rfl ⟨rfl, rfl, congrArg AV.int (w64_id (by omega) (by omega)), trivial⟩ ⟨?_, trivial⟩)
        have := fill_set (l.map t_Case) (t_Case (false, 0, 0, 0, 0)) l.length i (by simp) hlt
        simp only [List.getElem_map] at this
        rw [← this]; rfl
    · have : i = l.length := by simp at h; omega
      subst this
      refine ⟨rfl, ?_⟩
      show _ = _
      simp [List.take_of_length_le]
theorem s_eqCaseS (a b : List Y_Case) (h : a.length ≤ bound ∧ ∀ y ∈ a, ok_Case y) : Spec Try.prog 34 [.ro (.sl 5 (a.map t_Case)), .ro (.sl 5 (b.map t_Case))] [T.bool (a == b)] := by
  obtain ⟨hl, hel⟩ := h
  have hl' : a.length ≤ 16777216 := hl
  refine fn Try.func34 ?_
  refine brI (fun h => ?_) (fun h => ?_)
  · have hne : a.length ≠ b.length := by intro h1; simp [h1] at h
    refine tbf ?_
    cases hab : a == b
    · rfl
    · exact absurd (by rw [eq_of_beq hab]) hne
  have hab : a.length = b.length := by simp at h; omega
  refine loopR (fun i => ⟨27, [(0, .c (.ro 5 (a.map t_Case))), (1, .c (.ro 5 (b.map t_Case))), (5, .int i)], []⟩) a.length (fun i => ∀ j (hj : j < a.length), j < i → a[j] = b[j]) (fun j _ h => absurd h (by omega)) (wk rfl ⟨rfl, rfl, rfl, trivial⟩ trivial) ?_
  intro i hi hI
  refine brD (fun h => ?_) (fun h => ?_)
  · have h : i < a.length := by simpa using h
    refine dr (.line [0, 1, 2, 3, 4, 5, 6, 7, 8, 9]) (by kernel_rfl) ?_
    refine ⟨nn i, t_Case a[i], atm h, ?_⟩
    refine ⟨nn i, t_Case b[i], atm (by omega), ?_⟩
    refine ⟨_, s_eqCase a[i] b[i] (hel _ (List.getElem_mem h)), ?_⟩
    intro _
    refine brI (fun h1 => ?_) (fun h1 => ?_)
    · refine tbf ?_
      simp only [Bool.not_eq_true'] at h1
      cases hab : a == b
      · rfl
      · have := eq_of_beq hab
        subst this
        simp at h1
    · refine nxtR h ?_ (wk rfl ⟨rfl, rfl, up1 h hl', trivial⟩ trivial)
      intro j hj h2
      by_cases h3 : j = i
      · subst h3; simpa using h1
      · exact hI j hj (by omega)
  · refine tbt ?_
    have : a = b := List.ext_getElem hab (fun j h1 h2 => hI j h1 (by simp at h; omega))
    simp [this]
def f_CaseS (l : List Y_Case) (n : Int) : Int := szI l.length n
theorem in_CaseS {l : List Y_Case} {n : Int} (hr : rawS_Case l) (h0 : 0 ≤ n) (hn : n ≤ 1048576) (h : ¬ f_CaseS l n < 0) : (l.length ≤ bound ∧ ∀ y ∈ l, ok_Case y) ∧ 0 ≤ f_CaseS l n ∧ f_CaseS l n ≤ n := by
  have := szI_in hr.1 h0 hn h
  unfold f_CaseS at h ⊢
  exact ⟨⟨by unfold bound; omega, fun _ _ => trivial⟩, by omega, by omega⟩
theorem s_szCaseS (l : List Y_Case) (n : Int) (hr : rawS_Case l) (h0 : 0 ≤ n) (hn : n ≤ 1048576) : Spec Try.prog 30 [.ro (.sl 5 (l.map t_Case)), .ro (.int n)] [.int (f_CaseS l n)] := by
  refine fn Try.func30 ?_
  refine brI (fun h => ?_) (fun h => ?_)
  · have h1 := of_decide_eq_true h
    rw [List.length_map] at h1
    refine ti ?_
    simp only [f_CaseS, szI, w64, h1, if_true]
  · have h1 := of_decide_eq_false h
    rw [List.length_map] at h1
    refine ti ?_
    simp only [f_CaseS, szI, w64, h1, if_false, List.length_map]
/-! Select -/
abbrev Y_Select := List Y_Case × Int
def t_Select (x : Y_Select) : T := .agg [.sl 5 ((x.1).map t_Case), T.int (x.2)]
def raw_Select (x : Y_Select) : Prop := ((x.1).length ≤ maxLen ∧ ∀ y ∈ x.1, raw_Case y) ∧ (Lit.int .i64 (x.2)).wf = true
def ok_Select (x : Y_Select) : Prop := ((x.1).length ≤ bound ∧ ∀ y ∈ x.1, ok_Case y)
theorem s_toSelect (x : Y_Select) (h : ok_Select x) : Spec Try.prog 11 [.ro (t_Select x)] [t_Select x] := by
  refine fn Try.func11 ?_
  repeat (first | refine brT ?_ | refine brF ?_ | refine And.intro rfl ?_ | refine And.intro trivial ?_ | intro _)
  refine ⟨_, s_toCaseS _ (h), ?_⟩
  repeat (first | refine brT ?_ | refine brF ?_ | refine And.intro rfl ?_ | refine And.intro trivial ?_ | intro _)
  rfl
theorem s_eqSelect (x y : Y_Select) (h : ok_Select x) : Spec Try.prog 13 [.ro (t_Select x), .ro (t_Select y)] [T.bool (x == y)] := by
  obtain ⟨x0, x1⟩ := x
  obtain ⟨y0, y1⟩ := y
  refine fn Try.func13 ?_
  repeat' (first | (first | refine brT ?_ | refine brF ?_ | refine And.intro rfl ?_ | refine And.intro trivial ?_ | intro _) | refine brI (fun _ => ?_) (fun _ => ?_))
  all_goals try exact tb (by clear h; simp_all)
  refine ⟨_, s_eqCaseS _ _ (h), ?_⟩
  repeat' (first | (first | refine brT ?_ | refine brF ?_ | refine And.intro rfl ?_ | refine And.intro trivial ?_ | intro _) | refine brI (fun _ => ?_) (fun _ => ?_))
  all_goals (refine tb ?_; clear h; simp_all)
def f_Select (x : Y_Select) (n : Int) : Int := if f_CaseS (x.1) n < 0 then -1 else f_CaseS (x.1) n
theorem in_Select {x : Y_Select} {n : Int} (hr : raw_Select x) (h0 : 0 ≤ n) (hn : n ≤ 1048576) (h : ¬ f_Select x n < 0) : ok_Select x ∧ 0 ≤ f_Select x n ∧ f_Select x n ≤ n := by
  unfold f_Select at h ⊢
  split at h
  · omega
  rename_i c0
  obtain ⟨o0, a0, b0⟩ := in_CaseS (hr.1) h0 hn c0
  rw [if_neg c0]
  exact ⟨o0, a0, by omega⟩
theorem s_szSelect (x : Y_Select) (n : Int) (hr : raw_Select x) (h0 : 0 ≤ n) (hn : n ≤ 1048576) : Spec Try.prog 9 [.ro (t_Select x), .ro (.int n)] [.int (f_Select x n)] := by
  refine fn Try.func9 ?_
  repeat (first | refine brT ?_ | refine brF ?_ | refine And.intro rfl ?_ | refine And.intro trivial ?_ | intro _)
  refine ⟨_, s_szCaseS _ _ (hr.1) h0 hn, ?_⟩
  intro _
  refine brI (fun c0 => ?_) (fun c0 => ?_)
  · have c0 := of_decide_eq_true c0
    refine ti ?_
    unfold f_Select
    rw [if_pos c0]
  have c0 := of_decide_eq_false c0
  refine ti ?_
  unfold f_Select
  rw [if_neg c0]
abbrev rawS_Select (l : List Y_Select) : Prop := l.length ≤ maxLen ∧ ∀ y ∈ l, raw_Select y
theorem s_toSelectS (l : List Y_Select) (h : l.length ≤ bound ∧ ∀ y ∈ l, ok_Select y) : Spec Try.prog 41 [.ro (.sl 2 (l.map t_Select))] [.sl 2 (l.map t_Select)] := by
  obtain ⟨hl, hel⟩ := h
  have hl' : l.length ≤ 16777216 := hl
  refine fn Try.func41 ?_
  refine ⟨rfl, by simp, by simpa using hl, fun q => ?_⟩
  refine loopI (fun x : Nat × Nat => ⟨23, [(0, .c (.ro 2 (l.map t_Select))), (3, .c (.own 8000 q)), (4, .int x.1)], [(8000, .row q x.2 2 ((l.map t_Select).take x.1 ++ List.replicate (l.length - x.1) (t_Select ([], 0))))]⟩) (fun x => l.length - x.1) (fun x => x.1 ≤ l.length) (0, 0) (Nat.zero_le _)
    (wk rfl ⟨rfl, rfl, rfl, trivial⟩ ⟨?_, trivial⟩) ?_
  · simp; rfl
  · rintro ⟨i, v⟩ hi
    refine brD (fun h => ?_) (fun h => ?_)
    · have hlt : i < l.length := by simpa using h
      refine ⟨by omega, t_Select l[i], by simp [hlt], ?_⟩
      refine ⟨_, s_toSelect l[i] (hel _ (List.getElem_mem hlt)), ?_⟩
      intro q1
      refine ⟨rfl, by omega, by simp; omega, ?_⟩
      repeat (first | refine brT ?_ | refine brF ?_ | refine And.intro rfl ?_ | refine And.intro trivial ?_ | intro _)
      refine ⟨t_Select ([], 0), ?_, Nat.le_refl _, fun v' => ?_⟩
      · have h1 : min i l.length = i := by omega
        simp [List.getElem?_append_right, h1, List.getElem?_replicate]; omega
      · refine nxt (i + 1, v') hlt (by show _ < _; simp only; omega) (wk rfl ⟨rfl, rfl, congrArg AV.int (w64_id (by omega) (by omega)), trivial⟩ ⟨?_, trivial⟩)
        have := fill_set (l.map t_Select) (t_Select ([], 0)) l.length i (by simp) hlt
        simp only [List.getElem_map] at this
        rw [← this]; rfl
    · have : i = l.length := by simp at h; omega
      subst this
      refine ⟨rfl, ?_⟩
      show _ = _
      simp [List.take_of_length_le]
theorem s_eqSelectS (a b : List Y_Select) (h : a.length ≤ bound ∧ ∀ y ∈ a, ok_Select y) : Spec Try.prog 45 [.ro (.sl 2 (a.map t_Select)), .ro (.sl 2 (b.map t_Select))] [T.bool (a == b)] := by
  obtain ⟨hl, hel⟩ := h
  have hl' : a.length ≤ 16777216 := hl
  refine fn Try.func45 ?_
  refine brI (fun h => ?_) (fun h => ?_)
  · have hne : a.length ≠ b.length := by intro h1; simp [h1] at h
    refine tbf ?_
    cases hab : a == b
    · rfl
    · exact absurd (by rw [eq_of_beq hab]) hne
  have hab : a.length = b.length := by simp at h; omega
  refine loopR (fun i => ⟨27, [(0, .c (.ro 2 (a.map t_Select))), (1, .c (.ro 2 (b.map t_Select))), (5, .int i)], []⟩) a.length (fun i => ∀ j (hj : j < a.length), j < i → a[j] = b[j]) (fun j _ h => absurd h (by omega)) (wk rfl ⟨rfl, rfl, rfl, trivial⟩ trivial) ?_
  intro i hi hI
  refine brD (fun h => ?_) (fun h => ?_)
  · have h : i < a.length := by simpa using h
    refine dr (.line [0, 1, 2, 3, 4, 5, 6, 7, 8, 9]) (by kernel_rfl) ?_
    refine ⟨nn i, t_Select a[i], atm h, ?_⟩
    refine ⟨nn i, t_Select b[i], atm (by omega), ?_⟩
    refine ⟨_, s_eqSelect a[i] b[i] (hel _ (List.getElem_mem h)), ?_⟩
    intro _
    refine brI (fun h1 => ?_) (fun h1 => ?_)
    · refine tbf ?_
      simp only [Bool.not_eq_true'] at h1
      cases hab : a == b
      · rfl
      · have := eq_of_beq hab
        subst this
        simp at h1
    · refine nxtR h ?_ (wk rfl ⟨rfl, rfl, up1 h hl', trivial⟩ trivial)
      intro j hj h2
      by_cases h3 : j = i
      · subst h3; simpa using h1
      · exact hI j hj (by omega)
  · refine tbt ?_
    have : a = b := List.ext_getElem hab (fun j h1 h2 => hI j h1 (by simp at h; omega))
    simp [this]
def f_SelectS (l : List Y_Select) (n : Int) : Int := szS f_Select l n
theorem in_SelectS {l : List Y_Select} {n : Int} (hr : rawS_Select l) (h0 : 0 ≤ n) (hn : n ≤ 1048576) (h : ¬ f_SelectS l n < 0) : (l.length ≤ bound ∧ ∀ y ∈ l, ok_Select y) ∧ 0 ≤ f_SelectS l n ∧ f_SelectS l n ≤ n :=
  szS_in (fun x n hr h0 hn h => in_Select hr h0 hn h) hr.1 hr.2 h0 hn h
theorem s_szSelectS (l : List Y_Select) (n : Int) (hr : rawS_Select l) (h0 : 0 ≤ n) (hn : n ≤ 1048576) : Spec Try.prog 36 [.ro (.sl 2 (l.map t_Select)), .ro (.int n)] [.int (f_SelectS l n)] := by
  refine fn Try.func36 ?_
  refine brI (fun h => ?_) (fun h => ?_)
  · have h1 := of_decide_eq_true h
    rw [List.length_map] at h1
    refine ti ?_
    simp only [f_SelectS, szS, szI, w64, h1, if_true]; rfl
  have h1 := of_decide_eq_false h
  rw [List.length_map] at h1
  have hI : ¬ szI l.length n < 0 := by simp only [szI, w64, h1, if_false, not_false_eq_true]
  obtain ⟨c1, c2⟩ := szI_in hr.1 h0 hn hI
  have hw : w64 (n - l.length) = szI l.length n := by simp only [szI, w64, h1, if_false]
  have hl' : l.length ≤ 16777216 := by omega
  refine loopI (fun x : Nat × Int => ⟨27, [(0, .c (.ro 2 (l.map t_Select))), (1, .int x.2), (5, .int x.1)], []⟩) (fun x => l.length - x.1) (fun x => x.1 ≤ l.length ∧ 0 ≤ x.2 ∧ x.2 ≤ 1048576 ∧ foldSz f_Select (l.drop x.1) x.2 = f_SelectS l n) (0, szI l.length n) ⟨Nat.zero_le _, by simp only; omega, by simp only; omega, by simp only [f_SelectS, szS, hI, if_false, List.drop_zero]⟩
    (wk rfl ⟨rfl, (by rw [← hw]; exact congrArg (fun k : Nat => AV.int (w64 (n - (k : Int)))) (List.length_map ..)), rfl, trivial⟩ trivial) ?_
  rintro ⟨i, m⟩ ⟨hi, hm0, hm1, hI⟩
  simp only at hi hm0 hm1 hI
  refine brD (fun h => ?_) (fun h => ?_)
  · have h : i < l.length := by simpa using h
    have hraw := hr.2 _ (List.getElem_mem h)
    refine ⟨nn i, t_Select l[i], atm h, ?_⟩
    refine ⟨_, s_szSelect l[i] m hraw hm0 hm1, ?_⟩
    intro _
    rw [List.drop_eq_getElem_cons h] at hI
    simp only [foldSz] at hI
    refine brI (fun h2 => ?_) (fun h2 => ?_)
    · have h2 := of_decide_eq_true h2
      rw [if_pos h2] at hI
      exact ti hI
    · have h2 := of_decide_eq_false h2
      rw [if_neg h2] at hI
      obtain ⟨_, a1, a2⟩ := in_Select hraw hm0 hm1 h2
      exact nxt (i + 1, f_Select l[i] m) ⟨h, a1, by simp only; omega, hI⟩ (by show l.length - (i + 1) < l.length - i; omega) (wk rfl ⟨rfl, rfl, up1 h hl', trivial⟩ trivial)
  · have : i = l.length := by simp at h; omega
    subst this
    rw [List.drop_length] at hI
    exact ti hI
/-! Proc -/
abbrev Y_Proc := List Y_Instr
def t_Proc (x : Y_Proc) : T := .agg [.sl 4 ((x).map t_Instr)]
def raw_Proc (x : Y_Proc) : Prop := ((x).length ≤ maxLen ∧ ∀ y ∈ x, raw_Instr y)
def ok_Proc (x : Y_Proc) : Prop := ((x).length ≤ bound ∧ ∀ y ∈ x, ok_Instr y)
theorem s_toProc (x : Y_Proc) (h : ok_Proc x) : Spec Try.prog 58 [.ro (t_Proc x)] [t_Proc x] := by
  refine fn Try.func58 ?_
  repeat (first | refine brT ?_ | refine brF ?_ | refine And.intro rfl ?_ | refine And.intro trivial ?_ | intro _)
  refine ⟨_, s_toInstrS _ (h), ?_⟩
  repeat (first | refine brT ?_ | refine brF ?_ | refine And.intro rfl ?_ | refine And.intro trivial ?_ | intro _)
  rfl
theorem s_eqProc (x y : Y_Proc) (h : ok_Proc x) : Spec Try.prog 61 [.ro (t_Proc x), .ro (t_Proc y)] [T.bool (x == y)] := by
  refine fn Try.func61 ?_
  repeat' (first | (first | refine brT ?_ | refine brF ?_ | refine And.intro rfl ?_ | refine And.intro trivial ?_ | intro _) | refine brI (fun _ => ?_) (fun _ => ?_))
  all_goals try exact tb (by clear h; simp_all)
  refine ⟨_, s_eqInstrS _ _ (h), ?_⟩
  repeat' (first | (first | refine brT ?_ | refine brF ?_ | refine And.intro rfl ?_ | refine And.intro trivial ?_ | intro _) | refine brI (fun _ => ?_) (fun _ => ?_))
  all_goals (refine tb ?_; clear h; simp_all)
def f_Proc (x : Y_Proc) (n : Int) : Int := if f_InstrS (x) n < 0 then -1 else f_InstrS (x) n
theorem in_Proc {x : Y_Proc} {n : Int} (hr : raw_Proc x) (h0 : 0 ≤ n) (hn : n ≤ 1048576) (h : ¬ f_Proc x n < 0) : ok_Proc x ∧ 0 ≤ f_Proc x n ∧ f_Proc x n ≤ n := by
  unfold f_Proc at h ⊢
  split at h
  · omega
  rename_i c0
  obtain ⟨o0, a0, b0⟩ := in_InstrS (hr) h0 hn c0
  rw [if_neg c0]
  exact ⟨o0, a0, by omega⟩
theorem s_szProc (x : Y_Proc) (n : Int) (hr : raw_Proc x) (h0 : 0 ≤ n) (hn : n ≤ 1048576) : Spec Try.prog 54 [.ro (t_Proc x), .ro (.int n)] [.int (f_Proc x n)] := by
  refine fn Try.func54 ?_
  repeat (first | refine brT ?_ | refine brF ?_ | refine And.intro rfl ?_ | refine And.intro trivial ?_ | intro _)
  refine ⟨_, s_szInstrS _ _ (hr) h0 hn, ?_⟩
  intro _
  refine brI (fun c0 => ?_) (fun c0 => ?_)
  · have c0 := of_decide_eq_true c0
    refine ti ?_
    unfold f_Proc
    rw [if_pos c0]
  have c0 := of_decide_eq_false c0
  refine ti ?_
  unfold f_Proc
  rw [if_neg c0]
abbrev rawS_Proc (l : List Y_Proc) : Prop := l.length ≤ maxLen ∧ ∀ y ∈ l, raw_Proc y
theorem s_toProcS (l : List Y_Proc) (h : l.length ≤ bound ∧ ∀ y ∈ l, ok_Proc y) : Spec Try.prog 42 [.ro (.sl 1 (l.map t_Proc))] [.sl 1 (l.map t_Proc)] := by
  obtain ⟨hl, hel⟩ := h
  have hl' : l.length ≤ 16777216 := hl
  refine fn Try.func42 ?_
  refine ⟨rfl, by simp, by simpa using hl, fun q => ?_⟩
  refine loopI (fun x : Nat × Nat => ⟨23, [(0, .c (.ro 1 (l.map t_Proc))), (3, .c (.own 8000 q)), (4, .int x.1)], [(8000, .row q x.2 1 ((l.map t_Proc).take x.1 ++ List.replicate (l.length - x.1) (t_Proc ([]))))]⟩) (fun x => l.length - x.1) (fun x => x.1 ≤ l.length) (0, 0) (Nat.zero_le _)
    (wk rfl ⟨rfl, rfl, rfl, trivial⟩ ⟨?_, trivial⟩) ?_
  · simp; rfl
  · rintro ⟨i, v⟩ hi
    refine brD (fun h => ?_) (fun h => ?_)
    · have hlt : i < l.length := by simpa using h
      refine ⟨by omega, t_Proc l[i], by simp [hlt], ?_⟩
      refine ⟨_, s_toProc l[i] (hel _ (List.getElem_mem hlt)), ?_⟩
      intro q1
      refine ⟨rfl, by omega, by simp; omega, ?_⟩
      repeat (first | refine brT ?_ | refine brF ?_ | refine And.intro rfl ?_ | refine And.intro trivial ?_ | intro _)
      refine ⟨t_Proc ([]), ?_, Nat.le_refl _, fun v' => ?_⟩
      · have h1 : min i l.length = i := by omega
        simp [List.getElem?_append_right, h1, List.getElem?_replicate]; omega
      · refine nxt (i + 1, v') hlt (by show _ < _; simp only; omega) (wk rfl ⟨rfl, rfl, congrArg AV.int (w64_id (by omega) (by omega)), trivial⟩ ⟨?_, trivial⟩)
        have := fill_set (l.map t_Proc) (t_Proc ([])) l.length i (by simp) hlt
        simp only [List.getElem_map] at this
        rw [← this]; rfl
    · have : i = l.length := by simp at h; omega
      subst this
      refine ⟨rfl, ?_⟩
      show _ = _
      simp [List.take_of_length_le]
theorem s_eqProcS (a b : List Y_Proc) (h : a.length ≤ bound ∧ ∀ y ∈ a, ok_Proc y) : Spec Try.prog 46 [.ro (.sl 1 (a.map t_Proc)), .ro (.sl 1 (b.map t_Proc))] [T.bool (a == b)] := by
  obtain ⟨hl, hel⟩ := h
  have hl' : a.length ≤ 16777216 := hl
  refine fn Try.func46 ?_
  refine brI (fun h => ?_) (fun h => ?_)
  · have hne : a.length ≠ b.length := by intro h1; simp [h1] at h
    refine tbf ?_
    cases hab : a == b
    · rfl
    · exact absurd (by rw [eq_of_beq hab]) hne
  have hab : a.length = b.length := by simp at h; omega
  refine loopR (fun i => ⟨27, [(0, .c (.ro 1 (a.map t_Proc))), (1, .c (.ro 1 (b.map t_Proc))), (5, .int i)], []⟩) a.length (fun i => ∀ j (hj : j < a.length), j < i → a[j] = b[j]) (fun j _ h => absurd h (by omega)) (wk rfl ⟨rfl, rfl, rfl, trivial⟩ trivial) ?_
  intro i hi hI
  refine brD (fun h => ?_) (fun h => ?_)
  · have h : i < a.length := by simpa using h
    refine dr (.line [0, 1, 2, 3, 4, 5, 6, 7, 8, 9]) (by kernel_rfl) ?_
    refine ⟨nn i, t_Proc a[i], atm h, ?_⟩
    refine ⟨nn i, t_Proc b[i], atm (by omega), ?_⟩
    refine ⟨_, s_eqProc a[i] b[i] (hel _ (List.getElem_mem h)), ?_⟩
    intro _
    refine brI (fun h1 => ?_) (fun h1 => ?_)
    · refine tbf ?_
      simp only [Bool.not_eq_true'] at h1
      cases hab : a == b
      · rfl
      · have := eq_of_beq hab
        subst this
        simp at h1
    · refine nxtR h ?_ (wk rfl ⟨rfl, rfl, up1 h hl', trivial⟩ trivial)
      intro j hj h2
      by_cases h3 : j = i
      · subst h3; simpa using h1
      · exact hI j hj (by omega)
  · refine tbt ?_
    have : a = b := List.ext_getElem hab (fun j h1 h2 => hI j h1 (by simp at h; omega))
    simp [this]
def f_ProcS (l : List Y_Proc) (n : Int) : Int := szS f_Proc l n
theorem in_ProcS {l : List Y_Proc} {n : Int} (hr : rawS_Proc l) (h0 : 0 ≤ n) (hn : n ≤ 1048576) (h : ¬ f_ProcS l n < 0) : (l.length ≤ bound ∧ ∀ y ∈ l, ok_Proc y) ∧ 0 ≤ f_ProcS l n ∧ f_ProcS l n ≤ n :=
  szS_in (fun x n hr h0 hn h => in_Proc hr h0 hn h) hr.1 hr.2 h0 hn h
theorem s_szProcS (l : List Y_Proc) (n : Int) (hr : rawS_Proc l) (h0 : 0 ≤ n) (hn : n ≤ 1048576) : Spec Try.prog 37 [.ro (.sl 1 (l.map t_Proc)), .ro (.int n)] [.int (f_ProcS l n)] := by
  refine fn Try.func37 ?_
  refine brI (fun h => ?_) (fun h => ?_)
  · have h1 := of_decide_eq_true h
    rw [List.length_map] at h1
    refine ti ?_
    simp only [f_ProcS, szS, szI, w64, h1, if_true]; rfl
  have h1 := of_decide_eq_false h
  rw [List.length_map] at h1
  have hI : ¬ szI l.length n < 0 := by simp only [szI, w64, h1, if_false, not_false_eq_true]
  obtain ⟨c1, c2⟩ := szI_in hr.1 h0 hn hI
  have hw : w64 (n - l.length) = szI l.length n := by simp only [szI, w64, h1, if_false]
  have hl' : l.length ≤ 16777216 := by omega
  refine loopI (fun x : Nat × Int => ⟨27, [(0, .c (.ro 1 (l.map t_Proc))), (1, .int x.2), (5, .int x.1)], []⟩) (fun x => l.length - x.1) (fun x => x.1 ≤ l.length ∧ 0 ≤ x.2 ∧ x.2 ≤ 1048576 ∧ foldSz f_Proc (l.drop x.1) x.2 = f_ProcS l n) (0, szI l.length n) ⟨Nat.zero_le _, by simp only; omega, by simp only; omega, by simp only [f_ProcS, szS, hI, if_false, List.drop_zero]⟩
    (wk rfl ⟨rfl, (by rw [← hw]; exact congrArg (fun k : Nat => AV.int (w64 (n - (k : Int)))) (List.length_map ..)), rfl, trivial⟩ trivial) ?_
  rintro ⟨i, m⟩ ⟨hi, hm0, hm1, hI⟩
  simp only at hi hm0 hm1 hI
  refine brD (fun h => ?_) (fun h => ?_)
  · have h : i < l.length := by simpa using h
    have hraw := hr.2 _ (List.getElem_mem h)
    refine ⟨nn i, t_Proc l[i], atm h, ?_⟩
    refine ⟨_, s_szProc l[i] m hraw hm0 hm1, ?_⟩
    intro _
    rw [List.drop_eq_getElem_cons h] at hI
    simp only [foldSz] at hI
    refine brI (fun h2 => ?_) (fun h2 => ?_)
    · have h2 := of_decide_eq_true h2
      rw [if_pos h2] at hI
      exact ti hI
    · have h2 := of_decide_eq_false h2
      rw [if_neg h2] at hI
      obtain ⟨_, a1, a2⟩ := in_Proc hraw hm0 hm1 h2
      exact nxt (i + 1, f_Proc l[i] m) ⟨h, a1, by simp only; omega, hI⟩ (by show l.length - (i + 1) < l.length - i; omega) (wk rfl ⟨rfl, rfl, up1 h hl', trivial⟩ trivial)
  · have : i = l.length := by simp at h; omega
    subst this
    rw [List.drop_length] at hI
    exact ti hI
/-! Prog -/
abbrev Y_Prog := List Int × Int × List Y_Select × List Y_Proc
def t_Prog (x : Y_Prog) : T := .agg [.sl 1 ((x.1).map T.int), T.int (x.2.1), .sl 2 ((x.2.2.1).map t_Select), .sl 1 ((x.2.2.2).map t_Proc)]
def raw_Prog (x : Y_Prog) : Prop := ((x.1).length ≤ maxLen ∧ ∀ y ∈ x.1, (Lit.int .i64 y).wf = true) ∧ (Lit.int .i64 (x.2.1)).wf = true ∧ ((x.2.2.1).length ≤ maxLen ∧ ∀ y ∈ x.2.2.1, raw_Select y) ∧ ((x.2.2.2).length ≤ maxLen ∧ ∀ y ∈ x.2.2.2, raw_Proc y)
def ok_Prog (x : Y_Prog) : Prop := (x.1).length ≤ bound ∧ ((x.2.2.1).length ≤ bound ∧ ∀ y ∈ x.2.2.1, ok_Select y) ∧ ((x.2.2.2).length ≤ bound ∧ ∀ y ∈ x.2.2.2, ok_Proc y)
theorem s_toProg (x : Y_Prog) (h : ok_Prog x) : Spec Try.prog 16 [.ro (t_Prog x)] [t_Prog x] := by
  refine fn Try.func16 ?_
  repeat (first | refine brT ?_ | refine brF ?_ | refine And.intro rfl ?_ | refine And.intro trivial ?_ | intro _)
  refine ⟨_, s_toIntS _ (h.1), ?_⟩
  repeat (first | refine brT ?_ | refine brF ?_ | refine And.intro rfl ?_ | refine And.intro trivial ?_ | intro _)
  refine ⟨_, s_toSelectS _ (h.2.1), ?_⟩
  repeat (first | refine brT ?_ | refine brF ?_ | refine And.intro rfl ?_ | refine And.intro trivial ?_ | intro _)
  refine ⟨_, s_toProcS _ (h.2.2), ?_⟩
  repeat (first | refine brT ?_ | refine brF ?_ | refine And.intro rfl ?_ | refine And.intro trivial ?_ | intro _)
  rfl
theorem s_eqProg (x y : Y_Prog) (h : ok_Prog x) : Spec Try.prog 18 [.ro (t_Prog x), .ro (t_Prog y)] [T.bool (x == y)] := by
  obtain ⟨x0, x1, x2, x3⟩ := x
  obtain ⟨y0, y1, y2, y3⟩ := y
  refine fn Try.func18 ?_
  repeat' (first | (first | refine brT ?_ | refine brF ?_ | refine And.intro rfl ?_ | refine And.intro trivial ?_ | intro _) | refine brI (fun _ => ?_) (fun _ => ?_))
  all_goals try exact tb (by clear h; simp_all)
  refine ⟨_, s_eqIntS _ _ (h.1), ?_⟩
  repeat' (first | (first | refine brT ?_ | refine brF ?_ | refine And.intro rfl ?_ | refine And.intro trivial ?_ | intro _) | refine brI (fun _ => ?_) (fun _ => ?_))
  all_goals try exact tb (by clear h; simp_all)
  refine ⟨_, s_eqSelectS _ _ (h.2.1), ?_⟩
  repeat' (first | (first | refine brT ?_ | refine brF ?_ | refine And.intro rfl ?_ | refine And.intro trivial ?_ | intro _) | refine brI (fun _ => ?_) (fun _ => ?_))
  all_goals try exact tb (by clear h; simp_all)
  refine ⟨_, s_eqProcS _ _ (h.2.2), ?_⟩
  repeat' (first | (first | refine brT ?_ | refine brF ?_ | refine And.intro rfl ?_ | refine And.intro trivial ?_ | intro _) | refine brI (fun _ => ?_) (fun _ => ?_))
  all_goals (refine tb ?_; clear h; simp_all)
def f_Prog (x : Y_Prog) (n : Int) : Int := if szI (x.1).length n < 0 then -1 else (if f_SelectS (x.2.2.1) (szI (x.1).length n) < 0 then -1 else (if f_ProcS (x.2.2.2) (f_SelectS (x.2.2.1) (szI (x.1).length n)) < 0 then -1 else f_ProcS (x.2.2.2) (f_SelectS (x.2.2.1) (szI (x.1).length n))))
theorem in_Prog {x : Y_Prog} {n : Int} (hr : raw_Prog x) (h0 : 0 ≤ n) (hn : n ≤ 1048576) (h : ¬ f_Prog x n < 0) : ok_Prog x ∧ 0 ≤ f_Prog x n ∧ f_Prog x n ≤ n := by
  unfold f_Prog at h ⊢
  split at h
  · omega
  rename_i c0
  obtain ⟨o0, a0, b0⟩ := in_IntS (hr.1) h0 hn c0
  split at h
  · omega
  rename_i c1
  obtain ⟨o1, a1, b1⟩ := in_SelectS (hr.2.2.1) a0 (by omega) c1
  split at h
  · omega
  rename_i c2
  obtain ⟨o2, a2, b2⟩ := in_ProcS (hr.2.2.2) a1 (by omega) c2
  rw [if_neg c0]
  rw [if_neg c1]
  rw [if_neg c2]
  exact ⟨⟨o0, o1, o2⟩, a2, by omega⟩
theorem s_szProg (x : Y_Prog) (n : Int) (hr : raw_Prog x) (h0 : 0 ≤ n) (hn : n ≤ 1048576) : Spec Try.prog 14 [.ro (t_Prog x), .ro (.int n)] [.int (f_Prog x n)] := by
  refine fn Try.func14 ?_
  repeat (first | refine brT ?_ | refine brF ?_ | refine And.intro rfl ?_ | refine And.intro trivial ?_ | intro _)
  refine ⟨_, s_szIntS' _ _ (hr.1) h0 hn, ?_⟩
  intro _
  refine brI (fun c0 => ?_) (fun c0 => ?_)
  · have c0 := of_decide_eq_true c0
    refine ti ?_
    unfold f_Prog
    rw [if_pos c0]
  have c0 := of_decide_eq_false c0
  obtain ⟨o0, a0, b0⟩ := in_IntS (hr.1) h0 hn c0
  repeat (first | refine brT ?_ | refine brF ?_ | refine And.intro rfl ?_ | refine And.intro trivial ?_ | intro _)
  refine ⟨_, s_szSelectS _ _ (hr.2.2.1) a0 (by omega), ?_⟩
  intro _
  refine brI (fun c1 => ?_) (fun c1 => ?_)
  · have c1 := of_decide_eq_true c1
    refine ti ?_
    unfold f_Prog
    rw [if_neg c0]
    rw [if_pos c1]
  have c1 := of_decide_eq_false c1
  obtain ⟨o1, a1, b1⟩ := in_SelectS (hr.2.2.1) a0 (by omega) c1
  repeat (first | refine brT ?_ | refine brF ?_ | refine And.intro rfl ?_ | refine And.intro trivial ?_ | intro _)
  refine ⟨_, s_szProcS _ _ (hr.2.2.2) a1 (by omega), ?_⟩
  intro _
  refine brI (fun c2 => ?_) (fun c2 => ?_)
  · have c2 := of_decide_eq_true c2
    refine ti ?_
    unfold f_Prog
    rw [if_neg c0]
    rw [if_neg c1]
    rw [if_pos c2]
  have c2 := of_decide_eq_false c2
  refine ti ?_
  unfold f_Prog
  rw [if_neg c0]
  rw [if_neg c1]
  rw [if_neg c2]


end Go.Proofs.Yteibafcohflbdaa.E
