/- Contracts of functions of this seat's program. -/
import Derived.Test.YtbofjpmighijhaaETy
import Derived.Test.YtbofjpmighijhaaEPn
namespace Go.Proofs.Ytbofjpmighijhaa.E
set_option linter.unusedVariables false
set_option linter.unusedSimpArgs false
set_option maxHeartbeats 1600000
/-! Item -/
abbrev Y_Item := Int × Int × Int × Bool
def t_Item (x : Y_Item) : T := .agg [T.int (x.1), T.int (x.2.1), T.int (x.2.2.1), T.bool (x.2.2.2)]
def raw_Item (x : Y_Item) : Prop := (Lit.int .i64 (x.1)).wf = true ∧ (Lit.int .i64 (x.2.1)).wf = true ∧ (Lit.int .i64 (x.2.2.1)).wf = true ∧ True
def ok_Item (x : Y_Item) : Prop := True
theorem s_toItem (x : Y_Item) (h : ok_Item x) : Spec Try.prog 100 [.ro (t_Item x)] [t_Item x] := by
  refine fn Try.func100 ?_
  repeat (first | refine brT ?_ | refine brF ?_ | refine And.intro rfl ?_ | refine And.intro trivial ?_ | intro _)
  rfl
theorem s_eqItem (x y : Y_Item) (h : ok_Item x) : Spec Try.prog 102 [.ro (t_Item x), .ro (t_Item y)] [T.bool (x == y)] := by
  obtain ⟨x0, x1, x2, x3⟩ := x
  obtain ⟨y0, y1, y2, y3⟩ := y
  refine fn Try.func102 ?_
  repeat' (first | (first | refine brT ?_ | refine brF ?_ | refine And.intro rfl ?_ | refine And.intro trivial ?_ | intro _) | refine brI (fun _ => ?_) (fun _ => ?_))
  all_goals (refine tb ?_; clear h; simp_all)
abbrev rawS_Item (l : List Y_Item) : Prop := l.length ≤ maxLen ∧ ∀ y ∈ l, raw_Item y
theorem s_toItemS (l : List Y_Item) (h : l.length ≤ bound ∧ ∀ y ∈ l, ok_Item y) : Spec Try.prog 60 [.ro (.sl 4 (l.map t_Item))] [.sl 4 (l.map t_Item)] := by
  obtain ⟨hl, hel⟩ := h
  have hl' : l.length ≤ 16777216 := hl
  refine fn Try.func60 ?_
  refine ⟨rfl, by simp, by simpa using hl, fun q => ?_⟩
  refine loopI (fun x : Nat × Nat => ⟨23, [(0, .c (.ro 4 (l.map t_Item))), (3, .c (.own 8000 q)), (4, .int x.1)], [(8000, .row q x.2 4 ((l.map t_Item).take x.1 ++ List.replicate (l.length - x.1) (t_Item (0, 0, 0, false))))]⟩) (fun x => l.length - x.1) (fun x => x.1 ≤ l.length) (0, 0) (Nat.zero_le _)
    (wk rfl ⟨rfl, rfl, rfl, trivial⟩ ⟨?_, trivial⟩) ?_
  · simp; rfl
  · rintro ⟨i, v⟩ hi
    refine brD (fun h => ?_) (fun h => ?_)
    · have hlt : i < l.length := by simpa using h
      refine ⟨by omega, t_Item l[i], by simp [hlt], ?_⟩
      refine ⟨_, s_toItem l[i] (hel _ (List.getElem_mem hlt)), ?_⟩
      intro q1
      refine ⟨rfl, by omega, by simp; omega, ?_⟩
      repeat (first | refine brT ?_ | refine brF ?_ | refine And.intro rfl ?_ | refine And.intro trivial ?_ | intro _)
      refine ⟨t_Item (0, 0, 0, false), ?_, Nat.le_refl _, fun v' => ?_⟩
      · have h1 : min i l.length = i := by omega
        simp [List.getElem?_append_right, h1, List.getElem?_replicate]; omega
      · refine nxt (i + 1, v') hlt (by show _ < _; simp only; omega) (wk rfl ⟨rfl, rfl, congrArg AV.int (w64_id (by omega) (by omega)), trivial⟩ ⟨?_, trivial⟩)
        have := fill_set (l.map t_Item) (t_Item (0, 0, 0, false)) l.length i (by simp) hlt
        simp only [List.getElem_map] at this
        rw [← this]; rfl
    · have : i = l.length := by simp at h; omega
      subst this
      refine ⟨rfl, ?_⟩
      show _ = _
      simp [List.take_of_length_le]
theorem s_eqItemS (a b : List Y_Item) (h : a.length ≤ bound ∧ ∀ y ∈ a, ok_Item y) : Spec Try.prog 65 [.ro (.sl 4 (a.map t_Item)), .ro (.sl 4 (b.map t_Item))] [T.bool (a == b)] := by
  obtain ⟨hl, hel⟩ := h
  have hl' : a.length ≤ 16777216 := hl
  refine fn Try.func65 ?_
  refine brI (fun h => ?_) (fun h => ?_)
  · have hne : a.length ≠ b.length := by intro h1; simp [h1] at h
    refine tbf ?_
    cases hab : a == b
    · rfl
    · exact absurd (by rw [eq_of_beq hab]) hne
  have hab : a.length = b.length := by simp at h; omega
  refine loopR (fun i => ⟨27, [(0, .c (.ro 4 (a.map t_Item))), (1, .c (.ro 4 (b.map t_Item))), (5, .int i)], []⟩) a.length (fun i => ∀ j (hj : j < a.length), j < i → a[j] = b[j]) (fun j _ h => absurd h (by omega)) (wk rfl ⟨rfl, rfl, rfl, trivial⟩ trivial) ?_
  intro i hi hI
  refine brD (fun h => ?_) (fun h => ?_)
  · have h : i < a.length := by simpa using h
    refine dr (.line [0, 1, 2, 3, 4, 5, 6, 7, 8, 9]) (by kernel_rfl) ?_
    refine ⟨nn i, t_Item a[i], atm h, ?_⟩
    refine ⟨nn i, t_Item b[i], atm (by omega), ?_⟩
    refine ⟨_, s_eqItem a[i] b[i] (hel _ (List.getElem_mem h)), ?_⟩
    intro _
    refine brI (fun h1 => ?_) (fun h1 => ?_)
    · refine tbf ?_
      simp only [Bool.not_eq_true'] at h1
      cases hab : a == b
      · rfl
      · have := eq_of_beq hab
        subst this
        simp at h1
    · refine nxtR h ?_ (wk rfl ⟨rfl, rfl, up1 h hl', trivial⟩ trivial)
      intro j hj h2
      by_cases h3 : j = i
      · subst h3; simpa using h1
      · exact hI j hj (by omega)
  · refine tbt ?_
    have : a = b := List.ext_getElem hab (fun j h1 h2 => hI j h1 (by simp at h; omega))
    simp [this]
def f_ItemS (l : List Y_Item) (n : Int) : Int := szI l.length n
theorem in_ItemS {l : List Y_Item} {n : Int} (hr : rawS_Item l) (h0 : 0 ≤ n) (hn : n ≤ 1048576) (h : ¬ f_ItemS l n < 0) : (l.length ≤ bound ∧ ∀ y ∈ l, ok_Item y) ∧ 0 ≤ f_ItemS l n ∧ f_ItemS l n ≤ n := by
  have := szI_in hr.1 h0 hn h
  unfold f_ItemS at h ⊢
  exact ⟨⟨by unfold bound; omega, fun _ _ => trivial⟩, by omega, by omega⟩
theorem s_szItemS (l : List Y_Item) (n : Int) (hr : rawS_Item l) (h0 : 0 ≤ n) (hn : n ≤ 1048576) : Spec Try.prog 58 [.ro (.sl 4 (l.map t_Item)), .ro (.int n)] [.int (f_ItemS l n)] := by
  refine fn Try.func58 ?_
  refine brI (fun h => ?_) (fun h => ?_)
  · have h1 := of_decide_eq_true h
    rw [List.length_map] at h1
    refine ti ?_
    simp only [f_ItemS, szI, w64, h1, if_true]
  · have h1 := of_decide_eq_false h
    rw [List.length_map] at h1
    refine ti ?_
    simp only [f_ItemS, szI, w64, h1, if_false, List.length_map]
/-! Gor -/
abbrev Y_Gor := Int × Int × List Int × Int × List Y_Item
def t_Gor (x : Y_Gor) : T := .agg [T.int (x.1), T.int (x.2.1), .sl 1 ((x.2.2.1).map T.int), T.int (x.2.2.2.1), .sl 4 ((x.2.2.2.2).map t_Item)]
def raw_Gor (x : Y_Gor) : Prop := (Lit.int .i64 (x.1)).wf = true ∧ (Lit.int .i64 (x.2.1)).wf = true ∧ ((x.2.2.1).length ≤ maxLen ∧ ∀ y ∈ x.2.2.1, (Lit.int .i64 y).wf = true) ∧ (Lit.int .i64 (x.2.2.2.1)).wf = true ∧ ((x.2.2.2.2).length ≤ maxLen ∧ ∀ y ∈ x.2.2.2.2, raw_Item y)
def ok_Gor (x : Y_Gor) : Prop := (x.2.2.1).length ≤ bound ∧ ((x.2.2.2.2).length ≤ bound ∧ ∀ y ∈ x.2.2.2.2, ok_Item y)
theorem s_toGor (x : Y_Gor) (h : ok_Gor x) : Spec Try.prog 27 [.ro (t_Gor x)] [t_Gor x] := by
  refine fn Try.func27 ?_
  repeat (first | refine brT ?_ | refine brF ?_ | refine And.intro rfl ?_ | refine And.intro trivial ?_ | intro _)
  refine ⟨_, s_toIntS _ (h.1), ?_⟩
  repeat (first | refine brT ?_ | refine brF ?_ | refine And.intro rfl ?_ | refine And.intro trivial ?_ | intro _)
  refine ⟨_, s_toItemS _ (h.2), ?_⟩
  repeat (first | refine brT ?_ | refine brF ?_ | refine And.intro rfl ?_ | refine And.intro trivial ?_ | intro _)
  rfl
theorem s_eqGor (x y : Y_Gor) (h : ok_Gor x) : Spec Try.prog 29 [.ro (t_Gor x), .ro (t_Gor y)] [T.bool (x == y)] := by
  obtain ⟨x0, x1, x2, x3, x4⟩ := x
  obtain ⟨y0, y1, y2, y3, y4⟩ := y
  refine fn Try.func29 ?_
  repeat' (first | (first | refine brT ?_ | refine brF ?_ | refine And.intro rfl ?_ | refine And.intro trivial ?_ | intro _) | refine brI (fun _ => ?_) (fun _ => ?_))
  all_goals try exact tb (by clear h; simp_all)
  refine ⟨_, s_eqIntS _ _ (h.1), ?_⟩
  repeat' (first | (first | refine brT ?_ | refine brF ?_ | refine And.intro rfl ?_ | refine And.intro trivial ?_ | intro _) | refine brI (fun _ => ?_) (fun _ => ?_))
  all_goals try exact tb (by clear h; simp_all)
  refine ⟨_, s_eqItemS _ _ (h.2), ?_⟩
  repeat' (first | (first | refine brT ?_ | refine brF ?_ | refine And.intro rfl ?_ | refine And.intro trivial ?_ | intro _) | refine brI (fun _ => ?_) (fun _ => ?_))
  all_goals (refine tb ?_; clear h; simp_all)
def f_Gor (x : Y_Gor) (n : Int) : Int := if szI (x.2.2.1).length n < 0 then -1 else (if f_ItemS (x.2.2.2.2) (szI (x.2.2.1).length n) < 0 then -1 else f_ItemS (x.2.2.2.2) (szI (x.2.2.1).length n))
theorem in_Gor {x : Y_Gor} {n : Int} (hr : raw_Gor x) (h0 : 0 ≤ n) (hn : n ≤ 1048576) (h : ¬ f_Gor x n < 0) : ok_Gor x ∧ 0 ≤ f_Gor x n ∧ f_Gor x n ≤ n := by
  unfold f_Gor at h ⊢
  split at h
  · omega
  rename_i c0
  obtain ⟨o0, a0, b0⟩ := in_IntS (hr.2.2.1) h0 hn c0
  split at h
  · omega
  rename_i c1
  obtain ⟨o1, a1, b1⟩ := in_ItemS (hr.2.2.2.2) a0 (by omega) c1
  rw [if_neg c0]
  rw [if_neg c1]
  exact ⟨⟨o0, o1⟩, a1, by omega⟩
theorem s_szGor (x : Y_Gor) (n : Int) (hr : raw_Gor x) (h0 : 0 ≤ n) (hn : n ≤ 1048576) : Spec Try.prog 25 [.ro (t_Gor x), .ro (.int n)] [.int (f_Gor x n)] := by
  refine fn Try.func25 ?_
  repeat (first | refine brT ?_ | refine brF ?_ | refine And.intro rfl ?_ | refine And.intro trivial ?_ | intro _)
  refine ⟨_, s_szIntS' _ _ (hr.2.2.1) h0 hn, ?_⟩
  intro _
  refine brI (fun c0 => ?_) (fun c0 => ?_)
  · have c0 := of_decide_eq_true c0
    refine ti ?_
    unfold f_Gor
    rw [if_pos c0]
  have c0 := of_decide_eq_false c0
  obtain ⟨o0, a0, b0⟩ := in_IntS (hr.2.2.1) h0 hn c0
  repeat (first | refine brT ?_ | refine brF ?_ | refine And.intro rfl ?_ | refine And.intro trivial ?_ | intro _)
  refine ⟨_, s_szItemS _ _ (hr.2.2.2.2) a0 (by omega), ?_⟩
  intro _
  refine brI (fun c1 => ?_) (fun c1 => ?_)
  · have c1 := of_decide_eq_true c1
    refine ti ?_
    unfold f_Gor
    rw [if_neg c0]
    rw [if_pos c1]
  have c1 := of_decide_eq_false c1
  refine ti ?_
  unfold f_Gor
  rw [if_neg c0]
  rw [if_neg c1]


end Go.Proofs.Ytbofjpmighijhaa.E
