/- Contracts of functions of this seat's program. -/
import Derived.Test.YtadpancnhinlbaaETy
import Derived.Test.YtadpancnhinlbaaEA
namespace Go.Proofs.Ytadpancnhinlbaa.E
set_option linter.unusedVariables false
set_option linter.unusedSimpArgs false
set_option maxHeartbeats 1600000
/-! Waiter -/
abbrev Y_Waiter := Int × Int × Int
def t_Waiter (x : Y_Waiter) : T := .agg [T.int (x.1), T.int (x.2.1), T.int (x.2.2)]
def raw_Waiter (x : Y_Waiter) : Prop := (Lit.int .i64 (x.1)).wf = true ∧ (Lit.int .i64 (x.2.1)).wf = true ∧ (Lit.int .i64 (x.2.2)).wf = true
def ok_Waiter (x : Y_Waiter) : Prop := True
theorem s_toWaiter (x : Y_Waiter) (h : ok_Waiter x) : Spec Try.prog 46 [.ro (t_Waiter x)] [t_Waiter x] := by
  refine fn Try.func46 ?_
  repeat (first | refine brT ?_ | refine brF ?_ | refine And.intro rfl ?_ | refine And.intro trivial ?_ | intro _)
  rfl
theorem s_eqWaiter (x y : Y_Waiter) (h : ok_Waiter x) : Spec Try.prog 50 [.ro (t_Waiter x), .ro (t_Waiter y)] [T.bool (x == y)] := by
  obtain ⟨x0, x1, x2⟩ := x
  obtain ⟨y0, y1, y2⟩ := y
  refine fn Try.func50 ?_
  repeat' (first | (first | refine brT ?_ | refine brF ?_ | refine And.intro rfl ?_ | refine And.intro trivial ?_ | intro _) | refine brI (fun _ => ?_) (fun _ => ?_))
  all_goals (refine tb ?_; clear h; simp_all)
abbrev rawS_Waiter (l : List Y_Waiter) : Prop := l.length ≤ maxLen ∧ ∀ y ∈ l, raw_Waiter y
theorem s_toWaiterS (l : List Y_Waiter) (h : l.length ≤ bound ∧ ∀ y ∈ l, ok_Waiter y) : Spec Try.prog 23 [.ro (.sl 3 (l.map t_Waiter))] [.sl 3 (l.map t_Waiter)] := by
  obtain ⟨hl, hel⟩ := h
  have hl' : l.length ≤ 16777216 := hl
  refine fn Try.func23 ?_
  refine ⟨rfl, by simp, by simpa using hl, fun q => ?_⟩
  refine loopI (fun x : Nat × Nat => ⟨23, [(0, .c (.ro 3 (l.map t_Waiter))), (3, .c (.own 8000 q)), (4, .int x.1)], [(8000, .row q x.2 3 ((l.map t_Waiter).take x.1 ++ List.replicate (l.length - x.1) (t_Waiter (0, 0, 0))))]⟩) (fun x => l.length - x.1) (fun x => x.1 ≤ l.length) (0, 0) (Nat.zero_le _)
    (wk rfl ⟨rfl, rfl, rfl, trivial⟩ ⟨?_, trivial⟩) ?_
  · simp; rfl
  · rintro ⟨i, v⟩ hi
    refine brD (fun h => ?_) (fun h => ?_)
    · have hlt : i < l.length := by simpa using h
      refine ⟨by omega, t_Waiter l[i], by simp [hlt], ?_⟩
      refine ⟨_, s_toWaiter l[i] (hel _ (List.getElem_mem hlt)), ?_⟩
      intro q1
      refine ⟨rfl, by omega, by simp; omega, ?_⟩
      repeat (first | refine brT ?_ | refine brF ?_ | refine And.intro rfl ?_ | refine And.intro trivial ?_ | intro _)
      refine ⟨t_Waiter (0, 0, 0), ?_, Nat.le_refl _, fun v' => ?_⟩
      · have h1 : min i l.length = i := by omega
        simp [List.getElem?_append_right, h1, List.getElem?_replicate]; omega
      · refine nxt (i + 1, v') hlt (by show _ < _; simp only; omega) (wk rfl ⟨rfl, rfl, congrArg AV.int (w64_id (by omega) (by omega)), trivial⟩ ⟨?_, trivial⟩)
        have := fill_set (l.map t_Waiter) (t_Waiter (0, 0, 0)) l.length i (by simp) hlt
        simp only [List.getElem_map] at this
        rw [← this]; rfl
    · have : i = l.length := by simp at h; omega
      subst this
      refine ⟨rfl, ?_⟩
      show _ = _
      simp [List.take_of_length_le]
theorem s_eqWaiterS (a b : List Y_Waiter) (h : a.length ≤ bound ∧ ∀ y ∈ a, ok_Waiter y) : Spec Try.prog 25 [.ro (.sl 3 (a.map t_Waiter)), .ro (.sl 3 (b.map t_Waiter))] [T.bool (a == b)] := by
  obtain ⟨hl, hel⟩ := h
  have hl' : a.length ≤ 16777216 := hl
  refine fn Try.func25 ?_
  refine brI (fun h => ?_) (fun h => ?_)
  · have hne : a.length ≠ b.length := by intro h1; simp [h1] at h
    refine tbf ?_
    cases hab : a == b
    · rfl
    · exact absurd (by rw [eq_of_beq hab]) hne
  have hab : a.length = b.length := by simp at h; omega
  refine loopR (fun i => ⟨27, [(0, .c (.ro 3 (a.map t_Waiter))), (1, .c (.ro 3 (b.map t_Waiter))), (5, .int i)], []⟩) a.length (fun i => ∀ j (hj : j < a.length), j < i → a[j] = b[j]) (fun j _ h => absurd h (by omega)) (wk rfl ⟨rfl, rfl, rfl, trivial⟩ trivial) ?_
  intro i hi hI
  refine brD (fun h => ?_) (fun h => ?_)
  · have h : i < a.length := by simpa using h
    refine dr (.line [0, 1, 2, 3, 4, 5, 6, 7, 8, 9]) (by kernel_rfl) ?_
    refine ⟨nn i, t_Waiter a[i], atm h, ?_⟩
    refine ⟨nn i, t_Waiter b[i], atm (by omega), ?_⟩
    refine ⟨_, s_eqWaiter a[i] b[i] (hel _ (List.getElem_mem h)), ?_⟩
    intro _
    refine brI (fun h1 => ?_) (fun h1 => ?_)
    · refine tbf ?_
      simp only [Bool.not_eq_true'] at h1
      cases hab : a == b
      · rfl
      · have := eq_of_beq hab
        subst this
        simp at h1
    · refine nxtR h ?_ (wk rfl ⟨rfl, rfl, up1 h hl', trivial⟩ trivial)
      intro j hj h2
      by_cases h3 : j = i
      · subst h3; simpa using h1
      · exact hI j hj (by omega)
  · refine tbt ?_
    have : a = b := List.ext_getElem hab (fun j h1 h2 => hI j h1 (by simp at h; omega))
    simp [this]
def f_WaiterS (l : List Y_Waiter) (n : Int) : Int := szI l.length n
theorem in_WaiterS {l : List Y_Waiter} {n : Int} (hr : rawS_Waiter l) (h0 : 0 ≤ n) (hn : n ≤ 1048576) (h : ¬ f_WaiterS l n < 0) : (l.length ≤ bound ∧ ∀ y ∈ l, ok_Waiter y) ∧ 0 ≤ f_WaiterS l n ∧ f_WaiterS l n ≤ n := by
  have := szI_in hr.1 h0 hn h
  unfold f_WaiterS at h ⊢
  exact ⟨⟨by unfold bound; omega, fun _ _ => trivial⟩, by omega, by omega⟩
theorem s_szWaiterS (l : List Y_Waiter) (n : Int) (hr : rawS_Waiter l) (h0 : 0 ≤ n) (hn : n ≤ 1048576) : Spec Try.prog 21 [.ro (.sl 3 (l.map t_Waiter)), .ro (.int n)] [.int (f_WaiterS l n)] := by
  refine fn Try.func21 ?_
  refine brI (fun h => ?_) (fun h => ?_)
  · have h1 := of_decide_eq_true h
    rw [List.length_map] at h1
    refine ti ?_
    simp only [f_WaiterS, szI, w64, h1, if_true]
  · have h1 := of_decide_eq_false h
    rw [List.length_map] at h1
    refine ti ?_
    simp only [f_WaiterS, szI, w64, h1, if_false, List.length_map]
/-! Chan -/
abbrev Y_Chan := Int × List Int × List Y_Waiter × List Y_Waiter × Bool
def t_Chan (x : Y_Chan) : T := .agg [T.int (x.1), .sl 1 ((x.2.1).map T.int), .sl 3 ((x.2.2.1).map t_Waiter), .sl 3 ((x.2.2.2.1).map t_Waiter), T.bool (x.2.2.2.2)]
def raw_Chan (x : Y_Chan) : Prop := (Lit.int .i64 (x.1)).wf = true ∧ ((x.2.1).length ≤ maxLen ∧ ∀ y ∈ x.2.1, (Lit.int .i64 y).wf = true) ∧ ((x.2.2.1).length ≤ maxLen ∧ ∀ y ∈ x.2.2.1, raw_Waiter y) ∧ ((x.2.2.2.1).length ≤ maxLen ∧ ∀ y ∈ x.2.2.2.1, raw_Waiter y) ∧ True
def ok_Chan (x : Y_Chan) : Prop := (x.2.1).length ≤ bound ∧ ((x.2.2.1).length ≤ bound ∧ ∀ y ∈ x.2.2.1, ok_Waiter y) ∧ ((x.2.2.2.1).length ≤ bound ∧ ∀ y ∈ x.2.2.2.1, ok_Waiter y)
def f_Chan (x : Y_Chan) (n : Int) : Int := if szI (x.2.1).length n < 0 then -1 else (if f_WaiterS (x.2.2.1) (szI (x.2.1).length n) < 0 then -1 else (if f_WaiterS (x.2.2.2.1) (f_WaiterS (x.2.2.1) (szI (x.2.1).length n)) < 0 then -1 else f_WaiterS (x.2.2.2.1) (f_WaiterS (x.2.2.1) (szI (x.2.1).length n))))
theorem in_Chan {x : Y_Chan} {n : Int} (hr : raw_Chan x) (h0 : 0 ≤ n) (hn : n ≤ 1048576) (h : ¬ f_Chan x n < 0) : ok_Chan x ∧ 0 ≤ f_Chan x n ∧ f_Chan x n ≤ n := by
  unfold f_Chan at h ⊢
  split at h
  · omega
  rename_i c0
  obtain ⟨o0, a0, b0⟩ := in_IntS (hr.2.1) h0 hn c0
  split at h
  · omega
  rename_i c1
  obtain ⟨o1, a1, b1⟩ := in_WaiterS (hr.2.2.1) a0 (by omega) c1
  split at h
  · omega
  rename_i c2
  obtain ⟨o2, a2, b2⟩ := in_WaiterS (hr.2.2.2.1) a1 (by omega) c2
  rw [if_neg c0]
  rw [if_neg c1]
  rw [if_neg c2]
  exact ⟨⟨o0, o1, o2⟩, a2, by omega⟩

end Go.Proofs.Ytadpancnhinlbaa.E
