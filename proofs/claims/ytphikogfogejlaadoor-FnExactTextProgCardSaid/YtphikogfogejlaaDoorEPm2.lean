/- Contracts of functions of this seat's program. -/
import Derived.Test.YtphikogfogejlaaDoorETy
import Derived.Test.YtphikogfogejlaaDoorEIo
namespace Go.Proofs.YtphikogfogejlaaDoor.E
set_option linter.unusedVariables false
set_option linter.unusedSimpArgs false
set_option maxHeartbeats 1600000
def instrOk (p : Y_Prog) (n : Int) (i : Y_Instr) : Bool :=
  let A := i.2.1
  let B := i.2.2.1
  let C := i.2.2.2
  if i.1 = 1 then A == 0 && B == 0 && C == 0
  else if i.1 = 2 then C == 0 && (isR A && isV B)
  else if i.1 = 3 then isR A && isR B && isR C
  else if i.1 = 4 then isR A && isR B && isR C
  else if i.1 = 5 then isR A && isR B && isR C
  else if i.1 = 6 then B == 0 && C == 0 && within A 0 n
  else if i.1 = 7 then C == 0 && (isR A && within B 0 n)
  else if i.1 = 8 then C == 0 && (chanR p A && isR B)
  else if i.1 = 9 then chanR p A && isR B && isR C
  else if i.1 = 10 then B == 0 && C == 0 && chanR p A
  else if i.1 = 11 then B == 0 && C == 0 && within A 0 p.2.2.1.length
  else if i.1 = 12 then B == 0 && C == 0 && within A 0 p.2.1
  else if i.1 = 13 then B == 0 && C == 0 && within A 0 p.2.1
  else if i.1 = 14 then C == 0 && (within A 0 p.2.2.2.length && isR B)
  else if i.1 = 15 then B == 0 && C == 0 && isR A
  else false
theorem s_InstrOk (p : Y_Prog) (n : Int) (i : Y_Instr) (h1 : p.1.length ≤ bound) (h2 : p.2.2.1.length ≤ bound) (h3 : p.2.2.2.length ≤ bound) : Spec Tryd.prog 93 [.ro (t_Prog p), .ro (T.int n), .ro (t_Instr i)] [T.bool (instrOk p n i)] := by
  obtain ⟨op, A, B, C⟩ := i
  have w1 := fun n a => in_within (n := n) (a := a) (m := p.2.2.1.length) h2
  have w2 := fun n a => in_within (n := n) (a := a) (m := p.2.2.2.length) h3
  refine fn Tryd.func93 ?_
  rcases op_cases op with rfl | rfl | rfl | rfl | rfl | rfl | rfl | rfl | rfl | rfl | rfl | rfl | rfl | rfl | rfl | ⟨h1, h2, h3, h4, h5, h6, h7, h8, h9, h10, h11, h12, h13, h14, h15⟩
  rotate_right
  · have hf : fieldsOf op = -1 := by simp [fieldsOf, h1, h2, h3, h4, h5, h6, h7, h8, h9, h10, h11, h12, h13, h14, h15]
    repeat (first | refine brT ?_ | refine brF ?_ | refine And.intro rfl ?_ | refine And.intro trivial ?_ | intro _)
    refine ⟨_, s_Fields op (-1) hf, ?_⟩
    repeat (first | refine brT ?_ | refine brF ?_ | refine And.intro rfl ?_ | refine And.intro trivial ?_ | intro _)
    refine tb ?_
    simp [instrOk, h1, h2, h3, h4, h5, h6, h7, h8, h9, h10, h11, h12, h13, h14, h15]
  all_goals
    repeat (first | refine brT ?_ | refine brF ?_ | refine And.intro rfl ?_ | refine And.intro trivial ?_ | intro _)
    refine ⟨_, s_Fields _ _ rfl, ?_⟩
    repeat (first | refine brT ?_ | refine brF ?_ | refine And.intro rfl ?_ | refine And.intro trivial ?_ | intro _)
    refine ⟨_, s_l04Rest _ _, ?_⟩
    repeat' (first | (first | refine brT ?_ | refine brF ?_ | refine And.intro rfl ?_ | refine And.intro trivial ?_ | intro _) | refine ⟨_, s_l03Reg _, ?_⟩ | refine ⟨_, s_l03Val _, ?_⟩ | refine ⟨_, s_l04Chan p _ h1, ?_⟩ | refine ⟨_, s_l04In _ _ _, ?_⟩ | refine brI (fun _ => ?_) (fun _ => ?_))
    all_goals (refine tb ?_; simp_all [instrOk, restOk, within, fieldsOf] <;> omega)
theorem i_InstrOk (p : Y_Prog) (n : Int) (i : Y_Instr) : Spec Tryd.prog 80 [.ro (t_Prog p), .ro (T.int n), .ro (t_Instr i)] [T.bool (instrOk p n i)] := by
  obtain ⟨op, A, B, C⟩ := i
  refine fn Tryd.func80 ?_
  rcases op_cases op with rfl | rfl | rfl | rfl | rfl | rfl | rfl | rfl | rfl | rfl | rfl | rfl | rfl | rfl | rfl | ⟨h1, h2, h3, h4, h5, h6, h7, h8, h9, h10, h11, h12, h13, h14, h15⟩
  rotate_right
  · have hf : fieldsOf op = -1 := by simp [fieldsOf, h1, h2, h3, h4, h5, h6, h7, h8, h9, h10, h11, h12, h13, h14, h15]
    repeat (first | refine brT ?_ | refine brF ?_ | refine And.intro rfl ?_ | refine And.intro trivial ?_ | intro _)
    refine ⟨_, i_Fields op (-1) hf, ?_⟩
    repeat (first | (first | refine brT ?_ | refine brF ?_ | refine And.intro rfl ?_ | refine And.intro trivial ?_ | intro _) | (refine brL ?a (fun _ => ?_); case a => simp [h1, h2, h3, h4, h5, h6, h7, h8, h9, h10, h11, h12, h13, h14, h15]))
    refine tb ?_
    simp [instrOk, h1, h2, h3, h4, h5, h6, h7, h8, h9, h10, h11, h12, h13, h14, h15]
  all_goals
    repeat (first | refine brT ?_ | refine brF ?_ | refine And.intro rfl ?_ | refine And.intro trivial ?_ | intro _)
    refine ⟨_, i_Fields _ _ rfl, ?_⟩
    repeat' (first | (first | refine brT ?_ | refine brF ?_ | refine And.intro rfl ?_ | refine And.intro trivial ?_ | intro _) | refine ⟨_, i_isReg _, ?_⟩ | refine ⟨_, s_isVal _, ?_⟩ | refine ⟨_, i_isChan p _, ?_⟩ | refine ⟨_, s_within _ _ _, ?_⟩ | refine brI (fun _ => ?_) (fun _ => ?_))
    all_goals (refine tb ?_; simp_all [instrOk, within, fieldsOf] <;> omega)

def caseOk (p : Y_Prog) (n : Int) (x : Y_Case) : Bool := chanR p x.2.1 && isR x.2.2.1 && isR x.2.2.2.1 && !(x.1 && x.2.2.2.1 != 0) && within x.2.2.2.2 0 n
def dup (l : List Y_Case) (c : Int) : Bool := decide (0 ≤ c) && l.any (fun y => c == y.2.1)
def goodK (p : Y_Prog) (n : Int) (cs : List Y_Case) (k : Nat) : Bool := match cs[k]? with
  | some x => caseOk p n x && !dup (cs.take k) x.2.1
  | none => true
def selOk (p : Y_Prog) (n : Int) (s : Y_Select) : Bool := (List.range s.1.length).all (goodK p n s.1) && within s.2 (-1) n
theorem good_at {p : Y_Prog} {n : Int} {cs : List Y_Case} {k : Nat} (h : k < cs.length) : goodK p n cs k = (caseOk p n cs[k] && !dup (cs.take k) cs[k].2.1) := by simp [goodK, h]
theorem selOk_no {p : Y_Prog} {n : Int} {s : Y_Select} {k : Nat} (h : k < s.1.length) (hk : goodK p n s.1 k = false) : selOk p n s = false := by
  have : (List.range s.1.length).all (goodK p n s.1) = false := List.all_eq_false.2 ⟨k, List.mem_range.2 h, by simp [hk]⟩
  simp [selOk, this]
theorem selOk_yes {p : Y_Prog} {n : Int} {s : Y_Select} (h : ∀ k, k < s.1.length → goodK p n s.1 k = true) : selOk p n s = within s.2 (-1) n := by
  have : (List.range s.1.length).all (goodK p n s.1) = true := List.all_eq_true.2 (fun k hk => h k (List.mem_range.1 hk))
  simp [selOk, this]
theorem all_up {f : Nat → Bool} {i : Nat} (h : ∀ j, j < i → f j = true) (hi : f i = true) : ∀ j, j < i + 1 → f j = true := fun j hj => by
  by_cases e : j = i
  · subst e; exact hi
  · exact h j (by omega)
theorem dup_no {l : List Y_Case} {c : Int} (h : ∀ j (hj : j < l.length), ¬ (0 ≤ c ∧ c = l[j].2.1)) : dup l c = false := by
  cases hd : dup l c with
  | false => rfl
  | true =>
    simp only [dup, Bool.and_eq_true, decide_eq_true_eq, List.any_eq_true, beq_iff_eq] at hd
    obtain ⟨h0, y, hy, e⟩ := hd
    obtain ⟨j, hj, rfl⟩ := List.mem_iff_getElem.1 hy
    exact absurd ⟨h0, e⟩ (h j hj)
theorem dup_yes {l : List Y_Case} {c : Int} {j : Nat} (hj : j < l.length) (h0 : 0 ≤ c) (h : c = l[j].2.1) : dup l c = true := by
  simp only [dup, Bool.and_eq_true, decide_eq_true_eq, List.any_eq_true, beq_iff_eq]
  exact ⟨h0, l[j], List.getElem_mem hj, h⟩
theorem s_SelectOk (p : Y_Prog) (n : Int) (s : Y_Select) (h1 : p.1.length ≤ bound) (h2 : s.1.length ≤ bound) : Spec Tryd.prog 77 [.ro (t_Prog p), .ro (T.int n), .ro (t_Select s)] [T.bool (selOk p n s)] := by
  have hl : s.1.length ≤ 16777216 := h2
  refine fn Tryd.func77 ?_
  intro q3 q5
  repeat (first | refine brT ?_ | refine brF ?_ | refine And.intro rfl ?_ | refine And.intro trivial ?_ | intro _)
  refine loopR (fun i => ⟨86, [(1, .int n), (3, .c (.bx 4000 q3 0)), (5, .c (.bx 6000 q5 0)), (12, .c (.ro 5 (s.1.map t_Case))), (13, .int s.1.length), (14, .int i)], [(4000, .box q3 (t_Prog p).a2.cells), (6000, .box q5 (t_Select s).a2.cells)]⟩) s.1.length (fun i => ∀ j, j < i → goodK p n s.1 j = true) (fun j h => absurd h (by omega)) (wk rfl ⟨rfl, rfl, rfl, rfl, lenm, rfl, trivial⟩ ⟨rfl, rfl, trivial⟩) ?_
  intro i hi hI
  refine brD (fun h => ?_) (fun h => ?_)
  · have h : i < s.1.length := by simpa using h
    have hg := good_at (p := p) (n := n) h
    have hno := @selOk_no p n s _ h
    refine ⟨nn i, t_Case s.1[i], atm h, ?_⟩
    intro q9
    repeat (first | refine brT ?_ | refine brF ?_ | refine And.intro rfl ?_ | refine And.intro trivial ?_ | intro _)
    refine ⟨_, s_l04Chan p _ h1, ?_⟩
    generalize s.1[i] = x at hg
    repeat' (first | (first | refine brT ?_ | refine brF ?_ | refine And.intro rfl ?_ | refine And.intro trivial ?_ | intro _) | refine ⟨_, s_l03Reg _, ?_⟩ | refine brI (fun _ => ?_) (fun _ => ?_))
    all_goals try (refine tbf (hno ?_); rw [hg]; clear hI hno hg; simp_all [caseOk, within] <;> omega)
    all_goals have hc : caseOk p n x = true := (by clear hI hno hg; simp_all [caseOk, within] <;> omega)
    all_goals (refine And.intro (nn i) (And.intro (Nat.zero_le _) (And.intro (by simp; omega) ?_)))
    all_goals repeat (first | refine brT ?_ | refine brF ?_ | refine And.intro rfl ?_ | refine And.intro trivial ?_ | intro _)
    all_goals have e1 : ((s.1.map t_Case).take ((i : Int)).toNat).drop 0 = (s.1.take i).map t_Case := (by simp [List.map_take])
    all_goals have e2 : (s.1.take i).length = i := (by simp; omega)
    all_goals generalize s.1.take i = l at e1 e2 hg
    all_goals refine loopR (fun j => ⟨86, [(1, .int n), (3, .c (.bx 4000 q3 0)), (5, .c (.bx 6000 q5 0)), (8, .c (.bx 9000 q9 0)), (12, .c (.ro 5 (s.1.map t_Case))), (13, .int s.1.length), (14, .int i), (59, .c (.ro 5 (l.map t_Case))), (60, .int l.length), (61, .int j)], [(4000, .box q3 (t_Prog p).a2.cells), (6000, .box q5 (t_Select s).a2.cells), (9000, .box q9 (t_Case x).a2.cells)]⟩) l.length (fun j => ∀ k (hk : k < l.length), k < j → ¬ (0 ≤ x.2.1 ∧ x.2.1 = l[k].2.1)) (fun j _ h => absurd h (by omega)) (wk rfl ⟨rfl, rfl, rfl, rfl, rfl, rfl, rfl, (by rw [← e1]; rfl), gi rfl (by have := congrArg List.length e1; simp at this ⊢; omega), rfl, trivial⟩ ⟨rfl, rfl, rfl, trivial⟩) ?_
    all_goals intro j hj hJ
    all_goals refine brD (fun h3 => ?_) (fun h3 => ?_)
    all_goals try (
      have h3 : j < l.length := by simpa using h3
      refine ⟨nn j, t_Case l[j], atm h3, ?_⟩
      repeat' (first | (first | refine brT ?_ | refine brF ?_ | refine And.intro rfl ?_ | refine And.intro trivial ?_ | intro _) | refine brI (fun _ => ?_) (fun _ => ?_))
      · rename_i h4 h5
        have h4 : 0 ≤ x.2.1 := by simpa using h4
        have h5 : x.2.1 = l[j].2.1 := by simpa using h5
        exact tbf (hno (by rw [hg, dup_yes h3 h4 h5]; simp))
      · rename_i h4 h5
        have h5 : ¬ x.2.1 = l[j].2.1 := by simpa using h5
        refine nxtR h3 (fun k hk hkj => ?_) (wk rfl ⟨rfl, rfl, rfl, rfl, rfl, rfl, rfl, rfl, rfl, up1 h3 (by omega), trivial⟩ ⟨rfl, rfl, rfl, trivial⟩)
        by_cases e : k = j
        · subst e; exact fun hh => h5 hh.2
        · exact hJ k hk (by omega)
      · rename_i h4
        have h4 : ¬ 0 ≤ x.2.1 := by simpa using h4
        exact nxtR h3 (fun k hk hkj hh => h4 hh.1) (wk rfl ⟨rfl, rfl, rfl, rfl, rfl, rfl, rfl, rfl, rfl, up1 h3 (by omega), trivial⟩ ⟨rfl, rfl, rfl, trivial⟩))
    all_goals (
      have h3 : ¬ j < l.length := by simpa using h3
      exact nxtR h (all_up hI (by rw [hg, hc, dup_no (fun k hk => hJ k hk (by omega))]; rfl)) (wk rfl ⟨rfl, rfl, rfl, rfl, rfl, up1 h hl, trivial⟩ ⟨rfl, rfl, trivial⟩))
  · have : i = s.1.length := by simp at h; omega
    subst this
    repeat' (first | (first | refine brT ?_ | refine brF ?_ | refine And.intro rfl ?_ | refine And.intro trivial ?_ | intro _) | refine brI (fun _ => ?_) (fun _ => ?_))
    all_goals (refine tb ?_; rw [selOk_yes hI]; clear hI; simp_all [within] <;> omega)

def idxP {α : Type} (p : α → Bool) (l : List α) : Int := match l.findIdx? p with
  | some i => i
  | none => -1
theorem idxP_some {α : Type} {p : α → Bool} {l : List α} {i : Nat} (hi : i < l.length) (h1 : p l[i] = true) (h : ∀ j (hj : j < l.length), j < i → p l[j] = false) : idxP p l = i := by
  have : l.findIdx? p = some i := by
    rw [List.findIdx?_eq_some_iff_getElem]
    exact ⟨hi, h1, fun j hj => by simp [h j (by omega) hj]⟩
  simp [idxP, this]
theorem idxP_none {α : Type} {p : α → Bool} {l : List α} (h : ∀ j (hj : j < l.length), p l[j] = false) : idxP p l = -1 := by
  have : l.findIdx? p = none := by
    rw [List.findIdx?_eq_none_iff]
    intro x hx
    obtain ⟨j, hj, rfl⟩ := List.mem_iff_getElem.1 hx
    exact h j hj
  simp [idxP, this]
theorem idxP_ge {α : Type} {p : α → Bool} {l : List α} : decide (idxP p l ≥ 0) = l.any p := by
  unfold idxP
  cases h : l.findIdx? p with
  | some i =>
    rw [List.findIdx?_eq_some_iff_getElem] at h
    obtain ⟨hi, h1, _⟩ := h
    have : l.any p = true := List.any_eq_true.2 ⟨l[i], List.getElem_mem hi, h1⟩
    simp [this]
  | none =>
    rw [List.findIdx?_eq_none_iff] at h
    have : l.any p = false := List.any_eq_false.2 (fun x hx => by simp [h x hx])
    simp [this]
theorem idx_step {α : Type} {p : α → Bool} {l : List α} {i : Nat} (hi : i < l.length) (h : ∀ j (hj : j < l.length), j < i → p l[j] = false) (hp : p l[i] = false) : ∀ j (hj : j < l.length), j < i + 1 → p l[j] = false := by
  intro j hj h1
  by_cases e : j = i
  · subst e; exact hp
  · exact h j hj (by omega)

theorem s_Index (l : List Int) (c : Int) (hl : l.length ≤ bound) : Spec Tryd.prog 107 [.ro (.sl 1 (l.map T.int)), .ro (T.int c)] [T.int (idxP (fun x => c == x) l)] := by
  have hl' : l.length ≤ 16777216 := hl
  refine fn Tryd.func107 ?_
  repeat (first | refine brT ?_ | refine brF ?_ | refine And.intro rfl ?_ | refine And.intro trivial ?_ | intro _)
  refine loopR (fun i => ⟨19, [(0, .c (.ro 1 (l.map T.int))), (1, .int c), (7, .int l.length), (8, .int i)], []⟩) l.length (fun i => ∀ j (hj : j < l.length), j < i → (c == l[j]) = false) (fun j _ h => absurd h (by omega)) (wk rfl ⟨rfl, rfl, lenm, rfl, trivial⟩ trivial) ?_
  intro i hi hI
  refine brD (fun h => ?_) (fun h => ?_)
  · have h : i < l.length := by simpa using h
    refine ⟨nn i, T.int l[i], atm h, ?_⟩
    refine brI (fun h1 => ?_) (fun h1 => ?_)
    · exact ti (idxP_some (p := fun x => c == x) h h1 hI).symm
    · exact nxtR h (idx_step (p := fun x => c == x) h hI h1) (wk rfl ⟨rfl, rfl, rfl, up1 h hl', trivial⟩ trivial)
  · exact ti (idxP_none (p := fun x => c == x) (fun j hj => hI j hj (by simp at h; omega))).symm
theorem s_Contains (l : List Int) (c : Int) (hl : l.length ≤ bound) : Spec Tryd.prog 97 [.ro (.sl 1 (l.map T.int)), .ro (T.int c)] [T.bool (l.any (fun x => c == x))] := by
  refine fn Tryd.func97 ?_
  repeat (first | refine brT ?_ | refine brF ?_ | refine And.intro rfl ?_ | refine And.intro trivial ?_ | intro _)
  refine ⟨_, s_Index l c hl, ?_⟩
  repeat (first | refine brT ?_ | refine brF ?_ | refine And.intro rfl ?_ | refine And.intro trivial ?_ | intro _)
  exact tb idxP_ge
def met (l : List Y_Case) : List Int := (l.filter (fun y => y.2.1 != -1)).map (fun y => y.2.1)
theorem met_len (l : List Y_Case) : (met l).length ≤ l.length := by simp only [met, List.length_map]; exact List.length_filter_le _ _
theorem met_succ {l : List Y_Case} {i : Nat} (h : i < l.length) : met (l.take (i + 1)) = if l[i].2.1 = -1 then met (l.take i) else met (l.take i) ++ [l[i].2.1] := by
  rw [List.take_succ_eq_append_getElem h]
  unfold met
  rw [List.filter_append, List.map_append]
  split
  · rename_i e; simp [e]
  · rename_i e; simp [e]
theorem met_dup {l : List Y_Case} {c : Int} (hc : -1 ≤ c) : (met l).any (fun x => c == x) = dup l c := by
  unfold met dup
  rw [List.any_map, List.any_filter]
  by_cases h : 0 ≤ c
  · have : ∀ y : Y_Case, (y.2.1 != -1 && c == y.2.1) = (c == y.2.1) := fun y => by
      by_cases e : c = y.2.1
      · have : y.2.1 ≠ -1 := by omega
        simp [e, this]
      · simp [e]
    simp only [Function.comp_apply, this, h, decide_true, Bool.true_and]
  · have e : c = -1 := by omega
    subst e
    have : ∀ y : Y_Case, (y.2.1 != -1 && (-1 : Int) == y.2.1) = false := fun y => by
      by_cases e : y.2.1 = -1
      · simp [e]
      · have : ¬ (-1 : Int) = y.2.1 := fun h => e h.symm
        simp [this]
    simp only [Function.comp_apply, this]
    simp
theorem chanR_ge {p : Y_Prog} {c : Int} (h : chanR p c = true) : -1 ≤ c := by
  simp only [chanR, within, Bool.and_eq_true, decide_eq_true_eq] at h
  omega
theorem i_SelectOk (p : Y_Prog) (n : Int) (s : Y_Select) (h2 : s.1.length ≤ bound) : Spec Tryd.prog 79 [.ro (t_Prog p), .ro (T.int n), .ro (t_Select s)] [T.bool (selOk p n s)] := by
  have hl : s.1.length ≤ 16777216 := h2
  refine fn Tryd.func79 ?_
  intro q3 q5
  repeat (first | refine brT ?_ | refine brF ?_ | refine And.intro rfl ?_ | refine And.intro trivial ?_ | intro _)
  refine ⟨fun t h => (by cases h), fun q0 => ?_⟩
  repeat (first | refine brT ?_ | refine brF ?_ | refine And.intro rfl ?_ | refine And.intro trivial ?_ | intro _)
  refine loopI (fun x : Nat × Nat => ⟨70, [(1, .int n), (3, .c (.bx 4000 q3 0)), (5, .c (.bx 6000 q5 0)), (7, .c (.own 11000 x.2)), (12, .c (.ro 5 (s.1.map t_Case))), (13, .int s.1.length), (14, .int x.1)], [(4000, .box q3 (t_Prog p).a2.cells), (6000, .box q5 (t_Select s).a2.cells), (11000, .row x.2 0 1 ((met (s.1.take x.1)).map T.int))]⟩) (fun x => s.1.length - x.1) (fun x => x.1 ≤ s.1.length ∧ ∀ j, j < x.1 → goodK p n s.1 j = true) (0, q0) ⟨Nat.zero_le _, fun j h => absurd h (by simp)⟩ (wk rfl ⟨rfl, rfl, rfl, rfl, rfl, lenm, rfl, trivial⟩ ⟨rfl, rfl, rfl, trivial⟩) ?_
  rintro ⟨i, q⟩ ⟨hi, hI⟩
  simp only at hi hI
  refine brD (fun h => ?_) (fun h => ?_)
  · have h : i < s.1.length := by simpa using h
    have hg := good_at (p := p) (n := n) h
    have hno := @selOk_no p n s _ h
    have hml := met_len (s.1.take i)
    have hml2 : (met (s.1.take i)).length ≤ i := by simp at hml; omega
    have hms := met_succ h
    refine ⟨nn i, t_Case s.1[i], atm h, ?_⟩
    intro q9
    repeat (first | refine brT ?_ | refine brF ?_ | refine And.intro rfl ?_ | refine And.intro trivial ?_ | intro _)
    refine ⟨_, i_isChan p _, ?_⟩
    generalize s.1[i] = x at hg hms
    have sc := s_Contains (met (s.1.take i)) x.2.1 (by unfold bound; omega)
    have hd := fun (hc : chanR p x.2.1 = true) => met_dup (l := s.1.take i) (chanR_ge hc)
    generalize (met (s.1.take i)).any (fun y => x.2.1 == y) = A at sc hd
    repeat' (first | (first | refine brT ?_ | refine brF ?_ | refine And.intro rfl ?_ | refine And.intro trivial ?_ | intro _) | refine ⟨_, i_isReg _, ?_⟩ | refine ⟨_, s_within _ _ _, ?_⟩ | refine ⟨_, sc, ?_⟩ | refine brI (fun _ => ?_) (fun _ => ?_))
    all_goals try (refine tbf (hno ?_); rw [hg]; clear hI hno hg hms hml hml2; simp_all [caseOk] <;> omega)
    all_goals have hg2 : goodK p n s.1 i = true := (by rw [hg]; clear hI hno hg hms hml hml2; simp_all [caseOk] <;> omega)
    all_goals rename_i hne
    all_goals first
      | (have e : x.2.1 = -1 := (by simpa using hne)
         rw [if_pos e] at hms
         exact nxt (i + 1, q) ⟨h, all_up hI hg2⟩ (by show _ < _; simp only; omega) (wk rfl ⟨rfl, rfl, rfl, rfl, rfl, rfl, up1 h hl, trivial⟩ ⟨rfl, rfl, gr rfl (by rw [hms]), trivial⟩))
      | (have e : ¬ x.2.1 = -1 := (by simpa using hne)
         rw [if_neg e] at hms
         refine ⟨fun t ht => (by simp at ht; subst ht; rfl), fun q1 => ?_⟩
         repeat (first | refine brT ?_ | refine brF ?_ | refine And.intro rfl ?_ | refine And.intro trivial ?_ | intro _)
         refine ⟨by simp only [List.length_map, List.length_singleton]; unfold bound; omega, fun q2 => ?_⟩
         repeat (first | refine brT ?_ | refine brF ?_ | refine And.intro rfl ?_ | refine And.intro trivial ?_ | intro _)
         exact nxt (i + 1, q2) ⟨h, all_up hI hg2⟩ (by show _ < _; simp only; omega) (wk rfl ⟨rfl, rfl, rfl, rfl, rfl, rfl, up1 h hl, trivial⟩ ⟨rfl, rfl, gr rfl (by rw [hms, List.map_append]; rfl), trivial⟩))
  · have : i = s.1.length := by simp at h; omega
    subst this
    repeat (first | refine brT ?_ | refine brF ?_ | refine And.intro rfl ?_ | refine And.intro trivial ?_ | intro _)
    refine ⟨_, s_within _ _ _, ?_⟩
    repeat (first | refine brT ?_ | refine brF ?_ | refine And.intro rfl ?_ | refine And.intro trivial ?_ | intro _)
    exact tb (selOk_yes hI).symm

def instrGood (p : Y_Prog) (n : Int) (i : Y_Instr) : Bool := instrOk p n i && (i.1 != 11 || match p.2.2.1[i.2.1.toNat]? with
  | some s => selOk p n s
  | none => false)
def lastOp (c : List Y_Instr) : Int := match c[c.length - 1]? with
  | some i => i.1
  | none => 0
def procOk (p : Y_Prog) (c : List Y_Instr) : Bool := decide (1 ≤ c.length) && decide (c.length ≤ 40) && c.all (instrGood p c.length) && (lastOp c == 1 || lastOp c == 6)
theorem op11 {p : Y_Prog} {n : Int} {i : Y_Instr} (h : instrOk p n i = true) (h1 : i.1 = 11) : 0 ≤ i.2.1 ∧ i.2.1.toNat < p.2.2.1.length := by
  unfold instrOk at h
  simp only [h1] at h
  simp [within] at h
  omega
theorem good11 {p : Y_Prog} {n : Int} {i : Y_Instr} (h : instrOk p n i = true) (h1 : i.1 = 11) (hl : i.2.1.toNat < p.2.2.1.length) : instrGood p n i = selOk p n p.2.2.1[i.2.1.toNat] := by
  simp [instrGood, h, h1, hl]
theorem goodN {p : Y_Prog} {n : Int} {i : Y_Instr} (h : instrOk p n i = true) (h1 : ¬ i.1 = 11) : instrGood p n i = true := by
  simp [instrGood, h, h1]
theorem atS {α : Type} {l : List α} {f : α → T} {j : Int} (h : j.toNat < l.length) : (l.map f)[j.toNat]? = some (f l[j.toNat]) := by simp [h]
theorem s_l04Proc (p : Y_Prog) (c : List Y_Instr) (hp : ok_Prog p) (hc : c.length ≤ bound) : Spec Tryd.prog 78 [.ro (t_Prog p), .ro (.sl 4 (c.map t_Instr))] [T.bool (procOk p c)] := by
  have hl : c.length ≤ 16777216 := hc
  obtain ⟨hp1, hp2, hp3⟩ := id hp
  refine fn Tryd.func78 ?_
  intro q2
  repeat (first | refine brT ?_ | refine brF ?_ | refine And.intro rfl ?_ | refine And.intro trivial ?_ | intro _)
  refine brI (fun h => ?_) (fun h => ?_)
  · repeat (first | refine brT ?_ | refine brF ?_ | refine And.intro rfl ?_ | refine And.intro trivial ?_ | intro _)
    refine tbf ?_
    have h := of_decide_eq_true h
    simp only [List.length_map] at h
    have : ¬ 1 ≤ c.length := by omega
    simp [procOk, this]
  have h1 := of_decide_eq_false h
  simp only [List.length_map] at h1
  repeat (first | refine brT ?_ | refine brF ?_ | refine And.intro rfl ?_ | refine And.intro trivial ?_ | intro _)
  refine brI (fun h => ?_) (fun h => ?_)
  · refine tbf ?_
    have h := of_decide_eq_true h
    simp only [List.length_map] at h
    have : ¬ c.length ≤ 40 := by omega
    simp [procOk, this]
  have h2 := of_decide_eq_false h
  simp only [List.length_map] at h2
  repeat (first | refine brT ?_ | refine brF ?_ | refine And.intro rfl ?_ | refine And.intro trivial ?_ | intro _)
  refine loopR (fun i => ⟨59, [(1, .c (.ro 4 (c.map t_Instr))), (2, .c (.bx 3000 q2 0)), (5, .int c.length), (16, .c (.ro 4 (c.map t_Instr))), (17, .int c.length), (18, .int i)], [(3000, .box q2 (t_Prog p).a2.cells)]⟩) c.length (fun i => ∀ j (hj : j < c.length), j < i → instrGood p c.length c[j] = true) (fun j _ h => absurd h (by omega)) (wk rfl ⟨rfl, rfl, lenm, rfl, lenm, rfl, trivial⟩ ⟨rfl, trivial⟩) ?_
  intro i hi hI
  refine brD (fun h => ?_) (fun h => ?_)
  · have h : i < c.length := by simpa using h
    have hno := fun (hk : instrGood p c.length c[i] = false) => all_no (p := instrGood p c.length) h hk
    have hup := all_step (p := instrGood p c.length) h hI
    refine ⟨nn i, t_Instr c[i], atm h, ?_⟩
    intro q8
    repeat (first | refine brT ?_ | refine brF ?_ | refine And.intro rfl ?_ | refine And.intro trivial ?_ | intro _)
    generalize c[i] = x at hno hup
    refine ⟨_, s_InstrOk p c.length x hp1 hp2.1 hp3.1, ?_⟩
    repeat (first | refine brT ?_ | refine brF ?_ | refine And.intro rfl ?_ | refine And.intro trivial ?_ | intro _)
    refine brI (fun h3 => ?_) (fun h3 => ?_)
    · refine tbf ?_
      have h3 : instrOk p c.length x = false := by simpa using h3
      simp [procOk, hno (by simp [instrGood, h3])]
    have h3 : instrOk p c.length x = true := by simpa using h3
    repeat (first | refine brT ?_ | refine brF ?_ | refine And.intro rfl ?_ | refine And.intro trivial ?_ | intro _)
    refine dr (Pl.go 0 (Pl.go 1 (Pl.go 2 (Pl.go 3 (Pl.go 4 (Pl.go 5 (Pl.go 6 (Pl.go 7 (Pl.go 8 (Pl.go 9 (Pl.go 10 (Pl.go 11 (Pl.go 12 (Pl.go 13 (Pl.go 14 Pl.stop))))))))))))))) (by kernel_rfl) ?_
    repeat (first | refine brT ?_ | refine brF ?_ | refine And.intro rfl ?_ | refine And.intro trivial ?_ | intro _)
    by_cases h4 : x.1 = 11
    · obtain ⟨h5, h6⟩ := op11 h3 h4
      refine brR (by simp [h4]) (fun _ => ?_)
      repeat (first | refine brT ?_ | refine brF ?_ | refine And.intro rfl ?_ | refine And.intro trivial ?_ | intro _)
      refine ⟨h5, t_Select p.2.2.1[x.2.1.toNat], atS h6, ?_⟩
      repeat (first | refine brT ?_ | refine brF ?_ | refine And.intro rfl ?_ | refine And.intro trivial ?_ | intro _)
      refine ⟨_, s_SelectOk p c.length p.2.2.1[x.2.1.toNat] hp1 (hp2.2 _ (List.getElem_mem h6)).1, ?_⟩
      have hg := good11 h3 h4 h6
      repeat (first | refine brT ?_ | refine brF ?_ | refine And.intro rfl ?_ | refine And.intro trivial ?_ | intro _)
      refine brI (fun h7 => ?_) (fun h7 => ?_)
      · refine tbf ?_
        have h7 : (!selOk p c.length p.2.2.1[x.2.1.toNat]) = true := h7
        simp [procOk, hno (by rw [hg]; simpa using h7)]
      · have h7 : (!selOk p c.length p.2.2.1[x.2.1.toNat]) = false := h7
        exact nxtR h (hup (by rw [hg]; simpa using h7)) (wk rfl ⟨rfl, rfl, rfl, rfl, rfl, up1 h hl, trivial⟩ ⟨rfl, trivial⟩)
    · refine brL (by simp [h4]) (fun _ => ?_)
      repeat (first | refine brT ?_ | refine brF ?_ | refine And.intro rfl ?_ | refine And.intro trivial ?_ | intro _)
      exact nxtR h (hup (goodN h3 h4)) (wk rfl ⟨rfl, rfl, rfl, rfl, rfl, up1 h hl, trivial⟩ ⟨rfl, trivial⟩)
  · have hall := all_end (p := instrGood p c.length) (by omega) hI
    have hk : c.length - 1 < c.length := by omega
    have hw : w64 ((c.length : Int) - 1) = ((c.length - 1 : Nat) : Int) := by rw [w64_id (by omega) (by omega)]; omega
    have hat : (c.map t_Instr)[(w64 ((c.length : Int) - 1)).toNat]? = some (t_Instr c[c.length - 1]) := by rw [hw]; exact atm hk
    have hlast : lastOp c = c[c.length - 1].1 := by simp [lastOp, hk]
    refine ⟨by show (0 : Int) ≤ w64 ((c.length : Int) - 1); rw [hw]; omega, t_Instr c[c.length - 1], hat, ?_⟩
    repeat (first | refine brT ?_ | refine brF ?_ | refine And.intro rfl ?_ | refine And.intro trivial ?_ | intro _)
    refine brI (fun h3 => ?_) (fun h3 => ?_)
    · repeat (first | refine brT ?_ | refine brF ?_ | refine And.intro rfl ?_ | refine And.intro trivial ?_ | intro _)
      refine tbt ?_
      have h3 : c[c.length - 1].1 = 1 := by simpa using h3
      have a1 : 1 ≤ c.length := by omega
      have a2 : c.length ≤ 40 := by omega
      simp [procOk, hall, hlast, h3, a1, a2]
    · repeat (first | refine brT ?_ | refine brF ?_ | refine And.intro rfl ?_ | refine And.intro trivial ?_ | intro _)
      refine ⟨by show (0 : Int) ≤ w64 ((c.length : Int) - 1); rw [hw]; omega, t_Instr c[c.length - 1], hat, ?_⟩
      repeat (first | refine brT ?_ | refine brF ?_ | refine And.intro rfl ?_ | refine And.intro trivial ?_ | intro _)
      refine tb ?_
      have h3 : ¬ c[c.length - 1].1 = 1 := by simpa using h3
      have a1 : 1 ≤ c.length := by omega
      have a2 : c.length ≤ 40 := by omega
      simp [procOk, hall, hlast, h3, a1, a2]

def selGood (p : Y_Prog) (s : Y_Select) : Bool := decide (s.1.length ≤ 4) && !(decide (s.1.length = 0) && decide (s.2 < 0)) && selOk p 40 s
def capOk (c : Int) : Bool := decide (0 ≤ c) && decide (c ≤ 4)
def headOk (p : Y_Prog) : Bool := decide (p.1.length ≤ 6) && decide (0 ≤ p.2.1) && decide (p.2.1 ≤ 4) && decide (p.2.2.1.length ≤ 6) && decide (1 ≤ p.2.2.2.length) && decide (p.2.2.2.length ≤ 6)
def progOk (p : Y_Prog) : Bool := headOk p && p.1.all capOk && p.2.2.1.all (selGood p) && p.2.2.2.all (procOk p)
theorem selGood_neg {p : Y_Prog} {s : Y_Select} (h : s.2 < -1) : selOk p 40 s = false := by
  have : within s.2 (-1) 40 = false := by simp [within]; omega
  simp [selOk, this]
theorem s_ProgOk (p : Y_Prog) (hp : ok_Prog p) : Spec Tryd.prog 47 [.ro (t_Prog p)] [T.bool (progOk p)] := by
  obtain ⟨hp1, hp2, hp3⟩ := id hp
  have l1 : p.1.length ≤ 16777216 := hp1
  have l2 : p.2.2.1.length ≤ 16777216 := hp2.1
  have l3 : p.2.2.2.length ≤ 16777216 := hp3.1
  refine fn Tryd.func47 ?_
  intro q1
  repeat' (first | (first | refine brT ?_ | refine brF ?_ | refine And.intro rfl ?_ | refine And.intro trivial ?_ | intro _) | refine brI (fun _ => ?_) (fun _ => ?_))
  all_goals try (
    refine tbf ?_
    have : headOk p = false := by simp_all [headOk] <;> omega
    simp [progOk, this]
    done)
  have hh : headOk p = true := by simp_all [headOk] <;> omega
  refine loopR (fun i => ⟨97, [(1, .c (.bx 2000 q1 0)), (42, .c (.ro 1 (p.1.map T.int))), (43, .int p.1.length), (44, .int i)], [(2000, .box q1 (t_Prog p).a2.cells)]⟩) p.1.length (fun i => ∀ j (hj : j < p.1.length), j < i → capOk p.1[j] = true) (fun j _ h => absurd h (by omega)) (wk rfl ⟨rfl, rfl, lenm, rfl, trivial⟩ ⟨rfl, trivial⟩) ?_
  intro i hi hI
  refine brD (fun h => ?_) (fun h => ?_)
  · have h : i < p.1.length := by simpa using h
    have hno := fun (hk : capOk p.1[i] = false) => all_no (p := capOk) h hk
    have hup := all_step (p := capOk) h hI
    refine ⟨nn i, T.int p.1[i], atm h, ?_⟩
    generalize p.1[i] = c at hno hup
    repeat' (first | (first | refine brT ?_ | refine brF ?_ | refine And.intro rfl ?_ | refine And.intro trivial ?_ | intro _) | refine brI (fun _ => ?_) (fun _ => ?_))
    all_goals try (
      refine tbf ?_
      have : capOk c = false := by clear hI hup hno; simp_all [capOk] <;> omega
      simp [progOk, hno this]
      done)
    exact nxtR h (hup (by clear hI hup hno; simp_all [capOk] <;> omega)) (wk rfl ⟨rfl, rfl, rfl, up1 h l1, trivial⟩ ⟨rfl, trivial⟩)
  have a1 : p.1.all capOk = true := all_end (by omega) hI
  clear h hI hi
  repeat (first | refine brT ?_ | refine brF ?_ | refine And.intro rfl ?_ | refine And.intro trivial ?_ | intro _)
  refine loopR (fun i => ⟨97, [(1, .c (.bx 2000 q1 0)), (56, .c (.ro 2 (p.2.2.1.map t_Select))), (57, .int p.2.2.1.length), (58, .int i)], [(2000, .box q1 (t_Prog p).a2.cells)]⟩) p.2.2.1.length (fun i => ∀ j (hj : j < p.2.2.1.length), j < i → selGood p p.2.2.1[j] = true) (fun j _ h => absurd h (by omega)) (wk rfl ⟨rfl, rfl, lenm, rfl, trivial⟩ ⟨rfl, trivial⟩) ?_
  intro i hi hI
  refine brD (fun h => ?_) (fun h => ?_)
  · have h : i < p.2.2.1.length := by simpa using h
    have hno := fun (hk : selGood p p.2.2.1[i] = false) => all_no (p := selGood p) h hk
    have hup := all_step (p := selGood p) h hI
    have hs := (hp2.2 _ (List.getElem_mem h)).1
    refine ⟨nn i, t_Select p.2.2.1[i], atm h, ?_⟩
    intro q7
    generalize p.2.2.1[i] = s at hno hup hs
    repeat' (first | (first | refine brT ?_ | refine brF ?_ | refine And.intro rfl ?_ | refine And.intro trivial ?_ | intro _) | refine ⟨_, s_SelectOk p 40 s hp1 hs, ?_⟩ | refine brI (fun _ => ?_) (fun _ => ?_))
    all_goals try (
      refine tbf ?_
      have : selGood p s = false := by clear hI hup hno; simp_all [selGood] <;> omega
      simp [progOk, hno this]
      done)
    all_goals exact nxtR h (hup (by clear hI hup hno; simp_all [selGood] <;> omega)) (wk rfl ⟨rfl, rfl, rfl, up1 h l2, trivial⟩ ⟨rfl, trivial⟩)
  have a2 : p.2.2.1.all (selGood p) = true := all_end (by omega) hI
  clear h hI hi
  repeat (first | refine brT ?_ | refine brF ?_ | refine And.intro rfl ?_ | refine And.intro trivial ?_ | intro _)
  refine loopR (fun i => ⟨97, [(1, .c (.bx 2000 q1 0)), (85, .c (.ro 1 (p.2.2.2.map t_Proc))), (86, .int p.2.2.2.length), (87, .int i)], [(2000, .box q1 (t_Prog p).a2.cells)]⟩) p.2.2.2.length (fun i => ∀ j (hj : j < p.2.2.2.length), j < i → procOk p p.2.2.2[j] = true) (fun j _ h => absurd h (by omega)) (wk rfl ⟨rfl, rfl, lenm, rfl, trivial⟩ ⟨rfl, trivial⟩) ?_
  intro i hi hI
  refine brD (fun h => ?_) (fun h => ?_)
  · have h : i < p.2.2.2.length := by simpa using h
    have hno := fun (hk : procOk p p.2.2.2[i] = false) => all_no (p := procOk p) h hk
    have hup := all_step (p := procOk p) h hI
    have hs : p.2.2.2[i].length ≤ bound := (hp3.2 _ (List.getElem_mem h)).1
    refine ⟨nn i, t_Proc p.2.2.2[i], atm h, ?_⟩
    intro q7
    repeat (first | refine brT ?_ | refine brF ?_ | refine And.intro rfl ?_ | refine And.intro trivial ?_ | intro _)
    generalize p.2.2.2[i] = c at hno hup hs
    refine ⟨_, s_l04Proc p c hp hs, ?_⟩
    repeat (first | refine brT ?_ | refine brF ?_ | refine And.intro rfl ?_ | refine And.intro trivial ?_ | intro _)
    refine brI (fun h3 => ?_) (fun h3 => ?_)
    · refine tbf ?_
      simp [progOk, hno (by simpa using h3)]
    · exact nxtR h (hup (by simpa using h3)) (wk rfl ⟨rfl, rfl, rfl, up1 h l3, trivial⟩ ⟨rfl, trivial⟩)
  have a3 : p.2.2.2.all (procOk p) = true := all_end (by omega) hI
  repeat (first | refine brT ?_ | refine brF ?_ | refine And.intro rfl ?_ | refine And.intro trivial ?_ | intro _)
  exact tbt (by simp [progOk, hh, a1, a2, a3])

theorem i_ProgOk (p : Y_Prog) (hp : ok_Prog p) : Spec Tryd.prog 49 [.ro (t_Prog p)] [T.bool (progOk p)] := by
  obtain ⟨hp1, hp2, hp3⟩ := id hp
  have l1 : p.1.length ≤ 16777216 := hp1
  have l2 : p.2.2.1.length ≤ 16777216 := hp2.1
  have l3 : p.2.2.2.length ≤ 16777216 := hp3.1
  refine fn Tryd.func49 ?_
  intro q1
  repeat' (first | (first | refine brT ?_ | refine brF ?_ | refine And.intro rfl ?_ | refine And.intro trivial ?_ | intro _) | refine brI (fun _ => ?_) (fun _ => ?_))
  all_goals try (
    refine tbf ?_
    have : headOk p = false := by simp_all [headOk] <;> omega
    simp [progOk, this]
    done)
  have hh : headOk p = true := by simp_all [headOk] <;> omega
  refine loopR (fun i => ⟨148, [(1, .c (.bx 2000 q1 0)), (46, .c (.ro 1 (p.1.map T.int))), (47, .int p.1.length), (48, .int i)], [(2000, .box q1 (t_Prog p).a2.cells)]⟩) p.1.length (fun i => ∀ j (hj : j < p.1.length), j < i → capOk p.1[j] = true) (fun j _ h => absurd h (by omega)) (wk rfl ⟨rfl, rfl, lenm, rfl, trivial⟩ ⟨rfl, trivial⟩) ?_
  intro i hi hI
  refine brD (fun h => ?_) (fun h => ?_)
  · have h : i < p.1.length := by simpa using h
    have hno := fun (hk : capOk p.1[i] = false) => all_no (p := capOk) h hk
    have hup := all_step (p := capOk) h hI
    refine ⟨nn i, T.int p.1[i], atm h, ?_⟩
    generalize p.1[i] = c at hno hup
    repeat' (first | (first | refine brT ?_ | refine brF ?_ | refine And.intro rfl ?_ | refine And.intro trivial ?_ | intro _) | refine brI (fun _ => ?_) (fun _ => ?_))
    all_goals try (
      refine tbf ?_
      have : capOk c = false := by clear hI hup hno; simp_all [capOk] <;> omega
      simp [progOk, hno this]
      done)
    exact nxtR h (hup (by clear hI hup hno; simp_all [capOk] <;> omega)) (wk rfl ⟨rfl, rfl, rfl, up1 h l1, trivial⟩ ⟨rfl, trivial⟩)
  have a1 : p.1.all capOk = true := all_end (by omega) hI
  clear h hI hi
  repeat (first | refine brT ?_ | refine brF ?_ | refine And.intro rfl ?_ | refine And.intro trivial ?_ | intro _)
  refine loopR (fun i => ⟨148, [(1, .c (.bx 2000 q1 0)), (60, .c (.ro 2 (p.2.2.1.map t_Select))), (61, .int p.2.2.1.length), (62, .int i)], [(2000, .box q1 (t_Prog p).a2.cells)]⟩) p.2.2.1.length (fun i => ∀ j (hj : j < p.2.2.1.length), j < i → selGood p p.2.2.1[j] = true) (fun j _ h => absurd h (by omega)) (wk rfl ⟨rfl, rfl, lenm, rfl, trivial⟩ ⟨rfl, trivial⟩) ?_
  intro i hi hI
  refine brD (fun h => ?_) (fun h => ?_)
  · have h : i < p.2.2.1.length := by simpa using h
    have hno := fun (hk : selGood p p.2.2.1[i] = false) => all_no (p := selGood p) h hk
    have hup := all_step (p := selGood p) h hI
    have hs := (hp2.2 _ (List.getElem_mem h)).1
    refine ⟨nn i, t_Select p.2.2.1[i], atm h, ?_⟩
    intro q7
    generalize p.2.2.1[i] = s at hno hup hs
    have hneg := @selGood_neg p s
    repeat' (first | (first | refine brT ?_ | refine brF ?_ | refine And.intro rfl ?_ | refine And.intro trivial ?_ | intro _) | refine ⟨_, i_SelectOk p 40 s hs, ?_⟩ | refine brI (fun _ => ?_) (fun _ => ?_))
    all_goals try (
      refine tbf ?_
      have : selGood p s = false := by clear hI hup hno; simp_all [selGood] <;> omega
      simp [progOk, hno this]
      done)
    all_goals (
      have hge : ¬ s.2 < -1 := fun hlt => by have := hneg hlt; clear hI hup hno hneg; simp_all
      exact nxtR h (hup (by clear hI hup hno hneg; simp_all [selGood] <;> omega)) (wk rfl ⟨rfl, rfl, rfl, up1 h l2, trivial⟩ ⟨rfl, trivial⟩))
  have a2 : p.2.2.1.all (selGood p) = true := all_end (by omega) hI
  clear h hI hi
  repeat (first | refine brT ?_ | refine brF ?_ | refine And.intro rfl ?_ | refine And.intro trivial ?_ | intro _)
  refine loopR (fun i => ⟨148, [(1, .c (.bx 2000 q1 0)), (89, .c (.ro 1 (p.2.2.2.map t_Proc))), (90, .int p.2.2.2.length), (91, .int i)], [(2000, .box q1 (t_Prog p).a2.cells)]⟩) p.2.2.2.length (fun i => ∀ j (hj : j < p.2.2.2.length), j < i → procOk p p.2.2.2[j] = true) (fun j _ h => absurd h (by omega)) (wk rfl ⟨rfl, rfl, lenm, rfl, trivial⟩ ⟨rfl, trivial⟩) ?_
  intro i hi hI
  refine brD (fun h => ?_) (fun h => ?_)
  · have h : i < p.2.2.2.length := by simpa using h
    have hno := fun (hk : procOk p p.2.2.2[i] = false) => all_no (p := procOk p) h hk
    have hup := all_step (p := procOk p) h hI
    have hs : p.2.2.2[i].length ≤ bound := (hp3.2 _ (List.getElem_mem h)).1
    refine ⟨nn i, t_Proc p.2.2.2[i], atm h, ?_⟩
    intro q8
    repeat (first | refine brT ?_ | refine brF ?_ | refine And.intro rfl ?_ | refine And.intro trivial ?_ | intro _)
    generalize p.2.2.2[i] = c at hno hup hs
    have lc : c.length ≤ 16777216 := hs
    have hnoP : procOk p c = false → progOk p = false := fun hk => by simp [progOk, hno hk]
    clear hno
    refine brI (fun h => ?_) (fun h => ?_)
    · repeat (first | refine brT ?_ | refine brF ?_ | refine And.intro rfl ?_ | refine And.intro trivial ?_ | intro _)
      refine tbf (hnoP ?_)
      have h := of_decide_eq_true h
      simp only [List.length_map] at h
      have : ¬ 1 ≤ c.length := by omega
      simp [procOk, this]
    have h1 := of_decide_eq_false h
    simp only [List.length_map] at h1
    repeat (first | refine brT ?_ | refine brF ?_ | refine And.intro rfl ?_ | refine And.intro trivial ?_ | intro _)
    refine brI (fun h => ?_) (fun h => ?_)
    · refine tbf (hnoP ?_)
      have h := of_decide_eq_true h
      simp only [List.length_map] at h
      have : ¬ c.length ≤ 40 := by omega
      simp [procOk, this]
    have h2 := of_decide_eq_false h
    simp only [List.length_map] at h2
    clear h
    rename_i h
    have h : i < p.2.2.2.length := by assumption
    repeat (first | refine brT ?_ | refine brF ?_ | refine And.intro rfl ?_ | refine And.intro trivial ?_ | intro _)
    refine loopR (fun j => ⟨148, [(1, .c (.bx 2000 q1 0)), (8, .c (.bx 9000 q8 0)), (9, .int c.length), (89, .c (.ro 1 (p.2.2.2.map t_Proc))), (90, .int p.2.2.2.length), (91, .int i), (105, .c (.ro 4 (c.map t_Instr))), (106, .int c.length), (107, .int j)], [(2000, .box q1 (t_Prog p).a2.cells), (9000, .box q8 (t_Proc c).a2.cells)]⟩) c.length (fun i => ∀ j (hj : j < c.length), j < i → instrGood p c.length c[j] = true) (fun j _ h => absurd h (by omega)) (wk rfl ⟨rfl, rfl, lenm, rfl, rfl, rfl, rfl, lenm, rfl, trivial⟩ ⟨rfl, rfl, trivial⟩) ?_
    intro j hj hJ
    refine brD (fun h => ?_) (fun h => ?_)
    · have h : j < c.length := by simpa using h
      have hno := fun (hk : instrGood p c.length c[j] = false) => all_no (p := instrGood p c.length) h hk
      have hup := all_step (p := instrGood p c.length) h hJ
      refine ⟨nn j, t_Instr c[j], atm h, ?_⟩
      intro q12
      repeat (first | refine brT ?_ | refine brF ?_ | refine And.intro rfl ?_ | refine And.intro trivial ?_ | intro _)
      generalize c[j] = x at hno hup
      refine dr (Pl.go 0 (Pl.go 1 (Pl.go 2 (Pl.go 3 (Pl.go 4 (Pl.go 5 (Pl.go 6 (Pl.go 7 (Pl.go 8 (Pl.go 9 (Pl.go 11 (Pl.go 12 (Pl.go 14 ((Pl.go 10 ((Pl.go 13 (Pl.go 15 (Pl.go 16 (Pl.go 17 (Pl.go 18 (Pl.go 19 (Pl.go 20 (Pl.go 21 Pl.stop)))))))).or (Pl.go 15 (Pl.go 13 (Pl.go 16 (Pl.go 17 (Pl.go 18 (Pl.go 19 (Pl.go 20 (Pl.go 21 Pl.stop)))))))))).or ((Pl.go 13 ((Pl.go 10 (Pl.go 15 (Pl.go 16 (Pl.go 17 (Pl.go 18 (Pl.go 19 (Pl.go 20 (Pl.go 21 Pl.stop)))))))).or (Pl.go 15 (Pl.go 16 ((Pl.go 10 (Pl.go 17 (Pl.go 18 (Pl.go 19 (Pl.go 20 (Pl.go 21 Pl.stop)))))).or (Pl.go 17 (Pl.go 10 (Pl.go 18 (Pl.go 19 (Pl.go 20 (Pl.go 21 Pl.stop))))))))))).or (Pl.go 15 ((Pl.go 10 (Pl.go 13 (Pl.go 16 (Pl.go 17 (Pl.go 18 (Pl.go 19 (Pl.go 20 (Pl.go 21 Pl.stop)))))))).or (Pl.go 13 (Pl.go 16 ((Pl.go 10 (Pl.go 17 (Pl.go 18 (Pl.go 19 (Pl.go 20 (Pl.go 21 Pl.stop)))))).or (Pl.go 17 (Pl.go 10 (Pl.go 18 (Pl.go 19 (Pl.go 20 (Pl.go 21 Pl.stop)))))))))))))))))))))))))) (by kernel_rfl) ?_
      repeat (first | refine brT ?_ | refine brF ?_ | refine And.intro rfl ?_ | refine And.intro trivial ?_ | intro _)
      refine ⟨_, i_InstrOk p c.length x, ?_⟩
      repeat (first | refine brT ?_ | refine brF ?_ | refine And.intro rfl ?_ | refine And.intro trivial ?_ | intro _)
      refine brI (fun h3 => ?_) (fun h3 => ?_)
      · repeat' (first | (first | refine brT ?_ | refine brF ?_ | refine And.intro rfl ?_ | refine And.intro trivial ?_ | intro _) | refine And.intro ?_ ?_)
        all_goals (
          refine tbf (hnoP ?_)
          have h3 : instrOk p c.length x = false := by simpa using h3
          simp [procOk, hno (by simp [instrGood, h3])])
      have h3 : instrOk p c.length x = true := by simpa using h3
      repeat (first | refine brT ?_ | refine brF ?_ | refine And.intro rfl ?_ | refine And.intro trivial ?_ | intro _)
      by_cases h4 : x.1 = 11
      · obtain ⟨h5, h6⟩ := op11 h3 h4
        have hg := good11 h3 h4 h6
        refine brR (by simp [h4]) (fun _ => ?_)
        repeat' (first | (first | refine brT ?_ | refine brF ?_ | refine And.intro rfl ?_ | refine And.intro trivial ?_ | intro _) | refine ⟨h5, t_Select p.2.2.1[x.2.1.toNat], atS h6, ?_⟩ | refine ⟨_, i_SelectOk p c.length p.2.2.1[x.2.1.toNat] (hp2.2 _ (List.getElem_mem h6)).1, ?_⟩ | refine And.intro ?_ ?_)
        all_goals (
          refine brI (fun h7 => ?_) (fun h7 => ?_)
          · refine tbf (hnoP ?_)
            have h7 : (!selOk p c.length p.2.2.1[x.2.1.toNat]) = true := h7
            simp [procOk, hno (by rw [hg]; simpa using h7)]
          · have h7 : (!selOk p c.length p.2.2.1[x.2.1.toNat]) = false := h7
            exact nxtR h (hup (by rw [hg]; simpa using h7)) (wk rfl ⟨rfl, rfl, rfl, rfl, rfl, rfl, rfl, rfl, up1 h lc, trivial⟩ ⟨rfl, rfl, trivial⟩))
      · refine brL (by simp [h4]) (fun _ => ?_)
        repeat' (first | (first | refine brT ?_ | refine brF ?_ | refine And.intro rfl ?_ | refine And.intro trivial ?_ | intro _) | refine And.intro ?_ ?_)
        all_goals exact nxtR h (hup (goodN h3 h4)) (wk rfl ⟨rfl, rfl, rfl, rfl, rfl, rfl, rfl, rfl, up1 h lc, trivial⟩ ⟨rfl, rfl, trivial⟩)
    · have hall := all_end (p := instrGood p c.length) (by omega) hJ
      have hk : c.length - 1 < c.length := by omega
      have hw : w64 ((c.length : Int) - 1) = ((c.length - 1 : Nat) : Int) := by rw [w64_id (by omega) (by omega)]; omega
      have hat : (c.map t_Instr)[(w64 ((c.length : Int) - 1)).toNat]? = some (t_Instr c[c.length - 1]) := by rw [hw]; exact atm hk
      have hlast : lastOp c = c[c.length - 1].1 := by simp [lastOp, hk]
      have b1 : 1 ≤ c.length := by omega
      have b2 : c.length ≤ 40 := by omega
      repeat (first | refine brT ?_ | refine brF ?_ | refine And.intro rfl ?_ | refine And.intro trivial ?_ | intro _)
      refine ⟨by show (0 : Int) ≤ w64 ((c.length : Int) - 1); rw [hw]; omega, t_Instr c[c.length - 1], hat, ?_⟩
      repeat (first | refine brT ?_ | refine brF ?_ | refine And.intro rfl ?_ | refine And.intro trivial ?_ | intro _)
      refine brI (fun h3 => ?_) (fun h3 => ?_)
      · repeat (first | refine brT ?_ | refine brF ?_ | refine And.intro rfl ?_ | refine And.intro trivial ?_ | intro _)
        refine brI (fun h4 => ?_) (fun h4 => ?_)
        · refine tbf (hnoP ?_)
          have h3 : ¬ c[c.length - 1].1 = 1 := by simpa using h3
          have h4 : (c[c.length - 1].1 != 6) = true := h4
          simp at h4
          simp [procOk, hlast, h3, h4]
        · have h4 : (c[c.length - 1].1 != 6) = false := h4
          have h4 : c[c.length - 1].1 = 6 := by simpa using h4
          exact nxtR (by assumption) (hup (by simp [procOk, hall, hlast, h4, b1, b2])) (wk rfl ⟨rfl, rfl, rfl, up1 (by assumption) l3, trivial⟩ ⟨rfl, trivial⟩)
      · repeat (first | refine brT ?_ | refine brF ?_ | refine And.intro rfl ?_ | refine And.intro trivial ?_ | intro _)
        have h3 : c[c.length - 1].1 = 1 := by simpa using h3
        exact nxtR (by assumption) (hup (by simp [procOk, hall, hlast, h3, b1, b2])) (wk rfl ⟨rfl, rfl, rfl, up1 (by assumption) l3, trivial⟩ ⟨rfl, trivial⟩)
  have a3 : p.2.2.2.all (procOk p) = true := all_end (by omega) hI
  repeat (first | refine brT ?_ | refine brF ?_ | refine And.intro rfl ?_ | refine And.intro trivial ?_ | intro _)
  exact tbt (by simp [progOk, hh, a1, a2, a3])


end Go.Proofs.YtphikogfogejlaaDoor.E
