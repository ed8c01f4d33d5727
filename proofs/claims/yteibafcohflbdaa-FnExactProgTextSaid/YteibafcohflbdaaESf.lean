/- Contracts of functions of this seat's program. -/
import Derived.Test.YteibafcohflbdaaETy
import Derived.Test.YteibafcohflbdaaESe
namespace Go.Proofs.Yteibafcohflbdaa.E
set_option linter.unusedVariables false
set_option linter.unusedSimpArgs false
set_option maxHeartbeats 1600000
def idxP (p : Int → Bool) (l : List Int) : Int := match l.findIdx? p with
  | some i => i
  | none => -1
theorem idxP_some {p : Int → Bool} {l : List Int} {i : Nat} (hi : i < l.length) (h1 : p l[i] = true) (h : ∀ j (hj : j < l.length), j < i → p l[j] = false) : idxP p l = i := by
  have : l.findIdx? p = some i := by
    rw [List.findIdx?_eq_some_iff_getElem]
    exact ⟨hi, h1, fun j hj => by simp [h j (by omega) hj]⟩
  simp [idxP, this]
theorem idxP_none {p : Int → Bool} {l : List Int} (h : ∀ j (hj : j < l.length), p l[j] = false) : idxP p l = -1 := by
  have : l.findIdx? p = none := by
    rw [List.findIdx?_eq_none_iff]
    intro x hx
    obtain ⟨j, hj, rfl⟩ := List.mem_iff_getElem.1 hx
    exact h j hj
  simp [idxP, this]
theorem idxP_ge {p : Int → Bool} {l : List Int} : decide (idxP p l ≥ 0) = l.any p := by
  unfold idxP
  cases h : l.findIdx? p with
  | some i =>
    rw [List.findIdx?_eq_some_iff_getElem] at h
    obtain ⟨hi, h1, _⟩ := h
    have : l.any p = true := List.any_eq_true.2 ⟨l[i], List.getElem_mem hi, h1⟩
    simp [this]
  | none =>
    rw [List.findIdx?_eq_none_iff] at h
    have : l.any p = false := List.any_eq_false.2 (fun x hx => by simp [h x hx])
    simp [this]
theorem idx_step {p : Int → Bool} {l : List Int} {i : Nat} (hi : i < l.length) (h : ∀ j (hj : j < l.length), j < i → p l[j] = false) (hp : p l[i] = false) : ∀ j (hj : j < l.length), j < i + 1 → p l[j] = false := by
  intro j hj h1
  by_cases e : j = i
  · subst e; exact hp
  · exact h j hj (by omega)

theorem s_Index (l : List Int) (c : Int) (hl : l.length ≤ bound) : Spec Try.prog 80 [.ro (.sl 1 (l.map T.int)), .ro (T.int c)] [T.int (idxP (fun x => c == x) l)] := by
  have hl' : l.length ≤ 16777216 := hl
  refine fn Try.func80 ?_
  repeat (first | refine brT ?_ | refine brF ?_ | refine And.intro rfl ?_ | refine And.intro trivial ?_ | intro _)
  refine loopR (fun i => ⟨19, [(0, .c (.ro 1 (l.map T.int))), (1, .int c), (7, .int l.length), (8, .int i)], []⟩) l.length (fun i => ∀ j (hj : j < l.length), j < i → (c == l[j]) = false) (fun j _ h => absurd h (by omega)) (wk rfl ⟨rfl, rfl, lenm, rfl, trivial⟩ trivial) ?_
  intro i hi hI
  refine brD (fun h => ?_) (fun h => ?_)
  · have h : i < l.length := by simpa using h
    refine ⟨nn i, T.int l[i], atm h, ?_⟩
    refine brI (fun h1 => ?_) (fun h1 => ?_)
    · exact ti (idxP_some (p := fun x => c == x) h h1 hI).symm
    · exact nxtR h (idx_step (p := fun x => c == x) h hI h1) (wk rfl ⟨rfl, rfl, rfl, up1 h hl', trivial⟩ trivial)
  · exact ti (idxP_none (p := fun x => c == x) (fun j hj => hI j hj (by simp at h; omega))).symm
theorem s_Contains (l : List Int) (c : Int) (hl : l.length ≤ bound) : Spec Try.prog 73 [.ro (.sl 1 (l.map T.int)), .ro (T.int c)] [T.bool (l.any (fun x => c == x))] := by
  refine fn Try.func73 ?_
  repeat (first | refine brT ?_ | refine brF ?_ | refine And.intro rfl ?_ | refine And.intro trivial ?_ | intro _)
  refine ⟨_, s_Index l c hl, ?_⟩
  repeat (first | refine brT ?_ | refine brF ?_ | refine And.intro rfl ?_ | refine And.intro trivial ?_ | intro _)
  exact tb idxP_ge
def met (l : List Y_Case) : List Int := (l.filter (fun y => y.2.1 != -1)).map (fun y => y.2.1)
theorem met_len (l : List Y_Case) : (met l).length ≤ l.length := by simp only [met, List.length_map]; exact List.length_filter_le _ _
theorem met_succ {l : List Y_Case} {i : Nat} (h : i < l.length) : met (l.take (i + 1)) = if l[i].2.1 = -1 then met (l.take i) else met (l.take i) ++ [l[i].2.1] := by
  rw [List.take_succ_eq_append_getElem h]
  unfold met
  rw [List.filter_append, List.map_append]
  split
  · rename_i e; simp [e]
  · rename_i e; simp [e]
theorem met_dup {l : List Y_Case} {c : Int} (hc : -1 ≤ c) : (met l).any (fun x => c == x) = dup l c := by
  unfold met dup
  rw [List.any_map, List.any_filter]
  by_cases h : 0 ≤ c
  · have : ∀ y : Y_Case, (y.2.1 != -1 && c == y.2.1) = (c == y.2.1) := fun y => by
      by_cases e : c = y.2.1
      · have : y.2.1 ≠ -1 := by omega
        simp [e, this]
      · simp [e]
    simp only [Function.comp_apply, this, h, decide_true, Bool.true_and]
  · have e : c = -1 := by omega
    subst e
    have : ∀ y : Y_Case, (y.2.1 != -1 && (-1 : Int) == y.2.1) = false := fun y => by
      by_cases e : y.2.1 = -1
      · simp [e]
      · have : ¬ (-1 : Int) = y.2.1 := fun h => e h.symm
        simp [this]
    simp only [Function.comp_apply, this]
    simp
theorem chanR_ge {p : Y_Prog} {c : Int} (h : chanR p c = true) : -1 ≤ c := by
  simp only [chanR, within, Bool.and_eq_true, decide_eq_true_eq] at h
  omega
theorem i_SelectOk (p : Y_Prog) (n : Int) (s : Y_Select) (h2 : s.1.length ≤ bound) : Spec Try.prog 59 [.ro (t_Prog p), .ro (T.int n), .ro (t_Select s)] [T.bool (selOk p n s)] := by
  have hl : s.1.length ≤ 16777216 := h2
  refine fn Try.func59 ?_
  intro q3 q5
  repeat (first | refine brT ?_ | refine brF ?_ | refine And.intro rfl ?_ | refine And.intro trivial ?_ | intro _)
  refine ⟨fun t h => (by cases h), fun q0 => ?_⟩
  repeat (first | refine brT ?_ | refine brF ?_ | refine And.intro rfl ?_ | refine And.intro trivial ?_ | intro _)
  refine loopI (fun x : Nat × Nat => ⟨70, [(1, .int n), (3, .c (.bx 4000 q3 0)), (5, .c (.bx 6000 q5 0)), (7, .c (.own 11000 x.2)), (12, .c (.ro 5 (s.1.map t_Case))), (13, .int s.1.length), (14, .int x.1)], [(4000, .box q3 (t_Prog p).a2.cells), (6000, .box q5 (t_Select s).a2.cells), (11000, .row x.2 0 1 ((met (s.1.take x.1)).map T.int))]⟩) (fun x => s.1.length - x.1) (fun x => x.1 ≤ s.1.length ∧ ∀ j, j < x.1 → goodK p n s.1 j = true) (0, q0) ⟨Nat.zero_le _, fun j h => absurd h (by simp)⟩ (wk rfl ⟨rfl, rfl, rfl, rfl, rfl, lenm, rfl, trivial⟩ ⟨rfl, rfl, rfl, trivial⟩) ?_
  rintro ⟨i, q⟩ ⟨hi, hI⟩
  simp only at hi hI
  refine brD (fun h => ?_) (fun h => ?_)
  · have h : i < s.1.length := by simpa using h
    have hg := good_at (p := p) (n := n) h
    have hno := @sel_no p n s _ h
    have hml := met_len (s.1.take i)
    have hml2 : (met (s.1.take i)).length ≤ i := by simp at hml; omega
    have hms := met_succ h
    refine ⟨nn i, t_Case s.1[i], atm h, ?_⟩
    intro q9
    repeat (first | refine brT ?_ | refine brF ?_ | refine And.intro rfl ?_ | refine And.intro trivial ?_ | intro _)
    refine ⟨_, i_isChan p _, ?_⟩
    generalize s.1[i] = x at hg hms
    have sc := s_Contains (met (s.1.take i)) x.2.1 (by unfold bound; omega)
    have hd := fun (hc : chanR p x.2.1 = true) => met_dup (l := s.1.take i) (chanR_ge hc)
    generalize (met (s.1.take i)).any (fun y => x.2.1 == y) = A at sc hd
    repeat' (first | (first | refine brT ?_ | refine brF ?_ | refine And.intro rfl ?_ | refine And.intro trivial ?_ | intro _) | refine ⟨_, i_isReg _, ?_⟩ | refine ⟨_, s_within _ _ _, ?_⟩ | refine ⟨_, sc, ?_⟩ | refine brI (fun _ => ?_) (fun _ => ?_))
    all_goals try (refine tbf (hno ?_); rw [hg]; clear hI hno hg hms hml hml2; simp_all [caseOk] <;> omega)
    all_goals have hg2 : goodK p n s.1 i = true := (by rw [hg]; clear hI hno hg hms hml hml2; simp_all [caseOk] <;> omega)
    all_goals rename_i hne
    all_goals first
      | (have e : x.2.1 = -1 := (by simpa using hne)
         rw [if_pos e] at hms
         exact nxt (i + 1, q) ⟨h, all_up hI hg2⟩ (by show _ < _; simp only; omega) (wk rfl ⟨rfl, rfl, rfl, rfl, rfl, rfl, up1 h hl, trivial⟩ ⟨rfl, rfl, gr rfl (by rw [hms]), trivial⟩))
      | (have e : ¬ x.2.1 = -1 := (by simpa using hne)
         rw [if_neg e] at hms
         refine ⟨fun t ht => (by simp at ht; subst ht; rfl), fun q1 => ?_⟩
         repeat (first | refine brT ?_ | refine brF ?_ | refine And.intro rfl ?_ | refine And.intro trivial ?_ | intro _)
         refine ⟨by simp only [List.length_map, List.length_singleton]; unfold bound; omega, fun q2 => ?_⟩
         repeat (first | refine brT ?_ | refine brF ?_ | refine And.intro rfl ?_ | refine And.intro trivial ?_ | intro _)
         exact nxt (i + 1, q2) ⟨h, all_up hI hg2⟩ (by show _ < _; simp only; omega) (wk rfl ⟨rfl, rfl, rfl, rfl, rfl, rfl, up1 h hl, trivial⟩ ⟨rfl, rfl, gr rfl (by rw [hms, List.map_append]; rfl), trivial⟩))
  · have : i = s.1.length := by simp at h; omega
    subst this
    repeat (first | refine brT ?_ | refine brF ?_ | refine And.intro rfl ?_ | refine And.intro trivial ?_ | intro _)
    refine ⟨_, s_within _ _ _, ?_⟩
    repeat (first | refine brT ?_ | refine brF ?_ | refine And.intro rfl ?_ | refine And.intro trivial ?_ | intro _)
    exact tb (sel_yes hI).symm


end Go.Proofs.Yteibafcohflbdaa.E
