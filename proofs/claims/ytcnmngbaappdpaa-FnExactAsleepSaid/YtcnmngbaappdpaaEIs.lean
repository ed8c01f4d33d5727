/- Contracts of functions of this seat's program. -/
import Derived.Test.YtcnmngbaappdpaaETy
import Derived.Test.YtcnmngbaappdpaaEEm
namespace Go.Proofs.Ytcnmngbaappdpaa.E
set_option linter.unusedVariables false
def inSt (l : List Y_Gor) (st : Int) : Nat → List Int
  | 0 => []
  | i + 1 => inSt l st i ++ (match l[i]? with
    | some g => if g.2.2.2.1 = st then [(i : Int)] else []
    | none => [])
theorem inSt_len (l : List Y_Gor) (st : Int) : ∀ i, (inSt l st i).length ≤ i
  | 0 => Nat.le_refl _
  | i + 1 => by
    have := inSt_len l st i
    simp only [inSt, List.length_append]
    split
    · split <;> simp <;> omega
    · simp; omega
theorem s_states (e : Y_Eng) (st : Int) (h : ok_Eng e) : Spec Try.prog 62 [.ro (t_Eng e), .ro (T.int st)] [.sl 1 ((inSt e.1 st e.1.length).map T.int)] := by
  have hl : e.1.length ≤ 16777216 := h.1.1
  refine fn Try.func62 ?_
  repeat (first | refine ⟨rfl, ?_⟩ | refine brT ?_ | refine brF ?_ | intro _)
  refine ⟨fun t h => (by cases h), fun q0 => ?_⟩
  repeat (first | refine ⟨rfl, ?_⟩ | refine brT ?_ | refine brF ?_ | intro _)
  refine loopI (fun x : Nat × Nat => ⟨27, [(1, .int st), (5, .c (.own 9000 x.2)), (10, .c (.ro 5 (e.1.map t_Gor))), (11, .int e.1.length), (12, .int x.1)], [(9000, .row x.2 0 1 ((inSt e.1 st x.1).map T.int))]⟩) (fun x => e.1.length - x.1) (fun x => x.1 ≤ e.1.length) (0, q0) (Nat.zero_le _) (wk rfl ⟨rfl, rfl, rfl, lenm, rfl, trivial⟩ ⟨rfl, trivial⟩) ?_
  rintro ⟨i, q⟩ hi
  simp only at hi
  refine brD (fun h1 => ?_) (fun h1 => ?_)
  · have h1 : i < e.1.length := by simpa using h1
    have hn := inSt_len e.1 st i
    refine ⟨nn i, t_Gor e.1[i], atm h1, ?_⟩
    repeat (first | refine ⟨rfl, ?_⟩ | refine brT ?_ | refine brF ?_ | intro _)
    have hb := h1
    refine brI (fun h2 => ?_) (fun h2 => ?_)
    · have h2 : e.1[i].2.2.2.1 = st := by simpa using h2
      have e1 : inSt e.1 st (i + 1) = inSt e.1 st i ++ [(i : Int)] := by simp [inSt, h1, h2]
      refine ⟨fun t ht => (by simp at ht; subst ht; rfl), fun q1 => ?_⟩
      repeat (first | refine ⟨rfl, ?_⟩ | refine brT ?_ | refine brF ?_ | intro _)
      refine ⟨by simp only [List.length_map, List.length_singleton]; unfold bound; omega, fun q2 => ?_⟩
      repeat (first | refine ⟨rfl, ?_⟩ | refine brT ?_ | refine brF ?_ | intro _)
      exact nxt (i + 1, q2) h1 (by show _ < _; simp only; omega) (wk rfl ⟨rfl, rfl, rfl, rfl, up1 h1 hl, trivial⟩ ⟨by rw [e1, List.map_append]; rfl, trivial⟩)
    · have h2 : ¬ e.1[i].2.2.2.1 = st := by simpa using h2
      have e1 : inSt e.1 st (i + 1) = inSt e.1 st i := by simp [inSt, h1, h2]
      exact nxt (i + 1, q) h1 (by show _ < _; simp only; omega) (wk rfl ⟨rfl, rfl, rfl, rfl, up1 h1 hl, trivial⟩ ⟨by rw [e1]; rfl, trivial⟩)
  · have : i = e.1.length := by simp at h1; omega
    subst this
    exact ⟨rfl, rfl⟩
theorem i_states (e : Y_Eng) (st : Int) (h : ok_Eng e) : Spec Try.prog 66 [.ro (t_Eng e), .ro (T.int st)] [.sl 1 ((inSt e.1 st e.1.length).map T.int)] := by
  have hl : e.1.length ≤ 16777216 := h.1.1
  refine fn Try.func66 ?_
  repeat (first | refine ⟨rfl, ?_⟩ | refine brT ?_ | refine brF ?_ | intro _)
  refine ⟨fun t h => (by cases h), fun q0 => ?_⟩
  repeat (first | refine ⟨rfl, ?_⟩ | refine brT ?_ | refine brF ?_ | intro _)
  refine loopI (fun x : Nat × Nat => ⟨27, [(1, .int st), (5, .c (.own 9000 x.2)), (10, .c (.ro 5 (e.1.map t_Gor))), (11, .int e.1.length), (12, .int x.1)], [(9000, .row x.2 0 1 ((inSt e.1 st x.1).map T.int))]⟩) (fun x => e.1.length - x.1) (fun x => x.1 ≤ e.1.length) (0, q0) (Nat.zero_le _) (wk rfl ⟨rfl, rfl, rfl, lenm, rfl, trivial⟩ ⟨rfl, trivial⟩) ?_
  rintro ⟨i, q⟩ hi
  simp only at hi
  refine brD (fun h1 => ?_) (fun h1 => ?_)
  · have h1 : i < e.1.length := by simpa using h1
    have hn := inSt_len e.1 st i
    refine ⟨nn i, t_Gor e.1[i], atm h1, ?_⟩
    repeat (first | refine ⟨rfl, ?_⟩ | refine brT ?_ | refine brF ?_ | intro _)
    have hb := h1
    refine brI (fun h2 => ?_) (fun h2 => ?_)
    · have h2 : e.1[i].2.2.2.1 = st := by simpa using h2
      have e1 : inSt e.1 st (i + 1) = inSt e.1 st i ++ [(i : Int)] := by simp [inSt, h1, h2]
      refine ⟨fun t ht => (by simp at ht; subst ht; rfl), fun q1 => ?_⟩
      repeat (first | refine ⟨rfl, ?_⟩ | refine brT ?_ | refine brF ?_ | intro _)
      refine ⟨by simp only [List.length_map, List.length_singleton]; unfold bound; omega, fun q2 => ?_⟩
      repeat (first | refine ⟨rfl, ?_⟩ | refine brT ?_ | refine brF ?_ | intro _)
      exact nxt (i + 1, q2) h1 (by show _ < _; simp only; omega) (wk rfl ⟨rfl, rfl, rfl, rfl, up1 h1 hl, trivial⟩ ⟨by rw [e1, List.map_append]; rfl, trivial⟩)
    · have h2 : ¬ e.1[i].2.2.2.1 = st := by simpa using h2
      have e1 : inSt e.1 st (i + 1) = inSt e.1 st i := by simp [inSt, h1, h2]
      exact nxt (i + 1, q) h1 (by show _ < _; simp only; omega) (wk rfl ⟨rfl, rfl, rfl, rfl, up1 h1 hl, trivial⟩ ⟨by rw [e1]; rfl, trivial⟩)
  · have : i = e.1.length := by simp at h1; omega
    subst this
    exact ⟨rfl, rfl⟩
theorem s_is1 (e : Y_Eng) (h : ok_Eng e) : Spec Try.prog 36 [.ro (t_Eng e)] [.sl 1 ((inSt e.1 1 e.1.length).map T.int)] := by
  refine fn Try.func36 ?_
  repeat (first | refine ⟨rfl, ?_⟩ | refine brT ?_ | refine brF ?_ | intro _)
  refine ⟨_, s_states e 1 h, ?_⟩
  repeat (first | refine ⟨rfl, ?_⟩ | refine brT ?_ | refine brF ?_ | intro _)
  rfl
theorem i_is1 (e : Y_Eng) (h : ok_Eng e) : Spec Try.prog 37 [.ro (t_Eng e)] [.sl 1 ((inSt e.1 1 e.1.length).map T.int)] := by
  refine fn Try.func37 ?_
  repeat (first | refine ⟨rfl, ?_⟩ | refine brT ?_ | refine brF ?_ | intro _)
  refine ⟨_, i_states e 1 h, ?_⟩
  repeat (first | refine ⟨rfl, ?_⟩ | refine brT ?_ | refine brF ?_ | intro _)
  rfl
theorem s_is2 (e : Y_Eng) (h : ok_Eng e) : Spec Try.prog 28 [.ro (t_Eng e)] [.sl 1 ((inSt e.1 2 e.1.length).map T.int)] := by
  refine fn Try.func28 ?_
  repeat (first | refine ⟨rfl, ?_⟩ | refine brT ?_ | refine brF ?_ | intro _)
  refine ⟨_, s_states e 2 h, ?_⟩
  repeat (first | refine ⟨rfl, ?_⟩ | refine brT ?_ | refine brF ?_ | intro _)
  rfl
theorem i_is2 (e : Y_Eng) (h : ok_Eng e) : Spec Try.prog 30 [.ro (t_Eng e)] [.sl 1 ((inSt e.1 2 e.1.length).map T.int)] := by
  refine fn Try.func30 ?_
  repeat (first | refine ⟨rfl, ?_⟩ | refine brT ?_ | refine brF ?_ | intro _)
  refine ⟨_, i_states e 2 h, ?_⟩
  repeat (first | refine ⟨rfl, ?_⟩ | refine brT ?_ | refine brF ?_ | intro _)
  rfl


end Go.Proofs.Ytcnmngbaappdpaa.E
