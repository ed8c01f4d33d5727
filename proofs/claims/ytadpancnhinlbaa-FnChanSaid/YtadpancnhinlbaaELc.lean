/- Contracts of functions of this seat's program. -/
import Derived.Test.YtadpancnhinlbaaETy
import Derived.Test.YtadpancnhinlbaaEMc
namespace Go.Proofs.Ytadpancnhinlbaa.E
set_option linter.unusedVariables false
set_option linter.unusedSimpArgs false
set_option maxHeartbeats 1600000
theorem s_sameInts (l : List Int) (hl : l.length ≤ bound) : Spec Try.prog 20 [.ro (.sl 1 (l.map T.int)), .ro (.sl 1 (l.map T.int))] [T.bool true] := by
  have hl' : l.length ≤ 16777216 := hl
  refine fn Try.func20 ?_
  refine brL (by simp) (fun _ => ?_)
  repeat (first | refine brT ?_ | refine brF ?_ | refine And.intro rfl ?_ | refine And.intro trivial ?_ | intro _)
  refine loopR (fun i => ⟨26, [(0, .c (.ro 1 (l.map T.int))), (1, .c (.ro 1 (l.map T.int))), (12, .int l.length), (13, .int i)], []⟩) l.length (fun _ => True) trivial (wk rfl ⟨rfl, rfl, lenm, rfl, trivial⟩ trivial) ?_
  intro i hi _
  refine brD (fun h => ?_) (fun h => ?_)
  · have h : i < l.length := by simpa using h
    repeat (first | refine brT ?_ | refine brF ?_ | refine And.intro rfl ?_ | refine And.intro trivial ?_ | intro _)
    refine dr (Pl.go 0 (Pl.go 1 (Pl.go 2 (Pl.go 3 (Pl.go 4 (Pl.go 5 (Pl.go 6 (Pl.go 7 (Pl.go 8 Pl.stop))))))))) (by kernel_rfl) ?_
    repeat' (first | (first | refine brT ?_ | refine brF ?_ | refine And.intro rfl ?_ | refine And.intro trivial ?_ | intro _) | refine ⟨nn i, T.int l[i], atm h, ?_⟩ | refine And.intro ?_ ?_ | fail)
    all_goals refine brL (by show ¬ ((l[i] != l[i]) = true); simp) (fun _ => ?_)
    all_goals repeat (first | refine brT ?_ | refine brF ?_ | refine And.intro rfl ?_ | refine And.intro trivial ?_ | intro _)
    all_goals exact nxtR h trivial (wk rfl ⟨rfl, rfl, rfl, up1 h hl', trivial⟩ trivial)
  · exact tb rfl
def chX (x : Y_Chan) : Bool := chOk x.1 x.2.1 x.2.2.1 x.2.2.2.1 x.2.2.2.2
theorem i_okX {x : Y_Chan} (h : ok_Chan x) (hc : chX x = true) : Spec Try.prog 16 [.ro (t_Chan x)] [T.bool true] := by
  have := i_ChanOk x.1 x.2.1 x.2.2.1 x.2.2.2.1 x.2.2.2.2 h.1 h.2.1.1 h.2.2.1
  rw [show chOk x.1 x.2.1 x.2.2.1 x.2.2.2.1 x.2.2.2.2 = true from hc] at this
  exact this
theorem chOk_out {c : Int} {b : List Int} {s r : List W3} {d : Bool} (h : chOk c b s r d = true) : 0 ≤ c ∧ c ≤ 4 ∧ (b.length : Int) ≤ c ∧ s.all (wOkP true) = true ∧ r.all (wOkP false) = true ∧ b.all isV = true ∧ (s = [] ∨ ((b.length : Int) = c ∧ r = [] ∧ d = false)) ∧ (r = [] ∨ (b = [] ∧ d = false)) := by
  simp only [chOk, chOkB, Bool.and_eq_true, decide_eq_true_eq, Bool.or_eq_true, Bool.not_eq_true'] at h
  obtain ⟨⟨⟨⟨⟨⟨⟨h1, h2⟩, h3⟩, h4⟩, h5⟩, h6⟩, h7⟩, h8⟩ := h
  refine ⟨h1, h2, h3, h4, h5, h6, ?_, ?_⟩
  · rcases h7 with h7 | ⟨⟨a, b⟩, e⟩
    · exact .inl (List.length_eq_zero_iff.1 h7)
    · exact .inr ⟨a, List.length_eq_zero_iff.1 b, e⟩
  · rcases h8 with h8 | ⟨a, e⟩
    · exact .inl (List.length_eq_zero_iff.1 h8)
    · exact .inr ⟨List.length_eq_zero_iff.1 a, e⟩
theorem chOk_in {c : Int} {b : List Int} {s r : List W3} {d : Bool} (h : 0 ≤ c ∧ c ≤ 4 ∧ (b.length : Int) ≤ c ∧ s.all (wOkP true) = true ∧ r.all (wOkP false) = true ∧ b.all isV = true ∧ (s = [] ∨ ((b.length : Int) = c ∧ r = [] ∧ d = false)) ∧ (r = [] ∨ (b = [] ∧ d = false))) : chOk c b s r d = true := by
  obtain ⟨h1, h2, h3, h4, h5, h6, h7, h8⟩ := h
  simp only [chOk, chOkB, Bool.and_eq_true, decide_eq_true_eq, Bool.or_eq_true, Bool.not_eq_true']
  refine ⟨⟨⟨⟨⟨⟨⟨h1, h2⟩, h3⟩, h4⟩, h5⟩, h6⟩, ?_⟩, ?_⟩
  · rcases h7 with rfl | ⟨a, rfl, e⟩
    · exact .inl rfl
    · exact .inr ⟨⟨a, rfl⟩, e⟩
  · rcases h8 with rfl | ⟨rfl, e⟩
    · exact .inl rfl
    · exact .inr ⟨rfl, e⟩


end Go.Proofs.Ytadpancnhinlbaa.E
