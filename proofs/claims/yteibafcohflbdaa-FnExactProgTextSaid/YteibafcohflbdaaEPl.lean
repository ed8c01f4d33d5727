/- Contracts of functions of this seat's program. -/
import Derived.Test.YteibafcohflbdaaETy
import Derived.Test.YteibafcohflbdaaEPk
namespace Go.Proofs.Yteibafcohflbdaa.E
set_option linter.unusedVariables false
set_option linter.unusedSimpArgs false
set_option maxHeartbeats 1600000
def selGood (p : Y_Prog) (s : Y_Select) : Bool := decide (s.1.length ≤ 4) && !(decide (s.1.length = 0) && decide (s.2 < 0)) && selOk p 40 s
def capOk (c : Int) : Bool := decide (0 ≤ c) && decide (c ≤ 4)
def headOk (p : Y_Prog) : Bool := decide (p.1.length ≤ 6) && decide (0 ≤ p.2.1) && decide (p.2.1 ≤ 4) && decide (p.2.2.1.length ≤ 6) && decide (1 ≤ p.2.2.2.length) && decide (p.2.2.2.length ≤ 6)
def progOk (p : Y_Prog) : Bool := headOk p && p.1.all capOk && p.2.2.1.all (selGood p) && p.2.2.2.all (procOk p)
theorem selGood_neg {p : Y_Prog} {s : Y_Select} (h : s.2 < -1) : selOk p 40 s = false := by
  have : within s.2 (-1) 40 = false := by simp [within]; omega
  simp [selOk, this]
theorem s_ProgOk (p : Y_Prog) (hp : ok_Prog p) : Spec Try.prog 38 [.ro (t_Prog p)] [T.bool (progOk p)] := by
  obtain ⟨hp1, hp2, hp3⟩ := id hp
  have l1 : p.1.length ≤ 16777216 := hp1
  have l2 : p.2.2.1.length ≤ 16777216 := hp2.1
  have l3 : p.2.2.2.length ≤ 16777216 := hp3.1
  refine fn Try.func38 ?_
  intro q1
  repeat' (first | (first | refine brT ?_ | refine brF ?_ | refine And.intro rfl ?_ | refine And.intro trivial ?_ | intro _) | refine brI (fun _ => ?_) (fun _ => ?_))
  all_goals try (
    refine tbf ?_
    have : headOk p = false := by simp_all [headOk] <;> omega
    simp [progOk, this]
    done)
  have hh : headOk p = true := by simp_all [headOk] <;> omega
  refine loopR (fun i => ⟨97, [(1, .c (.bx 2000 q1 0)), (42, .c (.ro 1 (p.1.map T.int))), (43, .int p.1.length), (44, .int i)], [(2000, .box q1 (t_Prog p).a2.cells)]⟩) p.1.length (fun i => ∀ j (hj : j < p.1.length), j < i → capOk p.1[j] = true) (fun j _ h => absurd h (by omega)) (wk rfl ⟨rfl, rfl, lenm, rfl, trivial⟩ ⟨rfl, trivial⟩) ?_
  intro i hi hI
  refine brD (fun h => ?_) (fun h => ?_)
  · have h : i < p.1.length := by simpa using h
    have hno := fun (hk : capOk p.1[i] = false) => all_no (p := capOk) h hk
    have hup := all_step (p := capOk) h hI
    refine ⟨nn i, T.int p.1[i], atm h, ?_⟩
    generalize p.1[i] = c at hno hup
    repeat' (first | (first | refine brT ?_ | refine brF ?_ | refine And.intro rfl ?_ | refine And.intro trivial ?_ | intro _) | refine brI (fun _ => ?_) (fun _ => ?_))
    all_goals try (
      refine tbf ?_
      have : capOk c = false := by clear hI hup hno; simp_all [capOk] <;> omega
      simp [progOk, hno this]
      done)
    exact nxtR h (hup (by clear hI hup hno; simp_all [capOk] <;> omega)) (wk rfl ⟨rfl, rfl, rfl, up1 h l1, trivial⟩ ⟨rfl, trivial⟩)
  have a1 : p.1.all capOk = true := all_end (by omega) hI
  clear h hI hi
  repeat (first | refine brT ?_ | refine brF ?_ | refine And.intro rfl ?_ | refine And.intro trivial ?_ | intro _)
  refine loopR (fun i => ⟨97, [(1, .c (.bx 2000 q1 0)), (56, .c (.ro 2 (p.2.2.1.map t_Select))), (57, .int p.2.2.1.length), (58, .int i)], [(2000, .box q1 (t_Prog p).a2.cells)]⟩) p.2.2.1.length (fun i => ∀ j (hj : j < p.2.2.1.length), j < i → selGood p p.2.2.1[j] = true) (fun j _ h => absurd h (by omega)) (wk rfl ⟨rfl, rfl, lenm, rfl, trivial⟩ ⟨rfl, trivial⟩) ?_
  intro i hi hI
  refine brD (fun h => ?_) (fun h => ?_)
  · have h : i < p.2.2.1.length := by simpa using h
    have hno := fun (hk : selGood p p.2.2.1[i] = false) => all_no (p := selGood p) h hk
    have hup := all_step (p := selGood p) h hI
    have hs := (hp2.2 _ (List.getElem_mem h)).1
    refine ⟨nn i, t_Select p.2.2.1[i], atm h, ?_⟩
    intro q7
    generalize p.2.2.1[i] = s at hno hup hs
    repeat' (first | (first | refine brT ?_ | refine brF ?_ | refine And.intro rfl ?_ | refine And.intro trivial ?_ | intro _) | refine ⟨_, s_SelectOk p 40 s hp1 hs, ?_⟩ | refine brI (fun _ => ?_) (fun _ => ?_))
    all_goals try (
      refine tbf ?_
      have : selGood p s = false := by clear hI hup hno; simp_all [selGood] <;> omega
      simp [progOk, hno this]
      done)
    all_goals exact nxtR h (hup (by clear hI hup hno; simp_all [selGood] <;> omega)) (wk rfl ⟨rfl, rfl, rfl, up1 h l2, trivial⟩ ⟨rfl, trivial⟩)
  have a2 : p.2.2.1.all (selGood p) = true := all_end (by omega) hI
  clear h hI hi
  repeat (first | refine brT ?_ | refine brF ?_ | refine And.intro rfl ?_ | refine And.intro trivial ?_ | intro _)
  refine loopR (fun i => ⟨97, [(1, .c (.bx 2000 q1 0)), (85, .c (.ro 1 (p.2.2.2.map t_Proc))), (86, .int p.2.2.2.length), (87, .int i)], [(2000, .box q1 (t_Prog p).a2.cells)]⟩) p.2.2.2.length (fun i => ∀ j (hj : j < p.2.2.2.length), j < i → procOk p p.2.2.2[j] = true) (fun j _ h => absurd h (by omega)) (wk rfl ⟨rfl, rfl, lenm, rfl, trivial⟩ ⟨rfl, trivial⟩) ?_
  intro i hi hI
  refine brD (fun h => ?_) (fun h => ?_)
  · have h : i < p.2.2.2.length := by simpa using h
    have hno := fun (hk : procOk p p.2.2.2[i] = false) => all_no (p := procOk p) h hk
    have hup := all_step (p := procOk p) h hI
    have hs : p.2.2.2[i].length ≤ bound := (hp3.2 _ (List.getElem_mem h)).1
    refine ⟨nn i, t_Proc p.2.2.2[i], atm h, ?_⟩
    intro q7
    repeat (first | refine brT ?_ | refine brF ?_ | refine And.intro rfl ?_ | refine And.intro trivial ?_ | intro _)
    generalize p.2.2.2[i] = c at hno hup hs
    refine ⟨_, s_l04Proc p c hp hs, ?_⟩
    repeat (first | refine brT ?_ | refine brF ?_ | refine And.intro rfl ?_ | refine And.intro trivial ?_ | intro _)
    refine brI (fun h3 => ?_) (fun h3 => ?_)
    · refine tbf ?_
      simp [progOk, hno (by simpa using h3)]
    · exact nxtR h (hup (by simpa using h3)) (wk rfl ⟨rfl, rfl, rfl, up1 h l3, trivial⟩ ⟨rfl, trivial⟩)
  have a3 : p.2.2.2.all (procOk p) = true := all_end (by omega) hI
  repeat (first | refine brT ?_ | refine brF ?_ | refine And.intro rfl ?_ | refine And.intro trivial ?_ | intro _)
  exact tbt (by simp [progOk, hh, a1, a2, a3])


end Go.Proofs.Yteibafcohflbdaa.E
