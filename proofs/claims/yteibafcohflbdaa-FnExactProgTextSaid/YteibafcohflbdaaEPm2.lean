/- Contracts of functions of this seat's program. -/
import Derived.Test.YteibafcohflbdaaETy
import Derived.Test.YteibafcohflbdaaEPl
namespace Go.Proofs.Yteibafcohflbdaa.E
set_option linter.unusedVariables false
set_option linter.unusedSimpArgs false
set_option maxHeartbeats 1600000
theorem i_ProgOk (p : Y_Prog) (hp : ok_Prog p) : Spec Try.prog 43 [.ro (t_Prog p)] [T.bool (progOk p)] := by
  obtain ⟨hp1, hp2, hp3⟩ := id hp
  have l1 : p.1.length ≤ 16777216 := hp1
  have l2 : p.2.2.1.length ≤ 16777216 := hp2.1
  have l3 : p.2.2.2.length ≤ 16777216 := hp3.1
  refine fn Try.func43 ?_
  intro q1
  repeat' (first | (first | refine brT ?_ | refine brF ?_ | refine And.intro rfl ?_ | refine And.intro trivial ?_ | intro _) | refine brI (fun _ => ?_) (fun _ => ?_))
  all_goals try (
    refine tbf ?_
    have : headOk p = false := by simp_all [headOk] <;> omega
    simp [progOk, this]
    done)
  have hh : headOk p = true := by simp_all [headOk] <;> omega
  refine loopR (fun i => ⟨148, [(1, .c (.bx 2000 q1 0)), (46, .c (.ro 1 (p.1.map T.int))), (47, .int p.1.length), (48, .int i)], [(2000, .box q1 (t_Prog p).a2.cells)]⟩) p.1.length (fun i => ∀ j (hj : j < p.1.length), j < i → capOk p.1[j] = true) (fun j _ h => absurd h (by omega)) (wk rfl ⟨rfl, rfl, lenm, rfl, trivial⟩ ⟨rfl, trivial⟩) ?_
  intro i hi hI
  refine brD (fun h => ?_) (fun h => ?_)
  · have h : i < p.1.length := by simpa using h
    have hno := fun (hk : capOk p.1[i] = false) => all_no (p := capOk) h hk
    have hup := all_step (p := capOk) h hI
    refine ⟨nn i, T.int p.1[i], atm h, ?_⟩
    generalize p.1[i] = c at hno hup
    repeat' (first | (first | refine brT ?_ | refine brF ?_ | refine And.intro rfl ?_ | refine And.intro trivial ?_ | intro _) | refine brI (fun _ => ?_) (fun _ => ?_))
    all_goals try (
      refine tbf ?_
      have : capOk c = false := by clear hI hup hno; simp_all [capOk] <;> omega
      simp [progOk, hno this]
      done)
    exact nxtR h (hup (by clear hI hup hno; simp_all [capOk] <;> omega)) (wk rfl ⟨rfl, rfl, rfl, up1 h l1, trivial⟩ ⟨rfl, trivial⟩)
  have a1 : p.1.all capOk = true := all_end (by omega) hI
  clear h hI hi
  repeat (first | refine brT ?_ | refine brF ?_ | refine And.intro rfl ?_ | refine And.intro trivial ?_ | intro _)
  refine loopR (fun i => ⟨148, [(1, .c (.bx 2000 q1 0)), (60, .c (.ro 2 (p.2.2.1.map t_Select))), (61, .int p.2.2.1.length), (62, .int i)], [(2000, .box q1 (t_Prog p).a2.cells)]⟩) p.2.2.1.length (fun i => ∀ j (hj : j < p.2.2.1.length), j < i → selGood p p.2.2.1[j] = true) (fun j _ h => absurd h (by omega)) (wk rfl ⟨rfl, rfl, lenm, rfl, trivial⟩ ⟨rfl, trivial⟩) ?_
  intro i hi hI
  refine brD (fun h => ?_) (fun h => ?_)
  · have h : i < p.2.2.1.length := by simpa using h
    have hno := fun (hk : selGood p p.2.2.1[i] = false) => all_no (p := selGood p) h hk
    have hup := all_step (p := selGood p) h hI
    have hs := (hp2.2 _ (List.getElem_mem h)).1
    refine ⟨nn i, t_Select p.2.2.1[i], atm h, ?_⟩
    intro q7
    generalize p.2.2.1[i] = s at hno hup hs
    have hneg := @selGood_neg p s
    repeat' (first | (first | refine brT ?_ | refine brF ?_ | refine And.intro rfl ?_ | refine And.intro trivial ?_ | intro _) | refine ⟨_, i_SelectOk p 40 s hs, ?_⟩ | refine brI (fun _ => ?_) (fun _ => ?_))
    all_goals try (
      refine tbf ?_
      have : selGood p s = false := by clear hI hup hno; simp_all [selGood] <;> omega
      simp [progOk, hno this]
      done)
    all_goals (
      have hge : ¬ s.2 < -1 := fun hlt => by have := hneg hlt; clear hI hup hno hneg; simp_all
      exact nxtR h (hup (by clear hI hup hno hneg; simp_all [selGood] <;> omega)) (wk rfl ⟨rfl, rfl, rfl, up1 h l2, trivial⟩ ⟨rfl, trivial⟩))
  have a2 : p.2.2.1.all (selGood p) = true := all_end (by omega) hI
  clear h hI hi
  repeat (first | refine brT ?_ | refine brF ?_ | refine And.intro rfl ?_ | refine And.intro trivial ?_ | intro _)
  refine loopR (fun i => ⟨148, [(1, .c (.bx 2000 q1 0)), (89, .c (.ro 1 (p.2.2.2.map t_Proc))), (90, .int p.2.2.2.length), (91, .int i)], [(2000, .box q1 (t_Prog p).a2.cells)]⟩) p.2.2.2.length (fun i => ∀ j (hj : j < p.2.2.2.length), j < i → procOk p p.2.2.2[j] = true) (fun j _ h => absurd h (by omega)) (wk rfl ⟨rfl, rfl, lenm, rfl, trivial⟩ ⟨rfl, trivial⟩) ?_
  intro i hi hI
  refine brD (fun h => ?_) (fun h => ?_)
  · have h : i < p.2.2.2.length := by simpa using h
    have hno := fun (hk : procOk p p.2.2.2[i] = false) => all_no (p := procOk p) h hk
    have hup := all_step (p := procOk p) h hI
    have hs : p.2.2.2[i].length ≤ bound := (hp3.2 _ (List.getElem_mem h)).1
    refine ⟨nn i, t_Proc p.2.2.2[i], atm h, ?_⟩
    intro q8
    repeat (first | refine brT ?_ | refine brF ?_ | refine And.intro rfl ?_ | refine And.intro trivial ?_ | intro _)
    generalize p.2.2.2[i] = c at hno hup hs
    have lc : c.length ≤ 16777216 := hs
    have hnoP : procOk p c = false → progOk p = false := fun hk => by simp [progOk, hno hk]
    clear hno
    refine brI (fun h => ?_) (fun h => ?_)
    · repeat (first | refine brT ?_ | refine brF ?_ | refine And.intro rfl ?_ | refine And.intro trivial ?_ | intro _)
      refine tbf (hnoP ?_)
      have h := of_decide_eq_true h
      simp only [List.length_map] at h
      have : ¬ 1 ≤ c.length := by omega
      simp [procOk, this]
    have h1 := of_decide_eq_false h
    simp only [List.length_map] at h1
    repeat (first | refine brT ?_ | refine brF ?_ | refine And.intro rfl ?_ | refine And.intro trivial ?_ | intro _)
    refine brI (fun h => ?_) (fun h => ?_)
    · refine tbf (hnoP ?_)
      have h := of_decide_eq_true h
      simp only [List.length_map] at h
      have : ¬ c.length ≤ 40 := by omega
      simp [procOk, this]
    have h2 := of_decide_eq_false h
    simp only [List.length_map] at h2
    clear h
    rename_i h
    have h : i < p.2.2.2.length := by assumption
    repeat (first | refine brT ?_ | refine brF ?_ | refine And.intro rfl ?_ | refine And.intro trivial ?_ | intro _)
    refine loopR (fun j => ⟨148, [(1, .c (.bx 2000 q1 0)), (8, .c (.bx 9000 q8 0)), (9, .int c.length), (89, .c (.ro 1 (p.2.2.2.map t_Proc))), (90, .int p.2.2.2.length), (91, .int i), (105, .c (.ro 4 (c.map t_Instr))), (106, .int c.length), (107, .int j)], [(2000, .box q1 (t_Prog p).a2.cells), (9000, .box q8 (t_Proc c).a2.cells)]⟩) c.length (fun i => ∀ j (hj : j < c.length), j < i → instrGood p c.length c[j] = true) (fun j _ h => absurd h (by omega)) (wk rfl ⟨rfl, rfl, lenm, rfl, rfl, rfl, rfl, lenm, rfl, trivial⟩ ⟨rfl, rfl, trivial⟩) ?_
    intro j hj hJ
    refine brD (fun h => ?_) (fun h => ?_)
    · have h : j < c.length := by simpa using h
      have hno := fun (hk : instrGood p c.length c[j] = false) => all_no (p := instrGood p c.length) h hk
      have hup := all_step (p := instrGood p c.length) h hJ
      refine ⟨nn j, t_Instr c[j], atm h, ?_⟩
      intro q12
      repeat (first | refine brT ?_ | refine brF ?_ | refine And.intro rfl ?_ | refine And.intro trivial ?_ | intro _)
      generalize c[j] = x at hno hup
      refine dr (Pl.go 0 (Pl.go 1 (Pl.go 2 (Pl.go 3 (Pl.go 4 (Pl.go 5 (Pl.go 6 (Pl.go 7 (Pl.go 8 (Pl.go 9 (Pl.go 11 (Pl.go 12 (Pl.go 14 ((Pl.go 10 ((Pl.go 13 (Pl.go 15 (Pl.go 16 (Pl.go 17 (Pl.go 18 (Pl.go 19 (Pl.go 20 (Pl.go 21 Pl.stop)))))))).or (Pl.go 15 (Pl.go 13 (Pl.go 16 (Pl.go 17 (Pl.go 18 (Pl.go 19 (Pl.go 20 (Pl.go 21 Pl.stop)))))))))).or ((Pl.go 13 ((Pl.go 10 (Pl.go 15 (Pl.go 16 (Pl.go 17 (Pl.go 18 (Pl.go 19 (Pl.go 20 (Pl.go 21 Pl.stop)))))))).or (Pl.go 15 (Pl.go 16 ((Pl.go 10 (Pl.go 17 (Pl.go 18 (Pl.go 19 (Pl.go 20 (Pl.go 21 Pl.stop)))))).or (Pl.go 17 (Pl.go 10 (Pl.go 18 (Pl.go 19 (Pl.go 20 (Pl.go 21 Pl.stop))))))))))).or (Pl.go 15 ((Pl.go 10 (Pl.go 13 (Pl.go 16 (Pl.go 17 (Pl.go 18 (Pl.go 19 (Pl.go 20 (Pl.go 21 Pl.stop)))))))).or (Pl.go 13 (Pl.go 16 ((Pl.go 10 (Pl.go 17 (Pl.go 18 (Pl.go 19 (Pl.go 20 (Pl.go 21 Pl.stop)))))).or (Pl.go 17 (Pl.go 10 (Pl.go 18 (Pl.go 19 (Pl.go 20 (Pl.go 21 Pl.stop)))))))))))))))))))))))))) (by kernel_rfl) ?_
      repeat (first | refine brT ?_ | refine brF ?_ | refine And.intro rfl ?_ | refine And.intro trivial ?_ | intro _)
      refine ⟨_, i_InstrOk p c.length x, ?_⟩
      repeat (first | refine brT ?_ | refine brF ?_ | refine And.intro rfl ?_ | refine And.intro trivial ?_ | intro _)
      refine brI (fun h3 => ?_) (fun h3 => ?_)
      · repeat' (first | (first | refine brT ?_ | refine brF ?_ | refine And.intro rfl ?_ | refine And.intro trivial ?_ | intro _) | refine And.intro ?_ ?_)
        all_goals (
          refine tbf (hnoP ?_)
          have h3 : instrOk p c.length x = false := by simpa using h3
          simp [procOk, hno (by simp [instrGood, h3])])
      have h3 : instrOk p c.length x = true := by simpa using h3
      repeat (first | refine brT ?_ | refine brF ?_ | refine And.intro rfl ?_ | refine And.intro trivial ?_ | intro _)
      by_cases h4 : x.1 = 11
      · obtain ⟨h5, h6⟩ := op11 h3 h4
        have hg := good11 h3 h4 h6
        refine brR (by simp [h4]) (fun _ => ?_)
        repeat' (first | (first | refine brT ?_ | refine brF ?_ | refine And.intro rfl ?_ | refine And.intro trivial ?_ | intro _) | refine ⟨h5, t_Select p.2.2.1[x.2.1.toNat], atS h6, ?_⟩ | refine ⟨_, i_SelectOk p c.length p.2.2.1[x.2.1.toNat] (hp2.2 _ (List.getElem_mem h6)).1, ?_⟩ | refine And.intro ?_ ?_)
        all_goals (
          refine brI (fun h7 => ?_) (fun h7 => ?_)
          · refine tbf (hnoP ?_)
            have h7 : (!selOk p c.length p.2.2.1[x.2.1.toNat]) = true := h7
            simp [procOk, hno (by rw [hg]; simpa using h7)]
          · have h7 : (!selOk p c.length p.2.2.1[x.2.1.toNat]) = false := h7
            exact nxtR h (hup (by rw [hg]; simpa using h7)) (wk rfl ⟨rfl, rfl, rfl, rfl, rfl, rfl, rfl, rfl, up1 h lc, trivial⟩ ⟨rfl, rfl, trivial⟩))
      · refine brL (by simp [h4]) (fun _ => ?_)
        repeat' (first | (first | refine brT ?_ | refine brF ?_ | refine And.intro rfl ?_ | refine And.intro trivial ?_ | intro _) | refine And.intro ?_ ?_)
        all_goals exact nxtR h (hup (goodN h3 h4)) (wk rfl ⟨rfl, rfl, rfl, rfl, rfl, rfl, rfl, rfl, up1 h lc, trivial⟩ ⟨rfl, rfl, trivial⟩)
    · have hall := all_end (p := instrGood p c.length) (by omega) hJ
      have hk : c.length - 1 < c.length := by omega
      have hw : w64 ((c.length : Int) - 1) = ((c.length - 1 : Nat) : Int) := by rw [w64_id (by omega) (by omega)]; omega
      have hat : (c.map t_Instr)[(w64 ((c.length : Int) - 1)).toNat]? = some (t_Instr c[c.length - 1]) := by rw [hw]; exact atm hk
      have hlast : lastOp c = c[c.length - 1].1 := by simp [lastOp, hk]
      have b1 : 1 ≤ c.length := by omega
      have b2 : c.length ≤ 40 := by omega
      repeat (first | refine brT ?_ | refine brF ?_ | refine And.intro rfl ?_ | refine And.intro trivial ?_ | intro _)
      refine ⟨by show (0 : Int) ≤ w64 ((c.length : Int) - 1); rw [hw]; omega, t_Instr c[c.length - 1], hat, ?_⟩
      repeat (first | refine brT ?_ | refine brF ?_ | refine And.intro rfl ?_ | refine And.intro trivial ?_ | intro _)
      refine brI (fun h3 => ?_) (fun h3 => ?_)
      · repeat (first | refine brT ?_ | refine brF ?_ | refine And.intro rfl ?_ | refine And.intro trivial ?_ | intro _)
        refine brI (fun h4 => ?_) (fun h4 => ?_)
        · refine tbf (hnoP ?_)
          have h3 : ¬ c[c.length - 1].1 = 1 := by simpa using h3
          have h4 : (c[c.length - 1].1 != 6) = true := h4
          simp at h4
          simp [procOk, hlast, h3, h4]
        · have h4 : (c[c.length - 1].1 != 6) = false := h4
          have h4 : c[c.length - 1].1 = 6 := by simpa using h4
          exact nxtR (by assumption) (hup (by simp [procOk, hall, hlast, h4, b1, b2])) (wk rfl ⟨rfl, rfl, rfl, up1 (by assumption) l3, trivial⟩ ⟨rfl, trivial⟩)
      · repeat (first | refine brT ?_ | refine brF ?_ | refine And.intro rfl ?_ | refine And.intro trivial ?_ | intro _)
        have h3 : c[c.length - 1].1 = 1 := by simpa using h3
        exact nxtR (by assumption) (hup (by simp [procOk, hall, hlast, h3, b1, b2])) (wk rfl ⟨rfl, rfl, rfl, up1 (by assumption) l3, trivial⟩ ⟨rfl, trivial⟩)
  have a3 : p.2.2.2.all (procOk p) = true := all_end (by omega) hI
  repeat (first | refine brT ?_ | refine brF ?_ | refine And.intro rfl ?_ | refine And.intro trivial ?_ | intro _)
  exact tbt (by simp [progOk, hh, a1, a2, a3])


end Go.Proofs.Yteibafcohflbdaa.E
