/- Contracts of functions of this seat's program. -/
import Derived.Test.YtbofjpmighijhaaETy
import Derived.Test.YtbofjpmighijhaaEGk
namespace Go.Proofs.Ytbofjpmighijhaa.E
set_option linter.unusedVariables false
set_option maxHeartbeats 1600000
theorem s_fnV (n : Int) : Spec Try.prog 62 [.ro (T.int n)] [T.bool (!isV n)] := by
  refine fn Try.func62 ?_
  repeat (first | refine brT ?_ | refine brF ?_ | refine And.intro rfl ?_ | intro _)
  refine ⟨_, s_isVal _, ?_⟩
  repeat (first | refine brT ?_ | refine brF ?_ | refine And.intro rfl ?_ | intro _)
  exact tb rfl
theorem s_idxV (l : List Int) (hl : l.length ≤ bound) : Spec Try.prog 101 [.ro (.sl 1 (l.map T.int)), .ro (.v (.func (.func 62) #[] #[]))] [T.int (idxP (fun x => !isV x) l)] := by
  have hl' : l.length ≤ 16777216 := hl
  refine fn Try.func101 ?_
  repeat (first | refine brT ?_ | refine brF ?_ | refine And.intro rfl ?_ | intro _)
  refine loopR (fun i => ⟨19, [(0, .c (.ro 1 (l.map T.int))), (1, .vv (.func (.func 62) #[] #[])), (7, .int l.length), (8, .int i)], []⟩) l.length (fun i => ∀ j (hj : j < l.length), j < i → (!isV l[j]) = false) (fun j _ h => absurd h (by omega)) (wk rfl ⟨rfl, rfl, lenm, rfl, trivial⟩ trivial) ?_
  intro i hi hI
  refine brD (fun h => ?_) (fun h => ?_)
  · have h : i < l.length := by simpa using h
    refine ⟨nn i, T.int l[i], atm h, ?_⟩
    refine ⟨_, s_fnV l[i], ?_⟩
    intro _
    refine brI (fun h1 => ?_) (fun h1 => ?_)
    · exact ti (idxP_some (p := fun x => !isV x) h h1 hI).symm
    · exact nxtR h (idx_step (p := fun x => !isV x) h hI h1) (wk rfl ⟨rfl, rfl, rfl, up1 h hl', trivial⟩ trivial)
  · exact ti (idxP_none (p := fun x => !isV x) (fun j hj => hI j hj (by simp at h; omega))).symm
theorem s_hasV (l : List Int) (hl : l.length ≤ bound) : Spec Try.prog 61 [.ro (.sl 1 (l.map T.int)), .ro (.v (.func (.func 62) #[] #[]))] [T.bool (l.any (fun x => !isV x))] := by
  refine fn Try.func61 ?_
  repeat (first | refine brT ?_ | refine brF ?_ | refine And.intro rfl ?_ | intro _)
  refine ⟨_, s_idxV l hl, ?_⟩
  repeat (first | refine brT ?_ | refine brF ?_ | refine And.intro rfl ?_ | intro _)
  exact tb idxP_ge
theorem any_not (l : List Int) : l.any (fun x => !isV x) = !l.all isV := by
  induction l with
  | nil => rfl
  | cons a l ih => simp [ih]
theorem i_GorOk (p : Y_Prog) (g : Y_Gor) (hp : ok_Prog p) (h : ok_Gor g) : Spec Try.prog 28 [.ro (t_Prog p), .ro (t_Gor g)] [T.bool (gorOk p g)] := by
  have hl : g.2.2.2.2.length ≤ 16777216 := h.2.1
  refine fn Try.func28 ?_
  intro q2 q3
  repeat (first | refine brT ?_ | refine brF ?_ | refine And.intro rfl ?_ | intro _)
  refine drM (Pl.go 0 (Pl.go 1 (Pl.go 2 (Pl.go 3 (Pl.go 4 (Pl.go 7 ((Pl.go 5 ((Pl.go 6 (Pl.go 8 (Pl.go 9 (Pl.go 10 (Pl.go 11 (Pl.go 12 (Pl.go 13 (Pl.go 14 (Pl.go 15 (Pl.go 16 (Pl.go 17 (Pl.go 18 (Pl.go 19 (Pl.go 20 (Pl.go 21 (Pl.go 22 (Pl.go 23 (Pl.go 24 (Pl.go 25 (Pl.go 26 (Pl.go 27 (Pl.go 28 Pl.stop)))))))))))))))))))))).or (Pl.go 8 (Pl.go 6 (Pl.go 9 (Pl.go 10 (Pl.go 11 (Pl.go 12 (Pl.go 13 (Pl.go 14 (Pl.go 15 (Pl.go 16 (Pl.go 17 (Pl.go 18 (Pl.go 19 (Pl.go 20 (Pl.go 21 (Pl.go 22 (Pl.go 23 (Pl.go 24 (Pl.go 25 (Pl.go 26 (Pl.go 27 (Pl.go 28 Pl.stop)))))))))))))))))))))))).or ((Pl.go 6 ((Pl.go 5 (Pl.go 8 (Pl.go 9 (Pl.go 10 (Pl.go 11 (Pl.go 12 (Pl.go 13 (Pl.go 14 (Pl.go 15 (Pl.go 16 (Pl.go 17 (Pl.go 18 (Pl.go 19 (Pl.go 20 (Pl.go 21 (Pl.go 22 (Pl.go 23 (Pl.go 24 (Pl.go 25 (Pl.go 26 (Pl.go 27 (Pl.go 28 Pl.stop)))))))))))))))))))))).or (Pl.go 8 ((Pl.go 5 (Pl.go 9 (Pl.go 10 (Pl.go 11 (Pl.go 12 (Pl.go 13 (Pl.go 14 (Pl.go 15 (Pl.go 16 (Pl.go 17 (Pl.go 18 (Pl.go 19 (Pl.go 20 (Pl.go 21 (Pl.go 22 (Pl.go 23 (Pl.go 24 (Pl.go 25 (Pl.go 26 (Pl.go 27 (Pl.go 28 Pl.stop))))))))))))))))))))).or (Pl.go 9 (Pl.go 5 (Pl.go 10 (Pl.go 11 (Pl.go 12 (Pl.go 13 (Pl.go 14 (Pl.go 15 (Pl.go 16 (Pl.go 17 (Pl.go 18 (Pl.go 19 (Pl.go 20 (Pl.go 21 (Pl.go 22 (Pl.go 23 (Pl.go 24 (Pl.go 25 (Pl.go 26 (Pl.go 27 (Pl.go 28 Pl.stop))))))))))))))))))))))))).or (Pl.go 8 ((Pl.go 5 (Pl.go 6 (Pl.go 9 (Pl.go 10 (Pl.go 11 (Pl.go 12 (Pl.go 13 (Pl.go 14 (Pl.go 15 (Pl.go 16 (Pl.go 17 (Pl.go 18 (Pl.go 19 (Pl.go 20 (Pl.go 21 (Pl.go 22 (Pl.go 23 (Pl.go 24 (Pl.go 25 (Pl.go 26 (Pl.go 27 (Pl.go 28 Pl.stop)))))))))))))))))))))).or (Pl.go 6 ((Pl.go 5 (Pl.go 9 (Pl.go 10 (Pl.go 11 (Pl.go 12 (Pl.go 13 (Pl.go 14 (Pl.go 15 (Pl.go 16 (Pl.go 17 (Pl.go 18 (Pl.go 19 (Pl.go 20 (Pl.go 21 (Pl.go 22 (Pl.go 23 (Pl.go 24 (Pl.go 25 (Pl.go 26 (Pl.go 27 (Pl.go 28 Pl.stop))))))))))))))))))))).or (Pl.go 9 (Pl.go 5 (Pl.go 10 (Pl.go 11 (Pl.go 12 (Pl.go 13 (Pl.go 14 (Pl.go 15 (Pl.go 16 (Pl.go 17 (Pl.go 18 (Pl.go 19 (Pl.go 20 (Pl.go 21 (Pl.go 22 (Pl.go 23 (Pl.go 24 (Pl.go 25 (Pl.go 26 (Pl.go 27 (Pl.go 28 Pl.stop))))))))))))))))))))))))))))))))) (fun m => ∃ b : Bool, (b = !(progOk p && gorHead p g)) ∧ m = ⟨86, [(2, .c (.bx 3000 q2 0)), (3, .c (.bx 4000 q3 0)), (36, .bool b)], [(4000, .box q3 (t_Gor g).a2.cells)]⟩) (by kernel_rfl) ?_ ?_
  · repeat' (first | (first | refine brT ?_ | refine brF ?_ | refine And.intro rfl ?_ | intro _) | refine ⟨_, i_ProgOk p hp, ?_⟩ | refine ⟨_, i_Instrs p g.1, ?_⟩ | refine ⟨_, s_within _ _ _, ?_⟩ | refine brI (fun _ => ?_) (fun _ => ?_) | refine And.intro ?_ ?_)
    all_goals refine ⟨_, ⟨_, ?_, rfl⟩, wk rfl ⟨rfl, rfl, rfl, trivial⟩ ⟨rfl, trivial⟩⟩
    all_goals (by_cases e4 : g.2.2.2.1 > 4 <;> simp_all [gorHead] <;> omega)
  rintro m ⟨b, hb, rfl⟩
  refine brI (fun h1 => ?_) (fun h1 => ?_)
  · refine tbf ?_
    subst h1
    have : (progOk p && gorHead p g) = false := by cases e : (progOk p && gorHead p g) <;> simp_all
    simp [gorOk, gorRest]
    simp at this
    exact fun a b c => absurd (this a) (by simp [b])
  subst h1
  have hh : progOk p = true ∧ gorHead p g = true := by simpa using hb.symm
  repeat (first | refine brT ?_ | refine brF ?_ | refine And.intro rfl ?_ | intro _)
  refine ⟨_, s_hasV g.2.2.1 h.1, ?_⟩
  repeat (first | refine brT ?_ | refine brF ?_ | refine And.intro rfl ?_ | intro _)
  rw [any_not]
  refine brI (fun h1 => ?_) (fun h1 => ?_)
  · refine tbf ?_
    have h1 : g.2.2.1.all isV = false := by simpa using h1
    simp only [gorOk, gorRest, h1]
    simp
  have hall : g.2.2.1.all isV = true := by simpa using h1
  repeat (first | refine brT ?_ | refine brF ?_ | refine And.intro rfl ?_ | intro _)
  refine loopR (fun i => ⟨86, [(3, .c (.bx 4000 q3 0)), (5, .int (lastAt g.2.2.2.2 i)), (41, .c (.ro 4 (g.2.2.2.2.map t_Item))), (42, .int g.2.2.2.2.length), (43, .int i)], [(4000, .box q3 (t_Gor g).a2.cells)]⟩) g.2.2.2.2.length (fun i => ∀ j, j < i → itemGood g.2.2.2.2 j = true) (fun j h => absurd h (by omega)) (wk rfl ⟨rfl, rfl, rfl, lenm, rfl, trivial⟩ ⟨rfl, trivial⟩) ?_
  intro i hi hI
  refine brD (fun h => ?_) (fun h => ?_)
  · have h : i < g.2.2.2.2.length := by simpa using h
    have hg := ig_at h
    have hla := la_at h
    have hno := @tr_no g _ h
    have hw : w64 ((g.2.2.2.2.length : Int) - 1) = (g.2.2.2.2.length : Int) - 1 := w64_id (by omega) (by omega)
    refine ⟨nn i, t_Item g.2.2.2.2[i], atm h, ?_⟩
    intro q4
    generalize g.2.2.2.2[i] = x at hg hla
    repeat' (first | (first | refine brT ?_ | refine brF ?_ | refine And.intro rfl ?_ | intro _) | refine ⟨_, i_ItemOk x, ?_⟩ | refine brI (fun _ => ?_) (fun _ => ?_))
    all_goals try (refine tbf ?_; have ht : traceOk g = false := (hno (by rw [hg]; clear hI hno hg hla; simp_all <;> omega)); simp [gorOk, gorRest, ht]; done)
    all_goals exact nxtR h (all_up hI (by rw [hg]; clear hI hno hg hla; simp_all <;> omega)) (wk rfl ⟨rfl, gi rfl hla.symm, rfl, rfl, up1 h hl, trivial⟩ ⟨rfl, trivial⟩)
  · have : i = g.2.2.2.2.length := by simp at h; omega
    subst this
    have hy := tr_yes hI
    clear hI
    repeat' (first | (first | refine brT ?_ | refine brF ?_ | refine And.intro rfl ?_ | intro _) | refine brI (fun _ => ?_) (fun _ => ?_))
    all_goals (refine tb ?_; simp only [gorOk, gorRest, hh.1, hh.2, hall, hy]; clear hy hh hall; simp_all)


end Go.Proofs.Ytbofjpmighijhaa.E
