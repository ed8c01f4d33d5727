/- Contracts of functions of this seat's program. -/
import Derived.Test.YteibafcohflbdaaETy
import Derived.Test.YteibafcohflbdaaESf
namespace Go.Proofs.Yteibafcohflbdaa.E
set_option linter.unusedVariables false
set_option linter.unusedSimpArgs false
set_option maxHeartbeats 1600000
def instrGood (p : Y_Prog) (n : Int) (i : Y_Instr) : Bool := instrOk p n i && (i.1 != 11 || match p.2.2.1[i.2.1.toNat]? with
  | some s => selOk p n s
  | none => false)
def lastOp (c : List Y_Instr) : Int := match c[c.length - 1]? with
  | some i => i.1
  | none => 0
def procOk (p : Y_Prog) (c : List Y_Instr) : Bool := decide (1 ≤ c.length) && decide (c.length ≤ 40) && c.all (instrGood p c.length) && (lastOp c == 1 || lastOp c == 6)
theorem op11 {p : Y_Prog} {n : Int} {i : Y_Instr} (h : instrOk p n i = true) (h1 : i.1 = 11) : 0 ≤ i.2.1 ∧ i.2.1.toNat < p.2.2.1.length := by
  unfold instrOk at h
  simp only [h1] at h
  simp [within] at h
  omega
theorem good11 {p : Y_Prog} {n : Int} {i : Y_Instr} (h : instrOk p n i = true) (h1 : i.1 = 11) (hl : i.2.1.toNat < p.2.2.1.length) : instrGood p n i = selOk p n p.2.2.1[i.2.1.toNat] := by
  simp [instrGood, h, h1, hl]
theorem goodN {p : Y_Prog} {n : Int} {i : Y_Instr} (h : instrOk p n i = true) (h1 : ¬ i.1 = 11) : instrGood p n i = true := by
  simp [instrGood, h, h1]
theorem atS {α : Type} {l : List α} {f : α → T} {j : Int} (h : j.toNat < l.length) : (l.map f)[j.toNat]? = some (f l[j.toNat]) := by simp [h]
theorem s_l04Proc (p : Y_Prog) (c : List Y_Instr) (hp : ok_Prog p) (hc : c.length ≤ bound) : Spec Try.prog 56 [.ro (t_Prog p), .ro (.sl 4 (c.map t_Instr))] [T.bool (procOk p c)] := by
  have hl : c.length ≤ 16777216 := hc
  obtain ⟨hp1, hp2, hp3⟩ := id hp
  refine fn Try.func56 ?_
  intro q2
  repeat (first | refine brT ?_ | refine brF ?_ | refine And.intro rfl ?_ | refine And.intro trivial ?_ | intro _)
  refine brI (fun h => ?_) (fun h => ?_)
  · repeat (first | refine brT ?_ | refine brF ?_ | refine And.intro rfl ?_ | refine And.intro trivial ?_ | intro _)
    refine tbf ?_
    have h := of_decide_eq_true h
    simp only [List.length_map] at h
    have : ¬ 1 ≤ c.length := by omega
    simp [procOk, this]
  have h1 := of_decide_eq_false h
  simp only [List.length_map] at h1
  repeat (first | refine brT ?_ | refine brF ?_ | refine And.intro rfl ?_ | refine And.intro trivial ?_ | intro _)
  refine brI (fun h => ?_) (fun h => ?_)
  · refine tbf ?_
    have h := of_decide_eq_true h
    simp only [List.length_map] at h
    have : ¬ c.length ≤ 40 := by omega
    simp [procOk, this]
  have h2 := of_decide_eq_false h
  simp only [List.length_map] at h2
  repeat (first | refine brT ?_ | refine brF ?_ | refine And.intro rfl ?_ | refine And.intro trivial ?_ | intro _)
  refine loopR (fun i => ⟨59, [(1, .c (.ro 4 (c.map t_Instr))), (2, .c (.bx 3000 q2 0)), (5, .int c.length), (16, .c (.ro 4 (c.map t_Instr))), (17, .int c.length), (18, .int i)], [(3000, .box q2 (t_Prog p).a2.cells)]⟩) c.length (fun i => ∀ j (hj : j < c.length), j < i → instrGood p c.length c[j] = true) (fun j _ h => absurd h (by omega)) (wk rfl ⟨rfl, rfl, lenm, rfl, lenm, rfl, trivial⟩ ⟨rfl, trivial⟩) ?_
  intro i hi hI
  refine brD (fun h => ?_) (fun h => ?_)
  · have h : i < c.length := by simpa using h
    have hno := fun (hk : instrGood p c.length c[i] = false) => all_no (p := instrGood p c.length) h hk
    have hup := all_step (p := instrGood p c.length) h hI
    refine ⟨nn i, t_Instr c[i], atm h, ?_⟩
    intro q8
    repeat (first | refine brT ?_ | refine brF ?_ | refine And.intro rfl ?_ | refine And.intro trivial ?_ | intro _)
    generalize c[i] = x at hno hup
    refine ⟨_, s_InstrOk p c.length x hp1 hp2.1 hp3.1, ?_⟩
    repeat (first | refine brT ?_ | refine brF ?_ | refine And.intro rfl ?_ | refine And.intro trivial ?_ | intro _)
    refine brI (fun h3 => ?_) (fun h3 => ?_)
    · refine tbf ?_
      have h3 : instrOk p c.length x = false := by simpa using h3
      simp [procOk, hno (by simp [instrGood, h3])]
    have h3 : instrOk p c.length x = true := by simpa using h3
    repeat (first | refine brT ?_ | refine brF ?_ | refine And.intro rfl ?_ | refine And.intro trivial ?_ | intro _)
    refine dr (Pl.go 0 (Pl.go 1 (Pl.go 2 (Pl.go 3 (Pl.go 4 (Pl.go 5 (Pl.go 6 (Pl.go 7 (Pl.go 8 (Pl.go 9 (Pl.go 10 (Pl.go 11 (Pl.go 12 (Pl.go 13 (Pl.go 14 Pl.stop))))))))))))))) (by kernel_rfl) ?_
    repeat (first | refine brT ?_ | refine brF ?_ | refine And.intro rfl ?_ | refine And.intro trivial ?_ | intro _)
    by_cases h4 : x.1 = 11
    · obtain ⟨h5, h6⟩ := op11 h3 h4
      refine brR (by simp [h4]) (fun _ => ?_)
      repeat (first | refine brT ?_ | refine brF ?_ | refine And.intro rfl ?_ | refine And.intro trivial ?_ | intro _)
      refine ⟨h5, t_Select p.2.2.1[x.2.1.toNat], atS h6, ?_⟩
      repeat (first | refine brT ?_ | refine brF ?_ | refine And.intro rfl ?_ | refine And.intro trivial ?_ | intro _)
      refine ⟨_, s_SelectOk p c.length p.2.2.1[x.2.1.toNat] hp1 (hp2.2 _ (List.getElem_mem h6)).1, ?_⟩
      have hg := good11 h3 h4 h6
      repeat (first | refine brT ?_ | refine brF ?_ | refine And.intro rfl ?_ | refine And.intro trivial ?_ | intro _)
      refine brI (fun h7 => ?_) (fun h7 => ?_)
      · refine tbf ?_
        have h7 : (!selOk p c.length p.2.2.1[x.2.1.toNat]) = true := h7
        simp [procOk, hno (by rw [hg]; simpa using h7)]
      · have h7 : (!selOk p c.length p.2.2.1[x.2.1.toNat]) = false := h7
        exact nxtR h (hup (by rw [hg]; simpa using h7)) (wk rfl ⟨rfl, rfl, rfl, rfl, rfl, up1 h hl, trivial⟩ ⟨rfl, trivial⟩)
    · refine brL (by simp [h4]) (fun _ => ?_)
      repeat (first | refine brT ?_ | refine brF ?_ | refine And.intro rfl ?_ | refine And.intro trivial ?_ | intro _)
      exact nxtR h (hup (goodN h3 h4)) (wk rfl ⟨rfl, rfl, rfl, rfl, rfl, up1 h hl, trivial⟩ ⟨rfl, trivial⟩)
  · have hall := all_end (p := instrGood p c.length) (by omega) hI
    have hk : c.length - 1 < c.length := by omega
    have hw : w64 ((c.length : Int) - 1) = ((c.length - 1 : Nat) : Int) := by rw [w64_id (by omega) (by omega)]; omega
    have hat : (c.map t_Instr)[(w64 ((c.length : Int) - 1)).toNat]? = some (t_Instr c[c.length - 1]) := by rw [hw]; exact atm hk
    have hlast : lastOp c = c[c.length - 1].1 := by simp [lastOp, hk]
    refine ⟨by show (0 : Int) ≤ w64 ((c.length : Int) - 1); rw [hw]; omega, t_Instr c[c.length - 1], hat, ?_⟩
    repeat (first | refine brT ?_ | refine brF ?_ | refine And.intro rfl ?_ | refine And.intro trivial ?_ | intro _)
    refine brI (fun h3 => ?_) (fun h3 => ?_)
    · repeat (first | refine brT ?_ | refine brF ?_ | refine And.intro rfl ?_ | refine And.intro trivial ?_ | intro _)
      refine tbt ?_
      have h3 : c[c.length - 1].1 = 1 := by simpa using h3
      have a1 : 1 ≤ c.length := by omega
      have a2 : c.length ≤ 40 := by omega
      simp [procOk, hall, hlast, h3, a1, a2]
    · repeat (first | refine brT ?_ | refine brF ?_ | refine And.intro rfl ?_ | refine And.intro trivial ?_ | intro _)
      refine ⟨by show (0 : Int) ≤ w64 ((c.length : Int) - 1); rw [hw]; omega, t_Instr c[c.length - 1], hat, ?_⟩
      repeat (first | refine brT ?_ | refine brF ?_ | refine And.intro rfl ?_ | refine And.intro trivial ?_ | intro _)
      refine tb ?_
      have h3 : ¬ c[c.length - 1].1 = 1 := by simpa using h3
      have a1 : 1 ≤ c.length := by omega
      have a2 : c.length ≤ 40 := by omega
      simp [procOk, hall, hlast, h3, a1, a2]


end Go.Proofs.Yteibafcohflbdaa.E
