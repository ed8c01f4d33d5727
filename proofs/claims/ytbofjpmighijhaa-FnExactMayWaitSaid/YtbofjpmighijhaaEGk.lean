/- Contracts of functions of this seat's program. -/
import Derived.Test.YtbofjpmighijhaaETy
import Derived.Test.YtbofjpmighijhaaEIt
namespace Go.Proofs.Ytbofjpmighijhaa.E
set_option linter.unusedVariables false
set_option maxHeartbeats 1600000
def insP (ps : List Y_Proc) (i : Int) : Int := if 0 ≤ i then (match ps[i.toNat]? with | some p => (p.length : Int) | none => 0) else 0
theorem insP_no {ps : List Y_Proc} {i : Int} (h : ¬ (0 ≤ i ∧ i < ps.length)) : insP ps i = 0 := by
  unfold insP
  split
  · rw [List.getElem?_eq_none (by omega)]
  · rfl
theorem insP_yes {ps : List Y_Proc} {i : Int} (h0 : 0 ≤ i) (h : i.toNat < ps.length) : insP ps i = (ps[i.toNat].length : Int) := by
  unfold insP
  rw [if_pos h0, List.getElem?_eq_getElem h]
theorem s_Instrs (x : Y_Prog) (i : Int) : Spec Try.prog 11 [.ro (t_Prog x), .ro (T.int i)] [T.int (insP x.2.2.2 i)] := by
  refine fn Try.func11 ?_
  repeat' (first | (first | refine brT ?_ | refine brF ?_ | refine And.intro rfl ?_ | intro _) | refine brI (fun _ => ?_) (fun _ => ?_))
  · exact ti (insP_no (by simp_all [within]; try omega)).symm
  · exact ti (insP_no (by simp_all [within]; try omega)).symm
  · have h0 : 0 ≤ i := by simp_all [within]
    have h : i.toNat < x.2.2.2.length := by simp_all [within]; (try omega)
    refine ⟨h0, t_Proc x.2.2.2[i.toNat], by simp [h], ?_⟩
    refine ti ?_
    rw [insP_yes h0 h, List.length_map]
theorem i_Instrs (x : Y_Prog) (i : Int) : Spec Try.prog 13 [.ro (t_Prog x), .ro (T.int i)] [T.int (insP x.2.2.2 i)] := by
  refine fn Try.func13 ?_
  repeat (first | refine brT ?_ | refine brF ?_ | refine And.intro rfl ?_ | intro _)
  refine ⟨_, s_within i 0 _, ?_⟩
  repeat' (first | (first | refine brT ?_ | refine brF ?_ | refine And.intro rfl ?_ | intro _) | refine brI (fun _ => ?_) (fun _ => ?_))
  · exact ti (insP_no (by simp_all [within]; try omega)).symm
  · have h0 : 0 ≤ i := by simp_all [within]
    have h : i.toNat < x.2.2.2.length := by simp_all [within]; (try omega)
    refine ⟨h0, t_Proc x.2.2.2[i.toNat], by simp [h], ?_⟩
    refine ti ?_
    rw [insP_yes h0 h, List.length_map]

def lastAt (t : List Y_Item) : Nat → Int
  | 0 => 0
  | i + 1 => match t[i]? with
    | some x => x.1
    | none => 0
def itemGood (t : List Y_Item) (k : Nat) : Bool := match t[k]? with
  | some x => itemOk x && !((x.1 == 9 || x.1 == 10) && decide ((k : Int) < (t.length : Int) - 1))
  | none => true
theorem ig_at {t : List Y_Item} {k : Nat} (h : k < t.length) : itemGood t k = (itemOk t[k] && !((t[k].1 == 9 || t[k].1 == 10) && decide ((k : Int) < (t.length : Int) - 1))) := by simp [itemGood, h]
theorem la_at {t : List Y_Item} {k : Nat} (h : k < t.length) : lastAt t (k + 1) = t[k].1 := by simp [lastAt, h]
def traceOk (g : Y_Gor) : Bool := (List.range g.2.2.2.2.length).all (itemGood g.2.2.2.2) && ((lastAt g.2.2.2.2 g.2.2.2.2.length == 9) == (g.2.2.2.1 == 3)) && ((lastAt g.2.2.2.2 g.2.2.2.2.length == 10) == (g.2.2.2.1 == 4))
theorem tr_no {g : Y_Gor} {k : Nat} (h : k < g.2.2.2.2.length) (hk : itemGood g.2.2.2.2 k = false) : traceOk g = false := by
  have : (List.range g.2.2.2.2.length).all (itemGood g.2.2.2.2) = false := List.all_eq_false.2 ⟨k, List.mem_range.2 h, by simp [hk]⟩
  simp [traceOk, this]
theorem tr_yes {g : Y_Gor} (h : ∀ k, k < g.2.2.2.2.length → itemGood g.2.2.2.2 k = true) : traceOk g = (((lastAt g.2.2.2.2 g.2.2.2.2.length == 9) == (g.2.2.2.1 == 3)) && ((lastAt g.2.2.2.2 g.2.2.2.2.length == 10) == (g.2.2.2.1 == 4))) := by
  have : (List.range g.2.2.2.2.length).all (itemGood g.2.2.2.2) = true := List.all_eq_true.2 (fun k hk => h k (List.mem_range.1 hk))
  simp [traceOk, this]
def gorHead (p : Y_Prog) (g : Y_Gor) : Bool := within g.2.1 0 (insP p.2.2.2 g.1) && decide ((g.2.2.1.length : Int) = 6) && decide (1 ≤ g.2.2.2.1) && decide (g.2.2.2.1 ≤ 4)
def gorRest (p : Y_Prog) (g : Y_Gor) : Bool := gorHead p g && g.2.2.1.all isV && traceOk g
def gorOk (p : Y_Prog) (g : Y_Gor) : Bool := progOk p && gorRest p g
theorem s_l08Trace (g : Y_Gor) (h : ok_Gor g) : Spec Try.prog 99 [.ro (t_Gor g)] [T.bool (traceOk g)] := by
  have hl : g.2.2.2.2.length ≤ 16777216 := h.2.1
  refine fn Try.func99 ?_
  intro q1
  repeat (first | refine brT ?_ | refine brF ?_ | refine And.intro rfl ?_ | intro _)
  refine loopR (fun i => ⟨65, [(1, .c (.bx 2000 q1 0)), (8, .c (.ro 4 (g.2.2.2.2.map t_Item))), (9, .int g.2.2.2.2.length), (10, .int i)], [(2000, .box q1 (t_Gor g).a2.cells)]⟩) g.2.2.2.2.length (fun i => ∀ j, j < i → itemGood g.2.2.2.2 j = true) (fun j h => absurd h (by omega)) (wk rfl ⟨rfl, rfl, lenm, rfl, trivial⟩ ⟨rfl, trivial⟩) ?_
  intro i hi hI
  refine brD (fun h => ?_) (fun h => ?_)
  · have h : i < g.2.2.2.2.length := by simpa using h
    have hg := ig_at h
    have hno := @tr_no g _ h
    have hw : w64 ((g.2.2.2.2.length : Int) - 1) = (g.2.2.2.2.length : Int) - 1 := w64_id (by omega) (by omega)
    refine ⟨nn i, t_Item g.2.2.2.2[i], atm h, ?_⟩
    intro q4
    generalize g.2.2.2.2[i] = x at hg
    repeat' (first | (first | refine brT ?_ | refine brF ?_ | refine And.intro rfl ?_ | intro _) | refine ⟨_, s_ItemOk x, ?_⟩ | refine brI (fun _ => ?_) (fun _ => ?_))
    all_goals try (refine tbf (hno ?_); rw [hg]; clear hI hno hg; simp_all <;> omega)
    all_goals exact nxtR h (all_up hI (by rw [hg]; clear hI hno hg; simp_all <;> omega)) (wk rfl ⟨rfl, rfl, rfl, up1 h hl, trivial⟩ ⟨rfl, trivial⟩)
  · have : i = g.2.2.2.2.length := by simp at h; omega
    subst this
    have hy := tr_yes hI
    clear hI
    repeat (first | refine brT ?_ | refine brF ?_ | refine And.intro rfl ?_ | intro _)
    by_cases h0 : g.2.2.2.2.length = 0
    · refine brL (by simp [h0]) (fun _ => ?_)
      have e : lastAt g.2.2.2.2 g.2.2.2.2.length = 0 := by rw [h0]; rfl
      repeat' (first | (first | refine brT ?_ | refine brF ?_ | refine And.intro rfl ?_ | intro _) | refine brI (fun _ => ?_) (fun _ => ?_))
      all_goals (refine tb ?_; rw [hy, e]; clear hy; simp_all)
    · refine brR (fun hh => h0 (by have := of_decide_eq_false hh; simp only [List.length_map] at this; omega)) (fun _ => ?_)
      have hk : g.2.2.2.2.length - 1 < g.2.2.2.2.length := by omega
      have hw : w64 ((g.2.2.2.2.length : Int) - 1) = ((g.2.2.2.2.length - 1 : Nat) : Int) := by rw [w64_id (by omega) (by omega)]; omega
      have hat : (g.2.2.2.2.map t_Item)[(w64 ((g.2.2.2.2.length : Int) - 1)).toNat]? = some (t_Item g.2.2.2.2[g.2.2.2.2.length - 1]) := by rw [hw]; exact atm hk
      have e : lastAt g.2.2.2.2 g.2.2.2.2.length = g.2.2.2.2[g.2.2.2.2.length - 1].1 := by
        have := la_at hk
        rwa [show g.2.2.2.2.length - 1 + 1 = g.2.2.2.2.length by omega] at this
      repeat (first | refine brT ?_ | refine brF ?_ | refine And.intro rfl ?_ | intro _)
      refine ⟨by show (0 : Int) ≤ w64 ((((g.2.2.2.2.map t_Item).length : Nat) : Int) - 1); rw [List.length_map, hw]; omega, t_Item g.2.2.2.2[g.2.2.2.2.length - 1], by rw [← hat, List.length_map], ?_⟩
      repeat' (first | (first | refine brT ?_ | refine brF ?_ | refine And.intro rfl ?_ | intro _) | refine brI (fun _ => ?_) (fun _ => ?_))
      all_goals (refine tb ?_; rw [hy, e]; clear hy hat hw e; simp_all)
theorem s_l08Ok (p : Y_Prog) (g : Y_Gor) (h : ok_Gor g) : Spec Try.prog 59 [.ro (t_Prog p), .ro (t_Gor g)] [T.bool (gorRest p g)] := by
  have hl : g.2.2.1.length ≤ 16777216 := h.1
  refine fn Try.func59 ?_
  intro q2 q3
  repeat (first | refine brT ?_ | refine brF ?_ | refine And.intro rfl ?_ | intro _)
  refine ⟨_, s_Instrs p g.1, ?_⟩
  repeat' (first | (first | refine brT ?_ | refine brF ?_ | refine And.intro rfl ?_ | intro _) | refine brI (fun _ => ?_) (fun _ => ?_))
  all_goals try (
    refine tbf ?_
    have : gorHead p g = false := by simp_all [gorHead, within] <;> omega
    simp [gorRest, this]
    done)
  have hh : gorHead p g = true := by simp_all [gorHead, within] <;> omega
  refine loopR (fun i => ⟨50, [(3, .c (.bx 4000 q3 0)), (38, .c (.ro 1 (g.2.2.1.map T.int))), (39, .int g.2.2.1.length), (40, .int i)], [(4000, .box q3 (t_Gor g).a2.cells)]⟩) g.2.2.1.length (fun i => ∀ j (hj : j < g.2.2.1.length), j < i → isV g.2.2.1[j] = true) (fun j _ h => absurd h (by omega)) (wk rfl ⟨rfl, rfl, lenm, rfl, trivial⟩ ⟨rfl, trivial⟩) ?_
  intro i hi hI
  refine brD (fun h1 => ?_) (fun h1 => ?_)
  · have h1 : i < g.2.2.1.length := by simpa using h1
    refine ⟨nn i, T.int g.2.2.1[i], atm h1, ?_⟩
    refine ⟨_, s_l03Val g.2.2.1[i], ?_⟩
    intro _
    refine brI (fun h2 => ?_) (fun h2 => ?_)
    · have := all_no (p := isV) h1 (by simpa using h2)
      exact tbf (by simp [gorRest, this])
    · exact nxtR h1 (all_step h1 hI (by simpa using h2)) (wk rfl ⟨rfl, rfl, rfl, up1 h1 hl, trivial⟩ ⟨rfl, trivial⟩)
  · have hall := all_end (p := isV) (by omega) hI
    repeat (first | refine brT ?_ | refine brF ?_ | refine And.intro rfl ?_ | intro _)
    refine ⟨_, s_l08Trace g h, ?_⟩
    repeat (first | refine brT ?_ | refine brF ?_ | refine And.intro rfl ?_ | intro _)
    exact tb (by simp [gorRest, hh, hall])
theorem s_GorOk (p : Y_Prog) (g : Y_Gor) (hp : ok_Prog p) (h : ok_Gor g) : Spec Try.prog 26 [.ro (t_Prog p), .ro (t_Gor g)] [T.bool (gorOk p g)] := by
  refine fn Try.func26 ?_
  repeat (first | refine brT ?_ | refine brF ?_ | refine And.intro rfl ?_ | intro _)
  refine ⟨_, s_ProgOk p hp, ?_⟩
  repeat (first | refine brT ?_ | refine brF ?_ | refine And.intro rfl ?_ | intro _)
  refine brI (fun h1 => ?_) (fun h1 => ?_)
  · repeat (first | refine brT ?_ | refine brF ?_ | refine And.intro rfl ?_ | intro _)
    refine ⟨_, s_l08Ok p g h, ?_⟩
    repeat (first | refine brT ?_ | refine brF ?_ | refine And.intro rfl ?_ | intro _)
    exact tb (by simp [gorOk, h1])
  · repeat (first | refine brT ?_ | refine brF ?_ | refine And.intro rfl ?_ | intro _)
    exact tbf (by simp [gorOk, h1])


end Go.Proofs.Ytbofjpmighijhaa.E
