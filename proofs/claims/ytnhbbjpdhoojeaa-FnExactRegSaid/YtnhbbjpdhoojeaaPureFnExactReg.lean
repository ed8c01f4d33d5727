/- The program's Reg answers as the reference's, for every goroutine within the law's bound and every number; no other condition. -/
import Derived.Test.YtnhbbjpdhoojeaaPFnExactRegx2
import Derived.Test.YtnhbbjpdhoojeaaCom
namespace Go.Proofs.Ytnhbbjpdhoojeaa.Pure
open Go.RowKit Go.Proofs.Ytnhbbjpdhoojeaa.PFnExactReg Go.Proofs.YtnhbbjpdhoojeaaW.PrintWords Go.Proofs.YtnhbbjpdhoojeaaW.PrintLast Go.Proofs.Ytnhbbjpdhoojeaa.Com

/-! Loops, told backwards from their end; lists that are filled from the front. -/
theorem down (n : Nat) {E : Nat → Prop} (fin : E n) (step : ∀ i, i < n → E (i + 1) → E i) : E 0 := by
  have h : ∀ d i, i + d = n → E i := by
    intro d
    induction d with
    | zero =>
      intro i h
      have : i = n := by omega
      subst this
      exact fin
    | succ d ih =>
      intro i h
      exact step i (by omega) (ih (i + 1) (by omega))
  exact h n 0 (by omega)
theorem fill_step {α β : Type} (cv : α → β) (x0 : List α) (z : β) (i : Nat) (h : i < x0.length) : ((x0.take i).map cv ++ List.replicate (x0.length - i) z).set i (cv x0[i]) = (x0.take (i + 1)).map cv ++ List.replicate (x0.length - (i + 1)) z := by
  have hl : ((x0.take i).map cv).length = i := by simp only [List.length_map, List.length_take]; omega
  rw [List.set_append_right _ _ (by omega), hl, Nat.sub_self, show x0.length - i = (x0.length - (i + 1)) + 1 by omega, List.replicate_succ, List.set_cons_zero, List.take_succ_eq_append_getElem h, List.map_append, List.append_assoc]
  rfl
theorem fill_zero {α β : Type} (cv : α → β) (x0 : List α) (z : β) : (x0.take 0).map cv ++ List.replicate (x0.length - 0) z = List.replicate x0.length z := by simp
theorem fill_all {α β : Type} (cv : α → β) (x0 : List α) (z : β) : (x0.take x0.length).map cv ++ List.replicate (x0.length - x0.length) z = x0.map cv := by simp
theorem fill_length {α β : Type} (cv : α → β) (x0 : List α) (z : β) (i : Nat) (h : i ≤ x0.length) : ((x0.take i).map cv ++ List.replicate (x0.length - i) z).length = x0.length := by
  simp only [List.length_append, List.length_map, List.length_take, List.length_replicate]
  omega
/-- Marks laid up to place i, the old list behind them. -/
def laid {β : Type} (m : Nat → β) (x : List β) (i : Nat) : List β := (List.range i).map m ++ x.drop i
theorem laid_length {β : Type} (m : Nat → β) (x : List β) (i : Nat) (h : i ≤ x.length) : (laid m x i).length = x.length := by
  simp only [laid, List.length_append, List.length_map, List.length_range, List.length_drop]
  omega
theorem laid_step {β : Type} (m : Nat → β) (x : List β) (i : Nat) (h : i < x.length) : (laid m x i).set i (m i) = laid m x (i + 1) := by
  have hl : ((List.range i).map m).length = i := by simp
  unfold laid
  rw [List.set_append_right _ _ (by omega), hl, Nat.sub_self, List.drop_eq_getElem_cons h, List.set_cons_zero, List.range_succ, List.map_append, List.append_assoc]
  rfl
theorem laid_zero {β : Type} (m : Nat → β) (x : List β) : laid m x 0 = x := by simp [laid]
theorem laid_all {β : Type} (m : Nat → β) (x : List β) : laid m x x.length = (List.range x.length).map m := by simp [laid]
theorem getD_at {β : Type} (x : List β) (i : Nat) (z : β) (h : i < x.length) : x.getD i z = x[i] := by simp [h]
theorem getD_set {β : Type} (x : List β) (i : Nat) (v z : β) (h : i < x.length) : (x.set i v).getD i z = v := by simp [h]
theorem getD_marks {β : Type} (m : Nat → β) (n i : Nat) (z : β) (h : i < n) : ((List.range n).map m).getD i z = m i := by simp [h]
/-! Copies of whole numbers, and their comparison with themselves. -/
theorem toIntS_l0 (x0 : List Int) (hb : x0.length ≤ 4611686018427387904) : ∀ (d i : Nat) (x3 : List Int), i + d = x0.length → x3.length = x0.length →
    Ev (fun k => laws_toIntS.l0 k x0 x3 (i : Int)) (x3.take i ++ x0.drop i) := by
  intro d
  induction d with
  | zero =>
    intro i x3 hd h3
    refine ev_one fun k => ?_
    simp only [laws_toIntS.l0]
    rw [if_neg (by omega), List.take_of_length_le (by omega), List.drop_of_length_le (by omega), List.append_nil]
  | succ d ih =>
    intro i x3 hd h3
    have e := ih (i + 1) (x3.set i (rd x0 i)) (by omega) (by simpa using h3)
    have hs := set_mid x0 x3 i 0 (by omega) h3
    refine Ev.step (fun k => ?_) (ev_cast e (show _ = x3.take i ++ x0.drop i from hs))
    simp only [laws_toIntS.l0]
    rw [if_pos (by omega), if_pos (by omega), if_pos (by omega), w64 (by omega) (by omega)]
    rfl
theorem toIntS_ev (l : List Int) (hb : l.length ≤ 17592186044416) : Ev (fun k => laws_toIntS.f k l) l := by
  simp only [laws_toIntS.f]
  refine ev_pos (by omega) (ev_pos (by omega) ?_)
  exact ev_cast (toIntS_l0 l (by omega) l.length 0 _ (by omega) (by simp)) (by simp)
theorem eqIntS_l0 (x : List Int) (hb : x.length ≤ 4611686018427387904) : ∀ (d i : Nat), i + d = x.length → Ev (fun k => laws_eqIntS.l0 k x x (i : Int)) true := by
  intro d
  induction d with
  | zero =>
    intro i hd
    refine ev_one fun k => ?_
    simp only [laws_eqIntS.l0]
    rw [if_neg (by omega)]
  | succ d ih =>
    intro i hd
    refine Ev.step (fun k => ?_) (ih (i + 1) (by omega))
    simp only [laws_eqIntS.l0]
    rw [if_pos (by omega), if_pos (by omega), if_pos (by omega), if_pos trivial, w64 (by omega) (by omega)]
    rfl
theorem eqIntS_ev (l : List Int) (hb : l.length ≤ 17592186044416) : Ev (fun k => laws_eqIntS.f k l l) true := by
  simp only [laws_eqIntS.f]
  exact ev_pos (by trivial) (eqIntS_l0 l (by omega) l.length 0 (by omega))
/-! Items: copies, and the comparison with themselves. -/
def cvItem (x : S37) : S39 := ⟨x.f0, x.f1, x.f2, x.f3⟩
theorem toItemS_ev (l : List S37) (hb : l.length ≤ 8796093022208) : Ev (fun k => laws_toItemS.f k l) (l.map cvItem) := by
  simp only [laws_toItemS.f]
  refine ev_pos (by omega) (ev_pos (by omega) ?_)
  have e := down l.length (E := fun i => Ev (fun k => laws_toItemS.l0 k l ((l.take i).map cvItem ++ List.replicate (l.length - i) z39) (i : Int)) (l.map cvItem)) ?_ ?_
  · exact ev_cast (Ev.congr (fun k => by simp) e) rfl
  · refine ev_one fun k => ?_
    simp only [laws_toItemS.l0]
    rw [if_neg (by omega), fill_all]
  · intro i hi e
    refine Ev.step (fun k => ?_) e
    have hl := fill_length cvItem l z39 i (by omega)
    have hs := fill_step cvItem l z39 i hi
    have hr : rd_T37 l (i : Int) = l[i] := getD_at l i _ hi
    simp only [laws_toItemS.l0, laws_toItem.f, Option.bind_some, hr]
    rw [if_pos (by omega), if_pos (by omega), if_pos (by rw [hl]; omega), w64 (by omega) (by omega)]
    exact congrArg (fun y => laws_toItemS.l0 k l y ((i : Int) + 1)) hs
theorem eqItemS_ev (x : List S39) (hb : x.length ≤ 17592186044416) : Ev (fun k => laws_eqItemS.f k x x) true := by
  simp only [laws_eqItemS.f]
  refine ev_pos (by trivial) (down x.length (E := fun i => Ev (fun k => laws_eqItemS.l0 k x x (i : Int)) true) ?_ ?_)
  · refine ev_one fun k => ?_
    simp only [laws_eqItemS.l0]
    rw [if_neg (by omega)]
  · intro i hi e
    refine Ev.step (fun k => ?_) e
    simp only [laws_eqItemS.l0, laws_eqItem.f]
    rw [if_pos (by omega), if_pos (by omega), if_pos (by omega), w64 (by omega) (by omega)]
    simp
/-! A goroutine's copies and its comparison. -/
theorem eqGor_ev (a b : Int) (l : List Int) (d : Int) (q : List S39) (hl : l.length ≤ 17592186044416) (hq : q.length ≤ 17592186044416) : Ev (fun k => laws_eqGor.f k a b l d q a b l d q) true := by
  simp only [laws_eqGor.f]
  exact ev_pos (by trivial) (ev_pos (by trivial) (Ev.bind (eqIntS_ev l hl) (ev_pos (by trivial) (ev_pos (by trivial) (Ev.bind (eqItemS_ev q hq) (ev_pos (by trivial) (Ev.now _)))))))
theorem szGor_cases (a b : Int) (l : List Int) (d : Int) (q : List S37) (hl : l.length ≤ 9223372036854775807) (hq : q.length ≤ 9223372036854775807) :
    laws_szGor.f a b l d q 1048576 = some (-1) ∨ (laws_szGor.f a b l d q 1048576 = some (1048576 - (l.length : Int) - (q.length : Int)) ∧ l.length + q.length ≤ 1048576) := by
  simp only [laws_szGor.f, laws_szIntS.f, laws_szItemS.f]
  rw [w64 (n := 1048576 - (l.length : Int)) (by omega) (by omega)]
  by_cases h1 : 1048576 - (l.length : Int) < 0
  · left
    rw [if_pos h1]
    rfl
  · rw [if_neg h1]
    simp only [Option.bind_some]
    rw [if_neg h1, w64 (n := 1048576 - (l.length : Int) - (q.length : Int)) (by omega) (by omega)]
    by_cases h2 : 1048576 - (l.length : Int) - (q.length : Int) < 0
    · left
      rw [if_pos h2]
      rfl
    · right
      rw [if_neg h2]
      simp only [Option.bind_some]
      rw [if_neg h2]
      exact ⟨rfl, by omega⟩
theorem toGor_ev (a b : Int) (l : List Int) (d : Int) (q : List S37) (hl : l.length ≤ 8796093022208) (hq : q.length ≤ 8796093022208) : Ev (fun k => laws_toGor.f k a b l d q) (a, b, l, d, q.map cvItem) := by
  simp only [laws_toGor.f]
  exact Ev.bind (toIntS_ev l (by omega)) (Ev.bind (toItemS_ev q hq) (Ev.now _))
theorem reg_eq (a b : Int) (l : List Int) (d : Int) (q : List S39) (r : Int) : ∃ v, spec_Reg.f a b l d q r = some v ∧ impl_Reg.f a b l d q r = some v := by
  simp only [spec_Reg.f, impl_Reg.f, impl_within.f]
  by_cases h0 : 0 ≤ r
  · by_cases h1 : r < (l.length : Int)
    · exact ⟨rd l r, by simp [h0, h1, show ¬ r < 0 by omega, show ¬ (l.length : Int) ≤ r by omega], by simp [h0, h1]⟩
    · exact ⟨0, by simp [show ¬ r < 0 by omega, show (l.length : Int) ≤ r by omega], by simp [h0, h1]⟩
  · exact ⟨0, by simp [show r < 0 by omega], by simp [h0]⟩
theorem FnExactReg : laws_FnExactReg.Pure := by
  intro a b l d q r hw _
  have hl' : l.length ≤ 9223372036854775807 := Nat.le_trans hw.2.2.1.1 (by decide)
  have hq' : q.length ≤ 9223372036854775807 := Nat.le_trans hw.2.2.2.2.1 (by decide)
  refine Ev.rounds (g := fun k => laws_FnExactReg.f k a b l d q r) ?_
  simp only [laws_FnExactReg.f]
  rcases szGor_cases a b l d q hl' hq' with h | ⟨h, hb⟩
  · exact ev_call h (ev_pos (by decide) (Ev.now _))
  refine ev_call h (ev_neg (by omega) ?_)
  have et := toGor_ev a b l d q (by omega) (by omega)
  obtain ⟨v, e1, e2⟩ := reg_eq a b l d (q.map cvItem) r
  refine Ev.bind et (ev_call e1 (Ev.bind et (ev_call e2 (ev_pos (by trivial) (Ev.bind et ?_)))))
  exact Ev.bind (eqGor_ev a b l d (q.map cvItem) (by omega) (by simp; omega)) (ev_pos (by trivial) (Ev.now _))

end Go.Proofs.Ytnhbbjpdhoojeaa.Pure
