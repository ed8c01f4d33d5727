/- The program's GorNew answers as the reference's, for every two numbers; no condition. -/
import Derived.Test.YtnhbbjpdhoojeaaPFnExactGorNewx2
import Derived.Test.YtnhbbjpdhoojeaaCom
namespace Go.Proofs.Ytnhbbjpdhoojeaa.Pure
open Go.RowKit Go.Proofs.Ytnhbbjpdhoojeaa.PFnExactGorNew Go.Proofs.YtnhbbjpdhoojeaaW.PrintWords Go.Proofs.YtnhbbjpdhoojeaaW.PrintLast Go.Proofs.Ytnhbbjpdhoojeaa.Com

/-! Loops, told backwards from their end; lists that are filled from the front. -/
theorem down (n : Nat) {E : Nat → Prop} (fin : E n) (step : ∀ i, i < n → E (i + 1) → E i) : E 0 := by
  have h : ∀ d i, i + d = n → E i := by
    intro d
    induction d with
    | zero =>
      intro i h
      have : i = n := by omega
      subst this
      exact fin
    | succ d ih =>
      intro i h
      exact step i (by omega) (ih (i + 1) (by omega))
  exact h n 0 (by omega)
theorem fill_step {α β : Type} (cv : α → β) (x0 : List α) (z : β) (i : Nat) (h : i < x0.length) : ((x0.take i).map cv ++ List.replicate (x0.length - i) z).set i (cv x0[i]) = (x0.take (i + 1)).map cv ++ List.replicate (x0.length - (i + 1)) z := by
  have hl : ((x0.take i).map cv).length = i := by simp only [List.length_map, List.length_take]; omega
  rw [List.set_append_right _ _ (by omega), hl, Nat.sub_self, show x0.length - i = (x0.length - (i + 1)) + 1 by omega, List.replicate_succ, List.set_cons_zero, List.take_succ_eq_append_getElem h, List.map_append, List.append_assoc]
  rfl
theorem fill_zero {α β : Type} (cv : α → β) (x0 : List α) (z : β) : (x0.take 0).map cv ++ List.replicate (x0.length - 0) z = List.replicate x0.length z := by simp
theorem fill_all {α β : Type} (cv : α → β) (x0 : List α) (z : β) : (x0.take x0.length).map cv ++ List.replicate (x0.length - x0.length) z = x0.map cv := by simp
theorem fill_length {α β : Type} (cv : α → β) (x0 : List α) (z : β) (i : Nat) (h : i ≤ x0.length) : ((x0.take i).map cv ++ List.replicate (x0.length - i) z).length = x0.length := by
  simp only [List.length_append, List.length_map, List.length_take, List.length_replicate]
  omega
/-- Marks laid up to place i, the old list behind them. -/
def laid {β : Type} (m : Nat → β) (x : List β) (i : Nat) : List β := (List.range i).map m ++ x.drop i
theorem laid_length {β : Type} (m : Nat → β) (x : List β) (i : Nat) (h : i ≤ x.length) : (laid m x i).length = x.length := by
  simp only [laid, List.length_append, List.length_map, List.length_range, List.length_drop]
  omega
theorem laid_step {β : Type} (m : Nat → β) (x : List β) (i : Nat) (h : i < x.length) : (laid m x i).set i (m i) = laid m x (i + 1) := by
  have hl : ((List.range i).map m).length = i := by simp
  unfold laid
  rw [List.set_append_right _ _ (by omega), hl, Nat.sub_self, List.drop_eq_getElem_cons h, List.set_cons_zero, List.range_succ, List.map_append, List.append_assoc]
  rfl
theorem laid_zero {β : Type} (m : Nat → β) (x : List β) : laid m x 0 = x := by simp [laid]
theorem laid_all {β : Type} (m : Nat → β) (x : List β) : laid m x x.length = (List.range x.length).map m := by simp [laid]
theorem getD_at {β : Type} (x : List β) (i : Nat) (z : β) (h : i < x.length) : x.getD i z = x[i] := by simp [h]
theorem getD_set {β : Type} (x : List β) (i : Nat) (v z : β) (h : i < x.length) : (x.set i v).getD i z = v := by simp [h]
theorem getD_marks {β : Type} (m : Nat → β) (n i : Nat) (z : β) (h : i < n) : ((List.range n).map m).getD i z = m i := by simp [h]
theorem eqIntS_l0 (x : List Int) (hb : x.length ≤ 4611686018427387904) : ∀ (d i : Nat), i + d = x.length → Ev (fun k => laws_eqIntS.l0 k x x (i : Int)) true := by
  intro d
  induction d with
  | zero =>
    intro i hd
    refine ev_one fun k => ?_
    simp only [laws_eqIntS.l0]
    rw [if_neg (by omega)]
  | succ d ih =>
    intro i hd
    refine Ev.step (fun k => ?_) (ih (i + 1) (by omega))
    simp only [laws_eqIntS.l0]
    rw [if_pos (by omega), if_pos (by omega), if_pos (by omega), if_pos trivial, w64 (by omega) (by omega)]
    rfl
theorem eqIntS_ev (l : List Int) (hb : l.length ≤ 17592186044416) : Ev (fun k => laws_eqIntS.f k l l) true := by
  simp only [laws_eqIntS.f]
  exact ev_pos (by trivial) (eqIntS_l0 l (by omega) l.length 0 (by omega))
/-! Whole numbers that are marked, and looked at again. -/
def marksI (k : Int) : Nat → List Int
  | 0 => []
  | n + 1 => k :: marksI (k + 1) n
theorem marksI_length : ∀ (n : Nat) (k : Int), (marksI k n).length = n
  | 0, _ => rfl
  | n + 1, k => by simp [marksI, marksI_length n]
theorem marksI_at : ∀ (n : Nat) (k : Int) (i : Nat) (h : i < (marksI k n).length), (marksI k n)[i] = k + i
  | 0, _, i, h => by simp [marksI] at h
  | n + 1, k, 0, _ => by simp [marksI]
  | n + 1, k, i + 1, h => by
    have := marksI_at n (k + 1) i (by simpa [marksI] using h)
    simp only [marksI, List.getElem_cons_succ, this]
    omega
theorem markIntS_l0 (k0 : Int) (n : Nat) (hn : n ≤ 4611686018427387904) (h0 : 0 ≤ k0) (h1 : k0 ≤ 4611686018427387903) : ∀ (d i : Nat) (x : List Int), i + d = n → x.length = n →
    Ev (fun k => laws_markIntS.l0 k x (k0 + i) (i : Int)) (k0 + n, x.take i ++ marksI (k0 + i) d) := by
  intro d
  induction d with
  | zero =>
    intro i x hd hx
    refine ev_one fun k => ?_
    simp only [laws_markIntS.l0]
    rw [if_neg (by omega), List.take_of_length_le (by omega)]
    have : i = n := by omega
    subst this
    simp [marksI]
  | succ d ih =>
    intro i x hd hx
    have e := ih (i + 1) (x.set i (k0 + (i : Int))) (by omega) (by simpa using hx)
    refine Ev.step (fun k => ?_) (ev_cast e ?_)
    · simp only [laws_markIntS.l0]
      rw [if_pos (by omega), if_pos (by omega), w64 (n := k0 + (i : Int) + 1) (by omega) (by omega), w64 (n := (i : Int) + 1) (by omega) (by omega)]
      have : (k0 + ((i + 1 : Nat) : Int)) = k0 + (i : Int) + 1 := by omega
      rw [this]
      rfl
    · congr 1
      have h2 : (x.set i (k0 + (i : Int))).take (i + 1) = x.take i ++ [k0 + (i : Int)] := by
        rw [List.take_add_one, List.take_set_of_le (Nat.le_refl i), List.getElem?_set_self (by omega)]
        rfl
      rw [h2, List.append_assoc]
      congr 1
      have : (k0 + ((i + 1 : Nat) : Int)) = k0 + (i : Int) + 1 := by omega
      rw [this]
      rfl
theorem markIntS_ev (l : List Int) (k0 : Int) (hn : l.length ≤ 281474976710656) (h0 : 0 ≤ k0) (h1 : k0 ≤ 4611686018427387903) : Ev (fun k => laws_markIntS.f k l k0) (k0 + l.length, marksI k0 l.length) := by
  simp only [laws_markIntS.f]
  have e := markIntS_l0 k0 l.length (by omega) h0 h1 l.length 0 l (by omega) rfl
  simpa using e
theorem heldIntS_l0 (k0 : Int) (n : Nat) (hn : n ≤ 4611686018427387904) (h0 : 0 ≤ k0) (h1 : k0 ≤ 4611686018427387903) : ∀ (d i : Nat), i + d = n →
    Ev (fun k => laws_heldIntS.l0 k (marksI k0 n) (k0 + i) (i : Int)) (k0 + n) := by
  intro d
  have hl := marksI_length n k0
  induction d with
  | zero =>
    intro i hd
    refine ev_one fun k => ?_
    simp only [laws_heldIntS.l0]
    rw [if_neg (by omega)]
    have : i = n := by omega
    subst this
    rfl
  | succ d ih =>
    intro i hd
    refine Ev.step (fun k => ?_) (ih (i + 1) (by omega))
    simp only [laws_heldIntS.l0]
    have hr : rd (marksI k0 n) i = k0 + (i : Int) := by rw [rd_at _ i (by omega), marksI_at]
    rw [if_pos (by omega), if_pos (by omega), if_pos hr, w64 (n := k0 + (i : Int) + 1) (by omega) (by omega), w64 (n := (i : Int) + 1) (by omega) (by omega)]
    have : (k0 + ((i + 1 : Nat) : Int)) = k0 + (i : Int) + 1 := by omega
    rw [this]
    rfl
theorem heldIntS_ev (n : Nat) (k0 : Int) (hn : n ≤ 281474976710656) (h0 : 0 ≤ k0) (h1 : k0 ≤ 4611686018427387903) : Ev (fun k => laws_heldIntS.f k (marksI k0 n) k0) (k0 + n) := by
  simp only [laws_heldIntS.f]
  have e := heldIntS_l0 k0 n (by omega) h0 h1 n 0 (by omega)
  simpa using e
theorem eqItemS_ev (x : List S39) (hb : x.length ≤ 17592186044416) : Ev (fun k => laws_eqItemS.f k x x) true := by
  simp only [laws_eqItemS.f]
  refine ev_pos (by trivial) (down x.length (E := fun i => Ev (fun k => laws_eqItemS.l0 k x x (i : Int)) true) ?_ ?_)
  · refine ev_one fun k => ?_
    simp only [laws_eqItemS.l0]
    rw [if_neg (by omega)]
  · intro i hi e
    refine Ev.step (fun k => ?_) e
    simp only [laws_eqItemS.l0, laws_eqItem.f]
    rw [if_pos (by omega), if_pos (by omega), if_pos (by omega), w64 (by omega) (by omega)]
    simp
/-! Items that are marked, and looked at again. -/
def mItem (c : Int) (j : Nat) : S39 := ⟨c + 4 * j, c + 4 * j + 1, c + 4 * j + 2, Int.tmod (c + 4 * j + 3) 3 == 0⟩
theorem markItemS_ev (x : List S39) (c : Int) (hb : x.length ≤ 17592186044416) (h0 : 0 ≤ c) (h1 : c ≤ 4611686018427387903) : Ev (fun k => laws_markItemS.f k x c) (c + 4 * x.length, (List.range x.length).map (mItem c)) := by
  simp only [laws_markItemS.f]
  have e := down x.length (E := fun i => Ev (fun k => laws_markItemS.l0 k (laid (mItem c) x i) (c + 4 * (i : Int)) (i : Int)) (c + 4 * x.length, (List.range x.length).map (mItem c))) ?_ ?_
  · simpa [laid_zero] using e
  · refine ev_one fun k => ?_
    simp only [laws_markItemS.l0, laid_all]
    rw [if_neg (by simp)]
  · intro i hi e
    have hl := laid_length (mItem c) x i (by omega)
    refine Ev.step (fun k => ?_) e
    simp only [laws_markItemS.l0]
    rw [if_pos (by omega), if_pos (by omega)]
    simp only [Option.bind_some, w64 (n := c + 4 * (i : Int) + 1) (by omega) (by omega), w64 (n := c + 4 * (i : Int) + 1 + 1) (by omega) (by omega), w64 (n := c + 4 * (i : Int) + 1 + 1 + 1) (by omega) (by omega), w64 (n := c + 4 * (i : Int) + 1 + 1 + 1 + 1) (by omega) (by omega), w64 (n := (i : Int) + 1) (by omega) (by omega), Int.toNat_natCast, rd_T39, List.set_set, getD_set _ i _ _ (show i < (laid (mItem c) x i).length by omega)]
    have hs := laid_step (mItem c) x i hi
    have hm : mItem c i = ⟨c + 4 * (i : Int), c + 4 * (i : Int) + 1, c + 4 * (i : Int) + 1 + 1, Int.tmod (c + 4 * (i : Int) + 1 + 1 + 1) 3 == 0⟩ := by
      unfold mItem
      rw [show c + 4 * (i : Int) + 1 + 1 = c + 4 * (i : Int) + 2 by omega, show c + 4 * (i : Int) + 2 + 1 = c + 4 * (i : Int) + 3 by omega]
    rw [← hm, hs, show c + 4 * (i : Int) + 1 + 1 + 1 + 1 = c + 4 * ((i + 1 : Nat) : Int) by omega]
    rfl
theorem heldItemS_ev (n : Nat) (c : Int) (hb : n ≤ 17592186044416) (h0 : 0 ≤ c) (h1 : c ≤ 4611686018427387903) : Ev (fun k => laws_heldItemS.f k ((List.range n).map (mItem c)) c) (c + 4 * n) := by
  simp only [laws_heldItemS.f]
  have e := down n (E := fun i => Ev (fun k => laws_heldItemS.l0 k ((List.range n).map (mItem c)) (c + 4 * (i : Int)) (i : Int)) (c + 4 * n)) ?_ ?_
  · simpa using e
  · refine ev_one fun k => ?_
    simp only [laws_heldItemS.l0]
    rw [if_neg (by simp)]
  · intro i hi e
    refine Ev.step (fun k => ?_) e
    have hr : rd_T39 ((List.range n).map (mItem c)) (i : Int) = mItem c i := getD_marks (mItem c) n i _ hi
    simp only [laws_heldItemS.l0, hr]
    rw [if_pos (by simp; omega), if_pos (by omega)]
    simp only [w64 (n := c + 4 * (i : Int) + 1) (by omega) (by omega), w64 (n := c + 4 * (i : Int) + 1 + 1) (by omega) (by omega), w64 (n := c + 4 * (i : Int) + 1 + 1 + 1) (by omega) (by omega), w64 (n := c + 4 * (i : Int) + 1 + 1 + 1 + 1) (by omega) (by omega), w64 (n := (i : Int) + 1) (by omega) (by omega)]
    rw [if_pos (show (mItem c i).f0 = c + 4 * (i : Int) from rfl), if_pos (show (mItem c i).f1 = c + 4 * (i : Int) + 1 from rfl), if_pos (show (mItem c i).f2 = c + 4 * (i : Int) + 1 + 1 from by unfold mItem; show c + 4 * (i : Int) + 2 = _; omega)]
    rw [if_neg (by unfold mItem; rw [show c + 4 * (i : Int) + 1 + 1 + 1 = c + 4 * (i : Int) + 3 by omega]; simp), show c + 4 * (i : Int) + 1 + 1 + 1 + 1 = c + 4 * ((i + 1 : Nat) : Int) by omega]
    rfl
/-! A goroutine's copies and its comparison. -/
theorem eqGor_ev (a b : Int) (l : List Int) (d : Int) (q : List S39) (hl : l.length ≤ 17592186044416) (hq : q.length ≤ 17592186044416) : Ev (fun k => laws_eqGor.f k a b l d q a b l d q) true := by
  simp only [laws_eqGor.f]
  exact ev_pos (by trivial) (ev_pos (by trivial) (Ev.bind (eqIntS_ev l hl) (ev_pos (by trivial) (ev_pos (by trivial) (Ev.bind (eqItemS_ev q hq) (ev_pos (by trivial) (Ev.now _)))))))
theorem markGor_ev (a b : Int) (l : List Int) (d : Int) (q : List S39) (hl : l.length ≤ 17592186044416) (hq : q.length ≤ 17592186044416) : Ev (fun k => laws_markGor.f k a b l d q 1) (1 + l.length + 4 * q.length, marksI 1 l.length, (List.range q.length).map (mItem (1 + l.length))) := by
  simp only [laws_markGor.f]
  exact Ev.bind (markIntS_ev l 1 (by omega) (by decide) (by decide)) (Ev.bind (markItemS_ev q _ hq (by omega) (by omega)) (Ev.now _))
theorem heldGor_ev (a b : Int) (d : Int) (n m : Nat) (hl : n ≤ 17592186044416) (hq : m ≤ 17592186044416) : Ev (fun k => laws_heldGor.f k a b (marksI 1 n) d ((List.range m).map (mItem (1 + n))) 1) (1 + n + 4 * m) := by
  simp only [laws_heldGor.f]
  exact Ev.bind (heldIntS_ev n 1 (by omega) (by decide) (by decide)) (ev_neg (by omega) (Ev.bind (heldItemS_ev m _ hq (by omega) (by omega)) (ev_neg (by omega) (Ev.now _))))
theorem gorNew_eq (a b : Int) : ∃ v, spec_GorNew.f a b = some v ∧ impl_GorNew.f a b = some v ∧ v.2.2.1.length ≤ 6 ∧ v.2.2.2.2.length = 0 := by
  have hv : impl_isVal.f b = spec_l03Val.f b := rfl
  have hw : ∃ t, spec_l03Val.f b = some t := by
    unfold spec_l03Val.f
    split <;> exact ⟨_, rfl⟩
  obtain ⟨t, ht⟩ := hw
  simp only [spec_GorNew.f, impl_GorNew.f, hv, ht, Option.bind_some]
  by_cases h0 : a < 0
  · exact ⟨_, by rw [if_pos h0], by rw [if_pos h0], by simp, by simp⟩
  rw [if_neg h0]
  cases t with
  | false => exact ⟨_, rfl, rfl, by simp, by simp⟩
  | true => exact ⟨(a, 0, (List.replicate 6 0).set 0 b, 1, []), rfl, rfl, by simp, by simp⟩
theorem FnExactGorNew : laws_FnExactGorNew.Pure := by
  intro a b _ _
  refine Ev.rounds (g := fun k => laws_FnExactGorNew.f k a b) ?_
  simp only [laws_FnExactGorNew.f]
  obtain ⟨v, e1, e2, n1, n2⟩ := gorNew_eq a b
  have eq := eqGor_ev v.1 v.2.1 v.2.2.1 v.2.2.2.1 v.2.2.2.2 (by omega) (by omega)
  have hm := markGor_ev v.1 v.2.1 v.2.2.1 v.2.2.2.1 v.2.2.2.2 (by omega) (by omega)
  have hh := heldGor_ev v.1 v.2.1 v.2.2.2.1 v.2.2.1.length v.2.2.2.2.length (by omega) (by omega)
  refine ev_call e1 (ev_call e2 (Ev.bind eq (ev_pos (by trivial) (Ev.bind hm (Ev.bind hh (ev_neg (by omega) (ev_pos (by trivial) ?_)))))))
  exact ev_call e2 (Ev.bind eq (ev_pos (by trivial) (Ev.bind hh (ev_neg (by omega) (ev_pos (by trivial) (Ev.now _))))))

end Go.Proofs.Ytnhbbjpdhoojeaa.Pure
