/- The program's MutexOk answers as the reference's, for every mutex whose list is not longer than the law's bound; no other condition. -/
import Derived.Test.YtonmkhbojmckhaaPFnExactMutexOkx2
import Derived.Test.YtonmkhbojmckhaaCom
namespace Go.Proofs.Ytonmkhbojmckhaa.Pure
open Go.RowKit Go.Proofs.Ytonmkhbojmckhaa.PFnExactMutexOk Go.Proofs.YtonmkhbojmckhaaW.PrintWords Go.Proofs.YtonmkhbojmckhaaW.PrintLast Go.Proofs.Ytonmkhbojmckhaa.Com

/-! Copies of whole numbers, and their comparison with themselves. -/
theorem toIntS_l0 (x0 : List Int) (hb : x0.length ≤ 4611686018427387904) : ∀ (d i : Nat) (x3 : List Int), i + d = x0.length → x3.length = x0.length →
    Ev (fun k => laws_toIntS.l0 k x0 x3 (i : Int)) (x3.take i ++ x0.drop i) := by
  intro d
  induction d with
  | zero =>
    intro i x3 hd h3
    refine ev_one fun k => ?_
    simp only [laws_toIntS.l0]
    rw [if_neg (by omega), List.take_of_length_le (by omega), List.drop_of_length_le (by omega), List.append_nil]
  | succ d ih =>
    intro i x3 hd h3
    have e := ih (i + 1) (x3.set i (rd x0 i)) (by omega) (by simpa using h3)
    have hs := set_mid x0 x3 i 0 (by omega) h3
    refine Ev.step (fun k => ?_) (ev_cast e (show _ = x3.take i ++ x0.drop i from hs))
    simp only [laws_toIntS.l0]
    rw [if_pos (by omega), if_pos (by omega), if_pos (by omega), w64 (by omega) (by omega)]
    rfl
theorem toIntS_ev (l : List Int) (hb : l.length ≤ 17592186044416) : Ev (fun k => laws_toIntS.f k l) l := by
  simp only [laws_toIntS.f]
  refine ev_pos (by omega) (ev_pos (by omega) ?_)
  exact ev_cast (toIntS_l0 l (by omega) l.length 0 _ (by omega) (by simp)) (by simp)
theorem eqIntS_l0 (x : List Int) (hb : x.length ≤ 4611686018427387904) : ∀ (d i : Nat), i + d = x.length → Ev (fun k => laws_eqIntS.l0 k x x (i : Int)) true := by
  intro d
  induction d with
  | zero =>
    intro i hd
    refine ev_one fun k => ?_
    simp only [laws_eqIntS.l0]
    rw [if_neg (by omega)]
  | succ d ih =>
    intro i hd
    refine Ev.step (fun k => ?_) (ih (i + 1) (by omega))
    simp only [laws_eqIntS.l0]
    rw [if_pos (by omega), if_pos (by omega), if_pos (by omega), if_pos trivial, w64 (by omega) (by omega)]
    rfl
theorem eqIntS_ev (l : List Int) (hb : l.length ≤ 17592186044416) : Ev (fun k => laws_eqIntS.f k l l) true := by
  simp only [laws_eqIntS.f]
  exact ev_pos (by trivial) (eqIntS_l0 l (by omega) l.length 0 (by omega))
/-! Is a number in a list: the reference's own loop, and the library's. -/
theorem l07Has_l0 (a : Int) (l : List Int) (hb : l.length ≤ 4611686018427387904) : ∀ (d i : Nat), i + d = l.length → Ev (fun k => spec_l07Has.l0 k a l (l.length : Int) (i : Int)) (decide (a ∈ l.drop i)) := by
  intro d
  induction d with
  | zero =>
    intro i hd
    refine ev_one fun k => ?_
    simp only [spec_l07Has.l0]
    rw [if_neg (by omega), List.drop_of_length_le (by omega)]
    simp
  | succ d ih =>
    intro i hd
    have hr := rd_at l i (by omega)
    have hc := List.drop_eq_getElem_cons (l := l) (i := i) (by omega)
    by_cases h : l[i] = a
    · refine ev_one fun k => ?_
      simp only [spec_l07Has.l0]
      rw [if_pos (by omega), if_pos (by omega), if_pos (by omega), hr, if_pos h, hc, ← h]
      simp only [List.mem_cons, true_or, decide_true]
    · refine Ev.step (fun k => ?_) (ev_cast (ih (i + 1) (by omega)) ?_)
      · simp only [spec_l07Has.l0]
        rw [if_pos (by omega), if_pos (by omega), if_pos (by omega), hr, if_neg h, w64 (by omega) (by omega)]
        rfl
      · have h' : ¬ a = l[i] := fun e => h e.symm
        rw [hc]
        simp only [List.mem_cons, h', false_or]
theorem l07Has_ev (l : List Int) (a : Int) (hb : l.length ≤ 17592186044416) : Ev (fun k => spec_l07Has.f k l a) (decide (a ∈ l)) := by
  simp only [spec_l07Has.f]
  simpa using l07Has_l0 a l (by omega) l.length 0 (by omega)
theorem index_l0 (a : Int) (l : List Int) (hb : l.length ≤ 4611686018427387904) : ∀ (d i : Nat), i + d = l.length → ∃ r, Ev (fun k => slices_Index_int_int.l0 k l a (l.length : Int) (i : Int)) r ∧ decide (r ≥ 0) = decide (a ∈ l.drop i) := by
  intro d
  induction d with
  | zero =>
    intro i hd
    refine ⟨-1, ev_one fun k => ?_, ?_⟩
    · simp only [slices_Index_int_int.l0]
      rw [if_neg (by omega)]
    · rw [List.drop_of_length_le (by omega)]
      simp
  | succ d ih =>
    intro i hd
    have hr := rd_at l i (by omega)
    have hc := List.drop_eq_getElem_cons (l := l) (i := i) (by omega)
    by_cases h : a = l[i]
    · refine ⟨i, ev_one fun k => ?_, ?_⟩
      · simp only [slices_Index_int_int.l0]
        rw [if_pos (by omega), if_pos (by omega), if_pos (by omega), hr, if_pos h]
      · rw [hc, ← h]
        simp
    · obtain ⟨r, e, he⟩ := ih (i + 1) (by omega)
      refine ⟨r, Ev.step (fun k => ?_) e, ?_⟩
      · simp only [slices_Index_int_int.l0]
        rw [if_pos (by omega), if_pos (by omega), if_pos (by omega), hr, if_neg h, w64 (by omega) (by omega)]
        rfl
      · rw [hc, he]
        simp only [List.mem_cons, h, false_or]
theorem contains_ev (l : List Int) (a : Int) (hb : l.length ≤ 17592186044416) : Ev (fun k => slices_Contains_int_int.f k l a) (decide (a ∈ l)) := by
  simp only [slices_Contains_int_int.f, slices_Index_int_int.f]
  obtain ⟨r, e, he⟩ := index_l0 a l (by omega) l.length 0 (by omega)
  refine Ev.bind e (ev_cast (Ev.now _) ?_)
  simpa using he
/-! When a mutex is right. -/
def mOk : Nat → Int → List Int → Nat → Bool
  | 0, _, _, _ => true
  | d + 1, h, l, i => if l.getD i 0 < 0 then false else if l.getD i 0 = h then false else if l.getD i 0 ∈ l.take i then false else mOk d h l (i + 1)
def mutexOk (h : Int) (l : List Int) : Bool := if h < -1 ∨ (h = -1 ∧ l.length > 0) then false else mOk l.length h l 0
theorem spec_MutexOk_l0 (h : Int) (l : List Int) (hb : l.length ≤ 17592186044416) : ∀ (d i : Nat), i + d = l.length → Ev (fun k => spec_MutexOk.l0 k l (l.length : Int) (i : Int) h l) (mOk d h l i) := by
  intro d
  induction d with
  | zero =>
    intro i hd
    refine ev_one fun k => ?_
    simp only [spec_MutexOk.l0]
    rw [if_neg (by omega)]
    rfl
  | succ d ih =>
    intro i hd
    have hr := rd_at l i (by omega)
    have e0 := l07Has_ev (l.take i) l[i] (by simp only [List.length_take]; omega)
    have hg : l.getD i 0 = l[i] := by simp [show i < l.length by omega]
    simp only [mOk, hg]
    refine Ev.step (f := fun k => if l[i] < 0 then some false else if l[i] = h then some false else (spec_l07Has.f k (l.take i) l[i]).bind fun t => if t = true then some false else spec_MutexOk.l0 k l (l.length : Int) ((i + 1 : Nat) : Int) h l) (fun k => ?_) ?_
    · simp only [spec_MutexOk.l0]
      rw [if_pos (by omega), if_pos (by omega), if_pos (by omega), hr, w64 (n := (i : Int) + 1) (by omega) (by omega), if_pos (show (i : Int) ≤ (l.length : Int) by omega)]
      rfl
    · by_cases h1 : l[i] < 0
      · exact ev_pos h1 (ev_cast (Ev.now _) (by rw [if_pos h1]))
      refine ev_neg h1 ?_
      rw [if_neg h1]
      by_cases h2 : l[i] = h
      · exact ev_pos h2 (ev_cast (Ev.now _) (by rw [if_pos h2]))
      refine ev_neg h2 ?_
      rw [if_neg h2]
      refine Ev.bind e0 ?_
      by_cases h3 : l[i] ∈ l.take i
      · exact ev_pos (by simpa using h3) (ev_cast (Ev.now _) (by rw [if_pos h3]))
      · refine ev_neg (by simpa using h3) ?_
        rw [if_neg h3]
        exact ih (i + 1) (by omega)
theorem spec_MutexOk_ev (h : Int) (l : List Int) (hb : l.length ≤ 17592186044416) : Ev (fun k => spec_MutexOk.f k h l) (mutexOk h l) := by
  have e := spec_MutexOk_l0 h l hb l.length 0 (by omega)
  have bad : Ev (fun k => spec_MutexOk.j0 k true h l) false := by
    refine ev_one fun k => ?_
    simp only [spec_MutexOk.j0]
    rw [if_pos trivial]
  have good : Ev (fun k => spec_MutexOk.j0 k false h l) (mOk l.length h l 0) := by
    refine Ev.step (fun k => ?_) e
    simp only [spec_MutexOk.j0]
    rw [if_neg (by simp)]
    rfl
  simp only [spec_MutexOk.f]
  unfold mutexOk
  by_cases h1 : h < -1
  · exact ev_pos h1 (ev_cast bad (by rw [if_pos (Or.inl h1)]))
  refine ev_neg h1 ?_
  by_cases h2 : h = -1
  · refine ev_pos h2 ?_
    by_cases h3 : l.length > 0
    · rw [if_pos (Or.inr ⟨h2, h3⟩), show decide ((l.length : Int) > 0) = true from decide_eq_true (by omega)]
      exact bad
    · rw [if_neg (by omega), show decide ((l.length : Int) > 0) = false from decide_eq_false (by omega)]
      exact good
  · refine ev_neg h2 ?_
    rw [if_neg (by omega)]
    exact good
theorem impl_MutexOk_l0 (h : Int) (l : List Int) (hb : l.length ≤ 17592186044416) : ∀ (d i : Nat), i + d = l.length → Ev (fun k => impl_MutexOk.l0 k l (l.length : Int) (i : Int) h l) (mOk d h l i) := by
  intro d
  induction d with
  | zero =>
    intro i hd
    refine ev_one fun k => ?_
    simp only [impl_MutexOk.l0]
    rw [if_neg (by omega)]
    rfl
  | succ d ih =>
    intro i hd
    have hr := rd_at l i (by omega)
    have e0 := contains_ev (l.take i) l[i] (by simp only [List.length_take]; omega)
    have hg : l.getD i 0 = l[i] := by simp [show i < l.length by omega]
    simp only [mOk, hg]
    refine Ev.step (f := fun k => if l[i] < 0 then some false else if l[i] = h then some false else (slices_Contains_int_int.f k (l.take i) l[i]).bind fun t => if t = true then some false else impl_MutexOk.l0 k l (l.length : Int) ((i + 1 : Nat) : Int) h l) (fun k => ?_) ?_
    · simp only [impl_MutexOk.l0]
      rw [if_pos (by omega), if_pos (by omega), if_pos (by omega), hr, w64 (n := (i : Int) + 1) (by omega) (by omega), if_pos (show (i : Int) ≤ (l.length : Int) by omega)]
      rfl
    · by_cases h1 : l[i] < 0
      · exact ev_pos h1 (ev_cast (Ev.now _) (by rw [if_pos h1]))
      refine ev_neg h1 ?_
      rw [if_neg h1]
      by_cases h2 : l[i] = h
      · exact ev_pos h2 (ev_cast (Ev.now _) (by rw [if_pos h2]))
      refine ev_neg h2 ?_
      rw [if_neg h2]
      refine Ev.bind e0 ?_
      by_cases h3 : l[i] ∈ l.take i
      · exact ev_pos (by simpa using h3) (ev_cast (Ev.now _) (by rw [if_pos h3]))
      · refine ev_neg (by simpa using h3) ?_
        rw [if_neg h3]
        exact ih (i + 1) (by omega)
theorem impl_MutexOk_ev (h : Int) (l : List Int) (hb : l.length ≤ 17592186044416) : Ev (fun k => impl_MutexOk.f k h l) (mutexOk h l) := by
  have e := impl_MutexOk_l0 h l hb l.length 0 (by omega)
  have bad : Ev (fun k => impl_MutexOk.j0 k true h l) false := by
    refine ev_one fun k => ?_
    simp only [impl_MutexOk.j0]
    rw [if_pos trivial]
  have good : Ev (fun k => impl_MutexOk.j0 k false h l) (mOk l.length h l 0) := by
    refine Ev.step (fun k => ?_) e
    simp only [impl_MutexOk.j0]
    rw [if_neg (by simp)]
    rfl
  simp only [impl_MutexOk.f]
  unfold mutexOk
  by_cases h1 : h < -1
  · exact ev_pos h1 (ev_cast bad (by rw [if_pos (Or.inl h1)]))
  refine ev_neg h1 ?_
  by_cases h2 : h = -1
  · refine ev_pos h2 ?_
    by_cases h3 : l.length > 0
    · rw [if_pos (Or.inr ⟨h2, h3⟩), show decide ((l.length : Int) > 0) = true from decide_eq_true (by omega)]
      exact bad
    · rw [if_neg (by omega), show decide ((l.length : Int) > 0) = false from decide_eq_false (by omega)]
      exact good
  · refine ev_neg h2 ?_
    rw [if_neg (by omega)]
    exact good
/-! A mutex's copies and its comparison. -/
theorem szMutex_eq (h : Int) (l : List Int) (hb : l.length ≤ 1048576) : laws_szMutex.f h l 1048576 = some (1048576 - (l.length : Int)) := by
  simp only [laws_szMutex.f, laws_szIntS.f]
  rw [w64 (by omega) (by omega), if_neg (by omega)]
  simp only [Option.bind_some]
  rw [if_neg (by omega)]
theorem szMutex_big (h : Int) (l : List Int) (h0 : l.length > 1048576) (hb : l.length ≤ 9223372036854775807) : laws_szMutex.f h l 1048576 = some (-1) := by
  simp only [laws_szMutex.f, laws_szIntS.f]
  rw [w64 (by omega) (by omega), if_pos (by omega)]
  simp
theorem toMutex_ev (h : Int) (l : List Int) (hb : l.length ≤ 17592186044416) : Ev (fun k => laws_toMutex.f k h l) (h, l) := by
  simp only [laws_toMutex.f]
  exact Ev.bind (toIntS_ev l hb) (Ev.now _)
theorem eqMutex_ev (h : Int) (l : List Int) (hb : l.length ≤ 17592186044416) : Ev (fun k => laws_eqMutex.f k h l h l) true := by
  simp only [laws_eqMutex.f]
  exact ev_pos (by trivial) (Ev.bind (eqIntS_ev l hb) (ev_pos (by trivial) (Ev.now _)))
theorem FnExactMutexOk : laws_FnExactMutexOk.Pure := by
  intro h l hw
  have hl' : l.length ≤ 9223372036854775807 := Nat.le_trans hw.2.1 (by decide)
  refine Ev.rounds (g := fun k => laws_FnExactMutexOk.f k h l) ?_
  simp only [laws_FnExactMutexOk.f]
  by_cases hb : l.length > 1048576
  · exact ev_call (szMutex_big h l hb hl') (ev_pos (by decide) (Ev.now _))
  refine ev_call (szMutex_eq h l (by omega)) (ev_neg (by omega) ?_)
  have hl : l.length ≤ 17592186044416 := by omega
  refine Ev.bind (toMutex_ev h l hl) (Ev.bind (spec_MutexOk_ev h l hl) (Ev.bind (toMutex_ev h l hl) (Ev.bind (impl_MutexOk_ev h l hl) ?_)))
  refine ev_neg (by simp) (Ev.bind (toMutex_ev h l hl) (Ev.bind (eqMutex_ev h l hl) (ev_pos (by trivial) (Ev.now _))))

end Go.Proofs.Ytonmkhbojmckhaa.Pure
