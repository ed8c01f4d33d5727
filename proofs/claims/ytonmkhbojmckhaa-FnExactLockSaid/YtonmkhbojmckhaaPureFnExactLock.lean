/- The program's Lock answers as the reference's, for every mutex whose list is not longer than the law's bound, and every number; no other condition. -/
import Derived.Test.YtonmkhbojmckhaaPFnExactLockx4
import Derived.Test.YtonmkhbojmckhaaCom
namespace Go.Proofs.Ytonmkhbojmckhaa.Pure
open Go.RowKit Go.Proofs.Ytonmkhbojmckhaa.PFnExactLock Go.Proofs.YtonmkhbojmckhaaW.PrintWords Go.Proofs.YtonmkhbojmckhaaW.PrintLast Go.Proofs.Ytonmkhbojmckhaa.Com

/-! Copies of whole numbers, and their comparison with themselves. -/
theorem toIntS_l0 (x0 : List Int) (hb : x0.length ≤ 4611686018427387904) : ∀ (d i : Nat) (x3 : List Int), i + d = x0.length → x3.length = x0.length →
    Ev (fun k => laws_toIntS.l0 k x0 x3 (i : Int)) (x3.take i ++ x0.drop i) := by
  intro d
  induction d with
  | zero =>
    intro i x3 hd h3
    refine ev_one fun k => ?_
    simp only [laws_toIntS.l0]
    rw [if_neg (by omega), List.take_of_length_le (by omega), List.drop_of_length_le (by omega), List.append_nil]
  | succ d ih =>
    intro i x3 hd h3
    have e := ih (i + 1) (x3.set i (rd x0 i)) (by omega) (by simpa using h3)
    have hs := set_mid x0 x3 i 0 (by omega) h3
    refine Ev.step (fun k => ?_) (ev_cast e (show _ = x3.take i ++ x0.drop i from hs))
    simp only [laws_toIntS.l0]
    rw [if_pos (by omega), if_pos (by omega), if_pos (by omega), w64 (by omega) (by omega)]
    rfl
theorem toIntS_ev (l : List Int) (hb : l.length ≤ 17592186044416) : Ev (fun k => laws_toIntS.f k l) l := by
  simp only [laws_toIntS.f]
  refine ev_pos (by omega) (ev_pos (by omega) ?_)
  exact ev_cast (toIntS_l0 l (by omega) l.length 0 _ (by omega) (by simp)) (by simp)
theorem eqIntS_l0 (x : List Int) (hb : x.length ≤ 4611686018427387904) : ∀ (d i : Nat), i + d = x.length → Ev (fun k => laws_eqIntS.l0 k x x (i : Int)) true := by
  intro d
  induction d with
  | zero =>
    intro i hd
    refine ev_one fun k => ?_
    simp only [laws_eqIntS.l0]
    rw [if_neg (by omega)]
  | succ d ih =>
    intro i hd
    refine Ev.step (fun k => ?_) (ih (i + 1) (by omega))
    simp only [laws_eqIntS.l0]
    rw [if_pos (by omega), if_pos (by omega), if_pos (by omega), if_pos trivial, w64 (by omega) (by omega)]
    rfl
theorem eqIntS_ev (l : List Int) (hb : l.length ≤ 17592186044416) : Ev (fun k => laws_eqIntS.f k l l) true := by
  simp only [laws_eqIntS.f]
  exact ev_pos (by trivial) (eqIntS_l0 l (by omega) l.length 0 (by omega))
/-! Whole numbers that are marked, and looked at again. -/
def marksI (k : Int) : Nat → List Int
  | 0 => []
  | n + 1 => k :: marksI (k + 1) n
theorem marksI_length : ∀ (n : Nat) (k : Int), (marksI k n).length = n
  | 0, _ => rfl
  | n + 1, k => by simp [marksI, marksI_length n]
theorem marksI_at : ∀ (n : Nat) (k : Int) (i : Nat) (h : i < (marksI k n).length), (marksI k n)[i] = k + i
  | 0, _, i, h => by simp [marksI] at h
  | n + 1, k, 0, _ => by simp [marksI]
  | n + 1, k, i + 1, h => by
    have := marksI_at n (k + 1) i (by simpa [marksI] using h)
    simp only [marksI, List.getElem_cons_succ, this]
    omega
theorem markIntS_l0 (k0 : Int) (n : Nat) (hn : n ≤ 4611686018427387904) (h0 : 0 ≤ k0) (h1 : k0 ≤ 4611686018427387903) : ∀ (d i : Nat) (x : List Int), i + d = n → x.length = n →
    Ev (fun k => laws_markIntS.l0 k x (k0 + i) (i : Int)) (k0 + n, x.take i ++ marksI (k0 + i) d) := by
  intro d
  induction d with
  | zero =>
    intro i x hd hx
    refine ev_one fun k => ?_
    simp only [laws_markIntS.l0]
    rw [if_neg (by omega), List.take_of_length_le (by omega)]
    have : i = n := by omega
    subst this
    simp [marksI]
  | succ d ih =>
    intro i x hd hx
    have e := ih (i + 1) (x.set i (k0 + (i : Int))) (by omega) (by simpa using hx)
    refine Ev.step (fun k => ?_) (ev_cast e ?_)
    · simp only [laws_markIntS.l0]
      rw [if_pos (by omega), if_pos (by omega), w64 (n := k0 + (i : Int) + 1) (by omega) (by omega), w64 (n := (i : Int) + 1) (by omega) (by omega)]
      have : (k0 + ((i + 1 : Nat) : Int)) = k0 + (i : Int) + 1 := by omega
      rw [this]
      rfl
    · congr 1
      have h2 : (x.set i (k0 + (i : Int))).take (i + 1) = x.take i ++ [k0 + (i : Int)] := by
        rw [List.take_add_one, List.take_set_of_le (Nat.le_refl i), List.getElem?_set_self (by omega)]
        rfl
      rw [h2, List.append_assoc]
      congr 1
      have : (k0 + ((i + 1 : Nat) : Int)) = k0 + (i : Int) + 1 := by omega
      rw [this]
      rfl
theorem markIntS_ev (l : List Int) (k0 : Int) (hn : l.length ≤ 281474976710656) (h0 : 0 ≤ k0) (h1 : k0 ≤ 4611686018427387903) : Ev (fun k => laws_markIntS.f k l k0) (k0 + l.length, marksI k0 l.length) := by
  simp only [laws_markIntS.f]
  have e := markIntS_l0 k0 l.length (by omega) h0 h1 l.length 0 l (by omega) rfl
  simpa using e
theorem heldIntS_l0 (k0 : Int) (n : Nat) (hn : n ≤ 4611686018427387904) (h0 : 0 ≤ k0) (h1 : k0 ≤ 4611686018427387903) : ∀ (d i : Nat), i + d = n →
    Ev (fun k => laws_heldIntS.l0 k (marksI k0 n) (k0 + i) (i : Int)) (k0 + n) := by
  intro d
  have hl := marksI_length n k0
  induction d with
  | zero =>
    intro i hd
    refine ev_one fun k => ?_
    simp only [laws_heldIntS.l0]
    rw [if_neg (by omega)]
    have : i = n := by omega
    subst this
    rfl
  | succ d ih =>
    intro i hd
    refine Ev.step (fun k => ?_) (ih (i + 1) (by omega))
    simp only [laws_heldIntS.l0]
    have hr : rd (marksI k0 n) i = k0 + (i : Int) := by rw [rd_at _ i (by omega), marksI_at]
    rw [if_pos (by omega), if_pos (by omega), if_pos hr, w64 (n := k0 + (i : Int) + 1) (by omega) (by omega), w64 (n := (i : Int) + 1) (by omega) (by omega)]
    have : (k0 + ((i + 1 : Nat) : Int)) = k0 + (i : Int) + 1 := by omega
    rw [this]
    rfl
theorem heldIntS_ev (n : Nat) (k0 : Int) (hn : n ≤ 281474976710656) (h0 : 0 ≤ k0) (h1 : k0 ≤ 4611686018427387903) : Ev (fun k => laws_heldIntS.f k (marksI k0 n) k0) (k0 + n) := by
  simp only [laws_heldIntS.f]
  have e := heldIntS_l0 k0 n (by omega) h0 h1 n 0 (by omega)
  simpa using e
/-! Is a number in a list: the reference's own loop, and the library's. -/
theorem l07Has_l0 (a : Int) (l : List Int) (hb : l.length ≤ 4611686018427387904) : ∀ (d i : Nat), i + d = l.length → Ev (fun k => spec_l07Has.l0 k a l (l.length : Int) (i : Int)) (decide (a ∈ l.drop i)) := by
  intro d
  induction d with
  | zero =>
    intro i hd
    refine ev_one fun k => ?_
    simp only [spec_l07Has.l0]
    rw [if_neg (by omega), List.drop_of_length_le (by omega)]
    simp
  | succ d ih =>
    intro i hd
    have hr := rd_at l i (by omega)
    have hc := List.drop_eq_getElem_cons (l := l) (i := i) (by omega)
    by_cases h : l[i] = a
    · refine ev_one fun k => ?_
      simp only [spec_l07Has.l0]
      rw [if_pos (by omega), if_pos (by omega), if_pos (by omega), hr, if_pos h, hc, ← h]
      simp only [List.mem_cons, true_or, decide_true]
    · refine Ev.step (fun k => ?_) (ev_cast (ih (i + 1) (by omega)) ?_)
      · simp only [spec_l07Has.l0]
        rw [if_pos (by omega), if_pos (by omega), if_pos (by omega), hr, if_neg h, w64 (by omega) (by omega)]
        rfl
      · have h' : ¬ a = l[i] := fun e => h e.symm
        rw [hc]
        simp only [List.mem_cons, h', false_or]
theorem l07Has_ev (l : List Int) (a : Int) (hb : l.length ≤ 17592186044416) : Ev (fun k => spec_l07Has.f k l a) (decide (a ∈ l)) := by
  simp only [spec_l07Has.f]
  simpa using l07Has_l0 a l (by omega) l.length 0 (by omega)
theorem index_l0 (a : Int) (l : List Int) (hb : l.length ≤ 4611686018427387904) : ∀ (d i : Nat), i + d = l.length → ∃ r, Ev (fun k => slices_Index_int_int.l0 k l a (l.length : Int) (i : Int)) r ∧ decide (r ≥ 0) = decide (a ∈ l.drop i) := by
  intro d
  induction d with
  | zero =>
    intro i hd
    refine ⟨-1, ev_one fun k => ?_, ?_⟩
    · simp only [slices_Index_int_int.l0]
      rw [if_neg (by omega)]
    · rw [List.drop_of_length_le (by omega)]
      simp
  | succ d ih =>
    intro i hd
    have hr := rd_at l i (by omega)
    have hc := List.drop_eq_getElem_cons (l := l) (i := i) (by omega)
    by_cases h : a = l[i]
    · refine ⟨i, ev_one fun k => ?_, ?_⟩
      · simp only [slices_Index_int_int.l0]
        rw [if_pos (by omega), if_pos (by omega), if_pos (by omega), hr, if_pos h]
      · rw [hc, ← h]
        simp
    · obtain ⟨r, e, he⟩ := ih (i + 1) (by omega)
      refine ⟨r, Ev.step (fun k => ?_) e, ?_⟩
      · simp only [slices_Index_int_int.l0]
        rw [if_pos (by omega), if_pos (by omega), if_pos (by omega), hr, if_neg h, w64 (by omega) (by omega)]
        rfl
      · rw [hc, he]
        simp only [List.mem_cons, h, false_or]
theorem contains_ev (l : List Int) (a : Int) (hb : l.length ≤ 17592186044416) : Ev (fun k => slices_Contains_int_int.f k l a) (decide (a ∈ l)) := by
  simp only [slices_Contains_int_int.f, slices_Index_int_int.f]
  obtain ⟨r, e, he⟩ := index_l0 a l (by omega) l.length 0 (by omega)
  refine Ev.bind e (ev_cast (Ev.now _) ?_)
  simpa using he
/-! When a mutex is right. -/
def mOk : Nat → Int → List Int → Nat → Bool
  | 0, _, _, _ => true
  | d + 1, h, l, i => if l.getD i 0 < 0 then false else if l.getD i 0 = h then false else if l.getD i 0 ∈ l.take i then false else mOk d h l (i + 1)
def mutexOk (h : Int) (l : List Int) : Bool := if h < -1 ∨ (h = -1 ∧ l.length > 0) then false else mOk l.length h l 0
theorem spec_MutexOk_l0 (h : Int) (l : List Int) (hb : l.length ≤ 17592186044416) : ∀ (d i : Nat), i + d = l.length → Ev (fun k => spec_MutexOk.l0 k l (l.length : Int) (i : Int) h l) (mOk d h l i) := by
  intro d
  induction d with
  | zero =>
    intro i hd
    refine ev_one fun k => ?_
    simp only [spec_MutexOk.l0]
    rw [if_neg (by omega)]
    rfl
  | succ d ih =>
    intro i hd
    have hr := rd_at l i (by omega)
    have e0 := l07Has_ev (l.take i) l[i] (by simp only [List.length_take]; omega)
    have hg : l.getD i 0 = l[i] := by simp [show i < l.length by omega]
    simp only [mOk, hg]
    refine Ev.step (f := fun k => if l[i] < 0 then some false else if l[i] = h then some false else (spec_l07Has.f k (l.take i) l[i]).bind fun t => if t = true then some false else spec_MutexOk.l0 k l (l.length : Int) ((i + 1 : Nat) : Int) h l) (fun k => ?_) ?_
    · simp only [spec_MutexOk.l0]
      rw [if_pos (by omega), if_pos (by omega), if_pos (by omega), hr, w64 (n := (i : Int) + 1) (by omega) (by omega), if_pos (show (i : Int) ≤ (l.length : Int) by omega)]
      rfl
    · by_cases h1 : l[i] < 0
      · exact ev_pos h1 (ev_cast (Ev.now _) (by rw [if_pos h1]))
      refine ev_neg h1 ?_
      rw [if_neg h1]
      by_cases h2 : l[i] = h
      · exact ev_pos h2 (ev_cast (Ev.now _) (by rw [if_pos h2]))
      refine ev_neg h2 ?_
      rw [if_neg h2]
      refine Ev.bind e0 ?_
      by_cases h3 : l[i] ∈ l.take i
      · exact ev_pos (by simpa using h3) (ev_cast (Ev.now _) (by rw [if_pos h3]))
      · refine ev_neg (by simpa using h3) ?_
        rw [if_neg h3]
        exact ih (i + 1) (by omega)
theorem spec_MutexOk_ev (h : Int) (l : List Int) (hb : l.length ≤ 17592186044416) : Ev (fun k => spec_MutexOk.f k h l) (mutexOk h l) := by
  have e := spec_MutexOk_l0 h l hb l.length 0 (by omega)
  have bad : Ev (fun k => spec_MutexOk.j0 k true h l) false := by
    refine ev_one fun k => ?_
    simp only [spec_MutexOk.j0]
    rw [if_pos trivial]
  have good : Ev (fun k => spec_MutexOk.j0 k false h l) (mOk l.length h l 0) := by
    refine Ev.step (fun k => ?_) e
    simp only [spec_MutexOk.j0]
    rw [if_neg (by simp)]
    rfl
  simp only [spec_MutexOk.f]
  unfold mutexOk
  by_cases h1 : h < -1
  · exact ev_pos h1 (ev_cast bad (by rw [if_pos (Or.inl h1)]))
  refine ev_neg h1 ?_
  by_cases h2 : h = -1
  · refine ev_pos h2 ?_
    by_cases h3 : l.length > 0
    · rw [if_pos (Or.inr ⟨h2, h3⟩), show decide ((l.length : Int) > 0) = true from decide_eq_true (by omega)]
      exact bad
    · rw [if_neg (by omega), show decide ((l.length : Int) > 0) = false from decide_eq_false (by omega)]
      exact good
  · refine ev_neg h2 ?_
    rw [if_neg (by omega)]
    exact good
theorem impl_MutexOk_l0 (h : Int) (l : List Int) (hb : l.length ≤ 17592186044416) : ∀ (d i : Nat), i + d = l.length → Ev (fun k => impl_MutexOk.l0 k l (l.length : Int) (i : Int) h l) (mOk d h l i) := by
  intro d
  induction d with
  | zero =>
    intro i hd
    refine ev_one fun k => ?_
    simp only [impl_MutexOk.l0]
    rw [if_neg (by omega)]
    rfl
  | succ d ih =>
    intro i hd
    have hr := rd_at l i (by omega)
    have e0 := contains_ev (l.take i) l[i] (by simp only [List.length_take]; omega)
    have hg : l.getD i 0 = l[i] := by simp [show i < l.length by omega]
    simp only [mOk, hg]
    refine Ev.step (f := fun k => if l[i] < 0 then some false else if l[i] = h then some false else (slices_Contains_int_int.f k (l.take i) l[i]).bind fun t => if t = true then some false else impl_MutexOk.l0 k l (l.length : Int) ((i + 1 : Nat) : Int) h l) (fun k => ?_) ?_
    · simp only [impl_MutexOk.l0]
      rw [if_pos (by omega), if_pos (by omega), if_pos (by omega), hr, w64 (n := (i : Int) + 1) (by omega) (by omega), if_pos (show (i : Int) ≤ (l.length : Int) by omega)]
      rfl
    · by_cases h1 : l[i] < 0
      · exact ev_pos h1 (ev_cast (Ev.now _) (by rw [if_pos h1]))
      refine ev_neg h1 ?_
      rw [if_neg h1]
      by_cases h2 : l[i] = h
      · exact ev_pos h2 (ev_cast (Ev.now _) (by rw [if_pos h2]))
      refine ev_neg h2 ?_
      rw [if_neg h2]
      refine Ev.bind e0 ?_
      by_cases h3 : l[i] ∈ l.take i
      · exact ev_pos (by simpa using h3) (ev_cast (Ev.now _) (by rw [if_pos h3]))
      · refine ev_neg (by simpa using h3) ?_
        rw [if_neg h3]
        exact ih (i + 1) (by omega)
theorem impl_MutexOk_ev (h : Int) (l : List Int) (hb : l.length ≤ 17592186044416) : Ev (fun k => impl_MutexOk.f k h l) (mutexOk h l) := by
  have e := impl_MutexOk_l0 h l hb l.length 0 (by omega)
  have bad : Ev (fun k => impl_MutexOk.j0 k true h l) false := by
    refine ev_one fun k => ?_
    simp only [impl_MutexOk.j0]
    rw [if_pos trivial]
  have good : Ev (fun k => impl_MutexOk.j0 k false h l) (mOk l.length h l 0) := by
    refine Ev.step (fun k => ?_) e
    simp only [impl_MutexOk.j0]
    rw [if_neg (by simp)]
    rfl
  simp only [impl_MutexOk.f]
  unfold mutexOk
  by_cases h1 : h < -1
  · exact ev_pos h1 (ev_cast bad (by rw [if_pos (Or.inl h1)]))
  refine ev_neg h1 ?_
  by_cases h2 : h = -1
  · refine ev_pos h2 ?_
    by_cases h3 : l.length > 0
    · rw [if_pos (Or.inr ⟨h2, h3⟩), show decide ((l.length : Int) > 0) = true from decide_eq_true (by omega)]
      exact bad
    · rw [if_neg (by omega), show decide ((l.length : Int) > 0) = false from decide_eq_false (by omega)]
      exact good
  · refine ev_neg h2 ?_
    rw [if_neg (by omega)]
    exact good
/-! A mutex's copies and its comparison. -/
theorem szMutex_eq (h : Int) (l : List Int) (hb : l.length ≤ 1048576) : laws_szMutex.f h l 1048576 = some (1048576 - (l.length : Int)) := by
  simp only [laws_szMutex.f, laws_szIntS.f]
  rw [w64 (by omega) (by omega), if_neg (by omega)]
  simp only [Option.bind_some]
  rw [if_neg (by omega)]
theorem szMutex_big (h : Int) (l : List Int) (h0 : l.length > 1048576) (hb : l.length ≤ 9223372036854775807) : laws_szMutex.f h l 1048576 = some (-1) := by
  simp only [laws_szMutex.f, laws_szIntS.f]
  rw [w64 (by omega) (by omega), if_pos (by omega)]
  simp
theorem toMutex_ev (h : Int) (l : List Int) (hb : l.length ≤ 17592186044416) : Ev (fun k => laws_toMutex.f k h l) (h, l) := by
  simp only [laws_toMutex.f]
  exact Ev.bind (toIntS_ev l hb) (Ev.now _)
theorem eqMutex_ev (h : Int) (l : List Int) (hb : l.length ≤ 17592186044416) : Ev (fun k => laws_eqMutex.f k h l h l) true := by
  simp only [laws_eqMutex.f]
  exact ev_pos (by trivial) (Ev.bind (eqIntS_ev l hb) (ev_pos (by trivial) (Ev.now _)))
theorem markMutex_ev (h : Int) (l : List Int) (hb : l.length ≤ 281474976710656) : Ev (fun k => laws_markMutex.f k h l 1) (1 + l.length, marksI 1 l.length) := by
  simp only [laws_markMutex.f]
  exact Ev.bind (markIntS_ev l 1 hb (by decide) (by decide)) (Ev.now _)
theorem heldMutex_ev (h : Int) (n : Nat) (hb : n ≤ 281474976710656) : Ev (fun k => laws_heldMutex.f k h (marksI 1 n) 1) (1 + n) := by
  simp only [laws_heldMutex.f]
  exact Ev.bind (heldIntS_ev n 1 hb (by decide) (by decide)) (ev_neg (by omega) (Ev.now _))
/-! What a lock gives. -/
def lock (h : Int) (l : List Int) (a : Int) : Int × List Int × Bool × Bool :=
  if mutexOk h l = false ∨ a < 0 ∨ a ∈ l then (0, [], false, false) else if h = a then (h, l, false, false) else if h = -1 then (a, l, true, true) else (h, l ++ [a], false, true)
theorem lock_length (h : Int) (l : List Int) (a : Int) : (lock h l a).2.1.length ≤ l.length + 1 := by
  unfold lock
  repeat' split
  all_goals simp
theorem l07Copy_eq (h : Int) (l : List Int) (hb : l.length ≤ 1048577) : spec_l07Copy.f h l = some (h, l) := by
  simp only [spec_l07Copy.f, Option.bind_some, List.length_nil, List.nil_append]
  rw [if_pos (by omega)]
theorem cloneI_eq (l : List Int) (hb : l.length ≤ 1048577) : slices_Clone_int_int.f l = some l := by
  simp only [slices_Clone_int_int.f]
  rw [if_pos (by omega)]
theorem spec_Lock_ev (h : Int) (l : List Int) (a : Int) (hb : l.length ≤ 1048576) : Ev (fun k => spec_Lock.f k h l a) (lock h l a) := by
  simp only [spec_Lock.f]
  unfold lock
  have bad : Ev (fun k => spec_Lock.j0 k a true h l) (0, [], false, false) := by
    refine ev_one fun k => ?_
    simp only [spec_Lock.j0]
    rw [if_pos trivial]
  refine Ev.bind (spec_MutexOk_ev h l (by omega)) ?_
  cases hm : mutexOk h l with
  | false => exact ev_neg (by simp) (ev_cast bad (by rw [if_pos (Or.inl rfl)]))
  | true =>
    refine ev_pos (by trivial) ?_
    by_cases h1 : a < 0
    · exact ev_pos h1 (ev_cast bad (by rw [if_pos (Or.inr (Or.inl h1))]))
    refine ev_neg h1 (Ev.bind (l07Has_ev l a (by omega)) ?_)
    by_cases h2 : a ∈ l
    · rw [if_pos (Or.inr (Or.inr h2)), show decide (a ∈ l) = true from decide_eq_true h2]
      exact bad
    rw [if_neg (by simp [h1, h2]), show decide (a ∈ l) = false from decide_eq_false h2]
    refine ev_one fun k => ?_
    simp only [spec_Lock.j0, l07Copy_eq h l (by omega)]
    rw [if_neg (by simp)]
    simp only [Option.bind_some]
    by_cases h3 : h = a
    · rw [if_pos h3, if_pos h3]
    rw [if_neg h3, if_neg h3]
    by_cases h4 : h = -1
    · rw [if_pos h4, if_pos h4]
    rw [if_neg h4, if_neg h4, if_pos (by omega)]
theorem impl_Lock_ev (h : Int) (l : List Int) (a : Int) (hb : l.length ≤ 1048576) : Ev (fun k => impl_Lock.f k h l a) (lock h l a) := by
  simp only [impl_Lock.f]
  unfold lock
  have bad : Ev (fun k => impl_Lock.j0 k a true h l) (0, [], false, false) := by
    refine ev_one fun k => ?_
    simp only [impl_Lock.j0]
    rw [if_pos trivial]
  refine Ev.bind (impl_MutexOk_ev h l (by omega)) ?_
  cases hm : mutexOk h l with
  | false => exact ev_neg (by simp) (ev_cast bad (by rw [if_pos (Or.inl rfl)]))
  | true =>
    refine ev_pos (by trivial) ?_
    by_cases h1 : a < 0
    · exact ev_pos h1 (ev_cast bad (by rw [if_pos (Or.inr (Or.inl h1))]))
    refine ev_neg h1 (Ev.bind (contains_ev l a (by omega)) ?_)
    by_cases h2 : a ∈ l
    · rw [if_pos (Or.inr (Or.inr h2)), show decide (a ∈ l) = true from decide_eq_true h2]
      exact bad
    rw [if_neg (by simp [h1, h2]), show decide (a ∈ l) = false from decide_eq_false h2]
    refine ev_one fun k => ?_
    simp only [impl_Lock.j0, cloneI_eq l (by omega)]
    rw [if_neg (by simp)]
    simp only [Option.bind_some]
    by_cases h3 : h = a
    · rw [if_pos h3, if_pos h3]
    rw [if_neg h3, if_neg h3]
    by_cases h4 : h = -1
    · rw [if_pos h4, if_pos h4]
    rw [if_neg h4, if_neg h4, if_pos (by omega)]
theorem FnExactLock : laws_FnExactLock.Pure := by
  intro h l a hw _
  have hl' : l.length ≤ 9223372036854775807 := Nat.le_trans hw.2.1 (by decide)
  refine Ev.rounds (g := fun k => laws_FnExactLock.f k h l a) ?_
  simp only [laws_FnExactLock.f]
  by_cases hb : l.length > 1048576
  · exact ev_call (szMutex_big h l hb hl') (ev_pos (by decide) (Ev.now _))
  refine ev_call (szMutex_eq h l (by omega)) (ev_neg (by omega) ?_)
  have hl : l.length ≤ 17592186044416 := by omega
  have hs := spec_Lock_ev h l a (by omega)
  have hi := impl_Lock_ev h l a (by omega)
  have hn := lock_length h l a
  generalize lock h l a = r at hs hi hn
  refine Ev.bind (toMutex_ev h l hl) (Ev.bind hs (Ev.bind (toMutex_ev h l hl) (Ev.bind hi ?_)))
  refine Ev.bind (eqMutex_ev r.1 r.2.1 (by omega)) (ev_pos (by trivial) (ev_neg (by simp) (ev_neg (by simp) ?_)))
  refine Ev.bind (toMutex_ev h l hl) (Ev.bind (eqMutex_ev h l hl) (ev_pos (by trivial) ?_))
  refine Ev.bind (markMutex_ev h l (by omega)) (ev_neg (by show ¬ (1 + (l.length : Int)) < 0; omega) ?_)
  refine Ev.bind (eqMutex_ev r.1 r.2.1 (by omega)) (ev_pos (by trivial) ?_)
  refine Ev.bind (markMutex_ev r.1 r.2.1 (by omega)) (Ev.bind (heldMutex_ev r.1 r.2.1.length (by omega)) (ev_neg (by omega) (ev_pos (by trivial) ?_)))
  refine Ev.bind (toMutex_ev h l hl) (Ev.bind hi ?_)
  refine Ev.bind (eqMutex_ev r.1 r.2.1 (by omega)) (ev_pos (by trivial) (ev_neg (by simp) (ev_neg (by simp) ?_)))
  exact Ev.bind (heldMutex_ev r.1 r.2.1.length (by omega)) (ev_neg (by omega) (ev_pos (by trivial) (Ev.now _)))

end Go.Proofs.Ytonmkhbojmckhaa.Pure
