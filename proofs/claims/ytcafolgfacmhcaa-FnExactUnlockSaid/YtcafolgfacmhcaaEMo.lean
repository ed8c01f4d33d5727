/- Contracts of functions of this seat's program. -/
import Derived.Test.YtcafolgfacmhcaaETy
import Derived.Test.YtcafolgfacmhcaaEM
namespace Go.Proofs.Ytcafolgfacmhcaa.E
set_option linter.unusedVariables false
theorem contains_all {l : List Int} {n : Int} {i : Nat} (hi : ¬ i < l.length) (h : ∀ j (hj : j < l.length), j < i → (l[j] == n) = false) : l.contains n = false := by
  cases hc : l.contains n with
  | false => rfl
  | true =>
    rw [List.contains_iff_mem] at hc
    obtain ⟨j, hj, rfl⟩ := List.mem_iff_getElem.1 hc
    have := h j hj (by omega)
    simp at this
theorem s_l07Has (l : List Int) (n : Int) (hl : l.length ≤ bound) : Spec Try.prog 73 [.ro (.sl 1 (l.map T.int)), .ro (T.int n)] [T.bool (l.contains n)] := by
  have hl' : l.length ≤ 1073741824 := hl
  refine fn Try.func73 ?_
  refine loopR (fun i => ⟨17, [(1, .int n), (7, .c (.ro 1 (l.map T.int))), (8, .int l.length), (9, .int i)], []⟩) l.length (fun i => ∀ j (hj : j < l.length), j < i → (l[j] == n) = false) (fun j _ h => absurd h (by omega)) (wk rfl ⟨rfl, rfl, lenm, rfl, trivial⟩ trivial) ?_
  intro i hi hI
  refine brD (fun h => ?_) (fun h => ?_)
  · have h : i < l.length := by simpa using h
    refine ⟨nn i, T.int l[i], atm h, ?_⟩
    refine brI (fun h1 => ?_) (fun h1 => ?_)
    · refine tbt ?_
      rw [List.contains_iff_mem]
      have : l[i] = n := by simpa using h1
      rw [← this]; exact List.getElem_mem h
    · refine nxtR h (fun j hj h2 => ?_) (wk rfl ⟨rfl, rfl, rfl, up1 h hl', trivial⟩ trivial)
      by_cases h3 : j = i
      · subst h3; exact h1
      · exact hI j hj (by omega)
  · exact tbf (contains_all (by omega) hI)
def idxN (l : List Int) (n : Int) : Int := match l.findIdx? (fun x => n == x) with
  | some i => i
  | none => -1
theorem idxN_ge {l : List Int} {n : Int} : decide (idxN l n ≥ 0) = l.contains n := by
  unfold idxN
  cases h1 : l.findIdx? (fun x => n == x) with
  | some i =>
    rw [List.findIdx?_eq_some_iff_getElem] at h1
    obtain ⟨hi, h2, _⟩ := h1
    have h3 : n = l[i] := by simpa using h2
    have : l.contains n = true := by rw [List.contains_iff_mem, h3]; exact List.getElem_mem hi
    rw [this]; simp
  | none =>
    rw [List.findIdx?_eq_none_iff] at h1
    have : l.contains n = false := by
      cases hc : l.contains n with
      | false => rfl
      | true =>
        rw [List.contains_iff_mem] at hc
        have := h1 n hc
        simp at this
    rw [this]; simp
theorem s_Index (l : List Int) (n : Int) (hl : l.length ≤ bound) : Spec Try.prog 78 [.ro (.sl 1 (l.map T.int)), .ro (T.int n)] [T.int (idxN l n)] := by
  have hl' : l.length ≤ 1073741824 := hl
  refine fn Try.func78 ?_
  refine loopR (fun i => ⟨19, [(0, .c (.ro 1 (l.map T.int))), (1, .int n), (7, .int l.length), (8, .int i)], []⟩) l.length (fun i => ∀ j (hj : j < l.length), j < i → (n == l[j]) = false) (fun j _ h => absurd h (by omega)) (wk rfl ⟨rfl, rfl, lenm, rfl, trivial⟩ trivial) ?_
  intro i hi hI
  refine brD (fun h => ?_) (fun h => ?_)
  · have h : i < l.length := by simpa using h
    refine ⟨nn i, T.int l[i], atm h, ?_⟩
    refine brI (fun h1 => ?_) (fun h1 => ?_)
    · refine ti ?_
      have : l.findIdx? (fun x => n == x) = some i := by
        rw [List.findIdx?_eq_some_iff_getElem]
        exact ⟨h, h1, fun j hj => by simp [hI j (by omega) hj]⟩
      simp [idxN, this]
    · refine nxtR h (fun j hj h2 => ?_) (wk rfl ⟨rfl, rfl, rfl, up1 h hl', trivial⟩ trivial)
      by_cases h3 : j = i
      · subst h3; exact h1
      · exact hI j hj (by omega)
  · refine ti ?_
    have : l.findIdx? (fun x => n == x) = none := by
      rw [List.findIdx?_eq_none_iff]
      intro x hx
      obtain ⟨j, hj, rfl⟩ := List.mem_iff_getElem.1 hx
      exact hI j hj (by omega)
    simp [idxN, this]
theorem s_Contains (l : List Int) (n : Int) (hl : l.length ≤ bound) : Spec Try.prog 74 [.ro (.sl 1 (l.map T.int)), .ro (T.int n)] [T.bool (l.contains n)] := by
  refine fn Try.func74 ?_
  refine ⟨_, s_Index l n hl, ?_⟩
  intro _
  exact tb idxN_ge
def mxAt (o : Int) (q : List Int) (i : Nat) : Bool := match q[i]? with
  | some x => !decide (x < 0) && !(x == o) && !(q.take i).contains x
  | none => true
def mxOk (o : Int) (q : List Int) : Bool := !decide (o < -1) && !(o == -1 && decide ((q.length : Int) > 0)) && (List.range q.length).all (mxAt o q)
theorem mx_all {o : Int} {q : List Int} {i : Nat} (hi : ¬ i < q.length) (h : ∀ j, j < i → j < q.length → mxAt o q j = true) : (List.range q.length).all (mxAt o q) = true := by
  rw [List.all_eq_true]
  intro j hj
  have := List.mem_range.1 hj
  exact h j (by omega) this
theorem mx_no {o : Int} {q : List Int} {i : Nat} (hi : i < q.length) (h : mxAt o q i = false) : (List.range q.length).all (mxAt o q) = false := by
  rw [List.all_eq_false]
  exact ⟨i, List.mem_range.2 hi, by simp [h]⟩
theorem s_MutexOk (x : Y_Mutex) (h : ok_Mutex x) : Spec Try.prog 50 [.ro (t_Mutex x)] [T.bool (mxOk x.1 x.2)] := by
  obtain ⟨o, q⟩ := x
  have hl : q.length ≤ bound := h
  have hl' : q.length ≤ 1073741824 := hl
  refine fn Try.func50 ?_
  intro b
  repeat' (first | (first | refine ⟨rfl, ?_⟩ | refine brT ?_ | refine brF ?_ | intro _) | refine brI (fun _ => ?_) (fun _ => ?_))
  all_goals try exact tbf (by simp_all [mxOk])
  all_goals
    refine loopR (fun i => ⟨44, [(1, .c (.bx 2000 b 0)), (20, .c (.ro 1 (q.map T.int))), (21, .int q.length), (22, .int i)], [(2000, .box b [.v (.int .i64 o), .ro 1 (q.map T.int)])]⟩) q.length (fun i => ∀ j, j < i → j < q.length → mxAt o q j = true) (fun j h => absurd h (by omega)) (wk rfl ⟨rfl, rfl, lenm, rfl, trivial⟩ ⟨rfl, trivial⟩) ?_
    intro i hi hI
    refine brD (fun h => ?_) (fun h => ?_)
    · have h : i < q.length := by simpa using h
      have hat : q[i]? = some q[i] := List.getElem?_eq_getElem h
      refine ⟨nn i, T.int q[i], atm h, ?_⟩
      repeat' (first | (first | refine ⟨rfl, ?_⟩ | refine brT ?_ | refine brF ?_ | intro _) | refine brI (fun _ => ?_) (fun _ => ?_))
      all_goals try exact tbf (by have := mx_no (o := o) h (by simp_all [mxAt]); simp [mxOk, this])
      all_goals
        refine ⟨nn i, Nat.zero_le _, by simp; omega, ?_⟩
        repeat (first | refine ⟨rfl, ?_⟩ | refine brT ?_ | refine brF ?_ | intro _)
        have hs := s_l07Has (q.take i) q[i] (by rw [List.length_take]; omega)
        rw [List.map_take] at hs
        refine ⟨_, hs, ?_⟩
        repeat' (first | (first | refine ⟨rfl, ?_⟩ | refine brT ?_ | refine brF ?_ | intro _) | refine brI (fun _ => ?_) (fun _ => ?_))
        all_goals first
          | exact tbf (by have := mx_no (o := o) h (by simp_all [mxAt]); simp [mxOk, this])
          | refine nxtR h (fun j hj h2 => ?_) (wk rfl ⟨rfl, rfl, rfl, up1 h hl', trivial⟩ ⟨rfl, trivial⟩)
        all_goals
          by_cases h3 : j = i
          · subst h3; simp_all [mxAt]
          · exact hI j (by omega) h2
    · exact tbt (by have := mx_all (o := o) (by omega) hI; simp_all [mxOk])
theorem i_MutexOk (x : Y_Mutex) (h : ok_Mutex x) : Spec Try.prog 53 [.ro (t_Mutex x)] [T.bool (mxOk x.1 x.2)] := by
  obtain ⟨o, q⟩ := x
  have hl : q.length ≤ bound := h
  have hl' : q.length ≤ 1073741824 := hl
  refine fn Try.func53 ?_
  intro b
  repeat' (first | (first | refine ⟨rfl, ?_⟩ | refine brT ?_ | refine brF ?_ | intro _) | refine brI (fun _ => ?_) (fun _ => ?_))
  all_goals try exact tbf (by simp_all [mxOk])
  all_goals
    refine loopR (fun i => ⟨44, [(1, .c (.bx 2000 b 0)), (20, .c (.ro 1 (q.map T.int))), (21, .int q.length), (22, .int i)], [(2000, .box b [.v (.int .i64 o), .ro 1 (q.map T.int)])]⟩) q.length (fun i => ∀ j, j < i → j < q.length → mxAt o q j = true) (fun j h => absurd h (by omega)) (wk rfl ⟨rfl, rfl, lenm, rfl, trivial⟩ ⟨rfl, trivial⟩) ?_
    intro i hi hI
    refine brD (fun h => ?_) (fun h => ?_)
    · have h : i < q.length := by simpa using h
      have hat : q[i]? = some q[i] := List.getElem?_eq_getElem h
      refine ⟨nn i, T.int q[i], atm h, ?_⟩
      repeat' (first | (first | refine ⟨rfl, ?_⟩ | refine brT ?_ | refine brF ?_ | intro _) | refine brI (fun _ => ?_) (fun _ => ?_))
      all_goals try exact tbf (by have := mx_no (o := o) h (by simp_all [mxAt]); simp [mxOk, this])
      all_goals
        refine ⟨nn i, Nat.zero_le _, by simp; omega, ?_⟩
        repeat (first | refine ⟨rfl, ?_⟩ | refine brT ?_ | refine brF ?_ | intro _)
        have hs := s_Contains (q.take i) q[i] (by rw [List.length_take]; omega)
        rw [List.map_take] at hs
        refine ⟨_, hs, ?_⟩
        repeat' (first | (first | refine ⟨rfl, ?_⟩ | refine brT ?_ | refine brF ?_ | intro _) | refine brI (fun _ => ?_) (fun _ => ?_))
        all_goals first
          | exact tbf (by have := mx_no (o := o) h (by simp_all [mxAt]); simp [mxOk, this])
          | refine nxtR h (fun j hj h2 => ?_) (wk rfl ⟨rfl, rfl, rfl, up1 h hl', trivial⟩ ⟨rfl, trivial⟩)
        all_goals
          by_cases h3 : j = i
          · subst h3; simp_all [mxAt]
          · exact hI j (by omega) h2
    · exact tbt (by have := mx_all (o := o) (by omega) hI; simp_all [mxOk])


end Go.Proofs.Ytcafolgfacmhcaa.E
