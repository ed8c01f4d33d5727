/- Contracts of functions of this seat's program. -/
import Derived.Test.YtcafolgfacmhcaaETy
import Derived.Test.YtcafolgfacmhcaaEGo
namespace Go.Proofs.Ytcafolgfacmhcaa.E
set_option linter.unusedVariables false
def isV (n : Int) : Bool := decide (n ≥ 0) && decide (n ≤ 999)
theorem s_l03Val (n : Int) : Spec Try.prog 59 [.ro (T.int n)] [T.bool (isV n)] := by
  refine fn Try.func59 ?_
  refine brI (fun h => ?_) (fun h => ?_)
  · repeat (first | refine brT ?_ | refine brF ?_)
    show _ = _
    simp only [isV, h, Bool.true_and]; rfl
  · repeat (first | refine brT ?_ | refine brF ?_)
    show _ = _
    simp only [isV, h, Bool.false_and]; rfl
theorem s_isVal (n : Int) : Spec Try.prog 62 [.ro (T.int n)] [T.bool (isV n)] := by
  refine fn Try.func62 ?_
  refine brI (fun h => ?_) (fun h => ?_)
  · repeat (first | refine brT ?_ | refine brF ?_)
    show _ = _
    simp only [isV, h, Bool.true_and]; rfl
  · repeat (first | refine brT ?_ | refine brF ?_)
    show _ = _
    simp only [isV, h, Bool.false_and]; rfl

abbrev W3 := Int × Int × Int
def wt (x : W3) : T := .agg [T.int x.1, T.int x.2.1, T.int x.2.2]
def wOk (x : W3) : Bool := decide (x.1 ≥ 0) && decide (x.2.1 ≥ -1) && isV x.2.2
theorem s_waiterOk (x : W3) : Spec Try.prog 63 [.ro (wt x)] [T.bool (wOk x)] := by
  refine fn Try.func63 ?_
  repeat' (first | (first | refine ⟨rfl, ?_⟩ | refine brT ?_ | refine brF ?_ | intro _) | refine brI (fun _ => ?_) (fun _ => ?_))
  · refine ⟨_, s_isVal _, ?_⟩
    repeat' (first | (first | refine ⟨rfl, ?_⟩ | refine brT ?_ | refine brF ?_ | intro _) | refine brI (fun _ => ?_) (fun _ => ?_))
    refine tb ?_
    simp_all [wOk]
  all_goals (refine tb ?_; simp_all [wOk]; try (intros; omega))
def wOkP (p : Bool) (x : W3) : Bool := wOk x && (p || x.2.2 == 0)
theorem s_waiters (l : List W3) (hl : l.length ≤ bound) (p : Bool) : Spec Try.prog 58 [.ro (.sl 3 (l.map wt)), .ro (T.bool p)] [T.bool (l.all (wOkP p))] := by
  have hl' : l.length ≤ 1073741824 := hl
  refine fn Try.func58 ?_
  refine loopR (fun i => ⟨37, [(1, .bool p), (7, .c (.ro 3 (l.map wt))), (8, .int l.length), (9, .int i)], []⟩) l.length (fun i => ∀ j (hj : j < l.length), j < i → wOkP p l[j] = true) (fun j _ h => absurd h (by omega)) (wk rfl ⟨rfl, rfl, lenm, rfl, trivial⟩ trivial) ?_
  · intro i hi hI
    refine brD (fun h => ?_) (fun h => ?_)
    · have h : i < l.length := by simpa using h
      refine ⟨nn i, wt l[i], atm h, ?_⟩
      have hi := all_step h hI
      have hn := @all_no _ _ (wOkP p) _ h
      clear hI
      repeat' (first | (first | refine ⟨rfl, ?_⟩ | refine brT ?_ | refine brF ?_ | intro _) | refine brI (fun _ => ?_) (fun _ => ?_))
      all_goals try (refine ⟨_, s_l03Val _, ?_⟩; repeat' (first | (first | refine ⟨rfl, ?_⟩ | refine brT ?_ | refine brF ?_ | intro _) | refine brI (fun _ => ?_) (fun _ => ?_)))
      all_goals first
        | (refine nxtR h (hi ?_) (wk rfl ⟨rfl, rfl, rfl, up1 h hl', trivial⟩ trivial); clear hi hn; simp_all [wOkP, wOk]; try (intros; omega))
        | (refine tbf (hn ?_); clear hi hn; simp_all [wOkP, wOk]; try (intros; omega))
    · refine tbt (all_end (by omega) hI)

theorem s_eqIntS (a b : List Int) (hl : a.length ≤ bound) : Spec Try.prog 55 [.ro (.sl 1 (a.map T.int)), .ro (.sl 1 (b.map T.int))] [T.bool (a == b)] := by
  have hl' : a.length ≤ 1073741824 := hl
  refine fn Try.func55 ?_
  refine brI (fun h => ?_) (fun h => ?_)
  · have hne : a.length ≠ b.length := by intro h1; simp [h1] at h
    refine tbf ?_
    cases hab : a == b
    · rfl
    · exact absurd (by rw [eq_of_beq hab]) hne
  have hab : a.length = b.length := by simp at h; omega
  refine loopR (fun i => ⟨26, [(0, .c (.ro 1 (a.map T.int))), (1, .c (.ro 1 (b.map T.int))), (5, .int i)], []⟩) a.length (fun i => ∀ j (hj : j < a.length), j < i → a[j] = b[j]) (fun j _ h => absurd h (by omega)) (wk rfl ⟨rfl, rfl, rfl, trivial⟩ trivial) ?_
  intro i hi hI
  refine brD (fun h => ?_) (fun h => ?_)
  · have h : i < a.length := by simpa using h
    refine dr (.line [0, 1, 2, 3, 4, 5, 6, 7, 8]) (by kernel_rfl) ?_
    refine ⟨nn i, T.int a[i], atm h, ?_⟩
    refine ⟨nn i, T.int b[i], atm (by omega), ?_⟩
    refine brI (fun h1 => ?_) (fun h1 => ?_)
    · refine tbf ?_
      simp at h1
      cases hab : a == b
      · rfl
      · have := eq_of_beq hab
        subst this
        exact absurd rfl h1
    · refine nxtR h ?_ (wk rfl ⟨rfl, rfl, up1 h hl', trivial⟩ trivial)
      intro j hj h2
      by_cases h3 : j = i
      · subst h3; simpa using h1
      · exact hI j hj (by omega)
  · refine tbt ?_
    have : a = b := List.ext_getElem hab (fun j h1 h2 => hI j h1 (by simp at h; omega))
    simp [this]

theorem s_toWaiter (x : W3) : Spec Try.prog 69 [.ro (wt x)] [wt x] := by
  refine fn Try.func69 ?_
  repeat' (first | (first | refine ⟨rfl, ?_⟩ | refine brT ?_ | refine brF ?_ | intro _) | refine brI (fun _ => ?_) (fun _ => ?_))
  rfl
theorem s_toWaiterS (l : List W3) (hl : l.length ≤ bound) : Spec Try.prog 45 [.ro (.sl 3 (l.map wt))] [.sl 3 (l.map wt)] := by
  have hl' : l.length ≤ 1073741824 := hl
  refine fn Try.func45 ?_
  refine ⟨rfl, by simp, by simpa using hl, fun q => ?_⟩
  refine loopI (fun x : Nat × Nat => ⟨23, [(0, .c (.ro 3 (l.map wt))), (3, .c (.own 8000 q)), (4, .int x.1)], [(8000, .row q x.2 3 ((l.map wt).take x.1 ++ List.replicate (l.length - x.1) (wt (0, 0, 0))))]⟩) (fun x => l.length - x.1) (fun x => x.1 ≤ l.length) (0, 0) (Nat.zero_le _)
    (wk rfl ⟨rfl, rfl, rfl, trivial⟩ ⟨?_, trivial⟩) ?_
  · simp; rfl
  · rintro ⟨i, v⟩ hi
    refine brD (fun h => ?_) (fun h => ?_)
    · have hlt : i < l.length := by simpa using h
      refine ⟨by omega, wt l[i], by simp [hlt], ?_⟩
      refine ⟨_, s_toWaiter l[i], ?_⟩
      intro q1
      refine ⟨rfl, by omega, by simp; omega, ?_⟩
      refine ⟨rfl, wt (0, 0, 0), ?_, Nat.le_refl _, fun v' => ?_⟩
      · have h1 : min i l.length = i := by omega
        simp [List.getElem?_append_right, h1, List.getElem?_replicate]; omega
      · refine nxt (i + 1, v') hlt (by show _ < _; simp only; omega) (wk rfl ⟨rfl, rfl, congrArg AV.int (w64_id (by omega) (by omega)), trivial⟩ ⟨?_, trivial⟩)
        have := fill_set (l.map wt) (wt (0, 0, 0)) l.length i (by simp) hlt
        simp only [List.getElem_map] at this
        rw [← this]; rfl
    · have : i = l.length := by simp at h; omega
      subst this
      refine ⟨rfl, ?_⟩
      show _ = _
      simp [List.take_of_length_le]

theorem s_eqWaiter (x y : W3) : Spec Try.prog 31 [.ro (wt x), .ro (wt y)] [T.bool (x == y)] := by
  obtain ⟨x1, x2, x3⟩ := x
  obtain ⟨y1, y2, y3⟩ := y
  refine fn Try.func31 ?_
  repeat' (first | (first | refine ⟨rfl, ?_⟩ | refine brT ?_ | refine brF ?_ | intro _) | refine brI (fun _ => ?_) (fun _ => ?_))
  all_goals (refine tb ?_; simp_all)
theorem s_eqWaiterS (a b : List W3) (hl : a.length ≤ bound) : Spec Try.prog 38 [.ro (.sl 3 (a.map wt)), .ro (.sl 3 (b.map wt))] [T.bool (a == b)] := by
  have hl' : a.length ≤ 1073741824 := hl
  refine fn Try.func38 ?_
  refine brI (fun h => ?_) (fun h => ?_)
  · have hne : a.length ≠ b.length := by intro h1; simp [h1] at h
    refine tbf ?_
    cases hab : a == b
    · rfl
    · exact absurd (by rw [eq_of_beq hab]) hne
  have hab : a.length = b.length := by simp at h; omega
  refine loopR (fun i => ⟨27, [(0, .c (.ro 3 (a.map wt))), (1, .c (.ro 3 (b.map wt))), (5, .int i)], []⟩) a.length (fun i => ∀ j (hj : j < a.length), j < i → a[j] = b[j]) (fun j _ h => absurd h (by omega)) (wk rfl ⟨rfl, rfl, rfl, trivial⟩ trivial) ?_
  intro i hi hI
  refine brD (fun h => ?_) (fun h => ?_)
  · have h : i < a.length := by simpa using h
    refine dr (.line [0, 1, 2, 3, 4, 5, 6, 7, 8, 9]) (by kernel_rfl) ?_
    refine ⟨nn i, wt a[i], atm h, ?_⟩
    refine ⟨nn i, wt b[i], atm (by omega), ?_⟩
    refine ⟨_, s_eqWaiter a[i] b[i], ?_⟩
    intro _
    refine brI (fun h1 => ?_) (fun h1 => ?_)
    · refine tbf ?_
      simp only [Bool.not_eq_true'] at h1
      cases hab : a == b
      · rfl
      · have := eq_of_beq hab
        subst this
        simp at h1
    · refine nxtR h ?_ (wk rfl ⟨rfl, rfl, up1 h hl', trivial⟩ trivial)
      intro j hj h2
      by_cases h3 : j = i
      · subst h3; simpa using h1
      · exact hI j hj (by omega)
  · refine tbt ?_
    have : a = b := List.ext_getElem hab (fun j h1 h2 => hI j h1 (by simp at h; omega))
    simp [this]


end Go.Proofs.Ytcafolgfacmhcaa.E
