/- Contracts of functions of this seat's program. -/
import Derived.Test.YtadpancnhinlbaaETy
import Derived.Test.YtadpancnhinlbaaEGm
namespace Go.Proofs.Ytadpancnhinlbaa.E
set_option linter.unusedVariables false
set_option linter.unusedSimpArgs false
set_option maxHeartbeats 1600000
abbrev W3 := Int × Int × Int
def wt (x : W3) : T := .agg [T.int x.1, T.int x.2.1, T.int x.2.2]
def wOk (x : W3) : Bool := decide (x.1 ≥ 0) && decide (x.2.1 ≥ -1) && isV x.2.2
theorem s_waiterOk (x : W3) : Spec Try.prog 45 [.ro (wt x)] [T.bool (wOk x)] := by
  refine fn Try.func45 ?_
  repeat' (first | (first | refine brT ?_ | refine brF ?_ | refine And.intro rfl ?_ | refine And.intro trivial ?_ | intro _) | refine brI (fun _ => ?_) (fun _ => ?_))
  · refine ⟨_, s_isVal _, ?_⟩
    repeat' (first | (first | refine brT ?_ | refine brF ?_ | refine And.intro rfl ?_ | refine And.intro trivial ?_ | intro _) | refine brI (fun _ => ?_) (fun _ => ?_))
    refine tb ?_
    simp_all [wOk]
  all_goals (refine tb ?_; simp_all [wOk]; try (intros; omega))
def wOkP (p : Bool) (x : W3) : Bool := wOk x && (p || x.2.2 == 0)
theorem s_waiters (l : List W3) (hl : l.length ≤ bound) (p : Bool) : Spec Try.prog 58 [.ro (.sl 3 (l.map wt)), .ro (T.bool p)] [T.bool (l.all (wOkP p))] := by
  have hl' : l.length ≤ 16777216 := hl
  refine fn Try.func58 ?_
  refine loopR (fun i => ⟨37, [(1, .bool p), (7, .c (.ro 3 (l.map wt))), (8, .int l.length), (9, .int i)], []⟩) l.length (fun i => ∀ j (hj : j < l.length), j < i → wOkP p l[j] = true) (fun j _ h => absurd h (by omega)) (wk rfl ⟨rfl, rfl, lenm, rfl, trivial⟩ trivial) ?_
  · intro i hi hI
    refine brD (fun h => ?_) (fun h => ?_)
    · have h : i < l.length := by simpa using h
      refine ⟨nn i, wt l[i], atm h, ?_⟩
      have hi := all_step h hI
      have hn := @all_no _ _ (wOkP p) _ h
      clear hI
      repeat' (first | (first | refine brT ?_ | refine brF ?_ | refine And.intro rfl ?_ | refine And.intro trivial ?_ | intro _) | refine brI (fun _ => ?_) (fun _ => ?_))
      all_goals try (refine ⟨_, s_l03Val _, ?_⟩; repeat' (first | (first | refine brT ?_ | refine brF ?_ | refine And.intro rfl ?_ | refine And.intro trivial ?_ | intro _) | refine brI (fun _ => ?_) (fun _ => ?_)))
      all_goals first
        | (refine nxtR h (hi ?_) (wk rfl ⟨rfl, rfl, rfl, up1 h hl', trivial⟩ trivial); clear hi hn; simp_all [wOkP, wOk]; try (intros; omega))
        | (refine tbf (hn ?_); clear hi hn; simp_all [wOkP, wOk]; try (intros; omega))
    · refine tbt (all_end (by omega) hI)

def ct (c : Int) (b : List Int) (s r : List W3) (d : Bool) : T := .agg [T.int c, .sl 1 (b.map T.int), .sl 3 (s.map wt), .sl 3 (r.map wt), T.bool d]

def idxV (l : List Int) : Int := match l.findIdx? (fun x => !isV x) with
  | some i => i
  | none => -1
theorem idxV_some {l : List Int} {i : Nat} (hi : i < l.length) (h1 : isV l[i] = false) (h : ∀ j (hj : j < l.length), j < i → isV l[j] = true) : idxV l = i := by
  have : l.findIdx? (fun x => !isV x) = some i := by
    rw [List.findIdx?_eq_some_iff_getElem]
    exact ⟨hi, by simp [h1], fun j hj => by simp [h j (by omega) hj]⟩
  simp [idxV, this]
theorem idxV_none {l : List Int} (h : l.all isV = true) : idxV l = -1 := by
  have : l.findIdx? (fun x => !isV x) = none := by
    rw [List.findIdx?_eq_none_iff]
    intro x hx
    simp [List.all_eq_true.1 h x hx]
  simp [idxV, this]
theorem idxV_ge {l : List Int} : decide (idxV l ≥ 0) = !l.all isV := by
  cases h : l.all isV with
  | true => simp [idxV_none h]
  | false =>
    unfold idxV
    cases h1 : l.findIdx? (fun x => !isV x) with
    | some i => simp
    | none =>
      rw [List.findIdx?_eq_none_iff] at h1
      rw [List.all_eq_false] at h
      obtain ⟨x, hx, hv⟩ := h
      have := h1 x hx
      simp_all
theorem s_fnV (n : Int) : Spec Try.prog 44 [.ro (T.int n)] [T.bool (!isV n)] := by
  refine fn Try.func44 ?_
  refine ⟨_, s_isVal _, ?_⟩
  repeat' (first | (first | refine brT ?_ | refine brF ?_ | refine And.intro rfl ?_ | refine And.intro trivial ?_ | intro _) | refine brI (fun _ => ?_) (fun _ => ?_))
  exact tb rfl
theorem s_idxV (l : List Int) (hl : l.length ≤ bound) : Spec Try.prog 59 [.ro (.sl 1 (l.map T.int)), .ro (.v (.func (.func 44) #[] #[]))] [T.int (idxV l)] := by
  have hl' : l.length ≤ 16777216 := hl
  refine fn Try.func59 ?_
  refine loopR (fun i => ⟨19, [(0, .c (.ro 1 (l.map T.int))), (1, .vv (.func (.func 44) #[] #[])), (7, .int l.length), (8, .int i)], []⟩) l.length (fun i => ∀ j (hj : j < l.length), j < i → isV l[j] = true) (fun j _ h => absurd h (by omega)) (wk rfl ⟨rfl, rfl, lenm, rfl, trivial⟩ trivial) ?_
  intro i hi hI
  refine brD (fun h => ?_) (fun h => ?_)
  · have h : i < l.length := by simpa using h
    refine ⟨nn i, T.int l[i], atm h, ?_⟩
    refine ⟨_, s_fnV l[i], ?_⟩
    intro _
    refine brI (fun h1 => ?_) (fun h1 => ?_)
    · exact ti (idxV_some h (by simpa using h1) hI).symm
    · exact nxtR h (all_step h hI (by simpa using h1)) (wk rfl ⟨rfl, rfl, rfl, up1 h hl', trivial⟩ trivial)
  · exact ti (idxV_none (all_end (by omega) hI)).symm
theorem s_hasV (l : List Int) (hl : l.length ≤ bound) : Spec Try.prog 43 [.ro (.sl 1 (l.map T.int)), .ro (.v (.func (.func 44) #[] #[]))] [T.bool (!l.all isV)] := by
  refine fn Try.func43 ?_
  refine ⟨_, s_idxV l hl, ?_⟩
  intro _
  refine tb idxV_ge
def chOkB (c : Int) (nb ns nr : Nat) (A B V d : Bool) : Bool :=
  decide (0 ≤ c) && decide (c ≤ 4) && decide ((nb : Int) ≤ c) && A && B && V && (decide (ns = 0) || (decide ((nb : Int) = c) && decide (nr = 0) && !d)) && (decide (nr = 0) || (decide (nb = 0) && !d))
def chOk (c : Int) (b : List Int) (s r : List W3) (d : Bool) : Bool := chOkB c b.length s.length r.length (s.all (wOkP true)) (r.all (wOkP false)) (b.all isV) d
/-- The cells of a channel's box. -/
def chB (c : Int) (b : List Int) (s r : List W3) (d : Bool) : List A1 := [.v (.int .i64 c), .ro 1 (b.map T.int), .ro 3 (s.map wt), .ro 3 (r.map wt), .v (.bool d)]
theorem s_ChanOk (c : Int) (b : List Int) (s r : List W3) (d : Bool) (hb : b.length ≤ bound) (hs : s.length ≤ bound) (hr : r.length ≤ bound) : Spec Try.prog 38 [.ro (ct c b s r d)] [T.bool (chOk c b s r d)] := by
  have hl' : b.length ≤ 16777216 := hb
  refine fn Try.func38 ?_
  intro q
  repeat' (first | (first | refine brT ?_ | refine brF ?_ | refine And.intro rfl ?_ | refine And.intro trivial ?_ | intro _) | refine brI (fun _ => ?_) (fun _ => ?_))
  all_goals try exact tbf (by ((try simp only [List.length_map] at *); simp only [chOk]; clear hl'; generalize b.length = nb at *; generalize s.length = ns at *; generalize r.length = nr at *; generalize s.all (wOkP true) = A at *; generalize r.all (wOkP false) = B at *; generalize b.all isV = V at *; cases A <;> cases B <;> cases V <;> cases d <;> (try simp_all [chOkB]) <;> (try omega)))
  refine ⟨_, s_waiters s hs true, ?_⟩
  repeat' (first | (first | refine brT ?_ | refine brF ?_ | refine And.intro rfl ?_ | refine And.intro trivial ?_ | intro _) | refine brI (fun _ => ?_) (fun _ => ?_))
  all_goals try exact tbf (by ((try simp only [List.length_map] at *); simp only [chOk]; clear hl'; generalize b.length = nb at *; generalize s.length = ns at *; generalize r.length = nr at *; generalize s.all (wOkP true) = A at *; generalize r.all (wOkP false) = B at *; generalize b.all isV = V at *; cases A <;> cases B <;> cases V <;> cases d <;> (try simp_all [chOkB]) <;> (try omega)))
  refine ⟨_, s_waiters r hr false, ?_⟩
  repeat' (first | (first | refine brT ?_ | refine brF ?_ | refine And.intro rfl ?_ | refine And.intro trivial ?_ | intro _) | refine brI (fun _ => ?_) (fun _ => ?_))
  all_goals try exact tbf (by ((try simp only [List.length_map] at *); simp only [chOk]; clear hl'; generalize b.length = nb at *; generalize s.length = ns at *; generalize r.length = nr at *; generalize s.all (wOkP true) = A at *; generalize r.all (wOkP false) = B at *; generalize b.all isV = V at *; cases A <;> cases B <;> cases V <;> cases d <;> (try simp_all [chOkB]) <;> (try omega)))
  refine loopR (fun i => ⟨81, [(1, .c (.bx 2000 q 0)), (34, .c (.ro 1 (b.map T.int))), (35, .int b.length), (36, .int i)], [(2000, .box q (chB c b s r d))]⟩) b.length (fun i => ∀ j (hj : j < b.length), j < i → isV b[j] = true) (fun j _ h => absurd h (by omega)) (wk rfl ⟨rfl, rfl, lenm, rfl, trivial⟩ ⟨rfl, trivial⟩) ?_
  intro i hi hI
  refine brD (fun h => ?_) (fun h => ?_)
  · have h : i < b.length := by simpa using h
    refine ⟨nn i, T.int b[i], atm h, ?_⟩
    refine ⟨_, s_l03Val b[i], ?_⟩
    intro _
    refine brI (fun h1 => ?_) (fun h1 => ?_)
    · have := all_no (p := isV) h (by simpa using h1)
      exact tbf (by simp [chOk, chOkB, this])
    · exact nxtR h (all_step h hI (by simpa using h1)) (wk rfl ⟨rfl, rfl, rfl, up1 h hl', trivial⟩ ⟨rfl, trivial⟩)
  · have hall := all_end (by omega) hI
    clear hI
    repeat' (first | (first | refine brT ?_ | refine brF ?_ | refine And.intro rfl ?_ | refine And.intro trivial ?_ | intro _) | refine brI (fun _ => ?_) (fun _ => ?_))
    all_goals refine tb ?_
    all_goals ((try simp only [List.length_map] at *); simp only [chOk]; clear hl'; generalize b.length = nb at *; generalize s.length = ns at *; generalize r.length = nr at *; generalize s.all (wOkP true) = A at *; generalize r.all (wOkP false) = B at *; generalize b.all isV = V at *; cases A <;> cases B <;> cases V <;> cases d <;> (try simp_all [chOkB]) <;> (try omega))

theorem i_ChanOk (c : Int) (b : List Int) (s r : List W3) (d : Bool) (hb : b.length ≤ bound) (hs : s.length ≤ bound) (hr : r.length ≤ bound) : Spec Try.prog 16 [.ro (ct c b s r d)] [T.bool (chOk c b s r d)] := by
  have hl' : b.length ≤ 16777216 := hb
  have hs' : s.length ≤ 16777216 := hs
  have hr' : r.length ≤ 16777216 := hr
  refine fn Try.func16 ?_
  intro q
  repeat' (first | (first | refine brT ?_ | refine brF ?_ | refine And.intro rfl ?_ | refine And.intro trivial ?_ | intro _) | refine brI (fun _ => ?_) (fun _ => ?_))
  all_goals try exact tbf (by ((try simp only [List.length_map] at *); simp only [chOk]; clear hl'; generalize b.length = nb at *; generalize s.length = ns at *; generalize r.length = nr at *; generalize s.all (wOkP true) = A at *; generalize r.all (wOkP false) = B at *; generalize b.all isV = V at *; cases A <;> cases B <;> cases V <;> cases d <;> (try simp_all [chOkB]) <;> (try omega)))
  refine ⟨_, s_hasV b hb, ?_⟩
  repeat' (first | (first | refine brT ?_ | refine brF ?_ | refine And.intro rfl ?_ | refine And.intro trivial ?_ | intro _) | refine brI (fun _ => ?_) (fun _ => ?_))
  all_goals try exact tbf (by ((try simp only [List.length_map] at *); simp only [chOk]; clear hl'; generalize b.length = nb at *; generalize s.length = ns at *; generalize r.length = nr at *; generalize s.all (wOkP true) = A at *; generalize r.all (wOkP false) = B at *; generalize b.all isV = V at *; cases A <;> cases B <;> cases V <;> cases d <;> (try simp_all [chOkB]) <;> (try omega)))
  refine loopR (fun i => ⟨92, [(1, .c (.bx 2000 q 0)), (29, .c (.ro 3 (s.map wt))), (30, .int s.length), (31, .int i)], [(2000, .box q (chB c b s r d))]⟩) s.length (fun i => ∀ j (hj : j < s.length), j < i → wOkP true s[j] = true) (fun j _ h => absurd h (by omega)) (wk rfl ⟨rfl, rfl, lenm, rfl, trivial⟩ ⟨rfl, trivial⟩) ?_
  intro i hi hI
  refine brD (fun h => ?_) (fun h => ?_)
  · have h : i < s.length := by simpa using h
    refine ⟨nn i, wt s[i], atm h, ?_⟩
    intro _
    repeat (first | refine brT ?_ | refine brF ?_ | refine And.intro rfl ?_ | refine And.intro trivial ?_ | intro _)
    refine ⟨_, s_waiterOk s[i], ?_⟩
    intro _
    refine brI (fun h1 => ?_) (fun h1 => ?_)
    · have := all_no (p := wOkP true) h (by simpa [wOkP] using h1)
      exact tbf (by simp [chOk, chOkB, this])
    · exact nxtR h (all_step h hI (by simpa [wOkP] using h1)) (wk rfl ⟨rfl, rfl, rfl, up1 h hs', trivial⟩ ⟨rfl, trivial⟩)
  have hS : s.all (wOkP true) = true := all_end (by omega) hI
  clear h hI hi
  repeat (first | refine brT ?_ | refine brF ?_ | refine And.intro rfl ?_ | refine And.intro trivial ?_ | intro _)
  refine loopR (fun i => ⟨92, [(1, .c (.bx 2000 q 0)), (40, .c (.ro 3 (r.map wt))), (41, .int r.length), (42, .int i)], [(2000, .box q (chB c b s r d))]⟩) r.length (fun i => ∀ j (hj : j < r.length), j < i → wOkP false r[j] = true) (fun j _ h => absurd h (by omega)) (wk rfl ⟨rfl, rfl, lenm, rfl, trivial⟩ ⟨rfl, trivial⟩) ?_
  intro i hi hI
  refine brD (fun h => ?_) (fun h => ?_)
  · have h : i < r.length := by simpa using h
    refine ⟨nn i, wt r[i], atm h, ?_⟩
    intro _
    repeat (first | refine brT ?_ | refine brF ?_ | refine And.intro rfl ?_ | refine And.intro trivial ?_ | intro _)
    refine ⟨_, s_waiterOk r[i], ?_⟩
    intro _
    repeat' (first | (first | refine brT ?_ | refine brF ?_ | refine And.intro rfl ?_ | refine And.intro trivial ?_ | intro _) | refine brI (fun _ => ?_) (fun _ => ?_))
    · have := all_no (p := wOkP false) h (by simp_all [wOkP])
      exact tbf (by simp [chOk, chOkB, this])
    · have := all_no (p := wOkP false) h (by simp_all [wOkP])
      exact tbf (by simp [chOk, chOkB, this])
    · exact nxtR h (all_step h hI (by simp_all [wOkP])) (wk rfl ⟨rfl, rfl, rfl, up1 h hr', trivial⟩ ⟨rfl, trivial⟩)
  have hR : r.all (wOkP false) = true := all_end (by omega) hI
  clear h hI hi
  repeat' (first | (first | refine brT ?_ | refine brF ?_ | refine And.intro rfl ?_ | refine And.intro trivial ?_ | intro _) | refine brI (fun _ => ?_) (fun _ => ?_))
  all_goals refine tb ?_
  all_goals ((try simp only [List.length_map] at *); simp only [chOk]; clear hl'; generalize b.length = nb at *; generalize s.length = ns at *; generalize r.length = nr at *; generalize s.all (wOkP true) = A at *; generalize r.all (wOkP false) = B at *; generalize b.all isV = V at *; cases A <;> cases B <;> cases V <;> cases d <;> (try simp_all [chOkB]) <;> (try omega))

def canR (c : Int) (b : List Int) (s r : List W3) (d : Bool) : Bool := chOk c b s r d && (decide (0 < b.length) || decide (0 < s.length) || d)
theorem i_CanRecv (c : Int) (b : List Int) (s r : List W3) (d : Bool) (hb : b.length ≤ bound) (hs : s.length ≤ bound) (hr : r.length ≤ bound) : Spec Try.prog 18 [.ro (ct c b s r d)] [T.bool (canR c b s r d)] := by
  refine fn Try.func18 ?_
  repeat (first | refine brT ?_ | refine brF ?_ | refine And.intro rfl ?_ | refine And.intro trivial ?_ | intro _)
  refine ⟨_, i_ChanOk c b s r d hb hs hr, ?_⟩
  repeat' (first | (first | refine brT ?_ | refine brF ?_ | refine And.intro rfl ?_ | refine And.intro trivial ?_ | intro _) | refine brI (fun _ => ?_) (fun _ => ?_))
  all_goals (refine tb ?_; simp only [canR]; cases d <;> (try simp_all) <;> (try (intros; omega)))
def canS (c : Int) (b : List Int) (s r : List W3) (d : Bool) : Bool := chOk c b s r d && (d || decide (0 < r.length) || decide ((b.length : Int) < c))
theorem s_CanSend (c : Int) (b : List Int) (s r : List W3) (d : Bool) (hb : b.length ≤ bound) (hs : s.length ≤ bound) (hr : r.length ≤ bound) : Spec Try.prog 40 [.ro (ct c b s r d)] [T.bool (canS c b s r d)] := by
  refine fn Try.func40 ?_
  repeat (first | refine brT ?_ | refine brF ?_ | refine And.intro rfl ?_ | refine And.intro trivial ?_ | intro _)
  refine ⟨_, s_ChanOk c b s r d hb hs hr, ?_⟩
  repeat' (first | (first | refine brT ?_ | refine brF ?_ | refine And.intro rfl ?_ | refine And.intro trivial ?_ | intro _) | refine brI (fun _ => ?_) (fun _ => ?_))
  all_goals (refine tb ?_; simp only [canS]; cases d <;> (try simp_all) <;> (try (intros; omega)))
theorem i_CanSend (c : Int) (b : List Int) (s r : List W3) (d : Bool) (hb : b.length ≤ bound) (hs : s.length ≤ bound) (hr : r.length ≤ bound) : Spec Try.prog 15 [.ro (ct c b s r d)] [T.bool (canS c b s r d)] := by
  refine fn Try.func15 ?_
  repeat (first | refine brT ?_ | refine brF ?_ | refine And.intro rfl ?_ | refine And.intro trivial ?_ | intro _)
  refine ⟨_, i_ChanOk c b s r d hb hs hr, ?_⟩
  repeat' (first | (first | refine brT ?_ | refine brF ?_ | refine And.intro rfl ?_ | refine And.intro trivial ?_ | intro _) | refine brI (fun _ => ?_) (fun _ => ?_))
  all_goals (refine tb ?_; simp only [canS]; cases d <;> (try simp_all) <;> (try (intros; omega)))


end Go.Proofs.Ytadpancnhinlbaa.E
