/- Contracts of functions of this seat's program. -/
import Derived.Test.YtadpancnhinlbaaETy
import Derived.Test.YtadpancnhinlbaaECl
namespace Go.Proofs.Ytadpancnhinlbaa.E
set_option linter.unusedVariables false
set_option linter.unusedSimpArgs false
set_option maxHeartbeats 1600000
def recvFrom (x : Y_Chan) : Y_Chan × Int × Bool × Y_Waiter × Int :=
  if chOk x.1 x.2.1 x.2.2.1 x.2.2.2.1 x.2.2.2.2 = false then (zC, 0, false, zW, 1)
  else if canR x.1 x.2.1 x.2.2.1 x.2.2.2.1 x.2.2.2.2 = false then (zC, 0, false, zW, 3)
  else match x.2.2.1, x.2.1 with
    | [], [] => (x, 0, false, (-1, 0, 0), 0)
    | [], v :: b => ((x.1, b, [], x.2.2.2.1, x.2.2.2.2), v, true, (-1, 0, 0), 0)
    | w :: s, [] => ((x.1, [], s, x.2.2.2.1, x.2.2.2.2), w.2.2, true, w, 0)
    | w :: s, v :: b => ((x.1, b ++ [w.2.2], s, x.2.2.2.1, x.2.2.2.2), v, true, w, 0)
theorem ok_recvFrom {x : Y_Chan} (h : ok_Chan x) (h2 : x.2.1.length + 1 ≤ bound) : ok_Chan (recvFrom x).1 := by
  obtain ⟨c, b, s, r, d⟩ := x
  obtain ⟨hb, hs, hr⟩ := h
  have z : ([] : List Y_Waiter).length ≤ bound ∧ ∀ y ∈ ([] : List Y_Waiter), ok_Waiter y := ⟨Nat.zero_le _, fun _ h => (by cases h)⟩
  unfold recvFrom
  split
  · exact ⟨Nat.zero_le _, z, z⟩
  split
  · exact ⟨Nat.zero_le _, z, z⟩
  cases s with
  | nil =>
    cases b with
    | nil => exact ⟨hb, hs, hr⟩
    | cons v b => exact ⟨Nat.le_of_succ_le hb, z, hr⟩
  | cons w s =>
    have hs' : s.length ≤ bound ∧ ∀ y ∈ s, ok_Waiter y := ⟨Nat.le_of_succ_le hs.1, fun _ _ => trivial⟩
    cases b with
    | nil => exact ⟨Nat.zero_le _, hs', hr⟩
    | cons v b => exact ⟨by simp at h2 ⊢; omega, hs', hr⟩
theorem chOk_w {c : Int} {b : List Int} {w : Y_Waiter} {s r : List Y_Waiter} {d : Bool} (h : chOk c b (w :: s) r d = true) : 0 ≤ w.1 := by
  simp only [chOk, chOkB, Bool.and_eq_true] at h
  have h1 := h.1.1.1.1.2
  simp only [List.all_cons, Bool.and_eq_true, wOkP, wOk, decide_eq_true_eq] at h1
  omega
theorem i_RecvFrom (x : Y_Chan) (h : ok_Chan x) (h2 : x.2.1.length + 1 ≤ bound) : Spec Try.prog 17 [.ro (t_Chan x)] [t_Chan (recvFrom x).1, T.int (recvFrom x).2.1, T.bool (recvFrom x).2.2.1, t_Waiter (recvFrom x).2.2.2.1, T.int (recvFrom x).2.2.2.2] := by
  obtain ⟨c, b, s, r, d⟩ := x
  obtain ⟨hb, hs, hr⟩ := id h
  refine fn Try.func17 ?_
  repeat (first | refine brT ?_ | refine brF ?_ | refine And.intro rfl ?_ | refine And.intro trivial ?_ | intro _)
  refine ⟨_, i_ChanOk c b s r d hb hs.1 hr.1, ?_⟩
  repeat (first | refine brT ?_ | refine brF ?_ | refine And.intro rfl ?_ | refine And.intro trivial ?_ | intro _)
  refine brI (fun h1 => ?_) (fun h1 => ?_)
  · repeat (first | refine brT ?_ | refine brF ?_ | refine And.intro rfl ?_ | refine And.intro trivial ?_ | intro _)
    refine ⟨1, ?_⟩
    repeat (first | refine brT ?_ | refine brF ?_ | refine And.intro rfl ?_ | refine And.intro trivial ?_ | intro _)
    refine ⟨3, ?_⟩
    repeat (first | refine brT ?_ | refine brF ?_ | refine And.intro rfl ?_ | refine And.intro trivial ?_ | intro _)
    refine ⟨3, ?_⟩
    repeat (first | refine brT ?_ | refine brF ?_ | refine And.intro rfl ?_ | refine And.intro trivial ?_ | intro _)
    have e : recvFrom (c, b, s, r, d) = (zC, 0, false, zW, 1) := if_pos (by simpa using h1)
    rw [e]
    rfl
  have k1 : chOk c b s r d = true := by simpa using h1
  repeat (first | refine brT ?_ | refine brF ?_ | refine And.intro rfl ?_ | refine And.intro trivial ?_ | intro _)
  refine ⟨_, i_CanRecv c b s r d hb hs.1 hr.1, ?_⟩
  repeat (first | refine brT ?_ | refine brF ?_ | refine And.intro rfl ?_ | refine And.intro trivial ?_ | intro _)
  refine brI (fun h1 => ?_) (fun h1 => ?_)
  · repeat (first | refine brT ?_ | refine brF ?_ | refine And.intro rfl ?_ | refine And.intro trivial ?_ | intro _)
    refine ⟨1, ?_⟩
    repeat (first | refine brT ?_ | refine brF ?_ | refine And.intro rfl ?_ | refine And.intro trivial ?_ | intro _)
    refine ⟨3, ?_⟩
    repeat (first | refine brT ?_ | refine brF ?_ | refine And.intro rfl ?_ | refine And.intro trivial ?_ | intro _)
    refine ⟨3, ?_⟩
    repeat (first | refine brT ?_ | refine brF ?_ | refine And.intro rfl ?_ | refine And.intro trivial ?_ | intro _)
    have h1 : canR c b s r d = false := by simpa using h1
    have e : recvFrom (c, b, s, r, d) = (zC, 0, false, zW, 3) := by simp [recvFrom, k1, h1]
    rw [e]
    rfl
  have k2 : canR c b s r d = true := by simpa using h1
  repeat (first | refine brT ?_ | refine brF ?_ | refine And.intro rfl ?_ | refine And.intro trivial ?_ | intro _)
  refine ⟨_, i_copyChan (c, b, s, r, d) h, ?_⟩
  repeat (first | refine brT ?_ | refine brF ?_ | refine And.intro rfl ?_ | refine And.intro trivial ?_ | intro _)
  cases s with
  | nil =>
    (refine brL ?kzz (fun _ => ?_); case kzz => (simp <;> omega))
    repeat (first | refine brT ?_ | refine brF ?_ | refine And.intro rfl ?_ | refine And.intro trivial ?_ | intro _)
    cases b with
    | nil =>
      (refine brL ?kzz (fun _ => ?_); case kzz => (simp <;> omega))
      have e : recvFrom (c, [], [], r, d) = ((c, [], [], r, d), 0, false, (-1, 0, 0), 0) := by simp [recvFrom, k1, k2]
      rw [e]
      repeat (first | refine brT ?_ | refine brF ?_ | refine And.intro rfl ?_ | refine And.intro trivial ?_ | intro _)
      refine dr0 ((Pl.go 0 ((Pl.go 1 (Pl.go 2 (Pl.go 3 (Pl.go 4 (Pl.go 5 (Pl.go 6 Pl.stop)))))).or (Pl.go 2 (Pl.go 3 (Pl.go 4 (Pl.go 1 (Pl.go 5 (Pl.go 6 Pl.stop)))))))).or (Pl.go 1 (Pl.go 0 (Pl.go 2 (Pl.go 3 (Pl.go 4 (Pl.go 5 (Pl.go 6 Pl.stop)))))))) (by kernel_rfl) ?_
      repeat' (first | (first | refine brT ?_ | refine brF ?_ | refine And.intro rfl ?_ | refine And.intro trivial ?_ | intro _) | refine And.intro ?_ ?_)
      all_goals rfl
    | cons v b =>
      (refine brR ?kzz (fun _ => ?_); case kzz => (simp <;> omega))
      have e : recvFrom (c, v :: b, [], r, d) = ((c, b, [], r, d), v, true, (-1, 0, 0), 0) := by simp [recvFrom, k1, k2]
      rw [e]
      have e1 : (((v :: b).map T.int).take ((v :: b).map T.int).length).drop 1 = b.map T.int := by rw [List.take_length]; rfl
      repeat (first | refine brT ?_ | refine brF ?_ | refine And.intro rfl ?_ | refine And.intro trivial ?_ | intro _)
      refine ⟨Int.le_refl _, by simp, ?_⟩
      repeat (first | refine brT ?_ | refine brF ?_ | refine And.intro rfl ?_ | refine And.intro trivial ?_ | intro _)
      refine ⟨T.int v, rfl, ?_⟩
      repeat (first | refine brT ?_ | refine brF ?_ | refine And.intro rfl ?_ | refine And.intro trivial ?_ | intro _)
      refine ⟨by decide, by simp, Nat.le_refl _, fun q2 => ?_⟩
      repeat (first | refine brT ?_ | refine brF ?_ | refine And.intro rfl ?_ | refine And.intro trivial ?_ | intro _)
      refine dr0 (Pl.go 1 ((Pl.go 0 ((Pl.go 2 (Pl.go 3 (Pl.go 4 (Pl.go 5 (Pl.go 6 (Pl.go 7 Pl.stop)))))).or (Pl.go 3 (Pl.go 4 (Pl.go 5 (Pl.go 2 (Pl.go 6 (Pl.go 7 Pl.stop)))))))).or (Pl.go 2 (Pl.go 0 (Pl.go 3 (Pl.go 4 (Pl.go 5 (Pl.go 6 (Pl.go 7 Pl.stop))))))))) (by kernel_rfl) ?_
      repeat' (first | (first | refine brT ?_ | refine brF ?_ | refine And.intro rfl ?_ | refine And.intro trivial ?_ | intro _) | refine And.intro ?_ ?_)
      all_goals exact congrArg (fun z => [T.agg [T.int c, T.sl 1 z, T.sl 3 [], T.sl 3 (r.map t_Waiter), T.bool d], T.int v, T.bool true, t_Waiter (-1, 0, 0), T.int 0]) e1
  | cons w s =>
    have hw := chOk_w k1
    (refine brR ?kzz (fun _ => ?_); case kzz => (simp <;> omega))
    have e2 : (((w :: s).map t_Waiter).take ((w :: s).map t_Waiter).length).drop 1 = s.map t_Waiter := by rw [List.take_length]; rfl
    repeat (first | refine brT ?_ | refine brF ?_ | refine And.intro rfl ?_ | refine And.intro trivial ?_ | intro _)
    refine ⟨Int.le_refl _, by simp, ?_⟩
    repeat (first | refine brT ?_ | refine brF ?_ | refine And.intro rfl ?_ | refine And.intro trivial ?_ | intro _)
    refine ⟨t_Waiter w, rfl, ?_⟩
    repeat (first | refine brT ?_ | refine brF ?_ | refine And.intro rfl ?_ | refine And.intro trivial ?_ | intro _)
    refine ⟨by decide, by simp, Nat.le_refl _, fun q2 => ?_⟩
    repeat (first | refine brT ?_ | refine brF ?_ | refine And.intro rfl ?_ | refine And.intro trivial ?_ | intro _)
    cases b with
    | nil =>
      (refine brL ?kzz (fun _ => ?_); case kzz => (simp <;> omega))
      have e : recvFrom (c, [], w :: s, r, d) = ((c, [], s, r, d), w.2.2, true, w, 0) := by simp [recvFrom, k1, k2]
      rw [e]
      repeat (first | refine brT ?_ | refine brF ?_ | refine And.intro rfl ?_ | refine And.intro trivial ?_ | intro _)
      (refine brR ?kzz (fun _ => ?_); case kzz => (simp <;> omega))
      repeat (first | refine brT ?_ | refine brF ?_ | refine And.intro rfl ?_ | refine And.intro trivial ?_ | intro _)
      refine dr0 (Pl.go 1 ((Pl.go 0 ((Pl.go 2 ((Pl.go 3 (Pl.go 4 (Pl.go 5 (Pl.go 6 (Pl.go 7 (Pl.go 8 Pl.stop)))))).or (Pl.go 4 (Pl.go 5 (Pl.go 6 (Pl.go 3 (Pl.go 7 (Pl.go 8 Pl.stop)))))))).or ((Pl.go 3 ((Pl.go 2 (Pl.go 4 (Pl.go 5 (Pl.go 6 (Pl.go 7 (Pl.go 8 Pl.stop)))))).or (Pl.go 4 (Pl.go 2 (Pl.go 5 (Pl.go 6 (Pl.go 7 (Pl.go 8 Pl.stop)))))))).or (Pl.go 4 ((Pl.go 2 (Pl.go 5 (Pl.go 6 (Pl.go 3 (Pl.go 7 (Pl.go 8 Pl.stop)))))).or (Pl.go 3 (Pl.go 2 (Pl.go 5 (Pl.go 6 (Pl.go 7 (Pl.go 8 Pl.stop))))))))))).or ((Pl.go 2 ((Pl.go 0 ((Pl.go 3 (Pl.go 4 (Pl.go 5 (Pl.go 6 (Pl.go 7 (Pl.go 8 Pl.stop)))))).or (Pl.go 4 (Pl.go 5 (Pl.go 6 (Pl.go 3 (Pl.go 7 (Pl.go 8 Pl.stop)))))))).or (Pl.go 3 (Pl.go 0 (Pl.go 4 (Pl.go 5 (Pl.go 6 (Pl.go 7 (Pl.go 8 Pl.stop))))))))).or (Pl.go 3 ((Pl.go 0 ((Pl.go 2 (Pl.go 4 (Pl.go 5 (Pl.go 6 (Pl.go 7 (Pl.go 8 Pl.stop)))))).or (Pl.go 4 (Pl.go 2 (Pl.go 5 (Pl.go 6 (Pl.go 7 (Pl.go 8 Pl.stop)))))))).or (Pl.go 2 (Pl.go 0 (Pl.go 4 (Pl.go 5 (Pl.go 6 (Pl.go 7 (Pl.go 8 Pl.stop)))))))))))) (by kernel_rfl) ?_
      repeat' (first | (first | refine brT ?_ | refine brF ?_ | refine And.intro rfl ?_ | refine And.intro trivial ?_ | intro _) | refine And.intro ?_ ?_)
      all_goals exact congrArg (fun z => [T.agg [T.int c, T.sl 1 [], T.sl 3 z, T.sl 3 (r.map t_Waiter), T.bool d], T.int w.2.2, T.bool true, t_Waiter w, T.int 0]) e2
    | cons v b =>
      (refine brR ?kzz (fun _ => ?_); case kzz => (simp <;> omega))
      have e : recvFrom (c, v :: b, w :: s, r, d) = ((c, b ++ [w.2.2], s, r, d), v, true, w, 0) := by simp [recvFrom, k1, k2]
      rw [e]
      have e1 : (((v :: b).map T.int).take ((v :: b).map T.int).length).drop 1 ++ [T.int w.2.2] = (b ++ [w.2.2]).map T.int := by rw [List.take_length]; simp
      repeat (first | refine brT ?_ | refine brF ?_ | refine And.intro rfl ?_ | refine And.intro trivial ?_ | intro _)
      refine ⟨Int.le_refl _, by simp, ?_⟩
      repeat (first | refine brT ?_ | refine brF ?_ | refine And.intro rfl ?_ | refine And.intro trivial ?_ | intro _)
      refine ⟨T.int v, rfl, ?_⟩
      repeat (first | refine brT ?_ | refine brF ?_ | refine And.intro rfl ?_ | refine And.intro trivial ?_ | intro _)
      refine ⟨by decide, by simp, Nat.le_refl _, fun q2 => ?_⟩
      repeat (first | refine brT ?_ | refine brF ?_ | refine And.intro rfl ?_ | refine And.intro trivial ?_ | intro _)
      (refine brR ?kzz (fun _ => ?_); case kzz => (simp <;> omega))
      repeat (first | refine brT ?_ | refine brF ?_ | refine And.intro rfl ?_ | refine And.intro trivial ?_ | intro _)
      refine ⟨fun t ht => (by simp at ht; subst ht; rfl), fun q0 => ?_⟩
      repeat (first | refine brT ?_ | refine brF ?_ | refine And.intro rfl ?_ | refine And.intro trivial ?_ | intro _)
      refine ⟨by simp at h2 ⊢; omega, fun q1 => ?_⟩
      repeat (first | refine brT ?_ | refine brF ?_ | refine And.intro rfl ?_ | refine And.intro trivial ?_ | intro _)
      refine dr0 (Pl.go 1 ((Pl.go 0 ((Pl.go 2 (Pl.go 3 (Pl.go 4 (Pl.go 5 (Pl.go 6 (Pl.go 7 Pl.stop)))))).or (Pl.go 3 (Pl.go 4 (Pl.go 5 (Pl.go 2 (Pl.go 6 (Pl.go 7 Pl.stop)))))))).or (Pl.go 2 (Pl.go 0 (Pl.go 3 (Pl.go 4 (Pl.go 5 (Pl.go 6 (Pl.go 7 Pl.stop))))))))) (by kernel_rfl) ?_
      repeat' (first | (first | refine brT ?_ | refine brF ?_ | refine And.intro rfl ?_ | refine And.intro trivial ?_ | intro _) | refine And.intro ?_ ?_)
      all_goals exact (congrArg (fun z => [T.agg [T.int c, T.sl 1 z, T.sl 3 _, T.sl 3 (r.map t_Waiter), T.bool d], T.int v, T.bool true, t_Waiter w, T.int 0]) e1).trans (congrArg (fun z => [T.agg [T.int c, T.sl 1 ((b ++ [w.2.2]).map T.int), T.sl 3 z, T.sl 3 (r.map t_Waiter), T.bool d], T.int v, T.bool true, t_Waiter w, T.int 0]) e2)


end Go.Proofs.Ytadpancnhinlbaa.E
