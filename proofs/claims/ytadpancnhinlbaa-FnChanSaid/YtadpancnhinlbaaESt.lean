/- Contracts of functions of this seat's program. -/
import Derived.Test.YtadpancnhinlbaaETy
import Derived.Test.YtadpancnhinlbaaEC
namespace Go.Proofs.Ytadpancnhinlbaa.E
set_option linter.unusedVariables false
set_option linter.unusedSimpArgs false
set_option maxHeartbeats 1600000
def zC : Y_Chan := (0, [], [], [], false)
def zW : Y_Waiter := (0, 0, 0)
def sendTo (x : Y_Chan) (v : Int) : Y_Chan × Y_Waiter × Int :=
  if (chOk x.1 x.2.1 x.2.2.1 x.2.2.2.1 x.2.2.2.2 && isV v) = false then (zC, zW, 1)
  else if x.2.2.2.2 = true then (zC, zW, 2)
  else if canS x.1 x.2.1 x.2.2.1 x.2.2.2.1 x.2.2.2.2 = false then (zC, zW, 3)
  else match x.2.2.2.1 with
    | w :: r => ((x.1, x.2.1, x.2.2.1, r, x.2.2.2.2), w, 0)
    | [] => ((x.1, x.2.1 ++ [v], x.2.2.1, [], x.2.2.2.2), (-1, 0, 0), 0)
theorem s_l06None : Spec Try.prog 42 [] [t_Waiter (-1, 0, 0)] := by
  refine fn Try.func42 ?_
  repeat (first | refine brT ?_ | refine brF ?_ | refine And.intro rfl ?_ | refine And.intro trivial ?_ | intro _)
  rfl
theorem ok_sendTo {x : Y_Chan} {v : Int} (h : ok_Chan x) (h2 : x.2.1.length + 1 ≤ bound) : ok_Chan (sendTo x v).1 := by
  obtain ⟨c, b, s, r, d⟩ := x
  obtain ⟨hb, hs, hr⟩ := h
  unfold sendTo
  repeat' split
  · exact ⟨Nat.zero_le _, ⟨Nat.zero_le _, fun _ h => (by cases h)⟩, ⟨Nat.zero_le _, fun _ h => (by cases h)⟩⟩
  · exact ⟨Nat.zero_le _, ⟨Nat.zero_le _, fun _ h => (by cases h)⟩, ⟨Nat.zero_le _, fun _ h => (by cases h)⟩⟩
  · exact ⟨Nat.zero_le _, ⟨Nat.zero_le _, fun _ h => (by cases h)⟩, ⟨Nat.zero_le _, fun _ h => (by cases h)⟩⟩
  · rename_i w r' e
    simp only at e
    subst e
    refine ⟨hb, hs, Nat.le_of_succ_le hr.1, fun _ _ => trivial⟩
  · refine ⟨by simpa using h2, hs, Nat.zero_le _, fun _ _ => trivial⟩
theorem s_SendTo (x : Y_Chan) (v : Int) (h : ok_Chan x) (h2 : x.2.1.length + 1 ≤ bound) : Spec Try.prog 14 [.ro (t_Chan x), .ro (T.int v)] [t_Chan (sendTo x v).1, t_Waiter (sendTo x v).2.1, T.int (sendTo x v).2.2] := by
  obtain ⟨c, b, s, r, d⟩ := x
  obtain ⟨hb, hs, hr⟩ := id h
  refine fn Try.func14 ?_
  repeat (first | refine brT ?_ | refine brF ?_ | refine And.intro rfl ?_ | refine And.intro trivial ?_ | intro _)
  refine ⟨_, s_ChanOk c b s r d hb hs.1 hr.1, ?_⟩
  intro _
  refine brI (fun h1 => ?_) (fun h1 => ?_)
  · repeat (first | refine brT ?_ | refine brF ?_ | refine And.intro rfl ?_ | refine And.intro trivial ?_ | intro _)
    refine ⟨1, ?_⟩
    repeat (first | refine brT ?_ | refine brF ?_ | refine And.intro rfl ?_ | refine And.intro trivial ?_ | intro _)
    refine ⟨3, ?_⟩
    repeat (first | refine brT ?_ | refine brF ?_ | refine And.intro rfl ?_ | refine And.intro trivial ?_ | intro _)
    refine ⟨3, ?_⟩
    repeat (first | refine brT ?_ | refine brF ?_ | refine And.intro rfl ?_ | refine And.intro trivial ?_ | intro _)
    have e : sendTo (c, b, s, r, d) v = (zC, zW, 1) := if_pos (by simp at h1; simp [h1])
    rw [e]
    rfl
  have k1 : chOk c b s r d = true := by simpa using h1
  repeat (first | refine brT ?_ | refine brF ?_ | refine And.intro rfl ?_ | refine And.intro trivial ?_ | intro _)
  refine ⟨_, s_l03Val v, ?_⟩
  repeat (first | refine brT ?_ | refine brF ?_ | refine And.intro rfl ?_ | refine And.intro trivial ?_ | intro _)
  refine brI (fun h1 => ?_) (fun h1 => ?_)
  · repeat (first | refine brT ?_ | refine brF ?_ | refine And.intro rfl ?_ | refine And.intro trivial ?_ | intro _)
    refine ⟨1, ?_⟩
    repeat (first | refine brT ?_ | refine brF ?_ | refine And.intro rfl ?_ | refine And.intro trivial ?_ | intro _)
    refine ⟨3, ?_⟩
    repeat (first | refine brT ?_ | refine brF ?_ | refine And.intro rfl ?_ | refine And.intro trivial ?_ | intro _)
    refine ⟨3, ?_⟩
    repeat (first | refine brT ?_ | refine brF ?_ | refine And.intro rfl ?_ | refine And.intro trivial ?_ | intro _)
    have h1 : (!isV v) = true := h1
    have e : sendTo (c, b, s, r, d) v = (zC, zW, 1) := if_pos (by simp at h1; simp [h1])
    rw [e]
    rfl
  have h1 : (!isV v) = false := h1
  have k2 : isV v = true := by simpa using h1
  repeat (first | refine brT ?_ | refine brF ?_ | refine And.intro rfl ?_ | refine And.intro trivial ?_ | intro _)
  refine brI (fun h1 => ?_) (fun h1 => ?_)
  · repeat (first | refine brT ?_ | refine brF ?_ | refine And.intro rfl ?_ | refine And.intro trivial ?_ | intro _)
    refine ⟨1, ?_⟩
    repeat (first | refine brT ?_ | refine brF ?_ | refine And.intro rfl ?_ | refine And.intro trivial ?_ | intro _)
    refine ⟨3, ?_⟩
    repeat (first | refine brT ?_ | refine brF ?_ | refine And.intro rfl ?_ | refine And.intro trivial ?_ | intro _)
    refine ⟨3, ?_⟩
    repeat (first | refine brT ?_ | refine brF ?_ | refine And.intro rfl ?_ | refine And.intro trivial ?_ | intro _)
    have h1 : d = true := h1
    have e : sendTo (c, b, s, r, d) v = (zC, zW, 2) := by subst h1; simp [sendTo, k1, k2]
    rw [e]
    rfl
  have h1 : d = false := h1
  subst h1
  repeat (first | refine brT ?_ | refine brF ?_ | refine And.intro rfl ?_ | refine And.intro trivial ?_ | intro _)
  refine ⟨_, s_CanSend c b s r false hb hs.1 hr.1, ?_⟩
  intro _
  refine brI (fun h1 => ?_) (fun h1 => ?_)
  · repeat (first | refine brT ?_ | refine brF ?_ | refine And.intro rfl ?_ | refine And.intro trivial ?_ | intro _)
    refine ⟨1, ?_⟩
    repeat (first | refine brT ?_ | refine brF ?_ | refine And.intro rfl ?_ | refine And.intro trivial ?_ | intro _)
    refine ⟨3, ?_⟩
    repeat (first | refine brT ?_ | refine brF ?_ | refine And.intro rfl ?_ | refine And.intro trivial ?_ | intro _)
    refine ⟨3, ?_⟩
    repeat (first | refine brT ?_ | refine brF ?_ | refine And.intro rfl ?_ | refine And.intro trivial ?_ | intro _)
    have h1 : canS c b s r false = false := by simpa using h1
    have e : sendTo (c, b, s, r, false) v = (zC, zW, 3) := by simp [sendTo, k1, k2, h1]
    rw [e]
    rfl
  have k3 : canS c b s r false = true := by simpa using h1
  repeat (first | refine brT ?_ | refine brF ?_ | refine And.intro rfl ?_ | refine And.intro trivial ?_ | intro _)
  refine ⟨_, s_l06Copy (c, b, s, r, false) h, ?_⟩
  repeat (first | refine brT ?_ | refine brF ?_ | refine And.intro rfl ?_ | refine And.intro trivial ?_ | intro _)
  cases r with
  | nil =>
    refine brI (fun h1 => ?_) (fun h1 => ?_)
    · simp at h1
    have e : sendTo (c, b, s, [], false) v = ((c, b ++ [v], s, [], false), (-1, 0, 0), 0) := by simp [sendTo, k1, k2, k3]
    rw [e]
    repeat (first | refine brT ?_ | refine brF ?_ | refine And.intro rfl ?_ | refine And.intro trivial ?_ | intro _)
    refine ⟨fun t ht => (by simp at ht; subst ht; rfl), fun q0 => ?_⟩
    repeat (first | refine brT ?_ | refine brF ?_ | refine And.intro rfl ?_ | refine And.intro trivial ?_ | intro _)
    refine ⟨by simp; exact h2, fun q1 => ?_⟩
    have e1 : (b ++ [v]).map T.int = b.map T.int ++ [T.int v] := by simp
    unfold t_Chan
    simp only [e1]
    repeat (first | refine brT ?_ | refine brF ?_ | refine And.intro rfl ?_ | refine And.intro trivial ?_ | intro _)
    refine dr (Pl.go 0 (Pl.go 1 (Pl.go 2 (Pl.go 3 (Pl.go 4 Pl.stop))))) (by kernel_rfl) ?_
    repeat' (first | (first | refine brT ?_ | refine brF ?_ | refine And.intro rfl ?_ | refine And.intro trivial ?_ | intro _) | refine ⟨_, s_l06None, ?_⟩ | refine And.intro ?_ ?_)
    all_goals rfl
  | cons w r =>
    refine brI (fun h1 => ?_) (fun h1 => ?_)
    rotate_left
    · simp at h1
    have e : sendTo (c, b, s, w :: r, false) v = ((c, b, s, r, false), w, 0) := by simp [sendTo, k1, k2, k3]
    rw [e]
    have e1 : (((w :: r).map t_Waiter).take ((w :: r).map t_Waiter).length).drop 1 = r.map t_Waiter := by rw [List.take_length]; rfl
    repeat (first | refine brT ?_ | refine brF ?_ | refine And.intro rfl ?_ | refine And.intro trivial ?_ | intro _)
    skip
    repeat (first | refine brT ?_ | refine brF ?_ | refine And.intro rfl ?_ | refine And.intro trivial ?_ | intro _)
    refine ⟨by decide, by simp, Nat.le_refl _, fun q2 => ?_⟩
    repeat (first | refine brT ?_ | refine brF ?_ | refine And.intro rfl ?_ | refine And.intro trivial ?_ | intro _)
    refine dr0 (Pl.go 1 ((Pl.go 0 ((Pl.go 2 (Pl.go 3 ((Pl.go 4 (Pl.go 5 (Pl.go 6 (Pl.go 7 Pl.stop)))).or (Pl.go 5 (Pl.go 4 (Pl.go 6 (Pl.go 7 Pl.stop))))))).or (Pl.go 5 (Pl.go 2 (Pl.go 3 (Pl.go 4 (Pl.go 6 (Pl.go 7 Pl.stop)))))))).or (Pl.go 2 (Pl.go 3 ((Pl.go 0 ((Pl.go 4 (Pl.go 5 (Pl.go 6 (Pl.go 7 Pl.stop)))).or (Pl.go 5 (Pl.go 4 (Pl.go 6 (Pl.go 7 Pl.stop)))))).or (Pl.go 4 (Pl.go 0 (Pl.go 5 (Pl.go 6 (Pl.go 7 Pl.stop)))))))))) (by kernel_rfl) ?_
    repeat' (first | (first | refine brT ?_ | refine brF ?_ | refine And.intro rfl ?_ | refine And.intro trivial ?_ | intro _) | refine ⟨Int.le_refl _, t_Waiter w, rfl, ?_⟩ | refine And.intro ?_ ?_)
    all_goals exact congrArg (fun z => [T.agg [T.int c, T.sl 1 (b.map T.int), T.sl 3 (s.map t_Waiter), T.sl 3 z, T.bool false], t_Waiter w, T.int 0]) e1
theorem i_SendTo (x : Y_Chan) (v : Int) (h : ok_Chan x) (h2 : x.2.1.length + 1 ≤ bound) : Spec Try.prog 13 [.ro (t_Chan x), .ro (T.int v)] [t_Chan (sendTo x v).1, t_Waiter (sendTo x v).2.1, T.int (sendTo x v).2.2] := by
  obtain ⟨c, b, s, r, d⟩ := x
  obtain ⟨hb, hs, hr⟩ := id h
  refine fn Try.func13 ?_
  repeat (first | refine brT ?_ | refine brF ?_ | refine And.intro rfl ?_ | refine And.intro trivial ?_ | intro _)
  refine ⟨_, i_ChanOk c b s r d hb hs.1 hr.1, ?_⟩
  intro _
  refine brI (fun h1 => ?_) (fun h1 => ?_)
  · repeat (first | refine brT ?_ | refine brF ?_ | refine And.intro rfl ?_ | refine And.intro trivial ?_ | intro _)
    refine ⟨1, ?_⟩
    repeat (first | refine brT ?_ | refine brF ?_ | refine And.intro rfl ?_ | refine And.intro trivial ?_ | intro _)
    refine ⟨3, ?_⟩
    repeat (first | refine brT ?_ | refine brF ?_ | refine And.intro rfl ?_ | refine And.intro trivial ?_ | intro _)
    refine ⟨3, ?_⟩
    repeat (first | refine brT ?_ | refine brF ?_ | refine And.intro rfl ?_ | refine And.intro trivial ?_ | intro _)
    have e : sendTo (c, b, s, r, d) v = (zC, zW, 1) := if_pos (by simp at h1; simp [h1])
    rw [e]
    rfl
  have k1 : chOk c b s r d = true := by simpa using h1
  repeat (first | refine brT ?_ | refine brF ?_ | refine And.intro rfl ?_ | refine And.intro trivial ?_ | intro _)
  refine ⟨_, s_isVal v, ?_⟩
  repeat (first | refine brT ?_ | refine brF ?_ | refine And.intro rfl ?_ | refine And.intro trivial ?_ | intro _)
  refine brI (fun h1 => ?_) (fun h1 => ?_)
  · repeat (first | refine brT ?_ | refine brF ?_ | refine And.intro rfl ?_ | refine And.intro trivial ?_ | intro _)
    refine ⟨1, ?_⟩
    repeat (first | refine brT ?_ | refine brF ?_ | refine And.intro rfl ?_ | refine And.intro trivial ?_ | intro _)
    refine ⟨3, ?_⟩
    repeat (first | refine brT ?_ | refine brF ?_ | refine And.intro rfl ?_ | refine And.intro trivial ?_ | intro _)
    refine ⟨3, ?_⟩
    repeat (first | refine brT ?_ | refine brF ?_ | refine And.intro rfl ?_ | refine And.intro trivial ?_ | intro _)
    have h1 : (!isV v) = true := h1
    have e : sendTo (c, b, s, r, d) v = (zC, zW, 1) := if_pos (by simp at h1; simp [h1])
    rw [e]
    rfl
  have h1 : (!isV v) = false := h1
  have k2 : isV v = true := by simpa using h1
  repeat (first | refine brT ?_ | refine brF ?_ | refine And.intro rfl ?_ | refine And.intro trivial ?_ | intro _)
  refine brI (fun h1 => ?_) (fun h1 => ?_)
  · repeat (first | refine brT ?_ | refine brF ?_ | refine And.intro rfl ?_ | refine And.intro trivial ?_ | intro _)
    refine ⟨1, ?_⟩
    repeat (first | refine brT ?_ | refine brF ?_ | refine And.intro rfl ?_ | refine And.intro trivial ?_ | intro _)
    refine ⟨3, ?_⟩
    repeat (first | refine brT ?_ | refine brF ?_ | refine And.intro rfl ?_ | refine And.intro trivial ?_ | intro _)
    refine ⟨3, ?_⟩
    repeat (first | refine brT ?_ | refine brF ?_ | refine And.intro rfl ?_ | refine And.intro trivial ?_ | intro _)
    have h1 : d = true := h1
    have e : sendTo (c, b, s, r, d) v = (zC, zW, 2) := by subst h1; simp [sendTo, k1, k2]
    rw [e]
    rfl
  have h1 : d = false := h1
  subst h1
  repeat (first | refine brT ?_ | refine brF ?_ | refine And.intro rfl ?_ | refine And.intro trivial ?_ | intro _)
  refine ⟨_, i_CanSend c b s r false hb hs.1 hr.1, ?_⟩
  intro _
  refine brI (fun h1 => ?_) (fun h1 => ?_)
  · repeat (first | refine brT ?_ | refine brF ?_ | refine And.intro rfl ?_ | refine And.intro trivial ?_ | intro _)
    refine ⟨1, ?_⟩
    repeat (first | refine brT ?_ | refine brF ?_ | refine And.intro rfl ?_ | refine And.intro trivial ?_ | intro _)
    refine ⟨3, ?_⟩
    repeat (first | refine brT ?_ | refine brF ?_ | refine And.intro rfl ?_ | refine And.intro trivial ?_ | intro _)
    refine ⟨3, ?_⟩
    repeat (first | refine brT ?_ | refine brF ?_ | refine And.intro rfl ?_ | refine And.intro trivial ?_ | intro _)
    have h1 : canS c b s r false = false := by simpa using h1
    have e : sendTo (c, b, s, r, false) v = (zC, zW, 3) := by simp [sendTo, k1, k2, h1]
    rw [e]
    rfl
  have k3 : canS c b s r false = true := by simpa using h1
  repeat (first | refine brT ?_ | refine brF ?_ | refine And.intro rfl ?_ | refine And.intro trivial ?_ | intro _)
  refine ⟨_, i_copyChan (c, b, s, r, false) h, ?_⟩
  repeat (first | refine brT ?_ | refine brF ?_ | refine And.intro rfl ?_ | refine And.intro trivial ?_ | intro _)
  cases r with
  | nil =>
    refine brI (fun h1 => ?_) (fun h1 => ?_)
    · simp at h1
    have e : sendTo (c, b, s, [], false) v = ((c, b ++ [v], s, [], false), (-1, 0, 0), 0) := by simp [sendTo, k1, k2, k3]
    rw [e]
    repeat (first | refine brT ?_ | refine brF ?_ | refine And.intro rfl ?_ | refine And.intro trivial ?_ | intro _)
    refine ⟨fun t ht => (by simp at ht; subst ht; rfl), fun q0 => ?_⟩
    repeat (first | refine brT ?_ | refine brF ?_ | refine And.intro rfl ?_ | refine And.intro trivial ?_ | intro _)
    refine ⟨by simp; exact h2, fun q1 => ?_⟩
    have e1 : (b ++ [v]).map T.int = b.map T.int ++ [T.int v] := by simp
    unfold t_Chan
    simp only [e1]
    repeat (first | refine brT ?_ | refine brF ?_ | refine And.intro rfl ?_ | refine And.intro trivial ?_ | intro _)
    skip
    all_goals rfl
  | cons w r =>
    refine brI (fun h1 => ?_) (fun h1 => ?_)
    rotate_left
    · simp at h1
    have e : sendTo (c, b, s, w :: r, false) v = ((c, b, s, r, false), w, 0) := by simp [sendTo, k1, k2, k3]
    rw [e]
    have e1 : (((w :: r).map t_Waiter).take ((w :: r).map t_Waiter).length).drop 1 = r.map t_Waiter := by rw [List.take_length]; rfl
    repeat (first | refine brT ?_ | refine brF ?_ | refine And.intro rfl ?_ | refine And.intro trivial ?_ | intro _)
    refine ⟨Int.le_refl _, by simp, ?_⟩
    repeat (first | refine brT ?_ | refine brF ?_ | refine And.intro rfl ?_ | refine And.intro trivial ?_ | intro _)
    refine ⟨t_Waiter w, rfl, ?_⟩
    repeat (first | refine brT ?_ | refine brF ?_ | refine And.intro rfl ?_ | refine And.intro trivial ?_ | intro _)
    refine ⟨by decide, by simp, Nat.le_refl _, fun q2 => ?_⟩
    repeat (first | refine brT ?_ | refine brF ?_ | refine And.intro rfl ?_ | refine And.intro trivial ?_ | intro _)
    refine dr0 ((Pl.go 0 ((Pl.go 1 (Pl.go 2 (Pl.go 3 (Pl.go 4 Pl.stop)))).or (Pl.go 2 (Pl.go 1 (Pl.go 3 (Pl.go 4 Pl.stop)))))).or (Pl.go 1 (Pl.go 0 (Pl.go 2 (Pl.go 3 (Pl.go 4 Pl.stop)))))) (by kernel_rfl) ?_
    repeat' (first | (first | refine brT ?_ | refine brF ?_ | refine And.intro rfl ?_ | refine And.intro trivial ?_ | intro _) | refine ⟨Int.le_refl _, t_Waiter w, rfl, ?_⟩ | refine And.intro ?_ ?_)
    all_goals exact congrArg (fun z => [T.agg [T.int c, T.sl 1 (b.map T.int), T.sl 3 (s.map t_Waiter), T.sl 3 z, T.bool false], t_Waiter w, T.int 0]) e1


end Go.Proofs.Ytadpancnhinlbaa.E
