/- Contracts of functions of this seat's program. -/
import Derived.Test.YtbofjpmighijhaaETy
import Derived.Test.YtbofjpmighijhaaEPz
namespace Go.Proofs.Ytbofjpmighijhaa.E
set_option linter.unusedVariables false
set_option linter.unusedSimpArgs false
set_option maxHeartbeats 1600000
theorem s_Print (p : Y_Prog) (hp : ok_Prog p) : Spec Try.prog 23 [.ro (t_Prog p)] [T.int (printOf p)] := by
  refine fn Try.func23 ?_
  intro q1
  repeat (first | refine brT ?_ | refine brF ?_ | refine And.intro rfl ?_ | refine And.intro trivial ?_ | intro _)
  refine ⟨_, s_ProgOk p hp, ?_⟩
  repeat (first | refine brT ?_ | refine brF ?_ | refine And.intro rfl ?_ | refine And.intro trivial ?_ | intro _)
  unfold printOf
  refine brI (fun h => ?_) (fun h => ?_)
  · have h : progOk p = false := by simpa using h
    rw [h]
    repeat (first | refine brT ?_ | refine brF ?_ | refine And.intro rfl ?_ | refine And.intro trivial ?_ | intro _)
    rfl
  have hpo : progOk p = true := by simpa using h
  clear h
  rw [hpo]
  have hn := @progNums_len p
  repeat (first | refine brT ?_ | refine brF ?_ | refine And.intro rfl ?_ | refine And.intro trivial ?_ | intro _)
  refine ⟨cB [], fun q0 => ?_⟩
  repeat (first | refine brT ?_ | refine brF ?_ | refine And.intro rfl ?_ | refine And.intro trivial ?_ | intro _)
  refine ⟨_, s_ProgNums p hp, ?_⟩
  generalize progNums p = l at hn ⊢
  intro q2
  repeat (first | refine brT ?_ | refine brF ?_ | refine And.intro rfl ?_ | refine And.intro trivial ?_ | intro _)
  refine loopI (fun x : Bool × Nat × Nat => ⟨26, [(3, .c (.own (bif x.1 then 21000 else 10000) x.2.2)), (11, .c (.own 12000 q2)), (12, .int l.length), (13, .int x.2.1)], [(12000, .row q2 0 1 (l.map T.int)), ((bif x.1 then 21000 else 10000), .row x.2.2 0 1 ((foldZ (l.take x.2.1)).map T.u8))]⟩) (fun x => l.length - x.2.1) (fun x => x.2.1 ≤ l.length) (false, 0, q0) (Nat.zero_le _) (wk rfl ⟨rfl, rfl, lenm, rfl, trivial⟩ ⟨rfl, rfl, trivial⟩) ?_
  rintro ⟨b, i, q⟩ hi
  simp only at hi
  have hk := foldZ_ok (l := l) i hi
  cases b <;> refine brD (fun h => ?_) (fun h => ?_)
  · have h : i < l.length := by simpa using h
    refine ⟨rfl, nn i, by simpa using h, ?_⟩
    repeat (first | refine brT ?_ | refine brF ?_ | refine And.intro rfl ?_ | refine And.intro trivial ?_ | intro _)
    refine ⟨T.int l[i], atm h, ?_⟩
    repeat (first | refine brT ?_ | refine brF ?_ | refine And.intro rfl ?_ | refine And.intro trivial ?_ | intro _)
    refine ⟨_, s_PutZig (foldZ (l.take i)) l[i] (by unfold bound; omega), ?_⟩
    intro q3
    repeat (first | refine brT ?_ | refine brF ?_ | refine And.intro rfl ?_ | refine And.intro trivial ?_ | intro _)
    exact nxt (true, i + 1, q3) h (by show _ < _; simp only; omega) (wk rfl ⟨rfl, rfl, rfl, up1 h (by omega), trivial⟩ ⟨rfl, gr rfl (by rw [foldZ_succ h]), trivial⟩)
  · have : i = l.length := by simp at h; omega
    subst this
    repeat (first | refine brT ?_ | refine brF ?_ | refine And.intro rfl ?_ | refine And.intro trivial ?_ | intro _)
    refine ⟨_, s_Crc (foldZ (l.take l.length)) hk.2 (by unfold bound; omega), ?_⟩
    repeat (first | refine brT ?_ | refine brF ?_ | refine And.intro rfl ?_ | refine And.intro trivial ?_ | intro _)
    exact congrArg (fun z => [T.int (crcOf (foldZ z))]) (List.take_length ..)
  · have h : i < l.length := by simpa using h
    refine ⟨rfl, nn i, by simpa using h, ?_⟩
    repeat (first | refine brT ?_ | refine brF ?_ | refine And.intro rfl ?_ | refine And.intro trivial ?_ | intro _)
    refine ⟨T.int l[i], atm h, ?_⟩
    repeat (first | refine brT ?_ | refine brF ?_ | refine And.intro rfl ?_ | refine And.intro trivial ?_ | intro _)
    refine ⟨_, s_PutZig (foldZ (l.take i)) l[i] (by unfold bound; omega), ?_⟩
    intro q3
    repeat (first | refine brT ?_ | refine brF ?_ | refine And.intro rfl ?_ | refine And.intro trivial ?_ | intro _)
    exact nxt (true, i + 1, q3) h (by show _ < _; simp only; omega) (wk rfl ⟨rfl, rfl, rfl, up1 h (by omega), trivial⟩ ⟨rfl, gr rfl (by rw [foldZ_succ h]), trivial⟩)
  · have : i = l.length := by simp at h; omega
    subst this
    repeat (first | refine brT ?_ | refine brF ?_ | refine And.intro rfl ?_ | refine And.intro trivial ?_ | intro _)
    refine ⟨_, s_Crc (foldZ (l.take l.length)) hk.2 (by unfold bound; omega), ?_⟩
    repeat (first | refine brT ?_ | refine brF ?_ | refine And.intro rfl ?_ | refine And.intro trivial ?_ | intro _)
    exact congrArg (fun z => [T.int (crcOf (foldZ z))]) (List.take_length ..)
theorem i_Print (p : Y_Prog) (hp : ok_Prog p) : Spec Try.prog 24 [.ro (t_Prog p)] [T.int (printOf p)] := by
  refine fn Try.func24 ?_
  intro q1
  repeat (first | refine brT ?_ | refine brF ?_ | refine And.intro rfl ?_ | refine And.intro trivial ?_ | intro _)
  refine ⟨_, i_ProgOk p hp, ?_⟩
  repeat (first | refine brT ?_ | refine brF ?_ | refine And.intro rfl ?_ | refine And.intro trivial ?_ | intro _)
  unfold printOf
  refine brI (fun h => ?_) (fun h => ?_)
  · have h : progOk p = false := by simpa using h
    rw [h]
    repeat (first | refine brT ?_ | refine brF ?_ | refine And.intro rfl ?_ | refine And.intro trivial ?_ | intro _)
    rfl
  have hpo : progOk p = true := by simpa using h
  clear h
  rw [hpo]
  have hn := @progNums_len p
  repeat (first | refine brT ?_ | refine brF ?_ | refine And.intro rfl ?_ | refine And.intro trivial ?_ | intro _)
  refine ⟨cB [], fun q0 => ?_⟩
  repeat (first | refine brT ?_ | refine brF ?_ | refine And.intro rfl ?_ | refine And.intro trivial ?_ | intro _)
  refine ⟨_, i_ProgNums p hp, ?_⟩
  generalize progNums p = l at hn ⊢
  intro q2
  repeat (first | refine brT ?_ | refine brF ?_ | refine And.intro rfl ?_ | refine And.intro trivial ?_ | intro _)
  refine loopI (fun x : Bool × Nat × Nat => ⟨26, [(3, .c (.own (bif x.1 then 21000 else 10000) x.2.2)), (11, .c (.own 12000 q2)), (12, .int l.length), (13, .int x.2.1)], [(12000, .row q2 0 1 (l.map T.int)), ((bif x.1 then 21000 else 10000), .row x.2.2 0 1 ((foldZ (l.take x.2.1)).map T.u8))]⟩) (fun x => l.length - x.2.1) (fun x => x.2.1 ≤ l.length) (false, 0, q0) (Nat.zero_le _) (wk rfl ⟨rfl, rfl, lenm, rfl, trivial⟩ ⟨rfl, rfl, trivial⟩) ?_
  rintro ⟨b, i, q⟩ hi
  simp only at hi
  have hk := foldZ_ok (l := l) i hi
  cases b <;> refine brD (fun h => ?_) (fun h => ?_)
  · have h : i < l.length := by simpa using h
    refine ⟨rfl, nn i, by simpa using h, ?_⟩
    repeat (first | refine brT ?_ | refine brF ?_ | refine And.intro rfl ?_ | refine And.intro trivial ?_ | intro _)
    refine ⟨T.int l[i], atm h, ?_⟩
    repeat (first | refine brT ?_ | refine brF ?_ | refine And.intro rfl ?_ | refine And.intro trivial ?_ | intro _)
    refine ⟨_, i_PutZig (foldZ (l.take i)) l[i] (by unfold bound; omega), ?_⟩
    intro q3
    repeat (first | refine brT ?_ | refine brF ?_ | refine And.intro rfl ?_ | refine And.intro trivial ?_ | intro _)
    exact nxt (true, i + 1, q3) h (by show _ < _; simp only; omega) (wk rfl ⟨rfl, rfl, rfl, up1 h (by omega), trivial⟩ ⟨rfl, gr rfl (by rw [foldZ_succ h]), trivial⟩)
  · have : i = l.length := by simp at h; omega
    subst this
    repeat (first | refine brT ?_ | refine brF ?_ | refine And.intro rfl ?_ | refine And.intro trivial ?_ | intro _)
    refine ⟨_, i_Crc (foldZ (l.take l.length)) hk.2 (by unfold bound; omega), ?_⟩
    repeat (first | refine brT ?_ | refine brF ?_ | refine And.intro rfl ?_ | refine And.intro trivial ?_ | intro _)
    exact congrArg (fun z => [T.int (crcOf (foldZ z))]) (List.take_length ..)
  · have h : i < l.length := by simpa using h
    refine ⟨rfl, nn i, by simpa using h, ?_⟩
    repeat (first | refine brT ?_ | refine brF ?_ | refine And.intro rfl ?_ | refine And.intro trivial ?_ | intro _)
    refine ⟨T.int l[i], atm h, ?_⟩
    repeat (first | refine brT ?_ | refine brF ?_ | refine And.intro rfl ?_ | refine And.intro trivial ?_ | intro _)
    refine ⟨_, i_PutZig (foldZ (l.take i)) l[i] (by unfold bound; omega), ?_⟩
    intro q3
    repeat (first | refine brT ?_ | refine brF ?_ | refine And.intro rfl ?_ | refine And.intro trivial ?_ | intro _)
    exact nxt (true, i + 1, q3) h (by show _ < _; simp only; omega) (wk rfl ⟨rfl, rfl, rfl, up1 h (by omega), trivial⟩ ⟨rfl, gr rfl (by rw [foldZ_succ h]), trivial⟩)
  · have : i = l.length := by simp at h; omega
    subst this
    repeat (first | refine brT ?_ | refine brF ?_ | refine And.intro rfl ?_ | refine And.intro trivial ?_ | intro _)
    refine ⟨_, i_Crc (foldZ (l.take l.length)) hk.2 (by unfold bound; omega), ?_⟩
    repeat (first | refine brT ?_ | refine brF ?_ | refine And.intro rfl ?_ | refine And.intro trivial ?_ | intro _)
    exact congrArg (fun z => [T.int (crcOf (foldZ z))]) (List.take_length ..)


end Go.Proofs.Ytbofjpmighijhaa.E
