/- Contracts of functions of this seat's program. -/
import Derived.Test.YtbofjpmighijhaaETy
import Derived.Test.YtbofjpmighijhaaEMe
namespace Go.Proofs.Ytbofjpmighijhaa.E
set_option linter.unusedVariables false
set_option linter.unusedSimpArgs false
set_option maxHeartbeats 1600000
def gor0 : Y_Gor := (0, 0, [0, 0, 0, 0, 0, 0], 1, [])
def chan0 (c : Int) : Y_Chan := (c, [], [], [], false)
def mut0 : Y_Mutex := (-1, [])
def engNew (p : Y_Prog) : Y_Eng := if progOk p then ([gor0], p.1.map chan0, List.replicate p.2.1.toNat mut0) else ([], [], [])
theorem engNew_mus {p : Y_Prog} (h : progOk p = true) : 0 ≤ p.2.1 ∧ p.2.1 ≤ 4 := by
  simp only [progOk, headOk, Bool.and_eq_true, decide_eq_true_eq] at h
  exact ⟨h.1.1.1.1.1.1.1.2, h.1.1.1.1.1.1.2⟩
theorem s_GorNew0 : Spec Try.prog 68 [.ro (T.int 0), .ro (T.int 0)] [t_Gor gor0] := by
  refine fn Try.func68 ?_
  repeat (first | refine brT ?_ | refine brF ?_ | refine And.intro rfl ?_ | refine And.intro trivial ?_ | intro _)
  refine ⟨_, s_l03Val 0, ?_⟩
  repeat (first | refine brT ?_ | refine brF ?_ | refine And.intro rfl ?_ | refine And.intro trivial ?_ | intro _)
  refine ⟨by decide, by decide, fun q => ?_⟩
  repeat (first | refine brT ?_ | refine brF ?_ | refine And.intro rfl ?_ | refine And.intro trivial ?_ | intro _)
  refine ⟨by decide, by decide, ?_⟩
  repeat (first | refine brT ?_ | refine brF ?_ | refine And.intro rfl ?_ | refine And.intro trivial ?_ | intro _)
  refine ⟨_, rfl, by decide, fun v => ?_⟩
  repeat (first | refine brT ?_ | refine brF ?_ | refine And.intro rfl ?_ | refine And.intro trivial ?_ | intro _)
  refine ⟨4, ?_⟩
  repeat (first | refine brT ?_ | refine brF ?_ | refine And.intro rfl ?_ | refine And.intro trivial ?_ | intro _)
  exact rfl
theorem s_MutexNew : Spec Try.prog 69 [] [t_Mutex mut0] := by
  refine fn Try.func69 ?_
  repeat (first | refine brT ?_ | refine brF ?_ | refine And.intro rfl ?_ | refine And.intro trivial ?_ | intro _)
  refine ⟨1, ?_⟩
  repeat (first | refine brT ?_ | refine brF ?_ | refine And.intro rfl ?_ | refine And.intro trivial ?_ | intro _)
  exact rfl
theorem i_GorNew0 : Spec Try.prog 70 [.ro (T.int 0), .ro (T.int 0)] [t_Gor gor0] := by
  refine fn Try.func70 ?_
  repeat (first | refine brT ?_ | refine brF ?_ | refine And.intro rfl ?_ | refine And.intro trivial ?_ | intro _)
  refine ⟨_, s_isVal 0, ?_⟩
  repeat (first | refine brT ?_ | refine brF ?_ | refine And.intro rfl ?_ | refine And.intro trivial ?_ | intro _)
  refine ⟨by decide, by decide, fun q => ?_⟩
  repeat (first | refine brT ?_ | refine brF ?_ | refine And.intro rfl ?_ | refine And.intro trivial ?_ | intro _)
  refine ⟨by decide, by decide, ?_⟩
  repeat (first | refine brT ?_ | refine brF ?_ | refine And.intro rfl ?_ | refine And.intro trivial ?_ | intro _)
  refine ⟨_, rfl, by decide, fun v => ?_⟩
  repeat (first | refine brT ?_ | refine brF ?_ | refine And.intro rfl ?_ | refine And.intro trivial ?_ | intro _)
  refine ⟨4, ?_⟩
  repeat (first | refine brT ?_ | refine brF ?_ | refine And.intro rfl ?_ | refine And.intro trivial ?_ | intro _)
  exact rfl
theorem i_MutexNew : Spec Try.prog 71 [] [t_Mutex mut0] := by
  refine fn Try.func71 ?_
  repeat (first | refine brT ?_ | refine brF ?_ | refine And.intro rfl ?_ | refine And.intro trivial ?_ | intro _)
  refine ⟨1, ?_⟩
  repeat (first | refine brT ?_ | refine brF ?_ | refine And.intro rfl ?_ | refine And.intro trivial ?_ | intro _)
  exact rfl
theorem s_EngNew (p : Y_Prog) (hp : ok_Prog p) : Spec Try.prog 32 [.ro (t_Prog p)] [t_Eng (engNew p)] := by
  refine fn Try.func32 ?_
  intro q1 q2
  repeat (first | refine brT ?_ | refine brF ?_ | refine And.intro rfl ?_ | refine And.intro trivial ?_ | intro _)
  refine ⟨_, s_ProgOk p hp, ?_⟩
  repeat (first | refine brT ?_ | refine brF ?_ | refine And.intro rfl ?_ | refine And.intro trivial ?_ | intro _)
  refine brI (fun h => ?_) (fun h => ?_)
  · have h : progOk p = false := by simpa using h
    have e : engNew p = ([], [], []) := by simp [engNew, h]
    rw [e]
    repeat (first | refine brT ?_ | refine brF ?_ | refine And.intro rfl ?_ | refine And.intro trivial ?_ | intro _)
    refine ⟨5, ?_⟩
    repeat (first | refine brT ?_ | refine brF ?_ | refine And.intro rfl ?_ | refine And.intro trivial ?_ | intro _)
    refine ⟨5, ?_⟩
    repeat (first | refine brT ?_ | refine brF ?_ | refine And.intro rfl ?_ | refine And.intro trivial ?_ | intro _)
    refine ⟨2, ?_⟩
    repeat (first | refine brT ?_ | refine brF ?_ | refine And.intro rfl ?_ | refine And.intro trivial ?_ | intro _)
    exact rfl
  have hpo : progOk p = true := by simpa using h
  clear h
  have hs := small_of hpo
  obtain ⟨m0, m4⟩ := engNew_mus hpo
  have k1 := hs.caps
  repeat (first | refine brT ?_ | refine brF ?_ | refine And.intro rfl ?_ | refine And.intro trivial ?_ | intro _)
  refine ⟨_, s_GorNew0, ?_⟩
  repeat (first | refine brT ?_ | refine brF ?_ | refine And.intro rfl ?_ | refine And.intro trivial ?_ | intro _)
  refine ⟨fun t ht => (by simp at ht; subst ht; rfl), fun qg => ?_⟩
  repeat (first | refine brT ?_ | refine brF ?_ | refine And.intro rfl ?_ | refine And.intro trivial ?_ | intro _)
  rename_i q3
  refine loopE (fun x : Nat × Nat => ⟨42, [(1, .c (.bx 2000 q1 0)), (2, .c (.bx 3000 q2 0)), (3, .c (.bx 4000 q3 0)), (15, .c (.ro 1 (p.1.map T.int))), (16, .int p.1.length), (17, .int x.1)], [(2000, .box q1 [.ro 1 (p.1.map T.int), .v (.int .i64 p.2.1), .ro 2 (p.2.2.1.map t_Select), .ro 1 (p.2.2.2.map t_Proc)]), (3000, .box q2 [.v (.slice none 0 0), .v (.slice none 0 0), .v (.slice none 0 0)]), (4000, .box q3 [.own 13000 qg, .own 27000 x.2, .v (.slice none 0 0)]), (13000, .row qg 0 5 [t_Gor gor0]), (27000, .row x.2 0 5 ((p.1.take x.1).map fun c => t_Chan (chan0 c)))]⟩) (fun x => p.1.length - x.1) (fun x => x.1 ≤ p.1.length) (.box 4000 27000 1 5 rfl rfl rfl rfl (fun qc => .here ⟨(0, qc), Nat.zero_le _, rfl⟩ (wk rfl ⟨rfl, rfl, rfl, rfl, lenm, rfl, trivial⟩ ⟨rfl, rfl, rfl, rfl, rfl, trivial⟩))) ?_
  rintro ⟨i, q⟩ hi
  simp only at hi
  refine brD (fun h => ?_) (fun h => ?_)
  · have h : i < p.1.length := by simpa using h
    refine ⟨nn i, T.int p.1[i], atm h, ?_⟩
    repeat (first | refine brT ?_ | refine brF ?_ | refine And.intro rfl ?_ | refine And.intro trivial ?_ | intro _)
    refine ⟨1, ?_⟩
    repeat (first | refine brT ?_ | refine brF ?_ | refine And.intro rfl ?_ | refine And.intro trivial ?_ | intro _)
    refine ⟨3, ?_⟩
    repeat (first | refine brT ?_ | refine brF ?_ | refine And.intro rfl ?_ | refine And.intro trivial ?_ | intro _)
    refine ⟨3, ?_⟩
    repeat (first | refine brT ?_ | refine brF ?_ | refine And.intro rfl ?_ | refine And.intro trivial ?_ | intro _)
    refine ⟨fun t ht => (by simp at ht; subst ht; rfl), fun q4 => ?_⟩
    repeat (first | refine brT ?_ | refine brF ?_ | refine And.intro rfl ?_ | refine And.intro trivial ?_ | intro _)
    refine ⟨by simp; unfold bound; omega, fun q5 => ?_⟩
    repeat (first | refine brT ?_ | refine brF ?_ | refine And.intro rfl ?_ | refine And.intro trivial ?_ | intro _)
    exact nxt (i + 1, q5) h (by show _ < _; simp only; omega) (wk rfl ⟨rfl, rfl, rfl, rfl, rfl, up1 h (by omega), trivial⟩ ⟨rfl, rfl, rfl, rfl, gr rfl (by rw [List.take_succ_eq_append_getElem h, List.map_append]; rfl), trivial⟩)
  · have : i = p.1.length := by simp at h; omega
    subst this
    repeat (first | refine brT ?_ | refine brF ?_ | refine And.intro rfl ?_ | refine And.intro trivial ?_ | intro _)
    refine loopE (fun x : Nat × Nat => ⟨42, [(1, .c (.bx 2000 q1 0)), (2, .c (.bx 3000 q2 0)), (3, .c (.bx 4000 q3 0)), (6, .int x.1)], [(2000, .box q1 [.ro 1 (p.1.map T.int), .v (.int .i64 p.2.1), .ro 2 (p.2.2.1.map t_Select), .ro 1 (p.2.2.2.map t_Proc)]), (3000, .box q2 [.v (.slice none 0 0), .v (.slice none 0 0), .v (.slice none 0 0)]), (4000, .box q3 [.own 13000 qg, .own 27000 q, .own 40000 x.2]), (13000, .row qg 0 5 [t_Gor gor0]), (27000, .row q 0 5 (p.1.map fun c => t_Chan (chan0 c))), (40000, .row x.2 0 2 (List.replicate x.1 (t_Mutex mut0)))]⟩) (fun x => p.2.1.toNat - x.1) (fun x => x.1 ≤ p.2.1.toNat) (.box 4000 40000 2 2 rfl rfl rfl rfl (fun qc => .here ⟨(0, qc), Nat.zero_le _, rfl⟩ (wk rfl ⟨rfl, rfl, rfl, rfl, trivial⟩ ⟨rfl, rfl, rfl, rfl, gr rfl (by rw [List.take_length]), rfl, trivial⟩))) ?_
    rintro ⟨j, q6⟩ hj
    simp only at hj
    repeat (first | refine brT ?_ | refine brF ?_ | refine And.intro rfl ?_ | refine And.intro trivial ?_ | intro _)
    refine brD (fun h => ?_) (fun h => ?_)
    · have h : j < p.2.1.toNat := by have : (j : Int) < p.2.1 := h; omega
      refine dr0 (Pl.go 0 ((Pl.go 1 (Pl.go 2 (Pl.go 3 (Pl.go 4 (Pl.go 5 (Pl.go 6 Pl.stop)))))).or (Pl.go 2 ((Pl.go 1 (Pl.go 3 (Pl.go 4 (Pl.go 5 (Pl.go 6 Pl.stop))))).or (Pl.go 3 (Pl.go 1 (Pl.go 4 (Pl.go 5 (Pl.go 6 Pl.stop))))))))) (by kernel_rfl) ?_
      repeat' (first | (first | refine brT ?_ | refine brF ?_ | refine And.intro rfl ?_ | refine And.intro trivial ?_ | intro _) | refine ⟨_, s_MutexNew, ?_⟩ | refine ⟨fun t ht => (by simp at ht; subst ht; rfl), fun _ => ?_⟩ | refine ⟨?len, fun _ => ?_⟩ | refine And.intro ?_ ?_)
      all_goals first
        | (show (List.replicate _ _).length + _ ≤ _; simp; unfold bound; omega)
        | exact nxt (j + 1, _) h (by show _ < _; simp only; omega) (wk rfl ⟨rfl, rfl, rfl, up1 h (by omega), trivial⟩ ⟨rfl, rfl, rfl, rfl, rfl, gr rfl (by rw [List.replicate_succ']; rfl), trivial⟩)
    · have : j = p.2.1.toNat := by have : ¬ (j : Int) < p.2.1 := h; omega
      subst this
      repeat (first | refine brT ?_ | refine brF ?_ | refine And.intro rfl ?_ | refine And.intro trivial ?_ | intro _)
      have e : engNew p = ([gor0], p.1.map chan0, List.replicate p.2.1.toNat mut0) := by simp [engNew, hpo]
      have r : [T.agg [.sl 5 [t_Gor gor0], .sl 5 ((p.1.take p.1.length).map fun c => t_Chan (chan0 c)), .sl 2 (List.replicate p.2.1.toNat (t_Mutex mut0))]] = [t_Eng (engNew p)] := by
        rw [e, List.take_length]
        unfold t_Eng
        rw [List.map_map, List.map_replicate]; rfl
      rw [List.take_length] at r
      exact r
theorem i_EngNew (p : Y_Prog) (hp : ok_Prog p) : Spec Try.prog 33 [.ro (t_Prog p)] [t_Eng (engNew p)] := by
  refine fn Try.func33 ?_
  intro q1 q2
  repeat (first | refine brT ?_ | refine brF ?_ | refine And.intro rfl ?_ | refine And.intro trivial ?_ | intro _)
  refine ⟨_, i_ProgOk p hp, ?_⟩
  repeat (first | refine brT ?_ | refine brF ?_ | refine And.intro rfl ?_ | refine And.intro trivial ?_ | intro _)
  refine brI (fun h => ?_) (fun h => ?_)
  · have h : progOk p = false := by simpa using h
    have e : engNew p = ([], [], []) := by simp [engNew, h]
    rw [e]
    repeat (first | refine brT ?_ | refine brF ?_ | refine And.intro rfl ?_ | refine And.intro trivial ?_ | intro _)
    refine ⟨5, ?_⟩
    repeat (first | refine brT ?_ | refine brF ?_ | refine And.intro rfl ?_ | refine And.intro trivial ?_ | intro _)
    refine ⟨5, ?_⟩
    repeat (first | refine brT ?_ | refine brF ?_ | refine And.intro rfl ?_ | refine And.intro trivial ?_ | intro _)
    refine ⟨2, ?_⟩
    repeat (first | refine brT ?_ | refine brF ?_ | refine And.intro rfl ?_ | refine And.intro trivial ?_ | intro _)
    exact rfl
  have hpo : progOk p = true := by simpa using h
  clear h
  have hs := small_of hpo
  obtain ⟨m0, m4⟩ := engNew_mus hpo
  have k1 := hs.caps
  repeat (first | refine brT ?_ | refine brF ?_ | refine And.intro rfl ?_ | refine And.intro trivial ?_ | intro _)
  refine ⟨_, i_GorNew0, ?_⟩
  repeat (first | refine brT ?_ | refine brF ?_ | refine And.intro rfl ?_ | refine And.intro trivial ?_ | intro _)
  refine ⟨fun t ht => (by simp at ht; subst ht; rfl), fun qg => ?_⟩
  repeat (first | refine brT ?_ | refine brF ?_ | refine And.intro rfl ?_ | refine And.intro trivial ?_ | intro _)
  rename_i q3
  refine loopE (fun x : Nat × Nat => ⟨40, [(1, .c (.bx 2000 q1 0)), (2, .c (.bx 3000 q2 0)), (3, .c (.bx 4000 q3 0)), (14, .c (.ro 1 (p.1.map T.int))), (15, .int p.1.length), (16, .int x.1)], [(2000, .box q1 [.ro 1 (p.1.map T.int), .v (.int .i64 p.2.1), .ro 2 (p.2.2.1.map t_Select), .ro 1 (p.2.2.2.map t_Proc)]), (3000, .box q2 [.v (.slice none 0 0), .v (.slice none 0 0), .v (.slice none 0 0)]), (4000, .box q3 [.own 12000 qg, .own 26000 x.2, .v (.slice none 0 0)]), (12000, .row qg 0 5 [t_Gor gor0]), (26000, .row x.2 0 5 ((p.1.take x.1).map fun c => t_Chan (chan0 c)))]⟩) (fun x => p.1.length - x.1) (fun x => x.1 ≤ p.1.length) (.box 4000 26000 1 5 rfl rfl rfl rfl (fun qc => .here ⟨(0, qc), Nat.zero_le _, rfl⟩ (wk rfl ⟨rfl, rfl, rfl, rfl, lenm, rfl, trivial⟩ ⟨rfl, rfl, rfl, rfl, rfl, trivial⟩))) ?_
  rintro ⟨i, q⟩ hi
  simp only at hi
  refine brD (fun h => ?_) (fun h => ?_)
  · have h : i < p.1.length := by simpa using h
    refine ⟨nn i, T.int p.1[i], atm h, ?_⟩
    repeat (first | refine brT ?_ | refine brF ?_ | refine And.intro rfl ?_ | refine And.intro trivial ?_ | intro _)
    refine ⟨1, ?_⟩
    repeat (first | refine brT ?_ | refine brF ?_ | refine And.intro rfl ?_ | refine And.intro trivial ?_ | intro _)
    refine ⟨3, ?_⟩
    repeat (first | refine brT ?_ | refine brF ?_ | refine And.intro rfl ?_ | refine And.intro trivial ?_ | intro _)
    refine ⟨3, ?_⟩
    repeat (first | refine brT ?_ | refine brF ?_ | refine And.intro rfl ?_ | refine And.intro trivial ?_ | intro _)
    refine ⟨fun t ht => (by simp at ht; subst ht; rfl), fun q4 => ?_⟩
    repeat (first | refine brT ?_ | refine brF ?_ | refine And.intro rfl ?_ | refine And.intro trivial ?_ | intro _)
    refine ⟨by simp; unfold bound; omega, fun q5 => ?_⟩
    repeat (first | refine brT ?_ | refine brF ?_ | refine And.intro rfl ?_ | refine And.intro trivial ?_ | intro _)
    exact nxt (i + 1, q5) h (by show _ < _; simp only; omega) (wk rfl ⟨rfl, rfl, rfl, rfl, rfl, up1 h (by omega), trivial⟩ ⟨rfl, rfl, rfl, rfl, gr rfl (by rw [List.take_succ_eq_append_getElem h, List.map_append]; rfl), trivial⟩)
  · have : i = p.1.length := by simp at h; omega
    subst this
    repeat (first | refine brT ?_ | refine brF ?_ | refine And.intro rfl ?_ | refine And.intro trivial ?_ | intro _)
    refine loopE (fun x : Nat × Nat => ⟨40, [(1, .c (.bx 2000 q1 0)), (2, .c (.bx 3000 q2 0)), (3, .c (.bx 4000 q3 0)), (29, .int p.2.1), (30, .int x.1)], [(2000, .box q1 [.ro 1 (p.1.map T.int), .v (.int .i64 p.2.1), .ro 2 (p.2.2.1.map t_Select), .ro 1 (p.2.2.2.map t_Proc)]), (3000, .box q2 [.v (.slice none 0 0), .v (.slice none 0 0), .v (.slice none 0 0)]), (4000, .box q3 [.own 12000 qg, .own 26000 q, .own 37000 x.2]), (12000, .row qg 0 5 [t_Gor gor0]), (26000, .row q 0 5 (p.1.map fun c => t_Chan (chan0 c))), (37000, .row x.2 0 2 (List.replicate x.1 (t_Mutex mut0)))]⟩) (fun x => p.2.1.toNat - x.1) (fun x => x.1 ≤ p.2.1.toNat) (.box 4000 37000 2 2 rfl rfl rfl rfl (fun qc => .here ⟨(0, qc), Nat.zero_le _, rfl⟩ (wk rfl ⟨rfl, rfl, rfl, rfl, rfl, trivial⟩ ⟨rfl, rfl, rfl, rfl, gr rfl (by rw [List.take_length]), rfl, trivial⟩))) ?_
    rintro ⟨j, q6⟩ hj
    simp only at hj
    repeat (first | refine brT ?_ | refine brF ?_ | refine And.intro rfl ?_ | refine And.intro trivial ?_ | intro _)
    refine brD (fun h => ?_) (fun h => ?_)
    · have h : j < p.2.1.toNat := by have : (j : Int) < p.2.1 := h; omega
      refine dr0 (Pl.go 0 ((Pl.go 1 (Pl.go 2 (Pl.go 3 (Pl.go 4 (Pl.go 5 (Pl.go 6 Pl.stop)))))).or (Pl.go 2 ((Pl.go 1 (Pl.go 3 (Pl.go 4 (Pl.go 5 (Pl.go 6 Pl.stop))))).or (Pl.go 3 (Pl.go 1 (Pl.go 4 (Pl.go 5 (Pl.go 6 Pl.stop))))))))) (by kernel_rfl) ?_
      repeat' (first | (first | refine brT ?_ | refine brF ?_ | refine And.intro rfl ?_ | refine And.intro trivial ?_ | intro _) | refine ⟨_, i_MutexNew, ?_⟩ | refine ⟨fun t ht => (by simp at ht; subst ht; rfl), fun _ => ?_⟩ | refine ⟨?len, fun _ => ?_⟩ | refine And.intro ?_ ?_)
      all_goals first
        | (show (List.replicate _ _).length + _ ≤ _; simp; unfold bound; omega)
        | exact nxt (j + 1, _) h (by show _ < _; simp only; omega) (wk rfl ⟨rfl, rfl, rfl, rfl, up1 h (by omega), trivial⟩ ⟨rfl, rfl, rfl, rfl, rfl, gr rfl (by rw [List.replicate_succ']; rfl), trivial⟩)
    · have : j = p.2.1.toNat := by have : ¬ (j : Int) < p.2.1 := h; omega
      subst this
      repeat (first | refine brT ?_ | refine brF ?_ | refine And.intro rfl ?_ | refine And.intro trivial ?_ | intro _)
      have e : engNew p = ([gor0], p.1.map chan0, List.replicate p.2.1.toNat mut0) := by simp [engNew, hpo]
      have r : [T.agg [.sl 5 [t_Gor gor0], .sl 5 ((p.1.take p.1.length).map fun c => t_Chan (chan0 c)), .sl 2 (List.replicate p.2.1.toNat (t_Mutex mut0))]] = [t_Eng (engNew p)] := by
        rw [e, List.take_length]
        unfold t_Eng
        rw [List.map_map, List.map_replicate]; rfl
      rw [List.take_length] at r
      exact r
theorem ok_engNew (p : Y_Prog) (hp : ok_Prog p) : ok_Eng (engNew p) := by
  have b0 : (0 : Nat) ≤ bound := Nat.zero_le _
  unfold engNew
  split
  · rename_i h
    obtain ⟨m0, m4⟩ := engNew_mus h
    refine ⟨⟨by unfold bound; simp, fun y hy => ?_⟩, ⟨?_, fun y hy => ?_⟩, ⟨?_, fun y hy => ?_⟩⟩
    · obtain rfl := List.mem_singleton.1 hy
      exact ⟨by unfold bound; decide, b0, fun y hy => by cases hy⟩
    · have : p.1.length ≤ bound := Nat.le_trans (small_of h).caps (by decide)
      simpa using this
    · obtain ⟨c, _, rfl⟩ := List.mem_map.1 hy
      exact ⟨b0, ⟨b0, fun y hy => by cases hy⟩, ⟨b0, fun y hy => by cases hy⟩⟩
    · show (List.replicate _ _).length ≤ _; unfold bound; simp; omega
    · obtain ⟨_, rfl⟩ := List.mem_replicate.1 hy
      exact b0
  · exact ⟨⟨b0, fun y hy => by cases hy⟩, ⟨b0, fun y hy => by cases hy⟩, ⟨b0, fun y hy => by cases hy⟩⟩


end Go.Proofs.Ytbofjpmighijhaa.E
