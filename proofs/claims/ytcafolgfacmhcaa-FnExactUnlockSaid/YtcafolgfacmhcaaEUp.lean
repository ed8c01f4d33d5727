/- Contracts of functions of this seat's program. -/
import Derived.Test.YtcafolgfacmhcaaETy
import Derived.Test.YtcafolgfacmhcaaEUo
namespace Go.Proofs.Ytcafolgfacmhcaa.E
set_option linter.unusedVariables false
theorem s_markMutex (o : Int) (q : List Int) (k : Int) (h : q.length ≤ bound) (h0 : 0 ≤ k) (hk : k ≤ 4611686018427387904) : Spec Try.prog 18 [.rw (t_Mutex (o, q)) (.agg [T.int o, .sl 1 (mkI q.length k)]), .ro (.int k)] [.int (k + q.length)] := by
  refine fn Try.func18 ?_
  repeat (first | refine ⟨rfl, ?_⟩ | refine brT ?_ | refine brF ?_ | intro _)
  refine ⟨_, rfl, _, s_markIntS q k h h0 hk, ?_⟩
  intro v
  repeat (first | refine ⟨rfl, ?_⟩ | refine brT ?_ | refine brF ?_ | intro _)
  exact rfl
theorem s_heldMutex (o : Int) (n : Nat) (k : Int) (h : n ≤ bound) (h0 : 0 ≤ k) (hk : k ≤ 4611686018427387904) : Spec Try.prog 19 [.ro (.agg [T.int o, .sl 1 (mkI n k)]), .ro (.int k)] [.int (k + n)] := by
  refine fn Try.func19 ?_
  repeat (first | refine ⟨rfl, ?_⟩ | refine brT ?_ | refine brF ?_ | intro _)
  refine ⟨_, s_heldIntS n k h h0 hk, ?_⟩
  intro _
  refine brI (fun h1 => ?_) (fun h1 => ?_)
  · have := of_decide_eq_true h1; omega
  · exact ti rfl
theorem ok_unl {o : Int} {q : List Int} {g : Int} (h : q.length ≤ bound) : (unl o q g).1.2.length ≤ bound := by
  unfold unl
  split
  · cases q with
    | nil => exact Nat.zero_le _
    | cons x r => exact Nat.le_of_succ_le h
  · exact Nat.zero_le _
theorem l_Unlock (x : Y_Mutex) (g : Int) (hr : raw_Mutex x) : Spec Try.prog 3 [.ro (t_Mutex x), .ro (T.int g)] [T.bool true] := by
  refine fn Try.func3 ?_
  intro q0
  repeat (first | refine ⟨rfl, ?_⟩ | refine brT ?_ | refine brF ?_ | intro _)
  refine ⟨_, s_szMutex x 1048576 hr (by decide) (by decide), ?_⟩
  intro _
  refine brI (fun h => ?_) (fun h => ?_)
  · exact tb rfl
  obtain ⟨ho, _, _⟩ := in_Mutex hr (by decide) (by decide) (of_decide_eq_false h)
  obtain ⟨o, q⟩ := x
  have hb : q.length ≤ bound := ho
  have hu := ok_unl (o := o) (g := g) hb
  have hu2 : (unl o q g).1.2.length ≤ 1073741824 := hu
  repeat (first | refine ⟨rfl, ?_⟩ | refine brT ?_ | refine brF ?_ | intro _)
  refine ⟨_, s_toMutex (o, q) ho, ?_⟩
  repeat (first | refine ⟨rfl, ?_⟩ | refine brT ?_ | refine brF ?_ | intro _)
  refine ⟨_, s_Unlock o q g hb, ?_⟩
  repeat (first | refine ⟨rfl, ?_⟩ | refine brT ?_ | refine brF ?_ | intro _)
  refine ⟨_, s_toMutex (o, q) ho, ?_⟩
  repeat (first | refine ⟨rfl, ?_⟩ | refine brT ?_ | refine brF ?_ | intro _)
  refine ⟨_, i_Unlock o q g hb, ?_⟩
  repeat (first | refine ⟨rfl, ?_⟩ | refine brT ?_ | refine brF ?_ | intro _)
  refine ⟨_, s_eqMutex (unl o q g).1 (unl o q g).1 hu, ?_⟩
  repeat' (first | (first | refine ⟨rfl, ?_⟩ | refine brT ?_ | refine brF ?_ | intro _) | refine brI (fun _ => ?_) (fun _ => ?_))
  all_goals try (rename_i h1; simp at h1; done)
  refine dr (.line [0, 1, 2, 3, 4]) (by kernel_rfl) ?_
  repeat (first | refine ⟨rfl, ?_⟩ | refine brT ?_ | refine brF ?_ | intro _)
  refine ⟨_, s_toMutex (o, q) ho, ?_⟩
  repeat (first | refine ⟨rfl, ?_⟩ | refine brT ?_ | refine brF ?_ | intro _)
  refine ⟨_, s_eqMutex (o, q) (o, q) ho, ?_⟩
  repeat' (first | (first | refine ⟨rfl, ?_⟩ | refine brT ?_ | refine brF ?_ | intro _) | refine brI (fun _ => ?_) (fun _ => ?_))
  all_goals try (rename_i h1; simp at h1; done)
  refine ⟨_, rfl, _, s_markMutex o q 1 hb (by decide) (by decide), ?_⟩
  repeat' (first | (first | refine ⟨rfl, ?_⟩ | refine brT ?_ | refine brF ?_ | intro _) | refine brI (fun _ => ?_) (fun _ => ?_))
  all_goals try (rename_i h1; simp at h1; omega)
  refine ⟨_, s_eqMutex (unl o q g).1 (unl o q g).1 hu, ?_⟩
  repeat' (first | (first | refine ⟨rfl, ?_⟩ | refine brT ?_ | refine brF ?_ | intro _) | refine brI (fun _ => ?_) (fun _ => ?_))
  all_goals try (rename_i h1; simp at h1; done)
  refine ⟨_, rfl, _, s_markMutex (unl o q g).1.1 (unl o q g).1.2 1 hu (by decide) (by decide), ?_⟩
  repeat (first | refine ⟨rfl, ?_⟩ | refine brT ?_ | refine brF ?_ | intro _)
  refine ⟨_, s_heldMutex (unl o q g).1.1 (unl o q g).1.2.length 1 hu (by decide) (by decide), ?_⟩
  repeat' (first | (first | refine ⟨rfl, ?_⟩ | refine brT ?_ | refine brF ?_ | intro _) | refine brI (fun _ => ?_) (fun _ => ?_))
  all_goals try (rename_i h1; simp at h1; done)
  all_goals try (rename_i h1; simp at h1; omega)
  refine ⟨_, s_toMutex (o, q) ho, ?_⟩
  repeat (first | refine ⟨rfl, ?_⟩ | refine brT ?_ | refine brF ?_ | intro _)
  refine ⟨_, i_Unlock o q g hb, ?_⟩
  repeat (first | refine ⟨rfl, ?_⟩ | refine brT ?_ | refine brF ?_ | intro _)
  refine ⟨_, s_eqMutex (unl o q g).1 (unl o q g).1 hu, ?_⟩
  repeat' (first | (first | refine ⟨rfl, ?_⟩ | refine brT ?_ | refine brF ?_ | intro _) | refine brI (fun _ => ?_) (fun _ => ?_))
  all_goals try (rename_i h1; simp at h1; done)
  refine ⟨_, s_heldMutex (unl o q g).1.1 (unl o q g).1.2.length 1 hu (by decide) (by decide), ?_⟩
  repeat' (first | (first | refine ⟨rfl, ?_⟩ | refine brT ?_ | refine brF ?_ | intro _) | refine brI (fun _ => ?_) (fun _ => ?_))
  all_goals try (rename_i h1; simp at h1; done)
  all_goals try (rename_i h1; simp at h1; omega)
  exact tb rfl


end Go.Proofs.Ytcafolgfacmhcaa.E
