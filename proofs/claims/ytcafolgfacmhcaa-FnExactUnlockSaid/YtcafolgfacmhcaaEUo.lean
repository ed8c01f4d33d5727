/- Contracts of functions of this seat's program. -/
import Derived.Test.YtcafolgfacmhcaaETy
import Derived.Test.YtcafolgfacmhcaaEUn
namespace Go.Proofs.Ytcafolgfacmhcaa.E
set_option linter.unusedVariables false
theorem i_Unlock (o : Int) (q : List Int) (g : Int) (h : q.length ≤ bound) : Spec Try.prog 16 [.ro (t_Mutex (o, q)), .ro (T.int g)] [t_Mutex (unl o q g).1, T.int (unl o q g).2.1, T.bool (unl o q g).2.2] := by
  refine fn Try.func16 ?_
  repeat (first | refine ⟨rfl, ?_⟩ | refine brT ?_ | refine brF ?_ | intro _)
  refine ⟨_, i_MutexOk (o, q) h, ?_⟩
  repeat' (first | (first | refine ⟨rfl, ?_⟩ | refine brT ?_ | refine brF ?_ | intro _) | refine brI (fun _ => ?_) (fun _ => ?_))
  all_goals try (refine ⟨1, ?_⟩; have : unl o q g = ((0, []), 0, false) := (by simp_all [unl]; try (intro hh; simp_all)); rw [this]; rfl)
  refine ⟨_, s_CloneI q h, ?_⟩
  cases q with
  | nil =>
    repeat' (first | (first | refine ⟨rfl, ?_⟩ | refine brT ?_ | refine brF ?_ | intro _) | refine brI (fun _ => ?_) (fun _ => ?_))
    all_goals try (rename_i h1; simp at h1; done)
    have : unl o [] g = ((-1, []), -1, true) := by simp_all [unl]
    rw [this]
    refine dr0 (.go 1 (.or (.go 0 (.or (.go 2 (.go 3 (.go 4 (.go 5 .stop)))) (.go 3 (.go 2 (.go 4 (.go 5 .stop)))))) (.go 2 (.go 0 (.go 3 (.go 4 (.go 5 .stop))))))) (by kernel_rfl) ?_
    repeat' (first | (first | refine ⟨rfl, ?_⟩ | refine brT ?_ | refine brF ?_ | intro _) | refine And.intro ?_ ?_)
    all_goals rfl
  | cons x r =>
    repeat' (first | (first | refine ⟨rfl, ?_⟩ | refine brT ?_ | refine brF ?_ | intro _) | refine brI (fun _ => ?_) (fun _ => ?_))
    all_goals try (rename_i h1; simp at h1; done)
    refine ⟨Int.le_refl _, by simp, ?_⟩
    repeat (first | refine ⟨rfl, ?_⟩ | refine brT ?_ | refine brF ?_ | intro _)
    refine ⟨T.int x, rfl, ?_⟩
    repeat (first | refine ⟨rfl, ?_⟩ | refine brT ?_ | refine brF ?_ | intro _)
    refine ⟨by decide, by simp, Nat.le_refl _, fun q2 => ?_⟩
    repeat (first | refine ⟨rfl, ?_⟩ | refine brT ?_ | refine brF ?_ | intro _)
    have : unl o (x :: r) g = ((x, r), x, true) := by simp_all [unl]
    rw [this]
    refine dr0 (.go 1 (.or (.go 0 (.or (.go 2 (.go 3 (.go 4 (.go 5 .stop)))) (.go 3 (.go 2 (.go 4 (.go 5 .stop)))))) (.go 2 (.go 0 (.go 3 (.go 4 (.go 5 .stop))))))) (by kernel_rfl) ?_
    repeat' (first | (first | refine ⟨rfl, ?_⟩ | refine brT ?_ | refine brF ?_ | intro _) | refine And.intro ?_ ?_)
    all_goals have e : (((x :: r).map T.int).take ((x :: r).map T.int).length).drop 1 = r.map T.int := by rw [List.take_length]; rfl
    all_goals exact congrArg (fun z => [T.agg [T.int x, T.sl 1 z], T.int x, T.bool true]) e


end Go.Proofs.Ytcafolgfacmhcaa.E
