/- Contracts of functions of this seat's program. -/
import Derived.Test.YtcafolgfacmhcaaETy
import Derived.Test.YtcafolgfacmhcaaEMo
namespace Go.Proofs.Ytcafolgfacmhcaa.E
set_option linter.unusedVariables false
theorem vI {l : List Int} : ∀ t ∈ l.map T.int, ∀ c ∈ t.cells, ∃ x, c = T.v x := by
  intro t ht c hc
  obtain ⟨n, _, rfl⟩ := List.mem_map.1 ht
  have : c = T.int n := by simpa [T.int, T.cells] using hc
  exact ⟨_, this⟩
theorem s_l07Copy (x : Y_Mutex) (h : ok_Mutex x) : Spec Try.prog 51 [.ro (t_Mutex x)] [t_Mutex x] := by
  refine fn Try.func51 ?_
  repeat (first | refine ⟨rfl, ?_⟩ | refine brT ?_ | refine brF ?_ | intro _)
  refine ⟨fun t h => (by cases h), fun q0 => ?_⟩
  repeat (first | refine ⟨rfl, ?_⟩ | refine brT ?_ | refine brF ?_ | intro _)
  refine ⟨vI, by simp; exact h, fun q => ?_⟩
  repeat (first | refine ⟨rfl, ?_⟩ | refine brT ?_ | refine brF ?_ | intro _)
  rfl
theorem s_CloneI (l : List Int) (hl : l.length ≤ bound) : Spec Try.prog 54 [.ro (.sl 1 (l.map T.int))] [.sl 1 (l.map T.int)] := by
  refine fn Try.func54 ?_
  intro b hb
  refine brI (fun h => ?_) (fun h => ?_)
  · have : l = [] := by
      cases l with
      | nil => rfl
      | cons a r => have := hb (by simp); rw [h] at this; cases this
    subst this
    exact ⟨1, rfl⟩
  · refine ⟨fun t h => (by cases h), fun q0 => ?_⟩
    repeat (first | refine ⟨rfl, ?_⟩ | refine brT ?_ | refine brF ?_ | intro _)
    refine ⟨vI, by simp; exact hl, fun q => ?_⟩
    repeat (first | refine ⟨rfl, ?_⟩ | refine brT ?_ | refine brF ?_ | intro _)
    rfl
def unl (o : Int) (q : List Int) (g : Int) : Y_Mutex × Int × Bool :=
  if mxOk o q && !decide (g < 0) && o == g then (match q with
    | [] => ((-1, []), -1, true)
    | x :: r => ((x, r), x, true)) else ((0, []), 0, false)
theorem s_Unlock (o : Int) (q : List Int) (g : Int) (h : q.length ≤ bound) : Spec Try.prog 14 [.ro (t_Mutex (o, q)), .ro (T.int g)] [t_Mutex (unl o q g).1, T.int (unl o q g).2.1, T.bool (unl o q g).2.2] := by
  refine fn Try.func14 ?_
  repeat (first | refine ⟨rfl, ?_⟩ | refine brT ?_ | refine brF ?_ | intro _)
  refine ⟨_, s_MutexOk (o, q) h, ?_⟩
  repeat' (first | (first | refine ⟨rfl, ?_⟩ | refine brT ?_ | refine brF ?_ | intro _) | refine brI (fun _ => ?_) (fun _ => ?_))
  all_goals try (refine ⟨1, ?_⟩; have : unl o q g = ((0, []), 0, false) := (by simp_all [unl]); rw [this]; rfl)
  refine ⟨_, s_l07Copy (o, q) h, ?_⟩
  cases q with
  | nil =>
    repeat' (first | (first | refine ⟨rfl, ?_⟩ | refine brT ?_ | refine brF ?_ | intro _) | refine brI (fun _ => ?_) (fun _ => ?_))
    all_goals try (rename_i h1; simp at h1; done)
    have : unl o [] g = ((-1, []), -1, true) := by simp_all [unl]
    rw [this]
    refine dr0 (.go 1 (.or (.go 0 (.or (.go 2 (.go 3 (.go 4 (.go 5 .stop)))) (.go 3 (.go 2 (.go 4 (.go 5 .stop)))))) (.go 2 (.go 0 (.go 3 (.go 4 (.go 5 .stop))))))) (by kernel_rfl) ?_
    repeat' (first | (first | refine ⟨rfl, ?_⟩ | refine brT ?_ | refine brF ?_ | intro _) | refine And.intro ?_ ?_)
    all_goals rfl
  | cons x r =>
    repeat' (first | (first | refine ⟨rfl, ?_⟩ | refine brT ?_ | refine brF ?_ | intro _) | refine brI (fun _ => ?_) (fun _ => ?_))
    all_goals try (rename_i h1; simp at h1; done)
    refine ⟨Int.le_refl _, T.int x, rfl, ?_⟩
    repeat (first | refine ⟨rfl, ?_⟩ | refine brT ?_ | refine brF ?_ | intro _)
    refine ⟨by decide, by simp, Nat.le_refl _, fun q2 => ?_⟩
    repeat (first | refine ⟨rfl, ?_⟩ | refine brT ?_ | refine brF ?_ | intro _)
    have : unl o (x :: r) g = ((x, r), x, true) := by simp_all [unl]
    rw [this]
    refine dr0 (.go 1 (.or (.go 0 (.or (.go 2 (.go 3 (.go 4 (.go 5 .stop)))) (.go 3 (.go 2 (.go 4 (.go 5 .stop)))))) (.go 2 (.go 0 (.go 3 (.go 4 (.go 5 .stop))))))) (by kernel_rfl) ?_
    repeat' (first | (first | refine ⟨rfl, ?_⟩ | refine brT ?_ | refine brF ?_ | intro _) | refine And.intro ?_ ?_)
    all_goals have e : (((x :: r).map T.int).take ((x :: r).map T.int).length).drop 1 = r.map T.int := by rw [List.take_length]; rfl
    all_goals exact congrArg (fun z => [T.agg [T.int x, T.sl 1 z], T.int x, T.bool true]) e


end Go.Proofs.Ytcafolgfacmhcaa.E
