/- Contracts of functions of this seat's program. -/
import Derived.Test.YtcafolgfacmhcaaETy
import Derived.Test.YtcafolgfacmhcaaEC
namespace Go.Proofs.Ytcafolgfacmhcaa.E
set_option linter.unusedVariables false
theorem l_CanSend (c : Int) (b : List Int) (s r : List W3) (d : Bool) (hb : b.length ≤ 9223372036854775807) (hs : s.length ≤ 9223372036854775807) (hr : r.length ≤ 9223372036854775807) : Spec Try.prog 6 [.ro (ct c b s r d)] [T.bool true] := by
  refine fn Try.func6 ?_
  intro q
  repeat (first | refine ⟨rfl, ?_⟩ | refine brT ?_ | refine brF ?_ | intro _)
  refine ⟨_, s_szChan c b s r d 1048576, ?_⟩
  intro _
  refine brI (fun h => ?_) (fun h => ?_)
  · exact tb rfl
  obtain ⟨hb, hs, hr⟩ := szCh_in hb hs hr (of_decide_eq_false h)
  repeat (first | refine ⟨rfl, ?_⟩ | refine brT ?_ | refine brF ?_ | intro _)
  refine ⟨_, s_toChan c b s r d hb hs hr, ?_⟩
  repeat (first | refine ⟨rfl, ?_⟩ | refine brT ?_ | refine brF ?_ | intro _)
  refine ⟨_, s_CanSend c b s r d hb hs hr, ?_⟩
  repeat (first | refine ⟨rfl, ?_⟩ | refine brT ?_ | refine brF ?_ | intro _)
  refine ⟨_, s_toChan c b s r d hb hs hr, ?_⟩
  repeat (first | refine ⟨rfl, ?_⟩ | refine brT ?_ | refine brF ?_ | intro _)
  refine ⟨_, i_CanSend c b s r d hb hs hr, ?_⟩
  intro _
  refine brI (fun h => ?_) (fun h => ?_)
  · simp at h
  refine dr (.line [0, 1, 2, 3, 4]) (by kernel_rfl) ?_
  repeat (first | refine ⟨rfl, ?_⟩ | refine brT ?_ | refine brF ?_ | intro _)
  refine ⟨_, s_toChan c b s r d hb hs hr, ?_⟩
  repeat (first | refine ⟨rfl, ?_⟩ | refine brT ?_ | refine brF ?_ | intro _)
  refine ⟨_, s_eqChan c c b b s s r r d d hb hs hr, ?_⟩
  intro _
  refine brI (fun h => ?_) (fun h => ?_)
  · simp at h
  exact tb rfl


end Go.Proofs.Ytcafolgfacmhcaa.E
