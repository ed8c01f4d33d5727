/- Contracts of functions of this seat's program. -/
import Derived.Test.YtcafolgfacmhcaaETy
import Derived.Test.YtcafolgfacmhcaaEC
namespace Go.Proofs.Ytcafolgfacmhcaa.E
set_option linter.unusedVariables false
theorem szI_in {l : Nat} {n : Int} (hl : l ≤ 9223372036854775807) (h0 : 0 ≤ n) (hn : n ≤ 1048576) (h : ¬ szI l n < 0) : (l : Int) ≤ n ∧ szI l n = n - l := by
  have hw : w64 (n - l) = n - l := w64_id (by omega) (by omega)
  unfold szI at h ⊢
  rw [hw] at h ⊢
  split at h
  · omega
  · rename_i h1
    rw [if_neg h1]; omega
theorem szCh_in {b s r : Nat} (hb : b ≤ 9223372036854775807) (hs : s ≤ 9223372036854775807) (hr : r ≤ 9223372036854775807) (h : ¬ szCh b s r 1048576 < 0) : b ≤ bound ∧ s ≤ bound ∧ r ≤ bound := by
  unfold szCh at h
  split at h
  · omega
  split at h
  · omega
  split at h
  · omega
  rename_i h1 h2 h3
  obtain ⟨a1, a2⟩ := szI_in hb (by omega) (by omega) h1
  obtain ⟨a3, a4⟩ := szI_in hs (by omega) (by omega) h2
  obtain ⟨a5, a6⟩ := szI_in hr (by omega) (by omega) h3
  unfold bound
  omega
theorem l_ChanOk (c : Int) (b : List Int) (s r : List W3) (d : Bool) (hb : b.length ≤ 9223372036854775807) (hs : s.length ≤ 9223372036854775807) (hr : r.length ≤ 9223372036854775807) : Spec Try.prog 4 [.ro (ct c b s r d)] [T.bool true] := by
  refine fn Try.func4 ?_
  intro q
  repeat (first | refine ⟨rfl, ?_⟩ | refine brT ?_ | refine brF ?_ | intro _)
  refine ⟨_, s_szChan c b s r d 1048576, ?_⟩
  intro _
  refine brI (fun h => ?_) (fun h => ?_)
  · exact tb rfl
  obtain ⟨hb, hs, hr⟩ := szCh_in hb hs hr (of_decide_eq_false h)
  repeat (first | refine ⟨rfl, ?_⟩ | refine brT ?_ | refine brF ?_ | intro _)
  refine ⟨_, s_toChan c b s r d hb hs hr, ?_⟩
  repeat (first | refine ⟨rfl, ?_⟩ | refine brT ?_ | refine brF ?_ | intro _)
  refine ⟨_, s_ChanOk c b s r d hb hs hr, ?_⟩
  repeat (first | refine ⟨rfl, ?_⟩ | refine brT ?_ | refine brF ?_ | intro _)
  refine ⟨_, s_toChan c b s r d hb hs hr, ?_⟩
  repeat (first | refine ⟨rfl, ?_⟩ | refine brT ?_ | refine brF ?_ | intro _)
  refine ⟨_, i_ChanOk c b s r d hb hs hr, ?_⟩
  intro _
  refine brI (fun h => ?_) (fun h => ?_)
  · simp at h
  refine dr (.line [0, 1, 2, 3, 4]) (by kernel_rfl) ?_
  repeat (first | refine ⟨rfl, ?_⟩ | refine brT ?_ | refine brF ?_ | intro _)
  refine ⟨_, s_toChan c b s r d hb hs hr, ?_⟩
  repeat (first | refine ⟨rfl, ?_⟩ | refine brT ?_ | refine brF ?_ | intro _)
  refine ⟨_, s_eqChan c c b b s s r r d d hb hs hr, ?_⟩
  intro _
  refine brI (fun h => ?_) (fun h => ?_)
  · simp at h
  exact tb rfl


end Go.Proofs.Ytcafolgfacmhcaa.E
