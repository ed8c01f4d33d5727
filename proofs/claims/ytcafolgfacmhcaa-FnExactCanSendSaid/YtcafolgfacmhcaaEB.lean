/- Contracts of functions of this seat's program. -/
import Derived.Test.YtcafolgfacmhcaaETy
import Derived.Test.YtcafolgfacmhcaaEA
namespace Go.Proofs.Ytcafolgfacmhcaa.E
set_option linter.unusedVariables false
def ct (c : Int) (b : List Int) (s r : List W3) (d : Bool) : T := .agg [T.int c, .sl 1 (b.map T.int), .sl 3 (s.map wt), .sl 3 (r.map wt), T.bool d]
theorem s_toChan (c : Int) (b : List Int) (s r : List W3) (d : Bool) (hb : b.length ≤ bound) (hs : s.length ≤ bound) (hr : r.length ≤ bound) : Spec Try.prog 22 [.ro (ct c b s r d)] [ct c b s r d] := by
  refine fn Try.func22 ?_
  repeat' (first | (first | refine ⟨rfl, ?_⟩ | refine brT ?_ | refine brF ?_ | intro _) | refine brI (fun _ => ?_) (fun _ => ?_))
  refine ⟨_, s_toIntS _ hb, ?_⟩
  repeat' (first | (first | refine ⟨rfl, ?_⟩ | refine brT ?_ | refine brF ?_ | intro _) | refine brI (fun _ => ?_) (fun _ => ?_))
  refine ⟨_, s_toWaiterS _ hs, ?_⟩
  repeat' (first | (first | refine ⟨rfl, ?_⟩ | refine brT ?_ | refine brF ?_ | intro _) | refine brI (fun _ => ?_) (fun _ => ?_))
  refine ⟨_, s_toWaiterS _ hr, ?_⟩
  repeat' (first | (first | refine ⟨rfl, ?_⟩ | refine brT ?_ | refine brF ?_ | intro _) | refine brI (fun _ => ?_) (fun _ => ?_))
  rfl
theorem s_eqChan (c c' : Int) (b b' : List Int) (s s' r r' : List W3) (d d' : Bool) (hb : b.length ≤ bound) (hs : s.length ≤ bound) (hr : r.length ≤ bound) : Spec Try.prog 24 [.ro (ct c b s r d), .ro (ct c' b' s' r' d')] [T.bool (c == c' && b == b' && s == s' && r == r' && d == d')] := by
  refine fn Try.func24 ?_
  repeat' (first | (first | refine ⟨rfl, ?_⟩ | refine brT ?_ | refine brF ?_ | intro _) | refine brI (fun _ => ?_) (fun _ => ?_))
  · refine tb ?_; simp_all
  refine ⟨_, s_eqIntS _ _ hb, ?_⟩
  repeat' (first | (first | refine ⟨rfl, ?_⟩ | refine brT ?_ | refine brF ?_ | intro _) | refine brI (fun _ => ?_) (fun _ => ?_))
  · refine tb ?_; simp_all
  refine ⟨_, s_eqWaiterS _ _ hs, ?_⟩
  repeat' (first | (first | refine ⟨rfl, ?_⟩ | refine brT ?_ | refine brF ?_ | intro _) | refine brI (fun _ => ?_) (fun _ => ?_))
  · refine tb ?_; simp_all
  refine ⟨_, s_eqWaiterS _ _ hr, ?_⟩
  repeat' (first | (first | refine ⟨rfl, ?_⟩ | refine brT ?_ | refine brF ?_ | intro _) | refine brI (fun _ => ?_) (fun _ => ?_))
  all_goals (refine tb ?_; simp_all)
theorem s_szWaiterS (l : List T) (n : Int) : Spec Try.prog 43 [.ro (.sl 3 l), .ro (.int n)] [.int (szI l.length n)] := by
  refine fn Try.func43 ?_
  refine brI (fun h => ?_) (fun h => ?_)
  · have h1 := of_decide_eq_true h
    show _ = _
    simp only [szI, w64, h1, if_true]; rfl
  · have h1 := of_decide_eq_false h
    show _ = _
    simp only [szI, w64, h1, if_false]; rfl
def szCh (b s r : Nat) (n : Int) : Int := if szI b n < 0 then -1 else if szI s (szI b n) < 0 then -1 else if szI r (szI s (szI b n)) < 0 then -1 else szI r (szI s (szI b n))
theorem s_szChan (c : Int) (b : List Int) (s r : List W3) (d : Bool) (n : Int) : Spec Try.prog 20 [.ro (ct c b s r d), .ro (.int n)] [.int (szCh b.length s.length r.length n)] := by
  refine fn Try.func20 ?_
  repeat' (first | (first | refine ⟨rfl, ?_⟩ | refine brT ?_ | refine brF ?_ | intro _) | refine brI (fun _ => ?_) (fun _ => ?_))
  refine ⟨_, s_szIntS _ _, ?_⟩
  repeat' (first | (first | refine ⟨rfl, ?_⟩ | refine brT ?_ | refine brF ?_ | intro _) | refine brI (fun _ => ?_) (fun _ => ?_))
  · refine ti ?_
    simp_all [szCh]
  refine ⟨_, s_szWaiterS _ _, ?_⟩
  repeat' (first | (first | refine ⟨rfl, ?_⟩ | refine brT ?_ | refine brF ?_ | intro _) | refine brI (fun _ => ?_) (fun _ => ?_))
  · refine ti ?_
    simp_all [szCh]
  refine ⟨_, s_szWaiterS _ _, ?_⟩
  repeat' (first | (first | refine ⟨rfl, ?_⟩ | refine brT ?_ | refine brF ?_ | intro _) | refine brI (fun _ => ?_) (fun _ => ?_))
  all_goals (refine ti ?_; simp_all [szCh]; try (intros; (repeat' split) <;> omega))


end Go.Proofs.Ytcafolgfacmhcaa.E
