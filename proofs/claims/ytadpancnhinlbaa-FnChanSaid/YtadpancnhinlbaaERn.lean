/- Contracts of functions of this seat's program. -/
import Derived.Test.YtadpancnhinlbaaETy
import Derived.Test.YtadpancnhinlbaaERf
namespace Go.Proofs.Ytadpancnhinlbaa.E
set_option linter.unusedVariables false
set_option linter.unusedSimpArgs false
set_option maxHeartbeats 1600000
/-! The drawn bytes: a cursor over the given bytes, a number that is mixed on. -/
theorem and255 (x : Int) : 0 ≤ Go.bits .and .i64 x 255 ∧ Go.bits .and .i64 x 255 ≤ 255 := by
  have h : (BitVec.ofInt (Go.IntKind.bits .i64) x &&& BitVec.ofInt (Go.IntKind.bits .i64) 255).toNat ≤ 255 := by
    rw [BitVec.toNat_and]
    exact Nat.le_trans Nat.and_le_right (by decide)
  simp only [Go.bits]
  rw [Go.IntKind.wrap_i64]
  omega
def hsB (l : List Int) : Nat → Int
  | 0 => w64 (538233 + l.length)
  | i + 1 => Go.bits .and .i64 (w64 (w64 (w64 (hsB l i * 163) + w64 (l.getD i 0)) + 7)) 1073741823
theorem s_l01New (l : List Int) (hl : l.length ≤ bound) : SpecN Try.prog 30 [.sl 1 (l.map T.u8)] [.inr 0, .inl (.int .i64 0), .inl (.int .i64 (hsB l (min l.length 4000)))] := by
  have hl' : l.length ≤ 16777216 := hl
  refine fnN Try.func30 ?_
  repeat (first | refine brT ?_ | refine brF ?_ | refine And.intro rfl ?_ | refine And.intro trivial ?_ | intro _)
  refine loopI (fun i : Nat => ⟨32, [(0, .c (.fx 0 1 (l.map T.u8))), (3, .int (hsB l i)), (4, .int i)], []⟩) (fun i => l.length - i) (fun i => i ≤ l.length ∧ i ≤ 4000) 0 ⟨Nat.zero_le _, Nat.zero_le _⟩ (wk rfl ⟨rfl, congrArg AV.int (by rw [hsB]; simp), rfl, trivial⟩ trivial) ?_
  rintro i ⟨hi, hi2⟩
  repeat (first | refine brT ?_ | refine brF ?_ | refine And.intro rfl ?_ | refine And.intro trivial ?_ | intro _)
  by_cases h : i < l.length
  · refine brR (by show ¬ (decide ((i : Int) < ((l.map T.u8).length : Int)) = false); rw [List.length_map]; simp; omega) (fun _ => ?_)
    refine brT ?_
    refine brI (fun h4 => ?_) (fun h4 => ?_)
    · simp only [cond_true, decide_eq_true_eq] at h4
      repeat (first | refine brT ?_ | refine brF ?_ | refine And.intro rfl ?_ | refine And.intro trivial ?_ | intro _)
      refine ⟨nn i, T.u8 l[i], atm h, ?_⟩
      repeat (first | refine brT ?_ | refine brF ?_ | refine And.intro rfl ?_ | refine And.intro trivial ?_ | intro _)
      refine nxt (i + 1) ⟨h, by omega⟩ (by show l.length - (i + 1) < l.length - i; omega) (wk rfl ⟨rfl, congrArg AV.int ?_, up1 h hl', trivial⟩ trivial)
      rw [hsB, List.getD_eq_getElem?_getD, List.getElem?_eq_getElem h]; rfl
    · simp only [cond_true, decide_eq_false_iff_not] at h4
      have e : i = min l.length 4000 := by omega
      rw [e]
      repeat (first | refine brT ?_ | refine brF ?_ | refine And.intro rfl ?_ | refine And.intro trivial ?_ | intro _)
      exact ⟨⟨_, _, rfl⟩, rfl, rfl, trivial⟩
  · refine brL (by show ¬ (decide ((i : Int) < ((l.map T.u8).length : Int)) = true); rw [List.length_map]; simp; omega) (fun _ => ?_)
    have e : i = min l.length 4000 := by omega
    rw [e]
    repeat (first | refine brT ?_ | refine brF ?_ | refine And.intro rfl ?_ | refine And.intro trivial ?_ | intro _)
    exact ⟨⟨_, _, rfl⟩, rfl, rfl, trivial⟩


end Go.Proofs.Ytadpancnhinlbaa.E
