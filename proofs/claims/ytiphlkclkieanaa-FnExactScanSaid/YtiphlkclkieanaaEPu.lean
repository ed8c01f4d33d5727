/- Contracts of functions of this seat's program. -/
import Derived.Test.YtiphlkclkieanaaETy
import Derived.Test.YtiphlkclkieanaaEF
namespace Go.Proofs.Ytiphlkclkieanaa.E
set_option linter.unusedVariables false
set_option maxHeartbeats 1600000
theorem p2 : ∀ j : Nat, (2 : Int) ^ (8 * j) = 256 ^ j
  | 0 => rfl
  | j + 1 => by
    have := p2 j
    rw [show 8 * (j + 1) = 8 * j + 8 by omega]
    simp only [Int.pow_succ]
    rw [this]
    omega
theorem div_step (x : Int) (j : Nat) : x / 256 ^ j / 256 = x / 256 ^ (j + 1) := by
  rw [Int.pow_succ]
  exact Int.ediv_ediv_of_nonneg (by have := Int.pow_pos (n := 256) (m := j) (by decide); omega)
theorem div_in {x : Int} (h0 : 0 ≤ x) (h1 : x ≤ 1152921504606846976) (j : Nat) : 0 ≤ x / 256 ^ j ∧ x / 256 ^ j ≤ 1152921504606846976 := by
  have hp := Int.pow_pos (n := 256) (m := j) (by decide)
  refine ⟨Int.ediv_nonneg h0 (by omega), ?_⟩
  have := Int.ediv_le_self (256 ^ j) h0
  omega
theorem s_l02Put (b : List Int) (x : Int) (t : Nat) (h0 : 0 ≤ x) (h1 : x ≤ 1152921504606846976) (ht : t ≤ 8) (hl : b.length + t ≤ bound) : Spec Try.prog 33 [.mv (.sl 1 (b.map T.u8)), .ro (T.int x), .ro (T.int t)] [.sl 1 ((b ++ putB x t).map T.u8)] := by
  refine fn Try.func33 ?_
  repeat (first | refine brT ?_ | refine brF ?_ | refine And.intro rfl ?_ | refine And.intro trivial ?_ | intro _)
  refine loopI (fun y : Nat × Nat => ⟨31, [(0, .c (.own 500000 y.2)), (1, .int x), (2, .int t), (7, .int ((y.1 : Int) - 1))], [(500000, .row y.2 0 1 ((b ++ putD x t y.1).map T.u8))]⟩) (fun y => y.1) (fun y => y.1 ≤ t) (t, 0) (Nat.le_refl _) (wk rfl ⟨rfl, rfl, rfl, gi rfl (by show w64 ((t : Int) - 1) = _; exact w64_id (by omega) (by omega)), trivial⟩ ⟨gr rfl (by rw [putD_all]; simp), trivial⟩) ?_
  rintro ⟨k, q⟩ hk
  simp only at hk
  refine brD (fun h => ?_) (fun h => ?_)
  · have h : 1 ≤ k := by have h : (k : Int) - 1 ≥ 0 := h; omega
    obtain ⟨k, rfl⟩ : ∃ j, k = j + 1 := ⟨k - 1, by omega⟩
    have hst := putD_step (n := x) hk
    have hpl : (putD x t (k + 1)).length + 1 ≤ t := by unfold putD; rw [List.length_take, putB_len]; omega
    repeat (first | refine brT ?_ | refine brF ?_ | refine And.intro rfl ?_ | refine And.intro trivial ?_ | intro _)
    refine loopR (fun i => ⟨31, [(0, .c (.own 500000 q)), (1, .int x), (2, .int t), (7, .int k), (8, .int (x / 256 ^ i)), (9, .int i)], [(500000, .row q 0 1 ((b ++ putD x t (k + 1)).map T.u8))]⟩) k (fun _ => True) trivial (wk rfl ⟨rfl, rfl, rfl, gi rfl (by show ((k + 1 : Nat) : Int) - 1 = k; omega), gi rfl (by simp), rfl, trivial⟩ ⟨rfl, trivial⟩) ?_
    intro i hi _
    have hd := div_in h0 h1 i
    refine brD (fun h2 => ?_) (fun h2 => ?_)
    · have h2 : i < k := by omega
      refine ⟨by decide, ?_⟩
      repeat (first | refine brT ?_ | refine brF ?_ | refine And.intro rfl ?_ | refine And.intro trivial ?_ | intro _)
      exact nxtR h2 trivial (wk rfl ⟨rfl, rfl, rfl, rfl, gi rfl (by show w64 ((x / 256 ^ i).tdiv 256) = _; rw [Int.tdiv_eq_ediv_of_nonneg hd.1, div_step]; have := div_in h0 h1 (i + 1); exact w64_id (by omega) (by omega)), up1 h2 (by omega), trivial⟩ ⟨rfl, trivial⟩)
    · have : i = k := by omega
      subst this
      repeat (first | refine brT ?_ | refine brF ?_ | refine And.intro rfl ?_ | refine And.intro trivial ?_ | intro _)
      refine ⟨by decide, ?_⟩
      repeat (first | refine brT ?_ | refine brF ?_ | refine And.intro rfl ?_ | refine And.intro trivial ?_ | intro _)
      refine ⟨cB [_], fun q0 => ?_⟩
      repeat (first | refine brT ?_ | refine brF ?_ | refine And.intro rfl ?_ | refine And.intro trivial ?_ | intro _)
      refine ⟨by simp; unfold bound at hl ⊢; omega, fun q1 => ?_⟩
      repeat (first | refine brT ?_ | refine brF ?_ | refine And.intro rfl ?_ | refine And.intro trivial ?_ | intro _)
      have eb : IntKind.wrap .u8 ((x / 256 ^ i).tmod 256) = (x / 256 ^ i) % 256 := by rw [Int.tmod_eq_emod_of_nonneg hd.1]; exact w8 (Int.emod_nonneg _ (by decide)) (Int.emod_lt_of_pos _ (by decide))
      exact nxt (i, q1) (by show i ≤ t; omega) (by show i < i + 1; omega) (wk rfl ⟨rfl, rfl, rfl, gi rfl (by show w64 ((i : Int) - 1) = _; exact w64_id (by omega) (by omega)), trivial⟩ ⟨gr rfl (by rw [hst, ← List.append_assoc, List.map_append (l₂ := [_])]; exact congrArg (fun z => (b ++ putD x t (i + 1)).map T.u8 ++ [T.u8 z]) eb), trivial⟩)
  · have : k = 0 := by have h : ¬ (k : Int) - 1 ≥ 0 := h; omega
    subst this
    repeat (first | refine brT ?_ | refine brF ?_ | refine And.intro rfl ?_ | refine And.intro trivial ?_ | intro _)
    rw [putD_zero]
theorem i_putBytes (b : List Int) (x : Int) (t : Nat) (h0 : 0 ≤ x) (h1 : x ≤ 1152921504606846976) (ht : t ≤ 8) (hl : b.length + t ≤ bound) : Spec Try.prog 35 [.mv (.sl 1 (b.map T.u8)), .ro (T.int x), .ro (T.int t)] [.sl 1 ((b ++ putB x t).map T.u8)] := by
  refine fn Try.func35 ?_
  repeat (first | refine brT ?_ | refine brF ?_ | refine And.intro rfl ?_ | refine And.intro trivial ?_ | intro _)
  refine loopI (fun y : Nat × Nat => ⟨23, [(0, .c (.own 500000 y.2)), (1, .int x), (7, .int ((y.1 : Int) - 1))], [(500000, .row y.2 0 1 ((b ++ putD x t y.1).map T.u8))]⟩) (fun y => y.1) (fun y => y.1 ≤ t) (t, 0) (Nat.le_refl _) (wk rfl ⟨rfl, rfl, gi rfl (by show w64 ((t : Int) - 1) = _; exact w64_id (by omega) (by omega)), trivial⟩ ⟨gr rfl (by rw [putD_all]; simp), trivial⟩) ?_
  rintro ⟨k, q⟩ hk
  simp only at hk
  refine brD (fun h => ?_) (fun h => ?_)
  · have h : 1 ≤ k := by have h : (k : Int) - 1 ≥ 0 := h; omega
    obtain ⟨k, rfl⟩ : ∃ j, k = j + 1 := ⟨k - 1, by omega⟩
    have hst := putD_step (n := x) hk
    have hpl : (putD x t (k + 1)).length + 1 ≤ t := by unfold putD; rw [List.length_take, putB_len]; omega
    have hd := div_in h0 h1 k
    have es : w64 (8 * (((k + 1 : Nat) : Int) - 1)) = ((8 * k : Nat) : Int) := by rw [w64_id (by omega) (by omega)]; omega
    repeat (first | refine brT ?_ | refine brF ?_ | refine And.intro rfl ?_ | refine And.intro trivial ?_ | intro _)
    refine ⟨⟨by show 0 ≤ w64 (8 * (((k + 1 : Nat) : Int) - 1)); rw [es]; omega, by show w64 (8 * (((k + 1 : Nat) : Int) - 1)) ≤ 64; rw [es]; omega⟩, ?_⟩
    repeat (first | refine brT ?_ | refine brF ?_ | refine And.intro rfl ?_ | refine And.intro trivial ?_ | intro _)
    refine ⟨cB [_], fun q0 => ?_⟩
    repeat (first | refine brT ?_ | refine brF ?_ | refine And.intro rfl ?_ | refine And.intro trivial ?_ | intro _)
    refine ⟨by simp; unfold bound at hl ⊢; omega, fun q1 => ?_⟩
    repeat (first | refine brT ?_ | refine brF ?_ | refine And.intro rfl ?_ | refine And.intro trivial ?_ | intro _)
    have eb : IntKind.wrap .u8 (x / 2 ^ (w64 (8 * (((k + 1 : Nat) : Int) - 1))).toNat) = (x / 256 ^ k) % 256 := by rw [es, Int.toNat_natCast, p2, IntKind.wrap_u8]
    exact nxt (k, q1) (by show k ≤ t; omega) (by show k < k + 1; omega) (wk rfl ⟨rfl, rfl, gi rfl (by show w64 ((((k + 1 : Nat) : Int) - 1) - 1) = _; rw [w64_id (by omega) (by omega)]; omega), trivial⟩ ⟨gr rfl (by rw [hst, ← List.append_assoc, List.map_append (l₂ := [_])]; exact congrArg (fun z => (b ++ putD x t (k + 1)).map T.u8 ++ [T.u8 z]) eb), trivial⟩)
  · have : k = 0 := by have h : ¬ (k : Int) - 1 ≥ 0 := h; omega
    subst this
    repeat (first | refine brT ?_ | refine brF ?_ | refine And.intro rfl ?_ | refine And.intro trivial ?_ | intro _)
    rw [putD_zero]


end Go.Proofs.Ytiphlkclkieanaa.E
