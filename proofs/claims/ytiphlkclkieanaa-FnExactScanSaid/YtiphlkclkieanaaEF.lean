/- Contracts of functions of this seat's program. -/
import Derived.Test.YtiphlkclkieanaaETy
import Derived.Test.YtiphlkclkieanaaEA
namespace Go.Proofs.Ytiphlkclkieanaa.E
set_option linter.unusedVariables false
set_option maxHeartbeats 1600000
/-! Frames. -/
def getB (l : List Int) : Int := l.foldl (fun n x => 256 * n + x) 0
def getF (n : Int) (l : List Int) : Int := l.foldl (fun n x => 256 * n + x) n
theorem getF_app (n : Int) (l : List Int) (x : Int) : getF n (l ++ [x]) = 256 * getF n l + x := by simp [getF]
theorem getF_in {l : List Int} (hb : isB l) : ∀ {n : Int}, 0 ≤ n → ∀ {k : Nat}, l.length ≤ k → 0 ≤ getF n l ∧ getF n l < (n + 1) * 256 ^ k := by
  induction l with
  | nil =>
    intro n hn k _
    have h1 : (1 : Int) ≤ 256 ^ k := by
      have := Int.pow_pos (n := 256) (m := k) (by decide)
      omega
    refine ⟨hn, ?_⟩
    show n < _
    have : (n + 1) * 1 ≤ (n + 1) * 256 ^ k := Int.mul_le_mul_of_nonneg_left h1 (by omega)
    omega
  | cons x l ih =>
    intro n hn k hk
    obtain ⟨x0, x1⟩ := hb x (by simp)
    obtain ⟨k, rfl⟩ : ∃ k', k = k' + 1 := ⟨k - 1, by simp at hk; omega⟩
    have h := ih (fun y hy => hb y (by simp [hy])) (n := 256 * n + x) (by omega) (k := k) (by simpa using hk)
    refine ⟨h.1, ?_⟩
    have h2 := h.2
    have e : getF n (x :: l) = getF (256 * n + x) l := rfl
    rw [e]
    have hp : (0 : Int) ≤ 256 ^ k := by
      have := Int.pow_pos (n := 256) (m := k) (by decide)
      omega
    have : (256 * n + x + 1) * 256 ^ k ≤ ((n + 1) * 256) * 256 ^ k := Int.mul_le_mul_of_nonneg_right (by omega) hp
    have e2 : (n + 1) * 256 ^ (k + 1) = ((n + 1) * 256) * 256 ^ k := by rw [Int.pow_succ, Int.mul_assoc, Int.mul_comm (256 ^ k) 256]
    omega
def putB (n : Int) : Nat → List Int
  | 0 => []
  | k + 1 => (n / 256 ^ k) % 256 :: putB n k
theorem putB_len (n : Int) : ∀ k, (putB n k).length = k
  | 0 => rfl
  | k + 1 => by simp [putB, putB_len n k]
theorem putB_isB (n : Int) : ∀ k, isB (putB n k)
  | 0 => fun x h => by cases h
  | k + 1 => fun x h => by
    rcases List.mem_cons.1 h with rfl | h
    · exact ⟨Int.emod_nonneg _ (by decide), Int.emod_lt_of_pos _ (by decide)⟩
    · exact putB_isB n k x h
/-- The bytes that have been put when the k lowest are still to come. -/
theorem putB_split (n : Int) (m k : Nat) : ∃ l, putB n (m + k) = l ++ putB n k ∧ l.length = m := by
  induction m with
  | zero => exact ⟨[], by simp, rfl⟩
  | succ m ih =>
    obtain ⟨l, h1, h2⟩ := ih
    refine ⟨(n / 256 ^ (m + k)) % 256 :: l, ?_, by simp [h2]⟩
    rw [show m + 1 + k = (m + k) + 1 by omega]
    simp only [putB, h1, List.cons_append]
def putD (n : Int) (t k : Nat) : List Int := (putB n t).take (t - k)
theorem putD_step {n : Int} {t k : Nat} (h : k + 1 ≤ t) : putD n t k = putD n t (k + 1) ++ [(n / 256 ^ k) % 256] := by
  obtain ⟨l, h1, h2⟩ := putB_split n (t - (k + 1)) (k + 1)
  rw [show t - (k + 1) + (k + 1) = t by omega] at h1
  unfold putD
  rw [h1, show t - k = l.length + 1 by omega, show t - (k + 1) = l.length by omega, List.take_left, List.take_append]
  simp [putB, List.take_of_length_le]
theorem putD_zero (n : Int) (t : Nat) : putD n t 0 = putB n t := by simp [putD, List.take_of_length_le, putB_len]
theorem putD_all (n : Int) (t : Nat) : putD n t t = [] := by simp [putD]
theorem cB (l : List Int) : ∀ t ∈ l.map T.u8, t.cells.length = 1 := by
  intro t ht
  obtain ⟨n, _, rfl⟩ := List.mem_map.1 ht
  rfl
theorem vB {l : List Int} : ∀ t ∈ l.map T.u8, ∀ c ∈ t.cells, ∃ x, c = T.v x := by
  intro t ht c hc
  obtain ⟨n, _, rfl⟩ := List.mem_map.1 ht
  have : c = T.u8 n := by simpa [T.u8, T.cells] using hc
  exact ⟨_, this⟩
theorem w8 {n : Int} (h0 : 0 ≤ n) (h1 : n < 256) : IntKind.wrap .u8 n = n := by
  rw [IntKind.wrap_u8]; omega


end Go.Proofs.Ytiphlkclkieanaa.E
