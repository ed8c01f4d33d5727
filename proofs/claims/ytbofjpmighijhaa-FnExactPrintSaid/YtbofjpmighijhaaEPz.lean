/- Contracts of functions of this seat's program. -/
import Derived.Test.YtbofjpmighijhaaETy
import Derived.Test.YtbofjpmighijhaaECr
namespace Go.Proofs.Ytbofjpmighijhaa.E
set_option linter.unusedVariables false
set_option linter.unusedSimpArgs false
set_option maxHeartbeats 1600000
theorem cB (l : List Int) : ∀ t ∈ l.map T.u8, t.cells.length = 1 := by
  intro t ht
  obtain ⟨n, _, rfl⟩ := List.mem_map.1 ht
  rfl
theorem vB {l : List Int} : ∀ t ∈ l.map T.u8, ∀ c ∈ t.cells, ∃ x, c = T.v x := by
  intro t ht c hc
  obtain ⟨n, _, rfl⟩ := List.mem_map.1 ht
  have : c = T.u8 n := by simpa [T.u8, T.cells] using hc
  exact ⟨_, this⟩
theorem w8 {n : Int} (h0 : 0 ≤ n) (h1 : n < 256) : IntKind.wrap .u8 n = n := by
  rw [IntKind.wrap_u8]; omega
def varB : Nat → Int → List Int
  | 0, n => [n]
  | k + 1, n => if n ≥ 128 then (n % 128 + 128) :: varB k (n / 128) else [n]
def capV : Nat → Int
  | 0 => 128
  | k + 1 => 128 * capV k
def putVar (b : List Int) (n : Int) : List Int × Bool := if 0 ≤ n ∧ n ≤ 4294967295 then (b ++ varB 4 n, true) else ([], false)
def putZig (b : List Int) (n : Int) : List Int × Bool := if n > 2147483647 ∨ n < -2147483648 then ([], false) else if n ≥ 0 then putVar b (2 * n) else putVar b (-2 * n - 1)
theorem varB_len : ∀ (k : Nat) (n : Int), (varB k n).length ≤ k + 1
  | 0, n => Nat.le_refl _
  | k + 1, n => by
    unfold varB
    split
    · have := varB_len k (n / 128); simp only [List.length_cons]; omega
    · simp
theorem varB_B : ∀ (k : Nat) (n : Int), 0 ≤ n → n < capV k → isB (varB k n)
  | 0, n, h0, h1 => fun x hx => by
    obtain rfl := List.mem_singleton.1 hx
    simp only [capV] at h1
    omega
  | k + 1, n, h0, h1 => by
    unfold varB
    split
    · rename_i h
      intro x hx
      rcases List.mem_cons.1 hx with h2 | h2
      · subst h2; omega
      · exact varB_B k (n / 128) (by omega) (by simp only [capV] at h1; omega) x h2
    · intro x hx
      obtain rfl := List.mem_singleton.1 hx
      omega
theorem varB_end {k : Nat} {n : Int} (h : n < 128) : varB k n = [n] := by
  cases k with
  | zero => rfl
  | succ k => unfold varB; rw [if_neg (by omega)]
theorem putZig_ok {b : List Int} (hb : isB b) (n : Int) : (putZig b n).1.length ≤ b.length + 5 ∧ isB (putZig b n).1 := by
  have nil : isB [] := fun x hx => by cases hx
  have one : ∀ m : Int, (putVar b m).1.length ≤ b.length + 5 ∧ isB (putVar b m).1 := fun m => by
    unfold putVar
    split
    · rename_i h
      refine ⟨?_, fun x hx => ?_⟩
      · have := varB_len 4 m; simp only [List.length_append]; omega
      · rcases List.mem_append.1 hx with h2 | h2
        · exact hb x h2
        · exact varB_B 4 m h.1 (by simp only [capV]; omega) x h2
    · exact ⟨Nat.zero_le _, nil⟩
  unfold putZig
  split
  · exact ⟨Nat.zero_le _, nil⟩
  split
  · exact one _
  · exact one _
def foldZ (l : List Int) : List Int := l.foldl (fun b n => (putZig b n).1) []
theorem foldZ_succ {l : List Int} {i : Nat} (h : i < l.length) : foldZ (l.take (i + 1)) = (putZig (foldZ (l.take i)) l[i]).1 := by
  unfold foldZ
  rw [List.take_succ_eq_append_getElem h, List.foldl_append]; rfl
theorem foldZ_ok {l : List Int} : ∀ i : Nat, i ≤ l.length → (foldZ (l.take i)).length ≤ 5 * i ∧ isB (foldZ (l.take i))
  | 0, _ => ⟨by simp [foldZ], fun x hx => by simp [foldZ] at hx⟩
  | i + 1, h => by
    have := foldZ_ok (l := l) i (by omega)
    have h2 := putZig_ok this.2 l[i]
    rw [foldZ_succ (by omega)]
    exact ⟨by omega, h2.2⟩
def printOf (p : Y_Prog) : Int := if progOk p then crcOf (foldZ (progNums p)) else -1
theorem i_CloneB (l : List Int) (es : List T) (he : es = l.map T.u8) (hl : l.length ≤ bound) : Spec Try.prog 122 [.ro (.sl 1 es)] [.sl 1 es] := by
  subst he
  refine fn Try.func122 ?_
  intro b hb
  refine brI (fun h => ?_) (fun h => ?_)
  · have : l = [] := by
      cases l with
      | nil => rfl
      | cons a r => have := hb (by simp); rw [h] at this; cases this
    subst this
    exact ⟨1, rfl⟩
  · refine ⟨fun t h => (by cases h), fun q0 => ?_⟩
    repeat (first | refine brT ?_ | refine brF ?_ | refine And.intro rfl ?_ | refine And.intro trivial ?_ | intro _)
    refine ⟨vB, by simp; exact hl, fun q => ?_⟩
    repeat (first | refine brT ?_ | refine brF ?_ | refine And.intro rfl ?_ | refine And.intro trivial ?_ | intro _)
    rfl
theorem vz1 {m : Int} (h : 0 ≤ m) : IntKind.wrap .u8 (w64 (m.tmod 128 + 128)) = m % 128 + 128 := by
  rw [Int.tmod_eq_emod_of_nonneg h, w64_id (by omega) (by omega)]
  exact w8 (by omega) (by omega)
theorem vz2 {m : Int} (h : 0 ≤ m) (h1 : m < 9223372036854775808) : w64 (m.tdiv 128) = m / 128 := by
  rw [Int.tdiv_eq_ediv_of_nonneg h, w64_id (by omega) (by omega)]
theorem s_l01Num (n : Int) : Spec Try.prog 120 [.ro (T.int n)] [T.bool (decide (0 ≤ n ∧ n ≤ 4294967295))] := by
  refine fn Try.func120 ?_
  repeat' (first | (first | refine brT ?_ | refine brF ?_ | refine And.intro rfl ?_ | refine And.intro trivial ?_ | intro _) | refine brI (fun _ => ?_) (fun _ => ?_))
  all_goals (refine tb ?_; simp_all <;> (intros; omega))
theorem i_isNum (n : Int) : Spec Try.prog 121 [.ro (T.int n)] [T.bool (decide (0 ≤ n ∧ n ≤ 4294967295))] := by
  refine fn Try.func121 ?_
  repeat' (first | (first | refine brT ?_ | refine brF ?_ | refine And.intro rfl ?_ | refine And.intro trivial ?_ | intro _) | refine brI (fun _ => ?_) (fun _ => ?_))
  all_goals (refine tb ?_; simp_all <;> (intros; omega))
theorem s_PutVar (b : List Int) (n : Int) (hl : b.length + 5 ≤ bound) : Spec Try.prog 96 [.ro (.sl 1 (b.map T.u8)), .ro (T.int n)] [.sl 1 ((putVar b n).1.map T.u8), T.bool (putVar b n).2] := by
  refine fn Try.func96 ?_
  have hl' : b.length + 5 ≤ 16777216 := hl
  repeat (first | refine brT ?_ | refine brF ?_ | refine And.intro rfl ?_ | refine And.intro trivial ?_ | intro _)
  refine ⟨_, s_l01Num n, ?_⟩
  repeat (first | refine brT ?_ | refine brF ?_ | refine And.intro rfl ?_ | refine And.intro trivial ?_ | intro _)
  refine brI (fun h => ?_) (fun h => ?_)
  · have h : ¬ (0 ≤ n ∧ n ≤ 4294967295) := fun hp => by rw [decide_eq_true hp] at h; exact absurd h (by decide)
    unfold putVar
    rw [if_neg h]
    repeat (first | refine brT ?_ | refine brF ?_ | refine And.intro rfl ?_ | refine And.intro trivial ?_ | intro _)
    exact ⟨1, rfl⟩
  have hn : 0 ≤ n ∧ n ≤ 4294967295 := Decidable.byContradiction (fun hp => by rw [decide_eq_false hp] at h; exact absurd h (by decide))
  clear h
  unfold putVar
  rw [if_pos hn]
  repeat (first | refine brT ?_ | refine brF ?_ | refine And.intro rfl ?_ | refine And.intro trivial ?_ | intro _)
  have hq : b.length ≤ bound := by omega
  first
    | refine ⟨_, i_CloneB b _ rfl hq, ?_⟩
      repeat (first | refine brT ?_ | refine brF ?_ | refine And.intro rfl ?_ | refine And.intro trivial ?_ | intro _)
    | refine ⟨cB [], fun q0 => ?_⟩
      repeat (first | refine brT ?_ | refine brF ?_ | refine And.intro rfl ?_ | refine And.intro trivial ?_ | intro _)
      refine ⟨vB, by simpa using hq, fun q1 => ?_⟩
      repeat (first | refine brT ?_ | refine brF ?_ | refine And.intro rfl ?_ | refine And.intro trivial ?_ | intro _)
  refine loopI (fun x : Nat × Int × List Int × Nat => ⟨29, [(1, .int x.2.1), (6, .c (.own 11000 x.2.2.2))], [(11000, .row x.2.2.2 0 1 ((b ++ x.2.2.1).map T.u8))]⟩) (fun x => x.1) (fun x => 0 ≤ x.2.1 ∧ x.2.1 < capV x.1 ∧ x.2.2.1 ++ varB x.1 x.2.1 = varB 4 n ∧ x.2.2.1.length + x.1 ≤ 4 ∧ x.2.1 ≤ 4294967295) (4, n, [], _) ⟨hn.1, by simp only [capV]; omega, rfl, Nat.le_refl _, hn.2⟩ (wk rfl ⟨rfl, rfl, trivial⟩ ⟨gr rfl (by simp), trivial⟩) ?_
  rintro ⟨k, m, d, q⟩ ⟨h0, h1, hd, hk, hz⟩
  simp only at h0 h1 hd hk hz
  refine brD (fun h => ?_) (fun h => ?_)
  · have h : m ≥ 128 := by simpa using h
    cases k with
    | zero => exact absurd h1 (by simp only [capV]; omega)
    | succ k =>
    unfold varB at hd
    rw [if_pos h] at hd
    have hm : m < 9223372036854775808 := by omega
    repeat (first | refine brT ?_ | refine brF ?_ | refine And.intro rfl ?_ | refine And.intro trivial ?_ | intro _)
    refine ⟨by decide, ?_⟩
    repeat (first | refine brT ?_ | refine brF ?_ | refine And.intro rfl ?_ | refine And.intro trivial ?_ | intro _)
    refine ⟨cB [_], fun q0 => ?_⟩
    repeat (first | refine brT ?_ | refine brF ?_ | refine And.intro rfl ?_ | refine And.intro trivial ?_ | intro _)
    refine ⟨by simp; unfold bound at *; omega, fun q1 => ?_⟩
    repeat (first | refine brT ?_ | refine brF ?_ | refine And.intro rfl ?_ | refine And.intro trivial ?_ | intro _)
    refine ⟨by decide, ?_⟩
    repeat (first | refine brT ?_ | refine brF ?_ | refine And.intro rfl ?_ | refine And.intro trivial ?_ | intro _)
    exact nxt (k, m / 128, d ++ [m % 128 + 128], q1) ⟨by simp only; omega, by simp only [capV] at *; omega, by simp only [List.append_assoc]; exact hd, by simp; omega, by simp only; omega⟩ (by show _ < _; simp only; omega) (wk rfl ⟨gi rfl (vz2 h0 hm), rfl, trivial⟩ ⟨gr rfl (by rw [← List.append_assoc, List.map_append (l₂ := [_])]; exact congrArg (fun z => (b ++ d).map T.u8 ++ [T.u8 z]) (vz1 h0)), trivial⟩)
  · have h : m < 128 := by simpa using h
    rw [varB_end h] at hd
    repeat (first | refine brT ?_ | refine brF ?_ | refine And.intro rfl ?_ | refine And.intro trivial ?_ | intro _)
    refine ⟨cB [_], fun q0 => ?_⟩
    repeat (first | refine brT ?_ | refine brF ?_ | refine And.intro rfl ?_ | refine And.intro trivial ?_ | intro _)
    refine ⟨by simp; unfold bound at *; omega, fun q1 => ?_⟩
    repeat (first | refine brT ?_ | refine brF ?_ | refine And.intro rfl ?_ | refine And.intro trivial ?_ | intro _)
    rw [← hd, ← List.append_assoc, List.map_append (l₂ := [_])]
    exact congrArg (fun z => [T.sl 1 ((b ++ d).map T.u8 ++ [T.u8 z]), T.bool true]) (w8 h0 (by omega))
theorem i_PutVar (b : List Int) (n : Int) (hl : b.length + 5 ≤ bound) : Spec Try.prog 97 [.ro (.sl 1 (b.map T.u8)), .ro (T.int n)] [.sl 1 ((putVar b n).1.map T.u8), T.bool (putVar b n).2] := by
  refine fn Try.func97 ?_
  have hl' : b.length + 5 ≤ 16777216 := hl
  repeat (first | refine brT ?_ | refine brF ?_ | refine And.intro rfl ?_ | refine And.intro trivial ?_ | intro _)
  refine ⟨_, i_isNum n, ?_⟩
  repeat (first | refine brT ?_ | refine brF ?_ | refine And.intro rfl ?_ | refine And.intro trivial ?_ | intro _)
  refine brI (fun h => ?_) (fun h => ?_)
  · have h : ¬ (0 ≤ n ∧ n ≤ 4294967295) := fun hp => by rw [decide_eq_true hp] at h; exact absurd h (by decide)
    unfold putVar
    rw [if_neg h]
    repeat (first | refine brT ?_ | refine brF ?_ | refine And.intro rfl ?_ | refine And.intro trivial ?_ | intro _)
    exact ⟨1, rfl⟩
  have hn : 0 ≤ n ∧ n ≤ 4294967295 := Decidable.byContradiction (fun hp => by rw [decide_eq_false hp] at h; exact absurd h (by decide))
  clear h
  unfold putVar
  rw [if_pos hn]
  repeat (first | refine brT ?_ | refine brF ?_ | refine And.intro rfl ?_ | refine And.intro trivial ?_ | intro _)
  have hq : b.length ≤ bound := by omega
  first
    | refine ⟨_, i_CloneB b _ rfl hq, ?_⟩
      repeat (first | refine brT ?_ | refine brF ?_ | refine And.intro rfl ?_ | refine And.intro trivial ?_ | intro _)
    | refine ⟨cB [], fun q0 => ?_⟩
      repeat (first | refine brT ?_ | refine brF ?_ | refine And.intro rfl ?_ | refine And.intro trivial ?_ | intro _)
      refine ⟨vB, by simpa using hq, fun q1 => ?_⟩
      repeat (first | refine brT ?_ | refine brF ?_ | refine And.intro rfl ?_ | refine And.intro trivial ?_ | intro _)
  refine loopI (fun x : Nat × Int × List Int × Nat => ⟨28, [(1, .int x.2.1), (6, .c (.own 12000 x.2.2.2))], [(12000, .row x.2.2.2 0 1 ((b ++ x.2.2.1).map T.u8))]⟩) (fun x => x.1) (fun x => 0 ≤ x.2.1 ∧ x.2.1 < capV x.1 ∧ x.2.2.1 ++ varB x.1 x.2.1 = varB 4 n ∧ x.2.2.1.length + x.1 ≤ 4 ∧ x.2.1 ≤ 4294967295) (4, n, [], _) ⟨hn.1, by simp only [capV]; omega, rfl, Nat.le_refl _, hn.2⟩ (wk rfl ⟨rfl, rfl, trivial⟩ ⟨gr rfl (by simp), trivial⟩) ?_
  rintro ⟨k, m, d, q⟩ ⟨h0, h1, hd, hk, hz⟩
  simp only at h0 h1 hd hk hz
  refine brD (fun h => ?_) (fun h => ?_)
  · have h : m ≥ 128 := by simpa using h
    cases k with
    | zero => exact absurd h1 (by simp only [capV]; omega)
    | succ k =>
    unfold varB at hd
    rw [if_pos h] at hd
    have hm : m < 9223372036854775808 := by omega
    repeat (first | refine brT ?_ | refine brF ?_ | refine And.intro rfl ?_ | refine And.intro trivial ?_ | intro _)
    refine ⟨by decide, ?_⟩
    repeat (first | refine brT ?_ | refine brF ?_ | refine And.intro rfl ?_ | refine And.intro trivial ?_ | intro _)
    refine ⟨cB [_], fun q0 => ?_⟩
    repeat (first | refine brT ?_ | refine brF ?_ | refine And.intro rfl ?_ | refine And.intro trivial ?_ | intro _)
    refine ⟨by simp; unfold bound at *; omega, fun q1 => ?_⟩
    repeat (first | refine brT ?_ | refine brF ?_ | refine And.intro rfl ?_ | refine And.intro trivial ?_ | intro _)
    refine ⟨by decide, ?_⟩
    repeat (first | refine brT ?_ | refine brF ?_ | refine And.intro rfl ?_ | refine And.intro trivial ?_ | intro _)
    exact nxt (k, m / 128, d ++ [m % 128 + 128], q1) ⟨by simp only; omega, by simp only [capV] at *; omega, by simp only [List.append_assoc]; exact hd, by simp; omega, by simp only; omega⟩ (by show _ < _; simp only; omega) (wk rfl ⟨gi rfl (vz2 h0 hm), rfl, trivial⟩ ⟨gr rfl (by rw [← List.append_assoc, List.map_append (l₂ := [_])]; exact congrArg (fun z => (b ++ d).map T.u8 ++ [T.u8 z]) (vz1 h0)), trivial⟩)
  · have h : m < 128 := by simpa using h
    rw [varB_end h] at hd
    repeat (first | refine brT ?_ | refine brF ?_ | refine And.intro rfl ?_ | refine And.intro trivial ?_ | intro _)
    refine ⟨cB [_], fun q0 => ?_⟩
    repeat (first | refine brT ?_ | refine brF ?_ | refine And.intro rfl ?_ | refine And.intro trivial ?_ | intro _)
    refine ⟨by simp; unfold bound at *; omega, fun q1 => ?_⟩
    repeat (first | refine brT ?_ | refine brF ?_ | refine And.intro rfl ?_ | refine And.intro trivial ?_ | intro _)
    rw [← hd, ← List.append_assoc, List.map_append (l₂ := [_])]
    exact congrArg (fun z => [T.sl 1 ((b ++ d).map T.u8 ++ [T.u8 z]), T.bool true]) (w8 h0 (by omega))
theorem s_PutZig (b : List Int) (n : Int) (hl : b.length + 5 ≤ bound) : Spec Try.prog 54 [.ro (.sl 1 (b.map T.u8)), .ro (T.int n)] [.sl 1 ((putZig b n).1.map T.u8), T.bool (putZig b n).2] := by
  refine fn Try.func54 ?_
  unfold putZig
  by_cases h : n > 2147483647 ∨ n < -2147483648
  · rw [if_pos h]
    rcases h with h | h
    · repeat (first | (first | refine brT ?_ | refine brF ?_ | refine And.intro rfl ?_ | refine And.intro trivial ?_ | intro _) | (refine brL ?a (fun _ => ?_); case a => (simp <;> omega)) | (refine brR ?a (fun _ => ?_); case a => (simp <;> omega)))
      exact ⟨1, rfl⟩
    · repeat (first | (first | refine brT ?_ | refine brF ?_ | refine And.intro rfl ?_ | refine And.intro trivial ?_ | intro _) | (refine brL ?a (fun _ => ?_); case a => (simp <;> omega)) | (refine brR ?a (fun _ => ?_); case a => (simp <;> omega)))
      exact ⟨1, rfl⟩
  rw [if_neg h]
  by_cases h2 : n ≥ 0
  · rw [if_pos h2]
    have e : w64 (2 * n) = 2 * n := w64_id (by omega) (by omega)
    repeat (first | (first | refine brT ?_ | refine brF ?_ | refine And.intro rfl ?_ | refine And.intro trivial ?_ | intro _) | (refine brL ?a (fun _ => ?_); case a => (simp <;> omega)) | (refine brR ?a (fun _ => ?_); case a => (simp <;> omega)))
    refine ⟨_, s_PutVar b (w64 (2 * n)) hl, ?_⟩
    repeat (first | refine brT ?_ | refine brF ?_ | refine And.intro rfl ?_ | refine And.intro trivial ?_ | intro _)
    exact congrArg (fun z => [T.sl 1 ((putVar b z).1.map T.u8), T.bool (putVar b z).2]) e
  · rw [if_neg h2]
    have e : w64 (w64 (-2 * n) - 1) = -2 * n - 1 := by rw [w64_id (n := -2 * n) (by omega) (by omega), w64_id (by omega) (by omega)]
    repeat (first | (first | refine brT ?_ | refine brF ?_ | refine And.intro rfl ?_ | refine And.intro trivial ?_ | intro _) | (refine brL ?a (fun _ => ?_); case a => (simp <;> omega)) | (refine brR ?a (fun _ => ?_); case a => (simp <;> omega)))
    refine ⟨_, s_PutVar b (w64 (w64 (-2 * n) - 1)) hl, ?_⟩
    repeat (first | refine brT ?_ | refine brF ?_ | refine And.intro rfl ?_ | refine And.intro trivial ?_ | intro _)
    exact congrArg (fun z => [T.sl 1 ((putVar b z).1.map T.u8), T.bool (putVar b z).2]) e
theorem i_PutZig (b : List Int) (n : Int) (hl : b.length + 5 ≤ bound) : Spec Try.prog 56 [.ro (.sl 1 (b.map T.u8)), .ro (T.int n)] [.sl 1 ((putZig b n).1.map T.u8), T.bool (putZig b n).2] := by
  refine fn Try.func56 ?_
  unfold putZig
  by_cases h : n > 2147483647 ∨ n < -2147483648
  · rw [if_pos h]
    rcases h with h | h
    · repeat (first | (first | refine brT ?_ | refine brF ?_ | refine And.intro rfl ?_ | refine And.intro trivial ?_ | intro _) | (refine brL ?a (fun _ => ?_); case a => (simp <;> omega)) | (refine brR ?a (fun _ => ?_); case a => (simp <;> omega)))
      exact ⟨1, rfl⟩
    · repeat (first | (first | refine brT ?_ | refine brF ?_ | refine And.intro rfl ?_ | refine And.intro trivial ?_ | intro _) | (refine brL ?a (fun _ => ?_); case a => (simp <;> omega)) | (refine brR ?a (fun _ => ?_); case a => (simp <;> omega)))
      exact ⟨1, rfl⟩
  rw [if_neg h]
  by_cases h2 : n ≥ 0
  · rw [if_pos h2]
    have e : w64 (2 * n) = 2 * n := w64_id (by omega) (by omega)
    repeat (first | (first | refine brT ?_ | refine brF ?_ | refine And.intro rfl ?_ | refine And.intro trivial ?_ | intro _) | (refine brL ?a (fun _ => ?_); case a => (simp <;> omega)) | (refine brR ?a (fun _ => ?_); case a => (simp <;> omega)))
    refine ⟨_, i_PutVar b (w64 (2 * n)) hl, ?_⟩
    repeat (first | refine brT ?_ | refine brF ?_ | refine And.intro rfl ?_ | refine And.intro trivial ?_ | intro _)
    exact congrArg (fun z => [T.sl 1 ((putVar b z).1.map T.u8), T.bool (putVar b z).2]) e
  · rw [if_neg h2]
    have e : w64 (w64 (-2 * n) - 1) = -2 * n - 1 := by rw [w64_id (n := -2 * n) (by omega) (by omega), w64_id (by omega) (by omega)]
    repeat (first | (first | refine brT ?_ | refine brF ?_ | refine And.intro rfl ?_ | refine And.intro trivial ?_ | intro _) | (refine brL ?a (fun _ => ?_); case a => (simp <;> omega)) | (refine brR ?a (fun _ => ?_); case a => (simp <;> omega)))
    refine ⟨_, i_PutVar b (w64 (w64 (-2 * n) - 1)) hl, ?_⟩
    repeat (first | refine brT ?_ | refine brF ?_ | refine And.intro rfl ?_ | refine And.intro trivial ?_ | intro _)
    exact congrArg (fun z => [T.sl 1 ((putVar b z).1.map T.u8), T.bool (putVar b z).2]) e


end Go.Proofs.Ytbofjpmighijhaa.E
