/- The program's TextNum answers as the reference's, for every string; no condition. -/
import Derived.Test.YtnmcffcjilldfaaPFnExactTextNumx2
import Derived.Test.YtnmcffcjilldfaaCom
namespace Go.Proofs.Ytnmcffcjilldfaa.Pure
open Go.RowKit Go.Proofs.Ytnmcffcjilldfaa.PFnExactTextNum Go.Proofs.YtnmcffcjilldfaaW.PrintWords Go.Proofs.YtnmcffcjilldfaaW.PrintLast Go.Proofs.Ytnmcffcjilldfaa.Com

/-! Decimal digits. -/
def dig (d : Nat) : UInt8 := UInt8.ofNat (48 + d)
def numL : Nat → Nat → List UInt8
  | 0, n => [dig (n % 10)]
  | f + 1, n => if n < 10 then [dig n] else numL f (n / 10) ++ [dig (n % 10)]
theorem numL_length : ∀ (f n : Nat), (numL f n).length ≤ f + 1
  | 0, _ => by simp [numL]
  | f + 1, n => by
    unfold numL
    split
    · simp
    · have := numL_length f (n / 10)
      simp
      omega
def numS (n : Int) : ByteArray := if 0 ≤ n ∧ n ≤ 4294967295 then ⟨(numL 9 n.toNat).toArray⟩ else ⟨#[]⟩
theorem str_dig (d : Int) (h0 : 0 ≤ d) (h1 : d < 10) : strOfNums [wrap64 (48 + d) % 256] = ⟨#[dig d.toNat]⟩ := by
  have : d = 0 ∨ d = 1 ∨ d = 2 ∨ d = 3 ∨ d = 4 ∨ d = 5 ∨ d = 6 ∨ d = 7 ∨ d = 8 ∨ d = 9 := by omega
  rcases this with h | h | h | h | h | h | h | h | h | h <;> subst h <;> decide +kernel
theorem utf_dig (d : Int) (h0 : 0 ≤ d) (h1 : d < 10) : Utf8.encode (wrap32 (wrap64 (48 + d))) = ⟨#[dig d.toNat]⟩ := by
  have : d = 0 ∨ d = 1 ∨ d = 2 ∨ d = 3 ∨ d = 4 ∨ d = 5 ∨ d = 6 ∨ d = 7 ∨ d = 8 ∨ d = 9 := by omega
  rcases this with h | h | h | h | h | h | h | h | h | h <;> subst h <;> decide +kernel
theorem bytes_app (l m : List UInt8) : (⟨l.toArray⟩ : ByteArray) ++ (⟨m.toArray⟩ : ByteArray) = ⟨(l ++ m).toArray⟩ := by
  apply ByteArray.ext
  rw [ByteArray.data_append]
  simp
theorem mk_size (l : List UInt8) : (⟨l.toArray⟩ : ByteArray).size = l.length := by
  simp [ByteArray.size]
theorem spec_l01Num_eq (n : Int) : spec_l01Num.f n = some (decide (0 ≤ n ∧ n ≤ 4294967295)) := by
  unfold spec_l01Num.f
  by_cases h : n ≥ 0 <;> simp [h]
theorem impl_isNum_eq (n : Int) : impl_isNum.f n = some (decide (0 ≤ n ∧ n ≤ 4294967295)) := by
  unfold impl_isNum.f
  by_cases h : n ≥ 0 <;> simp [h]
theorem spec_NumText_in : ∀ (f : Nat) (n : Int), f ≤ 9 → 0 ≤ n → n ≤ 4294967295 → n < 10 ^ (f + 1) → Ev (fun k => spec_NumText.f k n) ⟨(numL f n.toNat).toArray⟩
  | 0, n, _, h0, h1, h2 => by
    refine Ev.step (fun k => (by simp only [spec_NumText.f]; exact rfl)) ?_
    refine ev_call (spec_l01Num_eq n) ?_
    refine ev_pos (by simp; omega) (ev_pos (by omega) ?_)
    rw [str_dig n h0 (by omega)]
    refine ev_cast (Ev.now _) ?_
    rw [numL, Nat.mod_eq_of_lt (by omega)]
  | f + 1, n, hf, h0, h1, h2 => by
    refine Ev.step (fun k => (by simp only [spec_NumText.f]; exact rfl)) ?_
    refine ev_call (spec_l01Num_eq n) ?_
    refine ev_pos (by simp; omega) ?_
    by_cases h : n < 10
    · refine ev_pos h ?_
      rw [str_dig n h0 (by omega)]
      refine ev_cast (Ev.now _) ?_
      rw [numL, if_pos (by omega)]
    · refine ev_neg h ?_
      rw [tdiv_pos h0, tmod_pos h0, w64 (n := n / 10) (by omega) (by omega)]
      refine Ev.bind (spec_NumText_in f (n / 10) (by omega) (by omega) (by omega) (by rw [Int.pow_succ] at h2; omega)) ?_
      refine ev_call rfl ?_
      rw [str_dig (n % 10) (by omega) (by omega)]
      have hs := numL_length f (n / 10).toNat
      have hz := mk_size (numL f (n / 10).toNat)
      have hd := mk_size [dig (n % 10).toNat]
      refine ev_pos (by rw [hz, hd]; simp only [List.length_singleton]; omega) ?_
      refine ev_cast (Ev.now _) ?_
      rw [bytes_app, numL, if_neg (by omega), show (n / 10).toNat = n.toNat / 10 by omega, show (n % 10).toNat = n.toNat % 10 by omega]
theorem impl_NumText_in : ∀ (f : Nat) (n : Int), f ≤ 9 → 0 ≤ n → n ≤ 4294967295 → n < 10 ^ (f + 1) → Ev (fun k => impl_NumText.f k n) ⟨(numL f n.toNat).toArray⟩
  | 0, n, _, h0, h1, h2 => by
    refine Ev.step (fun k => (by simp only [impl_NumText.f]; exact rfl)) ?_
    refine ev_call (impl_isNum_eq n) ?_
    refine ev_pos (by simp; omega) (ev_pos (by omega) ?_)
    rw [utf_dig n h0 (by omega)]
    refine ev_cast (Ev.now _) ?_
    rw [numL, Nat.mod_eq_of_lt (by omega)]
  | f + 1, n, hf, h0, h1, h2 => by
    refine Ev.step (fun k => (by simp only [impl_NumText.f]; exact rfl)) ?_
    refine ev_call (impl_isNum_eq n) ?_
    refine ev_pos (by simp; omega) ?_
    by_cases h : n < 10
    · refine ev_pos h ?_
      rw [utf_dig n h0 (by omega)]
      refine ev_cast (Ev.now _) ?_
      rw [numL, if_pos (by omega)]
    · refine ev_neg h ?_
      rw [tdiv_pos h0, tmod_pos h0, w64 (n := n / 10) (by omega) (by omega)]
      refine Ev.bind (impl_NumText_in f (n / 10) (by omega) (by omega) (by omega) (by rw [Int.pow_succ] at h2; omega)) ?_
      rw [utf_dig (n % 10) (by omega) (by omega)]
      have hs := numL_length f (n / 10).toNat
      have hz := mk_size (numL f (n / 10).toNat)
      have hd := mk_size [dig (n % 10).toNat]
      refine ev_pos (by rw [hz, hd]; simp only [List.length_singleton]; omega) ?_
      refine ev_cast (Ev.now _) ?_
      rw [bytes_app, numL, if_neg (by omega), show (n / 10).toNat = n.toNat / 10 by omega, show (n % 10).toNat = n.toNat % 10 by omega]
theorem spec_NumText_ev (n : Int) : Ev (fun k => spec_NumText.f k n) (numS n) := by
  unfold numS
  by_cases h : 0 ≤ n ∧ n ≤ 4294967295
  · rw [if_pos h]
    exact spec_NumText_in 9 n (by omega) h.1 h.2 (by omega)
  · rw [if_neg h]
    refine Ev.step (fun k => (by simp only [spec_NumText.f]; exact rfl)) ?_
    refine ev_call (spec_l01Num_eq n) ?_
    exact ev_neg (by simp; omega) (Ev.now _)
theorem impl_NumText_ev (n : Int) : Ev (fun k => impl_NumText.f k n) (numS n) := by
  unfold numS
  by_cases h : 0 ≤ n ∧ n ≤ 4294967295
  · rw [if_pos h]
    exact impl_NumText_in 9 n (by omega) h.1 h.2 (by omega)
  · rw [if_neg h]
    refine Ev.step (fun k => (by simp only [impl_NumText.f]; exact rfl)) ?_
    refine ev_call (impl_isNum_eq n) ?_
    exact ev_neg (by simp; omega) (Ev.now _)
/-! Numbers out of their digits. -/
def tnLoop (s : ByteArray) : Nat → Nat → Int → Int × Bool
  | 0, _, x => if (numS x).toList = s.toList then (x, true) else (0, false)
  | d + 1, i, x => if bt s i < 48 then (0, false) else if bt s i > 57 then (0, false) else tnLoop s d (i + 1) (x * 10 + (bt s i - 48))
def textNum (s : ByteArray) : Int × Bool := if s.size < 1 ∨ s.size > 10 then (0, false) else tnLoop s s.size 0 0
theorem pow10_le (i : Nat) (h : i ≤ 10) : (10 : Int) ^ i ≤ 10000000000 := by
  have : i = 0 ∨ i = 1 ∨ i = 2 ∨ i = 3 ∨ i = 4 ∨ i = 5 ∨ i = 6 ∨ i = 7 ∨ i = 8 ∨ i = 9 ∨ i = 10 := by omega
  rcases this with h | h | h | h | h | h | h | h | h | h | h <;> subst h <;> decide
theorem spec_TextNum_l0 (s : ByteArray) (hs : s.size ≤ 10) : ∀ (d i : Nat) (x : Int), i + d = s.size → 0 ≤ x → x < 10 ^ i →
    Ev (fun k => spec_TextNum.l0 k s x (i : Int)) (tnLoop s d i x) := by
  intro d
  induction d with
  | zero =>
    intro i x hd h0 h1
    refine Ev.step (fun k => (by simp only [spec_TextNum.l0]; exact rfl)) ?_
    refine ev_neg (by omega) (Ev.bind (spec_NumText_ev x) ?_)
    unfold tnLoop
    by_cases h : (numS x).toList = s.toList
    · exact ev_pos h (ev_cast (Ev.now _) (by rw [if_pos h]))
    · exact ev_neg h (ev_cast (Ev.now _) (by rw [if_neg h]))
  | succ d ih =>
    intro i x hd h0 h1
    refine Ev.step (fun k => (by simp only [spec_TextNum.l0]; exact rfl)) ?_
    refine ev_pos (by omega) (ev_pos (by omega) ?_)
    unfold tnLoop
    by_cases ha : bt s i < 48
    · rw [if_pos ha]; exact ev_pos ha (Ev.now _)
    · rw [if_neg ha]
      refine ev_neg ha ?_
      by_cases hb : bt s i > 57
      · rw [if_pos hb]; exact ev_pos hb (Ev.now _)
      · rw [if_neg hb]
        refine ev_neg hb ?_
        have hp := pow10_le i (by omega)
        have h2 : (10 : Int) ^ (i + 1) = 10 ^ i * 10 := Int.pow_succ _ _
        rw [w64 (n := x * 10) (by omega) (by omega), show (bt s i - 48) % 256 = bt s i - 48 by omega, w64 (n := x * 10 + (bt s i - 48)) (by omega) (by omega), w64 (n := (i : Int) + 1) (by omega) (by omega)]
        exact ih (i + 1) (x * 10 + (bt s i - 48)) (by omega) (by omega) (by omega)
theorem impl_TextNum_l0 (s : ByteArray) (hs : s.size ≤ 10) : ∀ (d i : Nat) (x : Int), i + d = s.size → 0 ≤ x → x < 10 ^ i →
    Ev (fun k => impl_TextNum.l0 k s x (s.size : Int) (i : Int)) (tnLoop s d i x) := by
  intro d
  induction d with
  | zero =>
    intro i x hd h0 h1
    refine Ev.step (fun k => (by simp only [impl_TextNum.l0]; exact rfl)) ?_
    refine ev_neg (by omega) (Ev.bind (impl_NumText_ev x) ?_)
    unfold tnLoop
    by_cases h : (numS x).toList = s.toList
    · exact ev_pos h (ev_cast (Ev.now _) (by rw [if_pos h]))
    · exact ev_neg h (ev_cast (Ev.now _) (by rw [if_neg h]))
  | succ d ih =>
    intro i x hd h0 h1
    refine Ev.step (fun k => (by simp only [impl_TextNum.l0]; exact rfl)) ?_
    refine ev_pos (by omega) (ev_pos (by omega) (ev_pos (by omega) ?_))
    unfold tnLoop
    by_cases ha : bt s i < 48
    · rw [if_pos ha]; exact ev_pos ha (Ev.now _)
    · rw [if_neg ha]
      refine ev_neg ha ?_
      by_cases hb : bt s i > 57
      · rw [if_pos hb]; exact ev_pos hb (Ev.now _)
      · rw [if_neg hb]
        refine ev_neg hb ?_
        have hp := pow10_le i (by omega)
        have h2 : (10 : Int) ^ (i + 1) = 10 ^ i * 10 := Int.pow_succ _ _
        rw [Int.mul_comm 10 x, w64 (n := x * 10) (by omega) (by omega), show (bt s i - 48) % 256 = bt s i - 48 by omega, w64 (n := x * 10 + (bt s i - 48)) (by omega) (by omega), w64 (n := (i : Int) + 1) (by omega) (by omega)]
        exact ih (i + 1) (x * 10 + (bt s i - 48)) (by omega) (by omega) (by omega)
theorem spec_TextNum_ev (s : ByteArray) : Ev (fun k => spec_TextNum.f k s) (textNum s) := by
  simp only [spec_TextNum.f]
  unfold textNum
  by_cases h0 : s.size < 1
  · rw [if_pos (Or.inl h0)]
    refine ev_pos (by omega) ?_
    refine Ev.step (fun k => (by simp only [spec_TextNum.j0]; exact rfl)) ?_
    exact ev_pos (by trivial) (Ev.now _)
  · refine ev_neg (by omega) ?_
    by_cases h1 : s.size > 10
    · rw [if_pos (Or.inr h1), decide_eq_true (show (s.size : Int) > 10 by omega)]
      refine Ev.step (fun k => (by simp only [spec_TextNum.j0]; exact rfl)) ?_
      exact ev_pos (by trivial) (Ev.now _)
    · rw [if_neg (by omega), decide_eq_false (show ¬ (s.size : Int) > 10 by omega)]
      refine Ev.step (fun k => (by simp only [spec_TextNum.j0]; exact rfl)) ?_
      exact ev_neg (by simp) (spec_TextNum_l0 s (by omega) s.size 0 0 (by omega) (by omega) (by simp))
theorem impl_TextNum_ev (s : ByteArray) : Ev (fun k => impl_TextNum.f k s) (textNum s) := by
  have hl := toList_size s
  simp only [impl_TextNum.f]
  unfold textNum
  by_cases h0 : s.size < 1
  · rw [if_pos (Or.inl h0)]
    refine ev_pos (List.length_eq_zero_iff.1 (by omega)) ?_
    refine Ev.step (fun k => (by simp only [impl_TextNum.j0]; exact rfl)) ?_
    exact ev_pos (by trivial) (Ev.now _)
  · refine ev_neg (fun h => by rw [h] at hl; simp at hl; omega) ?_
    by_cases h1 : s.size > 10
    · rw [if_pos (Or.inr h1), decide_eq_true (show (s.size : Int) > 10 by omega)]
      refine Ev.step (fun k => (by simp only [impl_TextNum.j0]; exact rfl)) ?_
      exact ev_pos (by trivial) (Ev.now _)
    · rw [if_neg (by omega), decide_eq_false (show ¬ (s.size : Int) > 10 by omega)]
      refine Ev.step (fun k => (by simp only [impl_TextNum.j0]; exact rfl)) ?_
      exact ev_neg (by simp) (impl_TextNum_l0 s (by omega) s.size 0 0 (by omega) (by omega) (by simp))
theorem FnExactTextNum : laws_FnExactTextNum.Pure := by
  intro s _
  refine Ev.rounds (g := fun k => laws_FnExactTextNum.f k s) ?_
  simp only [laws_FnExactTextNum.f]
  by_cases h : (s.size : Int) > 1048576
  · exact ev_pos h (Ev.now _)
  · exact ev_neg h (Ev.bind (spec_TextNum_ev s) (Ev.bind (impl_TextNum_ev s) (ev_pos rfl (ev_neg (by simp) (Ev.now _)))))

end Go.Proofs.Ytnmcffcjilldfaa.Pure
