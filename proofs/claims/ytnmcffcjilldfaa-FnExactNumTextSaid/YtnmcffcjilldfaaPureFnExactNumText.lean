/- The program's NumText answers as the reference's, for every int; no condition. -/
import Derived.Test.YtnmcffcjilldfaaPFnExactNumTextx1
import Derived.Test.YtnmcffcjilldfaaCom
namespace Go.Proofs.Ytnmcffcjilldfaa.Pure
open Go.RowKit Go.Proofs.Ytnmcffcjilldfaa.PFnExactNumText Go.Proofs.YtnmcffcjilldfaaW.PrintWords Go.Proofs.YtnmcffcjilldfaaW.PrintLast Go.Proofs.Ytnmcffcjilldfaa.Com

/-! Decimal digits. -/
def dig (d : Nat) : UInt8 := UInt8.ofNat (48 + d)
def numL : Nat → Nat → List UInt8
  | 0, n => [dig (n % 10)]
  | f + 1, n => if n < 10 then [dig n] else numL f (n / 10) ++ [dig (n % 10)]
theorem numL_length : ∀ (f n : Nat), (numL f n).length ≤ f + 1
  | 0, _ => by simp [numL]
  | f + 1, n => by
    unfold numL
    split
    · simp
    · have := numL_length f (n / 10)
      simp
      omega
def numS (n : Int) : ByteArray := if 0 ≤ n ∧ n ≤ 4294967295 then ⟨(numL 9 n.toNat).toArray⟩ else ⟨#[]⟩
theorem str_dig (d : Int) (h0 : 0 ≤ d) (h1 : d < 10) : strOfNums [wrap64 (48 + d) % 256] = ⟨#[dig d.toNat]⟩ := by
  have : d = 0 ∨ d = 1 ∨ d = 2 ∨ d = 3 ∨ d = 4 ∨ d = 5 ∨ d = 6 ∨ d = 7 ∨ d = 8 ∨ d = 9 := by omega
  rcases this with h | h | h | h | h | h | h | h | h | h <;> subst h <;> decide +kernel
theorem utf_dig (d : Int) (h0 : 0 ≤ d) (h1 : d < 10) : Utf8.encode (wrap32 (wrap64 (48 + d))) = ⟨#[dig d.toNat]⟩ := by
  have : d = 0 ∨ d = 1 ∨ d = 2 ∨ d = 3 ∨ d = 4 ∨ d = 5 ∨ d = 6 ∨ d = 7 ∨ d = 8 ∨ d = 9 := by omega
  rcases this with h | h | h | h | h | h | h | h | h | h <;> subst h <;> decide +kernel
theorem bytes_app (l m : List UInt8) : (⟨l.toArray⟩ : ByteArray) ++ (⟨m.toArray⟩ : ByteArray) = ⟨(l ++ m).toArray⟩ := by
  apply ByteArray.ext
  rw [ByteArray.data_append]
  simp
theorem mk_size (l : List UInt8) : (⟨l.toArray⟩ : ByteArray).size = l.length := by
  simp [ByteArray.size]
theorem spec_l01Num_eq (n : Int) : spec_l01Num.f n = some (decide (0 ≤ n ∧ n ≤ 4294967295)) := by
  unfold spec_l01Num.f
  by_cases h : n ≥ 0 <;> simp [h]
theorem impl_isNum_eq (n : Int) : impl_isNum.f n = some (decide (0 ≤ n ∧ n ≤ 4294967295)) := by
  unfold impl_isNum.f
  by_cases h : n ≥ 0 <;> simp [h]
theorem spec_NumText_in : ∀ (f : Nat) (n : Int), f ≤ 9 → 0 ≤ n → n ≤ 4294967295 → n < 10 ^ (f + 1) → Ev (fun k => spec_NumText.f k n) ⟨(numL f n.toNat).toArray⟩
  | 0, n, _, h0, h1, h2 => by
    refine Ev.step (fun k => (by simp only [spec_NumText.f]; exact rfl)) ?_
    refine ev_call (spec_l01Num_eq n) ?_
    refine ev_pos (by simp; omega) (ev_pos (by omega) ?_)
    rw [str_dig n h0 (by omega)]
    refine ev_cast (Ev.now _) ?_
    rw [numL, Nat.mod_eq_of_lt (by omega)]
  | f + 1, n, hf, h0, h1, h2 => by
    refine Ev.step (fun k => (by simp only [spec_NumText.f]; exact rfl)) ?_
    refine ev_call (spec_l01Num_eq n) ?_
    refine ev_pos (by simp; omega) ?_
    by_cases h : n < 10
    · refine ev_pos h ?_
      rw [str_dig n h0 (by omega)]
      refine ev_cast (Ev.now _) ?_
      rw [numL, if_pos (by omega)]
    · refine ev_neg h ?_
      rw [tdiv_pos h0, tmod_pos h0, w64 (n := n / 10) (by omega) (by omega)]
      refine Ev.bind (spec_NumText_in f (n / 10) (by omega) (by omega) (by omega) (by rw [Int.pow_succ] at h2; omega)) ?_
      refine ev_call rfl ?_
      rw [str_dig (n % 10) (by omega) (by omega)]
      have hs := numL_length f (n / 10).toNat
      have hz := mk_size (numL f (n / 10).toNat)
      have hd := mk_size [dig (n % 10).toNat]
      refine ev_pos (by rw [hz, hd]; simp only [List.length_singleton]; omega) ?_
      refine ev_cast (Ev.now _) ?_
      rw [bytes_app, numL, if_neg (by omega), show (n / 10).toNat = n.toNat / 10 by omega, show (n % 10).toNat = n.toNat % 10 by omega]
theorem impl_NumText_in : ∀ (f : Nat) (n : Int), f ≤ 9 → 0 ≤ n → n ≤ 4294967295 → n < 10 ^ (f + 1) → Ev (fun k => impl_NumText.f k n) ⟨(numL f n.toNat).toArray⟩
  | 0, n, _, h0, h1, h2 => by
    refine Ev.step (fun k => (by simp only [impl_NumText.f]; exact rfl)) ?_
    refine ev_call (impl_isNum_eq n) ?_
    refine ev_pos (by simp; omega) (ev_pos (by omega) ?_)
    rw [utf_dig n h0 (by omega)]
    refine ev_cast (Ev.now _) ?_
    rw [numL, Nat.mod_eq_of_lt (by omega)]
  | f + 1, n, hf, h0, h1, h2 => by
    refine Ev.step (fun k => (by simp only [impl_NumText.f]; exact rfl)) ?_
    refine ev_call (impl_isNum_eq n) ?_
    refine ev_pos (by simp; omega) ?_
    by_cases h : n < 10
    · refine ev_pos h ?_
      rw [utf_dig n h0 (by omega)]
      refine ev_cast (Ev.now _) ?_
      rw [numL, if_pos (by omega)]
    · refine ev_neg h ?_
      rw [tdiv_pos h0, tmod_pos h0, w64 (n := n / 10) (by omega) (by omega)]
      refine Ev.bind (impl_NumText_in f (n / 10) (by omega) (by omega) (by omega) (by rw [Int.pow_succ] at h2; omega)) ?_
      rw [utf_dig (n % 10) (by omega) (by omega)]
      have hs := numL_length f (n / 10).toNat
      have hz := mk_size (numL f (n / 10).toNat)
      have hd := mk_size [dig (n % 10).toNat]
      refine ev_pos (by rw [hz, hd]; simp only [List.length_singleton]; omega) ?_
      refine ev_cast (Ev.now _) ?_
      rw [bytes_app, numL, if_neg (by omega), show (n / 10).toNat = n.toNat / 10 by omega, show (n % 10).toNat = n.toNat % 10 by omega]
theorem spec_NumText_ev (n : Int) : Ev (fun k => spec_NumText.f k n) (numS n) := by
  unfold numS
  by_cases h : 0 ≤ n ∧ n ≤ 4294967295
  · rw [if_pos h]
    exact spec_NumText_in 9 n (by omega) h.1 h.2 (by omega)
  · rw [if_neg h]
    refine Ev.step (fun k => (by simp only [spec_NumText.f]; exact rfl)) ?_
    refine ev_call (spec_l01Num_eq n) ?_
    exact ev_neg (by simp; omega) (Ev.now _)
theorem impl_NumText_ev (n : Int) : Ev (fun k => impl_NumText.f k n) (numS n) := by
  unfold numS
  by_cases h : 0 ≤ n ∧ n ≤ 4294967295
  · rw [if_pos h]
    exact impl_NumText_in 9 n (by omega) h.1 h.2 (by omega)
  · rw [if_neg h]
    refine Ev.step (fun k => (by simp only [impl_NumText.f]; exact rfl)) ?_
    refine ev_call (impl_isNum_eq n) ?_
    exact ev_neg (by simp; omega) (Ev.now _)
theorem FnExactNumText : laws_FnExactNumText.Pure := by
  intro n _
  refine Ev.rounds (g := fun k => laws_FnExactNumText.f k n) ?_
  simp only [laws_FnExactNumText.f]
  exact Ev.bind (spec_NumText_ev n) (Ev.bind (impl_NumText_ev n) (ev_pos rfl (Ev.now _)))

end Go.Proofs.Ytnmcffcjilldfaa.Pure
