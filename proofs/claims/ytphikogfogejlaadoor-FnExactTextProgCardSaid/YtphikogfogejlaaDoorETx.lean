/- Contracts of functions of this seat's program. -/
import Derived.Test.YtphikogfogejlaaDoorETy
import Derived.Test.YtphikogfogejlaaDoorEA
namespace Go.Proofs.YtphikogfogejlaaDoor.E
set_option linter.unusedVariables false
set_option linter.unusedSimpArgs false
set_option maxHeartbeats 1600000
def wordsL : List ByteArray := [⟨#[]⟩, ⟨#[104, 97, 108, 116]⟩, ⟨#[115, 101, 116]⟩, ⟨#[97, 100, 100]⟩, ⟨#[115, 117, 98]⟩, ⟨#[108, 101, 115, 115]⟩, ⟨#[106, 117, 109, 112]⟩, ⟨#[105, 102]⟩, ⟨#[115, 101, 110, 100]⟩, ⟨#[114, 101, 99, 118]⟩, ⟨#[99, 108, 111, 115, 101]⟩, ⟨#[115, 101, 108, 101, 99, 116]⟩, ⟨#[108, 111, 99, 107]⟩, ⟨#[117, 110, 108, 111, 99, 107]⟩, ⟨#[115, 112, 97, 119, 110]⟩, ⟨#[112, 114, 105, 110, 116]⟩]
def opWord (n : Int) : ByteArray := if 1 ≤ n ∧ n ≤ 15 then wordsL.getD n.toNat ⟨#[]⟩ else ⟨#[]⟩
def dg (n : Nat) : ByteArray := ⟨#[UInt8.ofNat (48 + n)]⟩
def ntF : Nat → Nat → ByteArray
  | 0, n => dg n
  | k + 1, n => if n < 10 then dg n else ntF k (n / 10) ++ dg (n % 10)
def cap10 : Nat → Nat
  | 0 => 10
  | k + 1 => 10 * cap10 k
def numText (n : Int) : ByteArray := if 0 ≤ n ∧ n ≤ 4294967295 then ntF 9 n.toNat else ⟨#[]⟩
theorem size_app (a b : ByteArray) : (a ++ b).size = a.size + b.size := ByteArray.size_append
theorem ntF_size : ∀ (k n : Nat), 1 ≤ (ntF k n).size ∧ (ntF k n).size ≤ k + 1
  | 0, n => ⟨Nat.le_refl _, Nat.le_refl _⟩
  | k + 1, n => by
    unfold ntF
    split
    · exact ⟨Nat.le_refl _, by show 1 ≤ _; omega⟩
    · have := ntF_size k (n / 10)
      rw [size_app]
      have h1 : (dg (n % 10)).size = 1 := rfl
      omega
theorem ntF_small {k n : Nat} (h : n < 10) : ntF k n = dg n := by
  cases k with
  | zero => rfl
  | succ k => unfold ntF; rw [if_pos h]
theorem dg_val {n : Int} {m : Nat} (h : n = m) (hm : m < 10) : IntKind.wrap .u8 (w64 (48 + n)) = ((UInt8.ofNat (48 + m)).toNat : Int) := by
  subst h
  rw [w64_id (by omega) (by omega), IntKind.wrap_u8]
  have : (UInt8.ofNat (48 + m)).toNat = 48 + m := by simp; omega
  rw [this]; omega
theorem rune_val {n : Int} {m : Nat} (h : n = m) (hm : m < 10) : Utf8.encode (IntKind.wrap .i32 (w64 (48 + n))) = dg m := by
  subst h
  have e : IntKind.wrap .i32 (w64 (48 + (m : Int))) = 48 + (m : Int) := by
    rw [w64_id (by omega) (by omega)]
    have : m = 0 ∨ m = 1 ∨ m = 2 ∨ m = 3 ∨ m = 4 ∨ m = 5 ∨ m = 6 ∨ m = 7 ∨ m = 8 ∨ m = 9 := by omega
    rcases this with rfl | rfl | rfl | rfl | rfl | rfl | rfl | rfl | rfl | rfl <;> rfl
  rw [e]
  have : m = 0 ∨ m = 1 ∨ m = 2 ∨ m = 3 ∨ m = 4 ∨ m = 5 ∨ m = 6 ∨ m = 7 ∨ m = 8 ∨ m = 9 := by omega
  rcases this with rfl | rfl | rfl | rfl | rfl | rfl | rfl | rfl | rfl | rfl <;> rfl
theorem s_l01Num (n : Int) : Spec Tryd.prog 60 [.ro (T.int n)] [T.bool (decide (0 ≤ n ∧ n ≤ 4294967295))] := by
  refine fn Tryd.func60 ?_
  repeat' (first | (first | refine brT ?_ | refine brF ?_ | refine And.intro rfl ?_ | refine And.intro trivial ?_ | intro _) | refine brI (fun _ => ?_) (fun _ => ?_))
  all_goals (refine tb ?_; simp_all <;> (intros; omega))
theorem i_isNum (n : Int) : Spec Tryd.prog 88 [.ro (T.int n)] [T.bool (decide (0 ≤ n ∧ n ≤ 4294967295))] := by
  refine fn Tryd.func88 ?_
  repeat' (first | (first | refine brT ?_ | refine brF ?_ | refine And.intro rfl ?_ | refine And.intro trivial ?_ | intro _) | refine brI (fun _ => ?_) (fun _ => ?_))
  all_goals (refine tb ?_; simp_all <;> (intros; omega))
theorem ntF_big {k n : Nat} (h : ¬ n < 10) : ntF (k + 1) n = ntF k (n / 10) ++ dg (n % 10) := by rw [ntF, if_neg h]
theorem i_ntF : ∀ (k n : Nat), k ≤ 100 → n < cap10 k → n ≤ 4294967295 → Spec Tryd.prog 65 [.ro (T.int n)] [T.str (ntF k n)] := by
  intro k
  induction k with
  | zero =>
    intro n hk h1 h2
    have h1 : n < 10 := h1
    refine fn Tryd.func65 ?_
    repeat (first | refine brT ?_ | refine brF ?_ | refine And.intro rfl ?_ | refine And.intro trivial ?_ | intro _)
    refine ⟨_, i_isNum n, ?_⟩
    repeat (first | refine brT ?_ | refine brF ?_ | refine And.intro rfl ?_ | refine And.intro trivial ?_ | intro _)
    refine brL (by simp; omega) (fun _ => ?_)
    repeat (first | refine brT ?_ | refine brF ?_ | refine And.intro rfl ?_ | refine And.intro trivial ?_ | intro _)
    refine brR (by simp; omega) (fun _ => ?_)
    repeat (first | refine brT ?_ | refine brF ?_ | refine And.intro rfl ?_ | refine And.intro trivial ?_ | intro _)
    exact congrArg (fun z => [T.str z]) (rune_val rfl h1)
  | succ k ih =>
    intro n hk h1 h2
    by_cases h : n < 10
    · refine fn Tryd.func65 ?_
      repeat (first | refine brT ?_ | refine brF ?_ | refine And.intro rfl ?_ | refine And.intro trivial ?_ | intro _)
      refine ⟨_, i_isNum n, ?_⟩
      repeat (first | refine brT ?_ | refine brF ?_ | refine And.intro rfl ?_ | refine And.intro trivial ?_ | intro _)
      refine brL (by simp; omega) (fun _ => ?_)
      repeat (first | refine brT ?_ | refine brF ?_ | refine And.intro rfl ?_ | refine And.intro trivial ?_ | intro _)
      refine brR (by simp; omega) (fun _ => ?_)
      repeat (first | refine brT ?_ | refine brF ?_ | refine And.intro rfl ?_ | refine And.intro trivial ?_ | intro _)
      exact congrArg (fun z => [T.str z]) ((rune_val rfl h).trans (ntF_small h).symm)
    · have hq : (((n : Int)).tdiv 10) = ((n / 10 : Nat) : Int) := by rw [Int.tdiv_eq_ediv_of_nonneg (by omega)]; omega
      have hr : (((n : Int)).tmod 10) = ((n % 10 : Nat) : Int) := by rw [Int.tmod_eq_emod_of_nonneg (by omega)]; omega
      have hw : w64 (((n : Int)).tdiv 10) = ((n / 10 : Nat) : Int) := by rw [hq, w64_id (by omega) (by omega)]
      have ihn := ih (n / 10) (by omega) (by simp only [cap10] at h1; omega) (by omega)
      rw [← hw] at ihn
      have hsz := ntF_size k (n / 10)
      have hsz2 : (dg (n % 10)).size = 1 := rfl
      have hrv := rune_val (n := ((n : Int)).tmod 10) (m := n % 10) hr (by omega)
      refine fn Tryd.func65 ?_
      repeat (first | refine brT ?_ | refine brF ?_ | refine And.intro rfl ?_ | refine And.intro trivial ?_ | intro _)
      refine ⟨_, i_isNum n, ?_⟩
      repeat (first | refine brT ?_ | refine brF ?_ | refine And.intro rfl ?_ | refine And.intro trivial ?_ | intro _)
      refine brL (by simp; omega) (fun _ => ?_)
      repeat (first | refine brT ?_ | refine brF ?_ | refine And.intro rfl ?_ | refine And.intro trivial ?_ | intro _)
      refine brL (by simp; omega) (fun _ => ?_)
      repeat (first | refine brT ?_ | refine brF ?_ | refine And.intro rfl ?_ | refine And.intro trivial ?_ | intro _)
      refine ⟨by decide, ?_⟩
      repeat (first | refine brT ?_ | refine brF ?_ | refine And.intro rfl ?_ | refine And.intro trivial ?_ | intro _)
      refine ⟨_, ihn, ?_⟩
      repeat (first | refine brT ?_ | refine brF ?_ | refine And.intro rfl ?_ | refine And.intro trivial ?_ | intro _)
      refine ⟨by decide, ?_⟩
      repeat (first | refine brT ?_ | refine brF ?_ | refine And.intro rfl ?_ | refine And.intro trivial ?_ | intro _)
      refine ⟨by rw [hrv, hsz2]; omega, ?_⟩
      repeat (first | refine brT ?_ | refine brF ?_ | refine And.intro rfl ?_ | refine And.intro trivial ?_ | intro _)
      exact congrArg (fun z => [T.str z]) ((congrArg (fun z => ntF k (n / 10) ++ z) hrv).trans (ntF_big h).symm)
theorem s_ntF : ∀ (k n : Nat), k ≤ 100 → n < cap10 k → n ≤ 4294967295 → Spec Tryd.prog 61 [.ro (T.int n)] [T.str (ntF k n)] := by
  intro k
  induction k with
  | zero =>
    intro n hk h1 h2
    have h1 : n < 10 := h1
    refine fn Tryd.func61 ?_
    repeat (first | refine brT ?_ | refine brF ?_ | refine And.intro rfl ?_ | refine And.intro trivial ?_ | intro _)
    refine ⟨_, s_l01Num n, ?_⟩
    repeat (first | refine brT ?_ | refine brF ?_ | refine And.intro rfl ?_ | refine And.intro trivial ?_ | intro _)
    refine brL (by simp; omega) (fun _ => ?_)
    repeat (first | refine brT ?_ | refine brF ?_ | refine And.intro rfl ?_ | refine And.intro trivial ?_ | intro _)
    refine brR (by simp; omega) (fun _ => ?_)
    repeat (first | refine brT ?_ | refine brF ?_ | refine And.intro rfl ?_ | refine And.intro trivial ?_ | intro _)
    refine ⟨fun t ht => (by simp at ht; subst ht; rfl), fun q => ?_⟩
    repeat (first | refine brT ?_ | refine brF ?_ | refine And.intro rfl ?_ | refine And.intro trivial ?_ | intro _)
    refine ⟨[UInt8.ofNat (48 + n)], by simp, congrArg (fun z => [T.v (.int .u8 z)]) (dg_val rfl h1), ?_⟩
    repeat (first | refine brT ?_ | refine brF ?_ | refine And.intro rfl ?_ | refine And.intro trivial ?_ | intro _)
    exact rfl
  | succ k ih =>
    intro n hk h1 h2
    by_cases h : n < 10
    · refine fn Tryd.func61 ?_
      repeat (first | refine brT ?_ | refine brF ?_ | refine And.intro rfl ?_ | refine And.intro trivial ?_ | intro _)
      refine ⟨_, s_l01Num n, ?_⟩
      repeat (first | refine brT ?_ | refine brF ?_ | refine And.intro rfl ?_ | refine And.intro trivial ?_ | intro _)
      refine brL (by simp; omega) (fun _ => ?_)
      repeat (first | refine brT ?_ | refine brF ?_ | refine And.intro rfl ?_ | refine And.intro trivial ?_ | intro _)
      refine brR (by simp; omega) (fun _ => ?_)
      repeat (first | refine brT ?_ | refine brF ?_ | refine And.intro rfl ?_ | refine And.intro trivial ?_ | intro _)
      refine ⟨fun t ht => (by simp at ht; subst ht; rfl), fun q => ?_⟩
      repeat (first | refine brT ?_ | refine brF ?_ | refine And.intro rfl ?_ | refine And.intro trivial ?_ | intro _)
      refine ⟨[UInt8.ofNat (48 + n)], by simp, congrArg (fun z => [T.v (.int .u8 z)]) (dg_val rfl h), ?_⟩
      repeat (first | refine brT ?_ | refine brF ?_ | refine And.intro rfl ?_ | refine And.intro trivial ?_ | intro _)
      exact congrArg (fun z => [T.str z]) (ntF_small h).symm
    · have hq : (((n : Int)).tdiv 10) = ((n / 10 : Nat) : Int) := by rw [Int.tdiv_eq_ediv_of_nonneg (by omega)]; omega
      have hr : (((n : Int)).tmod 10) = ((n % 10 : Nat) : Int) := by rw [Int.tmod_eq_emod_of_nonneg (by omega)]; omega
      have hw : w64 (((n : Int)).tdiv 10) = ((n / 10 : Nat) : Int) := by rw [hq, w64_id (by omega) (by omega)]
      have ihn := ih (n / 10) (by omega) (by simp only [cap10] at h1; omega) (by omega)
      rw [← hw] at ihn
      have hsz := ntF_size k (n / 10)
      have hsz2 : (dg (n % 10)).size = 1 := rfl
      refine fn Tryd.func61 ?_
      repeat (first | refine brT ?_ | refine brF ?_ | refine And.intro rfl ?_ | refine And.intro trivial ?_ | intro _)
      refine ⟨_, s_l01Num n, ?_⟩
      repeat (first | refine brT ?_ | refine brF ?_ | refine And.intro rfl ?_ | refine And.intro trivial ?_ | intro _)
      refine brL (by simp; omega) (fun _ => ?_)
      repeat (first | refine brT ?_ | refine brF ?_ | refine And.intro rfl ?_ | refine And.intro trivial ?_ | intro _)
      refine brL (by simp; omega) (fun _ => ?_)
      repeat (first | refine brT ?_ | refine brF ?_ | refine And.intro rfl ?_ | refine And.intro trivial ?_ | intro _)
      refine dr (Pl.go 0 (Pl.go 1 (Pl.go 3 (Pl.go 4 (Pl.go 5 ((Pl.go 2 (Pl.go 6 (Pl.go 7 (Pl.go 8 (Pl.go 9 (Pl.go 10 Pl.stop)))))).or (Pl.go 6 ((Pl.go 2 (Pl.go 7 (Pl.go 8 (Pl.go 9 (Pl.go 10 Pl.stop))))).or (Pl.go 7 ((Pl.go 2 (Pl.go 8 (Pl.go 9 (Pl.go 10 Pl.stop)))).or (Pl.go 8 (Pl.go 2 (Pl.go 9 (Pl.go 10 Pl.stop)))))))))))))) (by kernel_rfl) ?_
      repeat' (first | (first | refine brT ?_ | refine brF ?_ | refine And.intro rfl ?_ | refine And.intro trivial ?_ | intro _) | refine ⟨_, ihn, ?_⟩ | refine ⟨(by decide : (10 : Int) ≠ 0), ?_⟩ | refine ⟨fun t ht => (by simp at ht; subst ht; rfl), fun _ => ?_⟩ | refine ⟨[UInt8.ofNat (48 + n % 10)], by simp, congrArg (fun z => [T.v (.int .u8 z)]) (dg_val hr (by omega)), ?_⟩ | refine And.intro ?_ ?_)
      all_goals first
        | (show (ntF k (n / 10)).size + (dg (n % 10)).size ≤ _; omega)
        | exact congrArg (fun z => [T.str z]) (ntF_big h).symm
theorem s_NumText (n : Int) : Spec Tryd.prog 61 [.ro (T.int n)] [T.str (numText n)] := by
  unfold numText
  by_cases h : 0 ≤ n ∧ n ≤ 4294967295
  · rw [if_pos h]
    have t := s_ntF 9 n.toNat (by decide) (by simp only [cap10]; omega) (by omega)
    rw [Int.toNat_of_nonneg h.1] at t
    exact t
  · rw [if_neg h]
    refine fn Tryd.func61 ?_
    repeat (first | refine brT ?_ | refine brF ?_ | refine And.intro rfl ?_ | refine And.intro trivial ?_ | intro _)
    refine ⟨_, s_l01Num n, ?_⟩
    repeat (first | refine brT ?_ | refine brF ?_ | refine And.intro rfl ?_ | refine And.intro trivial ?_ | intro _)
    refine brR (by rw [decide_eq_false h]; decide) (fun _ => ?_)
    repeat (first | refine brT ?_ | refine brF ?_ | refine And.intro rfl ?_ | refine And.intro trivial ?_ | intro _)
    exact rfl
theorem i_NumText (n : Int) : Spec Tryd.prog 65 [.ro (T.int n)] [T.str (numText n)] := by
  unfold numText
  by_cases h : 0 ≤ n ∧ n ≤ 4294967295
  · rw [if_pos h]
    have t := i_ntF 9 n.toNat (by decide) (by simp only [cap10]; omega) (by omega)
    rw [Int.toNat_of_nonneg h.1] at t
    exact t
  · rw [if_neg h]
    refine fn Tryd.func65 ?_
    repeat (first | refine brT ?_ | refine brF ?_ | refine And.intro rfl ?_ | refine And.intro trivial ?_ | intro _)
    refine ⟨_, i_isNum n, ?_⟩
    repeat (first | refine brT ?_ | refine brF ?_ | refine And.intro rfl ?_ | refine And.intro trivial ?_ | intro _)
    refine brR (by rw [decide_eq_false h]; decide) (fun _ => ?_)
    repeat (first | refine brT ?_ | refine brF ?_ | refine And.intro rfl ?_ | refine And.intro trivial ?_ | intro _)
    exact rfl
theorem s_l03Words : Spec Tryd.prog 70 [] [.sl 1 ((wordsL.drop 1).map T.str)] := by
  refine fn Tryd.func70 ?_
  repeat (first | refine brT ?_ | refine brF ?_ | refine And.intro rfl ?_ | refine And.intro trivial ?_ | intro _)
  refine ⟨fun t ht => (by simp at ht; rcases ht with rfl | rfl | rfl | rfl | rfl | rfl | rfl | rfl | rfl | rfl | rfl | rfl | rfl | rfl | rfl <;> rfl), fun q => ?_⟩
  repeat (first | refine brT ?_ | refine brF ?_ | refine And.intro rfl ?_ | refine And.intro trivial ?_ | intro _)
  exact rfl
theorem word_at {n : Nat} (h : n < 16) : (wordsL.map T.str)[n]? = some (T.str (wordsL.getD n ⟨#[]⟩)) := by
  have e : wordsL.length = 16 := rfl
  rw [List.getElem?_map, List.getElem?_eq_getElem (by omega), List.getD_eq_getElem?_getD, List.getElem?_eq_getElem (by omega)]; rfl
theorem word_at1 {n : Nat} (h : n < 15) : ((wordsL.drop 1).map T.str)[n]? = some (T.str (wordsL.getD (n + 1) ⟨#[]⟩)) := by
  have := word_at (n := n + 1) (by omega)
  rw [List.getElem?_map] at this ⊢
  rw [List.getElem?_drop, Nat.add_comm]; exact this
theorem s_OpWord (n : Int) : Spec Tryd.prog 33 [.ro (T.int n)] [T.str (opWord n)] := by
  refine fn Tryd.func33 ?_
  unfold opWord
  by_cases h : 1 ≤ n ∧ n ≤ 15
  · rw [if_pos h]
    have h1 := h.1
    have h2 := h.2
    have e : w64 (n - 1) = n - 1 := w64_id (by omega) (by omega)
    repeat (first | (first | refine brT ?_ | refine brF ?_ | refine And.intro rfl ?_ | refine And.intro trivial ?_ | intro _) | (refine brL ?kzz (fun _ => ?_); case kzz => (simp <;> omega)) | (refine brR ?kzz (fun _ => ?_); case kzz => (simp <;> omega)))
    refine ⟨_, s_l03Words, ?_⟩
    repeat (first | refine brT ?_ | refine brF ?_ | refine And.intro rfl ?_ | refine And.intro trivial ?_ | intro _)
    refine ⟨by show 0 ≤ w64 (n - 1); omega, by show (w64 (n - 1)).toNat < 15; omega, ?_⟩
    repeat (first | refine brT ?_ | refine brF ?_ | refine And.intro rfl ?_ | refine And.intro trivial ?_ | intro _)
    refine ⟨T.str (wordsL.getD n.toNat ⟨#[]⟩), ?_, ?_⟩
    · show ((wordsL.drop 1).map T.str)[(w64 (n - 1)).toNat]? = _
      have t := word_at1 (n := (n - 1).toNat) (by omega)
      rw [show (n - 1).toNat + 1 = n.toNat by omega] at t
      rw [e]; exact t
    repeat (first | refine brT ?_ | refine brF ?_ | refine And.intro rfl ?_ | refine And.intro trivial ?_ | intro _)
    exact rfl
  · rw [if_neg h]
    by_cases h1 : 1 ≤ n
    · have h2 : n > 15 := by omega
      repeat (first | (first | refine brT ?_ | refine brF ?_ | refine And.intro rfl ?_ | refine And.intro trivial ?_ | intro _) | (refine brL ?kzz (fun _ => ?_); case kzz => (simp <;> omega)) | (refine brR ?kzz (fun _ => ?_); case kzz => (simp <;> omega)))
      exact rfl
    · repeat (first | (first | refine brT ?_ | refine brF ?_ | refine And.intro rfl ?_ | refine And.intro trivial ?_ | intro _) | (refine brL ?kzz (fun _ => ?_); case kzz => (simp <;> omega)) | (refine brR ?kzz (fun _ => ?_); case kzz => (simp <;> omega)))
      exact rfl
theorem i_OpWord (n : Int) : Spec Tryd.prog 35 [.ro (T.int n)] [T.str (opWord n)] := by
  refine fn Tryd.func35 ?_
  unfold opWord
  repeat (first | refine brT ?_ | refine brF ?_ | refine And.intro rfl ?_ | refine And.intro trivial ?_ | intro _)
  refine ⟨fun t ht => (by simp at ht; rcases ht with rfl | rfl | rfl | rfl | rfl | rfl | rfl | rfl | rfl | rfl | rfl | rfl | rfl | rfl | rfl | rfl <;> rfl), fun q => ?_⟩
  repeat (first | refine brT ?_ | refine brF ?_ | refine And.intro rfl ?_ | refine And.intro trivial ?_ | intro _)
  by_cases h : 0 ≤ n ∧ n < 16
  · have h1 := h.1
    have h2 := h.2
    repeat (first | (first | refine brT ?_ | refine brF ?_ | refine And.intro rfl ?_ | refine And.intro trivial ?_ | intro _) | (refine brL ?kzz (fun _ => ?_); case kzz => (simp <;> omega)) | (refine brR ?kzz (fun _ => ?_); case kzz => (simp <;> omega)))
    refine ⟨h1, by show n.toNat < 16; omega, ?_⟩
    repeat (first | refine brT ?_ | refine brF ?_ | refine And.intro rfl ?_ | refine And.intro trivial ?_ | intro _)
    refine ⟨T.str (wordsL.getD n.toNat ⟨#[]⟩), word_at (by omega), ?_⟩
    repeat (first | refine brT ?_ | refine brF ?_ | refine And.intro rfl ?_ | refine And.intro trivial ?_ | intro _)
    by_cases h3 : 1 ≤ n ∧ n ≤ 15
    · rw [if_pos h3]
      exact rfl
    · rw [if_neg h3]
      have : n = 0 := by omega
      subst this
      exact rfl
  · rw [if_neg (by omega)]
    by_cases h1 : 0 ≤ n
    · have h2 : n ≥ 16 := by omega
      repeat (first | (first | refine brT ?_ | refine brF ?_ | refine And.intro rfl ?_ | refine And.intro trivial ?_ | intro _) | (refine brL ?kzz (fun _ => ?_); case kzz => (simp <;> omega)) | (refine brR ?kzz (fun _ => ?_); case kzz => (simp <;> omega)))
      exact rfl
    · repeat (first | (first | refine brT ?_ | refine brF ?_ | refine And.intro rfl ?_ | refine And.intro trivial ?_ | intro _) | (refine brL ?kzz (fun _ => ?_); case kzz => (simp <;> omega)) | (refine brR ?kzz (fun _ => ?_); case kzz => (simp <;> omega)))
      exact rfl
def isCh (op : Int) : Bool := op == 8 || op == 9 || op == 10
def nilW : ByteArray := ⟨#[110, 105, 108]⟩
def wordOf (n : Int) (c : Bool) (w : ByteArray) : ByteArray := if c = true ∧ n = -1 then w else numText n
def okW (n : Int) (c : Bool) : Bool := (c && n == -1) || decide (0 ≤ n ∧ n ≤ 4294967295)
theorem s_IsCh (n : Int) : Spec Tryd.prog 73 [.ro (T.int n)] [T.bool (isCh n)] := by
  refine fn Tryd.func73 ?_
  repeat' (first | (first | refine brT ?_ | refine brF ?_ | refine And.intro rfl ?_ | refine And.intro trivial ?_ | intro _) | refine brI (fun _ => ?_) (fun _ => ?_))
  all_goals (refine tb ?_; unfold isCh; simp_all)
theorem i_hasCh (n : Int) : Spec Tryd.prog 38 [.ro (T.int n)] [T.bool (isCh n)] := by
  refine fn Tryd.func38 ?_
  repeat' (first | (first | refine brT ?_ | refine brF ?_ | refine And.intro rfl ?_ | refine And.intro trivial ?_ | intro _) | refine brI (fun _ => ?_) (fun _ => ?_))
  all_goals (refine tb ?_; unfold isCh; simp_all)
theorem s_l05Num (n : Int) (c : Bool) (w : ByteArray) : Spec Tryd.prog 62 [.ro (T.int n), .ro (T.bool c), .ro (T.str w)] [T.str (wordOf n c w), T.bool (okW n c)] := by
  refine fn Tryd.func62 ?_
  unfold wordOf okW
  by_cases h : c = true ∧ n = -1
  · rw [if_pos h]
    obtain ⟨rfl, rfl⟩ := h
    repeat (first | refine brT ?_ | refine brF ?_ | refine And.intro rfl ?_ | refine And.intro trivial ?_ | intro _)
    exact rfl
  · rw [if_neg h]
    cases c with
    | false =>
      repeat (first | refine brT ?_ | refine brF ?_ | refine And.intro rfl ?_ | refine And.intro trivial ?_ | intro _)
      refine ⟨_, s_NumText n, ?_⟩
      repeat (first | refine brT ?_ | refine brF ?_ | refine And.intro rfl ?_ | refine And.intro trivial ?_ | intro _)
      refine ⟨_, s_l01Num n, ?_⟩
      repeat (first | refine brT ?_ | refine brF ?_ | refine And.intro rfl ?_ | refine And.intro trivial ?_ | intro _)
      exact rfl
    | true =>
      have h2 : ¬ n = -1 := fun e => h ⟨rfl, e⟩
      repeat (first | (first | refine brT ?_ | refine brF ?_ | refine And.intro rfl ?_ | refine And.intro trivial ?_ | intro _) | (refine brL ?kzz (fun _ => ?_); case kzz => (simp <;> omega)) | (refine brR ?kzz (fun _ => ?_); case kzz => (simp <;> omega)))
      refine ⟨_, s_NumText n, ?_⟩
      repeat (first | refine brT ?_ | refine brF ?_ | refine And.intro rfl ?_ | refine And.intro trivial ?_ | intro _)
      refine ⟨_, s_l01Num n, ?_⟩
      repeat (first | refine brT ?_ | refine brF ?_ | refine And.intro rfl ?_ | refine And.intro trivial ?_ | intro _)
      have e : (n == -1) = false := by simpa using h2
      rw [e]; exact rfl

end Go.Proofs.YtphikogfogejlaaDoor.E
