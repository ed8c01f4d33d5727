/- Contracts of functions of this seat's program. -/
import Derived.Test.YtphikogfogejlaaDoorETy
import Derived.Test.YtphikogfogejlaaDoorESl
import Derived.Test.YtphikogfogejlaaDoorEMs
namespace Go.Proofs.YtphikogfogejlaaDoor.E
set_option linter.unusedVariables false
set_option linter.unusedSimpArgs false
set_option maxHeartbeats 1600000
/-! Numbers out of texts. -/
def isDg (b : UInt8) : Bool := decide (48 ≤ b.toNat ∧ b.toNat ≤ 57)
def decV (l : List UInt8) : Nat := l.foldl (fun a b => 10 * a + (b.toNat - 48)) 0
theorem decV_app (l : List UInt8) (b : UInt8) : decV (l ++ [b]) = 10 * decV l + (b.toNat - 48) := by simp [decV]
def textNum (s : ByteArray) : Int × Bool := if s.size < 1 ∨ 10 < s.size then (0, false) else if s.data.toList.all isDg then (if numText (decV s.data.toList) = s then ((decV s.data.toList : Int), true) else (0, false)) else (0, false)
theorem dg_data (n : Nat) : (dg n).data.toList = [UInt8.ofNat (48 + n)] := rfl
theorem app_data (a b : ByteArray) : (a ++ b).data.toList = a.data.toList ++ b.data.toList := by rw [ByteArray.data_append, Array.toList_append]
theorem ntF_dec : ∀ (k n : Nat), n < cap10 k → ((ntF k n).data.toList.all isDg = true ∧ decV (ntF k n).data.toList = n)
  | 0, n, h => by
    have h' : n < 10 := h
    have e : (UInt8.ofNat (48 + n)).toNat = 48 + n := by simp; omega
    show ((dg n).data.toList.all isDg = true ∧ decV (dg n).data.toList = n)
    rw [dg_data]
    refine ⟨by simp [isDg]; omega, ?_⟩
    simp only [decV, List.foldl_cons, List.foldl_nil, e]; omega
  | k + 1, n, h => by
    by_cases h10 : n < 10
    · rw [ntF_small h10]
      have e : (UInt8.ofNat (48 + n)).toNat = 48 + n := by simp; omega
      rw [dg_data]
      refine ⟨by simp [isDg]; omega, ?_⟩
      simp only [decV, List.foldl_cons, List.foldl_nil, e]; omega
    · have ih := ntF_dec k (n / 10) (by simp only [cap10] at h; omega)
      have e : (UInt8.ofNat (48 + n % 10)).toNat = 48 + n % 10 := by simp; omega
      rw [ntF_big h10, app_data, dg_data]
      refine ⟨by rw [List.all_append, ih.1]; simp [isDg]; omega, ?_⟩
      rw [decV_app, ih.2, e]; omega
theorem numText_dec {n : Int} (h : 0 ≤ n ∧ n ≤ 4294967295) : (numText n).data.toList.all isDg = true ∧ (decV (numText n).data.toList : Int) = n := by
  unfold numText
  rw [if_pos h]
  have := ntF_dec 9 n.toNat (by simp only [cap10]; omega)
  exact ⟨this.1, by rw [this.2]; omega⟩
theorem numText_pos {n : Int} (h : 0 ≤ n ∧ n ≤ 4294967295) : 1 ≤ (numText n).size ∧ (numText n).size ≤ 10 := by
  unfold numText
  rw [if_pos h]
  have := ntF_size 9 n.toNat
  omega
theorem textNum_num {n : Int} (h : 0 ≤ n ∧ n ≤ 4294967295) : textNum (numText n) = (n, true) := by
  have h1 := numText_pos h
  have h2 := numText_dec h
  unfold textNum
  rw [if_neg (by omega), if_pos h2.1, h2.2, if_pos rfl]
theorem textNum_ok {s : ByteArray} (h : (textNum s).2 = true) : (0 ≤ (textNum s).1 ∧ (textNum s).1 ≤ 4294967295) ∧ numText (textNum s).1 = s := by
  unfold textNum at h ⊢
  by_cases hz : s.size < 1 ∨ 10 < s.size
  · rw [if_pos hz] at h; cases h
  rw [if_neg hz] at h ⊢
  cases ha : s.data.toList.all isDg with
  | false => rw [ha] at h; cases h
  | true =>
    rw [ha] at h
    simp only [if_true] at h ⊢
    by_cases he : numText (decV s.data.toList) = s
    · rw [if_pos he]
      refine ⟨?_, he⟩
      by_cases hr : 0 ≤ (decV s.data.toList : Int) ∧ (decV s.data.toList : Int) ≤ 4294967295
      · exact hr
      · exfalso
        unfold numText at he
        rw [if_neg hr] at he
        have : s.size = 0 := by rw [← he]; rfl
        omega
    · simp only [he, if_false] at h; cases h
theorem textNum_no {s : ByteArray} (h : (textNum s).2 = false) : (textNum s).1 = 0 := by
  unfold textNum at h ⊢
  split
  · rfl
  · rename_i h1
    rw [if_neg h1] at h
    split
    · rename_i h2
      rw [if_pos h2] at h
      split
      · rename_i h3; rw [if_pos h3] at h; cases h
      · rfl
    · rfl
theorem decV_ltN : ∀ (n : Nat) (l : List UInt8), l.length = n → (∀ b ∈ l, isDg b = true) → decV l < 10 ^ l.length
  | 0, l, hl, _ => by rw [List.length_eq_zero_iff.1 hl]; decide
  | n + 1, l, hl, h => by
    have hne : l ≠ [] := by intro e; rw [e] at hl; cases hl
    obtain ⟨L, b, rfl⟩ : ∃ L b, l = L ++ [b] := ⟨_, _, (List.dropLast_concat_getLast hne).symm⟩
    have h1 := decV_ltN n L (by simpa using hl) (fun x hx => h x (by simp [hx]))
    have h2 := h b (by simp)
    simp only [isDg, decide_eq_true_eq] at h2
    rw [decV_app, List.length_append, List.length_singleton, Nat.pow_succ]
    omega
theorem decV_lt (l : List UInt8) (h : ∀ b ∈ l, isDg b = true) : decV l < 10 ^ l.length := decV_ltN _ l rfl h
theorem dgs_take {s : ByteArray} {i : Nat} (hi : i < s.size) (h : ∀ b ∈ s.data.toList.take i, isDg b = true) (hd : isDg s[i]! = true) : (∀ b ∈ s.data.toList.take (i + 1), isDg b = true) ∧ s.data.toList.take (i + 1) = s.data.toList.take i ++ [s[i]!] := by
  have hat := ba_at hi
  have hl : i < s.data.toList.length := by have : i < s.data.size := hi; simpa using this
  have hx : s.data.toList[i] = s[i]! := Option.some.inj ((List.getElem?_eq_getElem _).symm.trans hat)
  have e : s.data.toList.take (i + 1) = s.data.toList.take i ++ [s[i]!] := by rw [List.take_succ_eq_append_getElem hl, hx]
  refine ⟨fun b hb => ?_, e⟩
  rw [e] at hb
  rcases List.mem_append.1 hb with hb | hb
  · exact h b hb
  · simp at hb; subst hb; exact hd
theorem dgs_no {s : ByteArray} {i : Nat} (hi : i < s.size) (hd : isDg s[i]! = false) : s.data.toList.all isDg = false := by
  rw [List.all_eq_false]
  exact ⟨s[i]!, List.mem_of_getElem? (ba_at hi), by simp [hd]⟩
theorem take_all (s : ByteArray) : s.data.toList.take s.size = s.data.toList := List.take_of_length_le (by show s.data.toList.length ≤ s.data.size; simp)
theorem u8_sub {b : UInt8} (h : isDg b = true) : IntKind.wrap .i64 (IntKind.wrap .u8 ((b.toNat : Int) - 48)) = ((b.toNat - 48 : Nat) : Int) := by
  simp only [isDg, decide_eq_true_eq] at h
  rw [IntKind.wrap_u8]
  have e : ((b.toNat : Int) - 48) % 256 = ((b.toNat - 48 : Nat) : Int) := by omega
  rw [e]
  exact w64_id (by omega) (by omega)
theorem i_TextNum (s : ByteArray) : Spec Tryd.prog 37 [.ro (T.str s)] [T.int (textNum s).1, T.bool (textNum s).2] := by
  refine fn Tryd.func37 ?_
  unfold textNum
  repeat (first | refine brT ?_ | refine brF ?_ | refine And.intro rfl ?_ | refine And.intro trivial ?_ | intro _)
  by_cases h0 : s.size = 0
  · rw [if_pos (by omega)]
    refine brR (by show ¬ (isE s = false); rw [isE_iff, decide_eq_true h0]; decide) (fun _ => ?_)
    repeat (first | (first | refine brT ?_ | refine brF ?_ | refine And.intro rfl ?_ | refine And.intro trivial ?_ | intro _) | (refine brL ?kzz (fun _ => ?_); case kzz => (simp <;> omega)) | (refine brR ?kzz (fun _ => ?_); case kzz => (simp <;> omega)))
    exact rfl
  refine brL (by show ¬ (isE s = true); rw [isE_iff, decide_eq_false h0]; decide) (fun _ => ?_)
  by_cases h1 : 10 < s.size
  · rw [if_pos (by omega)]
    repeat (first | (first | refine brT ?_ | refine brF ?_ | refine And.intro rfl ?_ | refine And.intro trivial ?_ | intro _) | (refine brL ?kzz (fun _ => ?_); case kzz => (simp <;> omega)) | (refine brR ?kzz (fun _ => ?_); case kzz => (simp <;> omega)))
    exact rfl
  rw [if_neg (by omega)]
  repeat (first | (first | refine brT ?_ | refine brF ?_ | refine And.intro rfl ?_ | refine And.intro trivial ?_ | intro _) | (refine brL ?kzz (fun _ => ?_); case kzz => (simp <;> omega)) | (refine brR ?kzz (fun _ => ?_); case kzz => (simp <;> omega)))
  refine loopI (fun i : Nat => ⟨42, [(0, .vv (.string s)), (4, .int (decV (s.data.toList.take i))), (14, .int s.size), (15, .int i)], []⟩) (fun i => s.size - i) (fun i => i ≤ s.size ∧ ∀ b ∈ s.data.toList.take i, isDg b = true) 0 ⟨Nat.zero_le _, by simp⟩
    (wk rfl ⟨rfl, congrArg AV.int (by simp [decV]), rfl, rfl, trivial⟩ trivial) ?_
  rintro i ⟨hi, hI⟩
  repeat (first | refine brT ?_ | refine brF ?_ | refine And.intro rfl ?_ | refine And.intro trivial ?_ | intro _)
  refine brD (fun h => ?_) (fun h => ?_)
  · have hlt : i < s.size := by have h' : (i : Int) < (s.size : Int) := h; omega
    have hlen := decV_lt _ hI
    have hp : (10 : Nat) ^ (s.data.toList.take i).length ≤ 10 ^ 10 := Nat.pow_le_pow_right (by decide) (by rw [List.length_take]; omega)
    repeat (first | refine brT ?_ | refine brF ?_ | refine And.intro rfl ?_ | refine And.intro trivial ?_ | intro _)
    refine ⟨nn i, h, ?_⟩
    repeat (first | refine brT ?_ | refine brF ?_ | refine And.intro rfl ?_ | refine And.intro trivial ?_ | intro _)
    cases hd : isDg s[i]! with
    | false =>
      have hno := dgs_no hlt hd
      simp only [isDg, decide_eq_false_iff_not] at hd
      rw [hno]
      by_cases h48 : s[i]!.toNat < 48
      · refine brR (by show ¬ (decide (((s[((i : Int)).toNat]!).toNat : Int) < 48) = false); simp; omega) (fun _ => ?_)
        repeat (first | (first | refine brT ?_ | refine brF ?_ | refine And.intro rfl ?_ | refine And.intro trivial ?_ | intro _) | (refine brL ?kzz (fun _ => ?_); case kzz => (simp <;> omega)) | (refine brR ?kzz (fun _ => ?_); case kzz => (simp <;> omega)))
        exact rfl
      · refine brL (by show ¬ (decide (((s[((i : Int)).toNat]!).toNat : Int) < 48) = true); simp; omega) (fun _ => ?_)
        repeat (first | refine brT ?_ | refine brF ?_ | refine And.intro rfl ?_ | refine And.intro trivial ?_ | intro _)
        refine ⟨nn i, h, ?_⟩
        repeat (first | refine brT ?_ | refine brF ?_ | refine And.intro rfl ?_ | refine And.intro trivial ?_ | intro _)
        refine brR (by show ¬ (decide (((s[((i : Int)).toNat]!).toNat : Int) > 57) = false); simp; omega) (fun _ => ?_)
        repeat (first | refine brT ?_ | refine brF ?_ | refine And.intro rfl ?_ | refine And.intro trivial ?_ | intro _)
        exact rfl
    | true =>
      obtain ⟨hI2, hT⟩ := dgs_take hlt hI hd
      have hsub := u8_sub hd
      have hd' := hd
      simp only [isDg, decide_eq_true_eq] at hd'
      refine brL (by show ¬ (decide (((s[((i : Int)).toNat]!).toNat : Int) < 48) = true); simp; omega) (fun _ => ?_)
      repeat (first | refine brT ?_ | refine brF ?_ | refine And.intro rfl ?_ | refine And.intro trivial ?_ | intro _)
      refine ⟨nn i, h, ?_⟩
      repeat (first | refine brT ?_ | refine brF ?_ | refine And.intro rfl ?_ | refine And.intro trivial ?_ | intro _)
      refine brL (by show ¬ (decide (((s[((i : Int)).toNat]!).toNat : Int) > 57) = true); simp; omega) (fun _ => ?_)
      repeat (first | refine brT ?_ | refine brF ?_ | refine And.intro rfl ?_ | refine And.intro trivial ?_ | intro _)
      refine ⟨nn i, h, ?_⟩
      repeat (first | refine brT ?_ | refine brF ?_ | refine And.intro rfl ?_ | refine And.intro trivial ?_ | intro _)
      refine nxt (i + 1) ⟨hlt, hI2⟩ (by show s.size - (i + 1) < s.size - i; omega) (wk rfl ⟨rfl, congrArg AV.int ?_, rfl, up1 hlt (by omega), trivial⟩ trivial)
      show w64 (w64 (10 * (decV (s.data.toList.take i) : Int)) + IntKind.wrap .i64 (IntKind.wrap .u8 (((s[((i : Int)).toNat]!).toNat : Int) - 48))) = _
      rw [show ((i : Int)).toNat = i from rfl, hsub, hT, decV_app, w64_id (n := 10 * (decV (s.data.toList.take i) : Int)) (by omega) (by omega), w64_id (by omega) (by omega)]
      omega
  · have hge : i = s.size := by have h' : ¬ (i : Int) < (s.size : Int) := h; omega
    subst hge
    rw [take_all] at hI ⊢
    have ha : s.data.toList.all isDg = true := List.all_eq_true.2 hI
    rw [ha]
    repeat (first | refine brT ?_ | refine brF ?_ | refine And.intro rfl ?_ | refine And.intro trivial ?_ | intro _)
    refine ⟨_, i_NumText (decV s.data.toList), ?_⟩
    repeat (first | refine brT ?_ | refine brF ?_ | refine And.intro rfl ?_ | refine And.intro trivial ?_ | intro _)
    by_cases he : numText (decV s.data.toList) = s
    · refine brL (by show ¬ ((!((numText (decV s.data.toList)).toList == s.toList)) = true); rw [beq_str, decide_eq_true he]; decide) (fun _ => ?_)
      repeat (first | refine brT ?_ | refine brF ?_ | refine And.intro rfl ?_ | refine And.intro trivial ?_ | intro _)
      simp only [he, if_true]
      exact rfl
    · refine brR (by show ¬ ((!((numText (decV s.data.toList)).toList == s.toList)) = false); rw [beq_str, decide_eq_false he]; decide) (fun _ => ?_)
      repeat (first | refine brT ?_ | refine brF ?_ | refine And.intro rfl ?_ | refine And.intro trivial ?_ | intro _)
      simp only [he, if_false]
      exact rfl
theorem s_TextNum (s : ByteArray) : Spec Tryd.prog 69 [.ro (T.str s)] [T.int (textNum s).1, T.bool (textNum s).2] := by
  refine fn Tryd.func69 ?_
  unfold textNum
  repeat (first | refine brT ?_ | refine brF ?_ | refine And.intro rfl ?_ | refine And.intro trivial ?_ | intro _)
  by_cases h0 : s.size = 0
  · rw [if_pos (by omega)]
    repeat (first | (first | refine brT ?_ | refine brF ?_ | refine And.intro rfl ?_ | refine And.intro trivial ?_ | intro _) | (refine brL ?kzz (fun _ => ?_); case kzz => (simp <;> omega)) | (refine brR ?kzz (fun _ => ?_); case kzz => (simp <;> omega)))
    exact rfl
  by_cases h1 : 10 < s.size
  · rw [if_pos (by omega)]
    repeat (first | (first | refine brT ?_ | refine brF ?_ | refine And.intro rfl ?_ | refine And.intro trivial ?_ | intro _) | (refine brL ?kzz (fun _ => ?_); case kzz => (simp <;> omega)) | (refine brR ?kzz (fun _ => ?_); case kzz => (simp <;> omega)))
    exact rfl
  rw [if_neg (by omega)]
  repeat (first | (first | refine brT ?_ | refine brF ?_ | refine And.intro rfl ?_ | refine And.intro trivial ?_ | intro _) | (refine brL ?kzz (fun _ => ?_); case kzz => (simp <;> omega)) | (refine brR ?kzz (fun _ => ?_); case kzz => (simp <;> omega)))
  refine loopI (fun i : Nat => ⟨43, [(0, .vv (.string s)), (4, .int (decV (s.data.toList.take i))), (5, .int i)], []⟩) (fun i => s.size - i) (fun i => i ≤ s.size ∧ ∀ b ∈ s.data.toList.take i, isDg b = true) 0 ⟨Nat.zero_le _, by simp⟩
    (wk rfl ⟨rfl, congrArg AV.int (by simp [decV]), rfl, trivial⟩ trivial) ?_
  rintro i ⟨hi, hI⟩
  repeat (first | refine brT ?_ | refine brF ?_ | refine And.intro rfl ?_ | refine And.intro trivial ?_ | intro _)
  refine brD (fun h => ?_) (fun h => ?_)
  · have hlt : i < s.size := by have h' : (i : Int) < (s.size : Int) := h; omega
    have hlen := decV_lt _ hI
    have hp : (10 : Nat) ^ (s.data.toList.take i).length ≤ 10 ^ 10 := Nat.pow_le_pow_right (by decide) (by rw [List.length_take]; omega)
    repeat (first | refine brT ?_ | refine brF ?_ | refine And.intro rfl ?_ | refine And.intro trivial ?_ | intro _)
    refine ⟨nn i, h, ?_⟩
    repeat (first | refine brT ?_ | refine brF ?_ | refine And.intro rfl ?_ | refine And.intro trivial ?_ | intro _)
    cases hd : isDg s[i]! with
    | false =>
      have hno := dgs_no hlt hd
      simp only [isDg, decide_eq_false_iff_not] at hd
      rw [hno]
      by_cases h48 : s[i]!.toNat < 48
      · refine brR (by show ¬ (decide (((s[((i : Int)).toNat]!).toNat : Int) < 48) = false); simp; omega) (fun _ => ?_)
        repeat (first | (first | refine brT ?_ | refine brF ?_ | refine And.intro rfl ?_ | refine And.intro trivial ?_ | intro _) | (refine brL ?kzz (fun _ => ?_); case kzz => (simp <;> omega)) | (refine brR ?kzz (fun _ => ?_); case kzz => (simp <;> omega)))
        exact rfl
      · refine brL (by show ¬ (decide (((s[((i : Int)).toNat]!).toNat : Int) < 48) = true); simp; omega) (fun _ => ?_)
        repeat (first | refine brT ?_ | refine brF ?_ | refine And.intro rfl ?_ | refine And.intro trivial ?_ | intro _)
        refine ⟨nn i, h, ?_⟩
        repeat (first | refine brT ?_ | refine brF ?_ | refine And.intro rfl ?_ | refine And.intro trivial ?_ | intro _)
        refine brR (by show ¬ (decide (((s[((i : Int)).toNat]!).toNat : Int) > 57) = false); simp; omega) (fun _ => ?_)
        repeat (first | refine brT ?_ | refine brF ?_ | refine And.intro rfl ?_ | refine And.intro trivial ?_ | intro _)
        exact rfl
    | true =>
      obtain ⟨hI2, hT⟩ := dgs_take hlt hI hd
      have hsub := u8_sub hd
      have hd' := hd
      simp only [isDg, decide_eq_true_eq] at hd'
      refine brL (by show ¬ (decide (((s[((i : Int)).toNat]!).toNat : Int) < 48) = true); simp; omega) (fun _ => ?_)
      repeat (first | refine brT ?_ | refine brF ?_ | refine And.intro rfl ?_ | refine And.intro trivial ?_ | intro _)
      refine ⟨nn i, h, ?_⟩
      repeat (first | refine brT ?_ | refine brF ?_ | refine And.intro rfl ?_ | refine And.intro trivial ?_ | intro _)
      refine brL (by show ¬ (decide (((s[((i : Int)).toNat]!).toNat : Int) > 57) = true); simp; omega) (fun _ => ?_)
      repeat (first | refine brT ?_ | refine brF ?_ | refine And.intro rfl ?_ | refine And.intro trivial ?_ | intro _)
      refine ⟨nn i, h, ?_⟩
      repeat (first | refine brT ?_ | refine brF ?_ | refine And.intro rfl ?_ | refine And.intro trivial ?_ | intro _)
      refine nxt (i + 1) ⟨hlt, hI2⟩ (by show s.size - (i + 1) < s.size - i; omega) (wk rfl ⟨rfl, congrArg AV.int ?_, up1 hlt (by omega), trivial⟩ trivial)
      show w64 (w64 ((decV (s.data.toList.take i) : Int) * 10) + IntKind.wrap .i64 (IntKind.wrap .u8 (((s[((i : Int)).toNat]!).toNat : Int) - 48))) = _
      rw [show ((i : Int)).toNat = i from rfl, hsub, hT, decV_app, w64_id (n := (decV (s.data.toList.take i) : Int) * 10) (by omega) (by omega), w64_id (by omega) (by omega)]
      omega
  · have hge : i = s.size := by have h' : ¬ (i : Int) < (s.size : Int) := h; omega
    subst hge
    rw [take_all] at hI ⊢
    have ha : s.data.toList.all isDg = true := List.all_eq_true.2 hI
    rw [ha]
    repeat (first | refine brT ?_ | refine brF ?_ | refine And.intro rfl ?_ | refine And.intro trivial ?_ | intro _)
    refine ⟨_, s_NumText (decV s.data.toList), ?_⟩
    repeat (first | refine brT ?_ | refine brF ?_ | refine And.intro rfl ?_ | refine And.intro trivial ?_ | intro _)
    by_cases he : numText (decV s.data.toList) = s
    · refine brL (by show ¬ ((!((numText (decV s.data.toList)).toList == s.toList)) = true); rw [beq_str, decide_eq_true he]; decide) (fun _ => ?_)
      repeat (first | refine brT ?_ | refine brF ?_ | refine And.intro rfl ?_ | refine And.intro trivial ?_ | intro _)
      simp only [he, if_true]
      exact rfl
    · refine brR (by show ¬ ((!((numText (decV s.data.toList)).toList == s.toList)) = false); rw [beq_str, decide_eq_false he]; decide) (fun _ => ?_)
      repeat (first | refine brT ?_ | refine brF ?_ | refine And.intro rfl ?_ | refine And.intro trivial ?_ | intro _)
      simp only [he, if_false]
      exact rfl

def readW (s word : ByteArray) : Int := if s = word then -1 else (textNum s).1
theorem s_l05Read (s word : ByteArray) : Spec Tryd.prog 32 [.ro (T.str s), .ro (T.str word)] [T.int (readW s word)] := by
  refine fn Tryd.func32 ?_
  unfold readW
  repeat (first | refine brT ?_ | refine brF ?_ | refine And.intro rfl ?_ | refine And.intro trivial ?_ | intro _)
  by_cases h : s = word
  · rw [if_pos h]
    refine brR (by show ¬ ((s.toList == word.toList) = false); rw [beq_str, decide_eq_true h]; decide) (fun _ => ?_)
    repeat (first | refine brT ?_ | refine brF ?_ | refine And.intro rfl ?_ | refine And.intro trivial ?_ | intro _)
    exact rfl
  · rw [if_neg h]
    refine brL (by show ¬ ((s.toList == word.toList) = true); rw [beq_str, decide_eq_false h]; decide) (fun _ => ?_)
    repeat (first | refine brT ?_ | refine brF ?_ | refine And.intro rfl ?_ | refine And.intro trivial ?_ | intro _)
    refine ⟨_, s_TextNum s, ?_⟩
    repeat (first | refine brT ?_ | refine brF ?_ | refine And.intro rfl ?_ | refine And.intro trivial ?_ | intro _)
    exact rfl
def textChan (s : ByteArray) : Int × Bool := if s = nilW then (-1, true) else textNum s
theorem i_textChan (s : ByteArray) : Spec Tryd.prog 39 [.ro (T.str s)] [T.int (textChan s).1, T.bool (textChan s).2] := by
  refine fn Tryd.func39 ?_
  unfold textChan
  repeat (first | refine brT ?_ | refine brF ?_ | refine And.intro rfl ?_ | refine And.intro trivial ?_ | intro _)
  by_cases h : s = nilW
  · rw [if_pos h]
    refine brR (by show ¬ ((s.toList == nilW.toList) = false); rw [beq_str, decide_eq_true h]; decide) (fun _ => ?_)
    repeat (first | refine brT ?_ | refine brF ?_ | refine And.intro rfl ?_ | refine And.intro trivial ?_ | intro _)
    exact rfl
  · rw [if_neg h]
    refine brL (by show ¬ ((s.toList == nilW.toList) = true); rw [beq_str, decide_eq_false h]; decide) (fun _ => ?_)
    repeat (first | refine brT ?_ | refine brF ?_ | refine And.intro rfl ?_ | refine And.intro trivial ?_ | intro _)
    refine ⟨_, i_TextNum s, ?_⟩
    repeat (first | refine brT ?_ | refine brF ?_ | refine And.intro rfl ?_ | refine And.intro trivial ?_ | intro _)
    exact rfl


end Go.Proofs.YtphikogfogejlaaDoor.E
