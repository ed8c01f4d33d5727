/- Contracts of functions of this seat's program. -/
import Derived.Test.YtadpancnhinlbaaETy
import Derived.Test.YtadpancnhinlbaaEFd
namespace Go.Proofs.Ytadpancnhinlbaa.E
set_option linter.unusedVariables false
set_option linter.unusedSimpArgs false
set_option maxHeartbeats 1600000
/-! The plain law of FnFrames: one turned byte is found by the sum; a stream is read as it was written; torn off, those that are all there. -/
/-! The sum of bytes tells one turned byte. -/
theorem xor_inj {a b c : Int} (ha0 : 0 ≤ a) (ha : a < 4294967296) (hb0 : 0 ≤ b) (hb : b < 4294967296) (hc0 : 0 ≤ c) (hc : c < 4294967296) (h : Go.bits .xor .i64 b a = Go.bits .xor .i64 c a) : b = c := by
  obtain ⟨a, rfl⟩ := Int.eq_ofNat_of_zero_le ha0
  obtain ⟨b, rfl⟩ := Int.eq_ofNat_of_zero_le hb0
  obtain ⟨c, rfl⟩ := Int.eq_ofNat_of_zero_le hc0
  rw [xor_nat b a (by omega) (by omega), xor_nat c a (by omega) (by omega)] at h
  have h : b ^^^ a = c ^^^ a := by omega
  have h2 : (b ^^^ a) ^^^ a = (c ^^^ a) ^^^ a := by rw [h]
  simp only [Nat.xor_assoc, Nat.xor_self, Nat.xor_zero] at h2
  rw [h2]
theorem xor_inj' {a b c : Int} (ha0 : 0 ≤ a) (ha : a < 4294967296) (hb0 : 0 ≤ b) (hb : b < 4294967296) (hc0 : 0 ≤ c) (hc : c < 4294967296) (h : Go.bits .xor .i64 a b = Go.bits .xor .i64 a c) : b = c := by
  obtain ⟨a, rfl⟩ := Int.eq_ofNat_of_zero_le ha0
  obtain ⟨b, rfl⟩ := Int.eq_ofNat_of_zero_le hb0
  obtain ⟨c, rfl⟩ := Int.eq_ofNat_of_zero_le hc0
  rw [xor_nat a b (by omega) (by omega), xor_nat a c (by omega) (by omega)] at h
  have h : a ^^^ b = a ^^^ c := by omega
  have h2 : a ^^^ (a ^^^ b) = a ^^^ (a ^^^ c) := by rw [h]
  simp only [← Nat.xor_assoc, Nat.xor_self, Nat.zero_xor] at h2
  rw [h2]
theorem crc_top (m : Nat) (hm : m < 2147483648) : 2147483648 ≤ m ^^^ 3988292384 := by
  rcases Nat.lt_or_ge (m ^^^ 3988292384) 2147483648 with h | h
  · exfalso
    have h1 : (m ^^^ 3988292384).testBit 31 = false := Nat.testBit_lt_two_pow (by omega)
    rw [Nat.testBit_xor, Nat.testBit_lt_two_pow (by omega : m < 2 ^ 31), show (3988292384 : Nat).testBit 31 = true by decide] at h1
    exact absurd h1 (by decide)
  · exact h
theorem crcBit_inj {r s : Int} (h0 : 0 ≤ r) (h1 : r < 4294967296) (g0 : 0 ≤ s) (g1 : s < 4294967296) (h : crcBit r = crcBit s) : r = s := by
  have top : ∀ x : Int, 0 ≤ x → x < 4294967296 → 2147483648 ≤ Go.bits .xor .i64 (x / 2) 3988292384 := by
    intro x h0 h1
    obtain ⟨m, hm⟩ := Int.eq_ofNat_of_zero_le (show 0 ≤ x / 2 by omega)
    rw [hm]
    have := xor_nat m 3988292384 (by omega) (by omega)
    rw [show ((3988292384 : Nat) : Int) = 3988292384 from rfl] at this
    rw [this]
    have := crc_top m (by omega)
    omega
  unfold crcBit at h
  split at h <;> split at h
  · have := xor_inj (a := 3988292384) (by omega) (by omega) (by omega) (by omega) (by omega) (by omega) h
    omega
  · have := top r h0 h1
    omega
  · have := top s g0 g1
    omega
  · omega
theorem crcBits_inj : ∀ (n : Nat) {r s : Int}, 0 ≤ r → r < 4294967296 → 0 ≤ s → s < 4294967296 → crcBits n r = crcBits n s → r = s
  | 0, _, _, _, _, _, _, h => h
  | n + 1, r, s, h0, h1, g0, g1, h => by
    have a := crcBit_range h0 h1
    have b := crcBit_range g0 g1
    exact crcBit_inj h0 h1 g0 g1 (crcBits_inj n a.1 a.2 b.1 b.2 h)
theorem crcAll_inj : ∀ (l : List Int) {r s : Int}, isB l → 0 ≤ r → r < 4294967296 → 0 ≤ s → s < 4294967296 → crcAll l r = crcAll l s → r = s
  | [], _, _, _, _, _, _, _, h => h
  | x :: l, r, s, hb, h0, h1, g0, g1, h => by
    have hx := hb x List.mem_cons_self
    have hl : isB l := fun y hy => hb y (List.mem_cons_of_mem _ hy)
    have a := xor32 h0 h1 hx.1 (by omega)
    have b := xor32 g0 g1 hx.1 (by omega)
    have a2 := crcBits_range 8 a.1 a.2
    have b2 := crcBits_range 8 b.1 b.2
    have e := crcAll_inj l hl a2.1 a2.2 b2.1 b2.2 h
    have e := crcBits_inj 8 a.1 a.2 b.1 b.2 e
    exact xor_inj hx.1 (by omega) h0 h1 g0 g1 e
theorem crcAll_set : ∀ (l : List Int) (i : Nat) (y r : Int) (hi : i < l.length), isB l → 0 ≤ y → y < 256 → 0 ≤ r → r < 4294967296 → crcAll (l.set i y) r = crcAll l r → y = l[i]
  | [], i, y, r, hi, _, _, _, _, _, _ => absurd hi (by simp)
  | x :: l, 0, y, r, hi, hb, y0, y1, h0, h1, h => by
    have hx := hb x List.mem_cons_self
    have hl : isB l := fun y hy => hb y (List.mem_cons_of_mem _ hy)
    have a := xor32 h0 h1 y0 (show y < 4294967296 by omega)
    have b := xor32 h0 h1 hx.1 (show x < 4294967296 by omega)
    have a2 := crcBits_range 8 a.1 a.2
    have b2 := crcBits_range 8 b.1 b.2
    have e := crcAll_inj l hl a2.1 a2.2 b2.1 b2.2 h
    have e := crcBits_inj 8 a.1 a.2 b.1 b.2 e
    show y = x
    exact xor_inj' h0 h1 y0 (by omega) hx.1 (by omega) e
  | x :: l, i + 1, y, r, hi, hb, y0, y1, h0, h1, h => by
    have hx := hb x List.mem_cons_self
    have hl : isB l := fun y hy => hb y (List.mem_cons_of_mem _ hy)
    have a := xor32 h0 h1 hx.1 (show x < 4294967296 by omega)
    have a2 := crcBits_range 8 a.1 a.2
    exact crcAll_set l i y _ (by simpa using hi) hl y0 y1 a2.1 a2.2 h
theorem isB_set {l : List Int} (h : isB l) (i : Nat) {y : Int} (y0 : 0 ≤ y) (y1 : y < 256) : isB (l.set i y) := fun x hx => by
  rcases List.mem_or_eq_of_mem_set hx with hx | rfl
  · exact h x hx
  · exact ⟨y0, y1⟩
theorem crcOf_set {l : List Int} {i : Nat} {y : Int} (hi : i < l.length) (hb : isB l) (y0 : 0 ≤ y) (y1 : y < 256) (h : crcOf (l.set i y) = crcOf l) : y = l[i] := by
  have a := crcAll_range l hb (r := 4294967295) (by omega) (by omega)
  have b := crcAll_range (l.set i y) (isB_set hb i y0 y1) (r := 4294967295) (by omega) (by omega)
  exact crcAll_set l i y _ hi hb y0 y1 (by omega) (by omega) (xor_inj (by omega) (by omega) b.1 b.2 a.1 a.2 h)
/-! Numbers are read as they were put. -/
theorem getF_lin : ∀ (l : List Int) (n : Int), getF n l = n * 256 ^ l.length + getF 0 l
  | [], n => by simp [getF]
  | x :: l, n => by
    have e1 : ∀ m, getF m (x :: l) = getF (256 * m + x) l := fun _ => rfl
    rw [e1, e1, getF_lin l (256 * n + x), getF_lin l (256 * 0 + x), List.length_cons, Int.pow_succ]
    simp only [Int.add_mul, Int.mul_zero, Int.zero_add]
    rw [← Int.add_assoc, Int.mul_comm (256 ^ l.length) 256, ← Int.mul_assoc, Int.mul_comm 256 n]
theorem getF_put : ∀ (k : Nat) (n : Int), 0 ≤ n → getF 0 (putB n k) = n % 256 ^ k
  | 0, n, _ => by
    show (0 : Int) = n % 1
    omega
  | k + 1, n, h => by
    have hp : (0 : Int) < 256 ^ k := Int.pow_pos (by decide)
    show getF (256 * 0 + (n / 256 ^ k) % 256) (putB n k) = _
    rw [getF_lin, putB_len, getF_put k n h, Int.mul_zero, Int.zero_add, Int.pow_succ]
    have e2 : n % (256 ^ k * 256) = n % 256 ^ k + 256 ^ k * (n / 256 ^ k % 256) := by
      obtain ⟨m, rfl⟩ := Int.eq_ofNat_of_zero_le h
      generalize (256 : Int) ^ k = P at hp
      obtain ⟨p, rfl⟩ := Int.eq_ofNat_of_zero_le (show 0 ≤ P by omega)
      have := congrArg Int.ofNat (Nat.mod_mul (a := p) (b := 256) (x := m))
      simpa using this
    rw [e2, Int.add_comm, Int.mul_comm]
theorem getF_put' {k : Nat} {n : Int} (h : 0 ≤ n) (h2 : n < 256 ^ k) : getF 0 (putB n k) = n := by
  rw [getF_put k n h, Int.emod_eq_of_lt h h2]
theorem getF_set : ∀ (l : List Int) (i : Nat) (y n : Int) (hi : i < l.length), getF n (l.set i y) = getF n l → y = l[i]
  | [], i, y, n, hi, _ => absurd hi (by simp)
  | x :: l, 0, y, n, hi, h => by
    have h : getF (256 * n + y) l = getF (256 * n + x) l := h
    have hp : (0 : Int) < 256 ^ l.length := Int.pow_pos (by decide)
    rw [getF_lin l (256 * n + y), getF_lin l (256 * n + x)] at h
    have := Int.eq_of_mul_eq_mul_right (by omega) (show (256 * n + y) * 256 ^ l.length = (256 * n + x) * 256 ^ l.length by omega)
    show y = x
    omega
  | x :: l, i + 1, y, n, hi, h => getF_set l i y _ (by simpa using hi) h
/-! A frame is read as it was written; torn off it is told to be torn; with one turned byte it is told to be bent. -/
theorem hdr2_len (n : Int) (d : List Int) : (hdr2 n d).length = 11 := by simp [hdr2, hdr1_len, putB_len]
theorem hdr2_at (n : Int) (d g : List Int) (hn : 0 ≤ n ∧ n ≤ 100000) (hd : d.length ≤ 4000) : fBad (hdr2 n d ++ g) = false ∧ fSeq (hdr2 n d ++ g) = n ∧ fCnt (hdr2 n d ++ g) = d.length := by
  have c := crcOf_range (hdr1_B n d)
  have e1 : fSeq (hdr2 n d ++ g) = n := by
    show getF 0 (putB n 3) = n
    exact getF_put' hn.1 (by omega)
  have e2 : fCnt (hdr2 n d ++ g) = d.length := by
    show getF 0 (putB d.length 3) = d.length
    exact getF_put' (by omega) (by omega)
  have e3 : fHead (hdr2 n d ++ g) = crcOf (hdr1 n d) := by
    show getF 0 (putB (crcOf (hdr1 n d)) 4) = _
    exact getF_put' c.1 (by omega)
  have e4 : (hdr2 n d ++ g).take 7 = hdr1 n d := rfl
  have e5 : fFirst (hdr2 n d ++ g) = 82 := rfl
  refine ⟨?_, e1, e2⟩
  unfold fBad
  rw [e1, e2, e3, e4, e5]
  simp
  omega
def frm (n : Int) (d : List Int) : List Int := hdr3 n d ++ d
theorem frm_len (n : Int) (d : List Int) : (frm n d).length = 15 + d.length := by simp [frm, hdr3_len]
theorem frm_eq (n : Int) (d : List Int) : frm n d = hdr2 n d ++ (putB (crcOf d) 4 ++ d) := by simp [frm, hdr3]
theorem frm_sum (n : Int) (d r : List Int) (hb : isB d) (hn : 0 ≤ n ∧ n ≤ 100000) (hd : d.length ≤ 4000) : fSum (frm n d ++ r) = crcOf d ∧ fData (frm n d ++ r) = d := by
  have c := crcOf_range hb
  refine ⟨?_, ?_⟩
  · show getF 0 (putB (crcOf d) 4) = _
    exact getF_put' c.1 (by omega)
  · have e2 : fCnt (frm n d ++ r) = d.length := by
      rw [frm_eq, List.append_assoc]
      exact (hdr2_at n d _ hn hd).2.2
    unfold fData
    rw [e2, Int.toNat_natCast]
    show (((hdr3 n d ++ d) ++ r).drop 15).take d.length = d
    rw [List.append_assoc, List.drop_append_of_le_length (by rw [hdr3_len]; omega), List.drop_of_length_le (by rw [hdr3_len]; omega), List.nil_append, List.take_left]
theorem read_frm (p r : List Int) (n : Int) (d : List Int) (hb : isB d) (hn : 0 ≤ n ∧ n ≤ 100000) (hd : d.length ≤ 4000) : frameRead (p ++ (frm n d ++ r)) p.length = (n, d, (p.length : Int) + 15 + d.length, 0) := by
  have e0 : (p ++ (frm n d ++ r)).drop ((p.length : Int)).toNat = frm n d ++ r := by rw [Int.toNat_natCast, List.drop_left]
  have hl : (frm n d ++ r).length = 15 + d.length + r.length := by rw [List.length_append, frm_len]
  have h2 := hdr2_at n d (putB (crcOf d) 4 ++ d ++ r) hn hd
  rw [← List.append_assoc, ← frm_eq] at h2
  have h3 := frm_sum n d r hb hn hd
  unfold frameRead
  rw [e0, if_neg (by simp; omega), if_neg (by omega), if_neg (by rw [h2.1]; decide), h2.2.2, if_neg (by omega), h3.1, h3.2, if_neg (by simp), h2.2.1]
theorem read_torn (p : List Int) (n : Int) (d : List Int) (m : Nat) (hn : 0 ≤ n ∧ n ≤ 100000) (hd : d.length ≤ 4000) (hm : m < 15 + d.length) : (frameRead (p ++ (frm n d).take m) p.length).2.2.2 = 2 ∨ (frameRead (p ++ (frm n d).take m) p.length).2.2.2 = 4 := by
  have e0 : (p ++ (frm n d).take m).drop ((p.length : Int)).toNat = (frm n d).take m := by rw [Int.toNat_natCast, List.drop_left]
  have hl : ((frm n d).take m).length = m := by rw [List.length_take, frm_len]; omega
  unfold frameRead
  rw [e0, if_neg (by simp; omega), hl]
  by_cases h1 : m < 11
  · rw [if_pos h1]; exact .inl rfl
  rw [if_neg h1]
  have e1 : (frm n d).take m = hdr2 n d ++ (putB (crcOf d) 4 ++ d).take (m - 11) := by
    rw [frm_eq, List.take_append, hdr2_len, List.take_of_length_le (by rw [hdr2_len]; omega)]
  have h2 := hdr2_at n d ((putB (crcOf d) 4 ++ d).take (m - 11)) hn hd
  rw [← e1] at h2
  rw [if_neg (by rw [h2.1]; decide), h2.2.2, if_pos (by omega)]
  exact .inr rfl
theorem first_set (f : List Int) (y : Int) (h : 0 < f.length) : fFirst (f.set 0 y) = y := by
  cases f with
  | nil => simp at h
  | cons x r => rfl
theorem bad_set {f : List Int} {j : Nat} {y : Int} (hb : isB f) (hf : 11 ≤ f.length) (ok : fBad f = false) (hj : j < 11) (hne : y ≠ f[j]) (y0 : 0 ≤ y) (y1 : y < 256) : fBad (f.set j y) = true := by
  unfold fBad at ok ⊢
  simp only [Bool.or_eq_false_iff, bne_eq_false_iff_eq, decide_eq_false_iff_not] at ok
  simp only [Bool.or_eq_true, bne_iff_ne, decide_eq_true_eq]
  obtain ⟨⟨⟨o1, o2⟩, _⟩, _⟩ := ok
  refine .inl (.inl ?_)
  by_cases j0 : j = 0
  · subst j0
    refine .inl ?_
    rw [first_set f y (by omega)]
    rw [first_at (by omega)] at o1
    rw [o1] at hne
    exact hne
  refine .inr ?_
  unfold fHead at o2 ⊢
  by_cases h7 : j < 7
  · rw [List.drop_set_of_lt h7, List.take_set, o2]
    intro e
    exact hne (by rw [crcOf_set (by rw [List.length_take]; omega) (isB_take hb 7) y0 y1 e.symm, List.getElem_take])
  · have t7 : (f.set j y).take 7 = f.take 7 := by rw [List.take_set, List.set_eq_of_length_le (by rw [List.length_take]; omega)]
    rw [t7, ← o2, List.drop_set, if_neg (by omega), List.take_set]
    intro e
    exact hne (by rw [getF_set _ _ _ _ (by simp; omega) e, List.getElem_take, List.getElem_drop]; congr 1; omega)
theorem far_set {f : List Int} {j : Nat} {y : Int} (hb : isB f) (h1 : 11 ≤ j) (hj : (j : Int) < 15 + fCnt f) (hf : 15 + fCnt f ≤ f.length) (hjl : j < f.length) (hne : y ≠ f[j]) (y0 : 0 ≤ y) (y1 : y < 256) (ok : fSum f = crcOf (fData f)) : fBad (f.set j y) = fBad f ∧ fCnt (f.set j y) = fCnt f ∧ fSum (f.set j y) ≠ crcOf (fData (f.set j y)) := by
  have c := fCnt_in hb
  have t7 : (f.set j y).take 7 = f.take 7 := by rw [List.take_set, List.set_eq_of_length_le (by rw [List.length_take]; omega)]
  have dr : ∀ a b : Nat, a + b ≤ 11 → ((f.set j y).drop a).take b = (f.drop a).take b := by
    intro a b h
    rw [List.drop_set, if_neg (by omega), List.take_set, List.set_eq_of_length_le (by rw [List.length_take]; omega)]
  have e1 : fCnt (f.set j y) = fCnt f := congrArg (getF 0) (dr 4 3 (by decide))
  have e2 : fSeq (f.set j y) = fSeq f := congrArg (getF 0) (dr 1 3 (by decide))
  have e3 : fHead (f.set j y) = fHead f := congrArg (getF 0) (dr 7 4 (by decide))
  have e4 : fFirst (f.set j y) = fFirst f := by
    cases f with
    | nil => rfl
    | cons x r =>
      obtain ⟨j, rfl⟩ : ∃ k, j = k + 1 := ⟨j - 1, by omega⟩
      rfl
  refine ⟨by unfold fBad; rw [e1, e2, e3, e4, t7], e1, ?_⟩
  unfold fData fSum at ok ⊢
  rw [e1]
  by_cases h15 : j < 15
  · rw [List.drop_set_of_lt h15, ← ok, List.drop_set, if_neg (by omega), List.take_set]
    intro e
    exact hne (by rw [getF_set _ _ _ _ (by simp; omega) e, List.getElem_take, List.getElem_drop]; congr 1; omega)
  · rw [List.drop_set, if_neg (by omega), List.take_set, List.set_eq_of_length_le (by simp; omega), ok, List.drop_set, if_neg (by omega), List.take_set]
    intro e
    exact hne (by rw [crcOf_set (by simp; omega) (isB_sub hb _ _) y0 y1 e.symm, List.getElem_take, List.getElem_drop]; congr 1; omega)
theorem read_bent (p f : List Int) (j : Nat) (y : Int) (hb : isB f) (ok : (frameRead (p ++ f) p.length).2.2.2 = 0) (hj : (j : Int) < 15 + fCnt f) (hjl : j < f.length) (hne : y ≠ f[j]) (y0 : 0 ≤ y) (y1 : y < 256) : (frameRead (p ++ f.set j y) p.length).2.2.2 = 3 ∨ (frameRead (p ++ f.set j y) p.length).2.2.2 = 5 := by
  have e0 : ∀ g : List Int, (p ++ g).drop ((p.length : Int)).toNat = g := fun g => by rw [Int.toNat_natCast, List.drop_left]
  unfold frameRead at ok ⊢
  rw [e0] at ok ⊢
  have ln : (f.set j y).length = f.length := List.length_set ..
  rw [if_neg (by simp; omega)] at ok ⊢
  rw [ln]
  by_cases h1 : f.length < 11
  · rw [if_pos h1] at ok; exact absurd ok (by decide)
  rw [if_neg h1] at ok ⊢
  by_cases h2 : fBad f = true
  · rw [if_pos h2] at ok; exact absurd ok (by decide)
  rw [if_neg h2] at ok
  by_cases h3 : (f.length : Int) < 15 + fCnt f
  · rw [if_pos h3] at ok; exact absurd ok (by decide)
  rw [if_neg h3] at ok
  by_cases h4 : fSum f ≠ crcOf (fData f)
  · rw [if_pos h4] at ok; exact absurd ok (by decide)
  have h2 : fBad f = false := by simpa using h2
  have h4 : fSum f = crcOf (fData f) := by simpa using h4
  by_cases h11 : j < 11
  · rw [if_pos (bad_set hb (by omega) h2 h11 hne y0 y1)]
    exact .inl rfl
  · have fs := far_set hb (by omega) hj (by omega) hjl hne y0 y1 h4
    rw [fs.1, if_neg (by rw [h2]; decide), fs.2.1, if_neg h3, if_pos fs.2.2]
    exact .inr rfl
/-! A stream of frames is read as it was written; torn off, those that are all there; with a turned byte, those ahead of it. -/
def okL (l : List (List Int)) : Prop := l.length ≤ 100000 ∧ ∀ d ∈ l, d.length ≤ 4000 ∧ isB d
def eP (l : List (List Int)) (i : Nat) : Nat := (strP l i).length
theorem strP_suc {l : List (List Int)} (h : okL l) {i : Nat} (hi : i < l.length) : strP l (i + 1) = strP l i ++ frm i l[i] := by
  rw [strP_succ hi]
  have h2 := h.2 _ (List.getElem_mem hi)
  have h1 := h.1
  congr 1
  unfold frameB frm
  rw [if_neg (by omega)]
theorem eP_suc {l : List (List Int)} (h : okL l) {i : Nat} (hi : i < l.length) : eP l (i + 1) = eP l i + (15 + l[i].length) := by
  unfold eP
  rw [strP_suc h hi, List.length_append, frm_len]
theorem eP_zero (l : List (List Int)) : eP l 0 = 0 := rfl
theorem eP_le {l : List (List Int)} (h : okL l) {i : Nat} : ∀ {j : Nat}, i ≤ j → j ≤ l.length → eP l i + 15 * (j - i) ≤ eP l j
  | 0, h1, h2 => by
    obtain rfl : i = 0 := by omega
    exact Nat.le_refl _
  | j + 1, h1, h2 => by
    by_cases e : i = j + 1
    · subst e; omega
    · have := eP_le h (i := i) (j := j) (by omega) (by omega)
      have := eP_suc h (i := j) (by omega)
      omega
theorem stream_ok {l : List (List Int)} (h : okL l) : stream l = (strP l l.length, true) := str_yes (fun j hj => by
  have h2 := h.2 _ (List.getElem_mem hj)
  have h1 := h.1
  unfold frameB
  rw [if_neg (by omega)])
/-- A stream splits at the head of a frame. -/
theorem strP_split {l : List (List Int)} (h : okL l) (i : Nat) : ∀ {j : Nat}, i ≤ j → j ≤ l.length → ∃ r, strP l j = strP l i ++ r
  | 0, h1, h2 => by
    obtain rfl : i = 0 := by omega
    exact ⟨[], by simp⟩
  | j + 1, h1, h2 => by
    by_cases e : i = j + 1
    · subst e; exact ⟨[], by simp⟩
    · obtain ⟨r, hr⟩ := strP_split h i (j := j) (by omega) (by omega)
      exact ⟨r ++ frm j l[j], by rw [strP_suc h (by omega), hr, List.append_assoc]⟩
theorem strP_at {l : List (List Int)} (h : okL l) {i : Nat} (hi : i < l.length) : ∃ r, strP l l.length = strP l i ++ (frm i l[i] ++ r) := by
  obtain ⟨r, hr⟩ := strP_split h (i + 1) (j := l.length) hi (Nat.le_refl _)
  exact ⟨r, by rw [hr, strP_suc h hi, List.append_assoc]⟩
theorem scan_pre {l : List (List Int)} (h : okL l) : ∀ (k : Nat), k ≤ l.length → ∀ (r : List Int) (n : Nat), scanGo (strP l k ++ r) (n + k) 0 [] = scanGo (strP l k ++ r) n (eP l k) (l.take k)
  | 0, _, r, n => rfl
  | k + 1, hk, r, n => by
    have h2 := h.2 _ (List.getElem_mem (show k < l.length by omega))
    have h1 := h.1
    have hn := hk
    rw [strP_suc h hk, List.append_assoc, show n + (k + 1) = (n + 1) + k by omega, scan_pre h k (by omega)]
    have hr := read_frm (strP l k) r k l[k] h2.2 (by omega) h2.1
    have ll : (strP l k ++ (frm k l[k] ++ r)).length = (strP l k).length + (15 + l[k].length + r.length) := by rw [List.length_append, List.length_append, frm_len]
    have ht : (l.take k).length = k := by rw [List.length_take]; omega
    have he := eP_suc h (i := k) (by omega)
    show (if _ then _ else _) = _
    unfold eP at he ⊢
    rw [if_pos (by rw [ll]; omega), hr, if_neg (by simp), ht, if_neg (by simp), List.take_succ_eq_append_getElem (by omega), he]
    congr 1
    show ((strP l k).length : Int) + 15 + l[k].length = _
    omega
theorem scan_at {l : List (List Int)} (h : okL l) {k : Nat} (hk : k ≤ l.length) (r : List Int) : ∃ n, scan (strP l k ++ r) = scanGo (strP l k ++ r) (n + 1) (eP l k) (l.take k) := by
  have := eP_le h (Nat.zero_le k) hk
  rw [eP_zero] at this
  refine ⟨(strP l k ++ r).length - k, ?_⟩
  have hl : k ≤ (strP l k ++ r).length := by rw [List.length_append]; unfold eP at this; omega
  rw [← scan_pre h k hk r]
  unfold scan
  congr 1
  omega
theorem scan_whole {l : List (List Int)} (h : okL l) {k : Nat} (hk : k ≤ l.length) : scan (strP l k) = (l.take k, (eP l k : Int), 0) := by
  obtain ⟨n, hn⟩ := scan_at h hk []
  rw [List.append_nil] at hn
  rw [hn]
  show (if _ then _ else _) = _
  rw [if_neg (by unfold eP; omega)]
theorem scan_torn {l : List (List Int)} (h : okL l) {k : Nat} (hk : k < l.length) {m : Nat} (m0 : 0 < m) (hm : m < 15 + l[k].length) : scan (strP l k ++ (frm k l[k]).take m) = (l.take k, (eP l k : Int), 1) := by
  have h2 := h.2 _ (List.getElem_mem hk)
  have h1 := h.1
  obtain ⟨n, hn⟩ := scan_at h (Nat.le_of_lt hk) ((frm k l[k]).take m)
  rw [hn]
  show (if _ then _ else _) = _
  have hr := read_torn (strP l k) k l[k] m (by omega) h2.1 hm
  unfold eP
  rw [if_pos (by rw [List.length_append, List.length_take, frm_len]; omega), if_pos hr]
theorem scan_code {l : List (List Int)} (h : okL l) {k : Nat} (hk : k < l.length) {f : List Int} (hf : 0 < f.length) (hr : (frameRead (strP l k ++ f) (strP l k).length).2.2.2 = 3 ∨ (frameRead (strP l k ++ f) (strP l k).length).2.2.2 = 5) : scan (strP l k ++ f) = (l.take k, (eP l k : Int), 2) := by
  obtain ⟨n, hn⟩ := scan_at h (Nat.le_of_lt hk) f
  rw [hn]
  show (if _ then _ else _) = _
  unfold eP
  rw [if_pos (by rw [List.length_append]; omega), if_neg (by omega), if_pos (by omega)]
/-- How many frames are all there in the first k bytes. -/
theorem cut_at {l : List (List Int)} (h : okL l) {k : Nat} (hk : k ≤ eP l l.length) : ∃ i, i ≤ l.length ∧ eP l i ≤ k ∧ (∀ j, j < l.length → (eP l (j + 1) ≤ k ↔ j < i)) ∧ scan ((strP l l.length).take k) = (l.take i, (eP l i : Int), if (eP l i : Int) = k then 0 else 1) := by
  have ex : ∀ n, n ≤ l.length → (eP l n ≤ k ∨ ∃ i, i < n ∧ eP l i ≤ k ∧ k < eP l (i + 1)) := by
    intro n
    induction n with
    | zero => intro _; exact .inl (Nat.zero_le _)
    | succ n ih =>
      intro hn
      rcases ih (by omega) with h1 | ⟨i, h1, h2⟩
      · by_cases h3 : eP l (n + 1) ≤ k
        · exact .inl h3
        · exact .inr ⟨n, by omega, h1, by omega⟩
      · exact .inr ⟨i, by omega, h2⟩
  rcases ex l.length (Nat.le_refl _) with h1 | ⟨i, hi, h1, h2⟩
  · have e : k = eP l l.length := by omega
    refine ⟨l.length, Nat.le_refl _, h1, fun j hj => ?_, ?_⟩
    · have := eP_le h (i := j + 1) (j := l.length) hj (Nat.le_refl _)
      omega
    · rw [e, show eP l l.length = (strP l l.length).length from rfl, List.take_length, scan_whole h (Nat.le_refl _), if_pos rfl]
      rfl
  · refine ⟨i, by omega, h1, fun j hj => ?_, ?_⟩
    · by_cases hji : j < i
      · have := eP_le h (i := j + 1) (j := i) hji (by omega)
        omega
      · have := eP_le h (i := i + 1) (j := j + 1) (by omega) (by omega)
        omega
    · obtain ⟨r, hr⟩ := strP_at h hi
      have he := eP_suc h hi
      have e1 : (strP l l.length).take k = strP l i ++ (frm i l[i]).take (k - eP l i) := by
        rw [hr, List.take_append, List.take_of_length_le h1, show (strP l i).length = eP l i from rfl, List.take_append_of_le_length (by rw [frm_len]; omega)]
      rw [e1]
      by_cases hz : k = eP l i
      · rw [hz, Nat.sub_self, List.take_zero, List.append_nil, scan_whole h (by omega), if_pos rfl]
      · rw [scan_torn h hi (by omega) (by omega), if_neg (by omega)]
theorem bent_at {l : List (List Int)} (h : okL l) {i : Nat} (hi : i < l.length) {j : Nat} {y : Int} (h1 : eP l i ≤ j) (h2 : j < eP l (i + 1)) (hjl : j < (strP l l.length).length) (hne : y ≠ (strP l l.length)[j]) (y0 : 0 ≤ y) (y1 : y < 256) : scan ((strP l l.length).set j y) = (l.take i, (eP l i : Int), 2) := by
  obtain ⟨r, hr⟩ := strP_at h hi
  have he := eP_suc h hi
  have hx := h.2 _ (List.getElem_mem hi)
  have hL := h.1
  have isP : ∀ n, n ≤ l.length → isB (strP l n) := by
    intro n
    induction n with
    | zero => intro _ x hx; cases hx
    | succ n ih =>
      intro hn
      rw [strP_suc h hn]
      exact isB_app (ih (by omega)) (isB_app (hdr3_B _ _) (h.2 _ (List.getElem_mem hn)).2)
  have isA := isP l.length (Nat.le_refl _)
  rw [hr] at isA
  have isF : isB (frm i l[i] ++ r) := fun x hx => isA x (List.mem_append_right _ hx)
  have e1 : (strP l l.length).set j y = strP l i ++ (frm i l[i] ++ r).set (j - eP l i) y := by
    rw [hr, List.set_append_right _ _ h1]; rfl
  have rf := read_frm (strP l i) r i l[i] hx.2 (by omega) hx.1
  have c := hdr2_at i l[i] (putB (crcOf l[i]) 4 ++ l[i] ++ r) (by omega) hx.1
  rw [← List.append_assoc, ← frm_eq] at c
  have hfl : (frm i l[i] ++ r).length = 15 + l[i].length + r.length := by rw [List.length_append, frm_len]
  rw [e1]
  refine scan_code h hi (by rw [List.length_set]; omega) ?_
  have hj3 : j - eP l i < (frm i l[i] ++ r).length := by omega
  refine read_bent (strP l i) _ (j - eP l i) y isF (by rw [rf]) (by rw [c.2.2]; omega) hj3 ?_ y0 y1
  intro e
  apply hne
  rw [e]
  have : (strP l l.length)[j]? = (strP l i ++ (frm i l[i] ++ r))[j]? := by rw [hr]
  rw [List.getElem?_append_right h1, show (strP l i).length = eP l i from rfl, List.getElem?_eq_getElem hj3, List.getElem?_eq_getElem hjl] at this
  exact (Option.some.inj this).symm


end Go.Proofs.Ytadpancnhinlbaa.E
