/- Contracts of functions of this seat's program. -/
import Derived.Test.YtbofjpmighijhaaETy
import Derived.Test.YtbofjpmighijhaaEPn
namespace Go.Proofs.Ytbofjpmighijhaa.E
set_option linter.unusedVariables false
set_option linter.unusedSimpArgs false
set_option maxHeartbeats 1600000
theorem xor_nat (a b : Nat) (ha : a < 4294967296) (hb : b < 4294967296) : Go.bits .xor .i64 (a : Int) (b : Int) = ((a ^^^ b : Nat) : Int) := by
  have ha' : a % 2 ^ 64 = a := Nat.mod_eq_of_lt (by omega)
  have hb' : b % 2 ^ 64 = b := Nat.mod_eq_of_lt (by omega)
  have hx : a ^^^ b < 2 ^ 32 := Nat.xor_lt_two_pow (by omega) (by omega)
  have hk : Go.IntKind.bits .i64 = 64 := rfl
  simp only [Go.bits, hk, BitVec.ofInt_natCast, BitVec.toNat_xor, BitVec.toNat_ofNat, ha', hb']
  rw [Go.IntKind.wrap_i64]
  omega
theorem xor32 {a b : Int} (ha0 : 0 ≤ a) (ha : a < 4294967296) (hb0 : 0 ≤ b) (hb : b < 4294967296) : 0 ≤ Go.bits .xor .i64 a b ∧ Go.bits .xor .i64 a b < 4294967296 := by
  obtain ⟨m, rfl⟩ := Int.eq_ofNat_of_zero_le ha0
  obtain ⟨n, rfl⟩ := Int.eq_ofNat_of_zero_le hb0
  rw [xor_nat m n (by omega) (by omega)]
  have hx : m ^^^ n < 2 ^ 32 := Nat.xor_lt_two_pow (by omega) (by omega)
  omega
theorem and_one {x : Int} (h0 : 0 ≤ x) (h1 : x < 9223372036854775808) : Go.bits .and .i64 x 1 = x % 2 :=
  Go.bits_mask .i64 63 (by decide) (fun n h0 h1 => by rw [Go.IntKind.wrap_i64]; omega) 1 (by decide) x h0 h1
/-! The sum of bytes: both programs make the same steps. -/
def crcBit (r : Int) : Int := if r % 2 = 1 then Go.bits .xor .i64 (r / 2) 3988292384 else r / 2
def crcBits : Nat → Int → Int
  | 0, r => r
  | n + 1, r => crcBits n (crcBit r)
def crcAll : List Int → Int → Int
  | [], r => r
  | x :: xs, r => crcAll xs (crcBits 8 (Go.bits .xor .i64 r x))
def crcOf (l : List Int) : Int := Go.bits .xor .i64 (crcAll l 4294967295) 4294967295
theorem crcBit_range {r : Int} (h0 : 0 ≤ r) (h1 : r < 4294967296) : 0 ≤ crcBit r ∧ crcBit r < 4294967296 := by
  unfold crcBit
  split
  · exact xor32 (by omega) (by omega) (by omega) (by omega)
  · omega
theorem crcBits_range : ∀ (n : Nat) {r : Int}, 0 ≤ r → r < 4294967296 → 0 ≤ crcBits n r ∧ crcBits n r < 4294967296
  | 0, _, h0, h1 => ⟨h0, h1⟩
  | n + 1, _, h0, h1 => crcBits_range n (crcBit_range h0 h1).1 (crcBit_range h0 h1).2
theorem crcAll_range : ∀ (l : List Int) {r : Int}, (∀ x ∈ l, 0 ≤ x ∧ x < 256) → 0 ≤ r → r < 4294967296 → 0 ≤ crcAll l r ∧ crcAll l r < 4294967296
  | [], _, _, h0, h1 => ⟨h0, h1⟩
  | x :: xs, _, hx, h0, h1 => by
    have hx' := hx x List.mem_cons_self
    have h := xor32 h0 h1 hx'.1 (by omega)
    have h2 := crcBits_range 8 h.1 h.2
    exact crcAll_range xs (fun y hy => hx y (List.mem_cons_of_mem _ hy)) h2.1 h2.2
theorem crcOf_range {l : List Int} (h : ∀ x ∈ l, 0 ≤ x ∧ x < 256) : 0 ≤ crcOf l ∧ crcOf l < 4294967296 := by
  have h1 := crcAll_range l h (r := 4294967295) (by omega) (by omega)
  exact xor32 h1.1 h1.2 (by omega) (by omega)
abbrev isB (l : List Int) : Prop := ∀ x ∈ l, 0 ≤ x ∧ x < 256
theorem crcBits_last : ∀ (n : Nat) (r : Int), crcBits (n + 1) r = crcBit (crcBits n r)
  | 0, _ => rfl
  | n + 1, r => crcBits_last n (crcBit r)
theorem crcAll_app : ∀ (a : List Int) (x r : Int), crcAll (a ++ [x]) r = crcBits 8 (Go.bits .xor .i64 (crcAll a r) x)
  | [], _, _ => rfl
  | y :: a, x, r => crcAll_app a x _
theorem crcAll_succ {l : List Int} {i : Nat} (h : i < l.length) (r : Int) : crcAll (l.take (i + 1)) r = crcBits 8 (Go.bits .xor .i64 (crcAll (l.take i) r) l[i]) := by
  rw [List.take_succ_eq_append_getElem h, crcAll_app]
theorem isB_take {l : List Int} (h : isB l) (i : Nat) : isB (l.take i) := fun x hx => h x (List.mem_of_mem_take hx)
theorem crc_in {l : List Int} (h : isB l) (i : Nat) : 0 ≤ crcAll (l.take i) 4294967295 ∧ crcAll (l.take i) 4294967295 < 4294967296 := crcAll_range _ (isB_take h i) (by omega) (by omega)
theorem s_Crc (l : List Int) (hb : isB l) (hl : l.length ≤ bound) : Spec Try.prog 55 [.ro (.sl 1 (l.map T.u8))] [T.int (crcOf l)] := by
  have hl' : l.length ≤ 16777216 := hl
  refine fn Try.func55 ?_
  repeat (first | refine brT ?_ | refine brF ?_ | refine And.intro rfl ?_ | refine And.intro trivial ?_ | intro _)
  refine loopR (fun i => ⟨34, [(0, .c (.ro 1 (l.map T.u8))), (3, .int (crcAll (l.take i) 4294967295)), (4, .int i)], []⟩) l.length (fun _ => True) trivial (wk rfl ⟨rfl, rfl, rfl, trivial⟩ trivial) ?_
  intro i hi _
  refine brD (fun h => ?_) (fun h => ?_)
  · have h : i < l.length := by simpa using h
    obtain ⟨x0, x1⟩ := hb _ (List.getElem_mem h)
    obtain ⟨r0, r1⟩ := crc_in hb i
    have hsuc := crcAll_succ h 4294967295
    refine ⟨nn i, T.u8 l[i], atm h, ?_⟩
    repeat (first | refine brT ?_ | refine brF ?_ | refine And.intro rfl ?_ | refine And.intro trivial ?_ | intro _)
    generalize l[i] = x at x0 x1 hsuc
    generalize crcAll (l.take i) 4294967295 = r at r0 r1 hsuc
    have ex : w64 x = x := w64_id (by omega) (by omega)
    have y := xor32 r0 r1 x0 (show x < 4294967296 by omega)
    refine loopR (fun j => ⟨34, [(0, .c (.ro 1 (l.map T.u8))), (3, .int (crcBits j (Go.bits .xor .i64 r x))), (4, .int i), (5, .int j)], []⟩) 8 (fun _ => True) trivial (wk rfl ⟨rfl, gi rfl (by show Go.bits .xor .i64 r (w64 x) = _; rw [ex]; rfl), rfl, rfl, trivial⟩ trivial) ?_
    intro j hj _
    have z := crcBits_range j y.1 y.2
    have hlast := crcBits_last j (Go.bits .xor .i64 r x)
    refine brD (fun h2 => ?_) (fun h2 => ?_)
    · have h2 : j < 8 := by omega
      generalize crcBits j (Go.bits .xor .i64 r x) = w at z hlast
      have e1 : w.tmod 2 = w % 2 := Int.tmod_eq_emod_of_nonneg z.1
      have e2 : w64 (w.tdiv 2) = w / 2 := by rw [Int.tdiv_eq_ediv_of_nonneg z.1]; exact w64_id (by omega) (by omega)
      refine ⟨by decide, ?_⟩
      repeat (first | refine brT ?_ | refine brF ?_ | refine And.intro rfl ?_ | refine And.intro trivial ?_ | intro _)
      refine ⟨by decide, ?_⟩
      repeat (first | refine brT ?_ | refine brF ?_ | refine And.intro rfl ?_ | refine And.intro trivial ?_ | intro _)
      refine brI (fun h3 => ?_) (fun h3 => ?_)
      · have h3 : w.tmod 2 = 1 := by simpa using h3
        rw [e1] at h3
        exact nxtR h2 trivial (wk rfl ⟨rfl, gi rfl (by show Go.bits .xor .i64 (w64 (w.tdiv 2)) 3988292384 = _; rw [hlast, crcBit, if_pos h3, e2]), rfl, up1 h2 (by decide), trivial⟩ trivial)
      · have h3 : ¬ w.tmod 2 = 1 := by simpa using h3
        rw [e1] at h3
        exact nxtR h2 trivial (wk rfl ⟨rfl, gi rfl (by show w64 (w.tdiv 2) = _; rw [hlast, crcBit, if_neg h3, e2]), rfl, up1 h2 (by decide), trivial⟩ trivial)
    · have : j = 8 := by omega
      subst this
      repeat (first | refine brT ?_ | refine brF ?_ | refine And.intro rfl ?_ | refine And.intro trivial ?_ | intro _)
      exact nxtR h trivial (wk rfl ⟨rfl, gi rfl hsuc.symm, up1 h hl', trivial⟩ trivial)
  · have : i = l.length := by simp at h; omega
    subst this
    repeat (first | refine brT ?_ | refine brF ?_ | refine And.intro rfl ?_ | refine And.intro trivial ?_ | intro _)
    exact ti (by rw [List.take_length]; rfl)
theorem i_Crc (l : List Int) (hb : isB l) (hl : l.length ≤ bound) : Spec Try.prog 57 [.ro (.sl 1 (l.map T.u8))] [T.int (crcOf l)] := by
  have hl' : l.length ≤ 16777216 := hl
  refine fn Try.func57 ?_
  repeat (first | refine brT ?_ | refine brF ?_ | refine And.intro rfl ?_ | refine And.intro trivial ?_ | intro _)
  refine loopR (fun i => ⟨31, [(3, .int (crcAll (l.take i) 4294967295)), (7, .c (.ro 1 (l.map T.u8))), (8, .int l.length), (9, .int i)], []⟩) l.length (fun _ => True) trivial (wk rfl ⟨rfl, rfl, lenm, rfl, trivial⟩ trivial) ?_
  intro i hi _
  refine brD (fun h => ?_) (fun h => ?_)
  · have h : i < l.length := by simpa using h
    obtain ⟨x0, x1⟩ := hb _ (List.getElem_mem h)
    obtain ⟨r0, r1⟩ := crc_in hb i
    have hsuc := crcAll_succ h 4294967295
    refine ⟨nn i, T.u8 l[i], atm h, ?_⟩
    repeat (first | refine brT ?_ | refine brF ?_ | refine And.intro rfl ?_ | refine And.intro trivial ?_ | intro _)
    generalize l[i] = x at x0 x1 hsuc
    generalize crcAll (l.take i) 4294967295 = r at r0 r1 hsuc
    have ex : w64 x = x := w64_id (by omega) (by omega)
    have y := xor32 r0 r1 x0 (show x < 4294967296 by omega)
    refine loopR (fun j => ⟨31, [(3, .int (crcBits j (Go.bits .xor .i64 r x))), (7, .c (.ro 1 (l.map T.u8))), (8, .int l.length), (9, .int i), (17, .int j)], []⟩) 8 (fun _ => True) trivial (wk rfl ⟨gi rfl (by show Go.bits .xor .i64 r (w64 x) = _; rw [ex]; rfl), rfl, rfl, rfl, rfl, trivial⟩ trivial) ?_
    intro j hj _
    have z := crcBits_range j y.1 y.2
    have hlast := crcBits_last j (Go.bits .xor .i64 r x)
    refine brD (fun h2 => ?_) (fun h2 => ?_)
    · have h2 : j < 8 := by omega
      generalize crcBits j (Go.bits .xor .i64 r x) = w at z hlast
      have e1 : Go.bits .and .i64 w 1 = w % 2 := and_one z.1 (by omega)
      have e2 : w / 2 ^ (1 : Int).toNat = w / 2 := rfl
      repeat (first | refine brT ?_ | refine brF ?_ | refine And.intro rfl ?_ | refine And.intro trivial ?_ | intro _)
      refine ⟨⟨by decide, by decide⟩, ?_⟩
      repeat (first | refine brT ?_ | refine brF ?_ | refine And.intro rfl ?_ | refine And.intro trivial ?_ | intro _)
      refine brI (fun h3 => ?_) (fun h3 => ?_)
      · have h3 : Go.bits .and .i64 w 1 = 1 := by simpa using h3
        rw [e1] at h3
        exact nxtR h2 trivial (wk rfl ⟨gi rfl (by show Go.bits .xor .i64 (w / 2) 3988292384 = _; rw [hlast, crcBit, if_pos h3]), rfl, rfl, rfl, up1 h2 (by decide), trivial⟩ trivial)
      · have h3 : ¬ Go.bits .and .i64 w 1 = 1 := by simpa using h3
        rw [e1] at h3
        exact nxtR h2 trivial (wk rfl ⟨gi rfl (by show w / 2 = _; rw [hlast, crcBit, if_neg h3]), rfl, rfl, rfl, up1 h2 (by decide), trivial⟩ trivial)
    · have : j = 8 := by omega
      subst this
      repeat (first | refine brT ?_ | refine brF ?_ | refine And.intro rfl ?_ | refine And.intro trivial ?_ | intro _)
      exact nxtR h trivial (wk rfl ⟨gi rfl hsuc.symm, rfl, rfl, up1 h hl', trivial⟩ trivial)
  · have : i = l.length := by simp at h; omega
    subst this
    repeat (first | refine brT ?_ | refine brF ?_ | refine And.intro rfl ?_ | refine And.intro trivial ?_ | intro _)
    exact ti (by rw [List.take_length]; rfl)


end Go.Proofs.Ytbofjpmighijhaa.E
