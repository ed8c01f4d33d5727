/- Contracts of functions of this seat's program. -/
import Derived.Test.YtadpancnhinlbaaETy
import Derived.Test.YtadpancnhinlbaaEGo
namespace Go.Proofs.Ytadpancnhinlbaa.E
set_option linter.unusedVariables false
set_option linter.unusedSimpArgs false
set_option maxHeartbeats 1600000
/-! Marks: how many a list takes, and what they lay. -/
def nL {α : Type} (n : α → Int) : List α → Int
  | [] => 0
  | x :: l => n x + nL n l
def mL {α : Type} (m : α → Int → T) (n : α → Int) : List α → Int → List T
  | [], _ => []
  | x :: l, k => m x k :: mL m n l (k + n x)
section
variable {α : Type} {m : α → Int → T} {n : α → Int}
theorem nL_nonneg (h : ∀ x, 0 ≤ n x) : ∀ l : List α, 0 ≤ nL n l
  | [] => Int.le_refl _
  | x :: l => by have := h x; have := nL_nonneg h l; simp only [nL]; omega
theorem nL_at : ∀ {l : List α} {i : Nat} (h : i < l.length), nL n (l.take (i + 1)) = nL n (l.take i) + n l[i]
  | x :: l, 0, _ => by simp [nL]
  | x :: l, i + 1, h => by
    have := nL_at (l := l) (i := i) (by simpa using h)
    simp only [List.take_succ_cons, nL, this, List.getElem_cons_succ]; omega
theorem nL_le (h : ∀ x, 0 ≤ n x) : ∀ (l : List α) (i : Nat), nL n (l.take i) ≤ nL n l
  | [], i => by simp
  | x :: l, 0 => by have := nL_nonneg h (x :: l); simpa [nL] using this
  | x :: l, i + 1 => by have := nL_le h l i; simp only [List.take_succ_cons, nL]; omega
theorem nL_big {B : Nat} : ∀ {l : List α} (_ : ∀ x, 0 ≤ n x) (_ : ∀ x ∈ l, n x ≤ (B : Int)) {c : Nat} (_ : l.length ≤ c), nL n l ≤ ((c * B : Nat) : Int)
  | [], _, _, _, _ => by simp only [nL]; omega
  | x :: l, h0, h, 0, hc => by simp at hc
  | x :: l, h0, h, c + 1, hc => by
    have h1 := h x (by simp)
    have h2 := nL_big (l := l) h0 (fun y hy => h y (by simp [hy])) (c := c) (by simpa using hc)
    simp only [nL]
    rw [Nat.succ_mul]
    omega
theorem mL_len : ∀ {l : List α} {k : Int}, (mL m n l k).length = l.length
  | [], _ => rfl
  | x :: l, k => by simp [mL, mL_len (l := l)]
theorem mL_succ : ∀ {l : List α} {i : Nat} {k : Int} (h : i < l.length), mL m n (l.take (i + 1)) k = mL m n (l.take i) k ++ [m l[i] (k + nL n (l.take i))]
  | x :: l, 0, k, _ => by simp [mL, nL]
  | x :: l, i + 1, k, h => by
    have := mL_succ (l := l) (i := i) (k := k + n x) (by simpa using h)
    simp only [List.take_succ_cons, mL, this, nL, List.getElem_cons_succ, List.cons_append, Int.add_assoc]
theorem mL_get : ∀ {l : List α} {i : Nat} {k : Int} (h : i < l.length), (mL m n l k)[i]? = some (m l[i] (k + nL n (l.take i)))
  | x :: l, 0, k, _ => by simp [mL, nL]
  | x :: l, i + 1, k, h => by
    have := mL_get (l := l) (i := i) (k := k + n x) (by simpa using h)
    simp only [List.take_succ_cons, mL, List.getElem?_cons_succ, this, nL, List.getElem_cons_succ, Int.add_assoc]
theorem mL_at {l : List α} {i : Nat} {k : Int} (h : i < l.length) : (mL m n l k)[((i : Int)).toNat]? = some (m l[i] (k + nL n (l.take i))) := mL_get h
end
theorem gi {s : St} {d : Nat} {n m : Int} (h : s.get d = AV.int n) (e : n = m) : s.get d = AV.int m := by rw [h, e]
theorem gr {s : St} {d q v e : Nat} {es es' : List T} (h : look s.ob d = some (.row q v e es)) (he : es = es') : look s.ob d = some (.row q v e es') := by rw [h, he]
theorem set_at {α : Type} {l : List α} {i : Nat} {x : α} (h : i < l.length) : (l.set ((i : Int)).toNat x)[((i : Int)).toNat]? = some x := by simp [h]
theorem brL {b : Bool} {A B : Prop} (h : ¬ (b = true)) (k : b = false → B) : Br b A B := ⟨fun h' => absurd h' h, k⟩
theorem brR {b : Bool} {A B : Prop} (h : ¬ (b = false)) (k : b = true → A) : Br b A B := ⟨k, fun h' => absurd h' h⟩

theorem xor_nat (a b : Nat) (ha : a < 4294967296) (hb : b < 4294967296) : Go.bits .xor .i64 (a : Int) (b : Int) = ((a ^^^ b : Nat) : Int) := by
  have ha' : a % 2 ^ 64 = a := Nat.mod_eq_of_lt (by omega)
  have hb' : b % 2 ^ 64 = b := Nat.mod_eq_of_lt (by omega)
  have hx : a ^^^ b < 2 ^ 32 := Nat.xor_lt_two_pow (by omega) (by omega)
  have hk : Go.IntKind.bits .i64 = 64 := rfl
  simp only [Go.bits, hk, BitVec.ofInt_natCast, BitVec.toNat_xor, BitVec.toNat_ofNat, ha', hb']
  rw [Go.IntKind.wrap_i64]
  omega
theorem xor32 {a b : Int} (ha0 : 0 ≤ a) (ha : a < 4294967296) (hb0 : 0 ≤ b) (hb : b < 4294967296) : 0 ≤ Go.bits .xor .i64 a b ∧ Go.bits .xor .i64 a b < 4294967296 := by
  obtain ⟨m, rfl⟩ := Int.eq_ofNat_of_zero_le ha0
  obtain ⟨n, rfl⟩ := Int.eq_ofNat_of_zero_le hb0
  rw [xor_nat m n (by omega) (by omega)]
  have hx : m ^^^ n < 2 ^ 32 := Nat.xor_lt_two_pow (by omega) (by omega)
  omega
theorem and_one {x : Int} (h0 : 0 ≤ x) (h1 : x < 9223372036854775808) : Go.bits .and .i64 x 1 = x % 2 :=
  Go.bits_mask .i64 63 (by decide) (fun n h0 h1 => by rw [Go.IntKind.wrap_i64]; omega) 1 (by decide) x h0 h1
/-! The sum of bytes: both programs make the same steps. -/
def crcBit (r : Int) : Int := if r % 2 = 1 then Go.bits .xor .i64 (r / 2) 3988292384 else r / 2
def crcBits : Nat → Int → Int
  | 0, r => r
  | n + 1, r => crcBits n (crcBit r)
def crcAll : List Int → Int → Int
  | [], r => r
  | x :: xs, r => crcAll xs (crcBits 8 (Go.bits .xor .i64 r x))
def crcOf (l : List Int) : Int := Go.bits .xor .i64 (crcAll l 4294967295) 4294967295
theorem crcBit_range {r : Int} (h0 : 0 ≤ r) (h1 : r < 4294967296) : 0 ≤ crcBit r ∧ crcBit r < 4294967296 := by
  unfold crcBit
  split
  · exact xor32 (by omega) (by omega) (by omega) (by omega)
  · omega
theorem crcBits_range : ∀ (n : Nat) {r : Int}, 0 ≤ r → r < 4294967296 → 0 ≤ crcBits n r ∧ crcBits n r < 4294967296
  | 0, _, h0, h1 => ⟨h0, h1⟩
  | n + 1, _, h0, h1 => crcBits_range n (crcBit_range h0 h1).1 (crcBit_range h0 h1).2
theorem crcAll_range : ∀ (l : List Int) {r : Int}, (∀ x ∈ l, 0 ≤ x ∧ x < 256) → 0 ≤ r → r < 4294967296 → 0 ≤ crcAll l r ∧ crcAll l r < 4294967296
  | [], _, _, h0, h1 => ⟨h0, h1⟩
  | x :: xs, _, hx, h0, h1 => by
    have hx' := hx x List.mem_cons_self
    have h := xor32 h0 h1 hx'.1 (by omega)
    have h2 := crcBits_range 8 h.1 h.2
    exact crcAll_range xs (fun y hy => hx y (List.mem_cons_of_mem _ hy)) h2.1 h2.2
theorem crcOf_range {l : List Int} (h : ∀ x ∈ l, 0 ≤ x ∧ x < 256) : 0 ≤ crcOf l ∧ crcOf l < 4294967296 := by
  have h1 := crcAll_range l h (r := 4294967295) (by omega) (by omega)
  exact xor32 h1.1 h1.2 (by omega) (by omega)
abbrev isB (l : List Int) : Prop := ∀ x ∈ l, 0 ≤ x ∧ x < 256
theorem crcBits_last : ∀ (n : Nat) (r : Int), crcBits (n + 1) r = crcBit (crcBits n r)
  | 0, _ => rfl
  | n + 1, r => crcBits_last n (crcBit r)
theorem crcAll_app : ∀ (a : List Int) (x r : Int), crcAll (a ++ [x]) r = crcBits 8 (Go.bits .xor .i64 (crcAll a r) x)
  | [], _, _ => rfl
  | y :: a, x, r => crcAll_app a x _
theorem crcAll_succ {l : List Int} {i : Nat} (h : i < l.length) (r : Int) : crcAll (l.take (i + 1)) r = crcBits 8 (Go.bits .xor .i64 (crcAll (l.take i) r) l[i]) := by
  rw [List.take_succ_eq_append_getElem h, crcAll_app]
theorem isB_take {l : List Int} (h : isB l) (i : Nat) : isB (l.take i) := fun x hx => h x (List.mem_of_mem_take hx)
theorem crc_in {l : List Int} (h : isB l) (i : Nat) : 0 ≤ crcAll (l.take i) 4294967295 ∧ crcAll (l.take i) 4294967295 < 4294967296 := crcAll_range _ (isB_take h i) (by omega) (by omega)
theorem i_Crc (l : List Int) (hb : isB l) (hl : l.length ≤ bound) : Spec Try.prog 53 [.ro (.sl 1 (l.map T.u8))] [T.int (crcOf l)] := by
  have hl' : l.length ≤ 16777216 := hl
  refine fn Try.func53 ?_
  repeat (first | refine brT ?_ | refine brF ?_ | refine And.intro rfl ?_ | refine And.intro trivial ?_ | intro _)
  refine loopR (fun i => ⟨31, [(3, .int (crcAll (l.take i) 4294967295)), (7, .c (.ro 1 (l.map T.u8))), (8, .int l.length), (9, .int i)], []⟩) l.length (fun _ => True) trivial (wk rfl ⟨rfl, rfl, lenm, rfl, trivial⟩ trivial) ?_
  intro i hi _
  refine brD (fun h => ?_) (fun h => ?_)
  · have h : i < l.length := by simpa using h
    obtain ⟨x0, x1⟩ := hb _ (List.getElem_mem h)
    obtain ⟨r0, r1⟩ := crc_in hb i
    have hsuc := crcAll_succ h 4294967295
    refine ⟨nn i, T.u8 l[i], atm h, ?_⟩
    repeat (first | refine brT ?_ | refine brF ?_ | refine And.intro rfl ?_ | refine And.intro trivial ?_ | intro _)
    generalize l[i] = x at x0 x1 hsuc
    generalize crcAll (l.take i) 4294967295 = r at r0 r1 hsuc
    have ex : w64 x = x := w64_id (by omega) (by omega)
    have y := xor32 r0 r1 x0 (show x < 4294967296 by omega)
    refine loopR (fun j => ⟨31, [(3, .int (crcBits j (Go.bits .xor .i64 r x))), (7, .c (.ro 1 (l.map T.u8))), (8, .int l.length), (9, .int i), (17, .int j)], []⟩) 8 (fun _ => True) trivial (wk rfl ⟨gi rfl (by show Go.bits .xor .i64 r (w64 x) = _; rw [ex]; rfl), rfl, rfl, rfl, rfl, trivial⟩ trivial) ?_
    intro j hj _
    have z := crcBits_range j y.1 y.2
    have hlast := crcBits_last j (Go.bits .xor .i64 r x)
    refine brD (fun h2 => ?_) (fun h2 => ?_)
    · have h2 : j < 8 := by omega
      generalize crcBits j (Go.bits .xor .i64 r x) = w at z hlast
      have e1 : Go.bits .and .i64 w 1 = w % 2 := and_one z.1 (by omega)
      have e2 : w / 2 ^ (1 : Int).toNat = w / 2 := rfl
      repeat (first | refine brT ?_ | refine brF ?_ | refine And.intro rfl ?_ | refine And.intro trivial ?_ | intro _)
      refine ⟨⟨by decide, by decide⟩, ?_⟩
      repeat (first | refine brT ?_ | refine brF ?_ | refine And.intro rfl ?_ | refine And.intro trivial ?_ | intro _)
      refine brI (fun h3 => ?_) (fun h3 => ?_)
      · have h3 : Go.bits .and .i64 w 1 = 1 := by simpa using h3
        rw [e1] at h3
        exact nxtR h2 trivial (wk rfl ⟨gi rfl (by show Go.bits .xor .i64 (w / 2) 3988292384 = _; rw [hlast, crcBit, if_pos h3]), rfl, rfl, rfl, up1 h2 (by decide), trivial⟩ trivial)
      · have h3 : ¬ Go.bits .and .i64 w 1 = 1 := by simpa using h3
        rw [e1] at h3
        exact nxtR h2 trivial (wk rfl ⟨gi rfl (by show w / 2 = _; rw [hlast, crcBit, if_neg h3]), rfl, rfl, rfl, up1 h2 (by decide), trivial⟩ trivial)
    · have : j = 8 := by omega
      subst this
      repeat (first | refine brT ?_ | refine brF ?_ | refine And.intro rfl ?_ | refine And.intro trivial ?_ | intro _)
      exact nxtR h trivial (wk rfl ⟨gi rfl hsuc.symm, rfl, rfl, up1 h hl', trivial⟩ trivial)
  · have : i = l.length := by simp at h; omega
    subst this
    repeat (first | refine brT ?_ | refine brF ?_ | refine And.intro rfl ?_ | refine And.intro trivial ?_ | intro _)
    exact ti (by rw [List.take_length]; rfl)

/-! Frames. -/
def getB (l : List Int) : Int := l.foldl (fun n x => 256 * n + x) 0
def getF (n : Int) (l : List Int) : Int := l.foldl (fun n x => 256 * n + x) n
theorem getF_app (n : Int) (l : List Int) (x : Int) : getF n (l ++ [x]) = 256 * getF n l + x := by simp [getF]
theorem getF_in {l : List Int} (hb : isB l) : ∀ {n : Int}, 0 ≤ n → ∀ {k : Nat}, l.length ≤ k → 0 ≤ getF n l ∧ getF n l < (n + 1) * 256 ^ k := by
  induction l with
  | nil =>
    intro n hn k _
    have h1 : (1 : Int) ≤ 256 ^ k := by
      have := Int.pow_pos (n := 256) (m := k) (by decide)
      omega
    refine ⟨hn, ?_⟩
    show n < _
    have : (n + 1) * 1 ≤ (n + 1) * 256 ^ k := Int.mul_le_mul_of_nonneg_left h1 (by omega)
    omega
  | cons x l ih =>
    intro n hn k hk
    obtain ⟨x0, x1⟩ := hb x (by simp)
    obtain ⟨k, rfl⟩ : ∃ k', k = k' + 1 := ⟨k - 1, by simp at hk; omega⟩
    have h := ih (fun y hy => hb y (by simp [hy])) (n := 256 * n + x) (by omega) (k := k) (by simpa using hk)
    refine ⟨h.1, ?_⟩
    have h2 := h.2
    have e : getF n (x :: l) = getF (256 * n + x) l := rfl
    rw [e]
    have hp : (0 : Int) ≤ 256 ^ k := by
      have := Int.pow_pos (n := 256) (m := k) (by decide)
      omega
    have : (256 * n + x + 1) * 256 ^ k ≤ ((n + 1) * 256) * 256 ^ k := Int.mul_le_mul_of_nonneg_right (by omega) hp
    have e2 : (n + 1) * 256 ^ (k + 1) = ((n + 1) * 256) * 256 ^ k := by rw [Int.pow_succ, Int.mul_assoc, Int.mul_comm (256 ^ k) 256]
    omega
def putB (n : Int) : Nat → List Int
  | 0 => []
  | k + 1 => (n / 256 ^ k) % 256 :: putB n k
theorem putB_len (n : Int) : ∀ k, (putB n k).length = k
  | 0 => rfl
  | k + 1 => by simp [putB, putB_len n k]
theorem putB_isB (n : Int) : ∀ k, isB (putB n k)
  | 0 => fun x h => by cases h
  | k + 1 => fun x h => by
    rcases List.mem_cons.1 h with rfl | h
    · exact ⟨Int.emod_nonneg _ (by decide), Int.emod_lt_of_pos _ (by decide)⟩
    · exact putB_isB n k x h
/-- The bytes that have been put when the k lowest are still to come. -/
theorem putB_split (n : Int) (m k : Nat) : ∃ l, putB n (m + k) = l ++ putB n k ∧ l.length = m := by
  induction m with
  | zero => exact ⟨[], by simp, rfl⟩
  | succ m ih =>
    obtain ⟨l, h1, h2⟩ := ih
    refine ⟨(n / 256 ^ (m + k)) % 256 :: l, ?_, by simp [h2]⟩
    rw [show m + 1 + k = (m + k) + 1 by omega]
    simp only [putB, h1, List.cons_append]
def putD (n : Int) (t k : Nat) : List Int := (putB n t).take (t - k)
theorem putD_step {n : Int} {t k : Nat} (h : k + 1 ≤ t) : putD n t k = putD n t (k + 1) ++ [(n / 256 ^ k) % 256] := by
  obtain ⟨l, h1, h2⟩ := putB_split n (t - (k + 1)) (k + 1)
  rw [show t - (k + 1) + (k + 1) = t by omega] at h1
  unfold putD
  rw [h1, show t - k = l.length + 1 by omega, show t - (k + 1) = l.length by omega, List.take_left, List.take_append]
  simp [putB, List.take_of_length_le]
theorem putD_zero (n : Int) (t : Nat) : putD n t 0 = putB n t := by simp [putD, List.take_of_length_le, putB_len]
theorem putD_all (n : Int) (t : Nat) : putD n t t = [] := by simp [putD]
theorem cB (l : List Int) : ∀ t ∈ l.map T.u8, t.cells.length = 1 := by
  intro t ht
  obtain ⟨n, _, rfl⟩ := List.mem_map.1 ht
  rfl
theorem vB {l : List Int} : ∀ t ∈ l.map T.u8, ∀ c ∈ t.cells, ∃ x, c = T.v x := by
  intro t ht c hc
  obtain ⟨n, _, rfl⟩ := List.mem_map.1 ht
  have : c = T.u8 n := by simpa [T.u8, T.cells] using hc
  exact ⟨_, this⟩
theorem w8 {n : Int} (h0 : 0 ≤ n) (h1 : n < 256) : IntKind.wrap .u8 n = n := by
  rw [IntKind.wrap_u8]; omega

theorem p2 : ∀ j : Nat, (2 : Int) ^ (8 * j) = 256 ^ j
  | 0 => rfl
  | j + 1 => by
    have := p2 j
    rw [show 8 * (j + 1) = 8 * j + 8 by omega]
    simp only [Int.pow_succ]
    rw [this]
    omega
theorem div_step (x : Int) (j : Nat) : x / 256 ^ j / 256 = x / 256 ^ (j + 1) := by
  rw [Int.pow_succ]
  exact Int.ediv_ediv_of_nonneg (by have := Int.pow_pos (n := 256) (m := j) (by decide); omega)
theorem div_in {x : Int} (h0 : 0 ≤ x) (h1 : x ≤ 1152921504606846976) (j : Nat) : 0 ≤ x / 256 ^ j ∧ x / 256 ^ j ≤ 1152921504606846976 := by
  have hp := Int.pow_pos (n := 256) (m := j) (by decide)
  refine ⟨Int.ediv_nonneg h0 (by omega), ?_⟩
  have := Int.ediv_le_self (256 ^ j) h0
  omega
theorem i_putBytes (b : List Int) (x : Int) (t : Nat) (h0 : 0 ≤ x) (h1 : x ≤ 1152921504606846976) (ht : t ≤ 8) (hl : b.length + t ≤ bound) : Spec Try.prog 52 [.mv (.sl 1 (b.map T.u8)), .ro (T.int x), .ro (T.int t)] [.sl 1 ((b ++ putB x t).map T.u8)] := by
  refine fn Try.func52 ?_
  repeat (first | refine brT ?_ | refine brF ?_ | refine And.intro rfl ?_ | refine And.intro trivial ?_ | intro _)
  refine loopI (fun y : Nat × Nat => ⟨23, [(0, .c (.own 500000 y.2)), (1, .int x), (7, .int ((y.1 : Int) - 1))], [(500000, .row y.2 0 1 ((b ++ putD x t y.1).map T.u8))]⟩) (fun y => y.1) (fun y => y.1 ≤ t) (t, 0) (Nat.le_refl _) (wk rfl ⟨rfl, rfl, gi rfl (by show w64 ((t : Int) - 1) = _; exact w64_id (by omega) (by omega)), trivial⟩ ⟨gr rfl (by rw [putD_all]; simp), trivial⟩) ?_
  rintro ⟨k, q⟩ hk
  simp only at hk
  refine brD (fun h => ?_) (fun h => ?_)
  · have h : 1 ≤ k := by have h : (k : Int) - 1 ≥ 0 := h; omega
    obtain ⟨k, rfl⟩ : ∃ j, k = j + 1 := ⟨k - 1, by omega⟩
    have hst := putD_step (n := x) hk
    have hpl : (putD x t (k + 1)).length + 1 ≤ t := by unfold putD; rw [List.length_take, putB_len]; omega
    have hd := div_in h0 h1 k
    have es : w64 (8 * (((k + 1 : Nat) : Int) - 1)) = ((8 * k : Nat) : Int) := by rw [w64_id (by omega) (by omega)]; omega
    repeat (first | refine brT ?_ | refine brF ?_ | refine And.intro rfl ?_ | refine And.intro trivial ?_ | intro _)
    refine ⟨⟨by show 0 ≤ w64 (8 * (((k + 1 : Nat) : Int) - 1)); rw [es]; omega, by show w64 (8 * (((k + 1 : Nat) : Int) - 1)) ≤ 64; rw [es]; omega⟩, ?_⟩
    repeat (first | refine brT ?_ | refine brF ?_ | refine And.intro rfl ?_ | refine And.intro trivial ?_ | intro _)
    refine ⟨cB [_], fun q0 => ?_⟩
    repeat (first | refine brT ?_ | refine brF ?_ | refine And.intro rfl ?_ | refine And.intro trivial ?_ | intro _)
    refine ⟨by simp; unfold bound at hl ⊢; omega, fun q1 => ?_⟩
    repeat (first | refine brT ?_ | refine brF ?_ | refine And.intro rfl ?_ | refine And.intro trivial ?_ | intro _)
    have eb : IntKind.wrap .u8 (x / 2 ^ (w64 (8 * (((k + 1 : Nat) : Int) - 1))).toNat) = (x / 256 ^ k) % 256 := by rw [es, Int.toNat_natCast, p2, IntKind.wrap_u8]
    exact nxt (k, q1) (by show k ≤ t; omega) (by show k < k + 1; omega) (wk rfl ⟨rfl, rfl, gi rfl (by show w64 ((((k + 1 : Nat) : Int) - 1) - 1) = _; rw [w64_id (by omega) (by omega)]; omega), trivial⟩ ⟨gr rfl (by rw [hst, ← List.append_assoc, List.map_append (l₂ := [_])]; exact congrArg (fun z => (b ++ putD x t (k + 1)).map T.u8 ++ [T.u8 z]) eb), trivial⟩)
  · have : k = 0 := by have h : ¬ (k : Int) - 1 ≥ 0 := h; omega
    subst this
    repeat (first | refine brT ?_ | refine brF ?_ | refine And.intro rfl ?_ | refine And.intro trivial ?_ | intro _)
    rw [putD_zero]

theorem getF_take {l : List Int} {i : Nat} (h : i < l.length) (n : Int) : getF n (l.take (i + 1)) = 256 * getF n (l.take i) + l[i] := by
  rw [List.take_succ_eq_append_getElem h, getF_app]
theorem i_getBytes (b : List Int) (es : List T) (he : es = b.map T.u8) (hb : isB b) (hl : b.length ≤ 4) : Spec Try.prog 54 [.ro (.sl 1 es)] [T.int (getF 0 b)] := by
  subst he
  refine fn Try.func54 ?_
  repeat (first | refine brT ?_ | refine brF ?_ | refine And.intro rfl ?_ | refine And.intro trivial ?_ | intro _)
  refine loopR (fun i => ⟨19, [(3, .int (getF 0 (b.take i))), (6, .c (.ro 1 (b.map T.u8))), (7, .int b.length), (8, .int i)], []⟩) b.length (fun _ => True) trivial (wk rfl ⟨rfl, rfl, lenm, rfl, trivial⟩ trivial) ?_
  intro i hi _
  have hg := getF_in (isB_take hb i) (n := 0) (by decide) (k := 4) (by rw [List.length_take]; omega)
  refine brD (fun h1 => ?_) (fun h1 => ?_)
  · have h1 : i < b.length := by simpa using h1
    have hs := getF_take h1 0
    obtain ⟨x0, x1⟩ := hb _ (List.getElem_mem h1)
    refine ⟨nn i, T.u8 b[i], atm h1, ?_⟩
    repeat (first | refine brT ?_ | refine brF ?_ | refine And.intro rfl ?_ | refine And.intro trivial ?_ | intro _)
    generalize b[i] = x at hs x0 x1
    generalize getF 0 (b.take i) = g at hs hg
    have hg2 := hg.2
    have e1 : w64 (256 * g) = 256 * g := w64_id (by omega) (by omega)
    have e2 : w64 x = x := w64_id (by omega) (by omega)
    exact nxtR h1 trivial (wk rfl ⟨gi rfl (by show w64 (w64 (256 * g) + w64 x) = _; rw [hs, e1, e2, w64_id (by omega) (by omega)]), rfl, rfl, up1 h1 (by omega), trivial⟩ trivial)
  · have : i = b.length := by omega
    subst this
    repeat (first | refine brT ?_ | refine brF ?_ | refine And.intro rfl ?_ | refine And.intro trivial ?_ | intro _)
    exact ti (by rw [List.take_length])
theorem i_Crc' (l : List Int) (es : List T) (he : es = l.map T.u8) (hb : isB l) (hl : l.length ≤ bound) : Spec Try.prog 53 [.ro (.sl 1 es)] [T.int (crcOf l)] := by subst he; exact i_Crc l hb hl
theorem i_CloneB (l : List Int) (es : List T) (he : es = l.map T.u8) (hl : l.length ≤ bound) : Spec Try.prog 55 [.ro (.sl 1 es)] [.sl 1 es] := by
  subst he
  refine fn Try.func55 ?_
  intro b hb
  refine brI (fun h => ?_) (fun h => ?_)
  · have : l = [] := by
      cases l with
      | nil => rfl
      | cons a r => have := hb (by simp); rw [h] at this; cases this
    subst this
    exact ⟨1, rfl⟩
  · refine ⟨fun t h => (by cases h), fun q0 => ?_⟩
    repeat (first | refine brT ?_ | refine brF ?_ | refine And.intro rfl ?_ | refine And.intro trivial ?_ | intro _)
    refine ⟨vB, by simp; exact hl, fun q => ?_⟩
    repeat (first | refine brT ?_ | refine brF ?_ | refine And.intro rfl ?_ | refine And.intro trivial ?_ | intro _)
    rfl
def fSeq (f : List Int) : Int := getF 0 ((f.drop 1).take 3)
def fCnt (f : List Int) : Int := getF 0 ((f.drop 4).take 3)
def fHead (f : List Int) : Int := getF 0 ((f.drop 7).take 4)
def fSum (f : List Int) : Int := getF 0 ((f.drop 11).take 4)
def fFirst (f : List Int) : Int := match f with
  | x :: _ => x
  | [] => 0
def fBad (f : List Int) : Bool := fFirst f != 82 || fHead f != crcOf (f.take 7) || decide (fSeq f > 100000) || decide (fCnt f > 4000)
def fData (f : List Int) : List Int := (f.drop 15).take (fCnt f).toNat
def frameRead (b : List Int) (a : Int) : Int × List Int × Int × Int :=
  if a < 0 ∨ a > b.length then (0, [], 0, 1)
  else if (b.drop a.toNat).length < 11 then (0, [], 0, 2)
  else if fBad (b.drop a.toNat) = true then (0, [], 0, 3)
  else if ((b.drop a.toNat).length : Int) < 15 + fCnt (b.drop a.toNat) then (0, [], 0, 4)
  else if fSum (b.drop a.toNat) ≠ crcOf (fData (b.drop a.toNat)) then (0, [], 0, 5)
  else (fSeq (b.drop a.toNat), fData (b.drop a.toNat), a + 15 + fCnt (b.drop a.toNat), 0)
theorem fCnt_in {f : List Int} (h : isB f) : 0 ≤ fCnt f ∧ fCnt f < 16777216 := by
  have := getF_in (l := (f.drop 4).take 3) (fun x hx => h x (List.mem_of_mem_drop (List.mem_of_mem_take hx))) (n := 0) (by decide) (k := 3) (by rw [List.length_take]; omega)
  exact ⟨this.1, by have := this.2; unfold fCnt; omega⟩
theorem first_at {f : List Int} (h : 0 < f.length) : fFirst f = f[0] := by
  cases f with
  | nil => simp at h
  | cons x r => rfl
theorem sl_u8 {f : List Int} {a b : Nat} : ((f.map T.u8).take b).drop a = ((f.drop a).take (b - a)).map T.u8 := by rw [List.drop_take, List.map_take, List.map_drop]
theorem tk_u8 {f : List Int} {b : Nat} : ((f.map T.u8).take b).drop 0 = (f.take b).map T.u8 := by rw [List.drop_zero, List.map_take]
theorem isB_sub {f : List Int} (h : isB f) (a b : Nat) : isB ((f.drop a).take b) := fun x hx => h x (List.mem_of_mem_drop (List.mem_of_mem_take hx))
theorem sub_len {f : List Int} (a b : Nat) : ((f.drop a).take b).length ≤ b := by rw [List.length_take]; omega
theorem i_FrameRead (b : List Int) (a : Int) (hb : isB b) (hl : b.length ≤ bound) : Spec Try.prog 33 [.ro (.sl 1 (b.map T.u8)), .ro (T.int a)] [T.int (frameRead b a).1, .sl 1 ((frameRead b a).2.1.map T.u8), T.int (frameRead b a).2.2.1, T.int (frameRead b a).2.2.2] := by
  have hl' : b.length ≤ 16777216 := hl
  refine fn Try.func33 ?_
  by_cases h0 : a < 0 ∨ a > b.length
  · have e : frameRead b a = (0, [], 0, 1) := if_pos h0
    rw [e]
    repeat' (first | (first | refine brT ?_ | refine brF ?_ | refine And.intro rfl ?_ | refine And.intro trivial ?_ | intro _) | refine brI (fun _ => ?_) (fun _ => ?_))
    all_goals first
      | (exfalso; simp_all; omega)
      | exact ⟨1, rfl⟩
  unfold frameRead
  rw [if_neg h0]
  obtain ⟨n, rfl⟩ : ∃ n : Nat, a = n := ⟨a.toNat, by omega⟩
  have hn : n ≤ b.length := by omega
  have e0 : ((n : Int)).toNat = n := by omega
  rw [e0]
  have hf : isB (b.drop n) := fun x hx => hb x (List.mem_of_mem_drop hx)
  have hfl : (b.drop n).length = b.length - n := List.length_drop ..
  repeat (first | (first | refine brT ?_ | refine brF ?_ | refine And.intro rfl ?_ | refine And.intro trivial ?_ | intro _) | (refine brL ?kzz (fun _ => ?_); case kzz => (simp <;> omega)))
  refine ⟨nn n, by simp; omega, Nat.le_refl _, ?_⟩
  have e1 : ((b.map T.u8).take (b.map T.u8).length).drop ((n : Int)).toNat = (b.drop n).map T.u8 := by rw [List.take_length, List.map_drop]; rfl
  repeat (first | refine brT ?_ | refine brF ?_ | refine And.intro rfl ?_ | refine And.intro trivial ?_ | intro _)
  rw [e1]
  generalize b.drop n = f at hf hfl
  have hfb : f.length ≤ 16777216 := by omega
  by_cases h1 : f.length < 11
  · rw [if_pos h1]
    repeat (first | (first | refine brT ?_ | refine brF ?_ | refine And.intro rfl ?_ | refine And.intro trivial ?_ | intro _) | (refine brR ?kzz (fun _ => ?_); case kzz => (simp <;> omega)))
    exact ⟨1, rfl⟩
  rw [if_neg h1]
  have l15 := fCnt_in hf
  have q4 : 4 ≤ (f.map T.u8).length := by simp; omega
  have q7 : 7 ≤ (f.map T.u8).length := by simp; omega
  have q11 : 11 ≤ (f.map T.u8).length := by simp; omega
  have d1 : (0 : Int) ≤ 1 := by decide
  have d4 : (0 : Int) ≤ 4 := by decide
  have d7 : (0 : Int) ≤ 7 := by decide
  have d11 : (0 : Int) ≤ 11 := by decide
  have d15 : (0 : Int) ≤ 15 := by decide
  have n14 : (1 : Nat) ≤ 4 := by decide
  have n47 : (4 : Nat) ≤ 7 := by decide
  have n711 : (7 : Nat) ≤ 11 := by decide
  have hat : (f.map T.u8)[(0 : Int).toNat]? = some (T.u8 (fFirst f)) := by rw [first_at (show 0 < f.length by omega)]; exact atm (i := 0) (by omega)
  have cs := i_getBytes ((f.drop 1).take 3) _ (sl_u8 (a := 1) (b := 4)) (isB_sub hf _ _) (Nat.le_trans (sub_len _ _) (by decide))
  have cc := i_getBytes ((f.drop 4).take 3) _ (sl_u8 (a := 4) (b := 7)) (isB_sub hf _ _) (Nat.le_trans (sub_len _ _) (by decide))
  have ch := i_getBytes ((f.drop 7).take 4) _ (sl_u8 (a := 7) (b := 11)) (isB_sub hf _ _) (Nat.le_trans (sub_len _ _) (by decide))
  have cu := i_getBytes ((f.drop 11).take 4) _ (sl_u8 (a := 11) (b := 15)) (isB_sub hf _ _) (Nat.le_trans (sub_len _ _) (by decide))
  have c7 := i_Crc' (f.take 7) _ (tk_u8 (b := 7)) (isB_take hf _) (by rw [List.length_take]; unfold bound; omega)
  repeat (first | (first | refine brT ?_ | refine brF ?_ | refine And.intro rfl ?_ | refine And.intro trivial ?_ | intro _) | (refine brL ?kzz (fun _ => ?_); case kzz => (simp <;> omega)))
  refine ⟨d1, d4, n14, q4, ?_⟩
  repeat (first | refine brT ?_ | refine brF ?_ | refine And.intro rfl ?_ | refine And.intro trivial ?_ | intro _)
  refine ⟨_, cs, ?_⟩
  repeat (first | refine brT ?_ | refine brF ?_ | refine And.intro rfl ?_ | refine And.intro trivial ?_ | intro _)
  refine ⟨d4, d7, n47, q7, ?_⟩
  repeat (first | refine brT ?_ | refine brF ?_ | refine And.intro rfl ?_ | refine And.intro trivial ?_ | intro _)
  refine ⟨_, cc, ?_⟩
  repeat (first | refine brT ?_ | refine brF ?_ | refine And.intro rfl ?_ | refine And.intro trivial ?_ | intro _)
  refine drM (Pl.go 0 (Pl.go 1 (Pl.go 2 (Pl.go 3 (Pl.go 4 (Pl.go 5 (Pl.go 8 ((Pl.go 6 ((Pl.go 7 (Pl.go 9 (Pl.go 10 (Pl.go 11 (Pl.go 12 (Pl.go 13 (Pl.go 14 (Pl.go 15 (Pl.go 16 (Pl.go 17 (Pl.go 18 (Pl.go 19 (Pl.go 20 Pl.stop))))))))))))).or (Pl.go 9 (Pl.go 7 (Pl.go 10 (Pl.go 11 (Pl.go 12 (Pl.go 13 (Pl.go 14 (Pl.go 15 (Pl.go 16 (Pl.go 17 (Pl.go 18 (Pl.go 19 (Pl.go 20 Pl.stop))))))))))))))).or (Pl.go 9 (Pl.go 6 (Pl.go 7 (Pl.go 10 (Pl.go 11 (Pl.go 12 (Pl.go 13 (Pl.go 14 (Pl.go 15 (Pl.go 16 (Pl.go 17 (Pl.go 18 (Pl.go 19 (Pl.go 20 Pl.stop)))))))))))))))))))))) (fun m => ∃ c : Bool, c = fBad f ∧ m = ⟨75, [(1, .int n), (8, .c (.ro 1 (f.map T.u8))), (9, .int (fSeq f)), (10, .int (fCnt f)), (52, .bool c)], []⟩) (by kernel_rfl) ?_ ?_
  · repeat' (first | (first | refine brT ?_ | refine brF ?_ | refine And.intro rfl ?_ | refine And.intro trivial ?_ | intro _) | refine ⟨Int.le_refl _, T.u8 (fFirst f), hat, ?_⟩ | refine ⟨d7, d11, n711, q11, ?_⟩ | refine ⟨d7, Nat.zero_le _, q7, ?_⟩ | refine ⟨_, ch, ?_⟩ | refine ⟨_, c7, ?_⟩ | refine brI (fun _ => ?_) (fun _ => ?_) | refine And.intro ?_ ?_)
    all_goals refine ⟨_, ⟨_, ?_, rfl⟩, wk rfl ⟨rfl, rfl, rfl, rfl, rfl, trivial⟩ trivial⟩
    all_goals (clear cs cc ch cu c7 hat; simp only [fBad, fSeq, fCnt, fHead] at *; simp_all <;> (intros; omega))
  rintro m ⟨c, rfl, rfl⟩
  refine brI (fun h2 => ?_) (fun h2 => ?_)
  · rw [if_pos h2]
    repeat (first | refine brT ?_ | refine brF ?_ | refine And.intro rfl ?_ | refine And.intro trivial ?_ | intro _)
    exact ⟨1, rfl⟩
  rw [if_neg (by simp [h2])]
  have ew : w64 (15 + fCnt f) = 15 + fCnt f := w64_id (by omega) (by omega)
  by_cases h3 : (f.length : Int) < 15 + fCnt f
  · rw [if_pos h3]
    repeat (first | refine brT ?_ | refine brF ?_ | refine And.intro rfl ?_ | refine And.intro trivial ?_ | intro _)
    refine brR (by show ¬ decide (((f.map T.u8).length : Int) < w64 (15 + fCnt f)) = false; rw [ew, List.length_map]; simpa using h3) (fun _ => ?_)
    repeat (first | refine brT ?_ | refine brF ?_ | refine And.intro rfl ?_ | refine And.intro trivial ?_ | intro _)
    exact ⟨1, rfl⟩
  rw [if_neg h3]
  repeat (first | refine brT ?_ | refine brF ?_ | refine And.intro rfl ?_ | refine And.intro trivial ?_ | intro _)
  refine brL (by show ¬ decide (((f.map T.u8).length : Int) < w64 (15 + fCnt f)) = true; rw [ew, List.length_map]; simpa using h3) (fun _ => ?_)
  repeat (first | refine brT ?_ | refine brF ?_ | refine And.intro rfl ?_ | refine And.intro trivial ?_ | intro _)
  have em : (w64 (15 + fCnt f)).toNat = 15 + (fCnt f).toNat := by rw [ew]; omega
  refine ⟨d15, by show (0 : Int) ≤ w64 (15 + fCnt f); rw [ew]; omega, by show 15 ≤ (w64 (15 + fCnt f)).toNat; rw [em]; omega, by show (w64 (15 + fCnt f)).toNat ≤ (f.map T.u8).length; rw [em, List.length_map]; omega, ?_⟩
  have e2 : ((f.map T.u8).take (w64 (15 + fCnt f)).toNat).drop (15 : Int).toNat = (fData f).map T.u8 := by
    rw [em, show (15 : Int).toNat = 15 from rfl, sl_u8, show 15 + (fCnt f).toNat - 15 = (fCnt f).toNat by omega]; rfl
  have hdl : (fData f).length ≤ bound := by unfold fData; rw [List.length_take, List.length_drop]; unfold bound; omega
  have cd := i_Crc' (fData f) _ rfl (isB_sub hf _ _) hdl
  have cl := i_CloneB (fData f) _ rfl hdl
  have n1115 : (11 : Nat) ≤ 15 := by decide
  have q15 : 15 ≤ (f.map T.u8).length := by simp; omega
  repeat (first | refine brT ?_ | refine brF ?_ | refine And.intro rfl ?_ | refine And.intro trivial ?_ | intro _)
  rw [e2]
  refine ⟨d11, d15, n1115, q15, ?_⟩
  repeat (first | refine brT ?_ | refine brF ?_ | refine And.intro rfl ?_ | refine And.intro trivial ?_ | intro _)
  refine ⟨_, cu, ?_⟩
  repeat (first | refine brT ?_ | refine brF ?_ | refine And.intro rfl ?_ | refine And.intro trivial ?_ | intro _)
  refine ⟨_, cd, ?_⟩
  repeat (first | refine brT ?_ | refine brF ?_ | refine And.intro rfl ?_ | refine And.intro trivial ?_ | intro _)
  by_cases h4 : fSum f = crcOf (fData f)
  · rw [if_neg (by simpa using h4)]
    refine brL (by show ¬ (fSum f != crcOf (fData f)) = true; simpa using h4) (fun _ => ?_)
    repeat (first | refine brT ?_ | refine brF ?_ | refine And.intro rfl ?_ | refine And.intro trivial ?_ | intro _)
    refine ⟨_, cl, ?_⟩
    repeat (first | refine brT ?_ | refine brF ?_ | refine And.intro rfl ?_ | refine And.intro trivial ?_ | intro _)
    have ez : w64 (w64 ((n : Int) + 15) + fCnt f) = (n : Int) + 15 + fCnt f := by rw [w64_id (n := (n : Int) + 15) (by omega) (by omega), w64_id (by omega) (by omega)]
    exact congrArg (fun z => [T.int (fSeq f), T.sl 1 ((fData f).map T.u8), T.int z, T.int 0]) ez
  · rw [if_pos (by simpa using h4)]
    refine brR (by show ¬ (fSum f != crcOf (fData f)) = false; simpa using h4) (fun _ => ?_)
    repeat (first | refine brT ?_ | refine brF ?_ | refine And.intro rfl ?_ | refine And.intro trivial ?_ | intro _)
    exact ⟨1, rfl⟩

def hdr1 (n : Int) (d : List Int) : List Int := ([82] ++ putB n 3) ++ putB d.length 3
def hdr2 (n : Int) (d : List Int) : List Int := hdr1 n d ++ putB (crcOf (hdr1 n d)) 4
def hdr3 (n : Int) (d : List Int) : List Int := hdr2 n d ++ putB (crcOf d) 4
def frameB (n : Int) (d : List Int) : List Int × Bool := if n < 0 ∨ n > 100000 ∨ (d.length : Int) > 4000 then ([], false) else (hdr3 n d ++ d, true)
theorem isB_app {a b : List Int} (h : isB a) (h2 : isB b) : isB (a ++ b) := fun x hx => by
  rcases List.mem_append.1 hx with hx | hx
  · exact h x hx
  · exact h2 x hx
theorem hdr1_B (n : Int) (d : List Int) : isB (hdr1 n d) := isB_app (isB_app (fun x hx => by simp at hx; omega) (putB_isB _ _)) (putB_isB _ _)
theorem hdr1_len (n : Int) (d : List Int) : (hdr1 n d).length = 7 := by simp [hdr1, putB_len]
theorem hdr3_len (n : Int) (d : List Int) : (hdr3 n d).length = 15 := by simp [hdr3, hdr2, hdr1_len, putB_len]
theorem frameB_len (n : Int) (d : List Int) : (frameB n d).1.length ≤ d.length + 15 := by
  unfold frameB
  split
  · simp
  · simp [hdr3_len]; omega
theorem hdr3_B (n : Int) (d : List Int) : isB (hdr3 n d) := isB_app (isB_app (hdr1_B n d) (putB_isB _ _)) (putB_isB _ _)
theorem frameB_B {n : Int} {d : List Int} (h : isB d) : isB (frameB n d).1 := by
  unfold frameB
  split
  · exact fun x hx => by cases hx
  · exact isB_app (hdr3_B n d) h
theorem i_FrameBytes (n : Int) (d : List Int) (hb : isB d) (hl : d.length ≤ bound) : Spec Try.prog 32 [.ro (T.int n), .ro (.sl 1 (d.map T.u8))] [.sl 1 ((frameB n d).1.map T.u8), T.bool (frameB n d).2] := by
  have hl' : d.length ≤ 16777216 := hl
  refine fn Try.func32 ?_
  by_cases h0 : n < 0 ∨ n > 100000 ∨ (d.length : Int) > 4000
  · have e : frameB n d = ([], false) := if_pos h0
    rw [e]
    repeat' (first | (first | refine brT ?_ | refine brF ?_ | refine And.intro rfl ?_ | refine And.intro trivial ?_ | intro _) | refine brI (fun _ => ?_) (fun _ => ?_))
    all_goals first
      | (exfalso; simp_all; omega)
      | exact ⟨1, rfl⟩
  have e : frameB n d = (hdr3 n d ++ d, true) := if_neg h0
  rw [e]
  have r1 := crcOf_range (hdr1_B n d)
  have r2 := crcOf_range hb
  have k1 := hdr1_len n d
  have cp := i_putBytes ([82] ++ putB n 3) d.length 3 (by omega) (by omega) (by decide) (by simp [putB_len]; decide)
  have el : (d.map T.u8).length = d.length := List.length_map ..
  rw [show ([82] ++ putB n 3) ++ putB (d.length : Int) 3 = hdr1 n d from rfl, ← el] at cp
  have ee : (hdr3 n d).map T.u8 ++ d.map T.u8 = (hdr3 n d ++ d).map T.u8 := (List.map_append ..).symm
  repeat (first | (first | refine brT ?_ | refine brF ?_ | refine And.intro rfl ?_ | refine And.intro trivial ?_ | intro _) | (refine brL ?kzz (fun _ => ?_); case kzz => (simp <;> omega)))
  refine ⟨cB [82], fun q0 => ?_⟩
  repeat (first | refine brT ?_ | refine brF ?_ | refine And.intro rfl ?_ | refine And.intro trivial ?_ | intro _)
  refine ⟨_, i_putBytes [82] n 3 (by omega) (by omega) (by decide) (by decide), ?_⟩
  repeat (first | refine brT ?_ | refine brF ?_ | refine And.intro rfl ?_ | refine And.intro trivial ?_ | intro _)
  refine ⟨_, cp, ?_⟩
  repeat (first | refine brT ?_ | refine brF ?_ | refine And.intro rfl ?_ | refine And.intro trivial ?_ | intro _)
  refine ⟨_, i_Crc (hdr1 n d) (hdr1_B n d) (by rw [k1]; decide), ?_⟩
  repeat (first | refine brT ?_ | refine brF ?_ | refine And.intro rfl ?_ | refine And.intro trivial ?_ | intro _)
  refine ⟨_, i_putBytes (hdr1 n d) (crcOf (hdr1 n d)) 4 r1.1 (by omega) (by decide) (by rw [k1]; decide), ?_⟩
  repeat (first | refine brT ?_ | refine brF ?_ | refine And.intro rfl ?_ | refine And.intro trivial ?_ | intro _)
  refine ⟨_, i_Crc d hb hl, ?_⟩
  repeat (first | refine brT ?_ | refine brF ?_ | refine And.intro rfl ?_ | refine And.intro trivial ?_ | intro _)
  refine ⟨_, i_putBytes (hdr2 n d) (crcOf d) 4 r2.1 (by omega) (by decide) (by simp [hdr2, k1, putB_len]; decide), ?_⟩
  repeat (first | refine brT ?_ | refine brF ?_ | refine And.intro rfl ?_ | refine And.intro trivial ?_ | intro _)
  refine ⟨vB, by have := hdr3_len n d; simp only [hdr3] at this; rw [List.length_map, List.length_map, this]; unfold bound; omega, fun q1 => ?_⟩
  repeat (first | refine brT ?_ | refine brF ?_ | refine And.intro rfl ?_ | refine And.intro trivial ?_ | intro _)
  exact congrArg (fun z => [T.sl 1 z, T.bool true]) ee
def strP (l : List (List Int)) (i : Nat) : List Int := ((List.range i).map (fun j => match l[j]? with
  | some d => (frameB j d).1
  | none => [])).flatten
def stream (l : List (List Int)) : List Int × Bool := if (List.range l.length).all (fun j => match l[j]? with
  | some d => (frameB j d).2
  | none => true) then (strP l l.length, true) else ([], false)
theorem strP_succ {l : List (List Int)} {i : Nat} (h : i < l.length) : strP l (i + 1) = strP l i ++ (frameB i l[i]).1 := by
  simp [strP, List.range_succ, h]
def totL (l : List (List Int)) : Nat := (l.map (fun d => d.length + 15)).sum
theorem totL_take (l : List (List Int)) (i : Nat) : totL (l.take i) ≤ totL l := by
  induction l generalizing i with
  | nil => simp [totL]
  | cons d l ih =>
    cases i with
    | zero => simp [totL]
    | succ i => have := ih i; simp only [totL, List.take_succ_cons, List.map_cons, List.sum_cons] at this ⊢; omega
theorem strP_len {l : List (List Int)} : ∀ {i : Nat}, i ≤ l.length → (strP l i).length ≤ totL (l.take i)
  | 0, _ => by simp [strP]
  | i + 1, h => by
    have h1 := strP_len (l := l) (i := i) (by omega)
    have h2 := frameB_len i (l[i]'(by omega))
    rw [strP_succ (by omega), List.length_append, List.take_succ_eq_append_getElem (by omega)]
    simp only [totL, List.map_append, List.sum_append, List.map_cons, List.map_nil, List.sum_cons, List.sum_nil] at h1 ⊢
    omega
theorem str_no {l : List (List Int)} {i : Nat} (h : i < l.length) (hk : (frameB i l[i]).2 = false) : stream l = ([], false) := by
  have : (List.range l.length).all (fun j => match l[j]? with
    | some d => (frameB j d).2
    | none => true) = false := List.all_eq_false.2 ⟨i, List.mem_range.2 h, by simp [h, hk]⟩
  unfold stream
  rw [this]; rfl
theorem str_yes {l : List (List Int)} (h : ∀ j (hj : j < l.length), (frameB j l[j]).2 = true) : stream l = (strP l l.length, true) := by
  have : (List.range l.length).all (fun j => match l[j]? with
    | some d => (frameB j d).2
    | none => true) = true := List.all_eq_true.2 (fun j hj => by have := List.mem_range.1 hj; simp [this, h j this])
  unfold stream
  rw [this]; rfl


end Go.Proofs.Ytadpancnhinlbaa.E
