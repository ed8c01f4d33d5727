/- The program's Whole answers as the reference's, for every list of bytes; it leaves the list as it was; no condition. -/
import Derived.Test.YtcpmdkopbhddkaaPFnExactWholex4
import Derived.Test.YtcpmdkopbhddkaaCom
namespace Go.Proofs.Ytcpmdkopbhddkaa.Pure
open Go.RowKit Go.Proofs.Ytcpmdkopbhddkaa.PFnExactWhole Go.Proofs.YtcpmdkopbhddkaaW.PrintWords Go.Proofs.YtcpmdkopbhddkaaW.PrintLast Go.Proofs.Ytcpmdkopbhddkaa.Com

/-! Copies of bytes, and their comparison with themselves. -/
theorem toByteS_l0 (x0 : List Int) (hb : x0.length ≤ 4611686018427387904) : ∀ (d i : Nat) (x3 : List Int), i + d = x0.length → x3.length = x0.length →
    Ev (fun k => laws_toByteS.l0 k x0 x3 (i : Int)) (x3.take i ++ x0.drop i) := by
  intro d
  induction d with
  | zero =>
    intro i x3 hd h3
    refine ev_one fun k => ?_
    simp only [laws_toByteS.l0]
    rw [if_neg (by omega), List.take_of_length_le (by omega), List.drop_of_length_le (by omega), List.append_nil]
  | succ d ih =>
    intro i x3 hd h3
    have e := ih (i + 1) (x3.set i (rd x0 i)) (by omega) (by simpa using h3)
    have hs := set_mid x0 x3 i 0 (by omega) h3
    refine Ev.step (fun k => ?_) (ev_cast e (show _ = x3.take i ++ x0.drop i from hs))
    simp only [laws_toByteS.l0]
    rw [if_pos (by omega), if_pos (by omega), if_pos (by omega), w64 (by omega) (by omega)]
    rfl
theorem toByteS_ev (l : List Int) (hb : l.length ≤ 281474976710656) : Ev (fun k => laws_toByteS.f k l) l := by
  simp only [laws_toByteS.f]
  refine ev_pos (by omega) (ev_pos (by omega) ?_)
  exact ev_cast (toByteS_l0 l (by omega) l.length 0 _ (by omega) (by simp)) (by simp)
theorem eqByteS_l0 (x : List Int) (hb : x.length ≤ 4611686018427387904) : ∀ (d i : Nat), i + d = x.length → Ev (fun k => laws_eqByteS.l0 k x x (i : Int)) true := by
  intro d
  induction d with
  | zero =>
    intro i hd
    refine ev_one fun k => ?_
    simp only [laws_eqByteS.l0]
    rw [if_neg (by omega)]
  | succ d ih =>
    intro i hd
    refine Ev.step (fun k => ?_) (ih (i + 1) (by omega))
    simp only [laws_eqByteS.l0]
    rw [if_pos (by omega), if_pos (by omega), if_pos (by omega), if_pos trivial, w64 (by omega) (by omega)]
    rfl
theorem eqByteS_ev (l : List Int) (hb : l.length ≤ 281474976710656) : Ev (fun k => laws_eqByteS.f k l l) true := by
  simp only [laws_eqByteS.f]
  exact ev_pos (by trivial) (eqByteS_l0 l (by omega) l.length 0 (by omega))
/-! The sum of bytes: both programs make the same steps. -/
def crcBit (r : Int) : Int := if r % 2 = 1 then Go.bits .xor .i64 (r / 2) 3988292384 else r / 2
def crcBits : Nat → Int → Int
  | 0, r => r
  | n + 1, r => crcBits n (crcBit r)
def crcAll : List Int → Int → Int
  | [], r => r
  | x :: xs, r => crcAll xs (crcBits 8 (Go.bits .xor .i64 r x))
def crcOf (l : List Int) : Int := Go.bits .xor .i64 (crcAll l 4294967295) 4294967295
theorem crcBit_range {r : Int} (h0 : 0 ≤ r) (h1 : r < 4294967296) : 0 ≤ crcBit r ∧ crcBit r < 4294967296 := by
  unfold crcBit
  split
  · exact xor32 (by omega) (by omega) (by omega) (by omega)
  · omega
theorem crcBits_range : ∀ (n : Nat) {r : Int}, 0 ≤ r → r < 4294967296 → 0 ≤ crcBits n r ∧ crcBits n r < 4294967296
  | 0, _, h0, h1 => ⟨h0, h1⟩
  | n + 1, _, h0, h1 => crcBits_range n (crcBit_range h0 h1).1 (crcBit_range h0 h1).2
theorem crcAll_range : ∀ (l : List Int) {r : Int}, (∀ x ∈ l, 0 ≤ x ∧ x < 256) → 0 ≤ r → r < 4294967296 → 0 ≤ crcAll l r ∧ crcAll l r < 4294967296
  | [], _, _, h0, h1 => ⟨h0, h1⟩
  | x :: xs, _, hx, h0, h1 => by
    have hx' := hx x List.mem_cons_self
    have h := xor32 h0 h1 hx'.1 (by omega)
    have h2 := crcBits_range 8 h.1 h.2
    exact crcAll_range xs (fun y hy => hx y (List.mem_cons_of_mem _ hy)) h2.1 h2.2
theorem crcOf_range {l : List Int} (h : ∀ x ∈ l, 0 ≤ x ∧ x < 256) : 0 ≤ crcOf l ∧ crcOf l < 4294967296 := by
  have h1 := crcAll_range l h (r := 4294967295) (by omega) (by omega)
  exact xor32 h1.1 h1.2 (by omega) (by omega)
theorem spec_Crc_l1 (x0 : List Int) (i : Int) (v : Int) : ∀ (d j : Nat) (r : Int), j + d = 8 → 0 ≤ r → r < 4294967296 →
    Ev (fun k => spec_Crc.l0 k x0 (crcBits d r) (wrap64 (i + 1))) v → Ev (fun k => spec_Crc.l1 k x0 r i (j : Int)) v := by
  intro d
  induction d with
  | zero =>
    intro j r hj h0 h1 e
    refine Ev.step (fun k => ?_) e
    simp only [spec_Crc.l1]
    rw [if_neg (by omega)]
    rfl
  | succ d ih =>
    intro j r hj h0 h1 e
    have hr := crcBit_range h0 h1
    refine Ev.step (fun k => ?_) (ih (j + 1) (crcBit r) (by omega) hr.1 hr.2 e)
    simp only [spec_Crc.l1]
    rw [if_pos (by omega), tmod_pos h0, tdiv_pos h0, w64 (n := r / 2) (by omega) (by omega), w64 (n := (j : Int) + 1) (by omega) (by omega)]
    unfold crcBit
    split <;> rfl
theorem spec_Crc_l0 (x0 : List Int) (hb : x0.length ≤ 4611686018427387904) (hx : ∀ x ∈ x0, 0 ≤ x ∧ x < 256) : ∀ (d i : Nat) (r : Int), i + d = x0.length → 0 ≤ r → r < 4294967296 →
    Ev (fun k => spec_Crc.l0 k x0 r (i : Int)) (Go.bits .xor .i64 (crcAll (x0.drop i) r) 4294967295) := by
  intro d
  induction d with
  | zero =>
    intro i r hd h0 h1
    refine ev_one fun k => ?_
    simp only [spec_Crc.l0]
    rw [if_neg (by omega), List.drop_of_length_le (by omega)]
    rfl
  | succ d ih =>
    intro i r hd h0 h1
    have hi : i < x0.length := by omega
    have hm := hx _ (List.getElem_mem hi)
    have hx2 := xor32 h0 h1 hm.1 (by omega)
    have hx3 := crcBits_range 8 hx2.1 hx2.2
    have e := ih (i + 1) _ (by omega) hx3.1 hx3.2
    have hrd : rd x0 i = x0[i] := rd_at x0 i hi
    rw [List.drop_eq_getElem_cons hi]
    refine Ev.step (fun k => ?_) (spec_Crc_l1 x0 i _ 8 0 (Go.bits .xor .i64 r x0[i]) rfl hx2.1 hx2.2 ?_)
    · simp only [spec_Crc.l0]
      rw [if_pos (by omega), if_pos (by omega), hrd, w64 (by omega) (by omega)]
      rfl
    · rw [w64 (by omega) (by omega)]
      exact e
theorem spec_Crc_ev (l : List Int) (hb : l.length ≤ 4611686018427387904) (hx : ∀ x ∈ l, 0 ≤ x ∧ x < 256) : Ev (fun k => spec_Crc.f k l) (crcOf l) := by
  simp only [spec_Crc.f]
  exact spec_Crc_l0 l hb hx l.length 0 4294967295 (by omega) (by omega) (by omega)
theorem impl_Crc_l1 (x0 : List Int) (n i : Int) (v : Int) : ∀ (d j : Nat) (r : Int), j + d = 8 → 0 ≤ r → r < 4294967296 →
    Ev (fun k => impl_Crc.l0 k (crcBits d r) x0 n (wrap64 (i + 1))) v → Ev (fun k => impl_Crc.l1 k r x0 n i (j : Int)) v := by
  intro d
  induction d with
  | zero =>
    intro j r hj h0 h1 e
    refine Ev.step (fun k => ?_) e
    simp only [impl_Crc.l1]
    rw [if_neg (by omega)]
    rfl
  | succ d ih =>
    intro j r hj h0 h1 e
    have hr := crcBit_range h0 h1
    refine Ev.step (fun k => ?_) (ih (j + 1) (crcBit r) (by omega) hr.1 hr.2 e)
    simp only [impl_Crc.l1]
    rw [if_pos (by omega), and_one h0 (by omega), w64 (n := (j : Int) + 1) (by omega) (by omega)]
    unfold crcBit
    split <;> rfl
theorem impl_Crc_l0 (x0 : List Int) (hb : x0.length ≤ 4611686018427387904) (hx : ∀ x ∈ x0, 0 ≤ x ∧ x < 256) : ∀ (d i : Nat) (r : Int), i + d = x0.length → 0 ≤ r → r < 4294967296 →
    Ev (fun k => impl_Crc.l0 k r x0 (x0.length : Int) (i : Int)) (Go.bits .xor .i64 (crcAll (x0.drop i) r) 4294967295) := by
  intro d
  induction d with
  | zero =>
    intro i r hd h0 h1
    refine ev_one fun k => ?_
    simp only [impl_Crc.l0]
    rw [if_neg (by omega), List.drop_of_length_le (by omega)]
    rfl
  | succ d ih =>
    intro i r hd h0 h1
    have hi : i < x0.length := by omega
    have hm := hx _ (List.getElem_mem hi)
    have hx2 := xor32 h0 h1 hm.1 (by omega)
    have hx3 := crcBits_range 8 hx2.1 hx2.2
    have e := ih (i + 1) _ (by omega) hx3.1 hx3.2
    have hrd : rd x0 i = x0[i] := rd_at x0 i hi
    rw [List.drop_eq_getElem_cons hi]
    refine Ev.step (fun k => ?_) (impl_Crc_l1 x0 x0.length i _ 8 0 (Go.bits .xor .i64 r x0[i]) rfl hx2.1 hx2.2 ?_)
    · simp only [impl_Crc.l0]
      rw [if_pos (by omega), if_pos (by omega), if_pos (by omega), hrd, w64 (by omega) (by omega)]
      rfl
    · rw [w64 (by omega) (by omega)]
      exact e
theorem impl_Crc_ev (l : List Int) (hb : l.length ≤ 4611686018427387904) (hx : ∀ x ∈ l, 0 ≤ x ∧ x < 256) : Ev (fun k => impl_Crc.f k l) (crcOf l) := by
  simp only [impl_Crc.f]
  exact impl_Crc_l0 l hb hx l.length 0 4294967295 (by omega) (by omega) (by omega)
/-! Reading a frame. -/
def getB (acc : Int) : List Int → Int
  | [] => acc
  | x :: xs => getB (256 * acc + x) xs
theorem getB_range : ∀ (xs : List Int) (k : Nat) (acc : Int), (∀ x ∈ xs, 0 ≤ x ∧ x < 256) → 0 ≤ acc → acc < 256 ^ k → 0 ≤ getB acc xs ∧ getB acc xs < 256 ^ (k + xs.length)
  | [], k, acc, _, h0, h1 => ⟨h0, h1⟩
  | x :: xs, k, acc, hx, h0, h1 => by
    have hm := hx x List.mem_cons_self
    have hp : (256 : Int) ^ (k + 1) = 256 ^ k * 256 := Int.pow_succ _ _
    have := getB_range xs (k + 1) (256 * acc + x) (fun y hy => hx y (List.mem_cons_of_mem _ hy)) (by omega) (by omega)
    rw [show k + (x :: xs).length = k + 1 + xs.length by simp; omega]
    exact this
def seqOf (f : List Int) : Int := getB 0 ((f.take 4).drop 1)
def cntOf (f : List Int) : Int := getB 0 ((f.take 7).drop 4)
def dataOf (f : List Int) : List Int := (f.take (15 + cntOf f).toNat).drop 15
def frameOn (a : Int) (f : List Int) : Int × List Int × Int × Int :=
  if (f.length : Int) < 11 then (0, [], 0, 2)
  else if rd f 0 = 82 ∧ getB 0 ((f.take 11).drop 7) = crcOf (f.take 7) ∧ seqOf f ≤ 100000 ∧ cntOf f ≤ 4000 then
    (if (f.length : Int) < 15 + cntOf f then (0, [], 0, 4)
     else if getB 0 ((f.take 15).drop 11) = crcOf (dataOf f) then (seqOf f, dataOf f, a + 15 + cntOf f, 0) else (0, [], 0, 5))
  else (0, [], 0, 3)
def frameRead (l : List Int) (a : Int) : Int × List Int × Int × Int := if a < 0 ∨ a > (l.length : Int) then (0, [], 0, 1) else frameOn a (l.drop a.toNat)
theorem pow256 : ((256 : Int) ^ 0 = 1) ∧ ((256 : Int) ^ 1 = 256) ∧ ((256 : Int) ^ 2 = 65536) ∧ ((256 : Int) ^ 3 = 16777216) ∧ ((256 : Int) ^ 4 = 4294967296) := by decide
theorem pow256_le (d : Nat) (h : d ≤ 4) : 1 ≤ (256 : Int) ^ d ∧ (256 : Int) ^ d ≤ 4294967296 := by
  have : d = 0 ∨ d = 1 ∨ d = 2 ∨ d = 3 ∨ d = 4 := by omega
  rcases this with h | h | h | h | h <;> subst h <;> decide
theorem in_take_drop {l : List Int} (hx : ∀ x ∈ l, 0 ≤ x ∧ x < 256) (a b : Nat) : ∀ x ∈ (l.take a).drop b, 0 ≤ x ∧ x < 256 := fun x h => hx x (List.mem_of_mem_take (List.mem_of_mem_drop h))
theorem get3_range {f : List Int} (hx : ∀ x ∈ f, 0 ≤ x ∧ x < 256) (a b : Nat) (h : a - b ≤ 4) : 0 ≤ getB 0 ((f.take a).drop b) ∧ getB 0 ((f.take a).drop b) < 4294967296 := by
  have := getB_range ((f.take a).drop b) 0 0 (in_take_drop hx a b) (by omega) (by decide)
  have hl : ((f.take a).drop b).length ≤ 4 := by
    rw [List.length_drop, List.length_take]
    omega
  have h2 := pow256_le (0 + ((f.take a).drop b).length) (by omega)
  omega
theorem frameRead_length (l : List Int) (a : Int) (hx : ∀ x ∈ l, 0 ≤ x ∧ x < 256) : (frameRead l a).2.1.length ≤ 4000 ∧ (∀ x ∈ (frameRead l a).2.1, 0 ≤ x ∧ x < 256) := by
  unfold frameRead frameOn
  have hd : ∀ x ∈ l.drop a.toNat, 0 ≤ x ∧ x < 256 := fun x h => hx x (List.mem_of_mem_drop h)
  split
  · simp
  · split
    · simp
    · split
      · split
        · simp
        · split
          · rename_i h _ _
            refine ⟨?_, in_take_drop hd _ _⟩
            unfold dataOf
            rw [List.length_drop, List.length_take]
            omega
          · simp
      · simp
theorem spec_l02Get_l0 (l : List Int) (hl : l.length ≤ 4611686018427387904) (hx : ∀ x ∈ l, 0 ≤ x ∧ x < 256) (a n : Nat) (hn : n ≤ 4) (hal : a + n ≤ l.length) : ∀ (d i : Nat) (acc : Int), i + d = a + n → a ≤ i → 0 ≤ acc → acc < 256 ^ (n - d) →
    Ev (fun k => spec_l02Get.l0 k l (a : Int) (n : Int) acc (i : Int)) (getB acc ((l.drop i).take d)) := by
  intro d
  induction d with
  | zero =>
    intro i acc hd hai h0 h1
    refine Ev.step (fun k => (by simp only [spec_l02Get.l0]; exact rfl)) ?_
    exact ev_neg (by rw [w64 (by omega) (by omega)]; omega) (ev_cast (Ev.now _) (by simp [getB]))
  | succ d ih =>
    intro i acc hd hai h0 h1
    have hi : i < l.length := by omega
    have hm := hx _ (List.getElem_mem hi)
    have hp := pow256_le (n - (d + 1)) (by omega)
    have hs : (256 : Int) ^ (n - d) = 256 ^ (n - (d + 1)) * 256 := by
      rw [show n - d = (n - (d + 1)) + 1 by omega, Int.pow_succ]
    refine Ev.step (fun k => (by simp only [spec_l02Get.l0]; exact rfl)) ?_
    refine ev_pos (by rw [w64 (by omega) (by omega)]; omega) (ev_pos (by omega) (ev_pos (by omega) ?_))
    rw [rd_at l i hi, w64 (n := l[i]) (by omega) (by omega), w64 (n := acc * 256) (by omega) (by omega), w64 (n := acc * 256 + l[i]) (by omega) (by omega), w64 (n := (i : Int) + 1) (by omega) (by omega)]
    rw [List.drop_eq_getElem_cons hi, List.take_succ_cons]
    have e := ih (i + 1) (256 * acc + l[i]) (by omega) (by omega) (by omega) (by omega)
    rw [show acc * 256 + l[i] = 256 * acc + l[i] by omega]
    exact e
theorem spec_l02Get_ev (l : List Int) (hl : l.length ≤ 4611686018427387904) (hx : ∀ x ∈ l, 0 ≤ x ∧ x < 256) (a : Int) (i n : Nat) (ha : 0 ≤ a) (hn : n ≤ 4) (hal : a + i + n ≤ l.length) :
    Ev (fun k => spec_l02Get.f k l (wrap64 (a + (i : Int))) (n : Int)) (getB 0 (((l.drop a.toNat).take (i + n)).drop i)) := by
  simp only [spec_l02Get.f]
  rw [w64 (by omega) (by omega), show a + (i : Int) = ((a.toNat + i : Nat) : Int) by omega]
  have e := spec_l02Get_l0 l hl hx (a.toNat + i) n hn (by omega) n (a.toNat + i) 0 (by omega) (by omega) (by omega) (by simp)
  refine ev_cast e ?_
  rw [List.drop_take, List.drop_drop, show i + n - i = n by omega]
theorem spec_FrameRead_ev (l : List Int) (a : Int) (hl : l.length ≤ 140737488353000) (hx : ∀ x ∈ l, 0 ≤ x ∧ x < 256) : Ev (fun k => spec_FrameRead.f k l a) (frameRead l a) := by
  simp only [spec_FrameRead.f]
  have bad : Ev (fun k => spec_FrameRead.j0 k l a true) (0, [], 0, 1) := by
    refine Ev.step (fun k => (by simp only [spec_FrameRead.j0]; exact rfl)) ?_
    exact ev_pos (by trivial) (Ev.now _)
  unfold frameRead
  by_cases h0 : a < 0
  · rw [if_pos (Or.inl h0)]
    exact ev_pos h0 bad
  refine ev_neg h0 ?_
  by_cases h1 : a > (l.length : Int)
  · rw [if_pos (Or.inr h1), decide_eq_true h1]
    exact bad
  rw [if_neg (show ¬ (a < 0 ∨ a > (l.length : Int)) by omega), decide_eq_false h1]
  refine Ev.step (fun k => (by simp only [spec_FrameRead.j0]; exact rfl)) ?_
  refine ev_neg (by simp) ?_
  have hfl : ((l.drop a.toNat).length : Int) = (l.length : Int) - a := by
    rw [List.length_drop]
    omega
  rw [w64 (n := (l.length : Int) - a) (by omega) (by omega)]
  generalize hf : l.drop a.toNat = f at *
  have hfx : ∀ x ∈ f, 0 ≤ x ∧ x < 256 := fun x h => by
    rw [← hf] at h
    exact hx x (List.mem_of_mem_drop h)
  have hget : ∀ (i n : Nat), n ≤ 4 → (i : Int) + n ≤ (f.length : Int) → Ev (fun k => spec_l02Get.f k l (wrap64 (a + (i : Int))) (n : Int)) (getB 0 ((f.take (i + n)).drop i)) := fun i n hn h => by
    have e := spec_l02Get_ev l (by omega) hx a i n (by omega) hn (by omega)
    rw [hf] at e
    exact e
  unfold frameOn
  by_cases h2 : (f.length : Int) < 11
  · exact ev_pos (by omega) (ev_cast (Ev.now _) (by rw [if_pos h2]))
  refine ev_neg (by omega) ?_
  have hs := get3_range hfx 4 1 (by omega)
  have hc := get3_range hfx 7 4 (by omega)
  refine Ev.bind (hget 1 3 (by omega) (by omega)) (Ev.bind (hget 4 3 (by omega) (by omega)) ?_)
  refine ev_pos (by omega) (ev_pos (by omega) ?_)
  have hrd : rd l a = rd f 0 := by
    have hl0 : 0 < f.length := by omega
    have hal : a.toNat < l.length := by omega
    rw [show a = ((a.toNat : Nat) : Int) by omega, rd_at l a.toNat hal, show (0 : Int) = ((0 : Nat) : Int) by rfl, rd_at f 0 hl0]
    subst hf
    simp
  have three : ∀ s c : Int, Ev (fun k => spec_FrameRead.j1 k l a s c true) (0, [], 0, 3) := fun s c => by
    refine Ev.step (fun k => (by simp only [spec_FrameRead.j1]; exact rfl)) ?_
    exact ev_pos (by trivial) (Ev.now _)
  rw [hrd]
  by_cases h3 : rd f 0 = 82
  · refine ev_pos h3 ?_
    refine Ev.bind (hget 7 4 (by omega) (by omega)) ?_
    rw [w64 (n := a + 7) (by omega) (by omega)]
    refine ev_pos (by omega) (ev_pos (by omega) ?_)
    have h7 : (l.take (a + 7 : Int).toNat).drop (a : Int).toNat = f.take 7 := by
      rw [List.drop_take, hf, show (a + 7 : Int).toNat - a.toNat = 7 by omega]
    rw [h7]
    refine Ev.bind (spec_Crc_ev (f.take 7) (by rw [List.length_take]; omega) (fun x h => hfx x (List.mem_of_mem_take h))) ?_
    by_cases h4 : getB 0 ((f.take 11).drop 7) = crcOf (f.take 7)
    · refine ev_pos h4 ?_
      by_cases h5 : seqOf f > 100000
      · refine ev_pos h5 ?_
        rw [if_neg h2, if_neg (by omega)]
        exact three _ _
      · refine ev_neg h5 ?_
        by_cases h6 : cntOf f > 4000
        · rw [show decide (getB 0 ((f.take (4 + 3)).drop 4) > 4000) = true from decide_eq_true h6, if_neg h2, if_neg (by omega)]
          exact three _ _
        · rw [show decide (getB 0 ((f.take (4 + 3)).drop 4) > 4000) = false from decide_eq_false h6, if_neg h2, if_pos (show rd f 0 = 82 ∧ getB 0 ((f.take 11).drop 7) = crcOf (f.take 7) ∧ seqOf f ≤ 100000 ∧ cntOf f ≤ 4000 from ⟨h3, h4, by omega, by omega⟩)]
          have hc' : 0 ≤ cntOf f := hc.1
          change Ev (fun k => spec_FrameRead.j1 k l a (seqOf f) (cntOf f) false) _
          refine Ev.step (fun k => (by simp only [spec_FrameRead.j1]; exact rfl)) ?_
          refine ev_neg (by simp) ?_
          rw [w64 (n := (l.length : Int) - a) (by omega) (by omega), w64 (n := (l.length : Int) - a - 15) (by omega) (by omega)]
          by_cases h7 : (f.length : Int) < 15 + cntOf f
          · exact ev_pos (by omega) (ev_cast (Ev.now _) (by rw [if_pos h7]))
          · refine ev_neg (by omega) ?_
            rw [if_neg h7]
            refine ev_call rfl ?_
            rw [w64 (n := a + 15) (by omega) (by omega), w64 (n := a + 15 + cntOf f) (by omega) (by omega)]
            refine ev_pos (by omega) (ev_pos (by omega) (ev_pos (by omega) ?_))
            have hdt : (l.take (a + 15 + cntOf f : Int).toNat).drop (a + 15 : Int).toNat = dataOf f := by
              unfold dataOf
              rw [List.drop_take, List.drop_take, ← hf, List.drop_drop, show a.toNat + 15 = (a + 15).toNat by omega, hf, show (a + 15 + cntOf f).toNat - (a + 15).toNat = (15 + cntOf f).toNat - 15 by omega]
            rw [hdt]
            have hdl : (dataOf f).length ≤ 4000 := by
              unfold dataOf
              rw [List.length_drop, List.length_take]
              omega
            refine ev_pos (by simp; omega) ?_
            refine ev_call rfl ?_
            rw [List.nil_append]
            refine Ev.bind (hget 11 4 (by omega) (by omega)) ?_
            refine Ev.bind (spec_Crc_ev (dataOf f) (by omega) (in_take_drop hfx _ _)) ?_
            by_cases h8 : getB 0 ((f.take 15).drop 11) = crcOf (dataOf f)
            · exact ev_pos h8 (ev_cast (Ev.now _) (by rw [if_pos h8]))
            · exact ev_neg h8 (ev_cast (Ev.now _) (by rw [if_neg h8]))
    · refine ev_neg h4 ?_
      rw [if_neg h2, if_neg (fun h => h4 h.2.1)]
      exact three _ _
  · refine ev_neg h3 ?_
    rw [if_neg h2, if_neg (fun h => h3 h.1)]
    exact three _ _
theorem impl_getBytes_l0 (l : List Int) (hl : l.length ≤ 4) (hx : ∀ x ∈ l, 0 ≤ x ∧ x < 256) : ∀ (d i : Nat) (acc : Int), i + d = l.length → 0 ≤ acc → acc < 256 ^ i →
    Ev (fun k => impl_getBytes.l0 k acc l (l.length : Int) (i : Int)) (getB acc (l.drop i)) := by
  intro d
  induction d with
  | zero =>
    intro i acc hd h0 h1
    refine Ev.step (fun k => (by simp only [impl_getBytes.l0]; exact rfl)) ?_
    refine ev_neg (by omega) (ev_cast (Ev.now _) ?_)
    rw [List.drop_of_length_le (by omega)]
    rfl
  | succ d ih =>
    intro i acc hd h0 h1
    have hi : i < l.length := by omega
    have hm := hx _ (List.getElem_mem hi)
    have hp := pow256_le i (by omega)
    have hs : (256 : Int) ^ (i + 1) = 256 ^ i * 256 := Int.pow_succ _ _
    refine Ev.step (fun k => (by simp only [impl_getBytes.l0]; exact rfl)) ?_
    refine ev_pos (by omega) (ev_pos (by omega) (ev_pos (by omega) ?_))
    rw [rd_at l i hi, w64 (n := l[i]) (by omega) (by omega), w64 (n := 256 * acc) (by omega) (by omega), w64 (n := 256 * acc + l[i]) (by omega) (by omega), w64 (n := (i : Int) + 1) (by omega) (by omega)]
    rw [List.drop_eq_getElem_cons hi]
    exact ih (i + 1) (256 * acc + l[i]) (by omega) (by omega) (by omega)
theorem impl_getBytes_ev (l : List Int) (hl : l.length ≤ 4) (hx : ∀ x ∈ l, 0 ≤ x ∧ x < 256) : Ev (fun k => impl_getBytes.f k l) (getB 0 l) := by
  simp only [impl_getBytes.f]
  exact impl_getBytes_l0 l hl hx l.length 0 0 (by omega) (by omega) (by simp)
theorem impl_FrameRead_ev (l : List Int) (a : Int) (hl : l.length ≤ 140737488353000) (hx : ∀ x ∈ l, 0 ≤ x ∧ x < 256) : Ev (fun k => impl_FrameRead.f k l a) (frameRead l a) := by
  simp only [impl_FrameRead.f]
  have bad : Ev (fun k => impl_FrameRead.j0 k l a true) (0, [], 0, 1) := by
    refine Ev.step (fun k => (by simp only [impl_FrameRead.j0]; exact rfl)) ?_
    exact ev_pos (by trivial) (Ev.now _)
  unfold frameRead
  by_cases h0 : a < 0
  · rw [if_pos (Or.inl h0)]
    exact ev_pos h0 bad
  refine ev_neg h0 ?_
  by_cases h1 : a > (l.length : Int)
  · rw [if_pos (Or.inr h1), decide_eq_true h1]
    exact bad
  rw [if_neg (show ¬ (a < 0 ∨ a > (l.length : Int)) by omega), decide_eq_false h1]
  refine Ev.step (fun k => (by simp only [impl_FrameRead.j0]; exact rfl)) ?_
  refine ev_neg (by simp) (ev_pos (by omega) (ev_pos (by omega) ?_))
  have hfx0 : ∀ x ∈ l.drop a.toNat, 0 ≤ x ∧ x < 256 := fun x h => hx x (List.mem_of_mem_drop h)
  have hfl0 : (l.drop a.toNat).length ≤ l.length := by rw [List.length_drop]; omega
  have hfl1 : ((l.drop a.toNat).length : Int) = (l.length : Int) - a := by rw [List.length_drop]; omega
  generalize l.drop a.toNat = f at *
  have hget : ∀ (i j : Nat), j - i ≤ 4 → Ev (fun k => impl_getBytes.f k ((f.take j).drop i)) (getB 0 ((f.take j).drop i)) := fun i j h =>
    impl_getBytes_ev _ (by rw [List.length_drop, List.length_take]; omega) (in_take_drop hfx0 j i)
  unfold frameOn
  by_cases h2 : (f.length : Int) < 11
  · exact ev_pos h2 (ev_cast (Ev.now _) (by rw [if_pos h2]))
  refine ev_neg h2 ?_
  have hs := get3_range hfx0 4 1 (by omega)
  have hc := get3_range hfx0 7 4 (by omega)
  have three : ∀ s c : Int, Ev (fun k => impl_FrameRead.j1 k a f s c true) (0, [], 0, 3) := fun s c => by
    refine Ev.step (fun k => (by simp only [impl_FrameRead.j1]; exact rfl)) ?_
    exact ev_pos (by trivial) (Ev.now _)
  refine ev_pos (by omega) (ev_pos (by omega) (Ev.bind (hget 1 4 (by omega)) ?_))
  refine ev_pos (by omega) (ev_pos (by omega) (Ev.bind (hget 4 7 (by omega)) ?_))
  refine ev_pos (by omega) ?_
  by_cases h3 : rd f 0 = 82
  · refine ev_pos h3 (ev_pos (by omega) (ev_pos (by omega) (Ev.bind (hget 7 11 (by omega)) ?_)))
    refine Ev.bind (impl_Crc_ev (f.take 7) (by rw [List.length_take]; omega) (fun x h => hfx0 x (List.mem_of_mem_take h))) ?_
    by_cases h4 : getB 0 ((f.take 11).drop 7) = crcOf (f.take 7)
    · refine ev_pos h4 ?_
      by_cases h5 : seqOf f > 100000
      · refine ev_pos h5 ?_
        rw [if_neg h2, if_neg (by omega)]
        exact three _ _
      · refine ev_neg h5 ?_
        by_cases h6 : cntOf f > 4000
        · rw [show decide (getB 0 ((f.take 7).drop 4) > 4000) = true from decide_eq_true h6, if_neg h2, if_neg (by omega)]
          exact three _ _
        · rw [show decide (getB 0 ((f.take 7).drop 4) > 4000) = false from decide_eq_false h6, if_neg h2, if_pos (show rd f 0 = 82 ∧ getB 0 ((f.take 11).drop 7) = crcOf (f.take 7) ∧ seqOf f ≤ 100000 ∧ cntOf f ≤ 4000 from ⟨h3, h4, by omega, by omega⟩)]
          have hc' : 0 ≤ cntOf f := hc.1
          change Ev (fun k => impl_FrameRead.j1 k a f (seqOf f) (cntOf f) false) _
          refine Ev.step (fun k => (by simp only [impl_FrameRead.j1]; exact rfl)) ?_
          refine ev_neg (by simp) ?_
          rw [w64 (n := 15 + cntOf f) (by omega) (by omega)]
          by_cases h7 : (f.length : Int) < 15 + cntOf f
          · exact ev_pos (by omega) (ev_cast (Ev.now _) (by rw [if_pos h7]))
          · refine ev_neg (by omega) ?_
            rw [if_neg h7]
            have hdl : (dataOf f).length ≤ 4000 := by
              unfold dataOf
              rw [List.length_drop, List.length_take]
              omega
            refine ev_pos (by omega) (ev_pos (by omega) (ev_pos (by omega) (ev_pos (by omega) ?_)))
            refine Ev.bind (hget 11 15 (by omega)) ?_
            change Ev (fun n => (impl_Crc.f n (dataOf f)).bind _) _
            refine Ev.bind (impl_Crc_ev (dataOf f) (by omega) (in_take_drop hfx0 _ _)) ?_
            by_cases h8 : getB 0 ((f.take 15).drop 11) = crcOf (dataOf f)
            · refine ev_pos h8 ?_
              change Ev (fun n => (slices_Clone_byte_byte.f (dataOf f)).bind _) _
              refine ev_call (by unfold slices_Clone_byte_byte.f; rw [if_pos (by omega)]) (ev_cast (Ev.now _) ?_)
              rw [if_pos h8, w64 (n := a + 15) (by omega) (by omega), w64 (n := a + 15 + cntOf f) (by omega) (by omega)]
            · exact ev_neg h8 (ev_cast (Ev.now _) (by rw [if_neg h8]))
    · refine ev_neg h4 ?_
      rw [if_neg h2, if_neg (fun h => h4 h.2.1)]
      exact three _ _
  · refine ev_neg h3 ?_
    rw [if_neg h2, if_neg (fun h => h3 h.1)]
    exact three _ _
/-! Scanning: both go on the same way. What is read so far counts by how many there are. -/
theorem frame_next (l : List Int) (a : Int) (hx : ∀ x ∈ l, 0 ≤ x ∧ x < 256) (h : (frameRead l a).2.2.2 = 0) : a < (l.length : Int) ∧ 0 ≤ a ∧ a + 15 ≤ (frameRead l a).2.2.1 ∧ (frameRead l a).2.2.1 ≤ l.length := by
  unfold frameRead at h ⊢
  by_cases h0 : a < 0 ∨ a > (l.length : Int)
  · rw [if_pos h0] at h
    simp at h
  rw [if_neg h0] at h ⊢
  have hfl : ((l.drop a.toNat).length : Int) = (l.length : Int) - a := by rw [List.length_drop]; omega
  have hfx : ∀ x ∈ l.drop a.toNat, 0 ≤ x ∧ x < 256 := fun x h => hx x (List.mem_of_mem_drop h)
  generalize l.drop a.toNat = f at *
  have hc := (get3_range hfx 7 4 (by omega)).1
  have hc' : 0 ≤ cntOf f := hc
  unfold frameOn at h ⊢
  by_cases h2 : (f.length : Int) < 11
  · rw [if_pos h2] at h
    simp at h
  rw [if_neg h2] at h ⊢
  split at h
  · rename_i h3
    rw [if_pos h3]
    split at h
    · simp at h
    · rename_i h4
      rw [if_neg h4]
      split at h
      · rename_i h5
        rw [if_pos h5]
        simp
        omega
      · simp at h
  · simp at h
theorem scan_same (l : List Int) (hl : l.length ≤ 1048576) (hx : ∀ x ∈ l, 0 ≤ x ∧ x < 256) : ∀ (d : Nat) (a : Nat) (out : List S53), a + d = l.length → out.length ≤ a →
    ∃ r, Ev (fun k => spec_Scan.l0 k l out (a : Int)) r ∧ Ev (fun k => impl_Scan.l0 k l out (a : Int)) r := by
  intro d
  induction d using Nat.strongRecOn with
  | ind d ih =>
    intro a out hd ho
    have hs := spec_FrameRead_ev l a (by omega) hx
    have hi := impl_FrameRead_ev l a (by omega) hx
    have hn := frame_next l a hx
    have hlen := (frameRead_length l a hx).1
    by_cases hend : (a : Int) < (l.length : Int)
    · -- not at the end
      have spec_step : ∀ r b, Ev (fun k => spec_Scan.j1 k l out (a : Int) (frameRead l a).1 (frameRead l a).2.1 (frameRead l a).2.2.1 (frameRead l a).2.2.2 b) r →
          (b = true ↔ (frameRead l a).2.2.2 = 2 ∨ (frameRead l a).2.2.2 = 4) → Ev (fun k => spec_Scan.l0 k l out (a : Int)) r := by
        intro r b e hb
        refine Ev.step (fun k => (by simp only [spec_Scan.l0]; exact rfl)) ?_
        refine ev_pos hend (Ev.bind hs ?_)
        by_cases h2 : (frameRead l a).2.2.2 = 2
        · obtain rfl : b = true := hb.2 (Or.inl h2)
          exact ev_pos h2 e
        · refine ev_neg h2 ?_
          have : ((frameRead l a).2.2.2 == 4) = b := by
            cases b with
            | true => simp; exact (hb.1 rfl).resolve_left h2
            | false => simp; intro h4; have := hb.2 (Or.inr h4); simp at this
          rw [this]
          exact e
      have impl_step : ∀ r b, Ev (fun k => impl_Scan.j1 k l out (a : Int) (frameRead l a).2.1 (frameRead l a).2.2.1 (frameRead l a).2.2.2 b) r →
          (b = true ↔ (frameRead l a).2.2.2 = 0 ∧ (frameRead l a).1 = (out.length : Int)) → Ev (fun k => impl_Scan.l0 k l out (a : Int)) r := by
        intro r b e hb
        refine Ev.step (fun k => (by simp only [impl_Scan.l0]; exact rfl)) ?_
        refine Ev.bind hi ?_
        by_cases h0 : (frameRead l a).2.2.2 = 0
        · refine ev_pos h0 ?_
          have : ((frameRead l a).1 == (out.length : Int)) = b := by
            cases b with
            | true => simp; exact (hb.1 rfl).2
            | false => simp; intro h4; have := hb.2 ⟨h0, h4⟩; simp at this
          rw [this]
          exact e
        · refine ev_neg h0 ?_
          have : false = b := by
            cases b with
            | true => exact absurd (hb.1 rfl).1 h0
            | false => rfl
          rw [this]
          exact e
      have hne : ¬ ((a : Int) = (l.length : Int)) := by omega
      by_cases hgo : (frameRead l a).2.2.2 = 0 ∧ (frameRead l a).1 = (out.length : Int)
      · have hx2 := hn hgo.1
        obtain ⟨r, e1, e2⟩ := ih (l.length - (frameRead l a).2.2.1.toNat) (by omega) (frameRead l a).2.2.1.toNat (out ++ [⟨(frameRead l a).2.1⟩]) (by omega) (by simp; omega)
        rw [show (((frameRead l a).2.2.1.toNat : Nat) : Int) = (frameRead l a).2.2.1 by omega] at e1 e2
        refine ⟨r, spec_step r false ?_ (by simp; omega), impl_step r true ?_ (by simp [hgo])⟩
        · refine Ev.step (fun k => (by simp only [spec_Scan.j1]; exact rfl)) ?_
          exact ev_neg (by simp) (ev_pos hgo.1 (ev_pos hgo.2 (ev_pos (by omega) e1)))
        · refine Ev.step (fun k => (by simp only [impl_Scan.j1]; exact rfl)) ?_
          exact ev_pos (by trivial) (ev_pos (by omega) e2)
      · by_cases ht : (frameRead l a).2.2.2 = 2 ∨ (frameRead l a).2.2.2 = 4
        · refine ⟨(out, (a : Int), 1), spec_step _ true ?_ (by simp [ht]), impl_step _ false ?_ (by simp; omega)⟩
          · refine Ev.step (fun k => (by simp only [spec_Scan.j1]; exact rfl)) ?_
            exact ev_pos (by trivial) (Ev.now _)
          · refine Ev.step (fun k => (by simp only [impl_Scan.j1]; exact rfl)) ?_
            refine ev_neg (by simp) (ev_neg hne ?_)
            by_cases h2 : (frameRead l a).2.2.2 = 2
            · exact ev_pos h2 (Ev.now _)
            · exact ev_neg h2 (ev_pos (ht.resolve_left h2) (Ev.now _))
        · refine ⟨(out, (a : Int), 2), spec_step _ false ?_ (by simp; omega), impl_step _ false ?_ (by simp; omega)⟩
          · refine Ev.step (fun k => (by simp only [spec_Scan.j1]; exact rfl)) ?_
            refine ev_neg (by simp) ?_
            by_cases h0 : (frameRead l a).2.2.2 = 0
            · exact ev_pos h0 (ev_neg (fun h => hgo ⟨h0, h⟩) (Ev.now _))
            · exact ev_neg h0 (Ev.now _)
          · refine Ev.step (fun k => (by simp only [impl_Scan.j1]; exact rfl)) ?_
            exact ev_neg (by simp) (ev_neg hne (ev_neg (fun h => ht (Or.inl h)) (ev_neg (fun h => ht (Or.inr h)) (Ev.now _))))
    · -- at the end
      refine ⟨(out, (a : Int), 0), ?_, ?_⟩
      · refine Ev.step (fun k => (by simp only [spec_Scan.l0]; exact rfl)) ?_
        exact ev_neg hend (Ev.now _)
      · have h0 : ¬ (frameRead l a).2.2.2 = 0 := fun h => by have := hn h; omega
        refine Ev.step (fun k => (by simp only [impl_Scan.l0]; exact rfl)) ?_
        refine Ev.bind hi (ev_neg h0 ?_)
        refine Ev.step (fun k => (by simp only [impl_Scan.j1]; exact rfl)) ?_
        exact ev_neg (by simp) (ev_pos (by omega) (Ev.now _))
theorem FnExactWhole : laws_FnExactWhole.Pure := by
  intro l hl hl2 hw
  have hx : ∀ x ∈ l, 0 ≤ x ∧ x < 256 := fun x h => wf_u8 (hw x h)
  refine Ev.rounds (g := fun k => laws_FnExactWhole.f k l) ?_
  simp only [laws_FnExactWhole.f]
  by_cases h : (l.length : Int) > 1048576
  · exact ev_pos h (Ev.now _)
  refine ev_neg h ?_
  have t := toByteS_ev l (by omega)
  obtain ⟨r, e1, e2⟩ := scan_same l (by omega) hx l.length 0 [] (by omega) (by simp)
  have s1 : Ev (fun k => spec_Whole.f k l) (r.2.2 == 0) := by
    simp only [spec_Whole.f, spec_Scan.f]
    exact Ev.bind e1 (Ev.now _)
  have s2 : Ev (fun k => impl_Whole.f k l) (r.2.2 == 0) := by
    simp only [impl_Whole.f, impl_Scan.f]
    exact Ev.bind e2 (Ev.now _)
  refine Ev.bind t (Ev.bind s1 (Ev.bind t (Ev.bind s2 (ev_neg (by simp) (Ev.bind t (Ev.bind (eqByteS_ev l (by omega)) (ev_pos rfl (Ev.now _))))))))

end Go.Proofs.Ytcpmdkopbhddkaa.Pure
