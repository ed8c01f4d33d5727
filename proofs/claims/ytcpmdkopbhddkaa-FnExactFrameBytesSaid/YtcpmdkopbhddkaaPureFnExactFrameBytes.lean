/- The program's FrameBytes answers as the reference's, for every int and every list of bytes; it leaves the list as it was, and its answer is new memory; no condition. -/
import Derived.Test.YtcpmdkopbhddkaaPFnExactFrameBytesx3
import Derived.Test.YtcpmdkopbhddkaaCom
namespace Go.Proofs.Ytcpmdkopbhddkaa.Pure
open Go.RowKit Go.Proofs.Ytcpmdkopbhddkaa.PFnExactFrameBytes Go.Proofs.YtcpmdkopbhddkaaW.PrintWords Go.Proofs.YtcpmdkopbhddkaaW.PrintLast Go.Proofs.Ytcpmdkopbhddkaa.Com

/-! Copies of bytes, and their comparison with themselves. -/
theorem toByteS_l0 (x0 : List Int) (hb : x0.length ≤ 4611686018427387904) : ∀ (d i : Nat) (x3 : List Int), i + d = x0.length → x3.length = x0.length →
    Ev (fun k => laws_toByteS.l0 k x0 x3 (i : Int)) (x3.take i ++ x0.drop i) := by
  intro d
  induction d with
  | zero =>
    intro i x3 hd h3
    refine ev_one fun k => ?_
    simp only [laws_toByteS.l0]
    rw [if_neg (by omega), List.take_of_length_le (by omega), List.drop_of_length_le (by omega), List.append_nil]
  | succ d ih =>
    intro i x3 hd h3
    have e := ih (i + 1) (x3.set i (rd x0 i)) (by omega) (by simpa using h3)
    have hs := set_mid x0 x3 i 0 (by omega) h3
    refine Ev.step (fun k => ?_) (ev_cast e (show _ = x3.take i ++ x0.drop i from hs))
    simp only [laws_toByteS.l0]
    rw [if_pos (by omega), if_pos (by omega), if_pos (by omega), w64 (by omega) (by omega)]
    rfl
theorem toByteS_ev (l : List Int) (hb : l.length ≤ 281474976710656) : Ev (fun k => laws_toByteS.f k l) l := by
  simp only [laws_toByteS.f]
  refine ev_pos (by omega) (ev_pos (by omega) ?_)
  exact ev_cast (toByteS_l0 l (by omega) l.length 0 _ (by omega) (by simp)) (by simp)
theorem eqByteS_l0 (x : List Int) (hb : x.length ≤ 4611686018427387904) : ∀ (d i : Nat), i + d = x.length → Ev (fun k => laws_eqByteS.l0 k x x (i : Int)) true := by
  intro d
  induction d with
  | zero =>
    intro i hd
    refine ev_one fun k => ?_
    simp only [laws_eqByteS.l0]
    rw [if_neg (by omega)]
  | succ d ih =>
    intro i hd
    refine Ev.step (fun k => ?_) (ih (i + 1) (by omega))
    simp only [laws_eqByteS.l0]
    rw [if_pos (by omega), if_pos (by omega), if_pos (by omega), if_pos trivial, w64 (by omega) (by omega)]
    rfl
theorem eqByteS_ev (l : List Int) (hb : l.length ≤ 281474976710656) : Ev (fun k => laws_eqByteS.f k l l) true := by
  simp only [laws_eqByteS.f]
  exact ev_pos (by trivial) (eqByteS_l0 l (by omega) l.length 0 (by omega))
/-! Bytes that are marked, and looked at again. -/
def marksB (k : Int) : Nat → List Int
  | 0 => []
  | n + 1 => (k % 256) :: marksB (k + 1) n
theorem marksB_length : ∀ (n : Nat) (k : Int), (marksB k n).length = n
  | 0, _ => rfl
  | n + 1, k => by simp [marksB, marksB_length n]
theorem marksB_at : ∀ (n : Nat) (k : Int) (i : Nat) (h : i < (marksB k n).length), (marksB k n)[i] = (k + i) % 256
  | 0, _, i, h => by simp [marksB] at h
  | n + 1, k, 0, _ => by simp [marksB]
  | n + 1, k, i + 1, h => by
    have := marksB_at n (k + 1) i (by simpa [marksB] using h)
    simp only [marksB, List.getElem_cons_succ, this]
    congr 1
    omega
theorem markByteS_l0 (k0 : Int) (n : Nat) (hn : n ≤ 4611686018427387904) (h0 : 0 ≤ k0) (h1 : k0 ≤ 4611686018427387903) : ∀ (d i : Nat) (x : List Int), i + d = n → x.length = n →
    Ev (fun k => laws_markByteS.l0 k x (k0 + i) (i : Int)) (k0 + n, x.take i ++ marksB (k0 + i) d) := by
  intro d
  induction d with
  | zero =>
    intro i x hd hx
    refine ev_one fun k => ?_
    simp only [laws_markByteS.l0]
    rw [if_neg (by omega), List.take_of_length_le (by omega)]
    have : i = n := by omega
    subst this
    simp [marksB]
  | succ d ih =>
    intro i x hd hx
    have e := ih (i + 1) (x.set i ((k0 + i) % 256)) (by omega) (by simpa using hx)
    refine Ev.step (fun k => ?_) (ev_cast e ?_)
    · simp only [laws_markByteS.l0]
      rw [if_pos (by omega), if_pos (by omega), w64 (n := k0 + (i : Int) + 1) (by omega) (by omega), w64 (n := (i : Int) + 1) (by omega) (by omega)]
      have : (k0 + ((i + 1 : Nat) : Int)) = k0 + (i : Int) + 1 := by omega
      rw [this]
      rfl
    · congr 1
      have h2 : (x.set i ((k0 + i) % 256)).take (i + 1) = x.take i ++ [(k0 + i) % 256] := by
        rw [List.take_add_one, List.take_set_of_le (Nat.le_refl i), List.getElem?_set_self (by omega)]
        rfl
      rw [h2, List.append_assoc]
      congr 1
      have : (k0 + ((i + 1 : Nat) : Int)) = k0 + (i : Int) + 1 := by omega
      rw [this]
      rfl
theorem markByteS_ev (l : List Int) (k0 : Int) (hn : l.length ≤ 281474976710656) (h0 : 0 ≤ k0) (h1 : k0 ≤ 4611686018427387903) : Ev (fun k => laws_markByteS.f k l k0) (k0 + l.length, marksB k0 l.length) := by
  simp only [laws_markByteS.f]
  have e := markByteS_l0 k0 l.length (by omega) h0 h1 l.length 0 l (by omega) rfl
  simpa using e
theorem heldByteS_l0 (k0 : Int) (n : Nat) (hn : n ≤ 4611686018427387904) (h0 : 0 ≤ k0) (h1 : k0 ≤ 4611686018427387903) : ∀ (d i : Nat), i + d = n →
    Ev (fun k => laws_heldByteS.l0 k (marksB k0 n) (k0 + i) (i : Int)) (k0 + n) := by
  intro d
  have hl := marksB_length n k0
  induction d with
  | zero =>
    intro i hd
    refine ev_one fun k => ?_
    simp only [laws_heldByteS.l0]
    rw [if_neg (by omega)]
    have : i = n := by omega
    subst this
    rfl
  | succ d ih =>
    intro i hd
    refine Ev.step (fun k => ?_) (ih (i + 1) (by omega))
    simp only [laws_heldByteS.l0]
    have hr : rd (marksB k0 n) i = (k0 + i) % 256 := by rw [rd_at _ i (by omega), marksB_at]
    rw [if_pos (by omega), if_pos (by omega), if_pos hr, w64 (n := k0 + (i : Int) + 1) (by omega) (by omega), w64 (n := (i : Int) + 1) (by omega) (by omega)]
    have : (k0 + ((i + 1 : Nat) : Int)) = k0 + (i : Int) + 1 := by omega
    rw [this]
    rfl
theorem heldByteS_ev (n : Nat) (k0 : Int) (hn : n ≤ 281474976710656) (h0 : 0 ≤ k0) (h1 : k0 ≤ 4611686018427387903) : Ev (fun k => laws_heldByteS.f k (marksB k0 n) k0) (k0 + n) := by
  simp only [laws_heldByteS.f]
  have e := heldByteS_l0 k0 n (by omega) h0 h1 n 0 (by omega)
  simpa using e
/-! The sum of bytes: both programs make the same steps. -/
def crcBit (r : Int) : Int := if r % 2 = 1 then Go.bits .xor .i64 (r / 2) 3988292384 else r / 2
def crcBits : Nat → Int → Int
  | 0, r => r
  | n + 1, r => crcBits n (crcBit r)
def crcAll : List Int → Int → Int
  | [], r => r
  | x :: xs, r => crcAll xs (crcBits 8 (Go.bits .xor .i64 r x))
def crcOf (l : List Int) : Int := Go.bits .xor .i64 (crcAll l 4294967295) 4294967295
theorem crcBit_range {r : Int} (h0 : 0 ≤ r) (h1 : r < 4294967296) : 0 ≤ crcBit r ∧ crcBit r < 4294967296 := by
  unfold crcBit
  split
  · exact xor32 (by omega) (by omega) (by omega) (by omega)
  · omega
theorem crcBits_range : ∀ (n : Nat) {r : Int}, 0 ≤ r → r < 4294967296 → 0 ≤ crcBits n r ∧ crcBits n r < 4294967296
  | 0, _, h0, h1 => ⟨h0, h1⟩
  | n + 1, _, h0, h1 => crcBits_range n (crcBit_range h0 h1).1 (crcBit_range h0 h1).2
theorem crcAll_range : ∀ (l : List Int) {r : Int}, (∀ x ∈ l, 0 ≤ x ∧ x < 256) → 0 ≤ r → r < 4294967296 → 0 ≤ crcAll l r ∧ crcAll l r < 4294967296
  | [], _, _, h0, h1 => ⟨h0, h1⟩
  | x :: xs, _, hx, h0, h1 => by
    have hx' := hx x List.mem_cons_self
    have h := xor32 h0 h1 hx'.1 (by omega)
    have h2 := crcBits_range 8 h.1 h.2
    exact crcAll_range xs (fun y hy => hx y (List.mem_cons_of_mem _ hy)) h2.1 h2.2
theorem crcOf_range {l : List Int} (h : ∀ x ∈ l, 0 ≤ x ∧ x < 256) : 0 ≤ crcOf l ∧ crcOf l < 4294967296 := by
  have h1 := crcAll_range l h (r := 4294967295) (by omega) (by omega)
  exact xor32 h1.1 h1.2 (by omega) (by omega)
theorem spec_Crc_l1 (x0 : List Int) (i : Int) (v : Int) : ∀ (d j : Nat) (r : Int), j + d = 8 → 0 ≤ r → r < 4294967296 →
    Ev (fun k => spec_Crc.l0 k x0 (crcBits d r) (wrap64 (i + 1))) v → Ev (fun k => spec_Crc.l1 k x0 r i (j : Int)) v := by
  intro d
  induction d with
  | zero =>
    intro j r hj h0 h1 e
    refine Ev.step (fun k => ?_) e
    simp only [spec_Crc.l1]
    rw [if_neg (by omega)]
    rfl
  | succ d ih =>
    intro j r hj h0 h1 e
    have hr := crcBit_range h0 h1
    refine Ev.step (fun k => ?_) (ih (j + 1) (crcBit r) (by omega) hr.1 hr.2 e)
    simp only [spec_Crc.l1]
    rw [if_pos (by omega), tmod_pos h0, tdiv_pos h0, w64 (n := r / 2) (by omega) (by omega), w64 (n := (j : Int) + 1) (by omega) (by omega)]
    unfold crcBit
    split <;> rfl
theorem spec_Crc_l0 (x0 : List Int) (hb : x0.length ≤ 4611686018427387904) (hx : ∀ x ∈ x0, 0 ≤ x ∧ x < 256) : ∀ (d i : Nat) (r : Int), i + d = x0.length → 0 ≤ r → r < 4294967296 →
    Ev (fun k => spec_Crc.l0 k x0 r (i : Int)) (Go.bits .xor .i64 (crcAll (x0.drop i) r) 4294967295) := by
  intro d
  induction d with
  | zero =>
    intro i r hd h0 h1
    refine ev_one fun k => ?_
    simp only [spec_Crc.l0]
    rw [if_neg (by omega), List.drop_of_length_le (by omega)]
    rfl
  | succ d ih =>
    intro i r hd h0 h1
    have hi : i < x0.length := by omega
    have hm := hx _ (List.getElem_mem hi)
    have hx2 := xor32 h0 h1 hm.1 (by omega)
    have hx3 := crcBits_range 8 hx2.1 hx2.2
    have e := ih (i + 1) _ (by omega) hx3.1 hx3.2
    have hrd : rd x0 i = x0[i] := rd_at x0 i hi
    rw [List.drop_eq_getElem_cons hi]
    refine Ev.step (fun k => ?_) (spec_Crc_l1 x0 i _ 8 0 (Go.bits .xor .i64 r x0[i]) rfl hx2.1 hx2.2 ?_)
    · simp only [spec_Crc.l0]
      rw [if_pos (by omega), if_pos (by omega), hrd, w64 (by omega) (by omega)]
      rfl
    · rw [w64 (by omega) (by omega)]
      exact e
theorem spec_Crc_ev (l : List Int) (hb : l.length ≤ 4611686018427387904) (hx : ∀ x ∈ l, 0 ≤ x ∧ x < 256) : Ev (fun k => spec_Crc.f k l) (crcOf l) := by
  simp only [spec_Crc.f]
  exact spec_Crc_l0 l hb hx l.length 0 4294967295 (by omega) (by omega) (by omega)
theorem impl_Crc_l1 (x0 : List Int) (n i : Int) (v : Int) : ∀ (d j : Nat) (r : Int), j + d = 8 → 0 ≤ r → r < 4294967296 →
    Ev (fun k => impl_Crc.l0 k (crcBits d r) x0 n (wrap64 (i + 1))) v → Ev (fun k => impl_Crc.l1 k r x0 n i (j : Int)) v := by
  intro d
  induction d with
  | zero =>
    intro j r hj h0 h1 e
    refine Ev.step (fun k => ?_) e
    simp only [impl_Crc.l1]
    rw [if_neg (by omega)]
    rfl
  | succ d ih =>
    intro j r hj h0 h1 e
    have hr := crcBit_range h0 h1
    refine Ev.step (fun k => ?_) (ih (j + 1) (crcBit r) (by omega) hr.1 hr.2 e)
    simp only [impl_Crc.l1]
    rw [if_pos (by omega), and_one h0 (by omega), w64 (n := (j : Int) + 1) (by omega) (by omega)]
    unfold crcBit
    split <;> rfl
theorem impl_Crc_l0 (x0 : List Int) (hb : x0.length ≤ 4611686018427387904) (hx : ∀ x ∈ x0, 0 ≤ x ∧ x < 256) : ∀ (d i : Nat) (r : Int), i + d = x0.length → 0 ≤ r → r < 4294967296 →
    Ev (fun k => impl_Crc.l0 k r x0 (x0.length : Int) (i : Int)) (Go.bits .xor .i64 (crcAll (x0.drop i) r) 4294967295) := by
  intro d
  induction d with
  | zero =>
    intro i r hd h0 h1
    refine ev_one fun k => ?_
    simp only [impl_Crc.l0]
    rw [if_neg (by omega), List.drop_of_length_le (by omega)]
    rfl
  | succ d ih =>
    intro i r hd h0 h1
    have hi : i < x0.length := by omega
    have hm := hx _ (List.getElem_mem hi)
    have hx2 := xor32 h0 h1 hm.1 (by omega)
    have hx3 := crcBits_range 8 hx2.1 hx2.2
    have e := ih (i + 1) _ (by omega) hx3.1 hx3.2
    have hrd : rd x0 i = x0[i] := rd_at x0 i hi
    rw [List.drop_eq_getElem_cons hi]
    refine Ev.step (fun k => ?_) (impl_Crc_l1 x0 x0.length i _ 8 0 (Go.bits .xor .i64 r x0[i]) rfl hx2.1 hx2.2 ?_)
    · simp only [impl_Crc.l0]
      rw [if_pos (by omega), if_pos (by omega), if_pos (by omega), hrd, w64 (by omega) (by omega)]
      rfl
    · rw [w64 (by omega) (by omega)]
      exact e
theorem impl_Crc_ev (l : List Int) (hb : l.length ≤ 4611686018427387904) (hx : ∀ x ∈ l, 0 ≤ x ∧ x < 256) : Ev (fun k => impl_Crc.f k l) (crcOf l) := by
  simp only [impl_Crc.f]
  exact impl_Crc_l0 l hb hx l.length 0 4294967295 (by omega) (by omega) (by omega)
/-! Numbers in bytes, the highest first; frames. -/
def divs : Nat → Int → Int
  | 0, y => y
  | d + 1, y => divs d (y / 256)
def putB : Nat → Int → List Int
  | 0, _ => []
  | c + 1, x => divs c x % 256 :: putB c x
theorem putB_length : ∀ (c : Nat) (x : Int), (putB c x).length = c
  | 0, _ => rfl
  | c + 1, x => by simp [putB, putB_length c]
theorem divs_nonneg : ∀ (d : Nat) (y : Int), 0 ≤ y → 0 ≤ divs d y ∧ divs d y ≤ y
  | 0, _, h => ⟨h, by simp [divs]⟩
  | d + 1, y, h => by
    have := divs_nonneg d (y / 256) (by omega)
    simp only [divs]
    omega
theorem putB_bytes : ∀ (c : Nat) (x : Int), ∀ y ∈ putB c x, 0 ≤ y ∧ y < 256
  | 0, _, y, h => by simp [putB] at h
  | c + 1, x, y, h => by
    rcases List.mem_cons.1 h with h | h
    · omega
    · exact putB_bytes c x y h
def headOf (seq len : Int) : List Int := [82] ++ putB 3 seq ++ putB 3 len
def frameOf (seq : Int) (data : List Int) : List Int := headOf seq data.length ++ putB 4 (crcOf (headOf seq data.length)) ++ putB 4 (crcOf data) ++ data
def frameBytes (seq : Int) (data : List Int) : List Int × Bool := if seq < 0 ∨ seq > 100000 ∨ data.length > 4000 then ([], false) else (frameOf seq data, true)
theorem headOf_bytes (seq len : Int) : ∀ x ∈ headOf seq len, 0 ≤ x ∧ x < 256 := by
  intro x hx
  unfold headOf at hx
  rcases List.mem_append.1 hx with h | h
  · rcases List.mem_append.1 h with h | h
    · simp at h
      omega
    · exact putB_bytes 3 seq x h
  · exact putB_bytes 3 len x h
theorem headOf_length (seq len : Int) : (headOf seq len).length = 7 := by simp [headOf, putB_length]
theorem frameBytes_length (seq : Int) (data : List Int) : (frameBytes seq data).1.length ≤ data.length + 15 := by
  unfold frameBytes
  split
  · simp
  · simp [frameOf, headOf_length, putB_length]
    omega
theorem spec_l02Put_l1 (x0 : List Int) (x : Int) (c : Nat) (hc : c ≤ 9) (h0 : x0.length < 140737488355000) (v : List Int) : ∀ (d j : Nat) (y : Int), j + d = c → 0 ≤ y → y < 9223372036854775808 →
    Ev (fun k => spec_l02Put.l0 k (x0 ++ [divs d y % 256]) x (wrap64 ((c : Int) - 1))) v → Ev (fun k => spec_l02Put.l1 k x0 x (c : Int) y (j : Int)) v := by
  intro d
  induction d with
  | zero =>
    intro j y hj hy hy2 e
    refine Ev.step (fun k => (by simp only [spec_l02Put.l1]; exact rfl)) ?_
    refine ev_neg (by omega) (ev_pos (by omega) ?_)
    rw [tmod_pos hy, show y % 256 % 256 = y % 256 by omega]
    exact e
  | succ d ih =>
    intro j y hj hy hy2 e
    refine Ev.step (fun k => (by simp only [spec_l02Put.l1]; exact rfl)) ?_
    refine ev_pos (by omega) ?_
    rw [tdiv_pos hy, w64 (n := y / 256) (by omega) (by omega), w64 (n := (j : Int) + 1) (by omega) (by omega)]
    exact ih (j + 1) (y / 256) (by omega) (by omega) (by omega) e
theorem spec_l02Put_l0 (x : Int) (hx : 0 ≤ x) (hx2 : x < 9223372036854775808) : ∀ (c : Nat) (x0 : List Int), c ≤ 9 → x0.length + c < 140737488355000 → Ev (fun k => spec_l02Put.l0 k x0 x ((c : Int) - 1)) (x0 ++ putB c x)
  | 0, x0, _, _ => by
    refine Ev.step (fun k => (by simp only [spec_l02Put.l0]; exact rfl)) ?_
    exact ev_neg (by omega) (ev_cast (Ev.now _) (by simp [putB]))
  | c + 1, x0, hc, h0 => by
    refine Ev.step (fun k => (by simp only [spec_l02Put.l0]; exact rfl)) ?_
    refine ev_pos (by omega) ?_
    rw [show (((c + 1 : Nat) : Int) - 1) = (c : Int) by omega]
    refine spec_l02Put_l1 x0 x c (by omega) (by omega) _ c 0 x (by omega) hx hx2 ?_
    rw [w64 (by omega) (by omega)]
    have e := spec_l02Put_l0 x hx hx2 c (x0 ++ [divs c x % 256]) (by omega) (by simp; omega)
    refine ev_cast e ?_
    simp [putB]
theorem spec_l02Put_ev (x0 : List Int) (x : Int) (c : Nat) (hx : 0 ≤ x) (hx2 : x < 9223372036854775808) (hc : c ≤ 9) (h0 : x0.length < 140737488353000) : Ev (fun k => spec_l02Put.f k x0 x (c : Int)) (x0 ++ putB c x) := by
  simp only [spec_l02Put.f]
  rw [w64 (by omega) (by omega)]
  exact spec_l02Put_l0 x hx hx2 c x0 hc (by omega)
theorem spec_FrameBytes_ev (seq : Int) (data : List Int) (hx : ∀ x ∈ data, 0 ≤ x ∧ x < 256) (hl : data.length ≤ 4611686018427387904) : Ev (fun k => spec_FrameBytes.f k seq data) (frameBytes seq data) := by
  simp only [spec_FrameBytes.f]
  have bad : Ev (fun k => spec_FrameBytes.j0 k seq data true) ([], false) := by
    refine Ev.step (fun k => (by simp only [spec_FrameBytes.j0]; exact rfl)) ?_
    exact ev_pos (by trivial) (Ev.now _)
  unfold frameBytes
  by_cases h1 : seq < 0
  · rw [if_pos (Or.inl h1)]
    exact ev_pos h1 bad
  · refine ev_neg h1 ?_
    by_cases h2 : seq > 100000
    · rw [if_pos (Or.inr (Or.inl h2))]
      exact ev_pos h2 bad
    · refine ev_neg h2 ?_
      by_cases h3 : data.length > 4000
      · rw [if_pos (Or.inr (Or.inr h3)), decide_eq_true (by omega)]
        exact bad
      · rw [if_neg (show ¬ (seq < 0 ∨ seq > 100000 ∨ data.length > 4000) by omega), decide_eq_false (by omega)]
        refine Ev.step (fun k => (by simp only [spec_FrameBytes.j0]; exact rfl)) ?_
        refine ev_neg (by simp) ?_
        have hh := headOf_length seq data.length
        have c1 := crcOf_range (headOf_bytes seq data.length)
        have c2 := crcOf_range hx
        have p1 := putB_length 4 (crcOf (headOf seq data.length))
        have p2 := putB_length 4 (crcOf data)
        refine Ev.bind (spec_l02Put_ev [82] seq 3 (by omega) (by omega) (by omega) (by simp)) ?_
        refine Ev.bind (spec_l02Put_ev _ (data.length : Int) 3 (by omega) (by omega) (by omega) (by simp [putB_length])) ?_
        refine Ev.bind (spec_Crc_ev (headOf seq data.length) (by omega) (headOf_bytes _ _)) ?_
        refine Ev.bind (spec_l02Put_ev (headOf seq data.length) _ 4 (by omega) (by omega) (by omega) (by omega)) ?_
        refine Ev.bind (spec_Crc_ev data (by omega) hx) ?_
        refine Ev.bind (spec_l02Put_ev (headOf seq data.length ++ putB 4 (crcOf (headOf seq data.length))) _ 4 (by omega) (by omega) (by omega) (by rw [List.length_append]; omega)) ?_
        refine ev_pos (by simp only [List.length_append]; omega) (ev_cast (Ev.now _) rfl)
theorem shr_divs (x : Int) (c : Nat) (hc : c ≤ 3) : shr .i64 x (8 * (c : Int)) = divs c x := by
  have : c = 0 ∨ c = 1 ∨ c = 2 ∨ c = 3 := by omega
  unfold shr
  rcases this with h | h | h | h <;> subst h <;> simp [divs, Go.IntKind.bits] <;> omega
theorem impl_putBytes_l0 (x : Int) : ∀ (c : Nat) (x0 : List Int), c ≤ 4 → x0.length + c < 140737488355000 → Ev (fun k => impl_putBytes.l0 k x0 x ((c : Int) - 1)) (x0 ++ putB c x)
  | 0, x0, _, _ => by
    refine Ev.step (fun k => (by simp only [impl_putBytes.l0]; exact rfl)) ?_
    exact ev_neg (by omega) (ev_cast (Ev.now _) (by simp [putB]))
  | c + 1, x0, hc, h0 => by
    refine Ev.step (fun k => (by simp only [impl_putBytes.l0]; exact rfl)) ?_
    refine ev_pos (by omega) ?_
    rw [show (((c + 1 : Nat) : Int) - 1) = (c : Int) by omega]
    rw [w64 (n := 8 * (c : Int)) (by omega) (by omega), w64 (n := (c : Int) - 1) (by omega) (by omega), shr_divs x c (by omega)]
    refine ev_pos (by omega) (ev_pos (by omega) ?_)
    have e := impl_putBytes_l0 x c (x0 ++ [divs c x % 256]) (by omega) (by simp; omega)
    refine ev_cast e ?_
    simp [putB]
theorem impl_putBytes_ev (x0 : List Int) (x : Int) (c : Nat) (hc : c ≤ 4) (h0 : x0.length < 140737488354000) : Ev (fun k => impl_putBytes.f k x0 x (c : Int)) (x0 ++ putB c x) := by
  simp only [impl_putBytes.f]
  rw [w64 (by omega) (by omega)]
  exact impl_putBytes_l0 x c x0 hc (by omega)
theorem impl_FrameBytes_ev (seq : Int) (data : List Int) (hx : ∀ x ∈ data, 0 ≤ x ∧ x < 256) (hl : data.length ≤ 4611686018427387904) : Ev (fun k => impl_FrameBytes.f k seq data) (frameBytes seq data) := by
  simp only [impl_FrameBytes.f]
  have bad : Ev (fun k => impl_FrameBytes.j0 k seq data true) ([], false) := by
    refine Ev.step (fun k => (by simp only [impl_FrameBytes.j0]; exact rfl)) ?_
    exact ev_pos (by trivial) (Ev.now _)
  unfold frameBytes
  by_cases h1 : seq < 0
  · rw [if_pos (Or.inl h1)]
    exact ev_pos h1 bad
  · refine ev_neg h1 ?_
    by_cases h2 : seq > 100000
    · rw [if_pos (Or.inr (Or.inl h2))]
      exact ev_pos h2 bad
    · refine ev_neg h2 ?_
      by_cases h3 : data.length > 4000
      · rw [if_pos (Or.inr (Or.inr h3)), decide_eq_true (by omega)]
        exact bad
      · rw [if_neg (show ¬ (seq < 0 ∨ seq > 100000 ∨ data.length > 4000) by omega), decide_eq_false (by omega)]
        refine Ev.step (fun k => (by simp only [impl_FrameBytes.j0]; exact rfl)) ?_
        refine ev_neg (by simp) ?_
        have hh := headOf_length seq data.length
        have p1 := putB_length 4 (crcOf (headOf seq data.length))
        have p2 := putB_length 4 (crcOf data)
        refine Ev.bind (impl_putBytes_ev [82] seq 3 (by omega) (by simp)) ?_
        refine Ev.bind (impl_putBytes_ev _ (data.length : Int) 3 (by omega) (by simp [putB_length])) ?_
        refine Ev.bind (impl_Crc_ev (headOf seq data.length) (by omega) (headOf_bytes _ _)) ?_
        refine Ev.bind (impl_putBytes_ev (headOf seq data.length) _ 4 (by omega) (by omega)) ?_
        refine Ev.bind (impl_Crc_ev data (by omega) hx) ?_
        refine Ev.bind (impl_putBytes_ev (headOf seq data.length ++ putB 4 (crcOf (headOf seq data.length))) _ 4 (by omega) (by rw [List.length_append]; omega)) ?_
        refine ev_pos (by simp only [List.length_append]; omega) (ev_cast (Ev.now _) rfl)
theorem FnExactFrameBytes : laws_FnExactFrameBytes.Pure := by
  intro n l hn hl hl2 hw
  have hx : ∀ x ∈ l, 0 ≤ x ∧ x < 256 := fun x h => wf_u8 (hw x h)
  refine Ev.rounds (g := fun k => laws_FnExactFrameBytes.f k n l) ?_
  simp only [laws_FnExactFrameBytes.f]
  by_cases h : (l.length : Int) > 1048576
  · exact ev_pos h (Ev.now _)
  refine ev_neg h ?_
  have hp := frameBytes_length n l
  have t := toByteS_ev l (by omega)
  have s := spec_FrameBytes_ev n l hx (by omega)
  have i := impl_FrameBytes_ev n l hx (by omega)
  have q := eqByteS_ev (frameBytes n l).1 (by omega)
  have q2 := eqByteS_ev l (by omega)
  have m := markByteS_ev l 1 (by omega) (by omega) (by omega)
  have m2 := markByteS_ev (frameBytes n l).1 1 (by omega) (by omega) (by omega)
  have d := heldByteS_ev (frameBytes n l).1.length 1 (by omega) (by omega) (by omega)
  refine Ev.bind t (Ev.bind s (Ev.bind t (Ev.bind i (Ev.bind q ?_))))
  refine ev_pos rfl ?_
  refine Ev.step (fun k => (by simp only [laws_FnExactFrameBytes.j0]; exact rfl)) ?_
  refine ev_neg (by simp) (Ev.bind t (Ev.bind q2 (ev_pos rfl (Ev.bind m (ev_neg (by simp; omega) (Ev.bind q (ev_pos rfl ?_)))))))
  refine Ev.step (fun k => (by simp only [laws_FnExactFrameBytes.j1]; exact rfl)) ?_
  refine ev_neg (by simp) (Ev.bind m2 (Ev.bind d (ev_neg (by simp; omega) (ev_pos (by simp) (Ev.bind t (Ev.bind i (Ev.bind q (ev_pos rfl ?_))))))))
  refine Ev.step (fun k => (by simp only [laws_FnExactFrameBytes.j2]; exact rfl)) ?_
  exact ev_neg (by simp) (Ev.bind d (ev_neg (by simp; omega) (ev_pos (by simp) (Ev.now _))))

end Go.Proofs.Ytcpmdkopbhddkaa.Pure
