/- The program's Crc answers as the reference's, for every list of bytes, and leaves it as it was; no condition. -/
import Derived.Test.YtnmcffcjilldfaaPFnExactCrcx1
import Derived.Test.YtnmcffcjilldfaaCom
namespace Go.Proofs.Ytnmcffcjilldfaa.Pure
open Go.RowKit Go.Proofs.Ytnmcffcjilldfaa.PFnExactCrc Go.Proofs.YtnmcffcjilldfaaW.PrintWords Go.Proofs.YtnmcffcjilldfaaW.PrintLast Go.Proofs.Ytnmcffcjilldfaa.Com

/-! Copies of bytes, and their comparison with themselves. -/
theorem toByteS_l0 (x0 : List Int) (hb : x0.length ≤ 4611686018427387904) : ∀ (d i : Nat) (x3 : List Int), i + d = x0.length → x3.length = x0.length →
    Ev (fun k => laws_toByteS.l0 k x0 x3 (i : Int)) (x3.take i ++ x0.drop i) := by
  intro d
  induction d with
  | zero =>
    intro i x3 hd h3
    refine ev_one fun k => ?_
    simp only [laws_toByteS.l0]
    rw [if_neg (by omega), List.take_of_length_le (by omega), List.drop_of_length_le (by omega), List.append_nil]
  | succ d ih =>
    intro i x3 hd h3
    have e := ih (i + 1) (x3.set i (rd x0 i)) (by omega) (by simpa using h3)
    have hs := set_mid x0 x3 i 0 (by omega) h3
    refine Ev.step (fun k => ?_) (ev_cast e (show _ = x3.take i ++ x0.drop i from hs))
    simp only [laws_toByteS.l0]
    rw [if_pos (by omega), if_pos (by omega), if_pos (by omega), w64 (by omega) (by omega)]
    rfl
theorem toByteS_ev (l : List Int) (hb : l.length ≤ 281474976710656) : Ev (fun k => laws_toByteS.f k l) l := by
  simp only [laws_toByteS.f]
  refine ev_pos (by omega) (ev_pos (by omega) ?_)
  exact ev_cast (toByteS_l0 l (by omega) l.length 0 _ (by omega) (by simp)) (by simp)
theorem eqByteS_l0 (x : List Int) (hb : x.length ≤ 4611686018427387904) : ∀ (d i : Nat), i + d = x.length → Ev (fun k => laws_eqByteS.l0 k x x (i : Int)) true := by
  intro d
  induction d with
  | zero =>
    intro i hd
    refine ev_one fun k => ?_
    simp only [laws_eqByteS.l0]
    rw [if_neg (by omega)]
  | succ d ih =>
    intro i hd
    refine Ev.step (fun k => ?_) (ih (i + 1) (by omega))
    simp only [laws_eqByteS.l0]
    rw [if_pos (by omega), if_pos (by omega), if_pos (by omega), if_pos trivial, w64 (by omega) (by omega)]
    rfl
theorem eqByteS_ev (l : List Int) (hb : l.length ≤ 281474976710656) : Ev (fun k => laws_eqByteS.f k l l) true := by
  simp only [laws_eqByteS.f]
  exact ev_pos (by trivial) (eqByteS_l0 l (by omega) l.length 0 (by omega))
/-! The sum of bytes: both programs make the same steps. -/
def crcBit (r : Int) : Int := if r % 2 = 1 then Go.bits .xor .i64 (r / 2) 3988292384 else r / 2
def crcBits : Nat → Int → Int
  | 0, r => r
  | n + 1, r => crcBits n (crcBit r)
def crcAll : List Int → Int → Int
  | [], r => r
  | x :: xs, r => crcAll xs (crcBits 8 (Go.bits .xor .i64 r x))
def crcOf (l : List Int) : Int := Go.bits .xor .i64 (crcAll l 4294967295) 4294967295
theorem crcBit_range {r : Int} (h0 : 0 ≤ r) (h1 : r < 4294967296) : 0 ≤ crcBit r ∧ crcBit r < 4294967296 := by
  unfold crcBit
  split
  · exact xor32 (by omega) (by omega) (by omega) (by omega)
  · omega
theorem crcBits_range : ∀ (n : Nat) {r : Int}, 0 ≤ r → r < 4294967296 → 0 ≤ crcBits n r ∧ crcBits n r < 4294967296
  | 0, _, h0, h1 => ⟨h0, h1⟩
  | n + 1, _, h0, h1 => crcBits_range n (crcBit_range h0 h1).1 (crcBit_range h0 h1).2
theorem crcAll_range : ∀ (l : List Int) {r : Int}, (∀ x ∈ l, 0 ≤ x ∧ x < 256) → 0 ≤ r → r < 4294967296 → 0 ≤ crcAll l r ∧ crcAll l r < 4294967296
  | [], _, _, h0, h1 => ⟨h0, h1⟩
  | x :: xs, _, hx, h0, h1 => by
    have hx' := hx x List.mem_cons_self
    have h := xor32 h0 h1 hx'.1 (by omega)
    have h2 := crcBits_range 8 h.1 h.2
    exact crcAll_range xs (fun y hy => hx y (List.mem_cons_of_mem _ hy)) h2.1 h2.2
theorem crcOf_range {l : List Int} (h : ∀ x ∈ l, 0 ≤ x ∧ x < 256) : 0 ≤ crcOf l ∧ crcOf l < 4294967296 := by
  have h1 := crcAll_range l h (r := 4294967295) (by omega) (by omega)
  exact xor32 h1.1 h1.2 (by omega) (by omega)
theorem spec_Crc_l1 (x0 : List Int) (i : Int) (v : Int) : ∀ (d j : Nat) (r : Int), j + d = 8 → 0 ≤ r → r < 4294967296 →
    Ev (fun k => spec_Crc.l0 k x0 (crcBits d r) (wrap64 (i + 1))) v → Ev (fun k => spec_Crc.l1 k x0 r i (j : Int)) v := by
  intro d
  induction d with
  | zero =>
    intro j r hj h0 h1 e
    refine Ev.step (fun k => ?_) e
    simp only [spec_Crc.l1]
    rw [if_neg (by omega)]
    rfl
  | succ d ih =>
    intro j r hj h0 h1 e
    have hr := crcBit_range h0 h1
    refine Ev.step (fun k => ?_) (ih (j + 1) (crcBit r) (by omega) hr.1 hr.2 e)
    simp only [spec_Crc.l1]
    rw [if_pos (by omega), tmod_pos h0, tdiv_pos h0, w64 (n := r / 2) (by omega) (by omega), w64 (n := (j : Int) + 1) (by omega) (by omega)]
    unfold crcBit
    split <;> rfl
theorem spec_Crc_l0 (x0 : List Int) (hb : x0.length ≤ 4611686018427387904) (hx : ∀ x ∈ x0, 0 ≤ x ∧ x < 256) : ∀ (d i : Nat) (r : Int), i + d = x0.length → 0 ≤ r → r < 4294967296 →
    Ev (fun k => spec_Crc.l0 k x0 r (i : Int)) (Go.bits .xor .i64 (crcAll (x0.drop i) r) 4294967295) := by
  intro d
  induction d with
  | zero =>
    intro i r hd h0 h1
    refine ev_one fun k => ?_
    simp only [spec_Crc.l0]
    rw [if_neg (by omega), List.drop_of_length_le (by omega)]
    rfl
  | succ d ih =>
    intro i r hd h0 h1
    have hi : i < x0.length := by omega
    have hm := hx _ (List.getElem_mem hi)
    have hx2 := xor32 h0 h1 hm.1 (by omega)
    have hx3 := crcBits_range 8 hx2.1 hx2.2
    have e := ih (i + 1) _ (by omega) hx3.1 hx3.2
    have hrd : rd x0 i = x0[i] := rd_at x0 i hi
    rw [List.drop_eq_getElem_cons hi]
    refine Ev.step (fun k => ?_) (spec_Crc_l1 x0 i _ 8 0 (Go.bits .xor .i64 r x0[i]) rfl hx2.1 hx2.2 ?_)
    · simp only [spec_Crc.l0]
      rw [if_pos (by omega), if_pos (by omega), hrd, w64 (by omega) (by omega)]
      rfl
    · rw [w64 (by omega) (by omega)]
      exact e
theorem impl_Crc_l1 (x0 : List Int) (n i : Int) (v : Int) : ∀ (d j : Nat) (r : Int), j + d = 8 → 0 ≤ r → r < 4294967296 →
    Ev (fun k => impl_Crc.l0 k (crcBits d r) x0 n (wrap64 (i + 1))) v → Ev (fun k => impl_Crc.l1 k r x0 n i (j : Int)) v := by
  intro d
  induction d with
  | zero =>
    intro j r hj h0 h1 e
    refine Ev.step (fun k => ?_) e
    simp only [impl_Crc.l1]
    rw [if_neg (by omega)]
    rfl
  | succ d ih =>
    intro j r hj h0 h1 e
    have hr := crcBit_range h0 h1
    refine Ev.step (fun k => ?_) (ih (j + 1) (crcBit r) (by omega) hr.1 hr.2 e)
    simp only [impl_Crc.l1]
    rw [if_pos (by omega), and_one h0 (by omega), w64 (n := (j : Int) + 1) (by omega) (by omega)]
    unfold crcBit
    split <;> rfl
theorem impl_Crc_l0 (x0 : List Int) (hb : x0.length ≤ 4611686018427387904) (hx : ∀ x ∈ x0, 0 ≤ x ∧ x < 256) : ∀ (d i : Nat) (r : Int), i + d = x0.length → 0 ≤ r → r < 4294967296 →
    Ev (fun k => impl_Crc.l0 k r x0 (x0.length : Int) (i : Int)) (Go.bits .xor .i64 (crcAll (x0.drop i) r) 4294967295) := by
  intro d
  induction d with
  | zero =>
    intro i r hd h0 h1
    refine ev_one fun k => ?_
    simp only [impl_Crc.l0]
    rw [if_neg (by omega), List.drop_of_length_le (by omega)]
    rfl
  | succ d ih =>
    intro i r hd h0 h1
    have hi : i < x0.length := by omega
    have hm := hx _ (List.getElem_mem hi)
    have hx2 := xor32 h0 h1 hm.1 (by omega)
    have hx3 := crcBits_range 8 hx2.1 hx2.2
    have e := ih (i + 1) _ (by omega) hx3.1 hx3.2
    have hrd : rd x0 i = x0[i] := rd_at x0 i hi
    rw [List.drop_eq_getElem_cons hi]
    refine Ev.step (fun k => ?_) (impl_Crc_l1 x0 x0.length i _ 8 0 (Go.bits .xor .i64 r x0[i]) rfl hx2.1 hx2.2 ?_)
    · simp only [impl_Crc.l0]
      rw [if_pos (by omega), if_pos (by omega), if_pos (by omega), hrd, w64 (by omega) (by omega)]
      rfl
    · rw [w64 (by omega) (by omega)]
      exact e
theorem spec_Crc_ev (l : List Int) (hb : l.length ≤ 4611686018427387904) (hx : ∀ x ∈ l, 0 ≤ x ∧ x < 256) : Ev (fun k => spec_Crc.f k l) (crcOf l) := by
  simp only [spec_Crc.f]
  exact spec_Crc_l0 l hb hx l.length 0 4294967295 (by omega) (by omega) (by omega)
theorem impl_Crc_ev (l : List Int) (hb : l.length ≤ 4611686018427387904) (hx : ∀ x ∈ l, 0 ≤ x ∧ x < 256) : Ev (fun k => impl_Crc.f k l) (crcOf l) := by
  simp only [impl_Crc.f]
  exact impl_Crc_l0 l hb hx l.length 0 4294967295 (by omega) (by omega) (by omega)
theorem FnExactCrc : laws_FnExactCrc.Pure := by
  intro l hl hl2 hw
  have hx : ∀ x ∈ l, 0 ≤ x ∧ x < 256 := fun x h => wf_u8 (hw x h)
  refine Ev.rounds (g := fun k => laws_FnExactCrc.f k l) ?_
  simp only [laws_FnExactCrc.f]
  by_cases h : (l.length : Int) > 1048576
  · exact ev_pos h (Ev.now _)
  · refine ev_neg h ?_
    refine Ev.bind (toByteS_ev l (by omega)) ?_
    refine Ev.bind (spec_Crc_ev l (by omega) hx) ?_
    refine Ev.bind (toByteS_ev l (by omega)) ?_
    refine Ev.bind (impl_Crc_ev l (by omega) hx) ?_
    refine ev_pos (by trivial) ?_
    refine Ev.bind (toByteS_ev l (by omega)) ?_
    refine Ev.bind (eqByteS_ev l (by omega)) ?_
    exact ev_pos (by trivial) (Ev.now _)

end Go.Proofs.Ytnmcffcjilldfaa.Pure
