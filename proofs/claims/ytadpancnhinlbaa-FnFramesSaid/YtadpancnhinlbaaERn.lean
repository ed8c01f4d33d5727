/- Contracts of functions of this seat's program. -/
import Derived.Test.YtadpancnhinlbaaETy
import Derived.Test.YtadpancnhinlbaaEFp
namespace Go.Proofs.Ytadpancnhinlbaa.E
set_option linter.unusedVariables false
set_option linter.unusedSimpArgs false
set_option maxHeartbeats 1600000
/-! The drawn bytes: a cursor over the given bytes, a number that is mixed on. -/
theorem and255 (x : Int) : 0 ≤ Go.bits .and .i64 x 255 ∧ Go.bits .and .i64 x 255 ≤ 255 := by
  have h : (BitVec.ofInt (Go.IntKind.bits .i64) x &&& BitVec.ofInt (Go.IntKind.bits .i64) 255).toNat ≤ 255 := by
    rw [BitVec.toNat_and]
    exact Nat.le_trans Nat.and_le_right (by decide)
  simp only [Go.bits]
  rw [Go.IntKind.wrap_i64]
  omega
def hsB (l : List Int) : Nat → Int
  | 0 => w64 (538233 + l.length)
  | i + 1 => Go.bits .and .i64 (w64 (w64 (w64 (hsB l i * 163) + w64 (l.getD i 0)) + 7)) 1073741823
theorem s_l01New (l : List Int) (hl : l.length ≤ bound) : SpecN Try.prog 30 [.sl 1 (l.map T.u8)] [.inr 0, .inl (.int .i64 0), .inl (.int .i64 (hsB l (min l.length 4000)))] := by
  have hl' : l.length ≤ 16777216 := hl
  refine fnN Try.func30 ?_
  repeat (first | refine brT ?_ | refine brF ?_ | refine And.intro rfl ?_ | refine And.intro trivial ?_ | intro _)
  refine loopI (fun i : Nat => ⟨32, [(0, .c (.fx 0 1 (l.map T.u8))), (3, .int (hsB l i)), (4, .int i)], []⟩) (fun i => l.length - i) (fun i => i ≤ l.length ∧ i ≤ 4000) 0 ⟨Nat.zero_le _, Nat.zero_le _⟩ (wk rfl ⟨rfl, congrArg AV.int (by rw [hsB]; simp), rfl, trivial⟩ trivial) ?_
  rintro i ⟨hi, hi2⟩
  repeat (first | refine brT ?_ | refine brF ?_ | refine And.intro rfl ?_ | refine And.intro trivial ?_ | intro _)
  by_cases h : i < l.length
  · refine brR (by show ¬ (decide ((i : Int) < ((l.map T.u8).length : Int)) = false); rw [List.length_map]; simp; omega) (fun _ => ?_)
    refine brT ?_
    refine brI (fun h4 => ?_) (fun h4 => ?_)
    · simp only [cond_true, decide_eq_true_eq] at h4
      repeat (first | refine brT ?_ | refine brF ?_ | refine And.intro rfl ?_ | refine And.intro trivial ?_ | intro _)
      refine ⟨nn i, T.u8 l[i], atm h, ?_⟩
      repeat (first | refine brT ?_ | refine brF ?_ | refine And.intro rfl ?_ | refine And.intro trivial ?_ | intro _)
      refine nxt (i + 1) ⟨h, by omega⟩ (by show l.length - (i + 1) < l.length - i; omega) (wk rfl ⟨rfl, congrArg AV.int ?_, up1 h hl', trivial⟩ trivial)
      rw [hsB, List.getD_eq_getElem?_getD, List.getElem?_eq_getElem h]; rfl
    · simp only [cond_true, decide_eq_false_iff_not] at h4
      have e : i = min l.length 4000 := by omega
      rw [e]
      repeat (first | refine brT ?_ | refine brF ?_ | refine And.intro rfl ?_ | refine And.intro trivial ?_ | intro _)
      exact ⟨⟨_, _, rfl⟩, rfl, rfl, trivial⟩
  · refine brL (by show ¬ (decide ((i : Int) < ((l.map T.u8).length : Int)) = true); rw [List.length_map]; simp; omega) (fun _ => ?_)
    have e : i = min l.length 4000 := by omega
    rw [e]
    repeat (first | refine brT ?_ | refine brF ?_ | refine And.intro rfl ?_ | refine And.intro trivial ?_ | intro _)
    exact ⟨⟨_, _, rfl⟩, rfl, rfl, trivial⟩

def mixB (h : Int) : Int := w64 (w64 (h * 6364136223846793005) + 1442695040888963407)
def rawB (h : Int) : Int := Go.bits .and .i64 (Go.bits .xor .i64 (mixB h / 2 ^ (33 : Int).toNat) (mixB h / 2 ^ (45 : Int).toNat)) 255
def byteC (l : List Int) (c : Int × Int) : (Int × Int) × Int :=
  if c.1 < l.length then ((w64 (c.1 + 1), mixB c.2), Go.bits .and .i64 (w64 (rawB c.2 + w64 (l.getD c.1.toNat 0))) 255) else ((c.1, mixB c.2), rawB c.2)
theorem byteC_in (l : List Int) (hl : l.length ≤ bound) (c : Int × Int) (h : 0 ≤ c.1) : 0 ≤ (byteC l c).1.1 ∧ 0 ≤ (byteC l c).2 ∧ (byteC l c).2 ≤ 255 := by
  have hl' : l.length ≤ 16777216 := hl
  unfold byteC
  split
  · have := and255 (w64 (rawB c.2 + w64 (l.getD c.1.toNat 0)))
    refine ⟨?_, this.1, this.2⟩
    show 0 ≤ w64 (c.1 + 1)
    rw [w64_id (by omega) (by omega)]; omega
  · have := and255 (Go.bits .xor .i64 (mixB c.2 / 2 ^ (33 : Int).toNat) (mixB c.2 / 2 ^ (45 : Int).toNat))
    exact ⟨h, this.1, this.2⟩
abbrev curT (l : List Int) (c : Int × Int) : List T := [.sl 1 (l.map T.u8), T.int c.1, T.int c.2]
theorem s_l01Byte (l : List Int) (hl : l.length ≤ bound) (c : Int × Int) (h : 0 ≤ c.1) : SpecP Try.prog 56 (curT l c) (curT l (byteC l c).1) [] [T.int (byteC l c).2] := by
  have hl' : l.length ≤ 16777216 := hl
  obtain ⟨i, m⟩ := c
  unfold byteC
  simp only at h ⊢
  refine fnP Try.func56 ?_
  repeat (first | refine brT ?_ | refine brF ?_ | refine And.intro rfl ?_ | refine And.intro trivial ?_ | intro _)
  refine drM0 (Pl.go 0 (Pl.go 5 ((Pl.go 1 (Pl.go 2 ((Pl.go 3 (Pl.go 4 (Pl.go 6 (Pl.go 7 (Pl.go 8 (Pl.go 9 (Pl.go 10 (Pl.go 11 (Pl.go 12 Pl.stop))))))))).or (Pl.go 6 (Pl.go 7 ((Pl.go 3 (Pl.go 4 (Pl.go 8 (Pl.go 9 (Pl.go 10 (Pl.go 11 (Pl.go 12 Pl.stop))))))).or (Pl.go 8 (Pl.go 9 (Pl.go 3 (Pl.go 4 (Pl.go 10 (Pl.go 11 (Pl.go 12 Pl.stop))))))))))))).or (Pl.go 6 (Pl.go 7 ((Pl.go 1 (Pl.go 2 ((Pl.go 3 (Pl.go 4 (Pl.go 8 (Pl.go 9 (Pl.go 10 (Pl.go 11 (Pl.go 12 Pl.stop))))))).or (Pl.go 8 (Pl.go 9 (Pl.go 3 (Pl.go 4 (Pl.go 10 (Pl.go 11 (Pl.go 12 Pl.stop)))))))))).or (Pl.go 8 (Pl.go 9 (Pl.go 1 (Pl.go 2 (Pl.go 3 (Pl.go 4 (Pl.go 10 (Pl.go 11 (Pl.go 12 Pl.stop))))))))))))))) (fun s => s = ⟨58, [(0, .c (.bx 500 0 0)), (3, .int (rawB m))], [(500, .box 0 [.fx 0 1 (l.map T.u8), .v (.int .i64 i), .v (.int .i64 (mixB m))])]⟩) (by kernel_rfl) ?_ ?_
  · repeat' (first | (first | refine brT ?_ | refine brF ?_ | refine And.intro rfl ?_ | refine And.intro trivial ?_ | intro _) | refine ⟨⟨(of_decide_eq_true rfl : (0 : Int) ≤ _), (of_decide_eq_true rfl : (_ : Int) ≤ _)⟩, ?_⟩ | refine And.intro ?_ ?_)
    all_goals exact ⟨_, rfl, wk rfl ⟨rfl, rfl, trivial⟩ ⟨rfl, trivial⟩⟩
  rintro s rfl
  repeat (first | refine brT ?_ | refine brF ?_ | refine And.intro rfl ?_ | refine And.intro trivial ?_ | intro _)
  refine drM0 (Pl.go 0 (Pl.go 4 ((Pl.go 1 (Pl.go 2 ((Pl.go 3 (Pl.go 5 (Pl.go 6 (Pl.go 7 (Pl.go 8 (Pl.go 9 Pl.stop)))))).or (Pl.go 5 (Pl.go 6 ((Pl.go 3 (Pl.go 7 (Pl.go 8 (Pl.go 9 Pl.stop)))).or (Pl.go 7 (Pl.go 8 (Pl.go 3 (Pl.go 9 Pl.stop)))))))))).or (Pl.go 5 (Pl.go 6 ((Pl.go 1 (Pl.go 2 ((Pl.go 3 (Pl.go 7 (Pl.go 8 (Pl.go 9 Pl.stop)))).or (Pl.go 7 (Pl.go 8 (Pl.go 3 (Pl.go 9 Pl.stop))))))).or (Pl.go 7 (Pl.go 8 (Pl.go 1 (Pl.go 2 (Pl.go 3 (Pl.go 9 Pl.stop)))))))))))) (fun s => s = ⟨58, [(0, .c (.bx 500 0 0)), (3, .int (rawB m)), (34, .bool (decide (i < ((l.map T.u8).length : Int))))], [(500, .box 0 [.fx 0 1 (l.map T.u8), .v (.int .i64 i), .v (.int .i64 (mixB m))])]⟩) (by kernel_rfl) ?_ ?_
  · repeat' (first | (first | refine brT ?_ | refine brF ?_ | refine And.intro rfl ?_ | refine And.intro trivial ?_ | intro _) | refine And.intro ?_ ?_)
    all_goals exact ⟨_, rfl, wk rfl ⟨rfl, rfl, rfl, trivial⟩ ⟨rfl, trivial⟩⟩
  rintro s rfl
  repeat (first | refine brT ?_ | refine brF ?_ | refine And.intro rfl ?_ | refine And.intro trivial ?_ | intro _)
  by_cases hi : i < l.length
  · rw [if_pos hi]
    refine brR (by show ¬ (decide (i < ((l.map T.u8).length : Int)) = false); rw [List.length_map, decide_eq_true hi]; decide) (fun _ => ?_)
    have hat : (l.map T.u8)[i.toNat]? = some (T.u8 (l.getD i.toNat 0)) := by
      have : i.toNat < l.length := by omega
      rw [List.getElem?_map, List.getElem?_eq_getElem this, List.getD_eq_getElem?_getD, List.getElem?_eq_getElem this]; rfl
    refine drM0 (Pl.go 0 (Pl.go 1 (Pl.go 5 ((Pl.go 2 (Pl.go 3 ((Pl.go 4 (Pl.go 6 (Pl.go 7 (Pl.go 8 (Pl.go 9 (Pl.go 10 (Pl.go 11 (Pl.go 12 (Pl.go 13 (Pl.go 14 Pl.stop)))))))))).or (Pl.go 6 (Pl.go 7 ((Pl.go 4 (Pl.go 8 (Pl.go 9 (Pl.go 10 (Pl.go 11 (Pl.go 12 (Pl.go 13 (Pl.go 14 Pl.stop)))))))).or (Pl.go 8 (Pl.go 4 (Pl.go 9 (Pl.go 10 (Pl.go 11 (Pl.go 12 (Pl.go 13 (Pl.go 14 Pl.stop)))))))))))))).or (Pl.go 6 (Pl.go 7 ((Pl.go 2 (Pl.go 3 ((Pl.go 4 (Pl.go 8 (Pl.go 9 (Pl.go 10 (Pl.go 11 (Pl.go 12 (Pl.go 13 (Pl.go 14 Pl.stop)))))))).or (Pl.go 8 (Pl.go 4 (Pl.go 9 (Pl.go 10 (Pl.go 11 (Pl.go 12 (Pl.go 13 (Pl.go 14 Pl.stop))))))))))).or (Pl.go 8 (Pl.go 2 (Pl.go 3 (Pl.go 4 (Pl.go 9 (Pl.go 10 (Pl.go 11 (Pl.go 12 (Pl.go 13 (Pl.go 14 Pl.stop))))))))))))))))) (fun s => s = ⟨58, [(0, .c (.bx 500 0 0)), (3, .int (Go.bits .and .i64 (w64 (rawB m + w64 (l.getD i.toNat 0))) 255))], [(500, .box 0 [.fx 0 1 (l.map T.u8), .v (.int .i64 i), .v (.int .i64 (mixB m))])]⟩) (by kernel_rfl) ?_ ?_
    · repeat' (first | (first | refine brT ?_ | refine brF ?_ | refine And.intro rfl ?_ | refine And.intro trivial ?_ | intro _) | refine ⟨h, T.u8 (l.getD i.toNat 0), hat, ?_⟩ | refine And.intro ?_ ?_)
      all_goals exact ⟨_, rfl, wk rfl ⟨rfl, rfl, trivial⟩ ⟨rfl, trivial⟩⟩
    rintro s rfl
    repeat (first | refine brT ?_ | refine brF ?_ | refine And.intro rfl ?_ | refine And.intro trivial ?_ | intro _)
    exact ⟨⟨_, _, rfl⟩, rfl, rfl, trivial⟩
  · rw [if_neg hi]
    refine brL (by show ¬ (decide (i < ((l.map T.u8).length : Int)) = true); rw [List.length_map, decide_eq_false hi]; decide) (fun _ => ?_)
    repeat (first | refine brT ?_ | refine brF ?_ | refine And.intro rfl ?_ | refine And.intro trivial ?_ | intro _)
    exact ⟨⟨_, _, rfl⟩, rfl, rfl, trivial⟩

def belowC (l : List Int) (c : Int × Int) (n : Int) : (Int × Int) × Int :=
  if n ≤ 0 then (c, 0) else if n ≤ 256 then ((byteC l c).1, (byteC l c).2.tmod n) else
    let a := byteC l c; let b := byteC l a.1; let d := byteC l b.1; let e := byteC l d.1
    (e.1, (w64 (w64 (w64 (w64 (a.2 * 16777216) + w64 (b.2 * 65536)) + w64 (d.2 * 256)) + e.2)).tmod n)
theorem val4 {a b d e : Int} (ha : 0 ≤ a ∧ a ≤ 255) (hb : 0 ≤ b ∧ b ≤ 255) (hd : 0 ≤ d ∧ d ≤ 255) (he : 0 ≤ e ∧ e ≤ 255) : 0 ≤ w64 (w64 (w64 (w64 (a * 16777216) + w64 (b * 65536)) + w64 (d * 256)) + e) := by
  rw [w64_id (n := a * 16777216) (by omega) (by omega), w64_id (n := b * 65536) (by omega) (by omega), w64_id (n := d * 256) (by omega) (by omega), w64_id (n := a * 16777216 + b * 65536) (by omega) (by omega), w64_id (n := a * 16777216 + b * 65536 + d * 256) (by omega) (by omega), w64_id (by omega) (by omega)]
  omega
theorem belowC_in (l : List Int) (hl : l.length ≤ bound) (c : Int × Int) (h : 0 ≤ c.1) (n : Int) : 0 ≤ (belowC l c n).1.1 ∧ 0 ≤ (belowC l c n).2 ∧ (0 < n → (belowC l c n).2 < n) := by
  unfold belowC
  by_cases h0 : n ≤ 0
  · rw [if_pos h0]; exact ⟨h, Int.le_refl _, fun h1 => by omega⟩
  rw [if_neg h0]
  by_cases h1 : n ≤ 256
  · rw [if_pos h1]
    have := byteC_in l hl c h
    exact ⟨this.1, Int.tmod_nonneg _ this.2.1, fun _ => Int.tmod_lt_of_pos _ (by omega)⟩
  rw [if_neg h1]
  have ha := byteC_in l hl c h
  have hb := byteC_in l hl _ ha.1
  have hd := byteC_in l hl _ hb.1
  have he := byteC_in l hl _ hd.1
  refine ⟨he.1, Int.tmod_nonneg _ ?_, fun _ => Int.tmod_lt_of_pos _ (by omega)⟩
  exact val4 ha.2 hb.2 hd.2 he.2
theorem s_l01Below (l : List Int) (hl : l.length ≤ bound) (c : Int × Int) (h : 0 ≤ c.1) (n : Int) : SpecP Try.prog 34 (curT l c) (curT l (belowC l c n).1) [T.int n] [T.int (belowC l c n).2] := by
  unfold belowC
  by_cases h0 : n ≤ 0
  · rw [if_pos h0]
    refine fnP Try.func34 ?_
    repeat (first | (first | refine brT ?_ | refine brF ?_ | refine And.intro rfl ?_ | refine And.intro trivial ?_ | intro _) | (refine brL ?kzz (fun _ => ?_); case kzz => (simp <;> omega)) | (refine brR ?kzz (fun _ => ?_); case kzz => (simp <;> omega)))
    exact ⟨⟨_, _, rfl⟩, rfl, rfl, trivial⟩
  rw [if_neg h0]
  have ha := byteC_in l hl c h
  have sa := s_l01Byte l hl c h
  by_cases h1 : n ≤ 256
  · rw [if_pos h1]
    refine fnP Try.func34 ?_
    repeat (first | (first | refine brT ?_ | refine brF ?_ | refine And.intro rfl ?_ | refine And.intro trivial ?_ | intro _) | (refine brL ?kzz (fun _ => ?_); case kzz => (simp <;> omega)) | (refine brR ?kzz (fun _ => ?_); case kzz => (simp <;> omega)))
    refine ⟨_, _, sa, fun q => ?_⟩
    repeat (first | (first | refine brT ?_ | refine brF ?_ | refine And.intro rfl ?_ | refine And.intro trivial ?_ | intro _) | (refine brL ?kzz (fun _ => ?_); case kzz => (simp <;> omega)) | (refine brR ?kzz (fun _ => ?_); case kzz => (simp <;> omega)))
    refine ⟨by omega, ?_⟩
    repeat (first | refine brT ?_ | refine brF ?_ | refine And.intro rfl ?_ | refine And.intro trivial ?_ | intro _)
    exact ⟨⟨_, _, rfl⟩, rfl, rfl, trivial⟩
  rw [if_neg h1]
  have hb := byteC_in l hl _ ha.1
  have hd := byteC_in l hl _ hb.1
  have he := byteC_in l hl _ hd.1
  have sb := s_l01Byte l hl _ ha.1
  have sd := s_l01Byte l hl _ hb.1
  have se := s_l01Byte l hl _ hd.1
  refine fnP Try.func34 ?_
  repeat (first | (first | refine brT ?_ | refine brF ?_ | refine And.intro rfl ?_ | refine And.intro trivial ?_ | intro _) | (refine brL ?kzz (fun _ => ?_); case kzz => (simp <;> omega)) | (refine brR ?kzz (fun _ => ?_); case kzz => (simp <;> omega)))
  refine ⟨_, _, sa, fun q => ?_⟩
  repeat (first | refine brT ?_ | refine brF ?_ | refine And.intro rfl ?_ | refine And.intro trivial ?_ | intro _)
  refine ⟨_, _, sb, fun q => ?_⟩
  repeat (first | refine brT ?_ | refine brF ?_ | refine And.intro rfl ?_ | refine And.intro trivial ?_ | intro _)
  refine ⟨_, _, sd, fun q => ?_⟩
  repeat (first | refine brT ?_ | refine brF ?_ | refine And.intro rfl ?_ | refine And.intro trivial ?_ | intro _)
  refine ⟨_, _, se, fun q => ?_⟩
  repeat (first | refine brT ?_ | refine brF ?_ | refine And.intro rfl ?_ | refine And.intro trivial ?_ | intro _)
  refine ⟨by omega, ?_⟩
  repeat (first | refine brT ?_ | refine brF ?_ | refine And.intro rfl ?_ | refine And.intro trivial ?_ | intro _)
  exact ⟨⟨_, _, rfl⟩, rfl, rfl, trivial⟩


end Go.Proofs.Ytadpancnhinlbaa.E
