/- Contracts of functions of this seat's program. -/
import Derived.Test.YtadpancnhinlbaaETy
import Derived.Test.YtadpancnhinlbaaERp
namespace Go.Proofs.Ytadpancnhinlbaa.E
set_option linter.unusedVariables false
set_option linter.unusedSimpArgs false
set_option maxHeartbeats 1600000
def belowC (l : List Int) (c : Int × Int) (n : Int) : (Int × Int) × Int :=
  if n ≤ 0 then (c, 0) else if n ≤ 256 then ((byteC l c).1, (byteC l c).2.tmod n) else
    let a := byteC l c; let b := byteC l a.1; let d := byteC l b.1; let e := byteC l d.1
    (e.1, (w64 (w64 (w64 (w64 (a.2 * 16777216) + w64 (b.2 * 65536)) + w64 (d.2 * 256)) + e.2)).tmod n)
theorem val4 {a b d e : Int} (ha : 0 ≤ a ∧ a ≤ 255) (hb : 0 ≤ b ∧ b ≤ 255) (hd : 0 ≤ d ∧ d ≤ 255) (he : 0 ≤ e ∧ e ≤ 255) : 0 ≤ w64 (w64 (w64 (w64 (a * 16777216) + w64 (b * 65536)) + w64 (d * 256)) + e) := by
  rw [w64_id (n := a * 16777216) (by omega) (by omega), w64_id (n := b * 65536) (by omega) (by omega), w64_id (n := d * 256) (by omega) (by omega), w64_id (n := a * 16777216 + b * 65536) (by omega) (by omega), w64_id (n := a * 16777216 + b * 65536 + d * 256) (by omega) (by omega), w64_id (by omega) (by omega)]
  omega
theorem belowC_in (l : List Int) (hl : l.length ≤ bound) (c : Int × Int) (h : 0 ≤ c.1) (n : Int) : 0 ≤ (belowC l c n).1.1 ∧ 0 ≤ (belowC l c n).2 ∧ (0 < n → (belowC l c n).2 < n) := by
  unfold belowC
  by_cases h0 : n ≤ 0
  · rw [if_pos h0]; exact ⟨h, Int.le_refl _, fun h1 => by omega⟩
  rw [if_neg h0]
  by_cases h1 : n ≤ 256
  · rw [if_pos h1]
    have := byteC_in l hl c h
    exact ⟨this.1, Int.tmod_nonneg _ this.2.1, fun _ => Int.tmod_lt_of_pos _ (by omega)⟩
  rw [if_neg h1]
  have ha := byteC_in l hl c h
  have hb := byteC_in l hl _ ha.1
  have hd := byteC_in l hl _ hb.1
  have he := byteC_in l hl _ hd.1
  refine ⟨he.1, Int.tmod_nonneg _ ?_, fun _ => Int.tmod_lt_of_pos _ (by omega)⟩
  exact val4 ha.2 hb.2 hd.2 he.2
theorem s_l01Below (l : List Int) (hl : l.length ≤ bound) (c : Int × Int) (h : 0 ≤ c.1) (n : Int) : SpecP Try.prog 34 (curT l c) (curT l (belowC l c n).1) [T.int n] [T.int (belowC l c n).2] := by
  unfold belowC
  by_cases h0 : n ≤ 0
  · rw [if_pos h0]
    refine fnP Try.func34 ?_
    repeat (first | (first | refine brT ?_ | refine brF ?_ | refine And.intro rfl ?_ | refine And.intro trivial ?_ | intro _) | (refine brL ?kzz (fun _ => ?_); case kzz => (simp <;> omega)) | (refine brR ?kzz (fun _ => ?_); case kzz => (simp <;> omega)))
    exact ⟨⟨_, _, rfl⟩, rfl, rfl, trivial⟩
  rw [if_neg h0]
  have ha := byteC_in l hl c h
  have sa := s_l01Byte l hl c h
  by_cases h1 : n ≤ 256
  · rw [if_pos h1]
    refine fnP Try.func34 ?_
    repeat (first | (first | refine brT ?_ | refine brF ?_ | refine And.intro rfl ?_ | refine And.intro trivial ?_ | intro _) | (refine brL ?kzz (fun _ => ?_); case kzz => (simp <;> omega)) | (refine brR ?kzz (fun _ => ?_); case kzz => (simp <;> omega)))
    refine ⟨_, _, sa, fun q => ?_⟩
    repeat (first | (first | refine brT ?_ | refine brF ?_ | refine And.intro rfl ?_ | refine And.intro trivial ?_ | intro _) | (refine brL ?kzz (fun _ => ?_); case kzz => (simp <;> omega)) | (refine brR ?kzz (fun _ => ?_); case kzz => (simp <;> omega)))
    refine ⟨by omega, ?_⟩
    repeat (first | refine brT ?_ | refine brF ?_ | refine And.intro rfl ?_ | refine And.intro trivial ?_ | intro _)
    exact ⟨⟨_, _, rfl⟩, rfl, rfl, trivial⟩
  rw [if_neg h1]
  have hb := byteC_in l hl _ ha.1
  have hd := byteC_in l hl _ hb.1
  have he := byteC_in l hl _ hd.1
  have sb := s_l01Byte l hl _ ha.1
  have sd := s_l01Byte l hl _ hb.1
  have se := s_l01Byte l hl _ hd.1
  refine fnP Try.func34 ?_
  repeat (first | (first | refine brT ?_ | refine brF ?_ | refine And.intro rfl ?_ | refine And.intro trivial ?_ | intro _) | (refine brL ?kzz (fun _ => ?_); case kzz => (simp <;> omega)) | (refine brR ?kzz (fun _ => ?_); case kzz => (simp <;> omega)))
  refine ⟨_, _, sa, fun q => ?_⟩
  repeat (first | refine brT ?_ | refine brF ?_ | refine And.intro rfl ?_ | refine And.intro trivial ?_ | intro _)
  refine ⟨_, _, sb, fun q => ?_⟩
  repeat (first | refine brT ?_ | refine brF ?_ | refine And.intro rfl ?_ | refine And.intro trivial ?_ | intro _)
  refine ⟨_, _, sd, fun q => ?_⟩
  repeat (first | refine brT ?_ | refine brF ?_ | refine And.intro rfl ?_ | refine And.intro trivial ?_ | intro _)
  refine ⟨_, _, se, fun q => ?_⟩
  repeat (first | refine brT ?_ | refine brF ?_ | refine And.intro rfl ?_ | refine And.intro trivial ?_ | intro _)
  refine ⟨by omega, ?_⟩
  repeat (first | refine brT ?_ | refine brF ?_ | refine And.intro rfl ?_ | refine And.intro trivial ?_ | intro _)
  exact ⟨⟨_, _, rfl⟩, rfl, rfl, trivial⟩


end Go.Proofs.Ytadpancnhinlbaa.E
