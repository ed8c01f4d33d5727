/- Contracts of functions of this seat's program. -/
import Derived.Test.YtadpancnhinlbaaETy
import Derived.Test.YtadpancnhinlbaaERn
namespace Go.Proofs.Ytadpancnhinlbaa.E
set_option linter.unusedVariables false
set_option linter.unusedSimpArgs false
set_option maxHeartbeats 1600000
def mixB (h : Int) : Int := w64 (w64 (h * 6364136223846793005) + 1442695040888963407)
def rawB (h : Int) : Int := Go.bits .and .i64 (Go.bits .xor .i64 (mixB h / 2 ^ (33 : Int).toNat) (mixB h / 2 ^ (45 : Int).toNat)) 255
def byteC (l : List Int) (c : Int × Int) : (Int × Int) × Int :=
  if c.1 < l.length then ((w64 (c.1 + 1), mixB c.2), Go.bits .and .i64 (w64 (rawB c.2 + w64 (l.getD c.1.toNat 0))) 255) else ((c.1, mixB c.2), rawB c.2)
theorem byteC_in (l : List Int) (hl : l.length ≤ bound) (c : Int × Int) (h : 0 ≤ c.1) : 0 ≤ (byteC l c).1.1 ∧ 0 ≤ (byteC l c).2 ∧ (byteC l c).2 ≤ 255 := by
  have hl' : l.length ≤ 16777216 := hl
  unfold byteC
  split
  · have := and255 (w64 (rawB c.2 + w64 (l.getD c.1.toNat 0)))
    refine ⟨?_, this.1, this.2⟩
    show 0 ≤ w64 (c.1 + 1)
    rw [w64_id (by omega) (by omega)]; omega
  · have := and255 (Go.bits .xor .i64 (mixB c.2 / 2 ^ (33 : Int).toNat) (mixB c.2 / 2 ^ (45 : Int).toNat))
    exact ⟨h, this.1, this.2⟩
abbrev curT (l : List Int) (c : Int × Int) : List T := [.sl 1 (l.map T.u8), T.int c.1, T.int c.2]
theorem s_l01Byte (l : List Int) (hl : l.length ≤ bound) (c : Int × Int) (h : 0 ≤ c.1) : SpecP Try.prog 56 (curT l c) (curT l (byteC l c).1) [] [T.int (byteC l c).2] := by
  have hl' : l.length ≤ 16777216 := hl
  obtain ⟨i, m⟩ := c
  unfold byteC
  simp only at h ⊢
  refine fnP Try.func56 ?_
  repeat (first | refine brT ?_ | refine brF ?_ | refine And.intro rfl ?_ | refine And.intro trivial ?_ | intro _)
  refine drM0 (Pl.go 0 (Pl.go 5 ((Pl.go 1 (Pl.go 2 ((Pl.go 3 (Pl.go 4 (Pl.go 6 (Pl.go 7 (Pl.go 8 (Pl.go 9 (Pl.go 10 (Pl.go 11 (Pl.go 12 Pl.stop))))))))).or (Pl.go 6 (Pl.go 7 ((Pl.go 3 (Pl.go 4 (Pl.go 8 (Pl.go 9 (Pl.go 10 (Pl.go 11 (Pl.go 12 Pl.stop))))))).or (Pl.go 8 (Pl.go 9 (Pl.go 3 (Pl.go 4 (Pl.go 10 (Pl.go 11 (Pl.go 12 Pl.stop))))))))))))).or (Pl.go 6 (Pl.go 7 ((Pl.go 1 (Pl.go 2 ((Pl.go 3 (Pl.go 4 (Pl.go 8 (Pl.go 9 (Pl.go 10 (Pl.go 11 (Pl.go 12 Pl.stop))))))).or (Pl.go 8 (Pl.go 9 (Pl.go 3 (Pl.go 4 (Pl.go 10 (Pl.go 11 (Pl.go 12 Pl.stop)))))))))).or (Pl.go 8 (Pl.go 9 (Pl.go 1 (Pl.go 2 (Pl.go 3 (Pl.go 4 (Pl.go 10 (Pl.go 11 (Pl.go 12 Pl.stop))))))))))))))) (fun s => s = ⟨58, [(0, .c (.bx 500 0 0)), (3, .int (rawB m))], [(500, .box 0 [.fx 0 1 (l.map T.u8), .v (.int .i64 i), .v (.int .i64 (mixB m))])]⟩) (by kernel_rfl) ?_ ?_
  · repeat' (first | (first | refine brT ?_ | refine brF ?_ | refine And.intro rfl ?_ | refine And.intro trivial ?_ | intro _) | refine ⟨⟨(of_decide_eq_true rfl : (0 : Int) ≤ _), (of_decide_eq_true rfl : (_ : Int) ≤ _)⟩, ?_⟩ | refine And.intro ?_ ?_)
    all_goals exact ⟨_, rfl, wk rfl ⟨rfl, rfl, trivial⟩ ⟨rfl, trivial⟩⟩
  rintro s rfl
  repeat (first | refine brT ?_ | refine brF ?_ | refine And.intro rfl ?_ | refine And.intro trivial ?_ | intro _)
  refine drM0 (Pl.go 0 (Pl.go 4 ((Pl.go 1 (Pl.go 2 ((Pl.go 3 (Pl.go 5 (Pl.go 6 (Pl.go 7 (Pl.go 8 (Pl.go 9 Pl.stop)))))).or (Pl.go 5 (Pl.go 6 ((Pl.go 3 (Pl.go 7 (Pl.go 8 (Pl.go 9 Pl.stop)))).or (Pl.go 7 (Pl.go 8 (Pl.go 3 (Pl.go 9 Pl.stop)))))))))).or (Pl.go 5 (Pl.go 6 ((Pl.go 1 (Pl.go 2 ((Pl.go 3 (Pl.go 7 (Pl.go 8 (Pl.go 9 Pl.stop)))).or (Pl.go 7 (Pl.go 8 (Pl.go 3 (Pl.go 9 Pl.stop))))))).or (Pl.go 7 (Pl.go 8 (Pl.go 1 (Pl.go 2 (Pl.go 3 (Pl.go 9 Pl.stop)))))))))))) (fun s => s = ⟨58, [(0, .c (.bx 500 0 0)), (3, .int (rawB m)), (34, .bool (decide (i < ((l.map T.u8).length : Int))))], [(500, .box 0 [.fx 0 1 (l.map T.u8), .v (.int .i64 i), .v (.int .i64 (mixB m))])]⟩) (by kernel_rfl) ?_ ?_
  · repeat' (first | (first | refine brT ?_ | refine brF ?_ | refine And.intro rfl ?_ | refine And.intro trivial ?_ | intro _) | refine And.intro ?_ ?_)
    all_goals exact ⟨_, rfl, wk rfl ⟨rfl, rfl, rfl, trivial⟩ ⟨rfl, trivial⟩⟩
  rintro s rfl
  repeat (first | refine brT ?_ | refine brF ?_ | refine And.intro rfl ?_ | refine And.intro trivial ?_ | intro _)
  by_cases hi : i < l.length
  · rw [if_pos hi]
    refine brR (by show ¬ (decide (i < ((l.map T.u8).length : Int)) = false); rw [List.length_map, decide_eq_true hi]; decide) (fun _ => ?_)
    have hat : (l.map T.u8)[i.toNat]? = some (T.u8 (l.getD i.toNat 0)) := by
      have : i.toNat < l.length := by omega
      rw [List.getElem?_map, List.getElem?_eq_getElem this, List.getD_eq_getElem?_getD, List.getElem?_eq_getElem this]; rfl
    refine drM0 (Pl.go 0 (Pl.go 1 (Pl.go 5 ((Pl.go 2 (Pl.go 3 ((Pl.go 4 (Pl.go 6 (Pl.go 7 (Pl.go 8 (Pl.go 9 (Pl.go 10 (Pl.go 11 (Pl.go 12 (Pl.go 13 (Pl.go 14 Pl.stop)))))))))).or (Pl.go 6 (Pl.go 7 ((Pl.go 4 (Pl.go 8 (Pl.go 9 (Pl.go 10 (Pl.go 11 (Pl.go 12 (Pl.go 13 (Pl.go 14 Pl.stop)))))))).or (Pl.go 8 (Pl.go 4 (Pl.go 9 (Pl.go 10 (Pl.go 11 (Pl.go 12 (Pl.go 13 (Pl.go 14 Pl.stop)))))))))))))).or (Pl.go 6 (Pl.go 7 ((Pl.go 2 (Pl.go 3 ((Pl.go 4 (Pl.go 8 (Pl.go 9 (Pl.go 10 (Pl.go 11 (Pl.go 12 (Pl.go 13 (Pl.go 14 Pl.stop)))))))).or (Pl.go 8 (Pl.go 4 (Pl.go 9 (Pl.go 10 (Pl.go 11 (Pl.go 12 (Pl.go 13 (Pl.go 14 Pl.stop))))))))))).or (Pl.go 8 (Pl.go 2 (Pl.go 3 (Pl.go 4 (Pl.go 9 (Pl.go 10 (Pl.go 11 (Pl.go 12 (Pl.go 13 (Pl.go 14 Pl.stop))))))))))))))))) (fun s => s = ⟨58, [(0, .c (.bx 500 0 0)), (3, .int (Go.bits .and .i64 (w64 (rawB m + w64 (l.getD i.toNat 0))) 255))], [(500, .box 0 [.fx 0 1 (l.map T.u8), .v (.int .i64 i), .v (.int .i64 (mixB m))])]⟩) (by kernel_rfl) ?_ ?_
    · repeat' (first | (first | refine brT ?_ | refine brF ?_ | refine And.intro rfl ?_ | refine And.intro trivial ?_ | intro _) | refine ⟨h, T.u8 (l.getD i.toNat 0), hat, ?_⟩ | refine And.intro ?_ ?_)
      all_goals exact ⟨_, rfl, wk rfl ⟨rfl, rfl, trivial⟩ ⟨rfl, trivial⟩⟩
    rintro s rfl
    repeat (first | refine brT ?_ | refine brF ?_ | refine And.intro rfl ?_ | refine And.intro trivial ?_ | intro _)
    exact ⟨⟨_, _, rfl⟩, rfl, rfl, trivial⟩
  · rw [if_neg hi]
    refine brL (by show ¬ (decide (i < ((l.map T.u8).length : Int)) = true); rw [List.length_map, decide_eq_false hi]; decide) (fun _ => ?_)
    repeat (first | refine brT ?_ | refine brF ?_ | refine And.intro rfl ?_ | refine And.intro trivial ?_ | intro _)
    exact ⟨⟨_, _, rfl⟩, rfl, rfl, trivial⟩


end Go.Proofs.Ytadpancnhinlbaa.E
