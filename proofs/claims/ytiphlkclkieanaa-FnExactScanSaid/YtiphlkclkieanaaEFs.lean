/- Contracts of functions of this seat's program. -/
import Derived.Test.YtiphlkclkieanaaETy
import Derived.Test.YtiphlkclkieanaaEFr
namespace Go.Proofs.Ytiphlkclkieanaa.E
set_option linter.unusedVariables false
set_option maxHeartbeats 1600000
theorem s_FrameRead (b : List Int) (a : Int) (hb : isB b) (hl : b.length ≤ bound) : Spec Try.prog 27 [.ro (.sl 1 (b.map T.u8)), .ro (T.int a)] [T.int (frameRead b a).1, .sl 1 ((frameRead b a).2.1.map T.u8), T.int (frameRead b a).2.2.1, T.int (frameRead b a).2.2.2] := by
  have hl' : b.length ≤ 16777216 := hl
  refine fn Try.func27 ?_
  by_cases h0 : a < 0 ∨ a > b.length
  · have e : frameRead b a = (0, [], 0, 1) := if_pos h0
    rw [e]
    repeat' (first | (first | refine brT ?_ | refine brF ?_ | refine And.intro rfl ?_ | refine And.intro trivial ?_ | intro _) | refine brI (fun _ => ?_) (fun _ => ?_))
    all_goals first
      | (exfalso; simp_all; omega)
      | exact ⟨1, rfl⟩
  unfold frameRead
  rw [if_neg h0]
  obtain ⟨n, rfl⟩ : ∃ n : Nat, a = n := ⟨a.toNat, by omega⟩
  have hn : n ≤ b.length := by omega
  have e0 : ((n : Int)).toNat = n := by omega
  rw [e0]
  have hf : isB (b.drop n) := fun x hx => hb x (List.mem_of_mem_drop hx)
  have hfl : (b.drop n).length = b.length - n := List.length_drop ..
  have k1 : w64 ((b.length : Int) - n) = (b.length : Int) - n := w64_id (by omega) (by omega)
  have get : ∀ (i k : Nat), k ≤ 4 → n + i + k ≤ b.length → i ≤ 15 → Spec Try.prog 37 [.ro (.sl 1 (b.map T.u8)), .ro (T.int (w64 ((n : Int) + i))), .ro (T.int k)] [T.int (getF 0 (((b.drop n).drop i).take k))] := by
    intro i k hk hle hi
    have h1 := s_l02Get b (n + i) k hb hl hk hle
    rw [List.drop_drop, w64_id (by omega) (by omega)]
    exact h1
  by_cases h1 : (b.drop n).length < 11
  · rw [if_pos h1]
    repeat (first | (first | refine brT ?_ | refine brF ?_ | refine And.intro rfl ?_ | refine And.intro trivial ?_ | intro _) | (refine brL ?a (fun _ => ?_); case a => (simp <;> omega)))
    refine brR (by show ¬ decide (w64 (((b.map T.u8).length : Int) - n) < 11) = false; rw [List.length_map, k1]; simp; omega) (fun _ => ?_)
    repeat (first | refine brT ?_ | refine brF ?_ | refine And.intro rfl ?_ | refine And.intro trivial ?_ | intro _)
    exact ⟨1, rfl⟩
  rw [if_neg h1]
  have l15 := fCnt_in hf
  repeat (first | (first | refine brT ?_ | refine brF ?_ | refine And.intro rfl ?_ | refine And.intro trivial ?_ | intro _) | (refine brL ?a (fun _ => ?_); case a => (simp <;> omega)))
  refine brL (by show ¬ decide (w64 (((b.map T.u8).length : Int) - n) < 11) = true; rw [List.length_map, k1]; simp; omega) (fun _ => ?_)
  repeat (first | refine brT ?_ | refine brF ?_ | refine And.intro rfl ?_ | refine And.intro trivial ?_ | intro _)
  refine ⟨_, get 1 3 (by decide) (by omega) (by decide), ?_⟩
  repeat (first | refine brT ?_ | refine brF ?_ | refine And.intro rfl ?_ | refine And.intro trivial ?_ | intro _)
  refine ⟨_, get 4 3 (by decide) (by omega) (by decide), ?_⟩
  repeat (first | refine brT ?_ | refine brF ?_ | refine And.intro rfl ?_ | refine And.intro trivial ?_ | intro _)
  have ch := get 7 4 (by decide) (by omega) (by decide)
  have cu := get 11 4 (by decide)
  have e7 : ((b.map T.u8).take (w64 ((n : Int) + 7)).toNat).drop ((n : Int)).toNat = ((b.drop n).take 7).map T.u8 := by
    rw [w64_id (by omega) (by omega), show ((n : Int) + 7).toNat = n + 7 by omega, e0, sl_u8, show n + 7 - n = 7 by omega]
  have c7 := s_Crc' ((b.drop n).take 7) _ e7 (isB_take hf _) (by rw [List.length_take]; unfold bound; omega)
  have hat : (b.map T.u8)[((n : Int)).toNat]? = some (T.u8 (fFirst (b.drop n))) := by
    rw [first_at (show 0 < (b.drop n).length by omega), List.getElem_drop]; exact atm (i := n) (by omega)
  have z0 : (0 : Int) ≤ n := by omega
  have z7 : 0 ≤ w64 ((n : Int) + 7) := by rw [w64_id (by omega) (by omega)]; omega
  have z8 : ((n : Int)).toNat ≤ (w64 ((n : Int) + 7)).toNat := by rw [w64_id (by omega) (by omega)]; omega
  have z9 : (w64 ((n : Int) + 7)).toNat ≤ (b.map T.u8).length := by rw [w64_id (by omega) (by omega), List.length_map]; omega
  have hbl : b.length = n + (b.drop n).length := by omega
  generalize hfd : b.drop n = f at *
  refine drM (Pl.go 0 (Pl.go 1 (Pl.go 2 (Pl.go 3 (Pl.go 4 (Pl.go 5 (Pl.go 6 (Pl.go 7 (Pl.go 8 (Pl.go 10 (Pl.go 11 (Pl.go 12 (Pl.go 13 ((Pl.go 9 (Pl.go 14 (Pl.go 15 (Pl.go 16 (Pl.go 17 (Pl.go 18 (Pl.go 19 (Pl.go 20 (Pl.go 21 (Pl.go 22 (Pl.go 23 (Pl.go 24 (Pl.go 25 Pl.stop))))))))))))).or (Pl.go 14 (Pl.go 9 (Pl.go 15 (Pl.go 16 (Pl.go 17 (Pl.go 18 (Pl.go 19 (Pl.go 20 (Pl.go 21 (Pl.go 22 (Pl.go 23 (Pl.go 24 (Pl.go 25 Pl.stop))))))))))))))))))))))))))) (fun m => ∃ c : Bool, c = fBad f ∧ m = ⟨88, [(0, .c (.ro 1 (b.map T.u8))), (1, .int n), (8, .int (fSeq f)), (9, .int (fCnt f)), (57, .bool c)], []⟩) (by kernel_rfl) ?_ ?_
  · repeat' (first | (first | refine brT ?_ | refine brF ?_ | refine And.intro rfl ?_ | refine And.intro trivial ?_ | intro _) | refine ⟨z0, T.u8 (fFirst f), hat, ?_⟩ | refine ⟨z0, z7, z8, z9, ?_⟩ | refine ⟨_, ch, ?_⟩ | refine ⟨_, c7, ?_⟩ | refine brI (fun _ => ?_) (fun _ => ?_) | refine And.intro ?_ ?_)
    all_goals refine ⟨_, ⟨_, ?_, rfl⟩, wk rfl ⟨rfl, rfl, rfl, rfl, rfl, trivial⟩ trivial⟩
    all_goals (clear cu ch c7 hat get e7 z0 z7 z8 z9 hbl hfl k1 h1 hf hb hl hl' hn h0 e0 hfd; simp only [fBad, fSeq, fCnt, fHead] at *; simp_all <;> (intros; omega))
  rintro m ⟨c, rfl, rfl⟩
  refine brI (fun h2 => ?_) (fun h2 => ?_)
  · rw [if_pos h2]
    repeat (first | refine brT ?_ | refine brF ?_ | refine And.intro rfl ?_ | refine And.intro trivial ?_ | intro _)
    exact ⟨1, rfl⟩
  rw [if_neg (by simp [h2])]
  have ew : w64 (w64 ((b.length : Int) - n) - 15) = (f.length : Int) - 15 := by rw [k1, w64_id (by omega) (by omega)]; omega
  by_cases h3 : (f.length : Int) < 15 + fCnt f
  · rw [if_pos h3]
    repeat (first | refine brT ?_ | refine brF ?_ | refine And.intro rfl ?_ | refine And.intro trivial ?_ | intro _)
    refine brR (by show ¬ decide (fCnt f > w64 (w64 (((b.map T.u8).length : Int) - n) - 15)) = false; rw [List.length_map, ew]; simp; omega) (fun _ => ?_)
    repeat (first | refine brT ?_ | refine brF ?_ | refine And.intro rfl ?_ | refine And.intro trivial ?_ | intro _)
    exact ⟨1, rfl⟩
  rw [if_neg h3]
  repeat (first | refine brT ?_ | refine brF ?_ | refine And.intro rfl ?_ | refine And.intro trivial ?_ | intro _)
  refine brL (by show ¬ decide (fCnt f > w64 (w64 (((b.map T.u8).length : Int) - n) - 15)) = true; rw [List.length_map, ew]; simp; omega) (fun _ => ?_)
  repeat (first | refine brT ?_ | refine brF ?_ | refine And.intro rfl ?_ | refine And.intro trivial ?_ | intro _)
  refine ⟨cB [], fun q0 => ?_⟩
  repeat (first | refine brT ?_ | refine brF ?_ | refine And.intro rfl ?_ | refine And.intro trivial ?_ | intro _)
  have y1 : w64 ((n : Int) + 15) = ((n + 15 : Nat) : Int) := by rw [w64_id (by omega) (by omega)]; omega
  have y2 : w64 (w64 ((n : Int) + 15) + fCnt f) = ((n + 15 + (fCnt f).toNat : Nat) : Int) := by rw [y1, w64_id (by omega) (by omega)]; omega
  have y3 : (w64 ((n : Int) + 15)).toNat = n + 15 := by rw [y1]; omega
  have y4 : (w64 (w64 ((n : Int) + 15) + fCnt f)).toNat = n + 15 + (fCnt f).toNat := by rw [y2]; omega
  refine ⟨by show 0 ≤ w64 ((n : Int) + 15); rw [y1]; omega, by show 0 ≤ w64 (w64 ((n : Int) + 15) + fCnt f); rw [y2]; omega, by show (w64 ((n : Int) + 15)).toNat ≤ (w64 (w64 ((n : Int) + 15) + fCnt f)).toNat; rw [y3, y4]; omega, by show (w64 (w64 ((n : Int) + 15) + fCnt f)).toNat ≤ (b.map T.u8).length; rw [y4, List.length_map]; omega, ?_⟩
  have e2 : ((b.map T.u8).take (w64 (w64 ((n : Int) + 15) + fCnt f)).toNat).drop (w64 ((n : Int) + 15)).toNat = (fData f).map T.u8 := by
    rw [y3, y4, sl_u8, show n + 15 + (fCnt f).toNat - (n + 15) = (fCnt f).toNat by omega, ← List.drop_drop, hfd]; rfl
  have hdl : (fData f).length ≤ bound := by unfold fData; rw [List.length_take, List.length_drop]; unfold bound; omega
  repeat (first | refine brT ?_ | refine brF ?_ | refine And.intro rfl ?_ | refine And.intro trivial ?_ | intro _)
  rw [e2]
  refine ⟨vB, by simpa using hdl, fun q1 => ?_⟩
  repeat (first | refine brT ?_ | refine brF ?_ | refine And.intro rfl ?_ | refine And.intro trivial ?_ | intro _)
  refine ⟨_, cu (by omega) (by decide), ?_⟩
  repeat (first | refine brT ?_ | refine brF ?_ | refine And.intro rfl ?_ | refine And.intro trivial ?_ | intro _)
  refine ⟨_, s_Crc' (fData f) _ (by rfl) (isB_sub hf _ _) hdl, ?_⟩
  repeat (first | refine brT ?_ | refine brF ?_ | refine And.intro rfl ?_ | refine And.intro trivial ?_ | intro _)
  by_cases h4 : fSum f = crcOf (fData f)
  · rw [if_neg (by simpa using h4)]
    refine brL (by show ¬ (fSum f != crcOf (fData f)) = true; simpa using h4) (fun _ => ?_)
    repeat (first | refine brT ?_ | refine brF ?_ | refine And.intro rfl ?_ | refine And.intro trivial ?_ | intro _)
    have ez : w64 (w64 ((n : Int) + 15) + fCnt f) = (n : Int) + 15 + fCnt f := by rw [y2]; omega
    exact congrArg (fun z => [T.int (fSeq f), T.sl 1 ((fData f).map T.u8), T.int z, T.int 0]) ez
  · rw [if_pos (by simpa using h4)]
    refine brR (by show ¬ (fSum f != crcOf (fData f)) = false; simpa using h4) (fun _ => ?_)
    repeat (first | refine brT ?_ | refine brF ?_ | refine And.intro rfl ?_ | refine And.intro trivial ?_ | intro _)
    exact ⟨1, rfl⟩


end Go.Proofs.Ytiphlkclkieanaa.E
