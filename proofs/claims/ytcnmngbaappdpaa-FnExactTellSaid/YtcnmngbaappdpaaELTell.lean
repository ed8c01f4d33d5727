/- Contracts of functions of this seat's program. -/
import Derived.Test.YtcnmngbaappdpaaETy
import Derived.Test.YtcnmngbaappdpaaETm
namespace Go.Proofs.Ytcnmngbaappdpaa.E
set_option linter.unusedVariables false
theorem sm_Gor {x : Y_Gor} (hr : raw_Gor x) (h : ¬ f_Gor x 1048576 < 0) : x.2.2.1.length ≤ 1048576 ∧ x.2.2.2.2.length ≤ 1048576 := by
  unfold f_Gor at h
  split at h
  · omega
  rename_i c0
  have a := szI_in hr.2.2.1.1 (by decide) (by decide) c0
  split at h
  · omega
  rename_i c1
  have b := szI_in hr.2.2.2.2.1 (by omega) (by omega) c1
  omega


theorem l_FnExactTell (x : Y_Gor) (y : Y_Item) (hr : raw_Gor x) : Spec Try.prog 5 [.ro (t_Gor x), .ro (t_Item y)] [T.bool true] := by
  refine fn Try.func5 ?_
  repeat (first | (first | refine ⟨rfl, ?_⟩ | refine brT ?_ | refine brF ?_ | intro _) | (refine brL ?a (fun _ => ?_); case a => (simp <;> omega)) | (refine brR ?a (fun _ => ?_); case a => (simp <;> omega)))
  refine ⟨_, s_szGor x 1048576 hr (by decide) (by decide), ?_⟩
  repeat (first | (first | refine ⟨rfl, ?_⟩ | refine brT ?_ | refine brF ?_ | intro _) | (refine brL ?a (fun _ => ?_); case a => (simp <;> omega)) | (refine brR ?a (fun _ => ?_); case a => (simp <;> omega)))
  refine brI (fun h => ?_) (fun h => ?_)
  · exact tb rfl
  have h := of_decide_eq_false h
  obtain ⟨ho, _, _⟩ := in_Gor hr (by decide) (by decide) h
  have hs := sm_Gor hr h
  have hb : x.2.2.2.2.length + 1 ≤ bound := by unfold bound; omega
  have hu : ok_Gor (tell x y) := ⟨ho.1, ⟨by simp only [tell, List.length_append, List.length_singleton]; exact hb, fun _ _ => trivial⟩⟩
  have n1 := nvle_Gor x ho
  have n2 := nvle_Gor _ hu
  have m1 := nv0_Gor x
  have m2 := nv0_Gor (tell x y)
  repeat (first | (first | refine ⟨rfl, ?_⟩ | refine brT ?_ | refine brF ?_ | intro _) | (refine brL ?a (fun _ => ?_); case a => (simp <;> omega)) | (refine brR ?a (fun _ => ?_); case a => (simp <;> omega)))
  refine drM (Pl.go 0 (Pl.go 2 ((Pl.go 1 ((Pl.go 3 ((Pl.go 4 (Pl.go 5 (Pl.go 6 Pl.stop))).or (Pl.go 5 (Pl.go 4 (Pl.go 6 Pl.stop))))).or (Pl.go 5 (Pl.go 3 (Pl.go 4 (Pl.go 6 Pl.stop)))))).or (Pl.go 5 (Pl.go 1 (Pl.go 3 (Pl.go 4 (Pl.go 6 Pl.stop)))))))) (fun m => ∃ Q3000 Q4000 Q7000 Q23002 Q23004 V23002 V23004 : Nat, m = ⟨77, [(2, .c (.bx 3000 Q3000 0)), (3, .c (.bx 4000 Q4000 0)), (4, .bool (false)), (6, .c (.bx 7000 Q7000 0))], [(3000, .box Q3000 [.v (.int .i64 (x.1)), .v (.int .i64 (x.2.1)), .ro 1 (((x.2.2.1).map T.int)), .v (.int .i64 (x.2.2.2.1)), .ro 4 (((x.2.2.2.2).map t_Item))]), (4000, .box Q4000 [.v (.int .i64 (y.1)), .v (.int .i64 (y.2.1)), .v (.int .i64 (y.2.2.1)), .v (.bool (y.2.2.2))]), (7000, .box Q7000 [.v (.int .i64 ((tell x y).1)), .v (.int .i64 ((tell x y).2.1)), .own 23002 Q23002, .v (.int .i64 ((tell x y).2.2.2.1)), .own 23004 Q23004]), (23002, .row Q23002 V23002 1 ((((tell x y).2.2.1).map T.int))), (23004, .row Q23004 V23004 4 ((((tell x y).2.2.2.2).map t_Item)))]⟩) (by kernel_rfl) ?_ ?_
  · repeat' (first | (first | refine ⟨rfl, ?_⟩ | refine brT ?_ | refine brF ?_ | intro _) | refine ⟨_, s_toGor x ho, ?_⟩ | refine ⟨_, s_toItem y trivial, ?_⟩ | refine ⟨_, s_Tell x y ho hb, ?_⟩ | refine And.intro ?_ ?_)
    all_goals exact ⟨_, ⟨_, _, _, _, _, _, _, rfl⟩, wk rfl ⟨rfl, rfl, rfl, rfl, trivial⟩ ⟨rfl, rfl, rfl, rfl, rfl, trivial⟩⟩
  rintro m ⟨Q3000, Q4000, Q7000, Q23002, Q23004, V23002, V23004, rfl⟩
  repeat (first | (first | refine ⟨rfl, ?_⟩ | refine brT ?_ | refine brF ?_ | intro _) | (refine brL ?a (fun _ => ?_); case a => (simp <;> omega)) | (refine brR ?a (fun _ => ?_); case a => (simp <;> omega)))
  refine ⟨_, s_toGor x ho, ?_⟩
  repeat (first | (first | refine ⟨rfl, ?_⟩ | refine brT ?_ | refine brF ?_ | intro _) | (refine brL ?a (fun _ => ?_); case a => (simp <;> omega)) | (refine brR ?a (fun _ => ?_); case a => (simp <;> omega)))
  refine drM (Pl.go 0 (Pl.go 1 ((Pl.go 2 ((Pl.go 3 (Pl.go 4 (Pl.go 5 Pl.stop))).or (Pl.go 4 (Pl.go 3 (Pl.go 5 Pl.stop))))).or (Pl.go 4 (Pl.go 2 (Pl.go 3 (Pl.go 5 Pl.stop))))))) (fun m => ∃ Q3000 Q4000 Q7000 Q23002 Q23004 Q8000 Q25002 Q25004 Q9000 Q29002 Q29004 V23002 V23004 V25002 V25004 V29002 V29004 : Nat, m = ⟨77, [(2, .c (.bx 3000 Q3000 0)), (3, .c (.bx 4000 Q4000 0)), (4, .bool (false)), (6, .c (.bx 7000 Q7000 0)), (7, .c (.bx 8000 Q8000 0)), (8, .c (.bx 9000 Q9000 0))], [(3000, .box Q3000 [.v (.int .i64 (x.1)), .v (.int .i64 (x.2.1)), .ro 1 (((x.2.2.1).map T.int)), .v (.int .i64 (x.2.2.2.1)), .ro 4 (((x.2.2.2.2).map t_Item))]), (4000, .box Q4000 [.v (.int .i64 (y.1)), .v (.int .i64 (y.2.1)), .v (.int .i64 (y.2.2.1)), .v (.bool (y.2.2.2))]), (7000, .box Q7000 [.v (.int .i64 ((tell x y).1)), .v (.int .i64 ((tell x y).2.1)), .own 23002 Q23002, .v (.int .i64 ((tell x y).2.2.2.1)), .own 23004 Q23004]), (23002, .row Q23002 V23002 1 ((((tell x y).2.2.1).map T.int))), (23004, .row Q23004 V23004 4 ((((tell x y).2.2.2.2).map t_Item))), (8000, .box Q8000 [.v (.int .i64 (x.1)), .v (.int .i64 (x.2.1)), .own 25002 Q25002, .v (.int .i64 (x.2.2.2.1)), .own 25004 Q25004]), (25002, .row Q25002 V25002 1 (((x.2.2.1).map T.int))), (25004, .row Q25004 V25004 4 (((x.2.2.2.2).map t_Item))), (9000, .box Q9000 [.v (.int .i64 ((tell x y).1)), .v (.int .i64 ((tell x y).2.1)), .own 29002 Q29002, .v (.int .i64 ((tell x y).2.2.2.1)), .own 29004 Q29004]), (29002, .row Q29002 V29002 1 ((((tell x y).2.2.1).map T.int))), (29004, .row Q29004 V29004 4 ((((tell x y).2.2.2.2).map t_Item)))]⟩) (by kernel_rfl) ?_ ?_
  · repeat' (first | (first | refine ⟨rfl, ?_⟩ | refine brT ?_ | refine brF ?_ | intro _) | refine ⟨_, s_toItem y trivial, ?_⟩ | refine ⟨_, i_Tell x y ho hb, ?_⟩ | refine And.intro ?_ ?_)
    all_goals exact ⟨_, ⟨_, _, _, _, _, _, _, _, _, _, _, _, _, _, _, _, _, rfl⟩, wk rfl ⟨rfl, rfl, rfl, rfl, rfl, rfl, trivial⟩ ⟨rfl, rfl, rfl, rfl, rfl, rfl, rfl, rfl, rfl, rfl, rfl, trivial⟩⟩
  rintro m ⟨Q3000, Q4000, Q7000, Q23002, Q23004, Q8000, Q25002, Q25004, Q9000, Q29002, Q29004, V23002, V23004, V25002, V25004, V29002, V29004, rfl⟩
  repeat (first | (first | refine ⟨rfl, ?_⟩ | refine brT ?_ | refine brF ?_ | intro _) | (refine brL ?a (fun _ => ?_); case a => (simp <;> omega)) | (refine brR ?a (fun _ => ?_); case a => (simp <;> omega)))
  refine ⟨_, s_eqGor (tell x y) (tell x y) hu, ?_⟩
  repeat (first | (first | refine ⟨rfl, ?_⟩ | refine brT ?_ | refine brF ?_ | intro _) | (refine brL ?a (fun _ => ?_); case a => (simp <;> omega)) | (refine brR ?a (fun _ => ?_); case a => (simp <;> omega)))
  repeat (first | (first | refine ⟨rfl, ?_⟩ | refine brT ?_ | refine brF ?_ | intro _) | (refine brL ?a (fun _ => ?_); case a => (simp <;> omega)) | (refine brR ?a (fun _ => ?_); case a => (simp <;> omega)))
  refine dr (Pl.go 0 (Pl.go 1 (Pl.go 2 (Pl.go 3 (Pl.go 4 Pl.stop))))) (by kernel_rfl) ?_
  repeat (first | (first | refine ⟨rfl, ?_⟩ | refine brT ?_ | refine brF ?_ | intro _) | (refine brL ?a (fun _ => ?_); case a => (simp <;> omega)) | (refine brR ?a (fun _ => ?_); case a => (simp <;> omega)))
  refine ⟨_, s_toGor x ho, ?_⟩
  repeat (first | (first | refine ⟨rfl, ?_⟩ | refine brT ?_ | refine brF ?_ | intro _) | (refine brL ?a (fun _ => ?_); case a => (simp <;> omega)) | (refine brR ?a (fun _ => ?_); case a => (simp <;> omega)))
  refine ⟨_, s_eqGor x x ho, ?_⟩
  repeat (first | (first | refine ⟨rfl, ?_⟩ | refine brT ?_ | refine brF ?_ | intro _) | (refine brL ?a (fun _ => ?_); case a => (simp <;> omega)) | (refine brR ?a (fun _ => ?_); case a => (simp <;> omega)))
  repeat (first | (first | refine ⟨rfl, ?_⟩ | refine brT ?_ | refine brF ?_ | intro _) | (refine brL ?a (fun _ => ?_); case a => (simp <;> omega)) | (refine brR ?a (fun _ => ?_); case a => (simp <;> omega)))
  refine ⟨_, rfl, rfl, _, s_markGor x (1) ho (by omega) (by omega), ?_⟩
  repeat (first | (first | refine ⟨rfl, ?_⟩ | refine brT ?_ | refine brF ?_ | intro _) | (refine brL ?a (fun _ => ?_); case a => (simp <;> omega)) | (refine brR ?a (fun _ => ?_); case a => (simp <;> omega)))
  refine ⟨_, s_eqGor (tell x y) (tell x y) hu, ?_⟩
  repeat (first | (first | refine ⟨rfl, ?_⟩ | refine brT ?_ | refine brF ?_ | intro _) | (refine brL ?a (fun _ => ?_); case a => (simp <;> omega)) | (refine brR ?a (fun _ => ?_); case a => (simp <;> omega)))
  repeat (first | (first | refine ⟨rfl, ?_⟩ | refine brT ?_ | refine brF ?_ | intro _) | (refine brL ?a (fun _ => ?_); case a => (simp <;> omega)) | (refine brR ?a (fun _ => ?_); case a => (simp <;> omega)))
  refine ⟨_, rfl, rfl, _, s_markGor (tell x y) (1) hu (by omega) (by omega), ?_⟩
  repeat (first | (first | refine ⟨rfl, ?_⟩ | refine brT ?_ | refine brF ?_ | intro _) | (refine brL ?a (fun _ => ?_); case a => (simp <;> omega)) | (refine brR ?a (fun _ => ?_); case a => (simp <;> omega)))
  refine ⟨_, s_heldGor (tell x y) (1) hu (by omega) (by omega), ?_⟩
  repeat (first | (first | refine ⟨rfl, ?_⟩ | refine brT ?_ | refine brF ?_ | intro _) | (refine brL ?a (fun _ => ?_); case a => (simp <;> omega)) | (refine brR ?a (fun _ => ?_); case a => (simp <;> omega)))
  repeat (first | (first | refine ⟨rfl, ?_⟩ | refine brT ?_ | refine brF ?_ | intro _) | (refine brL ?a (fun _ => ?_); case a => (simp <;> omega)) | (refine brR ?a (fun _ => ?_); case a => (simp <;> omega)))
  repeat (first | (first | refine ⟨rfl, ?_⟩ | refine brT ?_ | refine brF ?_ | intro _) | (refine brL ?a (fun _ => ?_); case a => (simp <;> omega)) | (refine brR ?a (fun _ => ?_); case a => (simp <;> omega)))
  refine drM (Pl.go 0 (Pl.go 2 ((Pl.go 1 ((Pl.go 3 ((Pl.go 4 (Pl.go 5 (Pl.go 6 Pl.stop))).or (Pl.go 5 (Pl.go 4 (Pl.go 6 Pl.stop))))).or (Pl.go 5 (Pl.go 3 (Pl.go 4 (Pl.go 6 Pl.stop)))))).or (Pl.go 5 (Pl.go 1 (Pl.go 3 (Pl.go 4 (Pl.go 6 Pl.stop)))))))) (fun m => ∃ Q7000 Q23002 Q23004 Q9000 Q29002 Q29004 Q13000 Q65002 Q65004 V23002 V23004 V29002 V29004 V65002 V65004 : Nat, m = ⟨77, [(4, .bool (false)), (6, .c (.bx 7000 Q7000 0)), (8, .c (.bx 9000 Q9000 0)), (10, .int (1 + nv_Gor (tell x y))), (11, .int (1 + nv_Gor (tell x y))), (12, .c (.bx 13000 Q13000 0))], [(7000, .box Q7000 [.v (.int .i64 ((tell x y).1)), .v (.int .i64 ((tell x y).2.1)), .own 23002 Q23002, .v (.int .i64 ((tell x y).2.2.2.1)), .own 23004 Q23004]), (23002, .row Q23002 V23002 1 ((((tell x y).2.2.1).map T.int))), (23004, .row Q23004 V23004 4 ((((tell x y).2.2.2.2).map t_Item))), (9000, .box Q9000 [.v (.int .i64 ((tell x y).1)), .v (.int .i64 ((tell x y).2.1)), .own 29002 Q29002, .v (.int .i64 ((tell x y).2.2.2.1)), .own 29004 Q29004]), (29002, .row Q29002 V29002 1 ((mkI ((tell x y).2.2.1).length (1)))), (29004, .row Q29004 V29004 4 ((mL m_Item n_Item ((tell x y).2.2.2.2) (1 + (((tell x y).2.2.1).length : Int))))), (13000, .box Q13000 [.v (.int .i64 ((tell x y).1)), .v (.int .i64 ((tell x y).2.1)), .own 65002 Q65002, .v (.int .i64 ((tell x y).2.2.2.1)), .own 65004 Q65004]), (65002, .row Q65002 V65002 1 ((((tell x y).2.2.1).map T.int))), (65004, .row Q65004 V65004 4 ((((tell x y).2.2.2.2).map t_Item)))]⟩) (by kernel_rfl) ?_ ?_
  · repeat' (first | (first | refine ⟨rfl, ?_⟩ | refine brT ?_ | refine brF ?_ | intro _) | refine ⟨_, s_toGor x ho, ?_⟩ | refine ⟨_, s_toItem y trivial, ?_⟩ | refine ⟨_, i_Tell x y ho hb, ?_⟩ | refine And.intro ?_ ?_)
    all_goals exact ⟨_, ⟨_, _, _, _, _, _, _, _, _, _, _, _, _, _, _, rfl⟩, wk rfl ⟨rfl, rfl, rfl, rfl, rfl, rfl, trivial⟩ ⟨rfl, rfl, rfl, rfl, rfl, rfl, rfl, rfl, rfl, trivial⟩⟩
  rintro m ⟨Q7000, Q23002, Q23004, Q9000, Q29002, Q29004, Q13000, Q65002, Q65004, V23002, V23004, V29002, V29004, V65002, V65004, rfl⟩
  repeat (first | (first | refine ⟨rfl, ?_⟩ | refine brT ?_ | refine brF ?_ | intro _) | (refine brL ?a (fun _ => ?_); case a => (simp <;> omega)) | (refine brR ?a (fun _ => ?_); case a => (simp <;> omega)))
  refine ⟨_, s_eqGor (tell x y) (tell x y) hu, ?_⟩
  repeat (first | (first | refine ⟨rfl, ?_⟩ | refine brT ?_ | refine brF ?_ | intro _) | (refine brL ?a (fun _ => ?_); case a => (simp <;> omega)) | (refine brR ?a (fun _ => ?_); case a => (simp <;> omega)))
  repeat (first | (first | refine ⟨rfl, ?_⟩ | refine brT ?_ | refine brF ?_ | intro _) | (refine brL ?a (fun _ => ?_); case a => (simp <;> omega)) | (refine brR ?a (fun _ => ?_); case a => (simp <;> omega)))
  refine ⟨_, s_heldGor (tell x y) (1) hu (by omega) (by omega), ?_⟩
  repeat (first | (first | refine ⟨rfl, ?_⟩ | refine brT ?_ | refine brF ?_ | intro _) | (refine brL ?a (fun _ => ?_); case a => (simp <;> omega)) | (refine brR ?a (fun _ => ?_); case a => (simp <;> omega)))
  repeat (first | (first | refine ⟨rfl, ?_⟩ | refine brT ?_ | refine brF ?_ | intro _) | (refine brL ?a (fun _ => ?_); case a => (simp <;> omega)) | (refine brR ?a (fun _ => ?_); case a => (simp <;> omega)))
  exact tb rfl


end Go.Proofs.Ytcnmngbaappdpaa.E
