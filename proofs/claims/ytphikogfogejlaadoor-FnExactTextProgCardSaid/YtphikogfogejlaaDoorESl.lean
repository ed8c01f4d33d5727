/- Contracts of functions of this seat's program. -/
import Derived.Test.YtphikogfogejlaaDoorETy
import Derived.Test.YtphikogfogejlaaDoorECs
namespace Go.Proofs.YtphikogfogejlaaDoor.E
set_option linter.unusedVariables false
set_option linter.unusedSimpArgs false
set_option maxHeartbeats 1600000
abbrev selW : ByteArray := ⟨#[115, 101, 108, 101, 99, 116]⟩
abbrev dash : ByteArray := ⟨#[45]⟩
def sw (s : Y_Select) : ByteArray := wordOf s.2 true dash
def selL (s : Y_Select) (j : Nat) : List ByteArray := selW :: (sw s :: (s.1.take j).map caseT)
def selText (s : Y_Select) : ByteArray := joined (selL s s.1.length) sp
theorem sw_size (s : Y_Select) : (sw s).size ≤ 10 ∧ isE (sw s) = !okW s.2 true := by
  have hn := numText_size s.2
  unfold sw wordOf okW
  rw [isE_iff]
  split
  · rename_i h
    refine ⟨by decide, ?_⟩
    rw [h.2]; rfl
  · rename_i h
    refine ⟨hn.1, ?_⟩
    have e : (true && s.2 == -1) = false := by
      have : ¬ s.2 = -1 := fun e => h ⟨rfl, e⟩
      simpa using this
    rw [e, Bool.false_or]
    by_cases hk : 0 ≤ s.2 ∧ s.2 ≤ 4294967295
    · rw [decide_eq_true hk, decide_eq_false (fun e => hn.2.1 e hk)]; rfl
    · rw [decide_eq_false hk, decide_eq_true (hn.2.2 hk)]; rfl
theorem caseT_size (c : Y_Case) : (caseT c).size ≤ 60 := by
  have s1 := (wordOf_size c.2.1 true).1
  have s2 := (numText_size c.2.2.1).1
  have s3 := (numText_size c.2.2.2.1).1
  have s4 := (numText_size c.2.2.2.2).1
  have z1 : recvW.size = 4 := rfl
  have z2 : sendW.size = 4 := rfl
  unfold caseT
  split
  · exact Nat.zero_le _
  split
  · rw [join4]; simp only [size_app, zc1, z2]; unfold cw; omega
  · rw [join5]; simp only [size_app, zc1, z1]; unfold cw; omega
theorem selL_succ {s : Y_Select} {j : Nat} (h : j < s.1.length) : selL s (j + 1) = selL s j ++ [caseT s.1[j]] := by
  unfold selL
  rw [List.take_succ_eq_append_getElem h, List.map_append]; rfl
theorem joinS_succ {s : Y_Select} {j : Nat} (h : j < s.1.length) : joinB (selL s (j + 1)) sp = joinB (selL s j) sp ++ sp ++ caseT s.1[j] := by
  rw [selL_succ h]
  exact joinB_snoc selW (sw s :: (s.1.take j).map caseT) _ _
theorem joinS_zero (s : Y_Select) : joinB (selL s 0) sp = selW ++ sp ++ sw s := by
  show joinB (selW :: ([] ++ [sw s])) sp = _
  rw [joinB_snoc, joinB_one]
theorem joinS_size (s : Y_Select) : ∀ j : Nat, j ≤ s.1.length → (joinB (selL s j) sp).size ≤ 20 + 61 * j
  | 0, _ => by
    have := (sw_size s).1
    rw [joinS_zero, size_app, size_app]
    have z1 : selW.size = 6 := rfl
    have z2 : sp.size = 1 := rfl
    omega
  | j + 1, h => by
    have a := joinS_size s j (by omega)
    have b := caseT_size s.1[j]
    rw [joinS_succ (by omega), size_app, size_app]
    have z2 : sp.size = 1 := rfl
    omega
theorem sel_any (s : Y_Select) : (selL s s.1.length).any isE = (!okW s.2 true || s.1.any (fun c => isE (caseT c))) := by
  have e1 : isE selW = false := by rw [isE_iff]; rfl
  unfold selL
  rw [List.take_length, List.any_cons, List.any_cons, e1, (sw_size s).2, List.any_map, Bool.false_or]; rfl
theorem s_SelectText (s : Y_Select) (hl : s.1.length + 2 ≤ bound) : Spec Tryd.prog 41 [.ro (t_Select s)] [T.str (selText s)] := by
  have hl' : s.1.length + 2 ≤ 16777216 := hl
  have hws := (sw_size s).1
  refine fn Tryd.func41 ?_
  intro q1
  repeat (first | refine brT ?_ | refine brF ?_ | refine And.intro rfl ?_ | refine And.intro trivial ?_ | intro _)
  refine ⟨_, s_l05Num s.2 true dash, ?_⟩
  repeat (first | refine brT ?_ | refine brF ?_ | refine And.intro rfl ?_ | refine And.intro trivial ?_ | intro _)
  refine brI (fun hk => ?_) (fun hk => ?_)
  · have hk : okW s.2 true = false := by simpa using hk
    have e : selText s = ⟨#[]⟩ := if_pos (by rw [sel_any, hk]; rfl)
    rw [e]
    repeat (first | refine brT ?_ | refine brF ?_ | refine And.intro rfl ?_ | refine And.intro trivial ?_ | intro _)
    exact rfl
  have hk : okW s.2 true = true := by simpa using hk
  repeat (first | refine brT ?_ | refine brF ?_ | refine And.intro rfl ?_ | refine And.intro trivial ?_ | intro _)
  refine ⟨by show 7 + (sw s).size ≤ _; omega, ?_⟩
  repeat (first | refine brT ?_ | refine brF ?_ | refine And.intro rfl ?_ | refine And.intro trivial ?_ | intro _)
  have e0 : (⟨#[115, 101, 108, 101, 99, 116, 32]⟩ : ByteArray) ++ sw s = joinB (selL s 0) sp := by rw [joinS_zero]; exact congrArg (· ++ sw s) (by decide)
  refine loopI (fun j : Nat => ⟨36, [(5, .vv (.string (joinB (selL s j) sp))), (20, .c (.ro 5 (s.1.map t_Case))), (21, .int s.1.length), (22, .int j)], []⟩) (fun j => s.1.length - j) (fun j => j ≤ s.1.length ∧ ∀ m (hm : m < s.1.length), m < j → isE (caseT s.1[m]) = false) 0 ⟨Nat.zero_le _, fun m _ h => absurd h (by simp)⟩ (wk rfl ⟨(by rw [← e0]; rfl), rfl, lenm, rfl, trivial⟩ trivial) ?_
  rintro j ⟨hj, hI⟩
  have hsz := joinS_size s j hj
  refine brD (fun h => ?_) (fun h => ?_)
  · have h : j < s.1.length := by simpa using h
    have hc := caseT_size s.1[j]
    refine ⟨nn j, t_Case s.1[j], atm h, ?_⟩
    repeat (first | refine brT ?_ | refine brF ?_ | refine And.intro rfl ?_ | refine And.intro trivial ?_ | intro _)
    refine ⟨_, s_l05Case s.1[j], ?_⟩
    repeat (first | refine brT ?_ | refine brF ?_ | refine And.intro rfl ?_ | refine And.intro trivial ?_ | intro _)
    refine brI (fun h1 => ?_) (fun h1 => ?_)
    · have h1 : isE (caseT s.1[j]) = true := h1
      have e : selText s = ⟨#[]⟩ := if_pos (by rw [sel_any, hk]; exact List.any_eq_true.2 ⟨s.1[j], List.getElem_mem h, h1⟩)
      rw [e]
      repeat (first | refine brT ?_ | refine brF ?_ | refine And.intro rfl ?_ | refine And.intro trivial ?_ | intro _)
      exact rfl
    · have h1 : isE (caseT s.1[j]) = false := h1
      repeat (first | refine brT ?_ | refine brF ?_ | refine And.intro rfl ?_ | refine And.intro trivial ?_ | intro _)
      refine ⟨by show (joinB (selL s j) sp).size + 1 ≤ _; omega, ?_⟩
      repeat (first | refine brT ?_ | refine brF ?_ | refine And.intro rfl ?_ | refine And.intro trivial ?_ | intro _)
      refine ⟨by show (joinB (selL s j) sp ++ sp).size + (caseT s.1[j]).size ≤ _; rw [size_app]; show _ + 1 + _ ≤ _; omega, ?_⟩
      repeat (first | refine brT ?_ | refine brF ?_ | refine And.intro rfl ?_ | refine And.intro trivial ?_ | intro _)
      refine nxt (j + 1) ⟨h, fun m hm h2 => ?_⟩ (by show s.1.length - (j + 1) < s.1.length - j; omega) (wk rfl ⟨(by rw [joinS_succ h]; rfl), rfl, rfl, up1 h (by omega), trivial⟩ trivial)
      by_cases h3 : m = j
      · subst h3; exact h1
      · exact hI m hm (by omega)
  · have h : j = s.1.length := by simp at h; omega
    subst h
    have e : selText s = joinB (selL s s.1.length) sp := if_neg (by
      rw [sel_any, hk]
      intro ha
      obtain ⟨c, hc, h2⟩ := List.any_eq_true.1 ha
      obtain ⟨m, hm, rfl⟩ := List.mem_iff_getElem.1 hc
      rw [hI m hm hm] at h2
      cases h2)
    rw [e]
    repeat (first | refine brT ?_ | refine brF ?_ | refine And.intro rfl ?_ | refine And.intro trivial ?_ | intro _)
    exact rfl
theorem sm_Select {x : Y_Select} (hr : raw_Select x) (h : ¬ f_Select x 1048576 < 0) : x.1.length + 2 ≤ bound := by
  unfold f_Select at h
  split at h
  · exact absurd (show (-1 : Int) < 0 by decide) h
  · rename_i h1
    have := szI_in hr.1.1 (by decide) (by decide) h1
    unfold bound
    omega


end Go.Proofs.YtphikogfogejlaaDoor.E
