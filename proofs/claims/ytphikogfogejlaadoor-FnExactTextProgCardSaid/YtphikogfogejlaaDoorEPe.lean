/- Contracts of functions of this seat's program. -/
import Derived.Test.YtphikogfogejlaaDoorETy
import Derived.Test.YtphikogfogejlaaDoorEPd
namespace Go.Proofs.YtphikogfogejlaaDoor.E
set_option linter.unusedVariables false
set_option linter.unusedSimpArgs false
set_option maxHeartbeats 1600000
def capsAt (L : List ByteArray) (i : Nat) : List Int := if i = 0 then [] else numsOf (wd L 0)
def musAt (L : List ByteArray) (i : Nat) : Int := if i < 2 then 0 else (numsOf (wd L 1)).getLast?.getD 0
def stAt (L : List ByteArray) (i : Nat) : PS × Bool := ((L.take i).drop 2).foldl specStep (([], []), false)
theorem stAt_lo {L : List ByteArray} {i : Nat} (h : i ≤ 2) : stAt L i = (([], []), false) := by
  have : (L.take i).drop 2 = [] := by
    apply List.eq_nil_of_length_eq_zero
    rw [List.length_drop, List.length_take]; omega
  unfold stAt
  rw [this]; rfl
theorem stAt_succ {L : List ByteArray} {i : Nat} (h : i < L.length) (h2 : 2 ≤ i) : stAt L (i + 1) = specStep (stAt L i) L[i] := by
  unfold stAt
  have : (L.take (i + 1)).drop 2 = (L.take i).drop 2 ++ [L[i]] := by
    rw [List.take_succ_eq_append_getElem h, List.drop_append_of_le_length (by rw [List.length_take]; omega)]
  rw [this, List.foldl_append]; rfl
theorem wd_get {L : List ByteArray} {i : Nat} (h : i < L.length) : wd L i = L[i] := by unfold wd; rw [List.getD_eq_getElem?_getD, List.getElem?_eq_getElem h]; rfl
theorem lines_mem {s w : ByteArray} (h : w ∈ linesB s) : w.size ≤ s.size := by
  unfold linesB linesOf at h
  split at h
  · exact cutB_mem (List.dropLast_subset _ h)
  · exact cutB_mem h
theorem last_step {l : List Int} {k : Nat} (h : k < l.length) : (l.take (k + 1)).getLast?.getD 0 = l[k] := by
  rw [List.take_succ_eq_append_getElem h, List.getLast?_concat]; rfl
def stB (n : Nat) (st : PS × Bool) : Prop := st.1.1.length ≤ n ∧ st.1.2.length ≤ n ∧ (∀ c ∈ st.1.2, c.length ≤ n) ∧ ∀ x ∈ st.1.1, x.1.length ≤ 20001
theorem textSelect_len {w : ByteArray} (h : w.size ≤ 20000) : (textSelect w).1.1.length ≤ 20001 := by
  have hl := cutB_len 32 w
  unfold textSelect
  split
  · simp only [selOf, List.length_map, List.length_drop]; omega
  · exact Nat.zero_le _
theorem step_bnd {n : Nat} {st : PS × Bool} {w : ByteArray} (h : stB n st) (hw : w.size ≤ 20000) : stB (n + 1) (specStep st w) := by
  obtain ⟨⟨S, P⟩, b⟩ := st
  obtain ⟨h1, h2, h3, h4⟩ := h
  simp only at h1 h2 h3 h4
  have h3' : ∀ c ∈ P, c.length ≤ n + 1 := fun c hc => by have := h3 c hc; omega
  unfold specStep
  split
  · refine ⟨by simp; omega, by simp only; omega, h3', fun x hx => ?_⟩
    rcases List.mem_append.1 hx with hx | hx
    · exact h4 x hx
    · obtain rfl := List.mem_singleton.1 hx
      exact textSelect_len hw
  split
  · refine ⟨by simp only; omega, by simp; omega, fun c hc => ?_, h4⟩
    rcases List.mem_append.1 hc with hc | hc
    · exact h3' c hc
    · obtain rfl := List.mem_singleton.1 hc
      exact Nat.zero_le _
  split
  · exact ⟨by simp only; omega, by simp only; omega, h3', h4⟩
  · refine ⟨by simp only; omega, by simp only [addI_len]; omega, fun c hc => ?_, h4⟩
    unfold addI at hc
    rcases List.mem_or_eq_of_mem_set hc with hc | rfl
    · exact h3' c hc
    · rw [List.length_append, List.getD_eq_getElem?_getD]
      cases hq : P[P.length - 1]? with
      | none => simp
      | some c =>
        have := h3 c (List.mem_of_getElem? hq)
        simp; omega
theorem stAt_bnd {L : List ByteArray} (h : ∀ w ∈ L, w.size ≤ 20000) : ∀ i : Nat, i ≤ L.length → stB i (stAt L i)
  | 0, _ => by rw [stAt_lo (by decide)]; exact ⟨Nat.zero_le _, Nat.zero_le _, fun _ h => (by cases h), fun _ h => (by cases h)⟩
  | i + 1, hi => by
    by_cases h2 : 2 ≤ i
    · rw [stAt_succ (by omega) h2]
      exact step_bnd (stAt_bnd h i (by omega)) (h _ (List.getElem_mem _))
    · rw [stAt_lo (by omega)]; exact ⟨Nat.zero_le _, Nat.zero_le _, fun _ h => (by cases h), fun _ h => (by cases h)⟩
set_option maxHeartbeats 64000000 in
set_option maxRecDepth 20000 in
theorem s_TextProg (s : ByteArray) (hs : s.size ≤ 1048576) : Spec Tryd.prog 17 [.ro (T.str s)] [t_Prog (textProg s).1, T.int (textProg s).2] := by
  refine fn Tryd.func17 ?_
  unfold textProg
  repeat (first | refine brT ?_ | refine brF ?_ | refine And.intro rfl ?_ | refine And.intro trivial ?_ | intro _)
  by_cases hz : 20000 < s.size
  · rw [if_pos hz]
    repeat (first | (first | refine brT ?_ | refine brF ?_ | refine And.intro rfl ?_ | refine And.intro trivial ?_ | intro _) | (refine brL ?kzz (fun _ => ?_); case kzz => (simp <;> omega)) | (refine brR ?kzz (fun _ => ?_); case kzz => (simp <;> omega)))
    exact ⟨1, 2, 1, rfl⟩
  rw [if_neg hz]
  repeat (first | (first | refine brT ?_ | refine brF ?_ | refine And.intro rfl ?_ | refine And.intro trivial ?_ | intro _) | (refine brL ?kzz (fun _ => ?_); case kzz => (simp <;> omega)) | (refine brR ?kzz (fun _ => ?_); case kzz => (simp <;> omega)))
  refine ⟨_, s_Lines s hs, ?_⟩
  intro qL
  repeat (first | refine brT ?_ | refine brF ?_ | refine And.intro rfl ?_ | refine And.intro trivial ?_ | intro _)
  rename_i q2 _ q4
  have hLl := linesB_len s
  obtain ⟨L, hL⟩ : ∃ L, L = linesB s := ⟨_, rfl⟩
  have hmem : ∀ w ∈ L, w.size ≤ s.size := fun w hw => lines_mem (by rw [← hL]; exact hw)
  rw [← hL] at hLl ⊢
  refine loopE (fun x : Nat × Nat × Nat × Nat × Nat => ⟨145, [(0, .vv (.string s)), (2, .c (.bx 3000 q2 0)), (4, .c (.bx 5000 q4 0)), (5, .bool (stAt L x.1).2), (26, .c (.own 26000 qL)), (27, .int (L.length : Int)), (28, .int x.1)],
    [(3000, .box q2 [.v (.slice none 0 0), .v (.int .i64 0), .v (.slice none 0 0), .v (.slice none 0 0)]),
     (5000, .box q4 [.own 51000 x.2.1, .v (.int .i64 (musAt L x.1)), .own 88000 x.2.2.1, .own 97000 x.2.2.2.1]), (26000, .row qL 0 1 (L.map T.str)),
     (51000, .row x.2.1 0 1 ((capsAt L x.1).map T.int)), (88000, .row x.2.2.1 0 2 ((stAt L x.1).1.1.map t_Select)), (97000, .row x.2.2.2.1 x.2.2.2.2 1 ((stAt L x.1).1.2.map t_Proc))]⟩) (fun x => L.length - x.1) (fun x => x.1 ≤ L.length)
    (.box 5000 51000 0 1 rfl rfl rfl rfl (fun qa => .box 5000 88000 2 2 rfl rfl rfl rfl (fun qb => .box 5000 97000 3 1 rfl rfl rfl rfl (fun qc => .here ⟨(0, qa, qb, qc, 0), Nat.zero_le _, rfl⟩ (wk rfl ⟨rfl, rfl, rfl, rfl, rfl, lenm, rfl, trivial⟩ ⟨rfl, rfl, rfl, rfl, rfl, rfl, trivial⟩))))) ?_
  rintro ⟨i, qa, qb, qc, vc⟩ hi
  simp only at hi
  repeat (first | refine brT ?_ | refine brF ?_ | refine And.intro rfl ?_ | refine And.intro trivial ?_ | intro _)
  by_cases hlt : i < L.length
  · repeat (first | (first | refine brT ?_ | refine brF ?_ | refine And.intro rfl ?_ | refine And.intro trivial ?_ | intro _) | (refine brL ?kzz (fun _ => ?_); case kzz => (simp <;> omega)) | (refine brR ?kzz (fun _ => ?_); case kzz => (simp <;> omega)))
    have hwm := hmem _ (List.getElem_mem hlt)
    have hwi := wd_get hlt
    obtain ⟨w, hw⟩ : ∃ w, w = L[i] := ⟨_, rfl⟩
    rw [← hw] at hwm hwi
    have hat : (L.map T.str)[((i : Int)).toNat]? = some (T.str w) := by rw [hw]; simp [hlt]
    have hWl := cutB_len 32 w
    have hWn := cutB_ne 32 w
    have hWm : ∀ x ∈ cutB 32 w, x.size ≤ w.size := fun x hx => cutB_mem hx
    refine ⟨nn i, by show i < (L.map T.str).length; simpa using hlt, ?_⟩
    repeat (first | refine brT ?_ | refine brF ?_ | refine And.intro rfl ?_ | refine And.intro trivial ?_ | intro _)
    refine ⟨T.str w, hat, ?_⟩
    repeat (first | refine brT ?_ | refine brF ?_ | refine And.intro rfl ?_ | refine And.intro trivial ?_ | intro _)
    refine ⟨_, s_Parts w (by omega), ?_⟩
    intro qW
    repeat (first | refine brT ?_ | refine brF ?_ | refine And.intro rfl ?_ | refine And.intro trivial ?_ | intro _)
    have hnum : numsOf w = ((cutB 32 w).drop 1).map fun x => readW x e0 := rfl
    obtain ⟨W, hW⟩ : ∃ W, W = cutB 32 w := ⟨_, rfl⟩
    rw [← hW] at hWl hWn hnum hWm ⊢
    have hW1 : 1 ≤ W.length := by cases W; exact absurd rfl hWn; simp
    have hrow : (((W.map T.str).take (W.map T.str).length).drop 1) = (W.drop 1).map T.str := by rw [List.take_of_length_le (Nat.le_refl _), List.map_drop]
    obtain ⟨V, hV⟩ : ∃ V, V = W.drop 1 := ⟨_, rfl⟩
    have hVl : V.length = W.length - 1 := by rw [hV]; simp
    rw [← hV] at hnum hrow
    by_cases hi0 : i = 0
    · subst hi0
      refine brR (by show ¬ (((0 : Nat) : Int) == 0) = false; decide) (fun _ => ?_)
      repeat (first | refine brT ?_ | refine brF ?_ | refine And.intro rfl ?_ | refine And.intro trivial ?_ | intro _)
      refine ⟨by decide, by show 1 ≤ (W.map T.str).length; simp; omega, Nat.le_refl _, fun q3 => ?_⟩
      repeat (first | refine brT ?_ | refine brF ?_ | refine And.intro rfl ?_ | refine And.intro trivial ?_ | intro _)
      refine loopI (fun x : Nat × Nat => ⟨145, [(0, .vv (.string s)), (2, .c (.bx 3000 q2 0)), (4, .c (.bx 5000 q4 0)), (5, .bool (stAt L 0).2), (26, .c (.own 26000 qL)), (27, .int (L.length : Int)), (28, .int ((0 : Nat) : Int)), (39, .c (.own 40000 q3)), (40, .int (V.length : Int)), (41, .int x.1)],
        [(3000, .box q2 [.v (.slice none 0 0), .v (.int .i64 0), .v (.slice none 0 0), .v (.slice none 0 0)]), (5000, .box q4 [.own 51000 x.2, .v (.int .i64 0), .own 88000 qb, .own 97000 qc]), (26000, .row qL 0 1 (L.map T.str)), (40000, .row q3 0 1 (V.map T.str)),
         (51000, .row x.2 0 1 (((V.take x.1).map fun x => readW x e0).map T.int)), (88000, .row qb 0 2 []), (97000, .row qc vc 1 [])]⟩) (fun x => V.length - x.1) (fun x => x.1 ≤ V.length) (0, qa) (Nat.zero_le _)
        (wk rfl ⟨rfl, rfl, rfl, rfl, rfl, rfl, rfl, rfl, congrArg (fun z : Nat => AV.int z) ((congrArg List.length hrow).trans (by simp)), rfl, trivial⟩ ⟨rfl, rfl, rfl, congrArg (fun z => some (Ob.row q3 0 1 z)) hrow, rfl, rfl, rfl, trivial⟩) ?_
      rintro ⟨k, qk⟩ hk
      simp only at hk
      repeat (first | refine brT ?_ | refine brF ?_ | refine And.intro rfl ?_ | refine And.intro trivial ?_ | intro _)
      by_cases hk2 : k < V.length
      · repeat (first | (first | refine brT ?_ | refine brF ?_ | refine And.intro rfl ?_ | refine And.intro trivial ?_ | intro _) | (refine brL ?kzz (fun _ => ?_); case kzz => (simp <;> omega)) | (refine brR ?kzz (fun _ => ?_); case kzz => (simp <;> omega)))
        have hat2 : (V.map T.str)[((k : Int)).toNat]? = some (T.str V[k]) := by simp [hk2]
        have hrowc : ((V.take (k + 1)).map fun x => readW x e0).map T.int = ((V.take k).map fun x => readW x e0).map T.int ++ [T.int (readW V[k] e0)] := by
          rw [List.take_succ_eq_append_getElem hk2, List.map_append, List.map_append]; rfl
        have hcl : (((V.take k).map fun x => readW x e0).map T.int).length + 1 ≤ bound := by simp; unfold bound; omega
        refine ⟨nn k, by show k < (V.map T.str).length; simpa using hk2, ?_⟩
        repeat (first | refine brT ?_ | refine brF ?_ | refine And.intro rfl ?_ | refine And.intro trivial ?_ | intro _)
        refine ⟨T.str V[k], hat2, ?_⟩
        repeat (first | refine brT ?_ | refine brF ?_ | refine And.intro rfl ?_ | refine And.intro trivial ?_ | intro _)
        have sr := s_l05Read V[k] e0
        refine drM0 (Pl.go 0 (Pl.go 2 ((Pl.go 1 (Pl.go 3 (Pl.go 4 (Pl.go 5 (Pl.go 6 (Pl.go 7 Pl.stop)))))).or (Pl.go 3 ((Pl.go 1 (Pl.go 4 (Pl.go 5 (Pl.go 6 (Pl.go 7 Pl.stop))))).or (Pl.go 4 (Pl.go 1 (Pl.go 5 (Pl.go 6 (Pl.go 7 Pl.stop)))))))))) (fun m => ∃ Q : Nat, m = ⟨145, [(0, .vv (.string s)), (2, .c (.bx 3000 q2 0)), (4, .c (.bx 5000 q4 0)), (5, .bool (stAt L 0).2), (26, .c (.own 26000 qL)), (27, .int (L.length : Int)), (28, .int ((0 : Nat) : Int)), (39, .c (.own 40000 q3)), (40, .int (V.length : Int)), (41, .int k)],
        [(3000, .box q2 [.v (.slice none 0 0), .v (.int .i64 0), .v (.slice none 0 0), .v (.slice none 0 0)]), (5000, .box q4 [.own 51000 Q, .v (.int .i64 0), .own 88000 qb, .own 97000 qc]), (26000, .row qL 0 1 (L.map T.str)), (40000, .row q3 0 1 (V.map T.str)),
         (51000, .row Q 0 1 (((V.take (k + 1)).map fun x => readW x e0).map T.int)), (88000, .row qb 0 2 []), (97000, .row qc vc 1 [])]⟩) (by kernel_rfl) ?_ ?_
        · repeat' (first | (first | refine brT ?_ | refine brF ?_ | refine And.intro rfl ?_ | refine And.intro trivial ?_ | intro _) | refine ⟨_, sr, ?_⟩ | refine ⟨fun t ht => (by simp at ht; subst ht; rfl), fun qf => ?_⟩ | refine ⟨hcl, fun qg => ?_⟩ | refine And.intro ?_ ?_ | fail)
          all_goals exact ⟨_, ⟨_, rfl⟩, wk rfl ⟨rfl, rfl, rfl, rfl, rfl, rfl, rfl, rfl, rfl, rfl, trivial⟩ ⟨rfl, rfl, rfl, rfl, congrArg (fun z => some (Ob.row _ 0 1 z)) hrowc.symm, rfl, rfl, trivial⟩⟩
        rintro m ⟨Q, rfl⟩
        repeat (first | refine brT ?_ | refine brF ?_ | refine And.intro rfl ?_ | refine And.intro trivial ?_ | intro _)
        exact nxt (k + 1, Q) hk2 (by show V.length - (k + 1) < V.length - k; omega) (wk rfl ⟨rfl, rfl, rfl, rfl, rfl, rfl, rfl, rfl, rfl, up1 hk2 (by omega), trivial⟩ ⟨rfl, rfl, rfl, rfl, rfl, rfl, rfl, trivial⟩)
      · have hkv : k = V.length := by omega
        subst hkv
        repeat (first | (first | refine brT ?_ | refine brF ?_ | refine And.intro rfl ?_ | refine And.intro trivial ?_ | intro _) | (refine brL ?kzz (fun _ => ?_); case kzz => (simp <;> omega)) | (refine brR ?kzz (fun _ => ?_); case kzz => (simp <;> omega)))
        refine nxt (1, qk, qb, qc, vc) hlt (by show L.length - 1 < L.length - 0; omega) (wk rfl ⟨rfl, rfl, rfl, congrArg AV.bool (by rw [stAt_lo (i := 0) (by decide), stAt_lo (i := 1) (by decide)]), rfl, rfl, up1 hlt (by omega), trivial⟩ ⟨rfl, rfl, rfl, congrArg (fun z => some (Ob.row qk 0 1 z)) ?_, congrArg (fun z => some (Ob.row qb 0 2 z)) ?_, congrArg (fun z => some (Ob.row qc vc 1 z)) ?_, trivial⟩)
        · show _ = (numsOf (wd L 0)).map T.int
          rw [hwi, hnum, List.take_length]
        · rw [stAt_lo (i := 1) (by decide)]; rfl
        · rw [stAt_lo (i := 1) (by decide)]; rfl
    refine brL (by show ¬ ((((i : Nat) : Int) == 0) = true); simp; omega) (fun _ => ?_)
    repeat (first | refine brT ?_ | refine brF ?_ | refine And.intro rfl ?_ | refine And.intro trivial ?_ | intro _)
    by_cases hi1 : i = 1
    · subst hi1
      refine brR (by show ¬ (((1 : Nat) : Int) == 1) = false; decide) (fun _ => ?_)
      repeat (first | refine brT ?_ | refine brF ?_ | refine And.intro rfl ?_ | refine And.intro trivial ?_ | intro _)
      refine ⟨by decide, by show 1 ≤ (W.map T.str).length; simp; omega, Nat.le_refl _, fun q3 => ?_⟩
      repeat (first | refine brT ?_ | refine brF ?_ | refine And.intro rfl ?_ | refine And.intro trivial ?_ | intro _)
      refine loopI (fun k : Nat => ⟨145, [(0, .vv (.string s)), (2, .c (.bx 3000 q2 0)), (4, .c (.bx 5000 q4 0)), (5, .bool (stAt L 1).2), (26, .c (.own 26000 qL)), (27, .int (L.length : Int)), (28, .int ((1 : Nat) : Int)), (57, .c (.own 58000 q3)), (58, .int (V.length : Int)), (59, .int k)],
        [(3000, .box q2 [.v (.slice none 0 0), .v (.int .i64 0), .v (.slice none 0 0), .v (.slice none 0 0)]), (5000, .box q4 [.own 51000 qa, .v (.int .i64 (((V.take k).map fun x => readW x e0).getLast?.getD 0)), .own 88000 qb, .own 97000 qc]), (26000, .row qL 0 1 (L.map T.str)), (58000, .row q3 0 1 (V.map T.str)),
         (51000, .row qa 0 1 ((numsOf (wd L 0)).map T.int)), (88000, .row qb 0 2 []), (97000, .row qc vc 1 [])]⟩) (fun k => V.length - k) (fun k => k ≤ V.length) 0 (Nat.zero_le _)
        (wk rfl ⟨rfl, rfl, rfl, rfl, rfl, rfl, rfl, rfl, congrArg (fun z : Nat => AV.int z) ((congrArg List.length hrow).trans (by simp)), rfl, trivial⟩ ⟨rfl, rfl, rfl, congrArg (fun z => some (Ob.row q3 0 1 z)) hrow, rfl, congrArg (fun z => some (Ob.row qb 0 2 z)) (by rw [stAt_lo (i := 1) (by decide)]; rfl), congrArg (fun z => some (Ob.row qc vc 1 z)) (by rw [stAt_lo (i := 1) (by decide)]; rfl), trivial⟩) ?_
      rintro k hk
      repeat (first | refine brT ?_ | refine brF ?_ | refine And.intro rfl ?_ | refine And.intro trivial ?_ | intro _)
      by_cases hk2 : k < V.length
      · repeat (first | (first | refine brT ?_ | refine brF ?_ | refine And.intro rfl ?_ | refine And.intro trivial ?_ | intro _) | (refine brL ?kzz (fun _ => ?_); case kzz => (simp <;> omega)) | (refine brR ?kzz (fun _ => ?_); case kzz => (simp <;> omega)))
        have hat2 : (V.map T.str)[((k : Int)).toNat]? = some (T.str V[k]) := by simp [hk2]
        have hlast : ((V.take (k + 1)).map fun x => readW x e0).getLast?.getD 0 = readW V[k] e0 := by
          rw [List.take_succ_eq_append_getElem hk2, List.map_append, List.map_cons, List.map_nil, List.getLast?_concat]; rfl
        refine ⟨nn k, by show k < (V.map T.str).length; simpa using hk2, ?_⟩
        repeat (first | refine brT ?_ | refine brF ?_ | refine And.intro rfl ?_ | refine And.intro trivial ?_ | intro _)
        refine ⟨T.str V[k], hat2, ?_⟩
        repeat (first | refine brT ?_ | refine brF ?_ | refine And.intro rfl ?_ | refine And.intro trivial ?_ | intro _)
        refine ⟨_, s_l05Read V[k] e0, ?_⟩
        repeat (first | refine brT ?_ | refine brF ?_ | refine And.intro rfl ?_ | refine And.intro trivial ?_ | intro _)
        exact nxt (k + 1) hk2 (by show V.length - (k + 1) < V.length - k; omega) (wk rfl ⟨rfl, rfl, rfl, rfl, rfl, rfl, rfl, rfl, rfl, up1 hk2 (by omega), trivial⟩ ⟨rfl, by rw [hlast]; rfl, rfl, rfl, rfl, rfl, rfl, trivial⟩)
      · have hkv : k = V.length := by omega
        subst hkv
        have hm2 : ((V.take V.length).map fun x => readW x e0).getLast?.getD 0 = musAt L 2 := by
          rw [List.take_length, ← hnum, ← hwi]; rfl
        rw [hm2]
        repeat (first | (first | refine brT ?_ | refine brF ?_ | refine And.intro rfl ?_ | refine And.intro trivial ?_ | intro _) | (refine brL ?kzz (fun _ => ?_); case kzz => (simp <;> omega)) | (refine brR ?kzz (fun _ => ?_); case kzz => (simp <;> omega)))
        refine nxt (2, qa, qb, qc, vc) hlt (by show L.length - 2 < L.length - 1; omega) (wk rfl ⟨rfl, rfl, rfl, congrArg AV.bool (by rw [stAt_lo (i := 1) (by decide), stAt_lo (i := 2) (by decide)]), rfl, rfl, up1 hlt (by omega), trivial⟩ ⟨rfl, rfl, rfl, rfl, congrArg (fun z => some (Ob.row qb 0 2 z)) ?_, congrArg (fun z => some (Ob.row qc vc 1 z)) ?_, trivial⟩)
        · rw [stAt_lo (i := 2) (by decide)]; rfl
        · rw [stAt_lo (i := 2) (by decide)]; rfl
    have hi2 : 2 ≤ i := by omega
    refine brL (by show ¬ ((((i : Nat) : Int) == 1) = true); simp; omega) (fun _ => ?_)
    have hst := stAt_succ hlt hi2
    rw [← hw] at hst
    have hcap : capsAt L (i + 1) = capsAt L i := by unfold capsAt; rw [if_neg (by omega), if_neg (by omega)]
    have hmus : musAt L (i + 1) = musAt L i := by unfold musAt; rw [if_neg (by omega), if_neg (by omega)]
    obtain ⟨⟨⟨S, P⟩, bad⟩, hS⟩ : ∃ z, z = stAt L i := ⟨_, rfl⟩
    rw [← hS] at hst ⊢
    have hb0 : ((wd W 0).toList == selW.toList) = decide (wd W 0 = selW) := beq_str _ _
    have hb1 : (w.toList == procW0.toList) = decide (w = procW0) := beq_str _ _
    have hbnd := stAt_bnd (fun w hw => by have := hmem w hw; omega) i hi
    rw [← hS] at hbnd
    obtain ⟨hS1, hP1, hPc, _⟩ := hbnd
    simp only at hS1 hP1 hPc
    repeat (first | refine brT ?_ | refine brF ?_ | refine And.intro rfl ?_ | refine And.intro trivial ?_ | intro _)
    refine ⟨by decide, by show 0 < (W.map T.str).length; simp; omega, ?_⟩
    repeat (first | refine brT ?_ | refine brF ?_ | refine And.intro rfl ?_ | refine And.intro trivial ?_ | intro _)
    refine ⟨T.str (wd W 0), wd_str hW1, ?_⟩
    by_cases hA : wd W 0 = selW ∧ P.length = 0
    · obtain ⟨hsel, hP0⟩ := hA
      have hstep : specStep ((S, P), bad) w = ((S ++ [(textSelect w).1], P), bad) := by unfold specStep; rw [if_pos ⟨by rw [← hW]; exact hsel, hP0⟩]
      rw [hstep] at hst
      rw [decide_eq_true hsel] at hb0
      refine brR (by show ¬ (((wd W 0).toList == selW.toList) = false); rw [hb0]; decide) (fun _ => ?_)
      repeat (first | (first | refine brT ?_ | refine brF ?_ | refine And.intro rfl ?_ | refine And.intro trivial ?_ | intro _) | refine brR (by show ¬ ((bif true then (((P.map t_Proc).length : Int) == 0) else false) = false); simp [hP0]) (fun _ => ?_))
      refine ⟨_, s_TextSelect w (by omega), ?_⟩
      repeat (first | refine brT ?_ | refine brF ?_ | refine And.intro rfl ?_ | refine And.intro trivial ?_ | intro _)
      refine ⟨fun t ht => (by simp at ht; subst ht; rfl), fun qn => ?_⟩
      repeat (first | refine brT ?_ | refine brF ?_ | refine And.intro rfl ?_ | refine And.intro trivial ?_ | intro _)
      refine ⟨by simp; unfold bound; omega, fun qm => ?_⟩
      repeat (first | refine brT ?_ | refine brF ?_ | refine And.intro rfl ?_ | refine And.intro trivial ?_ | intro _)
      exact nxt (i + 1, qa, qm, qc, vc) hlt (by show L.length - (i + 1) < L.length - i; omega) (wk rfl ⟨rfl, rfl, rfl, congrArg AV.bool (by rw [hst]), rfl, rfl, up1 hlt (by omega), trivial⟩ ⟨rfl, congrArg (fun z : Int => some (Ob.box q4 [.own 51000 qa, .v (.int .i64 z), .own 88000 qm, .own 97000 qc])) hmus.symm, rfl, congrArg (fun z : List Int => some (Ob.row qa 0 1 (z.map T.int))) hcap.symm, congrArg (fun z => some (Ob.row qm 0 2 z)) (by rw [hst]; exact (List.map_append (f := t_Select) (l₁ := S) (l₂ := [(textSelect w).1])).symm), congrArg (fun z => some (Ob.row qc vc 1 z)) (by rw [hst]), trivial⟩)
    by_cases hsel : wd W 0 = selW
    · have hP0 : ¬ P.length = 0 := fun e => hA ⟨hsel, e⟩
      rw [decide_eq_true hsel] at hb0
      refine brR (by show ¬ (((wd W 0).toList == selW.toList) = false); rw [hb0]; decide) (fun _ => ?_)
      repeat (first | (first | refine brT ?_ | refine brF ?_ | refine And.intro rfl ?_ | refine And.intro trivial ?_ | intro _) | refine brL (by show ¬ ((bif true then (((P.map t_Proc).length : Int) == 0) else false) = true); simp; intro e; exact hP0 (by rw [e]; rfl)) (fun _ => ?_))
      by_cases hC : w = procW0
      · have hstep : specStep ((S, P), bad) w = ((S, P ++ [[]]), bad) := by unfold specStep; rw [if_neg (by rw [← hW]; exact hA), if_pos hC]
        rw [hstep] at hst
        refine brR (by show ¬ ((w.toList == procW0.toList) = false); rw [hb1, decide_eq_true hC]; decide) (fun _ => ?_)
        repeat (first | refine brT ?_ | refine brF ?_ | refine And.intro rfl ?_ | refine And.intro trivial ?_ | intro _)
        refine ⟨4, ?_⟩
        repeat (first | refine brT ?_ | refine brF ?_ | refine And.intro rfl ?_ | refine And.intro trivial ?_ | intro _)
        refine ⟨fun t ht => (by simp at ht; subst ht; rfl), fun qn => ?_⟩
        repeat (first | refine brT ?_ | refine brF ?_ | refine And.intro rfl ?_ | refine And.intro trivial ?_ | intro _)
        refine ⟨by simp; unfold bound; omega, fun qm => ?_⟩
        repeat (first | refine brT ?_ | refine brF ?_ | refine And.intro rfl ?_ | refine And.intro trivial ?_ | intro _)
        exact nxt (i + 1, qa, qb, qm, 0) hlt (by show L.length - (i + 1) < L.length - i; omega) (wk rfl ⟨rfl, rfl, rfl, congrArg AV.bool (by rw [hst]), rfl, rfl, up1 hlt (by omega), trivial⟩ ⟨rfl, congrArg (fun z : Int => some (Ob.box q4 [.own 51000 qa, .v (.int .i64 z), .own 88000 qb, .own 97000 qm])) hmus.symm, rfl, congrArg (fun z : List Int => some (Ob.row qa 0 1 (z.map T.int))) hcap.symm, congrArg (fun z => some (Ob.row qb 0 2 z)) (by rw [hst]), congrArg (fun z => some (Ob.row qm 0 1 z)) (by rw [hst]; exact (List.map_append (f := t_Proc) (l₁ := P) (l₂ := [[]])).symm), trivial⟩)
      by_cases hF : P.length = 0
      · have hstep : specStep ((S, P), bad) w = ((S, P), bad) := by unfold specStep; rw [if_neg (by rw [← hW]; exact hA), if_neg hC, if_pos hF]
        rw [hstep] at hst
        refine brL (by show ¬ ((w.toList == procW0.toList) = true); rw [hb1, decide_eq_false hC]; decide) (fun _ => ?_)
        repeat (first | refine brT ?_ | refine brF ?_ | refine And.intro rfl ?_ | refine And.intro trivial ?_ | intro _)
        refine brL (by show ¬ (decide (((P.map t_Proc).length : Int) > 0) = true); simp [hF]) (fun _ => ?_)
        repeat (first | refine brT ?_ | refine brF ?_ | refine And.intro rfl ?_ | refine And.intro trivial ?_ | intro _)
        exact nxt (i + 1, qa, qb, qc, vc) hlt (by show L.length - (i + 1) < L.length - i; omega) (wk rfl ⟨rfl, rfl, rfl, congrArg AV.bool (by rw [hst]), rfl, rfl, up1 hlt (by omega), trivial⟩ ⟨rfl, congrArg (fun z : Int => some (Ob.box q4 [.own 51000 qa, .v (.int .i64 z), .own 88000 qb, .own 97000 qc])) hmus.symm, rfl, congrArg (fun z : List Int => some (Ob.row qa 0 1 (z.map T.int))) hcap.symm, congrArg (fun z => some (Ob.row qb 0 2 z)) (by rw [hst]), congrArg (fun z => some (Ob.row qc vc 1 z)) (by rw [hst]), trivial⟩)
      have hstep : specStep ((S, P), bad) w = ((S, addI P (textInstr w).1), bad || !(textInstr w).2) := by unfold specStep; rw [if_neg (by rw [← hW]; exact hA), if_neg hC, if_neg hF]
      have ⟨c, hcd⟩ : ∃ c, c = P.getD (P.length - 1) [] := ⟨_, rfl⟩
      have hPl : P.length - 1 < P.length := by omega
      have hatc : (P.map t_Proc)[P.length - 1]? = some (t_Proc c) := by
        rw [hcd, List.getElem?_map, List.getD_eq_getElem?_getD, List.getElem?_eq_getElem hPl]; rfl
      have hcl : c.length ≤ i := by
        have : c ∈ P := by rw [hcd, List.getD_eq_getElem?_getD, List.getElem?_eq_getElem hPl]; exact List.getElem_mem _
        exact hPc c this
      have hwt : w64 (((P.map t_Proc).length : Int) - 1) = ((P.length - 1 : Nat) : Int) := by rw [List.length_map, w64_id (by omega) (by omega)]; omega
      have j1 : 0 ≤ w64 (((P.map t_Proc).length : Int) - 1) ∧ (w64 (((P.map t_Proc).length : Int) - 1)).toNat < (P.map t_Proc).length := by rw [hwt]; refine ⟨Int.natCast_nonneg _, ?_⟩; rw [List.length_map]; exact hPl
      have hjk : (w64 (((P.map t_Proc).length : Int) - 1)).toNat * 1 + 0 = (P.length - 1) * 1 + 0 := by rw [hwt]; rfl
      have hbl : (c.map t_Instr).length + [t_Instr (textInstr w).1].length ≤ bound := by rw [List.length_map]; simp; unfold bound; omega
      have hln : ∀ xx : Value, (w64 (((P.map t_Proc).length : Int) - 1)).toNat < ((P.map t_Proc).set (P.length - 1) ((t_Proc c).setCells 0 [.v xx])).length := fun xx => by rw [List.length_set]; exact j1.2
      have hset : ∀ xx : Value, ((P.map t_Proc).set (P.length - 1) ((t_Proc c).setCells 0 [.v xx]))[(w64 (((P.map t_Proc).length : Int) - 1)).toNat]? = some ((t_Proc c).setCells 0 [.v xx]) := fun xx => by rw [hwt]; simp [hPl]
      have hfin : ∀ xx : Value, ((P.map t_Proc).set (P.length - 1) ((t_Proc c).setCells 0 [.v xx])).set (w64 (((P.map t_Proc).length : Int) - 1)).toNat (((t_Proc c).setCells 0 [.v xx]).setCells 0 [.sl 4 (c.map t_Instr ++ [t_Instr (textInstr w).1])]) = (addI P (textInstr w).1).map t_Proc := fun xx => by
        rw [hwt]
        simp only [Int.toNat_natCast, List.set_set]
        unfold addI
        rw [List.map_set, ← hcd]
        have : t_Proc (c ++ [(textInstr w).1]) = .agg [.sl 4 (c.map t_Instr ++ [t_Instr (textInstr w).1])] := by show T.agg [T.sl 4 ((c ++ [(textInstr w).1]).map t_Instr)] = _; rw [List.map_append]; rfl
        rw [this]; rfl
      have hatk : (P.map t_Proc)[(w64 (((P.map t_Proc).length : Int) - 1)).toNat]? = some (t_Proc c) := by rw [hwt]; exact hatc
      rw [hstep] at hst
      refine brL (by show ¬ ((w.toList == procW0.toList) = true); rw [hb1, decide_eq_false hC]; decide) (fun _ => ?_)
      repeat (first | refine brT ?_ | refine brF ?_ | refine And.intro rfl ?_ | refine And.intro trivial ?_ | intro _)
      refine brR (by show ¬ (decide (((P.map t_Proc).length : Int) > 0) = false); rw [decide_eq_true (by rw [List.length_map]; omega)]; decide) (fun _ => ?_)
      repeat (first | refine brT ?_ | refine brF ?_ | refine And.intro rfl ?_ | refine And.intro trivial ?_ | intro _)
      refine ⟨_, s_TextInstr w (by omega), ?_⟩
      repeat (first | refine brT ?_ | refine brF ?_ | refine And.intro rfl ?_ | refine And.intro trivial ?_ | intro _)
      cases hbd : bad with
      | true =>
        rw [hbd] at hst
        repeat (first | refine brT ?_ | refine brF ?_ | refine And.intro rfl ?_ | refine And.intro trivial ?_ | intro _)
        refine drM0 (Pl.go 0 (Pl.go 2 (Pl.go 3 (Pl.go 5 ((Pl.go 1 ((Pl.go 4 (Pl.go 6 (Pl.go 7 ((Pl.go 8 (Pl.go 9 (Pl.go 10 (Pl.go 11 (Pl.go 12 (Pl.go 13 (Pl.go 14 Pl.stop))))))).or (Pl.go 9 ((Pl.go 8 (Pl.go 10 (Pl.go 11 (Pl.go 12 (Pl.go 13 (Pl.go 14 Pl.stop)))))).or (Pl.go 10 (Pl.go 8 (Pl.go 11 (Pl.go 12 (Pl.go 13 (Pl.go 14 Pl.stop)))))))))))).or (Pl.go 9 ((Pl.go 4 (Pl.go 6 (Pl.go 7 ((Pl.go 8 (Pl.go 10 (Pl.go 11 (Pl.go 12 (Pl.go 13 (Pl.go 14 Pl.stop)))))).or (Pl.go 10 (Pl.go 8 (Pl.go 11 (Pl.go 12 (Pl.go 13 (Pl.go 14 Pl.stop)))))))))).or (Pl.go 10 (Pl.go 4 (Pl.go 6 (Pl.go 7 (Pl.go 8 (Pl.go 11 (Pl.go 12 (Pl.go 13 (Pl.go 14 Pl.stop))))))))))))).or ((Pl.go 4 (Pl.go 6 (Pl.go 7 ((Pl.go 1 ((Pl.go 8 (Pl.go 9 (Pl.go 10 (Pl.go 11 (Pl.go 12 (Pl.go 13 (Pl.go 14 Pl.stop))))))).or (Pl.go 9 ((Pl.go 8 (Pl.go 10 (Pl.go 11 (Pl.go 12 (Pl.go 13 (Pl.go 14 Pl.stop)))))).or (Pl.go 10 (Pl.go 8 (Pl.go 11 (Pl.go 12 (Pl.go 13 (Pl.go 14 Pl.stop)))))))))).or ((Pl.go 8 ((Pl.go 1 (Pl.go 9 (Pl.go 10 (Pl.go 11 (Pl.go 12 (Pl.go 13 (Pl.go 14 Pl.stop))))))).or (Pl.go 9 ((Pl.go 1 (Pl.go 10 (Pl.go 11 (Pl.go 12 (Pl.go 13 (Pl.go 14 Pl.stop)))))).or (Pl.go 10 ((Pl.go 1 (Pl.go 11 (Pl.go 12 (Pl.go 13 (Pl.go 14 Pl.stop))))).or (Pl.go 11 (Pl.go 1 (Pl.go 12 (Pl.go 13 (Pl.go 14 Pl.stop))))))))))).or (Pl.go 9 ((Pl.go 1 ((Pl.go 8 (Pl.go 10 (Pl.go 11 (Pl.go 12 (Pl.go 13 (Pl.go 14 Pl.stop)))))).or (Pl.go 10 (Pl.go 8 (Pl.go 11 (Pl.go 12 (Pl.go 13 (Pl.go 14 Pl.stop)))))))).or ((Pl.go 8 ((Pl.go 1 (Pl.go 10 (Pl.go 11 (Pl.go 12 (Pl.go 13 (Pl.go 14 Pl.stop)))))).or (Pl.go 10 ((Pl.go 1 (Pl.go 11 (Pl.go 12 (Pl.go 13 (Pl.go 14 Pl.stop))))).or (Pl.go 11 (Pl.go 1 (Pl.go 12 (Pl.go 13 (Pl.go 14 Pl.stop))))))))).or (Pl.go 10 ((Pl.go 1 (Pl.go 8 (Pl.go 11 (Pl.go 12 (Pl.go 13 (Pl.go 14 Pl.stop)))))).or (Pl.go 8 ((Pl.go 1 (Pl.go 11 (Pl.go 12 (Pl.go 13 (Pl.go 14 Pl.stop))))).or (Pl.go 11 (Pl.go 1 (Pl.go 12 (Pl.go 13 (Pl.go 14 Pl.stop))))))))))))))))).or (Pl.go 9 ((Pl.go 1 ((Pl.go 4 (Pl.go 6 (Pl.go 7 ((Pl.go 8 (Pl.go 10 (Pl.go 11 (Pl.go 12 (Pl.go 13 (Pl.go 14 Pl.stop)))))).or (Pl.go 10 (Pl.go 8 (Pl.go 11 (Pl.go 12 (Pl.go 13 (Pl.go 14 Pl.stop)))))))))).or (Pl.go 10 (Pl.go 4 (Pl.go 6 (Pl.go 7 (Pl.go 8 (Pl.go 11 (Pl.go 12 (Pl.go 13 (Pl.go 14 Pl.stop))))))))))).or ((Pl.go 4 (Pl.go 6 (Pl.go 7 ((Pl.go 1 ((Pl.go 8 (Pl.go 10 (Pl.go 11 (Pl.go 12 (Pl.go 13 (Pl.go 14 Pl.stop)))))).or (Pl.go 10 (Pl.go 8 (Pl.go 11 (Pl.go 12 (Pl.go 13 (Pl.go 14 Pl.stop)))))))).or ((Pl.go 8 ((Pl.go 1 (Pl.go 10 (Pl.go 11 (Pl.go 12 (Pl.go 13 (Pl.go 14 Pl.stop)))))).or (Pl.go 10 ((Pl.go 1 (Pl.go 11 (Pl.go 12 (Pl.go 13 (Pl.go 14 Pl.stop))))).or (Pl.go 11 (Pl.go 1 (Pl.go 12 (Pl.go 13 (Pl.go 14 Pl.stop))))))))).or (Pl.go 10 ((Pl.go 1 (Pl.go 8 (Pl.go 11 (Pl.go 12 (Pl.go 13 (Pl.go 14 Pl.stop)))))).or (Pl.go 8 ((Pl.go 1 (Pl.go 11 (Pl.go 12 (Pl.go 13 (Pl.go 14 Pl.stop))))).or (Pl.go 11 (Pl.go 1 (Pl.go 12 (Pl.go 13 (Pl.go 14 Pl.stop)))))))))))))).or (Pl.go 10 ((Pl.go 1 (Pl.go 4 (Pl.go 6 (Pl.go 7 (Pl.go 8 (Pl.go 11 (Pl.go 12 (Pl.go 13 (Pl.go 14 Pl.stop))))))))).or (Pl.go 4 (Pl.go 6 (Pl.go 7 ((Pl.go 1 (Pl.go 8 (Pl.go 11 (Pl.go 12 (Pl.go 13 (Pl.go 14 Pl.stop)))))).or (Pl.go 8 ((Pl.go 1 (Pl.go 11 (Pl.go 12 (Pl.go 13 (Pl.go 14 Pl.stop))))).or (Pl.go 11 (Pl.go 1 (Pl.go 12 (Pl.go 13 (Pl.go 14 Pl.stop)))))))))))))))))))))) (fun m => ∃ v : Nat, m = ⟨145, [(0, .vv (.string s)), (2, .c (.bx 3000 q2 0)), (4, .c (.bx 5000 q4 0)), (5, .bool (true || !(textInstr w).2)), (26, .c (.own 26000 qL)), (27, .int (L.length : Int)), (28, .int i)],
          [(3000, .box q2 [.v (.slice none 0 0), .v (.int .i64 0), .v (.slice none 0 0), .v (.slice none 0 0)]), (5000, .box q4 [.own 51000 qa, .v (.int .i64 (musAt L i)), .own 88000 qb, .own 97000 qc]), (26000, .row qL 0 1 (L.map T.str)),
           (51000, .row qa 0 1 ((capsAt L i).map T.int)), (88000, .row qb 0 2 (S.map t_Select)), (97000, .row qc v 1 ((addI P (textInstr w).1).map t_Proc))]⟩) (by kernel_rfl) ?_ ?_
        · refine And.intro (rfl : (_ : Nat) = _) ?_
          refine And.intro (rfl : (_ : Nat) = _) ?_
          refine And.intro ?_ ?_
          · refine And.intro (rfl : (_ : Nat) = _) ?_
            refine And.intro ?_ ?_
            · refine And.intro (rfl : (_ : Nat) = _) ?_
              refine And.intro (rfl : (_ : Nat) = _) (And.intro j1.1 (And.intro j1.2 ?_))
              refine And.intro (rfl : (_ : Nat) = _) ?_
              refine And.intro ?_ ?_
              · refine And.intro (rfl : (_ : Nat) = _) ⟨t_Proc c, hatk, ?_⟩
                refine And.intro (rfl : (_ : Nat) = _) ?_
                refine ⟨fun t ht => (by simp at ht; subst ht; rfl), fun qf => ?_⟩
                refine And.intro (rfl : (_ : Nat) = _) (And.intro (rfl : (_ : Nat) = _) ⟨P.length - 1, 0, t_Proc c, c.map t_Instr, hjk, Nat.zero_lt_one, hatc, rfl, fun vv xx => ?_⟩)
                refine And.intro (rfl : (_ : Nat) = _) ?_
                refine ⟨hbl, fun qg => ?_⟩
                refine And.intro (rfl : (_ : Nat) = _) (And.intro j1.1 (And.intro (hln xx) ?_))
                refine And.intro (rfl : (_ : Nat) = _) ?_
                refine And.intro (rfl : (_ : Nat) = _) (And.intro (rfl : (_ : Nat) = _) ⟨(t_Proc c).setCells 0 [.v xx], hset xx, Nat.le_refl _, fun v3 => ?_⟩)
                exact ⟨_, ⟨_, rfl⟩, wk rfl ⟨rfl, rfl, rfl, rfl, rfl, rfl, rfl, trivial⟩ ⟨rfl, rfl, rfl, rfl, rfl, congrArg (fun z => some (Ob.row qc v3 1 z)) (hfin xx), trivial⟩⟩
              · refine And.intro (rfl : (_ : Nat) = _) ?_
                refine And.intro ?_ ?_
                · refine And.intro (rfl : (_ : Nat) = _) ⟨t_Proc c, hatk, ?_⟩
                  refine ⟨fun t ht => (by simp at ht; subst ht; rfl), fun qf => ?_⟩
                  refine And.intro (rfl : (_ : Nat) = _) (And.intro (rfl : (_ : Nat) = _) ⟨P.length - 1, 0, t_Proc c, c.map t_Instr, hjk, Nat.zero_lt_one, hatc, rfl, fun vv xx => ?_⟩)
                  refine And.intro (rfl : (_ : Nat) = _) ?_
                  refine ⟨hbl, fun qg => ?_⟩
                  refine And.intro (rfl : (_ : Nat) = _) (And.intro j1.1 (And.intro (hln xx) ?_))
                  refine And.intro (rfl : (_ : Nat) = _) ?_
                  refine And.intro (rfl : (_ : Nat) = _) (And.intro (rfl : (_ : Nat) = _) ⟨(t_Proc c).setCells 0 [.v xx], hset xx, Nat.le_refl _, fun v3 => ?_⟩)
                  exact ⟨_, ⟨_, rfl⟩, wk rfl ⟨rfl, rfl, rfl, rfl, rfl, rfl, rfl, trivial⟩ ⟨rfl, rfl, rfl, rfl, rfl, congrArg (fun z => some (Ob.row qc v3 1 z)) (hfin xx), trivial⟩⟩
                · refine ⟨fun t ht => (by simp at ht; subst ht; rfl), fun qf => ?_⟩
                  refine And.intro (rfl : (_ : Nat) = _) ⟨t_Proc c, hatk, ?_⟩
                  refine And.intro (rfl : (_ : Nat) = _) (And.intro (rfl : (_ : Nat) = _) ⟨P.length - 1, 0, t_Proc c, c.map t_Instr, hjk, Nat.zero_lt_one, hatc, rfl, fun vv xx => ?_⟩)
                  refine And.intro (rfl : (_ : Nat) = _) ?_
                  refine ⟨hbl, fun qg => ?_⟩
                  refine And.intro (rfl : (_ : Nat) = _) (And.intro j1.1 (And.intro (hln xx) ?_))
                  refine And.intro (rfl : (_ : Nat) = _) ?_
                  refine And.intro (rfl : (_ : Nat) = _) (And.intro (rfl : (_ : Nat) = _) ⟨(t_Proc c).setCells 0 [.v xx], hset xx, Nat.le_refl _, fun v3 => ?_⟩)
                  exact ⟨_, ⟨_, rfl⟩, wk rfl ⟨rfl, rfl, rfl, rfl, rfl, rfl, rfl, trivial⟩ ⟨rfl, rfl, rfl, rfl, rfl, congrArg (fun z => some (Ob.row qc v3 1 z)) (hfin xx), trivial⟩⟩
            · refine And.intro (rfl : (_ : Nat) = _) ?_
              refine And.intro ?_ ?_
              · refine And.intro (rfl : (_ : Nat) = _) ?_
                refine And.intro (rfl : (_ : Nat) = _) (And.intro j1.1 (And.intro j1.2 ?_))
                refine And.intro (rfl : (_ : Nat) = _) ?_
                refine And.intro ?_ ?_
                · refine And.intro (rfl : (_ : Nat) = _) ⟨t_Proc c, hatk, ?_⟩
                  refine ⟨fun t ht => (by simp at ht; subst ht; rfl), fun qf => ?_⟩
                  refine And.intro (rfl : (_ : Nat) = _) (And.intro (rfl : (_ : Nat) = _) ⟨P.length - 1, 0, t_Proc c, c.map t_Instr, hjk, Nat.zero_lt_one, hatc, rfl, fun vv xx => ?_⟩)
                  refine And.intro (rfl : (_ : Nat) = _) ?_
                  refine ⟨hbl, fun qg => ?_⟩
                  refine And.intro (rfl : (_ : Nat) = _) (And.intro j1.1 (And.intro (hln xx) ?_))
                  refine And.intro (rfl : (_ : Nat) = _) ?_
                  refine And.intro (rfl : (_ : Nat) = _) (And.intro (rfl : (_ : Nat) = _) ⟨(t_Proc c).setCells 0 [.v xx], hset xx, Nat.le_refl _, fun v3 => ?_⟩)
                  exact ⟨_, ⟨_, rfl⟩, wk rfl ⟨rfl, rfl, rfl, rfl, rfl, rfl, rfl, trivial⟩ ⟨rfl, rfl, rfl, rfl, rfl, congrArg (fun z => some (Ob.row qc v3 1 z)) (hfin xx), trivial⟩⟩
                · refine ⟨fun t ht => (by simp at ht; subst ht; rfl), fun qf => ?_⟩
                  refine And.intro (rfl : (_ : Nat) = _) ⟨t_Proc c, hatk, ?_⟩
                  refine And.intro (rfl : (_ : Nat) = _) (And.intro (rfl : (_ : Nat) = _) ⟨P.length - 1, 0, t_Proc c, c.map t_Instr, hjk, Nat.zero_lt_one, hatc, rfl, fun vv xx => ?_⟩)
                  refine And.intro (rfl : (_ : Nat) = _) ?_
                  refine ⟨hbl, fun qg => ?_⟩
                  refine And.intro (rfl : (_ : Nat) = _) (And.intro j1.1 (And.intro (hln xx) ?_))
                  refine And.intro (rfl : (_ : Nat) = _) ?_
                  refine And.intro (rfl : (_ : Nat) = _) (And.intro (rfl : (_ : Nat) = _) ⟨(t_Proc c).setCells 0 [.v xx], hset xx, Nat.le_refl _, fun v3 => ?_⟩)
                  exact ⟨_, ⟨_, rfl⟩, wk rfl ⟨rfl, rfl, rfl, rfl, rfl, rfl, rfl, trivial⟩ ⟨rfl, rfl, rfl, rfl, rfl, congrArg (fun z => some (Ob.row qc v3 1 z)) (hfin xx), trivial⟩⟩
              · refine ⟨fun t ht => (by simp at ht; subst ht; rfl), fun qf => ?_⟩
                refine And.intro (rfl : (_ : Nat) = _) ?_
                refine And.intro (rfl : (_ : Nat) = _) (And.intro j1.1 (And.intro j1.2 ?_))
                refine And.intro (rfl : (_ : Nat) = _) ?_
                refine And.intro (rfl : (_ : Nat) = _) ⟨t_Proc c, hatk, ?_⟩
                refine And.intro (rfl : (_ : Nat) = _) (And.intro (rfl : (_ : Nat) = _) ⟨P.length - 1, 0, t_Proc c, c.map t_Instr, hjk, Nat.zero_lt_one, hatc, rfl, fun vv xx => ?_⟩)
                refine And.intro (rfl : (_ : Nat) = _) ?_
                refine ⟨hbl, fun qg => ?_⟩
                refine And.intro (rfl : (_ : Nat) = _) (And.intro j1.1 (And.intro (hln xx) ?_))
                refine And.intro (rfl : (_ : Nat) = _) ?_
                refine And.intro (rfl : (_ : Nat) = _) (And.intro (rfl : (_ : Nat) = _) ⟨(t_Proc c).setCells 0 [.v xx], hset xx, Nat.le_refl _, fun v3 => ?_⟩)
                exact ⟨_, ⟨_, rfl⟩, wk rfl ⟨rfl, rfl, rfl, rfl, rfl, rfl, rfl, trivial⟩ ⟨rfl, rfl, rfl, rfl, rfl, congrArg (fun z => some (Ob.row qc v3 1 z)) (hfin xx), trivial⟩⟩
          · refine And.intro ?_ ?_
            · refine And.intro (rfl : (_ : Nat) = _) ?_
              refine And.intro (rfl : (_ : Nat) = _) (And.intro j1.1 (And.intro j1.2 ?_))
              refine And.intro (rfl : (_ : Nat) = _) ?_
              refine And.intro ?_ ?_
              · refine And.intro (rfl : (_ : Nat) = _) ?_
                refine And.intro ?_ ?_
                · refine And.intro (rfl : (_ : Nat) = _) ⟨t_Proc c, hatk, ?_⟩
                  refine And.intro (rfl : (_ : Nat) = _) ?_
                  refine ⟨fun t ht => (by simp at ht; subst ht; rfl), fun qf => ?_⟩
                  refine And.intro (rfl : (_ : Nat) = _) (And.intro (rfl : (_ : Nat) = _) ⟨P.length - 1, 0, t_Proc c, c.map t_Instr, hjk, Nat.zero_lt_one, hatc, rfl, fun vv xx => ?_⟩)
                  refine And.intro (rfl : (_ : Nat) = _) ?_
                  refine ⟨hbl, fun qg => ?_⟩
                  refine And.intro (rfl : (_ : Nat) = _) (And.intro j1.1 (And.intro (hln xx) ?_))
                  refine And.intro (rfl : (_ : Nat) = _) ?_
                  refine And.intro (rfl : (_ : Nat) = _) (And.intro (rfl : (_ : Nat) = _) ⟨(t_Proc c).setCells 0 [.v xx], hset xx, Nat.le_refl _, fun v3 => ?_⟩)
                  exact ⟨_, ⟨_, rfl⟩, wk rfl ⟨rfl, rfl, rfl, rfl, rfl, rfl, rfl, trivial⟩ ⟨rfl, rfl, rfl, rfl, rfl, congrArg (fun z => some (Ob.row qc v3 1 z)) (hfin xx), trivial⟩⟩
                · refine And.intro (rfl : (_ : Nat) = _) ?_
                  refine And.intro ?_ ?_
                  · refine And.intro (rfl : (_ : Nat) = _) ⟨t_Proc c, hatk, ?_⟩
                    refine ⟨fun t ht => (by simp at ht; subst ht; rfl), fun qf => ?_⟩
                    refine And.intro (rfl : (_ : Nat) = _) (And.intro (rfl : (_ : Nat) = _) ⟨P.length - 1, 0, t_Proc c, c.map t_Instr, hjk, Nat.zero_lt_one, hatc, rfl, fun vv xx => ?_⟩)
                    refine And.intro (rfl : (_ : Nat) = _) ?_
                    refine ⟨hbl, fun qg => ?_⟩
                    refine And.intro (rfl : (_ : Nat) = _) (And.intro j1.1 (And.intro (hln xx) ?_))
                    refine And.intro (rfl : (_ : Nat) = _) ?_
                    refine And.intro (rfl : (_ : Nat) = _) (And.intro (rfl : (_ : Nat) = _) ⟨(t_Proc c).setCells 0 [.v xx], hset xx, Nat.le_refl _, fun v3 => ?_⟩)
                    exact ⟨_, ⟨_, rfl⟩, wk rfl ⟨rfl, rfl, rfl, rfl, rfl, rfl, rfl, trivial⟩ ⟨rfl, rfl, rfl, rfl, rfl, congrArg (fun z => some (Ob.row qc v3 1 z)) (hfin xx), trivial⟩⟩
                  · refine ⟨fun t ht => (by simp at ht; subst ht; rfl), fun qf => ?_⟩
                    refine And.intro (rfl : (_ : Nat) = _) ⟨t_Proc c, hatk, ?_⟩
                    refine And.intro (rfl : (_ : Nat) = _) (And.intro (rfl : (_ : Nat) = _) ⟨P.length - 1, 0, t_Proc c, c.map t_Instr, hjk, Nat.zero_lt_one, hatc, rfl, fun vv xx => ?_⟩)
                    refine And.intro (rfl : (_ : Nat) = _) ?_
                    refine ⟨hbl, fun qg => ?_⟩
                    refine And.intro (rfl : (_ : Nat) = _) (And.intro j1.1 (And.intro (hln xx) ?_))
                    refine And.intro (rfl : (_ : Nat) = _) ?_
                    refine And.intro (rfl : (_ : Nat) = _) (And.intro (rfl : (_ : Nat) = _) ⟨(t_Proc c).setCells 0 [.v xx], hset xx, Nat.le_refl _, fun v3 => ?_⟩)
                    exact ⟨_, ⟨_, rfl⟩, wk rfl ⟨rfl, rfl, rfl, rfl, rfl, rfl, rfl, trivial⟩ ⟨rfl, rfl, rfl, rfl, rfl, congrArg (fun z => some (Ob.row qc v3 1 z)) (hfin xx), trivial⟩⟩
              · refine And.intro ?_ ?_
                · refine And.intro (rfl : (_ : Nat) = _) ⟨t_Proc c, hatk, ?_⟩
                  refine And.intro ?_ ?_
                  · refine And.intro (rfl : (_ : Nat) = _) ?_
                    refine And.intro (rfl : (_ : Nat) = _) ?_
                    refine ⟨fun t ht => (by simp at ht; subst ht; rfl), fun qf => ?_⟩
                    refine And.intro (rfl : (_ : Nat) = _) (And.intro (rfl : (_ : Nat) = _) ⟨P.length - 1, 0, t_Proc c, c.map t_Instr, hjk, Nat.zero_lt_one, hatc, rfl, fun vv xx => ?_⟩)
                    refine And.intro (rfl : (_ : Nat) = _) ?_
                    refine ⟨hbl, fun qg => ?_⟩
                    refine And.intro (rfl : (_ : Nat) = _) (And.intro j1.1 (And.intro (hln xx) ?_))
                    refine And.intro (rfl : (_ : Nat) = _) ?_
                    refine And.intro (rfl : (_ : Nat) = _) (And.intro (rfl : (_ : Nat) = _) ⟨(t_Proc c).setCells 0 [.v xx], hset xx, Nat.le_refl _, fun v3 => ?_⟩)
                    exact ⟨_, ⟨_, rfl⟩, wk rfl ⟨rfl, rfl, rfl, rfl, rfl, rfl, rfl, trivial⟩ ⟨rfl, rfl, rfl, rfl, rfl, congrArg (fun z => some (Ob.row qc v3 1 z)) (hfin xx), trivial⟩⟩
                  · refine And.intro (rfl : (_ : Nat) = _) ?_
                    refine And.intro ?_ ?_
                    · refine And.intro (rfl : (_ : Nat) = _) ?_
                      refine ⟨fun t ht => (by simp at ht; subst ht; rfl), fun qf => ?_⟩
                      refine And.intro (rfl : (_ : Nat) = _) (And.intro (rfl : (_ : Nat) = _) ⟨P.length - 1, 0, t_Proc c, c.map t_Instr, hjk, Nat.zero_lt_one, hatc, rfl, fun vv xx => ?_⟩)
                      refine And.intro (rfl : (_ : Nat) = _) ?_
                      refine ⟨hbl, fun qg => ?_⟩
                      refine And.intro (rfl : (_ : Nat) = _) (And.intro j1.1 (And.intro (hln xx) ?_))
                      refine And.intro (rfl : (_ : Nat) = _) ?_
                      refine And.intro (rfl : (_ : Nat) = _) (And.intro (rfl : (_ : Nat) = _) ⟨(t_Proc c).setCells 0 [.v xx], hset xx, Nat.le_refl _, fun v3 => ?_⟩)
                      exact ⟨_, ⟨_, rfl⟩, wk rfl ⟨rfl, rfl, rfl, rfl, rfl, rfl, rfl, trivial⟩ ⟨rfl, rfl, rfl, rfl, rfl, congrArg (fun z => some (Ob.row qc v3 1 z)) (hfin xx), trivial⟩⟩
                    · refine ⟨fun t ht => (by simp at ht; subst ht; rfl), fun qf => ?_⟩
                      refine And.intro ?_ ?_
                      · refine And.intro (rfl : (_ : Nat) = _) ?_
                        refine And.intro (rfl : (_ : Nat) = _) (And.intro (rfl : (_ : Nat) = _) ⟨P.length - 1, 0, t_Proc c, c.map t_Instr, hjk, Nat.zero_lt_one, hatc, rfl, fun vv xx => ?_⟩)
                        refine And.intro (rfl : (_ : Nat) = _) ?_
                        refine ⟨hbl, fun qg => ?_⟩
                        refine And.intro (rfl : (_ : Nat) = _) (And.intro j1.1 (And.intro (hln xx) ?_))
                        refine And.intro (rfl : (_ : Nat) = _) ?_
                        refine And.intro (rfl : (_ : Nat) = _) (And.intro (rfl : (_ : Nat) = _) ⟨(t_Proc c).setCells 0 [.v xx], hset xx, Nat.le_refl _, fun v3 => ?_⟩)
                        exact ⟨_, ⟨_, rfl⟩, wk rfl ⟨rfl, rfl, rfl, rfl, rfl, rfl, rfl, trivial⟩ ⟨rfl, rfl, rfl, rfl, rfl, congrArg (fun z => some (Ob.row qc v3 1 z)) (hfin xx), trivial⟩⟩
                      · refine And.intro (rfl : (_ : Nat) = _) (And.intro (rfl : (_ : Nat) = _) ⟨P.length - 1, 0, t_Proc c, c.map t_Instr, hjk, Nat.zero_lt_one, hatc, rfl, fun vv xx => ?_⟩)
                        refine And.intro (rfl : (_ : Nat) = _) ?_
                        refine ⟨hbl, fun qg => ?_⟩
                        refine And.intro (rfl : (_ : Nat) = _) ?_
                        refine And.intro (rfl : (_ : Nat) = _) (And.intro j1.1 (And.intro (hln xx) ?_))
                        refine And.intro (rfl : (_ : Nat) = _) ?_
                        refine And.intro (rfl : (_ : Nat) = _) (And.intro (rfl : (_ : Nat) = _) ⟨(t_Proc c).setCells 0 [.v xx], hset xx, Nat.le_refl _, fun v3 => ?_⟩)
                        exact ⟨_, ⟨_, rfl⟩, wk rfl ⟨rfl, rfl, rfl, rfl, rfl, rfl, rfl, trivial⟩ ⟨rfl, rfl, rfl, rfl, rfl, congrArg (fun z => some (Ob.row qc v3 1 z)) (hfin xx), trivial⟩⟩
                · refine And.intro (rfl : (_ : Nat) = _) ?_
                  refine And.intro ?_ ?_
                  · refine And.intro (rfl : (_ : Nat) = _) ?_
                    refine And.intro ?_ ?_
                    · refine And.intro (rfl : (_ : Nat) = _) ⟨t_Proc c, hatk, ?_⟩
                      refine ⟨fun t ht => (by simp at ht; subst ht; rfl), fun qf => ?_⟩
                      refine And.intro (rfl : (_ : Nat) = _) (And.intro (rfl : (_ : Nat) = _) ⟨P.length - 1, 0, t_Proc c, c.map t_Instr, hjk, Nat.zero_lt_one, hatc, rfl, fun vv xx => ?_⟩)
                      refine And.intro (rfl : (_ : Nat) = _) ?_
                      refine ⟨hbl, fun qg => ?_⟩
                      refine And.intro (rfl : (_ : Nat) = _) (And.intro j1.1 (And.intro (hln xx) ?_))
                      refine And.intro (rfl : (_ : Nat) = _) ?_
                      refine And.intro (rfl : (_ : Nat) = _) (And.intro (rfl : (_ : Nat) = _) ⟨(t_Proc c).setCells 0 [.v xx], hset xx, Nat.le_refl _, fun v3 => ?_⟩)
                      exact ⟨_, ⟨_, rfl⟩, wk rfl ⟨rfl, rfl, rfl, rfl, rfl, rfl, rfl, trivial⟩ ⟨rfl, rfl, rfl, rfl, rfl, congrArg (fun z => some (Ob.row qc v3 1 z)) (hfin xx), trivial⟩⟩
                    · refine ⟨fun t ht => (by simp at ht; subst ht; rfl), fun qf => ?_⟩
                      refine And.intro (rfl : (_ : Nat) = _) ⟨t_Proc c, hatk, ?_⟩
                      refine And.intro (rfl : (_ : Nat) = _) (And.intro (rfl : (_ : Nat) = _) ⟨P.length - 1, 0, t_Proc c, c.map t_Instr, hjk, Nat.zero_lt_one, hatc, rfl, fun vv xx => ?_⟩)
                      refine And.intro (rfl : (_ : Nat) = _) ?_
                      refine ⟨hbl, fun qg => ?_⟩
                      refine And.intro (rfl : (_ : Nat) = _) (And.intro j1.1 (And.intro (hln xx) ?_))
                      refine And.intro (rfl : (_ : Nat) = _) ?_
                      refine And.intro (rfl : (_ : Nat) = _) (And.intro (rfl : (_ : Nat) = _) ⟨(t_Proc c).setCells 0 [.v xx], hset xx, Nat.le_refl _, fun v3 => ?_⟩)
                      exact ⟨_, ⟨_, rfl⟩, wk rfl ⟨rfl, rfl, rfl, rfl, rfl, rfl, rfl, trivial⟩ ⟨rfl, rfl, rfl, rfl, rfl, congrArg (fun z => some (Ob.row qc v3 1 z)) (hfin xx), trivial⟩⟩
                  · refine And.intro ?_ ?_
                    · refine And.intro (rfl : (_ : Nat) = _) ⟨t_Proc c, hatk, ?_⟩
                      refine And.intro ?_ ?_
                      · refine And.intro (rfl : (_ : Nat) = _) ?_
                        refine ⟨fun t ht => (by simp at ht; subst ht; rfl), fun qf => ?_⟩
                        refine And.intro (rfl : (_ : Nat) = _) (And.intro (rfl : (_ : Nat) = _) ⟨P.length - 1, 0, t_Proc c, c.map t_Instr, hjk, Nat.zero_lt_one, hatc, rfl, fun vv xx => ?_⟩)
                        refine And.intro (rfl : (_ : Nat) = _) ?_
                        refine ⟨hbl, fun qg => ?_⟩
                        refine And.intro (rfl : (_ : Nat) = _) (And.intro j1.1 (And.intro (hln xx) ?_))
                        refine And.intro (rfl : (_ : Nat) = _) ?_
                        refine And.intro (rfl : (_ : Nat) = _) (And.intro (rfl : (_ : Nat) = _) ⟨(t_Proc c).setCells 0 [.v xx], hset xx, Nat.le_refl _, fun v3 => ?_⟩)
                        exact ⟨_, ⟨_, rfl⟩, wk rfl ⟨rfl, rfl, rfl, rfl, rfl, rfl, rfl, trivial⟩ ⟨rfl, rfl, rfl, rfl, rfl, congrArg (fun z => some (Ob.row qc v3 1 z)) (hfin xx), trivial⟩⟩
                      · refine ⟨fun t ht => (by simp at ht; subst ht; rfl), fun qf => ?_⟩
                        refine And.intro ?_ ?_
                        · refine And.intro (rfl : (_ : Nat) = _) ?_
                          refine And.intro (rfl : (_ : Nat) = _) (And.intro (rfl : (_ : Nat) = _) ⟨P.length - 1, 0, t_Proc c, c.map t_Instr, hjk, Nat.zero_lt_one, hatc, rfl, fun vv xx => ?_⟩)
                          refine And.intro (rfl : (_ : Nat) = _) ?_
                          refine ⟨hbl, fun qg => ?_⟩
                          refine And.intro (rfl : (_ : Nat) = _) (And.intro j1.1 (And.intro (hln xx) ?_))
                          refine And.intro (rfl : (_ : Nat) = _) ?_
                          refine And.intro (rfl : (_ : Nat) = _) (And.intro (rfl : (_ : Nat) = _) ⟨(t_Proc c).setCells 0 [.v xx], hset xx, Nat.le_refl _, fun v3 => ?_⟩)
                          exact ⟨_, ⟨_, rfl⟩, wk rfl ⟨rfl, rfl, rfl, rfl, rfl, rfl, rfl, trivial⟩ ⟨rfl, rfl, rfl, rfl, rfl, congrArg (fun z => some (Ob.row qc v3 1 z)) (hfin xx), trivial⟩⟩
                        · refine And.intro (rfl : (_ : Nat) = _) (And.intro (rfl : (_ : Nat) = _) ⟨P.length - 1, 0, t_Proc c, c.map t_Instr, hjk, Nat.zero_lt_one, hatc, rfl, fun vv xx => ?_⟩)
                          refine And.intro (rfl : (_ : Nat) = _) ?_
                          refine ⟨hbl, fun qg => ?_⟩
                          refine And.intro (rfl : (_ : Nat) = _) ?_
                          refine And.intro (rfl : (_ : Nat) = _) (And.intro j1.1 (And.intro (hln xx) ?_))
                          refine And.intro (rfl : (_ : Nat) = _) ?_
                          refine And.intro (rfl : (_ : Nat) = _) (And.intro (rfl : (_ : Nat) = _) ⟨(t_Proc c).setCells 0 [.v xx], hset xx, Nat.le_refl _, fun v3 => ?_⟩)
                          exact ⟨_, ⟨_, rfl⟩, wk rfl ⟨rfl, rfl, rfl, rfl, rfl, rfl, rfl, trivial⟩ ⟨rfl, rfl, rfl, rfl, rfl, congrArg (fun z => some (Ob.row qc v3 1 z)) (hfin xx), trivial⟩⟩
                    · refine ⟨fun t ht => (by simp at ht; subst ht; rfl), fun qf => ?_⟩
                      refine And.intro ?_ ?_
                      · refine And.intro (rfl : (_ : Nat) = _) ?_
                        refine And.intro (rfl : (_ : Nat) = _) ⟨t_Proc c, hatk, ?_⟩
                        refine And.intro (rfl : (_ : Nat) = _) (And.intro (rfl : (_ : Nat) = _) ⟨P.length - 1, 0, t_Proc c, c.map t_Instr, hjk, Nat.zero_lt_one, hatc, rfl, fun vv xx => ?_⟩)
                        refine And.intro (rfl : (_ : Nat) = _) ?_
                        refine ⟨hbl, fun qg => ?_⟩
                        refine And.intro (rfl : (_ : Nat) = _) (And.intro j1.1 (And.intro (hln xx) ?_))
                        refine And.intro (rfl : (_ : Nat) = _) ?_
                        refine And.intro (rfl : (_ : Nat) = _) (And.intro (rfl : (_ : Nat) = _) ⟨(t_Proc c).setCells 0 [.v xx], hset xx, Nat.le_refl _, fun v3 => ?_⟩)
                        exact ⟨_, ⟨_, rfl⟩, wk rfl ⟨rfl, rfl, rfl, rfl, rfl, rfl, rfl, trivial⟩ ⟨rfl, rfl, rfl, rfl, rfl, congrArg (fun z => some (Ob.row qc v3 1 z)) (hfin xx), trivial⟩⟩
                      · refine And.intro (rfl : (_ : Nat) = _) ⟨t_Proc c, hatk, ?_⟩
                        refine And.intro ?_ ?_
                        · refine And.intro (rfl : (_ : Nat) = _) ?_
                          refine And.intro (rfl : (_ : Nat) = _) (And.intro (rfl : (_ : Nat) = _) ⟨P.length - 1, 0, t_Proc c, c.map t_Instr, hjk, Nat.zero_lt_one, hatc, rfl, fun vv xx => ?_⟩)
                          refine And.intro (rfl : (_ : Nat) = _) ?_
                          refine ⟨hbl, fun qg => ?_⟩
                          refine And.intro (rfl : (_ : Nat) = _) (And.intro j1.1 (And.intro (hln xx) ?_))
                          refine And.intro (rfl : (_ : Nat) = _) ?_
                          refine And.intro (rfl : (_ : Nat) = _) (And.intro (rfl : (_ : Nat) = _) ⟨(t_Proc c).setCells 0 [.v xx], hset xx, Nat.le_refl _, fun v3 => ?_⟩)
                          exact ⟨_, ⟨_, rfl⟩, wk rfl ⟨rfl, rfl, rfl, rfl, rfl, rfl, rfl, trivial⟩ ⟨rfl, rfl, rfl, rfl, rfl, congrArg (fun z => some (Ob.row qc v3 1 z)) (hfin xx), trivial⟩⟩
                        · refine And.intro (rfl : (_ : Nat) = _) (And.intro (rfl : (_ : Nat) = _) ⟨P.length - 1, 0, t_Proc c, c.map t_Instr, hjk, Nat.zero_lt_one, hatc, rfl, fun vv xx => ?_⟩)
                          refine And.intro (rfl : (_ : Nat) = _) ?_
                          refine ⟨hbl, fun qg => ?_⟩
                          refine And.intro (rfl : (_ : Nat) = _) ?_
                          refine And.intro (rfl : (_ : Nat) = _) (And.intro j1.1 (And.intro (hln xx) ?_))
                          refine And.intro (rfl : (_ : Nat) = _) ?_
                          refine And.intro (rfl : (_ : Nat) = _) (And.intro (rfl : (_ : Nat) = _) ⟨(t_Proc c).setCells 0 [.v xx], hset xx, Nat.le_refl _, fun v3 => ?_⟩)
                          exact ⟨_, ⟨_, rfl⟩, wk rfl ⟨rfl, rfl, rfl, rfl, rfl, rfl, rfl, trivial⟩ ⟨rfl, rfl, rfl, rfl, rfl, congrArg (fun z => some (Ob.row qc v3 1 z)) (hfin xx), trivial⟩⟩
            · refine And.intro (rfl : (_ : Nat) = _) ?_
              refine And.intro ?_ ?_
              · refine And.intro (rfl : (_ : Nat) = _) ?_
                refine And.intro ?_ ?_
                · refine And.intro (rfl : (_ : Nat) = _) ?_
                  refine And.intro (rfl : (_ : Nat) = _) (And.intro j1.1 (And.intro j1.2 ?_))
                  refine And.intro (rfl : (_ : Nat) = _) ?_
                  refine And.intro ?_ ?_
                  · refine And.intro (rfl : (_ : Nat) = _) ⟨t_Proc c, hatk, ?_⟩
                    refine ⟨fun t ht => (by simp at ht; subst ht; rfl), fun qf => ?_⟩
                    refine And.intro (rfl : (_ : Nat) = _) (And.intro (rfl : (_ : Nat) = _) ⟨P.length - 1, 0, t_Proc c, c.map t_Instr, hjk, Nat.zero_lt_one, hatc, rfl, fun vv xx => ?_⟩)
                    refine And.intro (rfl : (_ : Nat) = _) ?_
                    refine ⟨hbl, fun qg => ?_⟩
                    refine And.intro (rfl : (_ : Nat) = _) (And.intro j1.1 (And.intro (hln xx) ?_))
                    refine And.intro (rfl : (_ : Nat) = _) ?_
                    refine And.intro (rfl : (_ : Nat) = _) (And.intro (rfl : (_ : Nat) = _) ⟨(t_Proc c).setCells 0 [.v xx], hset xx, Nat.le_refl _, fun v3 => ?_⟩)
                    exact ⟨_, ⟨_, rfl⟩, wk rfl ⟨rfl, rfl, rfl, rfl, rfl, rfl, rfl, trivial⟩ ⟨rfl, rfl, rfl, rfl, rfl, congrArg (fun z => some (Ob.row qc v3 1 z)) (hfin xx), trivial⟩⟩
                  · refine ⟨fun t ht => (by simp at ht; subst ht; rfl), fun qf => ?_⟩
                    refine And.intro (rfl : (_ : Nat) = _) ⟨t_Proc c, hatk, ?_⟩
                    refine And.intro (rfl : (_ : Nat) = _) (And.intro (rfl : (_ : Nat) = _) ⟨P.length - 1, 0, t_Proc c, c.map t_Instr, hjk, Nat.zero_lt_one, hatc, rfl, fun vv xx => ?_⟩)
                    refine And.intro (rfl : (_ : Nat) = _) ?_
                    refine ⟨hbl, fun qg => ?_⟩
                    refine And.intro (rfl : (_ : Nat) = _) (And.intro j1.1 (And.intro (hln xx) ?_))
                    refine And.intro (rfl : (_ : Nat) = _) ?_
                    refine And.intro (rfl : (_ : Nat) = _) (And.intro (rfl : (_ : Nat) = _) ⟨(t_Proc c).setCells 0 [.v xx], hset xx, Nat.le_refl _, fun v3 => ?_⟩)
                    exact ⟨_, ⟨_, rfl⟩, wk rfl ⟨rfl, rfl, rfl, rfl, rfl, rfl, rfl, trivial⟩ ⟨rfl, rfl, rfl, rfl, rfl, congrArg (fun z => some (Ob.row qc v3 1 z)) (hfin xx), trivial⟩⟩
                · refine ⟨fun t ht => (by simp at ht; subst ht; rfl), fun qf => ?_⟩
                  refine And.intro (rfl : (_ : Nat) = _) ?_
                  refine And.intro (rfl : (_ : Nat) = _) (And.intro j1.1 (And.intro j1.2 ?_))
                  refine And.intro (rfl : (_ : Nat) = _) ?_
                  refine And.intro (rfl : (_ : Nat) = _) ⟨t_Proc c, hatk, ?_⟩
                  refine And.intro (rfl : (_ : Nat) = _) (And.intro (rfl : (_ : Nat) = _) ⟨P.length - 1, 0, t_Proc c, c.map t_Instr, hjk, Nat.zero_lt_one, hatc, rfl, fun vv xx => ?_⟩)
                  refine And.intro (rfl : (_ : Nat) = _) ?_
                  refine ⟨hbl, fun qg => ?_⟩
                  refine And.intro (rfl : (_ : Nat) = _) (And.intro j1.1 (And.intro (hln xx) ?_))
                  refine And.intro (rfl : (_ : Nat) = _) ?_
                  refine And.intro (rfl : (_ : Nat) = _) (And.intro (rfl : (_ : Nat) = _) ⟨(t_Proc c).setCells 0 [.v xx], hset xx, Nat.le_refl _, fun v3 => ?_⟩)
                  exact ⟨_, ⟨_, rfl⟩, wk rfl ⟨rfl, rfl, rfl, rfl, rfl, rfl, rfl, trivial⟩ ⟨rfl, rfl, rfl, rfl, rfl, congrArg (fun z => some (Ob.row qc v3 1 z)) (hfin xx), trivial⟩⟩
              · refine And.intro ?_ ?_
                · refine And.intro (rfl : (_ : Nat) = _) ?_
                  refine And.intro (rfl : (_ : Nat) = _) (And.intro j1.1 (And.intro j1.2 ?_))
                  refine And.intro (rfl : (_ : Nat) = _) ?_
                  refine And.intro ?_ ?_
                  · refine And.intro (rfl : (_ : Nat) = _) ?_
                    refine And.intro ?_ ?_
                    · refine And.intro (rfl : (_ : Nat) = _) ⟨t_Proc c, hatk, ?_⟩
                      refine ⟨fun t ht => (by simp at ht; subst ht; rfl), fun qf => ?_⟩
                      refine And.intro (rfl : (_ : Nat) = _) (And.intro (rfl : (_ : Nat) = _) ⟨P.length - 1, 0, t_Proc c, c.map t_Instr, hjk, Nat.zero_lt_one, hatc, rfl, fun vv xx => ?_⟩)
                      refine And.intro (rfl : (_ : Nat) = _) ?_
                      refine ⟨hbl, fun qg => ?_⟩
                      refine And.intro (rfl : (_ : Nat) = _) (And.intro j1.1 (And.intro (hln xx) ?_))
                      refine And.intro (rfl : (_ : Nat) = _) ?_
                      refine And.intro (rfl : (_ : Nat) = _) (And.intro (rfl : (_ : Nat) = _) ⟨(t_Proc c).setCells 0 [.v xx], hset xx, Nat.le_refl _, fun v3 => ?_⟩)
                      exact ⟨_, ⟨_, rfl⟩, wk rfl ⟨rfl, rfl, rfl, rfl, rfl, rfl, rfl, trivial⟩ ⟨rfl, rfl, rfl, rfl, rfl, congrArg (fun z => some (Ob.row qc v3 1 z)) (hfin xx), trivial⟩⟩
                    · refine ⟨fun t ht => (by simp at ht; subst ht; rfl), fun qf => ?_⟩
                      refine And.intro (rfl : (_ : Nat) = _) ⟨t_Proc c, hatk, ?_⟩
                      refine And.intro (rfl : (_ : Nat) = _) (And.intro (rfl : (_ : Nat) = _) ⟨P.length - 1, 0, t_Proc c, c.map t_Instr, hjk, Nat.zero_lt_one, hatc, rfl, fun vv xx => ?_⟩)
                      refine And.intro (rfl : (_ : Nat) = _) ?_
                      refine ⟨hbl, fun qg => ?_⟩
                      refine And.intro (rfl : (_ : Nat) = _) (And.intro j1.1 (And.intro (hln xx) ?_))
                      refine And.intro (rfl : (_ : Nat) = _) ?_
                      refine And.intro (rfl : (_ : Nat) = _) (And.intro (rfl : (_ : Nat) = _) ⟨(t_Proc c).setCells 0 [.v xx], hset xx, Nat.le_refl _, fun v3 => ?_⟩)
                      exact ⟨_, ⟨_, rfl⟩, wk rfl ⟨rfl, rfl, rfl, rfl, rfl, rfl, rfl, trivial⟩ ⟨rfl, rfl, rfl, rfl, rfl, congrArg (fun z => some (Ob.row qc v3 1 z)) (hfin xx), trivial⟩⟩
                  · refine And.intro ?_ ?_
                    · refine And.intro (rfl : (_ : Nat) = _) ⟨t_Proc c, hatk, ?_⟩
                      refine And.intro ?_ ?_
                      · refine And.intro (rfl : (_ : Nat) = _) ?_
                        refine ⟨fun t ht => (by simp at ht; subst ht; rfl), fun qf => ?_⟩
                        refine And.intro (rfl : (_ : Nat) = _) (And.intro (rfl : (_ : Nat) = _) ⟨P.length - 1, 0, t_Proc c, c.map t_Instr, hjk, Nat.zero_lt_one, hatc, rfl, fun vv xx => ?_⟩)
                        refine And.intro (rfl : (_ : Nat) = _) ?_
                        refine ⟨hbl, fun qg => ?_⟩
                        refine And.intro (rfl : (_ : Nat) = _) (And.intro j1.1 (And.intro (hln xx) ?_))
                        refine And.intro (rfl : (_ : Nat) = _) ?_
                        refine And.intro (rfl : (_ : Nat) = _) (And.intro (rfl : (_ : Nat) = _) ⟨(t_Proc c).setCells 0 [.v xx], hset xx, Nat.le_refl _, fun v3 => ?_⟩)
                        exact ⟨_, ⟨_, rfl⟩, wk rfl ⟨rfl, rfl, rfl, rfl, rfl, rfl, rfl, trivial⟩ ⟨rfl, rfl, rfl, rfl, rfl, congrArg (fun z => some (Ob.row qc v3 1 z)) (hfin xx), trivial⟩⟩
                      · refine ⟨fun t ht => (by simp at ht; subst ht; rfl), fun qf => ?_⟩
                        refine And.intro ?_ ?_
                        · refine And.intro (rfl : (_ : Nat) = _) ?_
                          refine And.intro (rfl : (_ : Nat) = _) (And.intro (rfl : (_ : Nat) = _) ⟨P.length - 1, 0, t_Proc c, c.map t_Instr, hjk, Nat.zero_lt_one, hatc, rfl, fun vv xx => ?_⟩)
                          refine And.intro (rfl : (_ : Nat) = _) ?_
                          refine ⟨hbl, fun qg => ?_⟩
                          refine And.intro (rfl : (_ : Nat) = _) (And.intro j1.1 (And.intro (hln xx) ?_))
                          refine And.intro (rfl : (_ : Nat) = _) ?_
                          refine And.intro (rfl : (_ : Nat) = _) (And.intro (rfl : (_ : Nat) = _) ⟨(t_Proc c).setCells 0 [.v xx], hset xx, Nat.le_refl _, fun v3 => ?_⟩)
                          exact ⟨_, ⟨_, rfl⟩, wk rfl ⟨rfl, rfl, rfl, rfl, rfl, rfl, rfl, trivial⟩ ⟨rfl, rfl, rfl, rfl, rfl, congrArg (fun z => some (Ob.row qc v3 1 z)) (hfin xx), trivial⟩⟩
                        · refine And.intro (rfl : (_ : Nat) = _) (And.intro (rfl : (_ : Nat) = _) ⟨P.length - 1, 0, t_Proc c, c.map t_Instr, hjk, Nat.zero_lt_one, hatc, rfl, fun vv xx => ?_⟩)
                          refine And.intro (rfl : (_ : Nat) = _) ?_
                          refine ⟨hbl, fun qg => ?_⟩
                          refine And.intro (rfl : (_ : Nat) = _) ?_
                          refine And.intro (rfl : (_ : Nat) = _) (And.intro j1.1 (And.intro (hln xx) ?_))
                          refine And.intro (rfl : (_ : Nat) = _) ?_
                          refine And.intro (rfl : (_ : Nat) = _) (And.intro (rfl : (_ : Nat) = _) ⟨(t_Proc c).setCells 0 [.v xx], hset xx, Nat.le_refl _, fun v3 => ?_⟩)
                          exact ⟨_, ⟨_, rfl⟩, wk rfl ⟨rfl, rfl, rfl, rfl, rfl, rfl, rfl, trivial⟩ ⟨rfl, rfl, rfl, rfl, rfl, congrArg (fun z => some (Ob.row qc v3 1 z)) (hfin xx), trivial⟩⟩
                    · refine ⟨fun t ht => (by simp at ht; subst ht; rfl), fun qf => ?_⟩
                      refine And.intro ?_ ?_
                      · refine And.intro (rfl : (_ : Nat) = _) ?_
                        refine And.intro (rfl : (_ : Nat) = _) ⟨t_Proc c, hatk, ?_⟩
                        refine And.intro (rfl : (_ : Nat) = _) (And.intro (rfl : (_ : Nat) = _) ⟨P.length - 1, 0, t_Proc c, c.map t_Instr, hjk, Nat.zero_lt_one, hatc, rfl, fun vv xx => ?_⟩)
                        refine And.intro (rfl : (_ : Nat) = _) ?_
                        refine ⟨hbl, fun qg => ?_⟩
                        refine And.intro (rfl : (_ : Nat) = _) (And.intro j1.1 (And.intro (hln xx) ?_))
                        refine And.intro (rfl : (_ : Nat) = _) ?_
                        refine And.intro (rfl : (_ : Nat) = _) (And.intro (rfl : (_ : Nat) = _) ⟨(t_Proc c).setCells 0 [.v xx], hset xx, Nat.le_refl _, fun v3 => ?_⟩)
                        exact ⟨_, ⟨_, rfl⟩, wk rfl ⟨rfl, rfl, rfl, rfl, rfl, rfl, rfl, trivial⟩ ⟨rfl, rfl, rfl, rfl, rfl, congrArg (fun z => some (Ob.row qc v3 1 z)) (hfin xx), trivial⟩⟩
                      · refine And.intro (rfl : (_ : Nat) = _) ⟨t_Proc c, hatk, ?_⟩
                        refine And.intro ?_ ?_
                        · refine And.intro (rfl : (_ : Nat) = _) ?_
                          refine And.intro (rfl : (_ : Nat) = _) (And.intro (rfl : (_ : Nat) = _) ⟨P.length - 1, 0, t_Proc c, c.map t_Instr, hjk, Nat.zero_lt_one, hatc, rfl, fun vv xx => ?_⟩)
                          refine And.intro (rfl : (_ : Nat) = _) ?_
                          refine ⟨hbl, fun qg => ?_⟩
                          refine And.intro (rfl : (_ : Nat) = _) (And.intro j1.1 (And.intro (hln xx) ?_))
                          refine And.intro (rfl : (_ : Nat) = _) ?_
                          refine And.intro (rfl : (_ : Nat) = _) (And.intro (rfl : (_ : Nat) = _) ⟨(t_Proc c).setCells 0 [.v xx], hset xx, Nat.le_refl _, fun v3 => ?_⟩)
                          exact ⟨_, ⟨_, rfl⟩, wk rfl ⟨rfl, rfl, rfl, rfl, rfl, rfl, rfl, trivial⟩ ⟨rfl, rfl, rfl, rfl, rfl, congrArg (fun z => some (Ob.row qc v3 1 z)) (hfin xx), trivial⟩⟩
                        · refine And.intro (rfl : (_ : Nat) = _) (And.intro (rfl : (_ : Nat) = _) ⟨P.length - 1, 0, t_Proc c, c.map t_Instr, hjk, Nat.zero_lt_one, hatc, rfl, fun vv xx => ?_⟩)
                          refine And.intro (rfl : (_ : Nat) = _) ?_
                          refine ⟨hbl, fun qg => ?_⟩
                          refine And.intro (rfl : (_ : Nat) = _) ?_
                          refine And.intro (rfl : (_ : Nat) = _) (And.intro j1.1 (And.intro (hln xx) ?_))
                          refine And.intro (rfl : (_ : Nat) = _) ?_
                          refine And.intro (rfl : (_ : Nat) = _) (And.intro (rfl : (_ : Nat) = _) ⟨(t_Proc c).setCells 0 [.v xx], hset xx, Nat.le_refl _, fun v3 => ?_⟩)
                          exact ⟨_, ⟨_, rfl⟩, wk rfl ⟨rfl, rfl, rfl, rfl, rfl, rfl, rfl, trivial⟩ ⟨rfl, rfl, rfl, rfl, rfl, congrArg (fun z => some (Ob.row qc v3 1 z)) (hfin xx), trivial⟩⟩
                · refine ⟨fun t ht => (by simp at ht; subst ht; rfl), fun qf => ?_⟩
                  refine And.intro ?_ ?_
                  · refine And.intro (rfl : (_ : Nat) = _) ?_
                    refine And.intro (rfl : (_ : Nat) = _) ?_
                    refine And.intro (rfl : (_ : Nat) = _) (And.intro j1.1 (And.intro j1.2 ?_))
                    refine And.intro (rfl : (_ : Nat) = _) ?_
                    refine And.intro (rfl : (_ : Nat) = _) ⟨t_Proc c, hatk, ?_⟩
                    refine And.intro (rfl : (_ : Nat) = _) (And.intro (rfl : (_ : Nat) = _) ⟨P.length - 1, 0, t_Proc c, c.map t_Instr, hjk, Nat.zero_lt_one, hatc, rfl, fun vv xx => ?_⟩)
                    refine And.intro (rfl : (_ : Nat) = _) ?_
                    refine ⟨hbl, fun qg => ?_⟩
                    refine And.intro (rfl : (_ : Nat) = _) (And.intro j1.1 (And.intro (hln xx) ?_))
                    refine And.intro (rfl : (_ : Nat) = _) ?_
                    refine And.intro (rfl : (_ : Nat) = _) (And.intro (rfl : (_ : Nat) = _) ⟨(t_Proc c).setCells 0 [.v xx], hset xx, Nat.le_refl _, fun v3 => ?_⟩)
                    exact ⟨_, ⟨_, rfl⟩, wk rfl ⟨rfl, rfl, rfl, rfl, rfl, rfl, rfl, trivial⟩ ⟨rfl, rfl, rfl, rfl, rfl, congrArg (fun z => some (Ob.row qc v3 1 z)) (hfin xx), trivial⟩⟩
                  · refine And.intro (rfl : (_ : Nat) = _) ?_
                    refine And.intro (rfl : (_ : Nat) = _) (And.intro j1.1 (And.intro j1.2 ?_))
                    refine And.intro (rfl : (_ : Nat) = _) ?_
                    refine And.intro ?_ ?_
                    · refine And.intro (rfl : (_ : Nat) = _) ?_
                      refine And.intro (rfl : (_ : Nat) = _) ⟨t_Proc c, hatk, ?_⟩
                      refine And.intro (rfl : (_ : Nat) = _) (And.intro (rfl : (_ : Nat) = _) ⟨P.length - 1, 0, t_Proc c, c.map t_Instr, hjk, Nat.zero_lt_one, hatc, rfl, fun vv xx => ?_⟩)
                      refine And.intro (rfl : (_ : Nat) = _) ?_
                      refine ⟨hbl, fun qg => ?_⟩
                      refine And.intro (rfl : (_ : Nat) = _) (And.intro j1.1 (And.intro (hln xx) ?_))
                      refine And.intro (rfl : (_ : Nat) = _) ?_
                      refine And.intro (rfl : (_ : Nat) = _) (And.intro (rfl : (_ : Nat) = _) ⟨(t_Proc c).setCells 0 [.v xx], hset xx, Nat.le_refl _, fun v3 => ?_⟩)
                      exact ⟨_, ⟨_, rfl⟩, wk rfl ⟨rfl, rfl, rfl, rfl, rfl, rfl, rfl, trivial⟩ ⟨rfl, rfl, rfl, rfl, rfl, congrArg (fun z => some (Ob.row qc v3 1 z)) (hfin xx), trivial⟩⟩
                    · refine And.intro (rfl : (_ : Nat) = _) ⟨t_Proc c, hatk, ?_⟩
                      refine And.intro ?_ ?_
                      · refine And.intro (rfl : (_ : Nat) = _) ?_
                        refine And.intro (rfl : (_ : Nat) = _) (And.intro (rfl : (_ : Nat) = _) ⟨P.length - 1, 0, t_Proc c, c.map t_Instr, hjk, Nat.zero_lt_one, hatc, rfl, fun vv xx => ?_⟩)
                        refine And.intro (rfl : (_ : Nat) = _) ?_
                        refine ⟨hbl, fun qg => ?_⟩
                        refine And.intro (rfl : (_ : Nat) = _) (And.intro j1.1 (And.intro (hln xx) ?_))
                        refine And.intro (rfl : (_ : Nat) = _) ?_
                        refine And.intro (rfl : (_ : Nat) = _) (And.intro (rfl : (_ : Nat) = _) ⟨(t_Proc c).setCells 0 [.v xx], hset xx, Nat.le_refl _, fun v3 => ?_⟩)
                        exact ⟨_, ⟨_, rfl⟩, wk rfl ⟨rfl, rfl, rfl, rfl, rfl, rfl, rfl, trivial⟩ ⟨rfl, rfl, rfl, rfl, rfl, congrArg (fun z => some (Ob.row qc v3 1 z)) (hfin xx), trivial⟩⟩
                      · refine And.intro (rfl : (_ : Nat) = _) (And.intro (rfl : (_ : Nat) = _) ⟨P.length - 1, 0, t_Proc c, c.map t_Instr, hjk, Nat.zero_lt_one, hatc, rfl, fun vv xx => ?_⟩)
                        refine And.intro (rfl : (_ : Nat) = _) ?_
                        refine ⟨hbl, fun qg => ?_⟩
                        refine And.intro (rfl : (_ : Nat) = _) ?_
                        refine And.intro (rfl : (_ : Nat) = _) (And.intro j1.1 (And.intro (hln xx) ?_))
                        refine And.intro (rfl : (_ : Nat) = _) ?_
                        refine And.intro (rfl : (_ : Nat) = _) (And.intro (rfl : (_ : Nat) = _) ⟨(t_Proc c).setCells 0 [.v xx], hset xx, Nat.le_refl _, fun v3 => ?_⟩)
                        exact ⟨_, ⟨_, rfl⟩, wk rfl ⟨rfl, rfl, rfl, rfl, rfl, rfl, rfl, trivial⟩ ⟨rfl, rfl, rfl, rfl, rfl, congrArg (fun z => some (Ob.row qc v3 1 z)) (hfin xx), trivial⟩⟩
        rintro m ⟨v, rfl⟩
        repeat (first | refine brT ?_ | refine brF ?_ | refine And.intro rfl ?_ | refine And.intro trivial ?_ | intro _)
        exact nxt (i + 1, qa, qb, qc, v) hlt (by show L.length - (i + 1) < L.length - i; omega) (wk rfl ⟨rfl, rfl, rfl, congrArg AV.bool (by rw [hst]), rfl, rfl, up1 hlt (by omega), trivial⟩ ⟨rfl, congrArg (fun z : Int => some (Ob.box q4 [.own 51000 qa, .v (.int .i64 z), .own 88000 qb, .own 97000 qc])) hmus.symm, rfl, congrArg (fun z : List Int => some (Ob.row qa 0 1 (z.map T.int))) hcap.symm, congrArg (fun z => some (Ob.row qb 0 2 z)) (by rw [hst]), congrArg (fun z => some (Ob.row qc v 1 z)) (by rw [hst]), trivial⟩)
      | false =>
        rw [hbd] at hst
        repeat (first | refine brT ?_ | refine brF ?_ | refine And.intro rfl ?_ | refine And.intro trivial ?_ | intro _)
        refine drM0 (Pl.go 0 (Pl.go 2 (Pl.go 3 (Pl.go 5 ((Pl.go 1 ((Pl.go 4 (Pl.go 6 (Pl.go 7 ((Pl.go 8 (Pl.go 9 (Pl.go 10 (Pl.go 11 (Pl.go 12 (Pl.go 13 (Pl.go 14 Pl.stop))))))).or (Pl.go 9 ((Pl.go 8 (Pl.go 10 (Pl.go 11 (Pl.go 12 (Pl.go 13 (Pl.go 14 Pl.stop)))))).or (Pl.go 10 (Pl.go 8 (Pl.go 11 (Pl.go 12 (Pl.go 13 (Pl.go 14 Pl.stop)))))))))))).or (Pl.go 9 ((Pl.go 4 (Pl.go 6 (Pl.go 7 ((Pl.go 8 (Pl.go 10 (Pl.go 11 (Pl.go 12 (Pl.go 13 (Pl.go 14 Pl.stop)))))).or (Pl.go 10 (Pl.go 8 (Pl.go 11 (Pl.go 12 (Pl.go 13 (Pl.go 14 Pl.stop)))))))))).or (Pl.go 10 (Pl.go 4 (Pl.go 6 (Pl.go 7 (Pl.go 8 (Pl.go 11 (Pl.go 12 (Pl.go 13 (Pl.go 14 Pl.stop))))))))))))).or ((Pl.go 4 (Pl.go 6 (Pl.go 7 ((Pl.go 1 ((Pl.go 8 (Pl.go 9 (Pl.go 10 (Pl.go 11 (Pl.go 12 (Pl.go 13 (Pl.go 14 Pl.stop))))))).or (Pl.go 9 ((Pl.go 8 (Pl.go 10 (Pl.go 11 (Pl.go 12 (Pl.go 13 (Pl.go 14 Pl.stop)))))).or (Pl.go 10 (Pl.go 8 (Pl.go 11 (Pl.go 12 (Pl.go 13 (Pl.go 14 Pl.stop)))))))))).or ((Pl.go 8 ((Pl.go 1 (Pl.go 9 (Pl.go 10 (Pl.go 11 (Pl.go 12 (Pl.go 13 (Pl.go 14 Pl.stop))))))).or (Pl.go 9 ((Pl.go 1 (Pl.go 10 (Pl.go 11 (Pl.go 12 (Pl.go 13 (Pl.go 14 Pl.stop)))))).or (Pl.go 10 ((Pl.go 1 (Pl.go 11 (Pl.go 12 (Pl.go 13 (Pl.go 14 Pl.stop))))).or (Pl.go 11 (Pl.go 1 (Pl.go 12 (Pl.go 13 (Pl.go 14 Pl.stop))))))))))).or (Pl.go 9 ((Pl.go 1 ((Pl.go 8 (Pl.go 10 (Pl.go 11 (Pl.go 12 (Pl.go 13 (Pl.go 14 Pl.stop)))))).or (Pl.go 10 (Pl.go 8 (Pl.go 11 (Pl.go 12 (Pl.go 13 (Pl.go 14 Pl.stop)))))))).or ((Pl.go 8 ((Pl.go 1 (Pl.go 10 (Pl.go 11 (Pl.go 12 (Pl.go 13 (Pl.go 14 Pl.stop)))))).or (Pl.go 10 ((Pl.go 1 (Pl.go 11 (Pl.go 12 (Pl.go 13 (Pl.go 14 Pl.stop))))).or (Pl.go 11 (Pl.go 1 (Pl.go 12 (Pl.go 13 (Pl.go 14 Pl.stop))))))))).or (Pl.go 10 ((Pl.go 1 (Pl.go 8 (Pl.go 11 (Pl.go 12 (Pl.go 13 (Pl.go 14 Pl.stop)))))).or (Pl.go 8 ((Pl.go 1 (Pl.go 11 (Pl.go 12 (Pl.go 13 (Pl.go 14 Pl.stop))))).or (Pl.go 11 (Pl.go 1 (Pl.go 12 (Pl.go 13 (Pl.go 14 Pl.stop))))))))))))))))).or (Pl.go 9 ((Pl.go 1 ((Pl.go 4 (Pl.go 6 (Pl.go 7 ((Pl.go 8 (Pl.go 10 (Pl.go 11 (Pl.go 12 (Pl.go 13 (Pl.go 14 Pl.stop)))))).or (Pl.go 10 (Pl.go 8 (Pl.go 11 (Pl.go 12 (Pl.go 13 (Pl.go 14 Pl.stop)))))))))).or (Pl.go 10 (Pl.go 4 (Pl.go 6 (Pl.go 7 (Pl.go 8 (Pl.go 11 (Pl.go 12 (Pl.go 13 (Pl.go 14 Pl.stop))))))))))).or ((Pl.go 4 (Pl.go 6 (Pl.go 7 ((Pl.go 1 ((Pl.go 8 (Pl.go 10 (Pl.go 11 (Pl.go 12 (Pl.go 13 (Pl.go 14 Pl.stop)))))).or (Pl.go 10 (Pl.go 8 (Pl.go 11 (Pl.go 12 (Pl.go 13 (Pl.go 14 Pl.stop)))))))).or ((Pl.go 8 ((Pl.go 1 (Pl.go 10 (Pl.go 11 (Pl.go 12 (Pl.go 13 (Pl.go 14 Pl.stop)))))).or (Pl.go 10 ((Pl.go 1 (Pl.go 11 (Pl.go 12 (Pl.go 13 (Pl.go 14 Pl.stop))))).or (Pl.go 11 (Pl.go 1 (Pl.go 12 (Pl.go 13 (Pl.go 14 Pl.stop))))))))).or (Pl.go 10 ((Pl.go 1 (Pl.go 8 (Pl.go 11 (Pl.go 12 (Pl.go 13 (Pl.go 14 Pl.stop)))))).or (Pl.go 8 ((Pl.go 1 (Pl.go 11 (Pl.go 12 (Pl.go 13 (Pl.go 14 Pl.stop))))).or (Pl.go 11 (Pl.go 1 (Pl.go 12 (Pl.go 13 (Pl.go 14 Pl.stop)))))))))))))).or (Pl.go 10 ((Pl.go 1 (Pl.go 4 (Pl.go 6 (Pl.go 7 (Pl.go 8 (Pl.go 11 (Pl.go 12 (Pl.go 13 (Pl.go 14 Pl.stop))))))))).or (Pl.go 4 (Pl.go 6 (Pl.go 7 ((Pl.go 1 (Pl.go 8 (Pl.go 11 (Pl.go 12 (Pl.go 13 (Pl.go 14 Pl.stop)))))).or (Pl.go 8 ((Pl.go 1 (Pl.go 11 (Pl.go 12 (Pl.go 13 (Pl.go 14 Pl.stop))))).or (Pl.go 11 (Pl.go 1 (Pl.go 12 (Pl.go 13 (Pl.go 14 Pl.stop)))))))))))))))))))))) (fun m => ∃ v : Nat, m = ⟨145, [(0, .vv (.string s)), (2, .c (.bx 3000 q2 0)), (4, .c (.bx 5000 q4 0)), (5, .bool (false || !(textInstr w).2)), (26, .c (.own 26000 qL)), (27, .int (L.length : Int)), (28, .int i)],
          [(3000, .box q2 [.v (.slice none 0 0), .v (.int .i64 0), .v (.slice none 0 0), .v (.slice none 0 0)]), (5000, .box q4 [.own 51000 qa, .v (.int .i64 (musAt L i)), .own 88000 qb, .own 97000 qc]), (26000, .row qL 0 1 (L.map T.str)),
           (51000, .row qa 0 1 ((capsAt L i).map T.int)), (88000, .row qb 0 2 (S.map t_Select)), (97000, .row qc v 1 ((addI P (textInstr w).1).map t_Proc))]⟩) (by kernel_rfl) ?_ ?_
        · refine And.intro (rfl : (_ : Nat) = _) ?_
          refine And.intro (rfl : (_ : Nat) = _) ?_
          refine And.intro ?_ ?_
          · refine And.intro (rfl : (_ : Nat) = _) ?_
            refine And.intro ?_ ?_
            · refine And.intro (rfl : (_ : Nat) = _) ?_
              refine And.intro (rfl : (_ : Nat) = _) (And.intro j1.1 (And.intro j1.2 ?_))
              refine And.intro (rfl : (_ : Nat) = _) ?_
              refine And.intro ?_ ?_
              · refine And.intro (rfl : (_ : Nat) = _) ⟨t_Proc c, hatk, ?_⟩
                refine And.intro (rfl : (_ : Nat) = _) ?_
                refine ⟨fun t ht => (by simp at ht; subst ht; rfl), fun qf => ?_⟩
                refine And.intro (rfl : (_ : Nat) = _) (And.intro (rfl : (_ : Nat) = _) ⟨P.length - 1, 0, t_Proc c, c.map t_Instr, hjk, Nat.zero_lt_one, hatc, rfl, fun vv xx => ?_⟩)
                refine And.intro (rfl : (_ : Nat) = _) ?_
                refine ⟨hbl, fun qg => ?_⟩
                refine And.intro (rfl : (_ : Nat) = _) (And.intro j1.1 (And.intro (hln xx) ?_))
                refine And.intro (rfl : (_ : Nat) = _) ?_
                refine And.intro (rfl : (_ : Nat) = _) (And.intro (rfl : (_ : Nat) = _) ⟨(t_Proc c).setCells 0 [.v xx], hset xx, Nat.le_refl _, fun v3 => ?_⟩)
                exact ⟨_, ⟨_, rfl⟩, wk rfl ⟨rfl, rfl, rfl, rfl, rfl, rfl, rfl, trivial⟩ ⟨rfl, rfl, rfl, rfl, rfl, congrArg (fun z => some (Ob.row qc v3 1 z)) (hfin xx), trivial⟩⟩
              · refine And.intro (rfl : (_ : Nat) = _) ?_
                refine And.intro ?_ ?_
                · refine And.intro (rfl : (_ : Nat) = _) ⟨t_Proc c, hatk, ?_⟩
                  refine ⟨fun t ht => (by simp at ht; subst ht; rfl), fun qf => ?_⟩
                  refine And.intro (rfl : (_ : Nat) = _) (And.intro (rfl : (_ : Nat) = _) ⟨P.length - 1, 0, t_Proc c, c.map t_Instr, hjk, Nat.zero_lt_one, hatc, rfl, fun vv xx => ?_⟩)
                  refine And.intro (rfl : (_ : Nat) = _) ?_
                  refine ⟨hbl, fun qg => ?_⟩
                  refine And.intro (rfl : (_ : Nat) = _) (And.intro j1.1 (And.intro (hln xx) ?_))
                  refine And.intro (rfl : (_ : Nat) = _) ?_
                  refine And.intro (rfl : (_ : Nat) = _) (And.intro (rfl : (_ : Nat) = _) ⟨(t_Proc c).setCells 0 [.v xx], hset xx, Nat.le_refl _, fun v3 => ?_⟩)
                  exact ⟨_, ⟨_, rfl⟩, wk rfl ⟨rfl, rfl, rfl, rfl, rfl, rfl, rfl, trivial⟩ ⟨rfl, rfl, rfl, rfl, rfl, congrArg (fun z => some (Ob.row qc v3 1 z)) (hfin xx), trivial⟩⟩
                · refine ⟨fun t ht => (by simp at ht; subst ht; rfl), fun qf => ?_⟩
                  refine And.intro (rfl : (_ : Nat) = _) ⟨t_Proc c, hatk, ?_⟩
                  refine And.intro (rfl : (_ : Nat) = _) (And.intro (rfl : (_ : Nat) = _) ⟨P.length - 1, 0, t_Proc c, c.map t_Instr, hjk, Nat.zero_lt_one, hatc, rfl, fun vv xx => ?_⟩)
                  refine And.intro (rfl : (_ : Nat) = _) ?_
                  refine ⟨hbl, fun qg => ?_⟩
                  refine And.intro (rfl : (_ : Nat) = _) (And.intro j1.1 (And.intro (hln xx) ?_))
                  refine And.intro (rfl : (_ : Nat) = _) ?_
                  refine And.intro (rfl : (_ : Nat) = _) (And.intro (rfl : (_ : Nat) = _) ⟨(t_Proc c).setCells 0 [.v xx], hset xx, Nat.le_refl _, fun v3 => ?_⟩)
                  exact ⟨_, ⟨_, rfl⟩, wk rfl ⟨rfl, rfl, rfl, rfl, rfl, rfl, rfl, trivial⟩ ⟨rfl, rfl, rfl, rfl, rfl, congrArg (fun z => some (Ob.row qc v3 1 z)) (hfin xx), trivial⟩⟩
            · refine And.intro (rfl : (_ : Nat) = _) ?_
              refine And.intro ?_ ?_
              · refine And.intro (rfl : (_ : Nat) = _) ?_
                refine And.intro (rfl : (_ : Nat) = _) (And.intro j1.1 (And.intro j1.2 ?_))
                refine And.intro (rfl : (_ : Nat) = _) ?_
                refine And.intro ?_ ?_
                · refine And.intro (rfl : (_ : Nat) = _) ⟨t_Proc c, hatk, ?_⟩
                  refine ⟨fun t ht => (by simp at ht; subst ht; rfl), fun qf => ?_⟩
                  refine And.intro (rfl : (_ : Nat) = _) (And.intro (rfl : (_ : Nat) = _) ⟨P.length - 1, 0, t_Proc c, c.map t_Instr, hjk, Nat.zero_lt_one, hatc, rfl, fun vv xx => ?_⟩)
                  refine And.intro (rfl : (_ : Nat) = _) ?_
                  refine ⟨hbl, fun qg => ?_⟩
                  refine And.intro (rfl : (_ : Nat) = _) (And.intro j1.1 (And.intro (hln xx) ?_))
                  refine And.intro (rfl : (_ : Nat) = _) ?_
                  refine And.intro (rfl : (_ : Nat) = _) (And.intro (rfl : (_ : Nat) = _) ⟨(t_Proc c).setCells 0 [.v xx], hset xx, Nat.le_refl _, fun v3 => ?_⟩)
                  exact ⟨_, ⟨_, rfl⟩, wk rfl ⟨rfl, rfl, rfl, rfl, rfl, rfl, rfl, trivial⟩ ⟨rfl, rfl, rfl, rfl, rfl, congrArg (fun z => some (Ob.row qc v3 1 z)) (hfin xx), trivial⟩⟩
                · refine ⟨fun t ht => (by simp at ht; subst ht; rfl), fun qf => ?_⟩
                  refine And.intro (rfl : (_ : Nat) = _) ⟨t_Proc c, hatk, ?_⟩
                  refine And.intro (rfl : (_ : Nat) = _) (And.intro (rfl : (_ : Nat) = _) ⟨P.length - 1, 0, t_Proc c, c.map t_Instr, hjk, Nat.zero_lt_one, hatc, rfl, fun vv xx => ?_⟩)
                  refine And.intro (rfl : (_ : Nat) = _) ?_
                  refine ⟨hbl, fun qg => ?_⟩
                  refine And.intro (rfl : (_ : Nat) = _) (And.intro j1.1 (And.intro (hln xx) ?_))
                  refine And.intro (rfl : (_ : Nat) = _) ?_
                  refine And.intro (rfl : (_ : Nat) = _) (And.intro (rfl : (_ : Nat) = _) ⟨(t_Proc c).setCells 0 [.v xx], hset xx, Nat.le_refl _, fun v3 => ?_⟩)
                  exact ⟨_, ⟨_, rfl⟩, wk rfl ⟨rfl, rfl, rfl, rfl, rfl, rfl, rfl, trivial⟩ ⟨rfl, rfl, rfl, rfl, rfl, congrArg (fun z => some (Ob.row qc v3 1 z)) (hfin xx), trivial⟩⟩
              · refine ⟨fun t ht => (by simp at ht; subst ht; rfl), fun qf => ?_⟩
                refine And.intro (rfl : (_ : Nat) = _) ?_
                refine And.intro (rfl : (_ : Nat) = _) (And.intro j1.1 (And.intro j1.2 ?_))
                refine And.intro (rfl : (_ : Nat) = _) ?_
                refine And.intro (rfl : (_ : Nat) = _) ⟨t_Proc c, hatk, ?_⟩
                refine And.intro (rfl : (_ : Nat) = _) (And.intro (rfl : (_ : Nat) = _) ⟨P.length - 1, 0, t_Proc c, c.map t_Instr, hjk, Nat.zero_lt_one, hatc, rfl, fun vv xx => ?_⟩)
                refine And.intro (rfl : (_ : Nat) = _) ?_
                refine ⟨hbl, fun qg => ?_⟩
                refine And.intro (rfl : (_ : Nat) = _) (And.intro j1.1 (And.intro (hln xx) ?_))
                refine And.intro (rfl : (_ : Nat) = _) ?_
                refine And.intro (rfl : (_ : Nat) = _) (And.intro (rfl : (_ : Nat) = _) ⟨(t_Proc c).setCells 0 [.v xx], hset xx, Nat.le_refl _, fun v3 => ?_⟩)
                exact ⟨_, ⟨_, rfl⟩, wk rfl ⟨rfl, rfl, rfl, rfl, rfl, rfl, rfl, trivial⟩ ⟨rfl, rfl, rfl, rfl, rfl, congrArg (fun z => some (Ob.row qc v3 1 z)) (hfin xx), trivial⟩⟩
          · refine And.intro ?_ ?_
            · refine And.intro (rfl : (_ : Nat) = _) ?_
              refine And.intro (rfl : (_ : Nat) = _) (And.intro j1.1 (And.intro j1.2 ?_))
              refine And.intro (rfl : (_ : Nat) = _) ?_
              refine And.intro ?_ ?_
              · refine And.intro (rfl : (_ : Nat) = _) ?_
                refine And.intro ?_ ?_
                · refine And.intro (rfl : (_ : Nat) = _) ⟨t_Proc c, hatk, ?_⟩
                  refine And.intro (rfl : (_ : Nat) = _) ?_
                  refine ⟨fun t ht => (by simp at ht; subst ht; rfl), fun qf => ?_⟩
                  refine And.intro (rfl : (_ : Nat) = _) (And.intro (rfl : (_ : Nat) = _) ⟨P.length - 1, 0, t_Proc c, c.map t_Instr, hjk, Nat.zero_lt_one, hatc, rfl, fun vv xx => ?_⟩)
                  refine And.intro (rfl : (_ : Nat) = _) ?_
                  refine ⟨hbl, fun qg => ?_⟩
                  refine And.intro (rfl : (_ : Nat) = _) (And.intro j1.1 (And.intro (hln xx) ?_))
                  refine And.intro (rfl : (_ : Nat) = _) ?_
                  refine And.intro (rfl : (_ : Nat) = _) (And.intro (rfl : (_ : Nat) = _) ⟨(t_Proc c).setCells 0 [.v xx], hset xx, Nat.le_refl _, fun v3 => ?_⟩)
                  exact ⟨_, ⟨_, rfl⟩, wk rfl ⟨rfl, rfl, rfl, rfl, rfl, rfl, rfl, trivial⟩ ⟨rfl, rfl, rfl, rfl, rfl, congrArg (fun z => some (Ob.row qc v3 1 z)) (hfin xx), trivial⟩⟩
                · refine And.intro (rfl : (_ : Nat) = _) ?_
                  refine And.intro ?_ ?_
                  · refine And.intro (rfl : (_ : Nat) = _) ⟨t_Proc c, hatk, ?_⟩
                    refine ⟨fun t ht => (by simp at ht; subst ht; rfl), fun qf => ?_⟩
                    refine And.intro (rfl : (_ : Nat) = _) (And.intro (rfl : (_ : Nat) = _) ⟨P.length - 1, 0, t_Proc c, c.map t_Instr, hjk, Nat.zero_lt_one, hatc, rfl, fun vv xx => ?_⟩)
                    refine And.intro (rfl : (_ : Nat) = _) ?_
                    refine ⟨hbl, fun qg => ?_⟩
                    refine And.intro (rfl : (_ : Nat) = _) (And.intro j1.1 (And.intro (hln xx) ?_))
                    refine And.intro (rfl : (_ : Nat) = _) ?_
                    refine And.intro (rfl : (_ : Nat) = _) (And.intro (rfl : (_ : Nat) = _) ⟨(t_Proc c).setCells 0 [.v xx], hset xx, Nat.le_refl _, fun v3 => ?_⟩)
                    exact ⟨_, ⟨_, rfl⟩, wk rfl ⟨rfl, rfl, rfl, rfl, rfl, rfl, rfl, trivial⟩ ⟨rfl, rfl, rfl, rfl, rfl, congrArg (fun z => some (Ob.row qc v3 1 z)) (hfin xx), trivial⟩⟩
                  · refine ⟨fun t ht => (by simp at ht; subst ht; rfl), fun qf => ?_⟩
                    refine And.intro (rfl : (_ : Nat) = _) ⟨t_Proc c, hatk, ?_⟩
                    refine And.intro (rfl : (_ : Nat) = _) (And.intro (rfl : (_ : Nat) = _) ⟨P.length - 1, 0, t_Proc c, c.map t_Instr, hjk, Nat.zero_lt_one, hatc, rfl, fun vv xx => ?_⟩)
                    refine And.intro (rfl : (_ : Nat) = _) ?_
                    refine ⟨hbl, fun qg => ?_⟩
                    refine And.intro (rfl : (_ : Nat) = _) (And.intro j1.1 (And.intro (hln xx) ?_))
                    refine And.intro (rfl : (_ : Nat) = _) ?_
                    refine And.intro (rfl : (_ : Nat) = _) (And.intro (rfl : (_ : Nat) = _) ⟨(t_Proc c).setCells 0 [.v xx], hset xx, Nat.le_refl _, fun v3 => ?_⟩)
                    exact ⟨_, ⟨_, rfl⟩, wk rfl ⟨rfl, rfl, rfl, rfl, rfl, rfl, rfl, trivial⟩ ⟨rfl, rfl, rfl, rfl, rfl, congrArg (fun z => some (Ob.row qc v3 1 z)) (hfin xx), trivial⟩⟩
              · refine And.intro ?_ ?_
                · refine And.intro (rfl : (_ : Nat) = _) ⟨t_Proc c, hatk, ?_⟩
                  refine And.intro ?_ ?_
                  · refine And.intro (rfl : (_ : Nat) = _) ?_
                    refine And.intro (rfl : (_ : Nat) = _) ?_
                    refine ⟨fun t ht => (by simp at ht; subst ht; rfl), fun qf => ?_⟩
                    refine And.intro (rfl : (_ : Nat) = _) (And.intro (rfl : (_ : Nat) = _) ⟨P.length - 1, 0, t_Proc c, c.map t_Instr, hjk, Nat.zero_lt_one, hatc, rfl, fun vv xx => ?_⟩)
                    refine And.intro (rfl : (_ : Nat) = _) ?_
                    refine ⟨hbl, fun qg => ?_⟩
                    refine And.intro (rfl : (_ : Nat) = _) (And.intro j1.1 (And.intro (hln xx) ?_))
                    refine And.intro (rfl : (_ : Nat) = _) ?_
                    refine And.intro (rfl : (_ : Nat) = _) (And.intro (rfl : (_ : Nat) = _) ⟨(t_Proc c).setCells 0 [.v xx], hset xx, Nat.le_refl _, fun v3 => ?_⟩)
                    exact ⟨_, ⟨_, rfl⟩, wk rfl ⟨rfl, rfl, rfl, rfl, rfl, rfl, rfl, trivial⟩ ⟨rfl, rfl, rfl, rfl, rfl, congrArg (fun z => some (Ob.row qc v3 1 z)) (hfin xx), trivial⟩⟩
                  · refine And.intro (rfl : (_ : Nat) = _) ?_
                    refine And.intro ?_ ?_
                    · refine And.intro (rfl : (_ : Nat) = _) ?_
                      refine ⟨fun t ht => (by simp at ht; subst ht; rfl), fun qf => ?_⟩
                      refine And.intro (rfl : (_ : Nat) = _) (And.intro (rfl : (_ : Nat) = _) ⟨P.length - 1, 0, t_Proc c, c.map t_Instr, hjk, Nat.zero_lt_one, hatc, rfl, fun vv xx => ?_⟩)
                      refine And.intro (rfl : (_ : Nat) = _) ?_
                      refine ⟨hbl, fun qg => ?_⟩
                      refine And.intro (rfl : (_ : Nat) = _) (And.intro j1.1 (And.intro (hln xx) ?_))
                      refine And.intro (rfl : (_ : Nat) = _) ?_
                      refine And.intro (rfl : (_ : Nat) = _) (And.intro (rfl : (_ : Nat) = _) ⟨(t_Proc c).setCells 0 [.v xx], hset xx, Nat.le_refl _, fun v3 => ?_⟩)
                      exact ⟨_, ⟨_, rfl⟩, wk rfl ⟨rfl, rfl, rfl, rfl, rfl, rfl, rfl, trivial⟩ ⟨rfl, rfl, rfl, rfl, rfl, congrArg (fun z => some (Ob.row qc v3 1 z)) (hfin xx), trivial⟩⟩
                    · refine ⟨fun t ht => (by simp at ht; subst ht; rfl), fun qf => ?_⟩
                      refine And.intro ?_ ?_
                      · refine And.intro (rfl : (_ : Nat) = _) ?_
                        refine And.intro (rfl : (_ : Nat) = _) (And.intro (rfl : (_ : Nat) = _) ⟨P.length - 1, 0, t_Proc c, c.map t_Instr, hjk, Nat.zero_lt_one, hatc, rfl, fun vv xx => ?_⟩)
                        refine And.intro (rfl : (_ : Nat) = _) ?_
                        refine ⟨hbl, fun qg => ?_⟩
                        refine And.intro (rfl : (_ : Nat) = _) (And.intro j1.1 (And.intro (hln xx) ?_))
                        refine And.intro (rfl : (_ : Nat) = _) ?_
                        refine And.intro (rfl : (_ : Nat) = _) (And.intro (rfl : (_ : Nat) = _) ⟨(t_Proc c).setCells 0 [.v xx], hset xx, Nat.le_refl _, fun v3 => ?_⟩)
                        exact ⟨_, ⟨_, rfl⟩, wk rfl ⟨rfl, rfl, rfl, rfl, rfl, rfl, rfl, trivial⟩ ⟨rfl, rfl, rfl, rfl, rfl, congrArg (fun z => some (Ob.row qc v3 1 z)) (hfin xx), trivial⟩⟩
                      · refine And.intro (rfl : (_ : Nat) = _) (And.intro (rfl : (_ : Nat) = _) ⟨P.length - 1, 0, t_Proc c, c.map t_Instr, hjk, Nat.zero_lt_one, hatc, rfl, fun vv xx => ?_⟩)
                        refine And.intro (rfl : (_ : Nat) = _) ?_
                        refine ⟨hbl, fun qg => ?_⟩
                        refine And.intro (rfl : (_ : Nat) = _) ?_
                        refine And.intro (rfl : (_ : Nat) = _) (And.intro j1.1 (And.intro (hln xx) ?_))
                        refine And.intro (rfl : (_ : Nat) = _) ?_
                        refine And.intro (rfl : (_ : Nat) = _) (And.intro (rfl : (_ : Nat) = _) ⟨(t_Proc c).setCells 0 [.v xx], hset xx, Nat.le_refl _, fun v3 => ?_⟩)
                        exact ⟨_, ⟨_, rfl⟩, wk rfl ⟨rfl, rfl, rfl, rfl, rfl, rfl, rfl, trivial⟩ ⟨rfl, rfl, rfl, rfl, rfl, congrArg (fun z => some (Ob.row qc v3 1 z)) (hfin xx), trivial⟩⟩
                · refine And.intro (rfl : (_ : Nat) = _) ?_
                  refine And.intro ?_ ?_
                  · refine And.intro (rfl : (_ : Nat) = _) ?_
                    refine And.intro ?_ ?_
                    · refine And.intro (rfl : (_ : Nat) = _) ⟨t_Proc c, hatk, ?_⟩
                      refine ⟨fun t ht => (by simp at ht; subst ht; rfl), fun qf => ?_⟩
                      refine And.intro (rfl : (_ : Nat) = _) (And.intro (rfl : (_ : Nat) = _) ⟨P.length - 1, 0, t_Proc c, c.map t_Instr, hjk, Nat.zero_lt_one, hatc, rfl, fun vv xx => ?_⟩)
                      refine And.intro (rfl : (_ : Nat) = _) ?_
                      refine ⟨hbl, fun qg => ?_⟩
                      refine And.intro (rfl : (_ : Nat) = _) (And.intro j1.1 (And.intro (hln xx) ?_))
                      refine And.intro (rfl : (_ : Nat) = _) ?_
                      refine And.intro (rfl : (_ : Nat) = _) (And.intro (rfl : (_ : Nat) = _) ⟨(t_Proc c).setCells 0 [.v xx], hset xx, Nat.le_refl _, fun v3 => ?_⟩)
                      exact ⟨_, ⟨_, rfl⟩, wk rfl ⟨rfl, rfl, rfl, rfl, rfl, rfl, rfl, trivial⟩ ⟨rfl, rfl, rfl, rfl, rfl, congrArg (fun z => some (Ob.row qc v3 1 z)) (hfin xx), trivial⟩⟩
                    · refine ⟨fun t ht => (by simp at ht; subst ht; rfl), fun qf => ?_⟩
                      refine And.intro (rfl : (_ : Nat) = _) ⟨t_Proc c, hatk, ?_⟩
                      refine And.intro (rfl : (_ : Nat) = _) (And.intro (rfl : (_ : Nat) = _) ⟨P.length - 1, 0, t_Proc c, c.map t_Instr, hjk, Nat.zero_lt_one, hatc, rfl, fun vv xx => ?_⟩)
                      refine And.intro (rfl : (_ : Nat) = _) ?_
                      refine ⟨hbl, fun qg => ?_⟩
                      refine And.intro (rfl : (_ : Nat) = _) (And.intro j1.1 (And.intro (hln xx) ?_))
                      refine And.intro (rfl : (_ : Nat) = _) ?_
                      refine And.intro (rfl : (_ : Nat) = _) (And.intro (rfl : (_ : Nat) = _) ⟨(t_Proc c).setCells 0 [.v xx], hset xx, Nat.le_refl _, fun v3 => ?_⟩)
                      exact ⟨_, ⟨_, rfl⟩, wk rfl ⟨rfl, rfl, rfl, rfl, rfl, rfl, rfl, trivial⟩ ⟨rfl, rfl, rfl, rfl, rfl, congrArg (fun z => some (Ob.row qc v3 1 z)) (hfin xx), trivial⟩⟩
                  · refine And.intro ?_ ?_
                    · refine And.intro (rfl : (_ : Nat) = _) ⟨t_Proc c, hatk, ?_⟩
                      refine And.intro ?_ ?_
                      · refine And.intro (rfl : (_ : Nat) = _) ?_
                        refine ⟨fun t ht => (by simp at ht; subst ht; rfl), fun qf => ?_⟩
                        refine And.intro (rfl : (_ : Nat) = _) (And.intro (rfl : (_ : Nat) = _) ⟨P.length - 1, 0, t_Proc c, c.map t_Instr, hjk, Nat.zero_lt_one, hatc, rfl, fun vv xx => ?_⟩)
                        refine And.intro (rfl : (_ : Nat) = _) ?_
                        refine ⟨hbl, fun qg => ?_⟩
                        refine And.intro (rfl : (_ : Nat) = _) (And.intro j1.1 (And.intro (hln xx) ?_))
                        refine And.intro (rfl : (_ : Nat) = _) ?_
                        refine And.intro (rfl : (_ : Nat) = _) (And.intro (rfl : (_ : Nat) = _) ⟨(t_Proc c).setCells 0 [.v xx], hset xx, Nat.le_refl _, fun v3 => ?_⟩)
                        exact ⟨_, ⟨_, rfl⟩, wk rfl ⟨rfl, rfl, rfl, rfl, rfl, rfl, rfl, trivial⟩ ⟨rfl, rfl, rfl, rfl, rfl, congrArg (fun z => some (Ob.row qc v3 1 z)) (hfin xx), trivial⟩⟩
                      · refine ⟨fun t ht => (by simp at ht; subst ht; rfl), fun qf => ?_⟩
                        refine And.intro ?_ ?_
                        · refine And.intro (rfl : (_ : Nat) = _) ?_
                          refine And.intro (rfl : (_ : Nat) = _) (And.intro (rfl : (_ : Nat) = _) ⟨P.length - 1, 0, t_Proc c, c.map t_Instr, hjk, Nat.zero_lt_one, hatc, rfl, fun vv xx => ?_⟩)
                          refine And.intro (rfl : (_ : Nat) = _) ?_
                          refine ⟨hbl, fun qg => ?_⟩
                          refine And.intro (rfl : (_ : Nat) = _) (And.intro j1.1 (And.intro (hln xx) ?_))
                          refine And.intro (rfl : (_ : Nat) = _) ?_
                          refine And.intro (rfl : (_ : Nat) = _) (And.intro (rfl : (_ : Nat) = _) ⟨(t_Proc c).setCells 0 [.v xx], hset xx, Nat.le_refl _, fun v3 => ?_⟩)
                          exact ⟨_, ⟨_, rfl⟩, wk rfl ⟨rfl, rfl, rfl, rfl, rfl, rfl, rfl, trivial⟩ ⟨rfl, rfl, rfl, rfl, rfl, congrArg (fun z => some (Ob.row qc v3 1 z)) (hfin xx), trivial⟩⟩
                        · refine And.intro (rfl : (_ : Nat) = _) (And.intro (rfl : (_ : Nat) = _) ⟨P.length - 1, 0, t_Proc c, c.map t_Instr, hjk, Nat.zero_lt_one, hatc, rfl, fun vv xx => ?_⟩)
                          refine And.intro (rfl : (_ : Nat) = _) ?_
                          refine ⟨hbl, fun qg => ?_⟩
                          refine And.intro (rfl : (_ : Nat) = _) ?_
                          refine And.intro (rfl : (_ : Nat) = _) (And.intro j1.1 (And.intro (hln xx) ?_))
                          refine And.intro (rfl : (_ : Nat) = _) ?_
                          refine And.intro (rfl : (_ : Nat) = _) (And.intro (rfl : (_ : Nat) = _) ⟨(t_Proc c).setCells 0 [.v xx], hset xx, Nat.le_refl _, fun v3 => ?_⟩)
                          exact ⟨_, ⟨_, rfl⟩, wk rfl ⟨rfl, rfl, rfl, rfl, rfl, rfl, rfl, trivial⟩ ⟨rfl, rfl, rfl, rfl, rfl, congrArg (fun z => some (Ob.row qc v3 1 z)) (hfin xx), trivial⟩⟩
                    · refine ⟨fun t ht => (by simp at ht; subst ht; rfl), fun qf => ?_⟩
                      refine And.intro ?_ ?_
                      · refine And.intro (rfl : (_ : Nat) = _) ?_
                        refine And.intro (rfl : (_ : Nat) = _) ⟨t_Proc c, hatk, ?_⟩
                        refine And.intro (rfl : (_ : Nat) = _) (And.intro (rfl : (_ : Nat) = _) ⟨P.length - 1, 0, t_Proc c, c.map t_Instr, hjk, Nat.zero_lt_one, hatc, rfl, fun vv xx => ?_⟩)
                        refine And.intro (rfl : (_ : Nat) = _) ?_
                        refine ⟨hbl, fun qg => ?_⟩
                        refine And.intro (rfl : (_ : Nat) = _) (And.intro j1.1 (And.intro (hln xx) ?_))
                        refine And.intro (rfl : (_ : Nat) = _) ?_
                        refine And.intro (rfl : (_ : Nat) = _) (And.intro (rfl : (_ : Nat) = _) ⟨(t_Proc c).setCells 0 [.v xx], hset xx, Nat.le_refl _, fun v3 => ?_⟩)
                        exact ⟨_, ⟨_, rfl⟩, wk rfl ⟨rfl, rfl, rfl, rfl, rfl, rfl, rfl, trivial⟩ ⟨rfl, rfl, rfl, rfl, rfl, congrArg (fun z => some (Ob.row qc v3 1 z)) (hfin xx), trivial⟩⟩
                      · refine And.intro (rfl : (_ : Nat) = _) ⟨t_Proc c, hatk, ?_⟩
                        refine And.intro ?_ ?_
                        · refine And.intro (rfl : (_ : Nat) = _) ?_
                          refine And.intro (rfl : (_ : Nat) = _) (And.intro (rfl : (_ : Nat) = _) ⟨P.length - 1, 0, t_Proc c, c.map t_Instr, hjk, Nat.zero_lt_one, hatc, rfl, fun vv xx => ?_⟩)
                          refine And.intro (rfl : (_ : Nat) = _) ?_
                          refine ⟨hbl, fun qg => ?_⟩
                          refine And.intro (rfl : (_ : Nat) = _) (And.intro j1.1 (And.intro (hln xx) ?_))
                          refine And.intro (rfl : (_ : Nat) = _) ?_
                          refine And.intro (rfl : (_ : Nat) = _) (And.intro (rfl : (_ : Nat) = _) ⟨(t_Proc c).setCells 0 [.v xx], hset xx, Nat.le_refl _, fun v3 => ?_⟩)
                          exact ⟨_, ⟨_, rfl⟩, wk rfl ⟨rfl, rfl, rfl, rfl, rfl, rfl, rfl, trivial⟩ ⟨rfl, rfl, rfl, rfl, rfl, congrArg (fun z => some (Ob.row qc v3 1 z)) (hfin xx), trivial⟩⟩
                        · refine And.intro (rfl : (_ : Nat) = _) (And.intro (rfl : (_ : Nat) = _) ⟨P.length - 1, 0, t_Proc c, c.map t_Instr, hjk, Nat.zero_lt_one, hatc, rfl, fun vv xx => ?_⟩)
                          refine And.intro (rfl : (_ : Nat) = _) ?_
                          refine ⟨hbl, fun qg => ?_⟩
                          refine And.intro (rfl : (_ : Nat) = _) ?_
                          refine And.intro (rfl : (_ : Nat) = _) (And.intro j1.1 (And.intro (hln xx) ?_))
                          refine And.intro (rfl : (_ : Nat) = _) ?_
                          refine And.intro (rfl : (_ : Nat) = _) (And.intro (rfl : (_ : Nat) = _) ⟨(t_Proc c).setCells 0 [.v xx], hset xx, Nat.le_refl _, fun v3 => ?_⟩)
                          exact ⟨_, ⟨_, rfl⟩, wk rfl ⟨rfl, rfl, rfl, rfl, rfl, rfl, rfl, trivial⟩ ⟨rfl, rfl, rfl, rfl, rfl, congrArg (fun z => some (Ob.row qc v3 1 z)) (hfin xx), trivial⟩⟩
            · refine And.intro (rfl : (_ : Nat) = _) ?_
              refine And.intro ?_ ?_
              · refine And.intro (rfl : (_ : Nat) = _) ?_
                refine And.intro ?_ ?_
                · refine And.intro (rfl : (_ : Nat) = _) ?_
                  refine And.intro (rfl : (_ : Nat) = _) (And.intro j1.1 (And.intro j1.2 ?_))
                  refine And.intro (rfl : (_ : Nat) = _) ?_
                  refine And.intro ?_ ?_
                  · refine And.intro (rfl : (_ : Nat) = _) ⟨t_Proc c, hatk, ?_⟩
                    refine ⟨fun t ht => (by simp at ht; subst ht; rfl), fun qf => ?_⟩
                    refine And.intro (rfl : (_ : Nat) = _) (And.intro (rfl : (_ : Nat) = _) ⟨P.length - 1, 0, t_Proc c, c.map t_Instr, hjk, Nat.zero_lt_one, hatc, rfl, fun vv xx => ?_⟩)
                    refine And.intro (rfl : (_ : Nat) = _) ?_
                    refine ⟨hbl, fun qg => ?_⟩
                    refine And.intro (rfl : (_ : Nat) = _) (And.intro j1.1 (And.intro (hln xx) ?_))
                    refine And.intro (rfl : (_ : Nat) = _) ?_
                    refine And.intro (rfl : (_ : Nat) = _) (And.intro (rfl : (_ : Nat) = _) ⟨(t_Proc c).setCells 0 [.v xx], hset xx, Nat.le_refl _, fun v3 => ?_⟩)
                    exact ⟨_, ⟨_, rfl⟩, wk rfl ⟨rfl, rfl, rfl, rfl, rfl, rfl, rfl, trivial⟩ ⟨rfl, rfl, rfl, rfl, rfl, congrArg (fun z => some (Ob.row qc v3 1 z)) (hfin xx), trivial⟩⟩
                  · refine ⟨fun t ht => (by simp at ht; subst ht; rfl), fun qf => ?_⟩
                    refine And.intro (rfl : (_ : Nat) = _) ⟨t_Proc c, hatk, ?_⟩
                    refine And.intro (rfl : (_ : Nat) = _) (And.intro (rfl : (_ : Nat) = _) ⟨P.length - 1, 0, t_Proc c, c.map t_Instr, hjk, Nat.zero_lt_one, hatc, rfl, fun vv xx => ?_⟩)
                    refine And.intro (rfl : (_ : Nat) = _) ?_
                    refine ⟨hbl, fun qg => ?_⟩
                    refine And.intro (rfl : (_ : Nat) = _) (And.intro j1.1 (And.intro (hln xx) ?_))
                    refine And.intro (rfl : (_ : Nat) = _) ?_
                    refine And.intro (rfl : (_ : Nat) = _) (And.intro (rfl : (_ : Nat) = _) ⟨(t_Proc c).setCells 0 [.v xx], hset xx, Nat.le_refl _, fun v3 => ?_⟩)
                    exact ⟨_, ⟨_, rfl⟩, wk rfl ⟨rfl, rfl, rfl, rfl, rfl, rfl, rfl, trivial⟩ ⟨rfl, rfl, rfl, rfl, rfl, congrArg (fun z => some (Ob.row qc v3 1 z)) (hfin xx), trivial⟩⟩
                · refine ⟨fun t ht => (by simp at ht; subst ht; rfl), fun qf => ?_⟩
                  refine And.intro (rfl : (_ : Nat) = _) ?_
                  refine And.intro (rfl : (_ : Nat) = _) (And.intro j1.1 (And.intro j1.2 ?_))
                  refine And.intro (rfl : (_ : Nat) = _) ?_
                  refine And.intro (rfl : (_ : Nat) = _) ⟨t_Proc c, hatk, ?_⟩
                  refine And.intro (rfl : (_ : Nat) = _) (And.intro (rfl : (_ : Nat) = _) ⟨P.length - 1, 0, t_Proc c, c.map t_Instr, hjk, Nat.zero_lt_one, hatc, rfl, fun vv xx => ?_⟩)
                  refine And.intro (rfl : (_ : Nat) = _) ?_
                  refine ⟨hbl, fun qg => ?_⟩
                  refine And.intro (rfl : (_ : Nat) = _) (And.intro j1.1 (And.intro (hln xx) ?_))
                  refine And.intro (rfl : (_ : Nat) = _) ?_
                  refine And.intro (rfl : (_ : Nat) = _) (And.intro (rfl : (_ : Nat) = _) ⟨(t_Proc c).setCells 0 [.v xx], hset xx, Nat.le_refl _, fun v3 => ?_⟩)
                  exact ⟨_, ⟨_, rfl⟩, wk rfl ⟨rfl, rfl, rfl, rfl, rfl, rfl, rfl, trivial⟩ ⟨rfl, rfl, rfl, rfl, rfl, congrArg (fun z => some (Ob.row qc v3 1 z)) (hfin xx), trivial⟩⟩
              · refine And.intro ?_ ?_
                · refine And.intro (rfl : (_ : Nat) = _) ?_
                  refine And.intro (rfl : (_ : Nat) = _) (And.intro j1.1 (And.intro j1.2 ?_))
                  refine And.intro (rfl : (_ : Nat) = _) ?_
                  refine And.intro ?_ ?_
                  · refine And.intro (rfl : (_ : Nat) = _) ?_
                    refine And.intro ?_ ?_
                    · refine And.intro (rfl : (_ : Nat) = _) ⟨t_Proc c, hatk, ?_⟩
                      refine ⟨fun t ht => (by simp at ht; subst ht; rfl), fun qf => ?_⟩
                      refine And.intro (rfl : (_ : Nat) = _) (And.intro (rfl : (_ : Nat) = _) ⟨P.length - 1, 0, t_Proc c, c.map t_Instr, hjk, Nat.zero_lt_one, hatc, rfl, fun vv xx => ?_⟩)
                      refine And.intro (rfl : (_ : Nat) = _) ?_
                      refine ⟨hbl, fun qg => ?_⟩
                      refine And.intro (rfl : (_ : Nat) = _) (And.intro j1.1 (And.intro (hln xx) ?_))
                      refine And.intro (rfl : (_ : Nat) = _) ?_
                      refine And.intro (rfl : (_ : Nat) = _) (And.intro (rfl : (_ : Nat) = _) ⟨(t_Proc c).setCells 0 [.v xx], hset xx, Nat.le_refl _, fun v3 => ?_⟩)
                      exact ⟨_, ⟨_, rfl⟩, wk rfl ⟨rfl, rfl, rfl, rfl, rfl, rfl, rfl, trivial⟩ ⟨rfl, rfl, rfl, rfl, rfl, congrArg (fun z => some (Ob.row qc v3 1 z)) (hfin xx), trivial⟩⟩
                    · refine ⟨fun t ht => (by simp at ht; subst ht; rfl), fun qf => ?_⟩
                      refine And.intro (rfl : (_ : Nat) = _) ⟨t_Proc c, hatk, ?_⟩
                      refine And.intro (rfl : (_ : Nat) = _) (And.intro (rfl : (_ : Nat) = _) ⟨P.length - 1, 0, t_Proc c, c.map t_Instr, hjk, Nat.zero_lt_one, hatc, rfl, fun vv xx => ?_⟩)
                      refine And.intro (rfl : (_ : Nat) = _) ?_
                      refine ⟨hbl, fun qg => ?_⟩
                      refine And.intro (rfl : (_ : Nat) = _) (And.intro j1.1 (And.intro (hln xx) ?_))
                      refine And.intro (rfl : (_ : Nat) = _) ?_
                      refine And.intro (rfl : (_ : Nat) = _) (And.intro (rfl : (_ : Nat) = _) ⟨(t_Proc c).setCells 0 [.v xx], hset xx, Nat.le_refl _, fun v3 => ?_⟩)
                      exact ⟨_, ⟨_, rfl⟩, wk rfl ⟨rfl, rfl, rfl, rfl, rfl, rfl, rfl, trivial⟩ ⟨rfl, rfl, rfl, rfl, rfl, congrArg (fun z => some (Ob.row qc v3 1 z)) (hfin xx), trivial⟩⟩
                  · refine And.intro ?_ ?_
                    · refine And.intro (rfl : (_ : Nat) = _) ⟨t_Proc c, hatk, ?_⟩
                      refine And.intro ?_ ?_
                      · refine And.intro (rfl : (_ : Nat) = _) ?_
                        refine ⟨fun t ht => (by simp at ht; subst ht; rfl), fun qf => ?_⟩
                        refine And.intro (rfl : (_ : Nat) = _) (And.intro (rfl : (_ : Nat) = _) ⟨P.length - 1, 0, t_Proc c, c.map t_Instr, hjk, Nat.zero_lt_one, hatc, rfl, fun vv xx => ?_⟩)
                        refine And.intro (rfl : (_ : Nat) = _) ?_
                        refine ⟨hbl, fun qg => ?_⟩
                        refine And.intro (rfl : (_ : Nat) = _) (And.intro j1.1 (And.intro (hln xx) ?_))
                        refine And.intro (rfl : (_ : Nat) = _) ?_
                        refine And.intro (rfl : (_ : Nat) = _) (And.intro (rfl : (_ : Nat) = _) ⟨(t_Proc c).setCells 0 [.v xx], hset xx, Nat.le_refl _, fun v3 => ?_⟩)
                        exact ⟨_, ⟨_, rfl⟩, wk rfl ⟨rfl, rfl, rfl, rfl, rfl, rfl, rfl, trivial⟩ ⟨rfl, rfl, rfl, rfl, rfl, congrArg (fun z => some (Ob.row qc v3 1 z)) (hfin xx), trivial⟩⟩
                      · refine ⟨fun t ht => (by simp at ht; subst ht; rfl), fun qf => ?_⟩
                        refine And.intro ?_ ?_
                        · refine And.intro (rfl : (_ : Nat) = _) ?_
                          refine And.intro (rfl : (_ : Nat) = _) (And.intro (rfl : (_ : Nat) = _) ⟨P.length - 1, 0, t_Proc c, c.map t_Instr, hjk, Nat.zero_lt_one, hatc, rfl, fun vv xx => ?_⟩)
                          refine And.intro (rfl : (_ : Nat) = _) ?_
                          refine ⟨hbl, fun qg => ?_⟩
                          refine And.intro (rfl : (_ : Nat) = _) (And.intro j1.1 (And.intro (hln xx) ?_))
                          refine And.intro (rfl : (_ : Nat) = _) ?_
                          refine And.intro (rfl : (_ : Nat) = _) (And.intro (rfl : (_ : Nat) = _) ⟨(t_Proc c).setCells 0 [.v xx], hset xx, Nat.le_refl _, fun v3 => ?_⟩)
                          exact ⟨_, ⟨_, rfl⟩, wk rfl ⟨rfl, rfl, rfl, rfl, rfl, rfl, rfl, trivial⟩ ⟨rfl, rfl, rfl, rfl, rfl, congrArg (fun z => some (Ob.row qc v3 1 z)) (hfin xx), trivial⟩⟩
                        · refine And.intro (rfl : (_ : Nat) = _) (And.intro (rfl : (_ : Nat) = _) ⟨P.length - 1, 0, t_Proc c, c.map t_Instr, hjk, Nat.zero_lt_one, hatc, rfl, fun vv xx => ?_⟩)
                          refine And.intro (rfl : (_ : Nat) = _) ?_
                          refine ⟨hbl, fun qg => ?_⟩
                          refine And.intro (rfl : (_ : Nat) = _) ?_
                          refine And.intro (rfl : (_ : Nat) = _) (And.intro j1.1 (And.intro (hln xx) ?_))
                          refine And.intro (rfl : (_ : Nat) = _) ?_
                          refine And.intro (rfl : (_ : Nat) = _) (And.intro (rfl : (_ : Nat) = _) ⟨(t_Proc c).setCells 0 [.v xx], hset xx, Nat.le_refl _, fun v3 => ?_⟩)
                          exact ⟨_, ⟨_, rfl⟩, wk rfl ⟨rfl, rfl, rfl, rfl, rfl, rfl, rfl, trivial⟩ ⟨rfl, rfl, rfl, rfl, rfl, congrArg (fun z => some (Ob.row qc v3 1 z)) (hfin xx), trivial⟩⟩
                    · refine ⟨fun t ht => (by simp at ht; subst ht; rfl), fun qf => ?_⟩
                      refine And.intro ?_ ?_
                      · refine And.intro (rfl : (_ : Nat) = _) ?_
                        refine And.intro (rfl : (_ : Nat) = _) ⟨t_Proc c, hatk, ?_⟩
                        refine And.intro (rfl : (_ : Nat) = _) (And.intro (rfl : (_ : Nat) = _) ⟨P.length - 1, 0, t_Proc c, c.map t_Instr, hjk, Nat.zero_lt_one, hatc, rfl, fun vv xx => ?_⟩)
                        refine And.intro (rfl : (_ : Nat) = _) ?_
                        refine ⟨hbl, fun qg => ?_⟩
                        refine And.intro (rfl : (_ : Nat) = _) (And.intro j1.1 (And.intro (hln xx) ?_))
                        refine And.intro (rfl : (_ : Nat) = _) ?_
                        refine And.intro (rfl : (_ : Nat) = _) (And.intro (rfl : (_ : Nat) = _) ⟨(t_Proc c).setCells 0 [.v xx], hset xx, Nat.le_refl _, fun v3 => ?_⟩)
                        exact ⟨_, ⟨_, rfl⟩, wk rfl ⟨rfl, rfl, rfl, rfl, rfl, rfl, rfl, trivial⟩ ⟨rfl, rfl, rfl, rfl, rfl, congrArg (fun z => some (Ob.row qc v3 1 z)) (hfin xx), trivial⟩⟩
                      · refine And.intro (rfl : (_ : Nat) = _) ⟨t_Proc c, hatk, ?_⟩
                        refine And.intro ?_ ?_
                        · refine And.intro (rfl : (_ : Nat) = _) ?_
                          refine And.intro (rfl : (_ : Nat) = _) (And.intro (rfl : (_ : Nat) = _) ⟨P.length - 1, 0, t_Proc c, c.map t_Instr, hjk, Nat.zero_lt_one, hatc, rfl, fun vv xx => ?_⟩)
                          refine And.intro (rfl : (_ : Nat) = _) ?_
                          refine ⟨hbl, fun qg => ?_⟩
                          refine And.intro (rfl : (_ : Nat) = _) (And.intro j1.1 (And.intro (hln xx) ?_))
                          refine And.intro (rfl : (_ : Nat) = _) ?_
                          refine And.intro (rfl : (_ : Nat) = _) (And.intro (rfl : (_ : Nat) = _) ⟨(t_Proc c).setCells 0 [.v xx], hset xx, Nat.le_refl _, fun v3 => ?_⟩)
                          exact ⟨_, ⟨_, rfl⟩, wk rfl ⟨rfl, rfl, rfl, rfl, rfl, rfl, rfl, trivial⟩ ⟨rfl, rfl, rfl, rfl, rfl, congrArg (fun z => some (Ob.row qc v3 1 z)) (hfin xx), trivial⟩⟩
                        · refine And.intro (rfl : (_ : Nat) = _) (And.intro (rfl : (_ : Nat) = _) ⟨P.length - 1, 0, t_Proc c, c.map t_Instr, hjk, Nat.zero_lt_one, hatc, rfl, fun vv xx => ?_⟩)
                          refine And.intro (rfl : (_ : Nat) = _) ?_
                          refine ⟨hbl, fun qg => ?_⟩
                          refine And.intro (rfl : (_ : Nat) = _) ?_
                          refine And.intro (rfl : (_ : Nat) = _) (And.intro j1.1 (And.intro (hln xx) ?_))
                          refine And.intro (rfl : (_ : Nat) = _) ?_
                          refine And.intro (rfl : (_ : Nat) = _) (And.intro (rfl : (_ : Nat) = _) ⟨(t_Proc c).setCells 0 [.v xx], hset xx, Nat.le_refl _, fun v3 => ?_⟩)
                          exact ⟨_, ⟨_, rfl⟩, wk rfl ⟨rfl, rfl, rfl, rfl, rfl, rfl, rfl, trivial⟩ ⟨rfl, rfl, rfl, rfl, rfl, congrArg (fun z => some (Ob.row qc v3 1 z)) (hfin xx), trivial⟩⟩
                · refine ⟨fun t ht => (by simp at ht; subst ht; rfl), fun qf => ?_⟩
                  refine And.intro ?_ ?_
                  · refine And.intro (rfl : (_ : Nat) = _) ?_
                    refine And.intro (rfl : (_ : Nat) = _) ?_
                    refine And.intro (rfl : (_ : Nat) = _) (And.intro j1.1 (And.intro j1.2 ?_))
                    refine And.intro (rfl : (_ : Nat) = _) ?_
                    refine And.intro (rfl : (_ : Nat) = _) ⟨t_Proc c, hatk, ?_⟩
                    refine And.intro (rfl : (_ : Nat) = _) (And.intro (rfl : (_ : Nat) = _) ⟨P.length - 1, 0, t_Proc c, c.map t_Instr, hjk, Nat.zero_lt_one, hatc, rfl, fun vv xx => ?_⟩)
                    refine And.intro (rfl : (_ : Nat) = _) ?_
                    refine ⟨hbl, fun qg => ?_⟩
                    refine And.intro (rfl : (_ : Nat) = _) (And.intro j1.1 (And.intro (hln xx) ?_))
                    refine And.intro (rfl : (_ : Nat) = _) ?_
                    refine And.intro (rfl : (_ : Nat) = _) (And.intro (rfl : (_ : Nat) = _) ⟨(t_Proc c).setCells 0 [.v xx], hset xx, Nat.le_refl _, fun v3 => ?_⟩)
                    exact ⟨_, ⟨_, rfl⟩, wk rfl ⟨rfl, rfl, rfl, rfl, rfl, rfl, rfl, trivial⟩ ⟨rfl, rfl, rfl, rfl, rfl, congrArg (fun z => some (Ob.row qc v3 1 z)) (hfin xx), trivial⟩⟩
                  · refine And.intro (rfl : (_ : Nat) = _) ?_
                    refine And.intro (rfl : (_ : Nat) = _) (And.intro j1.1 (And.intro j1.2 ?_))
                    refine And.intro (rfl : (_ : Nat) = _) ?_
                    refine And.intro ?_ ?_
                    · refine And.intro (rfl : (_ : Nat) = _) ?_
                      refine And.intro (rfl : (_ : Nat) = _) ⟨t_Proc c, hatk, ?_⟩
                      refine And.intro (rfl : (_ : Nat) = _) (And.intro (rfl : (_ : Nat) = _) ⟨P.length - 1, 0, t_Proc c, c.map t_Instr, hjk, Nat.zero_lt_one, hatc, rfl, fun vv xx => ?_⟩)
                      refine And.intro (rfl : (_ : Nat) = _) ?_
                      refine ⟨hbl, fun qg => ?_⟩
                      refine And.intro (rfl : (_ : Nat) = _) (And.intro j1.1 (And.intro (hln xx) ?_))
                      refine And.intro (rfl : (_ : Nat) = _) ?_
                      refine And.intro (rfl : (_ : Nat) = _) (And.intro (rfl : (_ : Nat) = _) ⟨(t_Proc c).setCells 0 [.v xx], hset xx, Nat.le_refl _, fun v3 => ?_⟩)
                      exact ⟨_, ⟨_, rfl⟩, wk rfl ⟨rfl, rfl, rfl, rfl, rfl, rfl, rfl, trivial⟩ ⟨rfl, rfl, rfl, rfl, rfl, congrArg (fun z => some (Ob.row qc v3 1 z)) (hfin xx), trivial⟩⟩
                    · refine And.intro (rfl : (_ : Nat) = _) ⟨t_Proc c, hatk, ?_⟩
                      refine And.intro ?_ ?_
                      · refine And.intro (rfl : (_ : Nat) = _) ?_
                        refine And.intro (rfl : (_ : Nat) = _) (And.intro (rfl : (_ : Nat) = _) ⟨P.length - 1, 0, t_Proc c, c.map t_Instr, hjk, Nat.zero_lt_one, hatc, rfl, fun vv xx => ?_⟩)
                        refine And.intro (rfl : (_ : Nat) = _) ?_
                        refine ⟨hbl, fun qg => ?_⟩
                        refine And.intro (rfl : (_ : Nat) = _) (And.intro j1.1 (And.intro (hln xx) ?_))
                        refine And.intro (rfl : (_ : Nat) = _) ?_
                        refine And.intro (rfl : (_ : Nat) = _) (And.intro (rfl : (_ : Nat) = _) ⟨(t_Proc c).setCells 0 [.v xx], hset xx, Nat.le_refl _, fun v3 => ?_⟩)
                        exact ⟨_, ⟨_, rfl⟩, wk rfl ⟨rfl, rfl, rfl, rfl, rfl, rfl, rfl, trivial⟩ ⟨rfl, rfl, rfl, rfl, rfl, congrArg (fun z => some (Ob.row qc v3 1 z)) (hfin xx), trivial⟩⟩
                      · refine And.intro (rfl : (_ : Nat) = _) (And.intro (rfl : (_ : Nat) = _) ⟨P.length - 1, 0, t_Proc c, c.map t_Instr, hjk, Nat.zero_lt_one, hatc, rfl, fun vv xx => ?_⟩)
                        refine And.intro (rfl : (_ : Nat) = _) ?_
                        refine ⟨hbl, fun qg => ?_⟩
                        refine And.intro (rfl : (_ : Nat) = _) ?_
                        refine And.intro (rfl : (_ : Nat) = _) (And.intro j1.1 (And.intro (hln xx) ?_))
                        refine And.intro (rfl : (_ : Nat) = _) ?_
                        refine And.intro (rfl : (_ : Nat) = _) (And.intro (rfl : (_ : Nat) = _) ⟨(t_Proc c).setCells 0 [.v xx], hset xx, Nat.le_refl _, fun v3 => ?_⟩)
                        exact ⟨_, ⟨_, rfl⟩, wk rfl ⟨rfl, rfl, rfl, rfl, rfl, rfl, rfl, trivial⟩ ⟨rfl, rfl, rfl, rfl, rfl, congrArg (fun z => some (Ob.row qc v3 1 z)) (hfin xx), trivial⟩⟩
        rintro m ⟨v, rfl⟩
        repeat (first | refine brT ?_ | refine brF ?_ | refine And.intro rfl ?_ | refine And.intro trivial ?_ | intro _)
        exact nxt (i + 1, qa, qb, qc, v) hlt (by show L.length - (i + 1) < L.length - i; omega) (wk rfl ⟨rfl, rfl, rfl, congrArg AV.bool (by rw [hst]), rfl, rfl, up1 hlt (by omega), trivial⟩ ⟨rfl, congrArg (fun z : Int => some (Ob.box q4 [.own 51000 qa, .v (.int .i64 z), .own 88000 qb, .own 97000 qc])) hmus.symm, rfl, congrArg (fun z : List Int => some (Ob.row qa 0 1 (z.map T.int))) hcap.symm, congrArg (fun z => some (Ob.row qb 0 2 z)) (by rw [hst]), congrArg (fun z => some (Ob.row qc v 1 z)) (by rw [hst]), trivial⟩)
    · rw [decide_eq_false hsel] at hb0
      refine brL (by show ¬ (((wd W 0).toList == selW.toList) = true); rw [hb0]; decide) (fun _ => ?_)
      repeat (first | refine brT ?_ | refine brF ?_ | refine And.intro rfl ?_ | refine And.intro trivial ?_ | intro _)
      by_cases hC : w = procW0
      · have hstep : specStep ((S, P), bad) w = ((S, P ++ [[]]), bad) := by unfold specStep; rw [if_neg (by rw [← hW]; exact hA), if_pos hC]
        rw [hstep] at hst
        refine brR (by show ¬ ((w.toList == procW0.toList) = false); rw [hb1, decide_eq_true hC]; decide) (fun _ => ?_)
        repeat (first | refine brT ?_ | refine brF ?_ | refine And.intro rfl ?_ | refine And.intro trivial ?_ | intro _)
        refine ⟨4, ?_⟩
        repeat (first | refine brT ?_ | refine brF ?_ | refine And.intro rfl ?_ | refine And.intro trivial ?_ | intro _)
        refine ⟨fun t ht => (by simp at ht; subst ht; rfl), fun qn => ?_⟩
        repeat (first | refine brT ?_ | refine brF ?_ | refine And.intro rfl ?_ | refine And.intro trivial ?_ | intro _)
        refine ⟨by simp; unfold bound; omega, fun qm => ?_⟩
        repeat (first | refine brT ?_ | refine brF ?_ | refine And.intro rfl ?_ | refine And.intro trivial ?_ | intro _)
        exact nxt (i + 1, qa, qb, qm, 0) hlt (by show L.length - (i + 1) < L.length - i; omega) (wk rfl ⟨rfl, rfl, rfl, congrArg AV.bool (by rw [hst]), rfl, rfl, up1 hlt (by omega), trivial⟩ ⟨rfl, congrArg (fun z : Int => some (Ob.box q4 [.own 51000 qa, .v (.int .i64 z), .own 88000 qb, .own 97000 qm])) hmus.symm, rfl, congrArg (fun z : List Int => some (Ob.row qa 0 1 (z.map T.int))) hcap.symm, congrArg (fun z => some (Ob.row qb 0 2 z)) (by rw [hst]), congrArg (fun z => some (Ob.row qm 0 1 z)) (by rw [hst]; exact (List.map_append (f := t_Proc) (l₁ := P) (l₂ := [[]])).symm), trivial⟩)
      by_cases hF : P.length = 0
      · have hstep : specStep ((S, P), bad) w = ((S, P), bad) := by unfold specStep; rw [if_neg (by rw [← hW]; exact hA), if_neg hC, if_pos hF]
        rw [hstep] at hst
        refine brL (by show ¬ ((w.toList == procW0.toList) = true); rw [hb1, decide_eq_false hC]; decide) (fun _ => ?_)
        repeat (first | refine brT ?_ | refine brF ?_ | refine And.intro rfl ?_ | refine And.intro trivial ?_ | intro _)
        refine brL (by show ¬ (decide (((P.map t_Proc).length : Int) > 0) = true); simp [hF]) (fun _ => ?_)
        repeat (first | refine brT ?_ | refine brF ?_ | refine And.intro rfl ?_ | refine And.intro trivial ?_ | intro _)
        exact nxt (i + 1, qa, qb, qc, vc) hlt (by show L.length - (i + 1) < L.length - i; omega) (wk rfl ⟨rfl, rfl, rfl, congrArg AV.bool (by rw [hst]), rfl, rfl, up1 hlt (by omega), trivial⟩ ⟨rfl, congrArg (fun z : Int => some (Ob.box q4 [.own 51000 qa, .v (.int .i64 z), .own 88000 qb, .own 97000 qc])) hmus.symm, rfl, congrArg (fun z : List Int => some (Ob.row qa 0 1 (z.map T.int))) hcap.symm, congrArg (fun z => some (Ob.row qb 0 2 z)) (by rw [hst]), congrArg (fun z => some (Ob.row qc vc 1 z)) (by rw [hst]), trivial⟩)
      have hstep : specStep ((S, P), bad) w = ((S, addI P (textInstr w).1), bad || !(textInstr w).2) := by unfold specStep; rw [if_neg (by rw [← hW]; exact hA), if_neg hC, if_neg hF]
      have ⟨c, hcd⟩ : ∃ c, c = P.getD (P.length - 1) [] := ⟨_, rfl⟩
      have hPl : P.length - 1 < P.length := by omega
      have hatc : (P.map t_Proc)[P.length - 1]? = some (t_Proc c) := by
        rw [hcd, List.getElem?_map, List.getD_eq_getElem?_getD, List.getElem?_eq_getElem hPl]; rfl
      have hcl : c.length ≤ i := by
        have : c ∈ P := by rw [hcd, List.getD_eq_getElem?_getD, List.getElem?_eq_getElem hPl]; exact List.getElem_mem _
        exact hPc c this
      have hwt : w64 (((P.map t_Proc).length : Int) - 1) = ((P.length - 1 : Nat) : Int) := by rw [List.length_map, w64_id (by omega) (by omega)]; omega
      have j1 : 0 ≤ w64 (((P.map t_Proc).length : Int) - 1) ∧ (w64 (((P.map t_Proc).length : Int) - 1)).toNat < (P.map t_Proc).length := by rw [hwt]; refine ⟨Int.natCast_nonneg _, ?_⟩; rw [List.length_map]; exact hPl
      have hjk : (w64 (((P.map t_Proc).length : Int) - 1)).toNat * 1 + 0 = (P.length - 1) * 1 + 0 := by rw [hwt]; rfl
      have hbl : (c.map t_Instr).length + [t_Instr (textInstr w).1].length ≤ bound := by rw [List.length_map]; simp; unfold bound; omega
      have hln : ∀ xx : Value, (w64 (((P.map t_Proc).length : Int) - 1)).toNat < ((P.map t_Proc).set (P.length - 1) ((t_Proc c).setCells 0 [.v xx])).length := fun xx => by rw [List.length_set]; exact j1.2
      have hset : ∀ xx : Value, ((P.map t_Proc).set (P.length - 1) ((t_Proc c).setCells 0 [.v xx]))[(w64 (((P.map t_Proc).length : Int) - 1)).toNat]? = some ((t_Proc c).setCells 0 [.v xx]) := fun xx => by rw [hwt]; simp [hPl]
      have hfin : ∀ xx : Value, ((P.map t_Proc).set (P.length - 1) ((t_Proc c).setCells 0 [.v xx])).set (w64 (((P.map t_Proc).length : Int) - 1)).toNat (((t_Proc c).setCells 0 [.v xx]).setCells 0 [.sl 4 (c.map t_Instr ++ [t_Instr (textInstr w).1])]) = (addI P (textInstr w).1).map t_Proc := fun xx => by
        rw [hwt]
        simp only [Int.toNat_natCast, List.set_set]
        unfold addI
        rw [List.map_set, ← hcd]
        have : t_Proc (c ++ [(textInstr w).1]) = .agg [.sl 4 (c.map t_Instr ++ [t_Instr (textInstr w).1])] := by show T.agg [T.sl 4 ((c ++ [(textInstr w).1]).map t_Instr)] = _; rw [List.map_append]; rfl
        rw [this]; rfl
      have hatk : (P.map t_Proc)[(w64 (((P.map t_Proc).length : Int) - 1)).toNat]? = some (t_Proc c) := by rw [hwt]; exact hatc
      rw [hstep] at hst
      refine brL (by show ¬ ((w.toList == procW0.toList) = true); rw [hb1, decide_eq_false hC]; decide) (fun _ => ?_)
      repeat (first | refine brT ?_ | refine brF ?_ | refine And.intro rfl ?_ | refine And.intro trivial ?_ | intro _)
      refine brR (by show ¬ (decide (((P.map t_Proc).length : Int) > 0) = false); rw [decide_eq_true (by rw [List.length_map]; omega)]; decide) (fun _ => ?_)
      repeat (first | refine brT ?_ | refine brF ?_ | refine And.intro rfl ?_ | refine And.intro trivial ?_ | intro _)
      refine ⟨_, s_TextInstr w (by omega), ?_⟩
      repeat (first | refine brT ?_ | refine brF ?_ | refine And.intro rfl ?_ | refine And.intro trivial ?_ | intro _)
      cases hbd : bad with
      | true =>
        rw [hbd] at hst
        repeat (first | refine brT ?_ | refine brF ?_ | refine And.intro rfl ?_ | refine And.intro trivial ?_ | intro _)
        refine drM0 (Pl.go 0 (Pl.go 2 (Pl.go 3 (Pl.go 5 ((Pl.go 1 ((Pl.go 4 (Pl.go 6 (Pl.go 7 ((Pl.go 8 (Pl.go 9 (Pl.go 10 (Pl.go 11 (Pl.go 12 (Pl.go 13 (Pl.go 14 Pl.stop))))))).or (Pl.go 9 ((Pl.go 8 (Pl.go 10 (Pl.go 11 (Pl.go 12 (Pl.go 13 (Pl.go 14 Pl.stop)))))).or (Pl.go 10 (Pl.go 8 (Pl.go 11 (Pl.go 12 (Pl.go 13 (Pl.go 14 Pl.stop)))))))))))).or (Pl.go 9 ((Pl.go 4 (Pl.go 6 (Pl.go 7 ((Pl.go 8 (Pl.go 10 (Pl.go 11 (Pl.go 12 (Pl.go 13 (Pl.go 14 Pl.stop)))))).or (Pl.go 10 (Pl.go 8 (Pl.go 11 (Pl.go 12 (Pl.go 13 (Pl.go 14 Pl.stop)))))))))).or (Pl.go 10 (Pl.go 4 (Pl.go 6 (Pl.go 7 (Pl.go 8 (Pl.go 11 (Pl.go 12 (Pl.go 13 (Pl.go 14 Pl.stop))))))))))))).or ((Pl.go 4 (Pl.go 6 (Pl.go 7 ((Pl.go 1 ((Pl.go 8 (Pl.go 9 (Pl.go 10 (Pl.go 11 (Pl.go 12 (Pl.go 13 (Pl.go 14 Pl.stop))))))).or (Pl.go 9 ((Pl.go 8 (Pl.go 10 (Pl.go 11 (Pl.go 12 (Pl.go 13 (Pl.go 14 Pl.stop)))))).or (Pl.go 10 (Pl.go 8 (Pl.go 11 (Pl.go 12 (Pl.go 13 (Pl.go 14 Pl.stop)))))))))).or ((Pl.go 8 ((Pl.go 1 (Pl.go 9 (Pl.go 10 (Pl.go 11 (Pl.go 12 (Pl.go 13 (Pl.go 14 Pl.stop))))))).or (Pl.go 9 ((Pl.go 1 (Pl.go 10 (Pl.go 11 (Pl.go 12 (Pl.go 13 (Pl.go 14 Pl.stop)))))).or (Pl.go 10 ((Pl.go 1 (Pl.go 11 (Pl.go 12 (Pl.go 13 (Pl.go 14 Pl.stop))))).or (Pl.go 11 (Pl.go 1 (Pl.go 12 (Pl.go 13 (Pl.go 14 Pl.stop))))))))))).or (Pl.go 9 ((Pl.go 1 ((Pl.go 8 (Pl.go 10 (Pl.go 11 (Pl.go 12 (Pl.go 13 (Pl.go 14 Pl.stop)))))).or (Pl.go 10 (Pl.go 8 (Pl.go 11 (Pl.go 12 (Pl.go 13 (Pl.go 14 Pl.stop)))))))).or ((Pl.go 8 ((Pl.go 1 (Pl.go 10 (Pl.go 11 (Pl.go 12 (Pl.go 13 (Pl.go 14 Pl.stop)))))).or (Pl.go 10 ((Pl.go 1 (Pl.go 11 (Pl.go 12 (Pl.go 13 (Pl.go 14 Pl.stop))))).or (Pl.go 11 (Pl.go 1 (Pl.go 12 (Pl.go 13 (Pl.go 14 Pl.stop))))))))).or (Pl.go 10 ((Pl.go 1 (Pl.go 8 (Pl.go 11 (Pl.go 12 (Pl.go 13 (Pl.go 14 Pl.stop)))))).or (Pl.go 8 ((Pl.go 1 (Pl.go 11 (Pl.go 12 (Pl.go 13 (Pl.go 14 Pl.stop))))).or (Pl.go 11 (Pl.go 1 (Pl.go 12 (Pl.go 13 (Pl.go 14 Pl.stop))))))))))))))))).or (Pl.go 9 ((Pl.go 1 ((Pl.go 4 (Pl.go 6 (Pl.go 7 ((Pl.go 8 (Pl.go 10 (Pl.go 11 (Pl.go 12 (Pl.go 13 (Pl.go 14 Pl.stop)))))).or (Pl.go 10 (Pl.go 8 (Pl.go 11 (Pl.go 12 (Pl.go 13 (Pl.go 14 Pl.stop)))))))))).or (Pl.go 10 (Pl.go 4 (Pl.go 6 (Pl.go 7 (Pl.go 8 (Pl.go 11 (Pl.go 12 (Pl.go 13 (Pl.go 14 Pl.stop))))))))))).or ((Pl.go 4 (Pl.go 6 (Pl.go 7 ((Pl.go 1 ((Pl.go 8 (Pl.go 10 (Pl.go 11 (Pl.go 12 (Pl.go 13 (Pl.go 14 Pl.stop)))))).or (Pl.go 10 (Pl.go 8 (Pl.go 11 (Pl.go 12 (Pl.go 13 (Pl.go 14 Pl.stop)))))))).or ((Pl.go 8 ((Pl.go 1 (Pl.go 10 (Pl.go 11 (Pl.go 12 (Pl.go 13 (Pl.go 14 Pl.stop)))))).or (Pl.go 10 ((Pl.go 1 (Pl.go 11 (Pl.go 12 (Pl.go 13 (Pl.go 14 Pl.stop))))).or (Pl.go 11 (Pl.go 1 (Pl.go 12 (Pl.go 13 (Pl.go 14 Pl.stop))))))))).or (Pl.go 10 ((Pl.go 1 (Pl.go 8 (Pl.go 11 (Pl.go 12 (Pl.go 13 (Pl.go 14 Pl.stop)))))).or (Pl.go 8 ((Pl.go 1 (Pl.go 11 (Pl.go 12 (Pl.go 13 (Pl.go 14 Pl.stop))))).or (Pl.go 11 (Pl.go 1 (Pl.go 12 (Pl.go 13 (Pl.go 14 Pl.stop)))))))))))))).or (Pl.go 10 ((Pl.go 1 (Pl.go 4 (Pl.go 6 (Pl.go 7 (Pl.go 8 (Pl.go 11 (Pl.go 12 (Pl.go 13 (Pl.go 14 Pl.stop))))))))).or (Pl.go 4 (Pl.go 6 (Pl.go 7 ((Pl.go 1 (Pl.go 8 (Pl.go 11 (Pl.go 12 (Pl.go 13 (Pl.go 14 Pl.stop)))))).or (Pl.go 8 ((Pl.go 1 (Pl.go 11 (Pl.go 12 (Pl.go 13 (Pl.go 14 Pl.stop))))).or (Pl.go 11 (Pl.go 1 (Pl.go 12 (Pl.go 13 (Pl.go 14 Pl.stop)))))))))))))))))))))) (fun m => ∃ v : Nat, m = ⟨145, [(0, .vv (.string s)), (2, .c (.bx 3000 q2 0)), (4, .c (.bx 5000 q4 0)), (5, .bool (true || !(textInstr w).2)), (26, .c (.own 26000 qL)), (27, .int (L.length : Int)), (28, .int i)],
          [(3000, .box q2 [.v (.slice none 0 0), .v (.int .i64 0), .v (.slice none 0 0), .v (.slice none 0 0)]), (5000, .box q4 [.own 51000 qa, .v (.int .i64 (musAt L i)), .own 88000 qb, .own 97000 qc]), (26000, .row qL 0 1 (L.map T.str)),
           (51000, .row qa 0 1 ((capsAt L i).map T.int)), (88000, .row qb 0 2 (S.map t_Select)), (97000, .row qc v 1 ((addI P (textInstr w).1).map t_Proc))]⟩) (by kernel_rfl) ?_ ?_
        · refine And.intro (rfl : (_ : Nat) = _) ?_
          refine And.intro (rfl : (_ : Nat) = _) ?_
          refine And.intro ?_ ?_
          · refine And.intro (rfl : (_ : Nat) = _) ?_
            refine And.intro ?_ ?_
            · refine And.intro (rfl : (_ : Nat) = _) ?_
              refine And.intro (rfl : (_ : Nat) = _) (And.intro j1.1 (And.intro j1.2 ?_))
              refine And.intro (rfl : (_ : Nat) = _) ?_
              refine And.intro ?_ ?_
              · refine And.intro (rfl : (_ : Nat) = _) ⟨t_Proc c, hatk, ?_⟩
                refine And.intro (rfl : (_ : Nat) = _) ?_
                refine ⟨fun t ht => (by simp at ht; subst ht; rfl), fun qf => ?_⟩
                refine And.intro (rfl : (_ : Nat) = _) (And.intro (rfl : (_ : Nat) = _) ⟨P.length - 1, 0, t_Proc c, c.map t_Instr, hjk, Nat.zero_lt_one, hatc, rfl, fun vv xx => ?_⟩)
                refine And.intro (rfl : (_ : Nat) = _) ?_
                refine ⟨hbl, fun qg => ?_⟩
                refine And.intro (rfl : (_ : Nat) = _) (And.intro j1.1 (And.intro (hln xx) ?_))
                refine And.intro (rfl : (_ : Nat) = _) ?_
                refine And.intro (rfl : (_ : Nat) = _) (And.intro (rfl : (_ : Nat) = _) ⟨(t_Proc c).setCells 0 [.v xx], hset xx, Nat.le_refl _, fun v3 => ?_⟩)
                exact ⟨_, ⟨_, rfl⟩, wk rfl ⟨rfl, rfl, rfl, rfl, rfl, rfl, rfl, trivial⟩ ⟨rfl, rfl, rfl, rfl, rfl, congrArg (fun z => some (Ob.row qc v3 1 z)) (hfin xx), trivial⟩⟩
              · refine And.intro (rfl : (_ : Nat) = _) ?_
                refine And.intro ?_ ?_
                · refine And.intro (rfl : (_ : Nat) = _) ⟨t_Proc c, hatk, ?_⟩
                  refine ⟨fun t ht => (by simp at ht; subst ht; rfl), fun qf => ?_⟩
                  refine And.intro (rfl : (_ : Nat) = _) (And.intro (rfl : (_ : Nat) = _) ⟨P.length - 1, 0, t_Proc c, c.map t_Instr, hjk, Nat.zero_lt_one, hatc, rfl, fun vv xx => ?_⟩)
                  refine And.intro (rfl : (_ : Nat) = _) ?_
                  refine ⟨hbl, fun qg => ?_⟩
                  refine And.intro (rfl : (_ : Nat) = _) (And.intro j1.1 (And.intro (hln xx) ?_))
                  refine And.intro (rfl : (_ : Nat) = _) ?_
                  refine And.intro (rfl : (_ : Nat) = _) (And.intro (rfl : (_ : Nat) = _) ⟨(t_Proc c).setCells 0 [.v xx], hset xx, Nat.le_refl _, fun v3 => ?_⟩)
                  exact ⟨_, ⟨_, rfl⟩, wk rfl ⟨rfl, rfl, rfl, rfl, rfl, rfl, rfl, trivial⟩ ⟨rfl, rfl, rfl, rfl, rfl, congrArg (fun z => some (Ob.row qc v3 1 z)) (hfin xx), trivial⟩⟩
                · refine ⟨fun t ht => (by simp at ht; subst ht; rfl), fun qf => ?_⟩
                  refine And.intro (rfl : (_ : Nat) = _) ⟨t_Proc c, hatk, ?_⟩
                  refine And.intro (rfl : (_ : Nat) = _) (And.intro (rfl : (_ : Nat) = _) ⟨P.length - 1, 0, t_Proc c, c.map t_Instr, hjk, Nat.zero_lt_one, hatc, rfl, fun vv xx => ?_⟩)
                  refine And.intro (rfl : (_ : Nat) = _) ?_
                  refine ⟨hbl, fun qg => ?_⟩
                  refine And.intro (rfl : (_ : Nat) = _) (And.intro j1.1 (And.intro (hln xx) ?_))
                  refine And.intro (rfl : (_ : Nat) = _) ?_
                  refine And.intro (rfl : (_ : Nat) = _) (And.intro (rfl : (_ : Nat) = _) ⟨(t_Proc c).setCells 0 [.v xx], hset xx, Nat.le_refl _, fun v3 => ?_⟩)
                  exact ⟨_, ⟨_, rfl⟩, wk rfl ⟨rfl, rfl, rfl, rfl, rfl, rfl, rfl, trivial⟩ ⟨rfl, rfl, rfl, rfl, rfl, congrArg (fun z => some (Ob.row qc v3 1 z)) (hfin xx), trivial⟩⟩
            · refine And.intro (rfl : (_ : Nat) = _) ?_
              refine And.intro ?_ ?_
              · refine And.intro (rfl : (_ : Nat) = _) ?_
                refine And.intro (rfl : (_ : Nat) = _) (And.intro j1.1 (And.intro j1.2 ?_))
                refine And.intro (rfl : (_ : Nat) = _) ?_
                refine And.intro ?_ ?_
                · refine And.intro (rfl : (_ : Nat) = _) ⟨t_Proc c, hatk, ?_⟩
                  refine ⟨fun t ht => (by simp at ht; subst ht; rfl), fun qf => ?_⟩
                  refine And.intro (rfl : (_ : Nat) = _) (And.intro (rfl : (_ : Nat) = _) ⟨P.length - 1, 0, t_Proc c, c.map t_Instr, hjk, Nat.zero_lt_one, hatc, rfl, fun vv xx => ?_⟩)
                  refine And.intro (rfl : (_ : Nat) = _) ?_
                  refine ⟨hbl, fun qg => ?_⟩
                  refine And.intro (rfl : (_ : Nat) = _) (And.intro j1.1 (And.intro (hln xx) ?_))
                  refine And.intro (rfl : (_ : Nat) = _) ?_
                  refine And.intro (rfl : (_ : Nat) = _) (And.intro (rfl : (_ : Nat) = _) ⟨(t_Proc c).setCells 0 [.v xx], hset xx, Nat.le_refl _, fun v3 => ?_⟩)
                  exact ⟨_, ⟨_, rfl⟩, wk rfl ⟨rfl, rfl, rfl, rfl, rfl, rfl, rfl, trivial⟩ ⟨rfl, rfl, rfl, rfl, rfl, congrArg (fun z => some (Ob.row qc v3 1 z)) (hfin xx), trivial⟩⟩
                · refine ⟨fun t ht => (by simp at ht; subst ht; rfl), fun qf => ?_⟩
                  refine And.intro (rfl : (_ : Nat) = _) ⟨t_Proc c, hatk, ?_⟩
                  refine And.intro (rfl : (_ : Nat) = _) (And.intro (rfl : (_ : Nat) = _) ⟨P.length - 1, 0, t_Proc c, c.map t_Instr, hjk, Nat.zero_lt_one, hatc, rfl, fun vv xx => ?_⟩)
                  refine And.intro (rfl : (_ : Nat) = _) ?_
                  refine ⟨hbl, fun qg => ?_⟩
                  refine And.intro (rfl : (_ : Nat) = _) (And.intro j1.1 (And.intro (hln xx) ?_))
                  refine And.intro (rfl : (_ : Nat) = _) ?_
                  refine And.intro (rfl : (_ : Nat) = _) (And.intro (rfl : (_ : Nat) = _) ⟨(t_Proc c).setCells 0 [.v xx], hset xx, Nat.le_refl _, fun v3 => ?_⟩)
                  exact ⟨_, ⟨_, rfl⟩, wk rfl ⟨rfl, rfl, rfl, rfl, rfl, rfl, rfl, trivial⟩ ⟨rfl, rfl, rfl, rfl, rfl, congrArg (fun z => some (Ob.row qc v3 1 z)) (hfin xx), trivial⟩⟩
              · refine ⟨fun t ht => (by simp at ht; subst ht; rfl), fun qf => ?_⟩
                refine And.intro (rfl : (_ : Nat) = _) ?_
                refine And.intro (rfl : (_ : Nat) = _) (And.intro j1.1 (And.intro j1.2 ?_))
                refine And.intro (rfl : (_ : Nat) = _) ?_
                refine And.intro (rfl : (_ : Nat) = _) ⟨t_Proc c, hatk, ?_⟩
                refine And.intro (rfl : (_ : Nat) = _) (And.intro (rfl : (_ : Nat) = _) ⟨P.length - 1, 0, t_Proc c, c.map t_Instr, hjk, Nat.zero_lt_one, hatc, rfl, fun vv xx => ?_⟩)
                refine And.intro (rfl : (_ : Nat) = _) ?_
                refine ⟨hbl, fun qg => ?_⟩
                refine And.intro (rfl : (_ : Nat) = _) (And.intro j1.1 (And.intro (hln xx) ?_))
                refine And.intro (rfl : (_ : Nat) = _) ?_
                refine And.intro (rfl : (_ : Nat) = _) (And.intro (rfl : (_ : Nat) = _) ⟨(t_Proc c).setCells 0 [.v xx], hset xx, Nat.le_refl _, fun v3 => ?_⟩)
                exact ⟨_, ⟨_, rfl⟩, wk rfl ⟨rfl, rfl, rfl, rfl, rfl, rfl, rfl, trivial⟩ ⟨rfl, rfl, rfl, rfl, rfl, congrArg (fun z => some (Ob.row qc v3 1 z)) (hfin xx), trivial⟩⟩
          · refine And.intro ?_ ?_
            · refine And.intro (rfl : (_ : Nat) = _) ?_
              refine And.intro (rfl : (_ : Nat) = _) (And.intro j1.1 (And.intro j1.2 ?_))
              refine And.intro (rfl : (_ : Nat) = _) ?_
              refine And.intro ?_ ?_
              · refine And.intro (rfl : (_ : Nat) = _) ?_
                refine And.intro ?_ ?_
                · refine And.intro (rfl : (_ : Nat) = _) ⟨t_Proc c, hatk, ?_⟩
                  refine And.intro (rfl : (_ : Nat) = _) ?_
                  refine ⟨fun t ht => (by simp at ht; subst ht; rfl), fun qf => ?_⟩
                  refine And.intro (rfl : (_ : Nat) = _) (And.intro (rfl : (_ : Nat) = _) ⟨P.length - 1, 0, t_Proc c, c.map t_Instr, hjk, Nat.zero_lt_one, hatc, rfl, fun vv xx => ?_⟩)
                  refine And.intro (rfl : (_ : Nat) = _) ?_
                  refine ⟨hbl, fun qg => ?_⟩
                  refine And.intro (rfl : (_ : Nat) = _) (And.intro j1.1 (And.intro (hln xx) ?_))
                  refine And.intro (rfl : (_ : Nat) = _) ?_
                  refine And.intro (rfl : (_ : Nat) = _) (And.intro (rfl : (_ : Nat) = _) ⟨(t_Proc c).setCells 0 [.v xx], hset xx, Nat.le_refl _, fun v3 => ?_⟩)
                  exact ⟨_, ⟨_, rfl⟩, wk rfl ⟨rfl, rfl, rfl, rfl, rfl, rfl, rfl, trivial⟩ ⟨rfl, rfl, rfl, rfl, rfl, congrArg (fun z => some (Ob.row qc v3 1 z)) (hfin xx), trivial⟩⟩
                · refine And.intro (rfl : (_ : Nat) = _) ?_
                  refine And.intro ?_ ?_
                  · refine And.intro (rfl : (_ : Nat) = _) ⟨t_Proc c, hatk, ?_⟩
                    refine ⟨fun t ht => (by simp at ht; subst ht; rfl), fun qf => ?_⟩
                    refine And.intro (rfl : (_ : Nat) = _) (And.intro (rfl : (_ : Nat) = _) ⟨P.length - 1, 0, t_Proc c, c.map t_Instr, hjk, Nat.zero_lt_one, hatc, rfl, fun vv xx => ?_⟩)
                    refine And.intro (rfl : (_ : Nat) = _) ?_
                    refine ⟨hbl, fun qg => ?_⟩
                    refine And.intro (rfl : (_ : Nat) = _) (And.intro j1.1 (And.intro (hln xx) ?_))
                    refine And.intro (rfl : (_ : Nat) = _) ?_
                    refine And.intro (rfl : (_ : Nat) = _) (And.intro (rfl : (_ : Nat) = _) ⟨(t_Proc c).setCells 0 [.v xx], hset xx, Nat.le_refl _, fun v3 => ?_⟩)
                    exact ⟨_, ⟨_, rfl⟩, wk rfl ⟨rfl, rfl, rfl, rfl, rfl, rfl, rfl, trivial⟩ ⟨rfl, rfl, rfl, rfl, rfl, congrArg (fun z => some (Ob.row qc v3 1 z)) (hfin xx), trivial⟩⟩
                  · refine ⟨fun t ht => (by simp at ht; subst ht; rfl), fun qf => ?_⟩
                    refine And.intro (rfl : (_ : Nat) = _) ⟨t_Proc c, hatk, ?_⟩
                    refine And.intro (rfl : (_ : Nat) = _) (And.intro (rfl : (_ : Nat) = _) ⟨P.length - 1, 0, t_Proc c, c.map t_Instr, hjk, Nat.zero_lt_one, hatc, rfl, fun vv xx => ?_⟩)
                    refine And.intro (rfl : (_ : Nat) = _) ?_
                    refine ⟨hbl, fun qg => ?_⟩
                    refine And.intro (rfl : (_ : Nat) = _) (And.intro j1.1 (And.intro (hln xx) ?_))
                    refine And.intro (rfl : (_ : Nat) = _) ?_
                    refine And.intro (rfl : (_ : Nat) = _) (And.intro (rfl : (_ : Nat) = _) ⟨(t_Proc c).setCells 0 [.v xx], hset xx, Nat.le_refl _, fun v3 => ?_⟩)
                    exact ⟨_, ⟨_, rfl⟩, wk rfl ⟨rfl, rfl, rfl, rfl, rfl, rfl, rfl, trivial⟩ ⟨rfl, rfl, rfl, rfl, rfl, congrArg (fun z => some (Ob.row qc v3 1 z)) (hfin xx), trivial⟩⟩
              · refine And.intro ?_ ?_
                · refine And.intro (rfl : (_ : Nat) = _) ⟨t_Proc c, hatk, ?_⟩
                  refine And.intro ?_ ?_
                  · refine And.intro (rfl : (_ : Nat) = _) ?_
                    refine And.intro (rfl : (_ : Nat) = _) ?_
                    refine ⟨fun t ht => (by simp at ht; subst ht; rfl), fun qf => ?_⟩
                    refine And.intro (rfl : (_ : Nat) = _) (And.intro (rfl : (_ : Nat) = _) ⟨P.length - 1, 0, t_Proc c, c.map t_Instr, hjk, Nat.zero_lt_one, hatc, rfl, fun vv xx => ?_⟩)
                    refine And.intro (rfl : (_ : Nat) = _) ?_
                    refine ⟨hbl, fun qg => ?_⟩
                    refine And.intro (rfl : (_ : Nat) = _) (And.intro j1.1 (And.intro (hln xx) ?_))
                    refine And.intro (rfl : (_ : Nat) = _) ?_
                    refine And.intro (rfl : (_ : Nat) = _) (And.intro (rfl : (_ : Nat) = _) ⟨(t_Proc c).setCells 0 [.v xx], hset xx, Nat.le_refl _, fun v3 => ?_⟩)
                    exact ⟨_, ⟨_, rfl⟩, wk rfl ⟨rfl, rfl, rfl, rfl, rfl, rfl, rfl, trivial⟩ ⟨rfl, rfl, rfl, rfl, rfl, congrArg (fun z => some (Ob.row qc v3 1 z)) (hfin xx), trivial⟩⟩
                  · refine And.intro (rfl : (_ : Nat) = _) ?_
                    refine And.intro ?_ ?_
                    · refine And.intro (rfl : (_ : Nat) = _) ?_
                      refine ⟨fun t ht => (by simp at ht; subst ht; rfl), fun qf => ?_⟩
                      refine And.intro (rfl : (_ : Nat) = _) (And.intro (rfl : (_ : Nat) = _) ⟨P.length - 1, 0, t_Proc c, c.map t_Instr, hjk, Nat.zero_lt_one, hatc, rfl, fun vv xx => ?_⟩)
                      refine And.intro (rfl : (_ : Nat) = _) ?_
                      refine ⟨hbl, fun qg => ?_⟩
                      refine And.intro (rfl : (_ : Nat) = _) (And.intro j1.1 (And.intro (hln xx) ?_))
                      refine And.intro (rfl : (_ : Nat) = _) ?_
                      refine And.intro (rfl : (_ : Nat) = _) (And.intro (rfl : (_ : Nat) = _) ⟨(t_Proc c).setCells 0 [.v xx], hset xx, Nat.le_refl _, fun v3 => ?_⟩)
                      exact ⟨_, ⟨_, rfl⟩, wk rfl ⟨rfl, rfl, rfl, rfl, rfl, rfl, rfl, trivial⟩ ⟨rfl, rfl, rfl, rfl, rfl, congrArg (fun z => some (Ob.row qc v3 1 z)) (hfin xx), trivial⟩⟩
                    · refine ⟨fun t ht => (by simp at ht; subst ht; rfl), fun qf => ?_⟩
                      refine And.intro ?_ ?_
                      · refine And.intro (rfl : (_ : Nat) = _) ?_
                        refine And.intro (rfl : (_ : Nat) = _) (And.intro (rfl : (_ : Nat) = _) ⟨P.length - 1, 0, t_Proc c, c.map t_Instr, hjk, Nat.zero_lt_one, hatc, rfl, fun vv xx => ?_⟩)
                        refine And.intro (rfl : (_ : Nat) = _) ?_
                        refine ⟨hbl, fun qg => ?_⟩
                        refine And.intro (rfl : (_ : Nat) = _) (And.intro j1.1 (And.intro (hln xx) ?_))
                        refine And.intro (rfl : (_ : Nat) = _) ?_
                        refine And.intro (rfl : (_ : Nat) = _) (And.intro (rfl : (_ : Nat) = _) ⟨(t_Proc c).setCells 0 [.v xx], hset xx, Nat.le_refl _, fun v3 => ?_⟩)
                        exact ⟨_, ⟨_, rfl⟩, wk rfl ⟨rfl, rfl, rfl, rfl, rfl, rfl, rfl, trivial⟩ ⟨rfl, rfl, rfl, rfl, rfl, congrArg (fun z => some (Ob.row qc v3 1 z)) (hfin xx), trivial⟩⟩
                      · refine And.intro (rfl : (_ : Nat) = _) (And.intro (rfl : (_ : Nat) = _) ⟨P.length - 1, 0, t_Proc c, c.map t_Instr, hjk, Nat.zero_lt_one, hatc, rfl, fun vv xx => ?_⟩)
                        refine And.intro (rfl : (_ : Nat) = _) ?_
                        refine ⟨hbl, fun qg => ?_⟩
                        refine And.intro (rfl : (_ : Nat) = _) ?_
                        refine And.intro (rfl : (_ : Nat) = _) (And.intro j1.1 (And.intro (hln xx) ?_))
                        refine And.intro (rfl : (_ : Nat) = _) ?_
                        refine And.intro (rfl : (_ : Nat) = _) (And.intro (rfl : (_ : Nat) = _) ⟨(t_Proc c).setCells 0 [.v xx], hset xx, Nat.le_refl _, fun v3 => ?_⟩)
                        exact ⟨_, ⟨_, rfl⟩, wk rfl ⟨rfl, rfl, rfl, rfl, rfl, rfl, rfl, trivial⟩ ⟨rfl, rfl, rfl, rfl, rfl, congrArg (fun z => some (Ob.row qc v3 1 z)) (hfin xx), trivial⟩⟩
                · refine And.intro (rfl : (_ : Nat) = _) ?_
                  refine And.intro ?_ ?_
                  · refine And.intro (rfl : (_ : Nat) = _) ?_
                    refine And.intro ?_ ?_
                    · refine And.intro (rfl : (_ : Nat) = _) ⟨t_Proc c, hatk, ?_⟩
                      refine ⟨fun t ht => (by simp at ht; subst ht; rfl), fun qf => ?_⟩
                      refine And.intro (rfl : (_ : Nat) = _) (And.intro (rfl : (_ : Nat) = _) ⟨P.length - 1, 0, t_Proc c, c.map t_Instr, hjk, Nat.zero_lt_one, hatc, rfl, fun vv xx => ?_⟩)
                      refine And.intro (rfl : (_ : Nat) = _) ?_
                      refine ⟨hbl, fun qg => ?_⟩
                      refine And.intro (rfl : (_ : Nat) = _) (And.intro j1.1 (And.intro (hln xx) ?_))
                      refine And.intro (rfl : (_ : Nat) = _) ?_
                      refine And.intro (rfl : (_ : Nat) = _) (And.intro (rfl : (_ : Nat) = _) ⟨(t_Proc c).setCells 0 [.v xx], hset xx, Nat.le_refl _, fun v3 => ?_⟩)
                      exact ⟨_, ⟨_, rfl⟩, wk rfl ⟨rfl, rfl, rfl, rfl, rfl, rfl, rfl, trivial⟩ ⟨rfl, rfl, rfl, rfl, rfl, congrArg (fun z => some (Ob.row qc v3 1 z)) (hfin xx), trivial⟩⟩
                    · refine ⟨fun t ht => (by simp at ht; subst ht; rfl), fun qf => ?_⟩
                      refine And.intro (rfl : (_ : Nat) = _) ⟨t_Proc c, hatk, ?_⟩
                      refine And.intro (rfl : (_ : Nat) = _) (And.intro (rfl : (_ : Nat) = _) ⟨P.length - 1, 0, t_Proc c, c.map t_Instr, hjk, Nat.zero_lt_one, hatc, rfl, fun vv xx => ?_⟩)
                      refine And.intro (rfl : (_ : Nat) = _) ?_
                      refine ⟨hbl, fun qg => ?_⟩
                      refine And.intro (rfl : (_ : Nat) = _) (And.intro j1.1 (And.intro (hln xx) ?_))
                      refine And.intro (rfl : (_ : Nat) = _) ?_
                      refine And.intro (rfl : (_ : Nat) = _) (And.intro (rfl : (_ : Nat) = _) ⟨(t_Proc c).setCells 0 [.v xx], hset xx, Nat.le_refl _, fun v3 => ?_⟩)
                      exact ⟨_, ⟨_, rfl⟩, wk rfl ⟨rfl, rfl, rfl, rfl, rfl, rfl, rfl, trivial⟩ ⟨rfl, rfl, rfl, rfl, rfl, congrArg (fun z => some (Ob.row qc v3 1 z)) (hfin xx), trivial⟩⟩
                  · refine And.intro ?_ ?_
                    · refine And.intro (rfl : (_ : Nat) = _) ⟨t_Proc c, hatk, ?_⟩
                      refine And.intro ?_ ?_
                      · refine And.intro (rfl : (_ : Nat) = _) ?_
                        refine ⟨fun t ht => (by simp at ht; subst ht; rfl), fun qf => ?_⟩
                        refine And.intro (rfl : (_ : Nat) = _) (And.intro (rfl : (_ : Nat) = _) ⟨P.length - 1, 0, t_Proc c, c.map t_Instr, hjk, Nat.zero_lt_one, hatc, rfl, fun vv xx => ?_⟩)
                        refine And.intro (rfl : (_ : Nat) = _) ?_
                        refine ⟨hbl, fun qg => ?_⟩
                        refine And.intro (rfl : (_ : Nat) = _) (And.intro j1.1 (And.intro (hln xx) ?_))
                        refine And.intro (rfl : (_ : Nat) = _) ?_
                        refine And.intro (rfl : (_ : Nat) = _) (And.intro (rfl : (_ : Nat) = _) ⟨(t_Proc c).setCells 0 [.v xx], hset xx, Nat.le_refl _, fun v3 => ?_⟩)
                        exact ⟨_, ⟨_, rfl⟩, wk rfl ⟨rfl, rfl, rfl, rfl, rfl, rfl, rfl, trivial⟩ ⟨rfl, rfl, rfl, rfl, rfl, congrArg (fun z => some (Ob.row qc v3 1 z)) (hfin xx), trivial⟩⟩
                      · refine ⟨fun t ht => (by simp at ht; subst ht; rfl), fun qf => ?_⟩
                        refine And.intro ?_ ?_
                        · refine And.intro (rfl : (_ : Nat) = _) ?_
                          refine And.intro (rfl : (_ : Nat) = _) (And.intro (rfl : (_ : Nat) = _) ⟨P.length - 1, 0, t_Proc c, c.map t_Instr, hjk, Nat.zero_lt_one, hatc, rfl, fun vv xx => ?_⟩)
                          refine And.intro (rfl : (_ : Nat) = _) ?_
                          refine ⟨hbl, fun qg => ?_⟩
                          refine And.intro (rfl : (_ : Nat) = _) (And.intro j1.1 (And.intro (hln xx) ?_))
                          refine And.intro (rfl : (_ : Nat) = _) ?_
                          refine And.intro (rfl : (_ : Nat) = _) (And.intro (rfl : (_ : Nat) = _) ⟨(t_Proc c).setCells 0 [.v xx], hset xx, Nat.le_refl _, fun v3 => ?_⟩)
                          exact ⟨_, ⟨_, rfl⟩, wk rfl ⟨rfl, rfl, rfl, rfl, rfl, rfl, rfl, trivial⟩ ⟨rfl, rfl, rfl, rfl, rfl, congrArg (fun z => some (Ob.row qc v3 1 z)) (hfin xx), trivial⟩⟩
                        · refine And.intro (rfl : (_ : Nat) = _) (And.intro (rfl : (_ : Nat) = _) ⟨P.length - 1, 0, t_Proc c, c.map t_Instr, hjk, Nat.zero_lt_one, hatc, rfl, fun vv xx => ?_⟩)
                          refine And.intro (rfl : (_ : Nat) = _) ?_
                          refine ⟨hbl, fun qg => ?_⟩
                          refine And.intro (rfl : (_ : Nat) = _) ?_
                          refine And.intro (rfl : (_ : Nat) = _) (And.intro j1.1 (And.intro (hln xx) ?_))
                          refine And.intro (rfl : (_ : Nat) = _) ?_
                          refine And.intro (rfl : (_ : Nat) = _) (And.intro (rfl : (_ : Nat) = _) ⟨(t_Proc c).setCells 0 [.v xx], hset xx, Nat.le_refl _, fun v3 => ?_⟩)
                          exact ⟨_, ⟨_, rfl⟩, wk rfl ⟨rfl, rfl, rfl, rfl, rfl, rfl, rfl, trivial⟩ ⟨rfl, rfl, rfl, rfl, rfl, congrArg (fun z => some (Ob.row qc v3 1 z)) (hfin xx), trivial⟩⟩
                    · refine ⟨fun t ht => (by simp at ht; subst ht; rfl), fun qf => ?_⟩
                      refine And.intro ?_ ?_
                      · refine And.intro (rfl : (_ : Nat) = _) ?_
                        refine And.intro (rfl : (_ : Nat) = _) ⟨t_Proc c, hatk, ?_⟩
                        refine And.intro (rfl : (_ : Nat) = _) (And.intro (rfl : (_ : Nat) = _) ⟨P.length - 1, 0, t_Proc c, c.map t_Instr, hjk, Nat.zero_lt_one, hatc, rfl, fun vv xx => ?_⟩)
                        refine And.intro (rfl : (_ : Nat) = _) ?_
                        refine ⟨hbl, fun qg => ?_⟩
                        refine And.intro (rfl : (_ : Nat) = _) (And.intro j1.1 (And.intro (hln xx) ?_))
                        refine And.intro (rfl : (_ : Nat) = _) ?_
                        refine And.intro (rfl : (_ : Nat) = _) (And.intro (rfl : (_ : Nat) = _) ⟨(t_Proc c).setCells 0 [.v xx], hset xx, Nat.le_refl _, fun v3 => ?_⟩)
                        exact ⟨_, ⟨_, rfl⟩, wk rfl ⟨rfl, rfl, rfl, rfl, rfl, rfl, rfl, trivial⟩ ⟨rfl, rfl, rfl, rfl, rfl, congrArg (fun z => some (Ob.row qc v3 1 z)) (hfin xx), trivial⟩⟩
                      · refine And.intro (rfl : (_ : Nat) = _) ⟨t_Proc c, hatk, ?_⟩
                        refine And.intro ?_ ?_
                        · refine And.intro (rfl : (_ : Nat) = _) ?_
                          refine And.intro (rfl : (_ : Nat) = _) (And.intro (rfl : (_ : Nat) = _) ⟨P.length - 1, 0, t_Proc c, c.map t_Instr, hjk, Nat.zero_lt_one, hatc, rfl, fun vv xx => ?_⟩)
                          refine And.intro (rfl : (_ : Nat) = _) ?_
                          refine ⟨hbl, fun qg => ?_⟩
                          refine And.intro (rfl : (_ : Nat) = _) (And.intro j1.1 (And.intro (hln xx) ?_))
                          refine And.intro (rfl : (_ : Nat) = _) ?_
                          refine And.intro (rfl : (_ : Nat) = _) (And.intro (rfl : (_ : Nat) = _) ⟨(t_Proc c).setCells 0 [.v xx], hset xx, Nat.le_refl _, fun v3 => ?_⟩)
                          exact ⟨_, ⟨_, rfl⟩, wk rfl ⟨rfl, rfl, rfl, rfl, rfl, rfl, rfl, trivial⟩ ⟨rfl, rfl, rfl, rfl, rfl, congrArg (fun z => some (Ob.row qc v3 1 z)) (hfin xx), trivial⟩⟩
                        · refine And.intro (rfl : (_ : Nat) = _) (And.intro (rfl : (_ : Nat) = _) ⟨P.length - 1, 0, t_Proc c, c.map t_Instr, hjk, Nat.zero_lt_one, hatc, rfl, fun vv xx => ?_⟩)
                          refine And.intro (rfl : (_ : Nat) = _) ?_
                          refine ⟨hbl, fun qg => ?_⟩
                          refine And.intro (rfl : (_ : Nat) = _) ?_
                          refine And.intro (rfl : (_ : Nat) = _) (And.intro j1.1 (And.intro (hln xx) ?_))
                          refine And.intro (rfl : (_ : Nat) = _) ?_
                          refine And.intro (rfl : (_ : Nat) = _) (And.intro (rfl : (_ : Nat) = _) ⟨(t_Proc c).setCells 0 [.v xx], hset xx, Nat.le_refl _, fun v3 => ?_⟩)
                          exact ⟨_, ⟨_, rfl⟩, wk rfl ⟨rfl, rfl, rfl, rfl, rfl, rfl, rfl, trivial⟩ ⟨rfl, rfl, rfl, rfl, rfl, congrArg (fun z => some (Ob.row qc v3 1 z)) (hfin xx), trivial⟩⟩
            · refine And.intro (rfl : (_ : Nat) = _) ?_
              refine And.intro ?_ ?_
              · refine And.intro (rfl : (_ : Nat) = _) ?_
                refine And.intro ?_ ?_
                · refine And.intro (rfl : (_ : Nat) = _) ?_
                  refine And.intro (rfl : (_ : Nat) = _) (And.intro j1.1 (And.intro j1.2 ?_))
                  refine And.intro (rfl : (_ : Nat) = _) ?_
                  refine And.intro ?_ ?_
                  · refine And.intro (rfl : (_ : Nat) = _) ⟨t_Proc c, hatk, ?_⟩
                    refine ⟨fun t ht => (by simp at ht; subst ht; rfl), fun qf => ?_⟩
                    refine And.intro (rfl : (_ : Nat) = _) (And.intro (rfl : (_ : Nat) = _) ⟨P.length - 1, 0, t_Proc c, c.map t_Instr, hjk, Nat.zero_lt_one, hatc, rfl, fun vv xx => ?_⟩)
                    refine And.intro (rfl : (_ : Nat) = _) ?_
                    refine ⟨hbl, fun qg => ?_⟩
                    refine And.intro (rfl : (_ : Nat) = _) (And.intro j1.1 (And.intro (hln xx) ?_))
                    refine And.intro (rfl : (_ : Nat) = _) ?_
                    refine And.intro (rfl : (_ : Nat) = _) (And.intro (rfl : (_ : Nat) = _) ⟨(t_Proc c).setCells 0 [.v xx], hset xx, Nat.le_refl _, fun v3 => ?_⟩)
                    exact ⟨_, ⟨_, rfl⟩, wk rfl ⟨rfl, rfl, rfl, rfl, rfl, rfl, rfl, trivial⟩ ⟨rfl, rfl, rfl, rfl, rfl, congrArg (fun z => some (Ob.row qc v3 1 z)) (hfin xx), trivial⟩⟩
                  · refine ⟨fun t ht => (by simp at ht; subst ht; rfl), fun qf => ?_⟩
                    refine And.intro (rfl : (_ : Nat) = _) ⟨t_Proc c, hatk, ?_⟩
                    refine And.intro (rfl : (_ : Nat) = _) (And.intro (rfl : (_ : Nat) = _) ⟨P.length - 1, 0, t_Proc c, c.map t_Instr, hjk, Nat.zero_lt_one, hatc, rfl, fun vv xx => ?_⟩)
                    refine And.intro (rfl : (_ : Nat) = _) ?_
                    refine ⟨hbl, fun qg => ?_⟩
                    refine And.intro (rfl : (_ : Nat) = _) (And.intro j1.1 (And.intro (hln xx) ?_))
                    refine And.intro (rfl : (_ : Nat) = _) ?_
                    refine And.intro (rfl : (_ : Nat) = _) (And.intro (rfl : (_ : Nat) = _) ⟨(t_Proc c).setCells 0 [.v xx], hset xx, Nat.le_refl _, fun v3 => ?_⟩)
                    exact ⟨_, ⟨_, rfl⟩, wk rfl ⟨rfl, rfl, rfl, rfl, rfl, rfl, rfl, trivial⟩ ⟨rfl, rfl, rfl, rfl, rfl, congrArg (fun z => some (Ob.row qc v3 1 z)) (hfin xx), trivial⟩⟩
                · refine ⟨fun t ht => (by simp at ht; subst ht; rfl), fun qf => ?_⟩
                  refine And.intro (rfl : (_ : Nat) = _) ?_
                  refine And.intro (rfl : (_ : Nat) = _) (And.intro j1.1 (And.intro j1.2 ?_))
                  refine And.intro (rfl : (_ : Nat) = _) ?_
                  refine And.intro (rfl : (_ : Nat) = _) ⟨t_Proc c, hatk, ?_⟩
                  refine And.intro (rfl : (_ : Nat) = _) (And.intro (rfl : (_ : Nat) = _) ⟨P.length - 1, 0, t_Proc c, c.map t_Instr, hjk, Nat.zero_lt_one, hatc, rfl, fun vv xx => ?_⟩)
                  refine And.intro (rfl : (_ : Nat) = _) ?_
                  refine ⟨hbl, fun qg => ?_⟩
                  refine And.intro (rfl : (_ : Nat) = _) (And.intro j1.1 (And.intro (hln xx) ?_))
                  refine And.intro (rfl : (_ : Nat) = _) ?_
                  refine And.intro (rfl : (_ : Nat) = _) (And.intro (rfl : (_ : Nat) = _) ⟨(t_Proc c).setCells 0 [.v xx], hset xx, Nat.le_refl _, fun v3 => ?_⟩)
                  exact ⟨_, ⟨_, rfl⟩, wk rfl ⟨rfl, rfl, rfl, rfl, rfl, rfl, rfl, trivial⟩ ⟨rfl, rfl, rfl, rfl, rfl, congrArg (fun z => some (Ob.row qc v3 1 z)) (hfin xx), trivial⟩⟩
              · refine And.intro ?_ ?_
                · refine And.intro (rfl : (_ : Nat) = _) ?_
                  refine And.intro (rfl : (_ : Nat) = _) (And.intro j1.1 (And.intro j1.2 ?_))
                  refine And.intro (rfl : (_ : Nat) = _) ?_
                  refine And.intro ?_ ?_
                  · refine And.intro (rfl : (_ : Nat) = _) ?_
                    refine And.intro ?_ ?_
                    · refine And.intro (rfl : (_ : Nat) = _) ⟨t_Proc c, hatk, ?_⟩
                      refine ⟨fun t ht => (by simp at ht; subst ht; rfl), fun qf => ?_⟩
                      refine And.intro (rfl : (_ : Nat) = _) (And.intro (rfl : (_ : Nat) = _) ⟨P.length - 1, 0, t_Proc c, c.map t_Instr, hjk, Nat.zero_lt_one, hatc, rfl, fun vv xx => ?_⟩)
                      refine And.intro (rfl : (_ : Nat) = _) ?_
                      refine ⟨hbl, fun qg => ?_⟩
                      refine And.intro (rfl : (_ : Nat) = _) (And.intro j1.1 (And.intro (hln xx) ?_))
                      refine And.intro (rfl : (_ : Nat) = _) ?_
                      refine And.intro (rfl : (_ : Nat) = _) (And.intro (rfl : (_ : Nat) = _) ⟨(t_Proc c).setCells 0 [.v xx], hset xx, Nat.le_refl _, fun v3 => ?_⟩)
                      exact ⟨_, ⟨_, rfl⟩, wk rfl ⟨rfl, rfl, rfl, rfl, rfl, rfl, rfl, trivial⟩ ⟨rfl, rfl, rfl, rfl, rfl, congrArg (fun z => some (Ob.row qc v3 1 z)) (hfin xx), trivial⟩⟩
                    · refine ⟨fun t ht => (by simp at ht; subst ht; rfl), fun qf => ?_⟩
                      refine And.intro (rfl : (_ : Nat) = _) ⟨t_Proc c, hatk, ?_⟩
                      refine And.intro (rfl : (_ : Nat) = _) (And.intro (rfl : (_ : Nat) = _) ⟨P.length - 1, 0, t_Proc c, c.map t_Instr, hjk, Nat.zero_lt_one, hatc, rfl, fun vv xx => ?_⟩)
                      refine And.intro (rfl : (_ : Nat) = _) ?_
                      refine ⟨hbl, fun qg => ?_⟩
                      refine And.intro (rfl : (_ : Nat) = _) (And.intro j1.1 (And.intro (hln xx) ?_))
                      refine And.intro (rfl : (_ : Nat) = _) ?_
                      refine And.intro (rfl : (_ : Nat) = _) (And.intro (rfl : (_ : Nat) = _) ⟨(t_Proc c).setCells 0 [.v xx], hset xx, Nat.le_refl _, fun v3 => ?_⟩)
                      exact ⟨_, ⟨_, rfl⟩, wk rfl ⟨rfl, rfl, rfl, rfl, rfl, rfl, rfl, trivial⟩ ⟨rfl, rfl, rfl, rfl, rfl, congrArg (fun z => some (Ob.row qc v3 1 z)) (hfin xx), trivial⟩⟩
                  · refine And.intro ?_ ?_
                    · refine And.intro (rfl : (_ : Nat) = _) ⟨t_Proc c, hatk, ?_⟩
                      refine And.intro ?_ ?_
                      · refine And.intro (rfl : (_ : Nat) = _) ?_
                        refine ⟨fun t ht => (by simp at ht; subst ht; rfl), fun qf => ?_⟩
                        refine And.intro (rfl : (_ : Nat) = _) (And.intro (rfl : (_ : Nat) = _) ⟨P.length - 1, 0, t_Proc c, c.map t_Instr, hjk, Nat.zero_lt_one, hatc, rfl, fun vv xx => ?_⟩)
                        refine And.intro (rfl : (_ : Nat) = _) ?_
                        refine ⟨hbl, fun qg => ?_⟩
                        refine And.intro (rfl : (_ : Nat) = _) (And.intro j1.1 (And.intro (hln xx) ?_))
                        refine And.intro (rfl : (_ : Nat) = _) ?_
                        refine And.intro (rfl : (_ : Nat) = _) (And.intro (rfl : (_ : Nat) = _) ⟨(t_Proc c).setCells 0 [.v xx], hset xx, Nat.le_refl _, fun v3 => ?_⟩)
                        exact ⟨_, ⟨_, rfl⟩, wk rfl ⟨rfl, rfl, rfl, rfl, rfl, rfl, rfl, trivial⟩ ⟨rfl, rfl, rfl, rfl, rfl, congrArg (fun z => some (Ob.row qc v3 1 z)) (hfin xx), trivial⟩⟩
                      · refine ⟨fun t ht => (by simp at ht; subst ht; rfl), fun qf => ?_⟩
                        refine And.intro ?_ ?_
                        · refine And.intro (rfl : (_ : Nat) = _) ?_
                          refine And.intro (rfl : (_ : Nat) = _) (And.intro (rfl : (_ : Nat) = _) ⟨P.length - 1, 0, t_Proc c, c.map t_Instr, hjk, Nat.zero_lt_one, hatc, rfl, fun vv xx => ?_⟩)
                          refine And.intro (rfl : (_ : Nat) = _) ?_
                          refine ⟨hbl, fun qg => ?_⟩
                          refine And.intro (rfl : (_ : Nat) = _) (And.intro j1.1 (And.intro (hln xx) ?_))
                          refine And.intro (rfl : (_ : Nat) = _) ?_
                          refine And.intro (rfl : (_ : Nat) = _) (And.intro (rfl : (_ : Nat) = _) ⟨(t_Proc c).setCells 0 [.v xx], hset xx, Nat.le_refl _, fun v3 => ?_⟩)
                          exact ⟨_, ⟨_, rfl⟩, wk rfl ⟨rfl, rfl, rfl, rfl, rfl, rfl, rfl, trivial⟩ ⟨rfl, rfl, rfl, rfl, rfl, congrArg (fun z => some (Ob.row qc v3 1 z)) (hfin xx), trivial⟩⟩
                        · refine And.intro (rfl : (_ : Nat) = _) (And.intro (rfl : (_ : Nat) = _) ⟨P.length - 1, 0, t_Proc c, c.map t_Instr, hjk, Nat.zero_lt_one, hatc, rfl, fun vv xx => ?_⟩)
                          refine And.intro (rfl : (_ : Nat) = _) ?_
                          refine ⟨hbl, fun qg => ?_⟩
                          refine And.intro (rfl : (_ : Nat) = _) ?_
                          refine And.intro (rfl : (_ : Nat) = _) (And.intro j1.1 (And.intro (hln xx) ?_))
                          refine And.intro (rfl : (_ : Nat) = _) ?_
                          refine And.intro (rfl : (_ : Nat) = _) (And.intro (rfl : (_ : Nat) = _) ⟨(t_Proc c).setCells 0 [.v xx], hset xx, Nat.le_refl _, fun v3 => ?_⟩)
                          exact ⟨_, ⟨_, rfl⟩, wk rfl ⟨rfl, rfl, rfl, rfl, rfl, rfl, rfl, trivial⟩ ⟨rfl, rfl, rfl, rfl, rfl, congrArg (fun z => some (Ob.row qc v3 1 z)) (hfin xx), trivial⟩⟩
                    · refine ⟨fun t ht => (by simp at ht; subst ht; rfl), fun qf => ?_⟩
                      refine And.intro ?_ ?_
                      · refine And.intro (rfl : (_ : Nat) = _) ?_
                        refine And.intro (rfl : (_ : Nat) = _) ⟨t_Proc c, hatk, ?_⟩
                        refine And.intro (rfl : (_ : Nat) = _) (And.intro (rfl : (_ : Nat) = _) ⟨P.length - 1, 0, t_Proc c, c.map t_Instr, hjk, Nat.zero_lt_one, hatc, rfl, fun vv xx => ?_⟩)
                        refine And.intro (rfl : (_ : Nat) = _) ?_
                        refine ⟨hbl, fun qg => ?_⟩
                        refine And.intro (rfl : (_ : Nat) = _) (And.intro j1.1 (And.intro (hln xx) ?_))
                        refine And.intro (rfl : (_ : Nat) = _) ?_
                        refine And.intro (rfl : (_ : Nat) = _) (And.intro (rfl : (_ : Nat) = _) ⟨(t_Proc c).setCells 0 [.v xx], hset xx, Nat.le_refl _, fun v3 => ?_⟩)
                        exact ⟨_, ⟨_, rfl⟩, wk rfl ⟨rfl, rfl, rfl, rfl, rfl, rfl, rfl, trivial⟩ ⟨rfl, rfl, rfl, rfl, rfl, congrArg (fun z => some (Ob.row qc v3 1 z)) (hfin xx), trivial⟩⟩
                      · refine And.intro (rfl : (_ : Nat) = _) ⟨t_Proc c, hatk, ?_⟩
                        refine And.intro ?_ ?_
                        · refine And.intro (rfl : (_ : Nat) = _) ?_
                          refine And.intro (rfl : (_ : Nat) = _) (And.intro (rfl : (_ : Nat) = _) ⟨P.length - 1, 0, t_Proc c, c.map t_Instr, hjk, Nat.zero_lt_one, hatc, rfl, fun vv xx => ?_⟩)
                          refine And.intro (rfl : (_ : Nat) = _) ?_
                          refine ⟨hbl, fun qg => ?_⟩
                          refine And.intro (rfl : (_ : Nat) = _) (And.intro j1.1 (And.intro (hln xx) ?_))
                          refine And.intro (rfl : (_ : Nat) = _) ?_
                          refine And.intro (rfl : (_ : Nat) = _) (And.intro (rfl : (_ : Nat) = _) ⟨(t_Proc c).setCells 0 [.v xx], hset xx, Nat.le_refl _, fun v3 => ?_⟩)
                          exact ⟨_, ⟨_, rfl⟩, wk rfl ⟨rfl, rfl, rfl, rfl, rfl, rfl, rfl, trivial⟩ ⟨rfl, rfl, rfl, rfl, rfl, congrArg (fun z => some (Ob.row qc v3 1 z)) (hfin xx), trivial⟩⟩
                        · refine And.intro (rfl : (_ : Nat) = _) (And.intro (rfl : (_ : Nat) = _) ⟨P.length - 1, 0, t_Proc c, c.map t_Instr, hjk, Nat.zero_lt_one, hatc, rfl, fun vv xx => ?_⟩)
                          refine And.intro (rfl : (_ : Nat) = _) ?_
                          refine ⟨hbl, fun qg => ?_⟩
                          refine And.intro (rfl : (_ : Nat) = _) ?_
                          refine And.intro (rfl : (_ : Nat) = _) (And.intro j1.1 (And.intro (hln xx) ?_))
                          refine And.intro (rfl : (_ : Nat) = _) ?_
                          refine And.intro (rfl : (_ : Nat) = _) (And.intro (rfl : (_ : Nat) = _) ⟨(t_Proc c).setCells 0 [.v xx], hset xx, Nat.le_refl _, fun v3 => ?_⟩)
                          exact ⟨_, ⟨_, rfl⟩, wk rfl ⟨rfl, rfl, rfl, rfl, rfl, rfl, rfl, trivial⟩ ⟨rfl, rfl, rfl, rfl, rfl, congrArg (fun z => some (Ob.row qc v3 1 z)) (hfin xx), trivial⟩⟩
                · refine ⟨fun t ht => (by simp at ht; subst ht; rfl), fun qf => ?_⟩
                  refine And.intro ?_ ?_
                  · refine And.intro (rfl : (_ : Nat) = _) ?_
                    refine And.intro (rfl : (_ : Nat) = _) ?_
                    refine And.intro (rfl : (_ : Nat) = _) (And.intro j1.1 (And.intro j1.2 ?_))
                    refine And.intro (rfl : (_ : Nat) = _) ?_
                    refine And.intro (rfl : (_ : Nat) = _) ⟨t_Proc c, hatk, ?_⟩
                    refine And.intro (rfl : (_ : Nat) = _) (And.intro (rfl : (_ : Nat) = _) ⟨P.length - 1, 0, t_Proc c, c.map t_Instr, hjk, Nat.zero_lt_one, hatc, rfl, fun vv xx => ?_⟩)
                    refine And.intro (rfl : (_ : Nat) = _) ?_
                    refine ⟨hbl, fun qg => ?_⟩
                    refine And.intro (rfl : (_ : Nat) = _) (And.intro j1.1 (And.intro (hln xx) ?_))
                    refine And.intro (rfl : (_ : Nat) = _) ?_
                    refine And.intro (rfl : (_ : Nat) = _) (And.intro (rfl : (_ : Nat) = _) ⟨(t_Proc c).setCells 0 [.v xx], hset xx, Nat.le_refl _, fun v3 => ?_⟩)
                    exact ⟨_, ⟨_, rfl⟩, wk rfl ⟨rfl, rfl, rfl, rfl, rfl, rfl, rfl, trivial⟩ ⟨rfl, rfl, rfl, rfl, rfl, congrArg (fun z => some (Ob.row qc v3 1 z)) (hfin xx), trivial⟩⟩
                  · refine And.intro (rfl : (_ : Nat) = _) ?_
                    refine And.intro (rfl : (_ : Nat) = _) (And.intro j1.1 (And.intro j1.2 ?_))
                    refine And.intro (rfl : (_ : Nat) = _) ?_
                    refine And.intro ?_ ?_
                    · refine And.intro (rfl : (_ : Nat) = _) ?_
                      refine And.intro (rfl : (_ : Nat) = _) ⟨t_Proc c, hatk, ?_⟩
                      refine And.intro (rfl : (_ : Nat) = _) (And.intro (rfl : (_ : Nat) = _) ⟨P.length - 1, 0, t_Proc c, c.map t_Instr, hjk, Nat.zero_lt_one, hatc, rfl, fun vv xx => ?_⟩)
                      refine And.intro (rfl : (_ : Nat) = _) ?_
                      refine ⟨hbl, fun qg => ?_⟩
                      refine And.intro (rfl : (_ : Nat) = _) (And.intro j1.1 (And.intro (hln xx) ?_))
                      refine And.intro (rfl : (_ : Nat) = _) ?_
                      refine And.intro (rfl : (_ : Nat) = _) (And.intro (rfl : (_ : Nat) = _) ⟨(t_Proc c).setCells 0 [.v xx], hset xx, Nat.le_refl _, fun v3 => ?_⟩)
                      exact ⟨_, ⟨_, rfl⟩, wk rfl ⟨rfl, rfl, rfl, rfl, rfl, rfl, rfl, trivial⟩ ⟨rfl, rfl, rfl, rfl, rfl, congrArg (fun z => some (Ob.row qc v3 1 z)) (hfin xx), trivial⟩⟩
                    · refine And.intro (rfl : (_ : Nat) = _) ⟨t_Proc c, hatk, ?_⟩
                      refine And.intro ?_ ?_
                      · refine And.intro (rfl : (_ : Nat) = _) ?_
                        refine And.intro (rfl : (_ : Nat) = _) (And.intro (rfl : (_ : Nat) = _) ⟨P.length - 1, 0, t_Proc c, c.map t_Instr, hjk, Nat.zero_lt_one, hatc, rfl, fun vv xx => ?_⟩)
                        refine And.intro (rfl : (_ : Nat) = _) ?_
                        refine ⟨hbl, fun qg => ?_⟩
                        refine And.intro (rfl : (_ : Nat) = _) (And.intro j1.1 (And.intro (hln xx) ?_))
                        refine And.intro (rfl : (_ : Nat) = _) ?_
                        refine And.intro (rfl : (_ : Nat) = _) (And.intro (rfl : (_ : Nat) = _) ⟨(t_Proc c).setCells 0 [.v xx], hset xx, Nat.le_refl _, fun v3 => ?_⟩)
                        exact ⟨_, ⟨_, rfl⟩, wk rfl ⟨rfl, rfl, rfl, rfl, rfl, rfl, rfl, trivial⟩ ⟨rfl, rfl, rfl, rfl, rfl, congrArg (fun z => some (Ob.row qc v3 1 z)) (hfin xx), trivial⟩⟩
                      · refine And.intro (rfl : (_ : Nat) = _) (And.intro (rfl : (_ : Nat) = _) ⟨P.length - 1, 0, t_Proc c, c.map t_Instr, hjk, Nat.zero_lt_one, hatc, rfl, fun vv xx => ?_⟩)
                        refine And.intro (rfl : (_ : Nat) = _) ?_
                        refine ⟨hbl, fun qg => ?_⟩
                        refine And.intro (rfl : (_ : Nat) = _) ?_
                        refine And.intro (rfl : (_ : Nat) = _) (And.intro j1.1 (And.intro (hln xx) ?_))
                        refine And.intro (rfl : (_ : Nat) = _) ?_
                        refine And.intro (rfl : (_ : Nat) = _) (And.intro (rfl : (_ : Nat) = _) ⟨(t_Proc c).setCells 0 [.v xx], hset xx, Nat.le_refl _, fun v3 => ?_⟩)
                        exact ⟨_, ⟨_, rfl⟩, wk rfl ⟨rfl, rfl, rfl, rfl, rfl, rfl, rfl, trivial⟩ ⟨rfl, rfl, rfl, rfl, rfl, congrArg (fun z => some (Ob.row qc v3 1 z)) (hfin xx), trivial⟩⟩
        rintro m ⟨v, rfl⟩
        repeat (first | refine brT ?_ | refine brF ?_ | refine And.intro rfl ?_ | refine And.intro trivial ?_ | intro _)
        exact nxt (i + 1, qa, qb, qc, v) hlt (by show L.length - (i + 1) < L.length - i; omega) (wk rfl ⟨rfl, rfl, rfl, congrArg AV.bool (by rw [hst]), rfl, rfl, up1 hlt (by omega), trivial⟩ ⟨rfl, congrArg (fun z : Int => some (Ob.box q4 [.own 51000 qa, .v (.int .i64 z), .own 88000 qb, .own 97000 qc])) hmus.symm, rfl, congrArg (fun z : List Int => some (Ob.row qa 0 1 (z.map T.int))) hcap.symm, congrArg (fun z => some (Ob.row qb 0 2 z)) (by rw [hst]), congrArg (fun z => some (Ob.row qc v 1 z)) (by rw [hst]), trivial⟩)
      | false =>
        rw [hbd] at hst
        repeat (first | refine brT ?_ | refine brF ?_ | refine And.intro rfl ?_ | refine And.intro trivial ?_ | intro _)
        refine drM0 (Pl.go 0 (Pl.go 2 (Pl.go 3 (Pl.go 5 ((Pl.go 1 ((Pl.go 4 (Pl.go 6 (Pl.go 7 ((Pl.go 8 (Pl.go 9 (Pl.go 10 (Pl.go 11 (Pl.go 12 (Pl.go 13 (Pl.go 14 Pl.stop))))))).or (Pl.go 9 ((Pl.go 8 (Pl.go 10 (Pl.go 11 (Pl.go 12 (Pl.go 13 (Pl.go 14 Pl.stop)))))).or (Pl.go 10 (Pl.go 8 (Pl.go 11 (Pl.go 12 (Pl.go 13 (Pl.go 14 Pl.stop)))))))))))).or (Pl.go 9 ((Pl.go 4 (Pl.go 6 (Pl.go 7 ((Pl.go 8 (Pl.go 10 (Pl.go 11 (Pl.go 12 (Pl.go 13 (Pl.go 14 Pl.stop)))))).or (Pl.go 10 (Pl.go 8 (Pl.go 11 (Pl.go 12 (Pl.go 13 (Pl.go 14 Pl.stop)))))))))).or (Pl.go 10 (Pl.go 4 (Pl.go 6 (Pl.go 7 (Pl.go 8 (Pl.go 11 (Pl.go 12 (Pl.go 13 (Pl.go 14 Pl.stop))))))))))))).or ((Pl.go 4 (Pl.go 6 (Pl.go 7 ((Pl.go 1 ((Pl.go 8 (Pl.go 9 (Pl.go 10 (Pl.go 11 (Pl.go 12 (Pl.go 13 (Pl.go 14 Pl.stop))))))).or (Pl.go 9 ((Pl.go 8 (Pl.go 10 (Pl.go 11 (Pl.go 12 (Pl.go 13 (Pl.go 14 Pl.stop)))))).or (Pl.go 10 (Pl.go 8 (Pl.go 11 (Pl.go 12 (Pl.go 13 (Pl.go 14 Pl.stop)))))))))).or ((Pl.go 8 ((Pl.go 1 (Pl.go 9 (Pl.go 10 (Pl.go 11 (Pl.go 12 (Pl.go 13 (Pl.go 14 Pl.stop))))))).or (Pl.go 9 ((Pl.go 1 (Pl.go 10 (Pl.go 11 (Pl.go 12 (Pl.go 13 (Pl.go 14 Pl.stop)))))).or (Pl.go 10 ((Pl.go 1 (Pl.go 11 (Pl.go 12 (Pl.go 13 (Pl.go 14 Pl.stop))))).or (Pl.go 11 (Pl.go 1 (Pl.go 12 (Pl.go 13 (Pl.go 14 Pl.stop))))))))))).or (Pl.go 9 ((Pl.go 1 ((Pl.go 8 (Pl.go 10 (Pl.go 11 (Pl.go 12 (Pl.go 13 (Pl.go 14 Pl.stop)))))).or (Pl.go 10 (Pl.go 8 (Pl.go 11 (Pl.go 12 (Pl.go 13 (Pl.go 14 Pl.stop)))))))).or ((Pl.go 8 ((Pl.go 1 (Pl.go 10 (Pl.go 11 (Pl.go 12 (Pl.go 13 (Pl.go 14 Pl.stop)))))).or (Pl.go 10 ((Pl.go 1 (Pl.go 11 (Pl.go 12 (Pl.go 13 (Pl.go 14 Pl.stop))))).or (Pl.go 11 (Pl.go 1 (Pl.go 12 (Pl.go 13 (Pl.go 14 Pl.stop))))))))).or (Pl.go 10 ((Pl.go 1 (Pl.go 8 (Pl.go 11 (Pl.go 12 (Pl.go 13 (Pl.go 14 Pl.stop)))))).or (Pl.go 8 ((Pl.go 1 (Pl.go 11 (Pl.go 12 (Pl.go 13 (Pl.go 14 Pl.stop))))).or (Pl.go 11 (Pl.go 1 (Pl.go 12 (Pl.go 13 (Pl.go 14 Pl.stop))))))))))))))))).or (Pl.go 9 ((Pl.go 1 ((Pl.go 4 (Pl.go 6 (Pl.go 7 ((Pl.go 8 (Pl.go 10 (Pl.go 11 (Pl.go 12 (Pl.go 13 (Pl.go 14 Pl.stop)))))).or (Pl.go 10 (Pl.go 8 (Pl.go 11 (Pl.go 12 (Pl.go 13 (Pl.go 14 Pl.stop)))))))))).or (Pl.go 10 (Pl.go 4 (Pl.go 6 (Pl.go 7 (Pl.go 8 (Pl.go 11 (Pl.go 12 (Pl.go 13 (Pl.go 14 Pl.stop))))))))))).or ((Pl.go 4 (Pl.go 6 (Pl.go 7 ((Pl.go 1 ((Pl.go 8 (Pl.go 10 (Pl.go 11 (Pl.go 12 (Pl.go 13 (Pl.go 14 Pl.stop)))))).or (Pl.go 10 (Pl.go 8 (Pl.go 11 (Pl.go 12 (Pl.go 13 (Pl.go 14 Pl.stop)))))))).or ((Pl.go 8 ((Pl.go 1 (Pl.go 10 (Pl.go 11 (Pl.go 12 (Pl.go 13 (Pl.go 14 Pl.stop)))))).or (Pl.go 10 ((Pl.go 1 (Pl.go 11 (Pl.go 12 (Pl.go 13 (Pl.go 14 Pl.stop))))).or (Pl.go 11 (Pl.go 1 (Pl.go 12 (Pl.go 13 (Pl.go 14 Pl.stop))))))))).or (Pl.go 10 ((Pl.go 1 (Pl.go 8 (Pl.go 11 (Pl.go 12 (Pl.go 13 (Pl.go 14 Pl.stop)))))).or (Pl.go 8 ((Pl.go 1 (Pl.go 11 (Pl.go 12 (Pl.go 13 (Pl.go 14 Pl.stop))))).or (Pl.go 11 (Pl.go 1 (Pl.go 12 (Pl.go 13 (Pl.go 14 Pl.stop)))))))))))))).or (Pl.go 10 ((Pl.go 1 (Pl.go 4 (Pl.go 6 (Pl.go 7 (Pl.go 8 (Pl.go 11 (Pl.go 12 (Pl.go 13 (Pl.go 14 Pl.stop))))))))).or (Pl.go 4 (Pl.go 6 (Pl.go 7 ((Pl.go 1 (Pl.go 8 (Pl.go 11 (Pl.go 12 (Pl.go 13 (Pl.go 14 Pl.stop)))))).or (Pl.go 8 ((Pl.go 1 (Pl.go 11 (Pl.go 12 (Pl.go 13 (Pl.go 14 Pl.stop))))).or (Pl.go 11 (Pl.go 1 (Pl.go 12 (Pl.go 13 (Pl.go 14 Pl.stop)))))))))))))))))))))) (fun m => ∃ v : Nat, m = ⟨145, [(0, .vv (.string s)), (2, .c (.bx 3000 q2 0)), (4, .c (.bx 5000 q4 0)), (5, .bool (false || !(textInstr w).2)), (26, .c (.own 26000 qL)), (27, .int (L.length : Int)), (28, .int i)],
          [(3000, .box q2 [.v (.slice none 0 0), .v (.int .i64 0), .v (.slice none 0 0), .v (.slice none 0 0)]), (5000, .box q4 [.own 51000 qa, .v (.int .i64 (musAt L i)), .own 88000 qb, .own 97000 qc]), (26000, .row qL 0 1 (L.map T.str)),
           (51000, .row qa 0 1 ((capsAt L i).map T.int)), (88000, .row qb 0 2 (S.map t_Select)), (97000, .row qc v 1 ((addI P (textInstr w).1).map t_Proc))]⟩) (by kernel_rfl) ?_ ?_
        · refine And.intro (rfl : (_ : Nat) = _) ?_
          refine And.intro (rfl : (_ : Nat) = _) ?_
          refine And.intro ?_ ?_
          · refine And.intro (rfl : (_ : Nat) = _) ?_
            refine And.intro ?_ ?_
            · refine And.intro (rfl : (_ : Nat) = _) ?_
              refine And.intro (rfl : (_ : Nat) = _) (And.intro j1.1 (And.intro j1.2 ?_))
              refine And.intro (rfl : (_ : Nat) = _) ?_
              refine And.intro ?_ ?_
              · refine And.intro (rfl : (_ : Nat) = _) ⟨t_Proc c, hatk, ?_⟩
                refine And.intro (rfl : (_ : Nat) = _) ?_
                refine ⟨fun t ht => (by simp at ht; subst ht; rfl), fun qf => ?_⟩
                refine And.intro (rfl : (_ : Nat) = _) (And.intro (rfl : (_ : Nat) = _) ⟨P.length - 1, 0, t_Proc c, c.map t_Instr, hjk, Nat.zero_lt_one, hatc, rfl, fun vv xx => ?_⟩)
                refine And.intro (rfl : (_ : Nat) = _) ?_
                refine ⟨hbl, fun qg => ?_⟩
                refine And.intro (rfl : (_ : Nat) = _) (And.intro j1.1 (And.intro (hln xx) ?_))
                refine And.intro (rfl : (_ : Nat) = _) ?_
                refine And.intro (rfl : (_ : Nat) = _) (And.intro (rfl : (_ : Nat) = _) ⟨(t_Proc c).setCells 0 [.v xx], hset xx, Nat.le_refl _, fun v3 => ?_⟩)
                exact ⟨_, ⟨_, rfl⟩, wk rfl ⟨rfl, rfl, rfl, rfl, rfl, rfl, rfl, trivial⟩ ⟨rfl, rfl, rfl, rfl, rfl, congrArg (fun z => some (Ob.row qc v3 1 z)) (hfin xx), trivial⟩⟩
              · refine And.intro (rfl : (_ : Nat) = _) ?_
                refine And.intro ?_ ?_
                · refine And.intro (rfl : (_ : Nat) = _) ⟨t_Proc c, hatk, ?_⟩
                  refine ⟨fun t ht => (by simp at ht; subst ht; rfl), fun qf => ?_⟩
                  refine And.intro (rfl : (_ : Nat) = _) (And.intro (rfl : (_ : Nat) = _) ⟨P.length - 1, 0, t_Proc c, c.map t_Instr, hjk, Nat.zero_lt_one, hatc, rfl, fun vv xx => ?_⟩)
                  refine And.intro (rfl : (_ : Nat) = _) ?_
                  refine ⟨hbl, fun qg => ?_⟩
                  refine And.intro (rfl : (_ : Nat) = _) (And.intro j1.1 (And.intro (hln xx) ?_))
                  refine And.intro (rfl : (_ : Nat) = _) ?_
                  refine And.intro (rfl : (_ : Nat) = _) (And.intro (rfl : (_ : Nat) = _) ⟨(t_Proc c).setCells 0 [.v xx], hset xx, Nat.le_refl _, fun v3 => ?_⟩)
                  exact ⟨_, ⟨_, rfl⟩, wk rfl ⟨rfl, rfl, rfl, rfl, rfl, rfl, rfl, trivial⟩ ⟨rfl, rfl, rfl, rfl, rfl, congrArg (fun z => some (Ob.row qc v3 1 z)) (hfin xx), trivial⟩⟩
                · refine ⟨fun t ht => (by simp at ht; subst ht; rfl), fun qf => ?_⟩
                  refine And.intro (rfl : (_ : Nat) = _) ⟨t_Proc c, hatk, ?_⟩
                  refine And.intro (rfl : (_ : Nat) = _) (And.intro (rfl : (_ : Nat) = _) ⟨P.length - 1, 0, t_Proc c, c.map t_Instr, hjk, Nat.zero_lt_one, hatc, rfl, fun vv xx => ?_⟩)
                  refine And.intro (rfl : (_ : Nat) = _) ?_
                  refine ⟨hbl, fun qg => ?_⟩
                  refine And.intro (rfl : (_ : Nat) = _) (And.intro j1.1 (And.intro (hln xx) ?_))
                  refine And.intro (rfl : (_ : Nat) = _) ?_
                  refine And.intro (rfl : (_ : Nat) = _) (And.intro (rfl : (_ : Nat) = _) ⟨(t_Proc c).setCells 0 [.v xx], hset xx, Nat.le_refl _, fun v3 => ?_⟩)
                  exact ⟨_, ⟨_, rfl⟩, wk rfl ⟨rfl, rfl, rfl, rfl, rfl, rfl, rfl, trivial⟩ ⟨rfl, rfl, rfl, rfl, rfl, congrArg (fun z => some (Ob.row qc v3 1 z)) (hfin xx), trivial⟩⟩
            · refine And.intro (rfl : (_ : Nat) = _) ?_
              refine And.intro ?_ ?_
              · refine And.intro (rfl : (_ : Nat) = _) ?_
                refine And.intro (rfl : (_ : Nat) = _) (And.intro j1.1 (And.intro j1.2 ?_))
                refine And.intro (rfl : (_ : Nat) = _) ?_
                refine And.intro ?_ ?_
                · refine And.intro (rfl : (_ : Nat) = _) ⟨t_Proc c, hatk, ?_⟩
                  refine ⟨fun t ht => (by simp at ht; subst ht; rfl), fun qf => ?_⟩
                  refine And.intro (rfl : (_ : Nat) = _) (And.intro (rfl : (_ : Nat) = _) ⟨P.length - 1, 0, t_Proc c, c.map t_Instr, hjk, Nat.zero_lt_one, hatc, rfl, fun vv xx => ?_⟩)
                  refine And.intro (rfl : (_ : Nat) = _) ?_
                  refine ⟨hbl, fun qg => ?_⟩
                  refine And.intro (rfl : (_ : Nat) = _) (And.intro j1.1 (And.intro (hln xx) ?_))
                  refine And.intro (rfl : (_ : Nat) = _) ?_
                  refine And.intro (rfl : (_ : Nat) = _) (And.intro (rfl : (_ : Nat) = _) ⟨(t_Proc c).setCells 0 [.v xx], hset xx, Nat.le_refl _, fun v3 => ?_⟩)
                  exact ⟨_, ⟨_, rfl⟩, wk rfl ⟨rfl, rfl, rfl, rfl, rfl, rfl, rfl, trivial⟩ ⟨rfl, rfl, rfl, rfl, rfl, congrArg (fun z => some (Ob.row qc v3 1 z)) (hfin xx), trivial⟩⟩
                · refine ⟨fun t ht => (by simp at ht; subst ht; rfl), fun qf => ?_⟩
                  refine And.intro (rfl : (_ : Nat) = _) ⟨t_Proc c, hatk, ?_⟩
                  refine And.intro (rfl : (_ : Nat) = _) (And.intro (rfl : (_ : Nat) = _) ⟨P.length - 1, 0, t_Proc c, c.map t_Instr, hjk, Nat.zero_lt_one, hatc, rfl, fun vv xx => ?_⟩)
                  refine And.intro (rfl : (_ : Nat) = _) ?_
                  refine ⟨hbl, fun qg => ?_⟩
                  refine And.intro (rfl : (_ : Nat) = _) (And.intro j1.1 (And.intro (hln xx) ?_))
                  refine And.intro (rfl : (_ : Nat) = _) ?_
                  refine And.intro (rfl : (_ : Nat) = _) (And.intro (rfl : (_ : Nat) = _) ⟨(t_Proc c).setCells 0 [.v xx], hset xx, Nat.le_refl _, fun v3 => ?_⟩)
                  exact ⟨_, ⟨_, rfl⟩, wk rfl ⟨rfl, rfl, rfl, rfl, rfl, rfl, rfl, trivial⟩ ⟨rfl, rfl, rfl, rfl, rfl, congrArg (fun z => some (Ob.row qc v3 1 z)) (hfin xx), trivial⟩⟩
              · refine ⟨fun t ht => (by simp at ht; subst ht; rfl), fun qf => ?_⟩
                refine And.intro (rfl : (_ : Nat) = _) ?_
                refine And.intro (rfl : (_ : Nat) = _) (And.intro j1.1 (And.intro j1.2 ?_))
                refine And.intro (rfl : (_ : Nat) = _) ?_
                refine And.intro (rfl : (_ : Nat) = _) ⟨t_Proc c, hatk, ?_⟩
                refine And.intro (rfl : (_ : Nat) = _) (And.intro (rfl : (_ : Nat) = _) ⟨P.length - 1, 0, t_Proc c, c.map t_Instr, hjk, Nat.zero_lt_one, hatc, rfl, fun vv xx => ?_⟩)
                refine And.intro (rfl : (_ : Nat) = _) ?_
                refine ⟨hbl, fun qg => ?_⟩
                refine And.intro (rfl : (_ : Nat) = _) (And.intro j1.1 (And.intro (hln xx) ?_))
                refine And.intro (rfl : (_ : Nat) = _) ?_
                refine And.intro (rfl : (_ : Nat) = _) (And.intro (rfl : (_ : Nat) = _) ⟨(t_Proc c).setCells 0 [.v xx], hset xx, Nat.le_refl _, fun v3 => ?_⟩)
                exact ⟨_, ⟨_, rfl⟩, wk rfl ⟨rfl, rfl, rfl, rfl, rfl, rfl, rfl, trivial⟩ ⟨rfl, rfl, rfl, rfl, rfl, congrArg (fun z => some (Ob.row qc v3 1 z)) (hfin xx), trivial⟩⟩
          · refine And.intro ?_ ?_
            · refine And.intro (rfl : (_ : Nat) = _) ?_
              refine And.intro (rfl : (_ : Nat) = _) (And.intro j1.1 (And.intro j1.2 ?_))
              refine And.intro (rfl : (_ : Nat) = _) ?_
              refine And.intro ?_ ?_
              · refine And.intro (rfl : (_ : Nat) = _) ?_
                refine And.intro ?_ ?_
                · refine And.intro (rfl : (_ : Nat) = _) ⟨t_Proc c, hatk, ?_⟩
                  refine And.intro (rfl : (_ : Nat) = _) ?_
                  refine ⟨fun t ht => (by simp at ht; subst ht; rfl), fun qf => ?_⟩
                  refine And.intro (rfl : (_ : Nat) = _) (And.intro (rfl : (_ : Nat) = _) ⟨P.length - 1, 0, t_Proc c, c.map t_Instr, hjk, Nat.zero_lt_one, hatc, rfl, fun vv xx => ?_⟩)
                  refine And.intro (rfl : (_ : Nat) = _) ?_
                  refine ⟨hbl, fun qg => ?_⟩
                  refine And.intro (rfl : (_ : Nat) = _) (And.intro j1.1 (And.intro (hln xx) ?_))
                  refine And.intro (rfl : (_ : Nat) = _) ?_
                  refine And.intro (rfl : (_ : Nat) = _) (And.intro (rfl : (_ : Nat) = _) ⟨(t_Proc c).setCells 0 [.v xx], hset xx, Nat.le_refl _, fun v3 => ?_⟩)
                  exact ⟨_, ⟨_, rfl⟩, wk rfl ⟨rfl, rfl, rfl, rfl, rfl, rfl, rfl, trivial⟩ ⟨rfl, rfl, rfl, rfl, rfl, congrArg (fun z => some (Ob.row qc v3 1 z)) (hfin xx), trivial⟩⟩
                · refine And.intro (rfl : (_ : Nat) = _) ?_
                  refine And.intro ?_ ?_
                  · refine And.intro (rfl : (_ : Nat) = _) ⟨t_Proc c, hatk, ?_⟩
                    refine ⟨fun t ht => (by simp at ht; subst ht; rfl), fun qf => ?_⟩
                    refine And.intro (rfl : (_ : Nat) = _) (And.intro (rfl : (_ : Nat) = _) ⟨P.length - 1, 0, t_Proc c, c.map t_Instr, hjk, Nat.zero_lt_one, hatc, rfl, fun vv xx => ?_⟩)
                    refine And.intro (rfl : (_ : Nat) = _) ?_
                    refine ⟨hbl, fun qg => ?_⟩
                    refine And.intro (rfl : (_ : Nat) = _) (And.intro j1.1 (And.intro (hln xx) ?_))
                    refine And.intro (rfl : (_ : Nat) = _) ?_
                    refine And.intro (rfl : (_ : Nat) = _) (And.intro (rfl : (_ : Nat) = _) ⟨(t_Proc c).setCells 0 [.v xx], hset xx, Nat.le_refl _, fun v3 => ?_⟩)
                    exact ⟨_, ⟨_, rfl⟩, wk rfl ⟨rfl, rfl, rfl, rfl, rfl, rfl, rfl, trivial⟩ ⟨rfl, rfl, rfl, rfl, rfl, congrArg (fun z => some (Ob.row qc v3 1 z)) (hfin xx), trivial⟩⟩
                  · refine ⟨fun t ht => (by simp at ht; subst ht; rfl), fun qf => ?_⟩
                    refine And.intro (rfl : (_ : Nat) = _) ⟨t_Proc c, hatk, ?_⟩
                    refine And.intro (rfl : (_ : Nat) = _) (And.intro (rfl : (_ : Nat) = _) ⟨P.length - 1, 0, t_Proc c, c.map t_Instr, hjk, Nat.zero_lt_one, hatc, rfl, fun vv xx => ?_⟩)
                    refine And.intro (rfl : (_ : Nat) = _) ?_
                    refine ⟨hbl, fun qg => ?_⟩
                    refine And.intro (rfl : (_ : Nat) = _) (And.intro j1.1 (And.intro (hln xx) ?_))
                    refine And.intro (rfl : (_ : Nat) = _) ?_
                    refine And.intro (rfl : (_ : Nat) = _) (And.intro (rfl : (_ : Nat) = _) ⟨(t_Proc c).setCells 0 [.v xx], hset xx, Nat.le_refl _, fun v3 => ?_⟩)
                    exact ⟨_, ⟨_, rfl⟩, wk rfl ⟨rfl, rfl, rfl, rfl, rfl, rfl, rfl, trivial⟩ ⟨rfl, rfl, rfl, rfl, rfl, congrArg (fun z => some (Ob.row qc v3 1 z)) (hfin xx), trivial⟩⟩
              · refine And.intro ?_ ?_
                · refine And.intro (rfl : (_ : Nat) = _) ⟨t_Proc c, hatk, ?_⟩
                  refine And.intro ?_ ?_
                  · refine And.intro (rfl : (_ : Nat) = _) ?_
                    refine And.intro (rfl : (_ : Nat) = _) ?_
                    refine ⟨fun t ht => (by simp at ht; subst ht; rfl), fun qf => ?_⟩
                    refine And.intro (rfl : (_ : Nat) = _) (And.intro (rfl : (_ : Nat) = _) ⟨P.length - 1, 0, t_Proc c, c.map t_Instr, hjk, Nat.zero_lt_one, hatc, rfl, fun vv xx => ?_⟩)
                    refine And.intro (rfl : (_ : Nat) = _) ?_
                    refine ⟨hbl, fun qg => ?_⟩
                    refine And.intro (rfl : (_ : Nat) = _) (And.intro j1.1 (And.intro (hln xx) ?_))
                    refine And.intro (rfl : (_ : Nat) = _) ?_
                    refine And.intro (rfl : (_ : Nat) = _) (And.intro (rfl : (_ : Nat) = _) ⟨(t_Proc c).setCells 0 [.v xx], hset xx, Nat.le_refl _, fun v3 => ?_⟩)
                    exact ⟨_, ⟨_, rfl⟩, wk rfl ⟨rfl, rfl, rfl, rfl, rfl, rfl, rfl, trivial⟩ ⟨rfl, rfl, rfl, rfl, rfl, congrArg (fun z => some (Ob.row qc v3 1 z)) (hfin xx), trivial⟩⟩
                  · refine And.intro (rfl : (_ : Nat) = _) ?_
                    refine And.intro ?_ ?_
                    · refine And.intro (rfl : (_ : Nat) = _) ?_
                      refine ⟨fun t ht => (by simp at ht; subst ht; rfl), fun qf => ?_⟩
                      refine And.intro (rfl : (_ : Nat) = _) (And.intro (rfl : (_ : Nat) = _) ⟨P.length - 1, 0, t_Proc c, c.map t_Instr, hjk, Nat.zero_lt_one, hatc, rfl, fun vv xx => ?_⟩)
                      refine And.intro (rfl : (_ : Nat) = _) ?_
                      refine ⟨hbl, fun qg => ?_⟩
                      refine And.intro (rfl : (_ : Nat) = _) (And.intro j1.1 (And.intro (hln xx) ?_))
                      refine And.intro (rfl : (_ : Nat) = _) ?_
                      refine And.intro (rfl : (_ : Nat) = _) (And.intro (rfl : (_ : Nat) = _) ⟨(t_Proc c).setCells 0 [.v xx], hset xx, Nat.le_refl _, fun v3 => ?_⟩)
                      exact ⟨_, ⟨_, rfl⟩, wk rfl ⟨rfl, rfl, rfl, rfl, rfl, rfl, rfl, trivial⟩ ⟨rfl, rfl, rfl, rfl, rfl, congrArg (fun z => some (Ob.row qc v3 1 z)) (hfin xx), trivial⟩⟩
                    · refine ⟨fun t ht => (by simp at ht; subst ht; rfl), fun qf => ?_⟩
                      refine And.intro ?_ ?_
                      · refine And.intro (rfl : (_ : Nat) = _) ?_
                        refine And.intro (rfl : (_ : Nat) = _) (And.intro (rfl : (_ : Nat) = _) ⟨P.length - 1, 0, t_Proc c, c.map t_Instr, hjk, Nat.zero_lt_one, hatc, rfl, fun vv xx => ?_⟩)
                        refine And.intro (rfl : (_ : Nat) = _) ?_
                        refine ⟨hbl, fun qg => ?_⟩
                        refine And.intro (rfl : (_ : Nat) = _) (And.intro j1.1 (And.intro (hln xx) ?_))
                        refine And.intro (rfl : (_ : Nat) = _) ?_
                        refine And.intro (rfl : (_ : Nat) = _) (And.intro (rfl : (_ : Nat) = _) ⟨(t_Proc c).setCells 0 [.v xx], hset xx, Nat.le_refl _, fun v3 => ?_⟩)
                        exact ⟨_, ⟨_, rfl⟩, wk rfl ⟨rfl, rfl, rfl, rfl, rfl, rfl, rfl, trivial⟩ ⟨rfl, rfl, rfl, rfl, rfl, congrArg (fun z => some (Ob.row qc v3 1 z)) (hfin xx), trivial⟩⟩
                      · refine And.intro (rfl : (_ : Nat) = _) (And.intro (rfl : (_ : Nat) = _) ⟨P.length - 1, 0, t_Proc c, c.map t_Instr, hjk, Nat.zero_lt_one, hatc, rfl, fun vv xx => ?_⟩)
                        refine And.intro (rfl : (_ : Nat) = _) ?_
                        refine ⟨hbl, fun qg => ?_⟩
                        refine And.intro (rfl : (_ : Nat) = _) ?_
                        refine And.intro (rfl : (_ : Nat) = _) (And.intro j1.1 (And.intro (hln xx) ?_))
                        refine And.intro (rfl : (_ : Nat) = _) ?_
                        refine And.intro (rfl : (_ : Nat) = _) (And.intro (rfl : (_ : Nat) = _) ⟨(t_Proc c).setCells 0 [.v xx], hset xx, Nat.le_refl _, fun v3 => ?_⟩)
                        exact ⟨_, ⟨_, rfl⟩, wk rfl ⟨rfl, rfl, rfl, rfl, rfl, rfl, rfl, trivial⟩ ⟨rfl, rfl, rfl, rfl, rfl, congrArg (fun z => some (Ob.row qc v3 1 z)) (hfin xx), trivial⟩⟩
                · refine And.intro (rfl : (_ : Nat) = _) ?_
                  refine And.intro ?_ ?_
                  · refine And.intro (rfl : (_ : Nat) = _) ?_
                    refine And.intro ?_ ?_
                    · refine And.intro (rfl : (_ : Nat) = _) ⟨t_Proc c, hatk, ?_⟩
                      refine ⟨fun t ht => (by simp at ht; subst ht; rfl), fun qf => ?_⟩
                      refine And.intro (rfl : (_ : Nat) = _) (And.intro (rfl : (_ : Nat) = _) ⟨P.length - 1, 0, t_Proc c, c.map t_Instr, hjk, Nat.zero_lt_one, hatc, rfl, fun vv xx => ?_⟩)
                      refine And.intro (rfl : (_ : Nat) = _) ?_
                      refine ⟨hbl, fun qg => ?_⟩
                      refine And.intro (rfl : (_ : Nat) = _) (And.intro j1.1 (And.intro (hln xx) ?_))
                      refine And.intro (rfl : (_ : Nat) = _) ?_
                      refine And.intro (rfl : (_ : Nat) = _) (And.intro (rfl : (_ : Nat) = _) ⟨(t_Proc c).setCells 0 [.v xx], hset xx, Nat.le_refl _, fun v3 => ?_⟩)
                      exact ⟨_, ⟨_, rfl⟩, wk rfl ⟨rfl, rfl, rfl, rfl, rfl, rfl, rfl, trivial⟩ ⟨rfl, rfl, rfl, rfl, rfl, congrArg (fun z => some (Ob.row qc v3 1 z)) (hfin xx), trivial⟩⟩
                    · refine ⟨fun t ht => (by simp at ht; subst ht; rfl), fun qf => ?_⟩
                      refine And.intro (rfl : (_ : Nat) = _) ⟨t_Proc c, hatk, ?_⟩
                      refine And.intro (rfl : (_ : Nat) = _) (And.intro (rfl : (_ : Nat) = _) ⟨P.length - 1, 0, t_Proc c, c.map t_Instr, hjk, Nat.zero_lt_one, hatc, rfl, fun vv xx => ?_⟩)
                      refine And.intro (rfl : (_ : Nat) = _) ?_
                      refine ⟨hbl, fun qg => ?_⟩
                      refine And.intro (rfl : (_ : Nat) = _) (And.intro j1.1 (And.intro (hln xx) ?_))
                      refine And.intro (rfl : (_ : Nat) = _) ?_
                      refine And.intro (rfl : (_ : Nat) = _) (And.intro (rfl : (_ : Nat) = _) ⟨(t_Proc c).setCells 0 [.v xx], hset xx, Nat.le_refl _, fun v3 => ?_⟩)
                      exact ⟨_, ⟨_, rfl⟩, wk rfl ⟨rfl, rfl, rfl, rfl, rfl, rfl, rfl, trivial⟩ ⟨rfl, rfl, rfl, rfl, rfl, congrArg (fun z => some (Ob.row qc v3 1 z)) (hfin xx), trivial⟩⟩
                  · refine And.intro ?_ ?_
                    · refine And.intro (rfl : (_ : Nat) = _) ⟨t_Proc c, hatk, ?_⟩
                      refine And.intro ?_ ?_
                      · refine And.intro (rfl : (_ : Nat) = _) ?_
                        refine ⟨fun t ht => (by simp at ht; subst ht; rfl), fun qf => ?_⟩
                        refine And.intro (rfl : (_ : Nat) = _) (And.intro (rfl : (_ : Nat) = _) ⟨P.length - 1, 0, t_Proc c, c.map t_Instr, hjk, Nat.zero_lt_one, hatc, rfl, fun vv xx => ?_⟩)
                        refine And.intro (rfl : (_ : Nat) = _) ?_
                        refine ⟨hbl, fun qg => ?_⟩
                        refine And.intro (rfl : (_ : Nat) = _) (And.intro j1.1 (And.intro (hln xx) ?_))
                        refine And.intro (rfl : (_ : Nat) = _) ?_
                        refine And.intro (rfl : (_ : Nat) = _) (And.intro (rfl : (_ : Nat) = _) ⟨(t_Proc c).setCells 0 [.v xx], hset xx, Nat.le_refl _, fun v3 => ?_⟩)
                        exact ⟨_, ⟨_, rfl⟩, wk rfl ⟨rfl, rfl, rfl, rfl, rfl, rfl, rfl, trivial⟩ ⟨rfl, rfl, rfl, rfl, rfl, congrArg (fun z => some (Ob.row qc v3 1 z)) (hfin xx), trivial⟩⟩
                      · refine ⟨fun t ht => (by simp at ht; subst ht; rfl), fun qf => ?_⟩
                        refine And.intro ?_ ?_
                        · refine And.intro (rfl : (_ : Nat) = _) ?_
                          refine And.intro (rfl : (_ : Nat) = _) (And.intro (rfl : (_ : Nat) = _) ⟨P.length - 1, 0, t_Proc c, c.map t_Instr, hjk, Nat.zero_lt_one, hatc, rfl, fun vv xx => ?_⟩)
                          refine And.intro (rfl : (_ : Nat) = _) ?_
                          refine ⟨hbl, fun qg => ?_⟩
                          refine And.intro (rfl : (_ : Nat) = _) (And.intro j1.1 (And.intro (hln xx) ?_))
                          refine And.intro (rfl : (_ : Nat) = _) ?_
                          refine And.intro (rfl : (_ : Nat) = _) (And.intro (rfl : (_ : Nat) = _) ⟨(t_Proc c).setCells 0 [.v xx], hset xx, Nat.le_refl _, fun v3 => ?_⟩)
                          exact ⟨_, ⟨_, rfl⟩, wk rfl ⟨rfl, rfl, rfl, rfl, rfl, rfl, rfl, trivial⟩ ⟨rfl, rfl, rfl, rfl, rfl, congrArg (fun z => some (Ob.row qc v3 1 z)) (hfin xx), trivial⟩⟩
                        · refine And.intro (rfl : (_ : Nat) = _) (And.intro (rfl : (_ : Nat) = _) ⟨P.length - 1, 0, t_Proc c, c.map t_Instr, hjk, Nat.zero_lt_one, hatc, rfl, fun vv xx => ?_⟩)
                          refine And.intro (rfl : (_ : Nat) = _) ?_
                          refine ⟨hbl, fun qg => ?_⟩
                          refine And.intro (rfl : (_ : Nat) = _) ?_
                          refine And.intro (rfl : (_ : Nat) = _) (And.intro j1.1 (And.intro (hln xx) ?_))
                          refine And.intro (rfl : (_ : Nat) = _) ?_
                          refine And.intro (rfl : (_ : Nat) = _) (And.intro (rfl : (_ : Nat) = _) ⟨(t_Proc c).setCells 0 [.v xx], hset xx, Nat.le_refl _, fun v3 => ?_⟩)
                          exact ⟨_, ⟨_, rfl⟩, wk rfl ⟨rfl, rfl, rfl, rfl, rfl, rfl, rfl, trivial⟩ ⟨rfl, rfl, rfl, rfl, rfl, congrArg (fun z => some (Ob.row qc v3 1 z)) (hfin xx), trivial⟩⟩
                    · refine ⟨fun t ht => (by simp at ht; subst ht; rfl), fun qf => ?_⟩
                      refine And.intro ?_ ?_
                      · refine And.intro (rfl : (_ : Nat) = _) ?_
                        refine And.intro (rfl : (_ : Nat) = _) ⟨t_Proc c, hatk, ?_⟩
                        refine And.intro (rfl : (_ : Nat) = _) (And.intro (rfl : (_ : Nat) = _) ⟨P.length - 1, 0, t_Proc c, c.map t_Instr, hjk, Nat.zero_lt_one, hatc, rfl, fun vv xx => ?_⟩)
                        refine And.intro (rfl : (_ : Nat) = _) ?_
                        refine ⟨hbl, fun qg => ?_⟩
                        refine And.intro (rfl : (_ : Nat) = _) (And.intro j1.1 (And.intro (hln xx) ?_))
                        refine And.intro (rfl : (_ : Nat) = _) ?_
                        refine And.intro (rfl : (_ : Nat) = _) (And.intro (rfl : (_ : Nat) = _) ⟨(t_Proc c).setCells 0 [.v xx], hset xx, Nat.le_refl _, fun v3 => ?_⟩)
                        exact ⟨_, ⟨_, rfl⟩, wk rfl ⟨rfl, rfl, rfl, rfl, rfl, rfl, rfl, trivial⟩ ⟨rfl, rfl, rfl, rfl, rfl, congrArg (fun z => some (Ob.row qc v3 1 z)) (hfin xx), trivial⟩⟩
                      · refine And.intro (rfl : (_ : Nat) = _) ⟨t_Proc c, hatk, ?_⟩
                        refine And.intro ?_ ?_
                        · refine And.intro (rfl : (_ : Nat) = _) ?_
                          refine And.intro (rfl : (_ : Nat) = _) (And.intro (rfl : (_ : Nat) = _) ⟨P.length - 1, 0, t_Proc c, c.map t_Instr, hjk, Nat.zero_lt_one, hatc, rfl, fun vv xx => ?_⟩)
                          refine And.intro (rfl : (_ : Nat) = _) ?_
                          refine ⟨hbl, fun qg => ?_⟩
                          refine And.intro (rfl : (_ : Nat) = _) (And.intro j1.1 (And.intro (hln xx) ?_))
                          refine And.intro (rfl : (_ : Nat) = _) ?_
                          refine And.intro (rfl : (_ : Nat) = _) (And.intro (rfl : (_ : Nat) = _) ⟨(t_Proc c).setCells 0 [.v xx], hset xx, Nat.le_refl _, fun v3 => ?_⟩)
                          exact ⟨_, ⟨_, rfl⟩, wk rfl ⟨rfl, rfl, rfl, rfl, rfl, rfl, rfl, trivial⟩ ⟨rfl, rfl, rfl, rfl, rfl, congrArg (fun z => some (Ob.row qc v3 1 z)) (hfin xx), trivial⟩⟩
                        · refine And.intro (rfl : (_ : Nat) = _) (And.intro (rfl : (_ : Nat) = _) ⟨P.length - 1, 0, t_Proc c, c.map t_Instr, hjk, Nat.zero_lt_one, hatc, rfl, fun vv xx => ?_⟩)
                          refine And.intro (rfl : (_ : Nat) = _) ?_
                          refine ⟨hbl, fun qg => ?_⟩
                          refine And.intro (rfl : (_ : Nat) = _) ?_
                          refine And.intro (rfl : (_ : Nat) = _) (And.intro j1.1 (And.intro (hln xx) ?_))
                          refine And.intro (rfl : (_ : Nat) = _) ?_
                          refine And.intro (rfl : (_ : Nat) = _) (And.intro (rfl : (_ : Nat) = _) ⟨(t_Proc c).setCells 0 [.v xx], hset xx, Nat.le_refl _, fun v3 => ?_⟩)
                          exact ⟨_, ⟨_, rfl⟩, wk rfl ⟨rfl, rfl, rfl, rfl, rfl, rfl, rfl, trivial⟩ ⟨rfl, rfl, rfl, rfl, rfl, congrArg (fun z => some (Ob.row qc v3 1 z)) (hfin xx), trivial⟩⟩
            · refine And.intro (rfl : (_ : Nat) = _) ?_
              refine And.intro ?_ ?_
              · refine And.intro (rfl : (_ : Nat) = _) ?_
                refine And.intro ?_ ?_
                · refine And.intro (rfl : (_ : Nat) = _) ?_
                  refine And.intro (rfl : (_ : Nat) = _) (And.intro j1.1 (And.intro j1.2 ?_))
                  refine And.intro (rfl : (_ : Nat) = _) ?_
                  refine And.intro ?_ ?_
                  · refine And.intro (rfl : (_ : Nat) = _) ⟨t_Proc c, hatk, ?_⟩
                    refine ⟨fun t ht => (by simp at ht; subst ht; rfl), fun qf => ?_⟩
                    refine And.intro (rfl : (_ : Nat) = _) (And.intro (rfl : (_ : Nat) = _) ⟨P.length - 1, 0, t_Proc c, c.map t_Instr, hjk, Nat.zero_lt_one, hatc, rfl, fun vv xx => ?_⟩)
                    refine And.intro (rfl : (_ : Nat) = _) ?_
                    refine ⟨hbl, fun qg => ?_⟩
                    refine And.intro (rfl : (_ : Nat) = _) (And.intro j1.1 (And.intro (hln xx) ?_))
                    refine And.intro (rfl : (_ : Nat) = _) ?_
                    refine And.intro (rfl : (_ : Nat) = _) (And.intro (rfl : (_ : Nat) = _) ⟨(t_Proc c).setCells 0 [.v xx], hset xx, Nat.le_refl _, fun v3 => ?_⟩)
                    exact ⟨_, ⟨_, rfl⟩, wk rfl ⟨rfl, rfl, rfl, rfl, rfl, rfl, rfl, trivial⟩ ⟨rfl, rfl, rfl, rfl, rfl, congrArg (fun z => some (Ob.row qc v3 1 z)) (hfin xx), trivial⟩⟩
                  · refine ⟨fun t ht => (by simp at ht; subst ht; rfl), fun qf => ?_⟩
                    refine And.intro (rfl : (_ : Nat) = _) ⟨t_Proc c, hatk, ?_⟩
                    refine And.intro (rfl : (_ : Nat) = _) (And.intro (rfl : (_ : Nat) = _) ⟨P.length - 1, 0, t_Proc c, c.map t_Instr, hjk, Nat.zero_lt_one, hatc, rfl, fun vv xx => ?_⟩)
                    refine And.intro (rfl : (_ : Nat) = _) ?_
                    refine ⟨hbl, fun qg => ?_⟩
                    refine And.intro (rfl : (_ : Nat) = _) (And.intro j1.1 (And.intro (hln xx) ?_))
                    refine And.intro (rfl : (_ : Nat) = _) ?_
                    refine And.intro (rfl : (_ : Nat) = _) (And.intro (rfl : (_ : Nat) = _) ⟨(t_Proc c).setCells 0 [.v xx], hset xx, Nat.le_refl _, fun v3 => ?_⟩)
                    exact ⟨_, ⟨_, rfl⟩, wk rfl ⟨rfl, rfl, rfl, rfl, rfl, rfl, rfl, trivial⟩ ⟨rfl, rfl, rfl, rfl, rfl, congrArg (fun z => some (Ob.row qc v3 1 z)) (hfin xx), trivial⟩⟩
                · refine ⟨fun t ht => (by simp at ht; subst ht; rfl), fun qf => ?_⟩
                  refine And.intro (rfl : (_ : Nat) = _) ?_
                  refine And.intro (rfl : (_ : Nat) = _) (And.intro j1.1 (And.intro j1.2 ?_))
                  refine And.intro (rfl : (_ : Nat) = _) ?_
                  refine And.intro (rfl : (_ : Nat) = _) ⟨t_Proc c, hatk, ?_⟩
                  refine And.intro (rfl : (_ : Nat) = _) (And.intro (rfl : (_ : Nat) = _) ⟨P.length - 1, 0, t_Proc c, c.map t_Instr, hjk, Nat.zero_lt_one, hatc, rfl, fun vv xx => ?_⟩)
                  refine And.intro (rfl : (_ : Nat) = _) ?_
                  refine ⟨hbl, fun qg => ?_⟩
                  refine And.intro (rfl : (_ : Nat) = _) (And.intro j1.1 (And.intro (hln xx) ?_))
                  refine And.intro (rfl : (_ : Nat) = _) ?_
                  refine And.intro (rfl : (_ : Nat) = _) (And.intro (rfl : (_ : Nat) = _) ⟨(t_Proc c).setCells 0 [.v xx], hset xx, Nat.le_refl _, fun v3 => ?_⟩)
                  exact ⟨_, ⟨_, rfl⟩, wk rfl ⟨rfl, rfl, rfl, rfl, rfl, rfl, rfl, trivial⟩ ⟨rfl, rfl, rfl, rfl, rfl, congrArg (fun z => some (Ob.row qc v3 1 z)) (hfin xx), trivial⟩⟩
              · refine And.intro ?_ ?_
                · refine And.intro (rfl : (_ : Nat) = _) ?_
                  refine And.intro (rfl : (_ : Nat) = _) (And.intro j1.1 (And.intro j1.2 ?_))
                  refine And.intro (rfl : (_ : Nat) = _) ?_
                  refine And.intro ?_ ?_
                  · refine And.intro (rfl : (_ : Nat) = _) ?_
                    refine And.intro ?_ ?_
                    · refine And.intro (rfl : (_ : Nat) = _) ⟨t_Proc c, hatk, ?_⟩
                      refine ⟨fun t ht => (by simp at ht; subst ht; rfl), fun qf => ?_⟩
                      refine And.intro (rfl : (_ : Nat) = _) (And.intro (rfl : (_ : Nat) = _) ⟨P.length - 1, 0, t_Proc c, c.map t_Instr, hjk, Nat.zero_lt_one, hatc, rfl, fun vv xx => ?_⟩)
                      refine And.intro (rfl : (_ : Nat) = _) ?_
                      refine ⟨hbl, fun qg => ?_⟩
                      refine And.intro (rfl : (_ : Nat) = _) (And.intro j1.1 (And.intro (hln xx) ?_))
                      refine And.intro (rfl : (_ : Nat) = _) ?_
                      refine And.intro (rfl : (_ : Nat) = _) (And.intro (rfl : (_ : Nat) = _) ⟨(t_Proc c).setCells 0 [.v xx], hset xx, Nat.le_refl _, fun v3 => ?_⟩)
                      exact ⟨_, ⟨_, rfl⟩, wk rfl ⟨rfl, rfl, rfl, rfl, rfl, rfl, rfl, trivial⟩ ⟨rfl, rfl, rfl, rfl, rfl, congrArg (fun z => some (Ob.row qc v3 1 z)) (hfin xx), trivial⟩⟩
                    · refine ⟨fun t ht => (by simp at ht; subst ht; rfl), fun qf => ?_⟩
                      refine And.intro (rfl : (_ : Nat) = _) ⟨t_Proc c, hatk, ?_⟩
                      refine And.intro (rfl : (_ : Nat) = _) (And.intro (rfl : (_ : Nat) = _) ⟨P.length - 1, 0, t_Proc c, c.map t_Instr, hjk, Nat.zero_lt_one, hatc, rfl, fun vv xx => ?_⟩)
                      refine And.intro (rfl : (_ : Nat) = _) ?_
                      refine ⟨hbl, fun qg => ?_⟩
                      refine And.intro (rfl : (_ : Nat) = _) (And.intro j1.1 (And.intro (hln xx) ?_))
                      refine And.intro (rfl : (_ : Nat) = _) ?_
                      refine And.intro (rfl : (_ : Nat) = _) (And.intro (rfl : (_ : Nat) = _) ⟨(t_Proc c).setCells 0 [.v xx], hset xx, Nat.le_refl _, fun v3 => ?_⟩)
                      exact ⟨_, ⟨_, rfl⟩, wk rfl ⟨rfl, rfl, rfl, rfl, rfl, rfl, rfl, trivial⟩ ⟨rfl, rfl, rfl, rfl, rfl, congrArg (fun z => some (Ob.row qc v3 1 z)) (hfin xx), trivial⟩⟩
                  · refine And.intro ?_ ?_
                    · refine And.intro (rfl : (_ : Nat) = _) ⟨t_Proc c, hatk, ?_⟩
                      refine And.intro ?_ ?_
                      · refine And.intro (rfl : (_ : Nat) = _) ?_
                        refine ⟨fun t ht => (by simp at ht; subst ht; rfl), fun qf => ?_⟩
                        refine And.intro (rfl : (_ : Nat) = _) (And.intro (rfl : (_ : Nat) = _) ⟨P.length - 1, 0, t_Proc c, c.map t_Instr, hjk, Nat.zero_lt_one, hatc, rfl, fun vv xx => ?_⟩)
                        refine And.intro (rfl : (_ : Nat) = _) ?_
                        refine ⟨hbl, fun qg => ?_⟩
                        refine And.intro (rfl : (_ : Nat) = _) (And.intro j1.1 (And.intro (hln xx) ?_))
                        refine And.intro (rfl : (_ : Nat) = _) ?_
                        refine And.intro (rfl : (_ : Nat) = _) (And.intro (rfl : (_ : Nat) = _) ⟨(t_Proc c).setCells 0 [.v xx], hset xx, Nat.le_refl _, fun v3 => ?_⟩)
                        exact ⟨_, ⟨_, rfl⟩, wk rfl ⟨rfl, rfl, rfl, rfl, rfl, rfl, rfl, trivial⟩ ⟨rfl, rfl, rfl, rfl, rfl, congrArg (fun z => some (Ob.row qc v3 1 z)) (hfin xx), trivial⟩⟩
                      · refine ⟨fun t ht => (by simp at ht; subst ht; rfl), fun qf => ?_⟩
                        refine And.intro ?_ ?_
                        · refine And.intro (rfl : (_ : Nat) = _) ?_
                          refine And.intro (rfl : (_ : Nat) = _) (And.intro (rfl : (_ : Nat) = _) ⟨P.length - 1, 0, t_Proc c, c.map t_Instr, hjk, Nat.zero_lt_one, hatc, rfl, fun vv xx => ?_⟩)
                          refine And.intro (rfl : (_ : Nat) = _) ?_
                          refine ⟨hbl, fun qg => ?_⟩
                          refine And.intro (rfl : (_ : Nat) = _) (And.intro j1.1 (And.intro (hln xx) ?_))
                          refine And.intro (rfl : (_ : Nat) = _) ?_
                          refine And.intro (rfl : (_ : Nat) = _) (And.intro (rfl : (_ : Nat) = _) ⟨(t_Proc c).setCells 0 [.v xx], hset xx, Nat.le_refl _, fun v3 => ?_⟩)
                          exact ⟨_, ⟨_, rfl⟩, wk rfl ⟨rfl, rfl, rfl, rfl, rfl, rfl, rfl, trivial⟩ ⟨rfl, rfl, rfl, rfl, rfl, congrArg (fun z => some (Ob.row qc v3 1 z)) (hfin xx), trivial⟩⟩
                        · refine And.intro (rfl : (_ : Nat) = _) (And.intro (rfl : (_ : Nat) = _) ⟨P.length - 1, 0, t_Proc c, c.map t_Instr, hjk, Nat.zero_lt_one, hatc, rfl, fun vv xx => ?_⟩)
                          refine And.intro (rfl : (_ : Nat) = _) ?_
                          refine ⟨hbl, fun qg => ?_⟩
                          refine And.intro (rfl : (_ : Nat) = _) ?_
                          refine And.intro (rfl : (_ : Nat) = _) (And.intro j1.1 (And.intro (hln xx) ?_))
                          refine And.intro (rfl : (_ : Nat) = _) ?_
                          refine And.intro (rfl : (_ : Nat) = _) (And.intro (rfl : (_ : Nat) = _) ⟨(t_Proc c).setCells 0 [.v xx], hset xx, Nat.le_refl _, fun v3 => ?_⟩)
                          exact ⟨_, ⟨_, rfl⟩, wk rfl ⟨rfl, rfl, rfl, rfl, rfl, rfl, rfl, trivial⟩ ⟨rfl, rfl, rfl, rfl, rfl, congrArg (fun z => some (Ob.row qc v3 1 z)) (hfin xx), trivial⟩⟩
                    · refine ⟨fun t ht => (by simp at ht; subst ht; rfl), fun qf => ?_⟩
                      refine And.intro ?_ ?_
                      · refine And.intro (rfl : (_ : Nat) = _) ?_
                        refine And.intro (rfl : (_ : Nat) = _) ⟨t_Proc c, hatk, ?_⟩
                        refine And.intro (rfl : (_ : Nat) = _) (And.intro (rfl : (_ : Nat) = _) ⟨P.length - 1, 0, t_Proc c, c.map t_Instr, hjk, Nat.zero_lt_one, hatc, rfl, fun vv xx => ?_⟩)
                        refine And.intro (rfl : (_ : Nat) = _) ?_
                        refine ⟨hbl, fun qg => ?_⟩
                        refine And.intro (rfl : (_ : Nat) = _) (And.intro j1.1 (And.intro (hln xx) ?_))
                        refine And.intro (rfl : (_ : Nat) = _) ?_
                        refine And.intro (rfl : (_ : Nat) = _) (And.intro (rfl : (_ : Nat) = _) ⟨(t_Proc c).setCells 0 [.v xx], hset xx, Nat.le_refl _, fun v3 => ?_⟩)
                        exact ⟨_, ⟨_, rfl⟩, wk rfl ⟨rfl, rfl, rfl, rfl, rfl, rfl, rfl, trivial⟩ ⟨rfl, rfl, rfl, rfl, rfl, congrArg (fun z => some (Ob.row qc v3 1 z)) (hfin xx), trivial⟩⟩
                      · refine And.intro (rfl : (_ : Nat) = _) ⟨t_Proc c, hatk, ?_⟩
                        refine And.intro ?_ ?_
                        · refine And.intro (rfl : (_ : Nat) = _) ?_
                          refine And.intro (rfl : (_ : Nat) = _) (And.intro (rfl : (_ : Nat) = _) ⟨P.length - 1, 0, t_Proc c, c.map t_Instr, hjk, Nat.zero_lt_one, hatc, rfl, fun vv xx => ?_⟩)
                          refine And.intro (rfl : (_ : Nat) = _) ?_
                          refine ⟨hbl, fun qg => ?_⟩
                          refine And.intro (rfl : (_ : Nat) = _) (And.intro j1.1 (And.intro (hln xx) ?_))
                          refine And.intro (rfl : (_ : Nat) = _) ?_
                          refine And.intro (rfl : (_ : Nat) = _) (And.intro (rfl : (_ : Nat) = _) ⟨(t_Proc c).setCells 0 [.v xx], hset xx, Nat.le_refl _, fun v3 => ?_⟩)
                          exact ⟨_, ⟨_, rfl⟩, wk rfl ⟨rfl, rfl, rfl, rfl, rfl, rfl, rfl, trivial⟩ ⟨rfl, rfl, rfl, rfl, rfl, congrArg (fun z => some (Ob.row qc v3 1 z)) (hfin xx), trivial⟩⟩
                        · refine And.intro (rfl : (_ : Nat) = _) (And.intro (rfl : (_ : Nat) = _) ⟨P.length - 1, 0, t_Proc c, c.map t_Instr, hjk, Nat.zero_lt_one, hatc, rfl, fun vv xx => ?_⟩)
                          refine And.intro (rfl : (_ : Nat) = _) ?_
                          refine ⟨hbl, fun qg => ?_⟩
                          refine And.intro (rfl : (_ : Nat) = _) ?_
                          refine And.intro (rfl : (_ : Nat) = _) (And.intro j1.1 (And.intro (hln xx) ?_))
                          refine And.intro (rfl : (_ : Nat) = _) ?_
                          refine And.intro (rfl : (_ : Nat) = _) (And.intro (rfl : (_ : Nat) = _) ⟨(t_Proc c).setCells 0 [.v xx], hset xx, Nat.le_refl _, fun v3 => ?_⟩)
                          exact ⟨_, ⟨_, rfl⟩, wk rfl ⟨rfl, rfl, rfl, rfl, rfl, rfl, rfl, trivial⟩ ⟨rfl, rfl, rfl, rfl, rfl, congrArg (fun z => some (Ob.row qc v3 1 z)) (hfin xx), trivial⟩⟩
                · refine ⟨fun t ht => (by simp at ht; subst ht; rfl), fun qf => ?_⟩
                  refine And.intro ?_ ?_
                  · refine And.intro (rfl : (_ : Nat) = _) ?_
                    refine And.intro (rfl : (_ : Nat) = _) ?_
                    refine And.intro (rfl : (_ : Nat) = _) (And.intro j1.1 (And.intro j1.2 ?_))
                    refine And.intro (rfl : (_ : Nat) = _) ?_
                    refine And.intro (rfl : (_ : Nat) = _) ⟨t_Proc c, hatk, ?_⟩
                    refine And.intro (rfl : (_ : Nat) = _) (And.intro (rfl : (_ : Nat) = _) ⟨P.length - 1, 0, t_Proc c, c.map t_Instr, hjk, Nat.zero_lt_one, hatc, rfl, fun vv xx => ?_⟩)
                    refine And.intro (rfl : (_ : Nat) = _) ?_
                    refine ⟨hbl, fun qg => ?_⟩
                    refine And.intro (rfl : (_ : Nat) = _) (And.intro j1.1 (And.intro (hln xx) ?_))
                    refine And.intro (rfl : (_ : Nat) = _) ?_
                    refine And.intro (rfl : (_ : Nat) = _) (And.intro (rfl : (_ : Nat) = _) ⟨(t_Proc c).setCells 0 [.v xx], hset xx, Nat.le_refl _, fun v3 => ?_⟩)
                    exact ⟨_, ⟨_, rfl⟩, wk rfl ⟨rfl, rfl, rfl, rfl, rfl, rfl, rfl, trivial⟩ ⟨rfl, rfl, rfl, rfl, rfl, congrArg (fun z => some (Ob.row qc v3 1 z)) (hfin xx), trivial⟩⟩
                  · refine And.intro (rfl : (_ : Nat) = _) ?_
                    refine And.intro (rfl : (_ : Nat) = _) (And.intro j1.1 (And.intro j1.2 ?_))
                    refine And.intro (rfl : (_ : Nat) = _) ?_
                    refine And.intro ?_ ?_
                    · refine And.intro (rfl : (_ : Nat) = _) ?_
                      refine And.intro (rfl : (_ : Nat) = _) ⟨t_Proc c, hatk, ?_⟩
                      refine And.intro (rfl : (_ : Nat) = _) (And.intro (rfl : (_ : Nat) = _) ⟨P.length - 1, 0, t_Proc c, c.map t_Instr, hjk, Nat.zero_lt_one, hatc, rfl, fun vv xx => ?_⟩)
                      refine And.intro (rfl : (_ : Nat) = _) ?_
                      refine ⟨hbl, fun qg => ?_⟩
                      refine And.intro (rfl : (_ : Nat) = _) (And.intro j1.1 (And.intro (hln xx) ?_))
                      refine And.intro (rfl : (_ : Nat) = _) ?_
                      refine And.intro (rfl : (_ : Nat) = _) (And.intro (rfl : (_ : Nat) = _) ⟨(t_Proc c).setCells 0 [.v xx], hset xx, Nat.le_refl _, fun v3 => ?_⟩)
                      exact ⟨_, ⟨_, rfl⟩, wk rfl ⟨rfl, rfl, rfl, rfl, rfl, rfl, rfl, trivial⟩ ⟨rfl, rfl, rfl, rfl, rfl, congrArg (fun z => some (Ob.row qc v3 1 z)) (hfin xx), trivial⟩⟩
                    · refine And.intro (rfl : (_ : Nat) = _) ⟨t_Proc c, hatk, ?_⟩
                      refine And.intro ?_ ?_
                      · refine And.intro (rfl : (_ : Nat) = _) ?_
                        refine And.intro (rfl : (_ : Nat) = _) (And.intro (rfl : (_ : Nat) = _) ⟨P.length - 1, 0, t_Proc c, c.map t_Instr, hjk, Nat.zero_lt_one, hatc, rfl, fun vv xx => ?_⟩)
                        refine And.intro (rfl : (_ : Nat) = _) ?_
                        refine ⟨hbl, fun qg => ?_⟩
                        refine And.intro (rfl : (_ : Nat) = _) (And.intro j1.1 (And.intro (hln xx) ?_))
                        refine And.intro (rfl : (_ : Nat) = _) ?_
                        refine And.intro (rfl : (_ : Nat) = _) (And.intro (rfl : (_ : Nat) = _) ⟨(t_Proc c).setCells 0 [.v xx], hset xx, Nat.le_refl _, fun v3 => ?_⟩)
                        exact ⟨_, ⟨_, rfl⟩, wk rfl ⟨rfl, rfl, rfl, rfl, rfl, rfl, rfl, trivial⟩ ⟨rfl, rfl, rfl, rfl, rfl, congrArg (fun z => some (Ob.row qc v3 1 z)) (hfin xx), trivial⟩⟩
                      · refine And.intro (rfl : (_ : Nat) = _) (And.intro (rfl : (_ : Nat) = _) ⟨P.length - 1, 0, t_Proc c, c.map t_Instr, hjk, Nat.zero_lt_one, hatc, rfl, fun vv xx => ?_⟩)
                        refine And.intro (rfl : (_ : Nat) = _) ?_
                        refine ⟨hbl, fun qg => ?_⟩
                        refine And.intro (rfl : (_ : Nat) = _) ?_
                        refine And.intro (rfl : (_ : Nat) = _) (And.intro j1.1 (And.intro (hln xx) ?_))
                        refine And.intro (rfl : (_ : Nat) = _) ?_
                        refine And.intro (rfl : (_ : Nat) = _) (And.intro (rfl : (_ : Nat) = _) ⟨(t_Proc c).setCells 0 [.v xx], hset xx, Nat.le_refl _, fun v3 => ?_⟩)
                        exact ⟨_, ⟨_, rfl⟩, wk rfl ⟨rfl, rfl, rfl, rfl, rfl, rfl, rfl, trivial⟩ ⟨rfl, rfl, rfl, rfl, rfl, congrArg (fun z => some (Ob.row qc v3 1 z)) (hfin xx), trivial⟩⟩
        rintro m ⟨v, rfl⟩
        repeat (first | refine brT ?_ | refine brF ?_ | refine And.intro rfl ?_ | refine And.intro trivial ?_ | intro _)
        exact nxt (i + 1, qa, qb, qc, v) hlt (by show L.length - (i + 1) < L.length - i; omega) (wk rfl ⟨rfl, rfl, rfl, congrArg AV.bool (by rw [hst]), rfl, rfl, up1 hlt (by omega), trivial⟩ ⟨rfl, congrArg (fun z : Int => some (Ob.box q4 [.own 51000 qa, .v (.int .i64 z), .own 88000 qb, .own 97000 qc])) hmus.symm, rfl, congrArg (fun z : List Int => some (Ob.row qa 0 1 (z.map T.int))) hcap.symm, congrArg (fun z => some (Ob.row qb 0 2 z)) (by rw [hst]), congrArg (fun z => some (Ob.row qc v 1 z)) (by rw [hst]), trivial⟩)
  · have hin : i = L.length := by omega
    subst hin
    have hR : runS s = stAt L L.length := by unfold runS stAt; rw [List.take_length, hL]
    have hE0 : numsOf e0 = [] := by decide
    have hcE : capsAt L L.length = numsOf (wd L 0) := by
      unfold capsAt
      by_cases h0 : L.length = 0
      · rw [if_pos h0, List.length_eq_zero_iff.1 h0]; exact hE0.symm
      · rw [if_neg h0]
    have hmE : musAt L L.length = (numsOf (wd L 1)).getLast?.getD 0 := by
      unfold musAt
      by_cases h0 : L.length < 2
      · have : wd L 1 = e0 := by unfold wd; rw [List.getD_eq_getElem?_getD, List.getElem?_eq_none (by omega)]; rfl
        rw [if_pos h0, this, hE0]; rfl
      · rw [if_neg h0]
    have hX : specX s = (capsAt L L.length, musAt L L.length, (stAt L L.length).1.1, (stAt L L.length).1.2) := by
      unfold specX
      rw [hR, ← hL, hcE, hmE]
    have hbnd := stAt_bnd (fun w hw => by have := hmem w hw; omega) L.length (Nat.le_refl _)
    have hcl : (capsAt L L.length).length ≤ 20001 := by
      rw [hcE]
      unfold numsOf
      have h1 := cutB_len 32 (wd L 0)
      have h2 : (wd L 0).size ≤ s.size := by
        by_cases h0 : 0 < L.length
        · rw [wd_get h0]; exact hmem _ (List.getElem_mem _)
        · have : wd L 0 = e0 := by unfold wd; rw [List.getD_eq_getElem?_getD, List.getElem?_eq_none (by omega)]; rfl
          rw [this]; exact Nat.zero_le _
      rw [List.length_map, List.length_drop]; omega
    rw [hR, hX]
    generalize capsAt L L.length = C at *
    generalize musAt L L.length = M at *
    obtain ⟨⟨⟨S, P⟩, bad⟩, hS⟩ : ∃ z, z = stAt L L.length := ⟨_, rfl⟩
    rw [← hS] at hbnd ⊢
    obtain ⟨hS1, hP1, hPc, hSc⟩ := hbnd
    simp only at hS1 hP1 hPc hSc
    have hB : Bnd (C, M, S, P) := ⟨hcl, by simp only; omega, hSc, by simp only; omega, fun c hc => by have := hPc c hc; omega⟩
    have hok : ok_Prog (C, M, S, P) := ⟨Nat.le_trans hcl (by decide), ⟨Nat.le_trans (show S.length ≤ 20001 by omega) (by decide), fun x hx => ⟨Nat.le_trans (hSc x hx) (by decide), fun _ _ => trivial⟩⟩, ⟨Nat.le_trans (show P.length ≤ 20001 by omega) (by decide), fun c hc => ⟨Nat.le_trans (show c.length ≤ 20001 by have := hPc c hc; omega) (by decide), fun _ _ => trivial⟩⟩⟩
    have sT := s_l05TextQ (C, M, S, P) hB
    have sO := s_ProgOk (C, M, S, P) hok
    have hb : ((textQ (C, M, S, P)).toList == s.toList) = decide (textQ (C, M, S, P) = s) := beq_str _ _
    refine brL (by show ¬ (decide ((L.length : Int) < (L.length : Int)) = true); simp) (fun _ => ?_)
    repeat (first | refine brT ?_ | refine brF ?_ | refine And.intro rfl ?_ | refine And.intro trivial ?_ | intro _)
    cases bad with
    | true =>
      rw [if_pos (.inl rfl)]
      repeat (first | refine brT ?_ | refine brF ?_ | refine And.intro rfl ?_ | refine And.intro trivial ?_ | intro _)
      exact ⟨1, 2, 1, rfl⟩
    | false =>
      repeat (first | refine brT ?_ | refine brF ?_ | refine And.intro rfl ?_ | refine And.intro trivial ?_ | intro _)
      refine ⟨_, sT, ?_⟩
      by_cases he : textQ (C, M, S, P) = s
      · rw [decide_eq_true he] at hb
        rw [if_neg (by rintro (e | e); cases e; exact e he)]
        repeat (first | (first | refine brT ?_ | refine brF ?_ | refine And.intro rfl ?_ | refine And.intro trivial ?_ | intro _) | refine brL (by show ¬ ((bif false then true else !((textQ (C, M, S, P)).toList == s.toList)) = true); rw [hb]; decide) (fun _ => ?_))
        cases hO : progOk (C, M, S, P) with
        | false =>
          rw [hO] at sO
          rw [if_neg (by decide)]
          refine ⟨_, sO, ?_⟩
          repeat (first | refine brT ?_ | refine brF ?_ | refine And.intro rfl ?_ | refine And.intro trivial ?_ | intro _)
          exact ⟨1, 2, 1, rfl⟩
        | true =>
          rw [hO] at sO
          rw [if_pos rfl]
          refine ⟨_, sO, ?_⟩
          repeat (first | refine brT ?_ | refine brF ?_ | refine And.intro rfl ?_ | refine And.intro trivial ?_ | intro _)
          exact rfl
      · rw [decide_eq_false he] at hb
        rw [if_pos (.inr he)]
        repeat (first | (first | refine brT ?_ | refine brF ?_ | refine And.intro rfl ?_ | refine And.intro trivial ?_ | intro _) | refine brR (by show ¬ ((bif false then true else !((textQ (C, M, S, P)).toList == s.toList)) = false); rw [hb]; decide) (fun _ => ?_))
        exact ⟨1, 2, 1, rfl⟩


end Go.Proofs.YtphikogfogejlaaDoor.E
