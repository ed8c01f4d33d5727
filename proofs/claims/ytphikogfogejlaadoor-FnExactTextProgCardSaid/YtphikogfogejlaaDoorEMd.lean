/- Contracts of functions of this seat's program. -/
import Derived.Test.YtphikogfogejlaaDoorETy
import Derived.Test.YtphikogfogejlaaDoorEP
namespace Go.Proofs.YtphikogfogejlaaDoor.E
set_option linter.unusedVariables false
set_option linter.unusedSimpArgs false
set_option maxHeartbeats 1600000
/-! marks of Instr -/
def m_Instr (x : Y_Instr) (k : Int) : T := .agg [T.int (k), T.int (k + 1), T.int (k + 1 + 1), T.int (k + 1 + 1 + 1)]
def n_Instr (x : Y_Instr) : Int := 1 + 1 + 1 + 1
theorem n0_Instr (x : Y_Instr) : 0 ≤ n_Instr x := by
  unfold n_Instr
  omega
theorem le_Instr (x : Y_Instr) (h : ok_Instr x) : n_Instr x ≤ 4 := by
  unfold n_Instr
  omega
theorem le_InstrS (l : List Y_Instr) (h : l.length ≤ bound ∧ ∀ y ∈ l, ok_Instr y) : nL n_Instr l ≤ 67108864 := nL_big n0_Instr (fun x hx => le_Instr x (h.2 x hx)) h.1
theorem s_markInstrS (l : List Y_Instr) (k : Int) (h : l.length ≤ bound ∧ ∀ y ∈ l, ok_Instr y) (h0 : 0 ≤ k) (hk : k + nL n_Instr l ≤ 4611686018427387904) : Spec Tryd.prog 82 [.rw (.sl 4 (l.map t_Instr)) (.sl 4 (mL m_Instr n_Instr l k)), .ro (.int k)] [.int (k + nL n_Instr l)] := by
  obtain ⟨hl, hel⟩ := h
  have hl' : l.length ≤ 16777216 := hl
  refine fn Tryd.func82 ?_
  refine loopI (fun x : Nat × Nat => ⟨41, [(0, .c (.own 500 0)), (1, .int (k + nL n_Instr (l.take x.1))), (5, .int x.1)], [(500, .row 0 x.2 4 (mL m_Instr n_Instr (l.take x.1) k ++ (l.drop x.1).map t_Instr))]⟩) (fun x => l.length - x.1) (fun x => x.1 ≤ l.length) (0, 0) (Nat.zero_le _)
    (wk rfl ⟨rfl, congrArg AV.int (by simp [nL]), rfl, trivial⟩ ⟨rfl, trivial⟩) ?_
  rintro ⟨i, v⟩ hi
  simp only at hi
  repeat (first | refine brT ?_ | refine brF ?_ | refine And.intro rfl ?_ | refine And.intro trivial ?_ | intro _)
  refine brD (fun h => ?_) (fun h => ?_)
  · have hlt : i < l.length := by simp [mL_len] at h; omega
    have hh := hel _ (List.getElem_mem hlt)
    have hn0 := n0_Instr l[i]
    have hna := nL_at (n := n_Instr) hlt
    have hnl := nL_le n0_Instr l (i + 1)
    have hnb := nL_nonneg n0_Instr (l.take i)
    have hlen : (mL m_Instr n_Instr (l.take i) k ++ (l.drop i).map t_Instr).length = l.length := by simp [mL_len]; omega
    have hat : (mL m_Instr n_Instr (l.take i) k ++ (l.drop i).map t_Instr)[((i : Int)).toNat]? = some (t_Instr l[i]) := by
      have h1 : min i l.length = i := by omega
      simp [List.getElem?_append_right, mL_len, h1, hlt]
    have hfin := mark_set (mL m_Instr n_Instr (l.take i) k) (l.map t_Instr) (m_Instr l[i] (k + nL n_Instr (l.take i))) i (by simp [mL_len]; omega) (by simpa using hlt)
    rw [← mL_succ hlt, ← List.map_drop, ← List.map_drop] at hfin
    generalize hK : k + nL n_Instr (l.take i) = K at *
    obtain ⟨x, hx⟩ : ∃ x, x = l[i] := ⟨_, rfl⟩
    rw [← hx] at hh hat hfin
    rw [← hx] at hn0 hna
    have hn1 : n_Instr x = 1 + 1 + 1 + 1 := rfl
    repeat (first | refine brT ?_ | refine brF ?_ | refine And.intro rfl ?_ | refine And.intro trivial ?_ | intro _)
    refine ⟨nn i, by simp [mL_len]; omega, ?_⟩
    repeat (first | refine brT ?_ | refine brF ?_ | refine And.intro rfl ?_ | refine And.intro trivial ?_ | intro _)
    refine ⟨_, hat, by simp, fun v0 => ?_⟩
    have e0 : w64 (K + 1) = K + 1 := w64_id (by omega) (by omega)
    have f0 : w64 (K + 1) = K + 1 := by omega
    repeat (first | refine brT ?_ | refine brF ?_ | refine And.intro rfl ?_ | refine And.intro trivial ?_ | intro _)
    refine ⟨nn i, by simp [mL_len]; omega, ?_⟩
    repeat (first | refine brT ?_ | refine brF ?_ | refine And.intro rfl ?_ | refine And.intro trivial ?_ | intro _)
    refine ⟨_, set_at (by simp [mL_len]; omega), by simp, fun v1 => ?_⟩
    have e1 : w64 (w64 (K + 1) + 1) = w64 (K + 1) + 1 := w64_id (by omega) (by omega)
    have f1 : w64 (w64 (K + 1) + 1) = K + 1 + 1 := by omega
    repeat (first | refine brT ?_ | refine brF ?_ | refine And.intro rfl ?_ | refine And.intro trivial ?_ | intro _)
    refine ⟨nn i, by simp [mL_len]; omega, ?_⟩
    repeat (first | refine brT ?_ | refine brF ?_ | refine And.intro rfl ?_ | refine And.intro trivial ?_ | intro _)
    refine ⟨_, set_at (by simp [mL_len]; omega), by simp, fun v2 => ?_⟩
    have e2 : w64 (w64 (w64 (K + 1) + 1) + 1) = w64 (w64 (K + 1) + 1) + 1 := w64_id (by omega) (by omega)
    have f2 : w64 (w64 (w64 (K + 1) + 1) + 1) = K + 1 + 1 + 1 := by omega
    repeat (first | refine brT ?_ | refine brF ?_ | refine And.intro rfl ?_ | refine And.intro trivial ?_ | intro _)
    refine ⟨nn i, by simp [mL_len]; omega, ?_⟩
    repeat (first | refine brT ?_ | refine brF ?_ | refine And.intro rfl ?_ | refine And.intro trivial ?_ | intro _)
    refine ⟨_, set_at (by simp [mL_len]; omega), by simp, fun v3 => ?_⟩
    have e3 : w64 (w64 (w64 (w64 (K + 1) + 1) + 1) + 1) = w64 (w64 (w64 (K + 1) + 1) + 1) + 1 := w64_id (by omega) (by omega)
    have f3 : w64 (w64 (w64 (w64 (K + 1) + 1) + 1) + 1) = K + 1 + 1 + 1 + 1 := by omega
    repeat (first | refine brT ?_ | refine brF ?_ | refine And.intro rfl ?_ | refine And.intro trivial ?_ | intro _)
    refine nxt (i + 1, v3) hlt (by show l.length - (i + 1) < l.length - i; omega) (wk rfl ⟨rfl, gi rfl (by show w64 (w64 (w64 (w64 (K + 1) + 1) + 1) + 1) = k + nL n_Instr (l.take (i + 1)); omega), up1 hlt hl', trivial⟩ ⟨?_, trivial⟩)
    have hd : T.agg [T.int (K), T.int (w64 (K + 1)), T.int (w64 (w64 (K + 1) + 1)), T.int (w64 (w64 (w64 (K + 1) + 1) + 1))] = m_Instr x K := by
      unfold m_Instr
      try rw [f3]
      try rw [f2]
      try rw [f1]
      try rw [f0]
      try rfl
    have hset : ∀ z0 z1 z2 z3 : T, z3 = m_Instr x K → (((((mL m_Instr n_Instr (l.take i) k ++ (l.drop i).map t_Instr).set i z0).set i z1).set i z2).set i z3) = mL m_Instr n_Instr (l.take (i + 1)) k ++ (l.drop (i + 1)).map t_Instr := fun z0 z1 z2 z3 hd => by
      rw [List.set_set, List.set_set, List.set_set, hd]; exact hfin
    exact congrArg (fun z => some (Ob.row 0 v3 4 z)) (hset _ _ _ _ hd)
  · have : i = l.length := by simp [mL_len] at h; omega
    subst this
    repeat (first | refine brT ?_ | refine brF ?_ | refine And.intro rfl ?_ | refine And.intro trivial ?_ | intro _)
    refine ⟨?_, ?_⟩
    · refine ti ?_
      simp
    · show T.sl 4 _ = T.sl 4 _
      simp
theorem s_heldInstrS (l : List Y_Instr) (k : Int) (h : l.length ≤ bound ∧ ∀ y ∈ l, ok_Instr y) (h0 : 0 ≤ k) (hk : k + nL n_Instr l ≤ 4611686018427387904) : Spec Tryd.prog 83 [.ro (.sl 4 (mL m_Instr n_Instr l k)), .ro (.int k)] [.int (k + nL n_Instr l)] := by
  obtain ⟨hl, hel⟩ := h
  have hl' : l.length ≤ 16777216 := hl
  refine fn Tryd.func83 ?_
  refine loopI (fun i : Nat => ⟨49, [(0, .c (.ro 4 (mL m_Instr n_Instr l k))), (1, .int (k + nL n_Instr (l.take i))), (5, .int i)], []⟩) (fun i => l.length - i) (fun i => i ≤ l.length) 0 (Nat.zero_le _) (wk rfl ⟨rfl, congrArg AV.int (by simp [nL]), rfl, trivial⟩ trivial) ?_
  intro i hi
  refine brD (fun h => ?_) (fun h => ?_)
  · have hlt : i < l.length := by simpa [mL_len] using h
    have hh := hel _ (List.getElem_mem hlt)
    have hn0 := n0_Instr l[i]
    have hna := nL_at (n := n_Instr) hlt
    have hnl := nL_le n0_Instr l (i + 1)
    have hnb := nL_nonneg n0_Instr (l.take i)
    have hat : (mL m_Instr n_Instr l k)[((i : Int)).toNat]? = some (m_Instr l[i] (k + nL n_Instr (l.take i))) := mL_at hlt
    generalize hK : k + nL n_Instr (l.take i) = K at *
    obtain ⟨x, hx⟩ : ∃ x, x = l[i] := ⟨_, rfl⟩
    rw [← hx] at hh hat
    rw [← hx] at hn0 hna
    have hn1 : n_Instr x = 1 + 1 + 1 + 1 := rfl
    repeat (first | refine brT ?_ | refine brF ?_ | refine And.intro rfl ?_ | refine And.intro trivial ?_ | intro _)
    refine ⟨nn i, m_Instr x K, hat, ?_⟩
    repeat (first | refine brT ?_ | refine brF ?_ | refine And.intro rfl ?_ | refine And.intro trivial ?_ | intro _)
    refine brI (fun h1 => ?_) (fun _ => ?_)
    · replace h1 : (K != K) = true := h1
      simp at h1
    have e0 : w64 (K + 1) = K + 1 := w64_id (by omega) (by omega)
    have f0 : w64 (K + 1) = K + 1 := by omega
    repeat (first | refine brT ?_ | refine brF ?_ | refine And.intro rfl ?_ | refine And.intro trivial ?_ | intro _)
    refine ⟨nn i, m_Instr x K, hat, ?_⟩
    repeat (first | refine brT ?_ | refine brF ?_ | refine And.intro rfl ?_ | refine And.intro trivial ?_ | intro _)
    refine brI (fun h1 => ?_) (fun _ => ?_)
    · replace h1 : (K + 1 != w64 (K + 1)) = true := h1
      rw [f0] at h1
      simp at h1
    have e1 : w64 (w64 (K + 1) + 1) = w64 (K + 1) + 1 := w64_id (by omega) (by omega)
    have f1 : w64 (w64 (K + 1) + 1) = K + 1 + 1 := by omega
    repeat (first | refine brT ?_ | refine brF ?_ | refine And.intro rfl ?_ | refine And.intro trivial ?_ | intro _)
    refine ⟨nn i, m_Instr x K, hat, ?_⟩
    repeat (first | refine brT ?_ | refine brF ?_ | refine And.intro rfl ?_ | refine And.intro trivial ?_ | intro _)
    refine brI (fun h1 => ?_) (fun _ => ?_)
    · replace h1 : (K + 1 + 1 != w64 (w64 (K + 1) + 1)) = true := h1
      rw [f1] at h1
      simp at h1
    have e2 : w64 (w64 (w64 (K + 1) + 1) + 1) = w64 (w64 (K + 1) + 1) + 1 := w64_id (by omega) (by omega)
    have f2 : w64 (w64 (w64 (K + 1) + 1) + 1) = K + 1 + 1 + 1 := by omega
    repeat (first | refine brT ?_ | refine brF ?_ | refine And.intro rfl ?_ | refine And.intro trivial ?_ | intro _)
    refine ⟨nn i, m_Instr x K, hat, ?_⟩
    repeat (first | refine brT ?_ | refine brF ?_ | refine And.intro rfl ?_ | refine And.intro trivial ?_ | intro _)
    refine brI (fun h1 => ?_) (fun _ => ?_)
    · replace h1 : (K + 1 + 1 + 1 != w64 (w64 (w64 (K + 1) + 1) + 1)) = true := h1
      rw [f2] at h1
      simp at h1
    have e3 : w64 (w64 (w64 (w64 (K + 1) + 1) + 1) + 1) = w64 (w64 (w64 (K + 1) + 1) + 1) + 1 := w64_id (by omega) (by omega)
    have f3 : w64 (w64 (w64 (w64 (K + 1) + 1) + 1) + 1) = K + 1 + 1 + 1 + 1 := by omega
    repeat (first | refine brT ?_ | refine brF ?_ | refine And.intro rfl ?_ | refine And.intro trivial ?_ | intro _)
    exact nxt (i + 1) hlt (by show l.length - (i + 1) < l.length - i; omega) (wk rfl ⟨rfl, gi rfl (by show w64 (w64 (w64 (w64 (K + 1) + 1) + 1) + 1) = k + nL n_Instr (l.take (i + 1)); omega), up1 hlt hl', trivial⟩ trivial)
  · have : i = l.length := by simp [mL_len] at h; omega
    subst this
    refine ti ?_
    simp
/-! marks of Case -/
def m_Case (x : Y_Case) (k : Int) : T := .agg [T.bool ((k).tmod 3 == 0), T.int (k + 1), T.int (k + 1 + 1), T.int (k + 1 + 1 + 1), T.int (k + 1 + 1 + 1 + 1)]
def n_Case (x : Y_Case) : Int := 1 + 1 + 1 + 1 + 1
theorem n0_Case (x : Y_Case) : 0 ≤ n_Case x := by
  unfold n_Case
  omega
theorem le_Case (x : Y_Case) (h : ok_Case x) : n_Case x ≤ 5 := by
  unfold n_Case
  omega
theorem le_CaseS (l : List Y_Case) (h : l.length ≤ bound ∧ ∀ y ∈ l, ok_Case y) : nL n_Case l ≤ 83886080 := nL_big n0_Case (fun x hx => le_Case x (h.2 x hx)) h.1
theorem s_markCaseS (l : List Y_Case) (k : Int) (h : l.length ≤ bound ∧ ∀ y ∈ l, ok_Case y) (h0 : 0 ≤ k) (hk : k + nL n_Case l ≤ 4611686018427387904) : Spec Tryd.prog 44 [.rw (.sl 5 (l.map t_Case)) (.sl 5 (mL m_Case n_Case l k)), .ro (.int k)] [.int (k + nL n_Case l)] := by
  obtain ⟨hl, hel⟩ := h
  have hl' : l.length ≤ 16777216 := hl
  refine fn Tryd.func44 ?_
  refine loopI (fun x : Nat × Nat => ⟨50, [(0, .c (.own 500 0)), (1, .int (k + nL n_Case (l.take x.1))), (5, .int x.1)], [(500, .row 0 x.2 5 (mL m_Case n_Case (l.take x.1) k ++ (l.drop x.1).map t_Case))]⟩) (fun x => l.length - x.1) (fun x => x.1 ≤ l.length) (0, 0) (Nat.zero_le _)
    (wk rfl ⟨rfl, congrArg AV.int (by simp [nL]), rfl, trivial⟩ ⟨rfl, trivial⟩) ?_
  rintro ⟨i, v⟩ hi
  simp only at hi
  repeat (first | refine brT ?_ | refine brF ?_ | refine And.intro rfl ?_ | refine And.intro trivial ?_ | intro _)
  refine brD (fun h => ?_) (fun h => ?_)
  · have hlt : i < l.length := by simp [mL_len] at h; omega
    have hh := hel _ (List.getElem_mem hlt)
    have hn0 := n0_Case l[i]
    have hna := nL_at (n := n_Case) hlt
    have hnl := nL_le n0_Case l (i + 1)
    have hnb := nL_nonneg n0_Case (l.take i)
    have hlen : (mL m_Case n_Case (l.take i) k ++ (l.drop i).map t_Case).length = l.length := by simp [mL_len]; omega
    have hat : (mL m_Case n_Case (l.take i) k ++ (l.drop i).map t_Case)[((i : Int)).toNat]? = some (t_Case l[i]) := by
      have h1 : min i l.length = i := by omega
      simp [List.getElem?_append_right, mL_len, h1, hlt]
    have hfin := mark_set (mL m_Case n_Case (l.take i) k) (l.map t_Case) (m_Case l[i] (k + nL n_Case (l.take i))) i (by simp [mL_len]; omega) (by simpa using hlt)
    rw [← mL_succ hlt, ← List.map_drop, ← List.map_drop] at hfin
    generalize hK : k + nL n_Case (l.take i) = K at *
    obtain ⟨x, hx⟩ : ∃ x, x = l[i] := ⟨_, rfl⟩
    rw [← hx] at hh hat hfin
    rw [← hx] at hn0 hna
    have hn1 : n_Case x = 1 + 1 + 1 + 1 + 1 := rfl
    repeat (first | refine brT ?_ | refine brF ?_ | refine And.intro rfl ?_ | refine And.intro trivial ?_ | intro _)
    refine ⟨by decide, ?_⟩
    repeat (first | refine brT ?_ | refine brF ?_ | refine And.intro rfl ?_ | refine And.intro trivial ?_ | intro _)
    refine ⟨nn i, by simp [mL_len]; omega, ?_⟩
    repeat (first | refine brT ?_ | refine brF ?_ | refine And.intro rfl ?_ | refine And.intro trivial ?_ | intro _)
    refine ⟨_, hat, by simp, fun v0 => ?_⟩
    have e0 : w64 (K + 1) = K + 1 := w64_id (by omega) (by omega)
    have f0 : w64 (K + 1) = K + 1 := by omega
    repeat (first | refine brT ?_ | refine brF ?_ | refine And.intro rfl ?_ | refine And.intro trivial ?_ | intro _)
    refine ⟨nn i, by simp [mL_len]; omega, ?_⟩
    repeat (first | refine brT ?_ | refine brF ?_ | refine And.intro rfl ?_ | refine And.intro trivial ?_ | intro _)
    refine ⟨_, set_at (by simp [mL_len]; omega), by simp, fun v1 => ?_⟩
    have e1 : w64 (w64 (K + 1) + 1) = w64 (K + 1) + 1 := w64_id (by omega) (by omega)
    have f1 : w64 (w64 (K + 1) + 1) = K + 1 + 1 := by omega
    repeat (first | refine brT ?_ | refine brF ?_ | refine And.intro rfl ?_ | refine And.intro trivial ?_ | intro _)
    refine ⟨nn i, by simp [mL_len]; omega, ?_⟩
    repeat (first | refine brT ?_ | refine brF ?_ | refine And.intro rfl ?_ | refine And.intro trivial ?_ | intro _)
    refine ⟨_, set_at (by simp [mL_len]; omega), by simp, fun v2 => ?_⟩
    have e2 : w64 (w64 (w64 (K + 1) + 1) + 1) = w64 (w64 (K + 1) + 1) + 1 := w64_id (by omega) (by omega)
    have f2 : w64 (w64 (w64 (K + 1) + 1) + 1) = K + 1 + 1 + 1 := by omega
    repeat (first | refine brT ?_ | refine brF ?_ | refine And.intro rfl ?_ | refine And.intro trivial ?_ | intro _)
    refine ⟨nn i, by simp [mL_len]; omega, ?_⟩
    repeat (first | refine brT ?_ | refine brF ?_ | refine And.intro rfl ?_ | refine And.intro trivial ?_ | intro _)
    refine ⟨_, set_at (by simp [mL_len]; omega), by simp, fun v3 => ?_⟩
    have e3 : w64 (w64 (w64 (w64 (K + 1) + 1) + 1) + 1) = w64 (w64 (w64 (K + 1) + 1) + 1) + 1 := w64_id (by omega) (by omega)
    have f3 : w64 (w64 (w64 (w64 (K + 1) + 1) + 1) + 1) = K + 1 + 1 + 1 + 1 := by omega
    repeat (first | refine brT ?_ | refine brF ?_ | refine And.intro rfl ?_ | refine And.intro trivial ?_ | intro _)
    refine ⟨nn i, by simp [mL_len]; omega, ?_⟩
    repeat (first | refine brT ?_ | refine brF ?_ | refine And.intro rfl ?_ | refine And.intro trivial ?_ | intro _)
    refine ⟨_, set_at (by simp [mL_len]; omega), by simp, fun v4 => ?_⟩
    have e4 : w64 (w64 (w64 (w64 (w64 (K + 1) + 1) + 1) + 1) + 1) = w64 (w64 (w64 (w64 (K + 1) + 1) + 1) + 1) + 1 := w64_id (by omega) (by omega)
    have f4 : w64 (w64 (w64 (w64 (w64 (K + 1) + 1) + 1) + 1) + 1) = K + 1 + 1 + 1 + 1 + 1 := by omega
    repeat (first | refine brT ?_ | refine brF ?_ | refine And.intro rfl ?_ | refine And.intro trivial ?_ | intro _)
    refine nxt (i + 1, v4) hlt (by show l.length - (i + 1) < l.length - i; omega) (wk rfl ⟨rfl, gi rfl (by show w64 (w64 (w64 (w64 (w64 (K + 1) + 1) + 1) + 1) + 1) = k + nL n_Case (l.take (i + 1)); omega), up1 hlt hl', trivial⟩ ⟨?_, trivial⟩)
    have hd : T.agg [T.bool ((K).tmod 3 == 0), T.int (w64 (K + 1)), T.int (w64 (w64 (K + 1) + 1)), T.int (w64 (w64 (w64 (K + 1) + 1) + 1)), T.int (w64 (w64 (w64 (w64 (K + 1) + 1) + 1) + 1))] = m_Case x K := by
      unfold m_Case
      try rw [f4]
      try rw [f3]
      try rw [f2]
      try rw [f1]
      try rw [f0]
      try rfl
    have hset : ∀ z0 z1 z2 z3 z4 : T, z4 = m_Case x K → ((((((mL m_Case n_Case (l.take i) k ++ (l.drop i).map t_Case).set i z0).set i z1).set i z2).set i z3).set i z4) = mL m_Case n_Case (l.take (i + 1)) k ++ (l.drop (i + 1)).map t_Case := fun z0 z1 z2 z3 z4 hd => by
      rw [List.set_set, List.set_set, List.set_set, List.set_set, hd]; exact hfin
    exact congrArg (fun z => some (Ob.row 0 v4 5 z)) (hset _ _ _ _ _ hd)
  · have : i = l.length := by simp [mL_len] at h; omega
    subst this
    repeat (first | refine brT ?_ | refine brF ?_ | refine And.intro rfl ?_ | refine And.intro trivial ?_ | intro _)
    refine ⟨?_, ?_⟩
    · refine ti ?_
      simp
    · show T.sl 5 _ = T.sl 5 _
      simp
theorem s_heldCaseS (l : List Y_Case) (k : Int) (h : l.length ≤ bound ∧ ∀ y ∈ l, ok_Case y) (h0 : 0 ≤ k) (hk : k + nL n_Case l ≤ 4611686018427387904) : Spec Tryd.prog 45 [.ro (.sl 5 (mL m_Case n_Case l k)), .ro (.int k)] [.int (k + nL n_Case l)] := by
  obtain ⟨hl, hel⟩ := h
  have hl' : l.length ≤ 16777216 := hl
  refine fn Tryd.func45 ?_
  refine loopI (fun i : Nat => ⟨60, [(0, .c (.ro 5 (mL m_Case n_Case l k))), (1, .int (k + nL n_Case (l.take i))), (5, .int i)], []⟩) (fun i => l.length - i) (fun i => i ≤ l.length) 0 (Nat.zero_le _) (wk rfl ⟨rfl, congrArg AV.int (by simp [nL]), rfl, trivial⟩ trivial) ?_
  intro i hi
  refine brD (fun h => ?_) (fun h => ?_)
  · have hlt : i < l.length := by simpa [mL_len] using h
    have hh := hel _ (List.getElem_mem hlt)
    have hn0 := n0_Case l[i]
    have hna := nL_at (n := n_Case) hlt
    have hnl := nL_le n0_Case l (i + 1)
    have hnb := nL_nonneg n0_Case (l.take i)
    have hat : (mL m_Case n_Case l k)[((i : Int)).toNat]? = some (m_Case l[i] (k + nL n_Case (l.take i))) := mL_at hlt
    generalize hK : k + nL n_Case (l.take i) = K at *
    obtain ⟨x, hx⟩ : ∃ x, x = l[i] := ⟨_, rfl⟩
    rw [← hx] at hh hat
    rw [← hx] at hn0 hna
    have hn1 : n_Case x = 1 + 1 + 1 + 1 + 1 := rfl
    repeat (first | refine brT ?_ | refine brF ?_ | refine And.intro rfl ?_ | refine And.intro trivial ?_ | intro _)
    refine ⟨nn i, m_Case x K, hat, ?_⟩
    repeat (first | refine brT ?_ | refine brF ?_ | refine And.intro rfl ?_ | refine And.intro trivial ?_ | intro _)
    refine ⟨by decide, ?_⟩
    repeat (first | refine brT ?_ | refine brF ?_ | refine And.intro rfl ?_ | refine And.intro trivial ?_ | intro _)
    refine brI (fun h1 => ?_) (fun _ => ?_)
    · replace h1 : (!(((K).tmod 3 == 0) == ((K).tmod 3 == 0))) = true := h1
      simp at h1
    have e0 : w64 (K + 1) = K + 1 := w64_id (by omega) (by omega)
    have f0 : w64 (K + 1) = K + 1 := by omega
    repeat (first | refine brT ?_ | refine brF ?_ | refine And.intro rfl ?_ | refine And.intro trivial ?_ | intro _)
    refine ⟨nn i, m_Case x K, hat, ?_⟩
    repeat (first | refine brT ?_ | refine brF ?_ | refine And.intro rfl ?_ | refine And.intro trivial ?_ | intro _)
    refine brI (fun h1 => ?_) (fun _ => ?_)
    · replace h1 : (K + 1 != w64 (K + 1)) = true := h1
      rw [f0] at h1
      simp at h1
    have e1 : w64 (w64 (K + 1) + 1) = w64 (K + 1) + 1 := w64_id (by omega) (by omega)
    have f1 : w64 (w64 (K + 1) + 1) = K + 1 + 1 := by omega
    repeat (first | refine brT ?_ | refine brF ?_ | refine And.intro rfl ?_ | refine And.intro trivial ?_ | intro _)
    refine ⟨nn i, m_Case x K, hat, ?_⟩
    repeat (first | refine brT ?_ | refine brF ?_ | refine And.intro rfl ?_ | refine And.intro trivial ?_ | intro _)
    refine brI (fun h1 => ?_) (fun _ => ?_)
    · replace h1 : (K + 1 + 1 != w64 (w64 (K + 1) + 1)) = true := h1
      rw [f1] at h1
      simp at h1
    have e2 : w64 (w64 (w64 (K + 1) + 1) + 1) = w64 (w64 (K + 1) + 1) + 1 := w64_id (by omega) (by omega)
    have f2 : w64 (w64 (w64 (K + 1) + 1) + 1) = K + 1 + 1 + 1 := by omega
    repeat (first | refine brT ?_ | refine brF ?_ | refine And.intro rfl ?_ | refine And.intro trivial ?_ | intro _)
    refine ⟨nn i, m_Case x K, hat, ?_⟩
    repeat (first | refine brT ?_ | refine brF ?_ | refine And.intro rfl ?_ | refine And.intro trivial ?_ | intro _)
    refine brI (fun h1 => ?_) (fun _ => ?_)
    · replace h1 : (K + 1 + 1 + 1 != w64 (w64 (w64 (K + 1) + 1) + 1)) = true := h1
      rw [f2] at h1
      simp at h1
    have e3 : w64 (w64 (w64 (w64 (K + 1) + 1) + 1) + 1) = w64 (w64 (w64 (K + 1) + 1) + 1) + 1 := w64_id (by omega) (by omega)
    have f3 : w64 (w64 (w64 (w64 (K + 1) + 1) + 1) + 1) = K + 1 + 1 + 1 + 1 := by omega
    repeat (first | refine brT ?_ | refine brF ?_ | refine And.intro rfl ?_ | refine And.intro trivial ?_ | intro _)
    refine ⟨nn i, m_Case x K, hat, ?_⟩
    repeat (first | refine brT ?_ | refine brF ?_ | refine And.intro rfl ?_ | refine And.intro trivial ?_ | intro _)
    refine brI (fun h1 => ?_) (fun _ => ?_)
    · replace h1 : (K + 1 + 1 + 1 + 1 != w64 (w64 (w64 (w64 (K + 1) + 1) + 1) + 1)) = true := h1
      rw [f3] at h1
      simp at h1
    have e4 : w64 (w64 (w64 (w64 (w64 (K + 1) + 1) + 1) + 1) + 1) = w64 (w64 (w64 (w64 (K + 1) + 1) + 1) + 1) + 1 := w64_id (by omega) (by omega)
    have f4 : w64 (w64 (w64 (w64 (w64 (K + 1) + 1) + 1) + 1) + 1) = K + 1 + 1 + 1 + 1 + 1 := by omega
    repeat (first | refine brT ?_ | refine brF ?_ | refine And.intro rfl ?_ | refine And.intro trivial ?_ | intro _)
    exact nxt (i + 1) hlt (by show l.length - (i + 1) < l.length - i; omega) (wk rfl ⟨rfl, gi rfl (by show w64 (w64 (w64 (w64 (w64 (K + 1) + 1) + 1) + 1) + 1) = k + nL n_Case (l.take (i + 1)); omega), up1 hlt hl', trivial⟩ trivial)
  · have : i = l.length := by simp [mL_len] at h; omega
    subst this
    refine ti ?_
    simp
/-! marks of Select -/
def m_Select (x : Y_Select) (k : Int) : T := .agg [.sl 5 (mL m_Case n_Case (x.1) (k)), T.int (k + nL n_Case (x.1))]
def n_Select (x : Y_Select) : Int := nL n_Case (x.1) + 1
theorem n0_Select (x : Y_Select) : 0 ≤ n_Select x := by
  have c0 : 0 ≤ nL n_Case (x.1) := (nL_nonneg n0_Case (x.1))
  unfold n_Select
  omega
theorem le_Select (x : Y_Select) (h : ok_Select x) : n_Select x ≤ 83886081 := by
  have c0 : nL n_Case (x.1) ≤ 83886080 := (le_CaseS _ (h))
  unfold n_Select
  omega
theorem le_SelectS (l : List Y_Select) (h : l.length ≤ bound ∧ ∀ y ∈ l, ok_Select y) : nL n_Select l ≤ 1407374900330496 := nL_big n0_Select (fun x hx => le_Select x (h.2 x hx)) h.1
def mv_Select (x : Y_Select) (k : Int) : T := .agg [.sl 5 (mL m_Case n_Case (x.1) (k)), T.int (x.2)]
def nv_Select (x : Y_Select) : Int := nL n_Case (x.1)
theorem nv0_Select (x : Y_Select) : 0 ≤ nv_Select x := by
  have c0 : 0 ≤ nL n_Case (x.1) := (nL_nonneg n0_Case (x.1))
  unfold nv_Select
  omega
theorem nvle_Select (x : Y_Select) (h : ok_Select x) : nv_Select x ≤ 83886080 := by
  have c0 : nL n_Case (x.1) ≤ 83886080 := (le_CaseS _ (h))
  unfold nv_Select
  omega
theorem s_markSelect (x : Y_Select) (k : Int) (h : ok_Select x) (h0 : 0 ≤ k) (hk : k + nv_Select x ≤ 4611686018427387904) : Spec Tryd.prog 15 [.rw (t_Select x) (mv_Select x k), .ro (.int k)] [.int (k + nv_Select x)] := by
  refine fn Tryd.func15 ?_
  unfold nv_Select at hk
  have c0 : 0 ≤ nL n_Case (x.1) := (nL_nonneg n0_Case (x.1))
  repeat (first | refine brT ?_ | refine brF ?_ | refine And.intro rfl ?_ | refine And.intro trivial ?_ | intro _)
  refine ⟨_, rfl, _, s_markCaseS (x.1) (k) (h) (by omega) (by omega), ?_⟩
  repeat (first | refine brT ?_ | refine brF ?_ | refine And.intro rfl ?_ | refine And.intro trivial ?_ | intro _)
  first
  | exact rfl
  | refine ⟨ti (by unfold nv_Select; omega), ?_⟩
    repeat (first | refine brT ?_ | refine brF ?_ | refine And.intro rfl ?_ | refine And.intro trivial ?_ | intro _)
    exact rfl
theorem s_heldSelect (x : Y_Select) (k : Int) (h : ok_Select x) (h0 : 0 ≤ k) (hk : k + nv_Select x ≤ 4611686018427387904) : Spec Tryd.prog 16 [.ro (mv_Select x k), .ro (.int k)] [.int (k + nv_Select x)] := by
  refine fn Tryd.func16 ?_
  unfold nv_Select at hk
  have c0 : 0 ≤ nL n_Case (x.1) := (nL_nonneg n0_Case (x.1))
  repeat (first | refine brT ?_ | refine brF ?_ | refine And.intro rfl ?_ | refine And.intro trivial ?_ | intro _)
  refine ⟨_, s_heldCaseS (x.1) (k) (h) (by omega) (by omega), ?_⟩
  intro _
  refine brI (fun h1 => ?_) (fun _ => ?_)
  · have := of_decide_eq_true h1; omega
  repeat (first | refine brT ?_ | refine brF ?_ | refine And.intro rfl ?_ | refine And.intro trivial ?_ | intro _)
  refine ti (by unfold nv_Select; omega)
theorem s_markSelectS (l : List Y_Select) (k : Int) (h : l.length ≤ bound ∧ ∀ y ∈ l, ok_Select y) (h0 : 0 ≤ k) (hk : k + nL n_Select l ≤ 4611686018427387904) : Spec Tryd.prog 54 [.rw (.sl 2 (l.map t_Select)) (.sl 2 (mL m_Select n_Select l k)), .ro (.int k)] [.int (k + nL n_Select l)] := by
  obtain ⟨hl, hel⟩ := h
  have hl' : l.length ≤ 16777216 := hl
  refine fn Tryd.func54 ?_
  refine loopI (fun x : Nat × Nat => ⟨27, [(0, .c (.own 500 0)), (1, .int (k + nL n_Select (l.take x.1))), (5, .int x.1)], [(500, .row 0 x.2 2 (mL m_Select n_Select (l.take x.1) k ++ (l.drop x.1).map t_Select))]⟩) (fun x => l.length - x.1) (fun x => x.1 ≤ l.length) (0, 0) (Nat.zero_le _)
    (wk rfl ⟨rfl, congrArg AV.int (by simp [nL]), rfl, trivial⟩ ⟨rfl, trivial⟩) ?_
  rintro ⟨i, v⟩ hi
  simp only at hi
  repeat (first | refine brT ?_ | refine brF ?_ | refine And.intro rfl ?_ | refine And.intro trivial ?_ | intro _)
  refine brD (fun h => ?_) (fun h => ?_)
  · have hlt : i < l.length := by simp [mL_len] at h; omega
    have hh := hel _ (List.getElem_mem hlt)
    have hn0 := n0_Select l[i]
    have hna := nL_at (n := n_Select) hlt
    have hnl := nL_le n0_Select l (i + 1)
    have hnb := nL_nonneg n0_Select (l.take i)
    have hlen : (mL m_Select n_Select (l.take i) k ++ (l.drop i).map t_Select).length = l.length := by simp [mL_len]; omega
    have hat : (mL m_Select n_Select (l.take i) k ++ (l.drop i).map t_Select)[((i : Int)).toNat]? = some (t_Select l[i]) := by
      have h1 : min i l.length = i := by omega
      simp [List.getElem?_append_right, mL_len, h1, hlt]
    have hfin := mark_set (mL m_Select n_Select (l.take i) k) (l.map t_Select) (m_Select l[i] (k + nL n_Select (l.take i))) i (by simp [mL_len]; omega) (by simpa using hlt)
    rw [← mL_succ hlt, ← List.map_drop, ← List.map_drop] at hfin
    generalize hK : k + nL n_Select (l.take i) = K at *
    obtain ⟨x, hx⟩ : ∃ x, x = l[i] := ⟨_, rfl⟩
    rw [← hx] at hh hat hfin
    rw [← hx] at hn0 hna
    have hn1 : n_Select x = nL n_Case (x.1) + 1 := rfl
    have c0 : 0 ≤ nL n_Case (x.1) := (nL_nonneg n0_Case (x.1))
    repeat (first | refine brT ?_ | refine brF ?_ | refine And.intro rfl ?_ | refine And.intro trivial ?_ | intro _)
    refine ⟨nn i, by simp [mL_len]; omega, ?_⟩
    repeat (first | refine brT ?_ | refine brF ?_ | refine And.intro rfl ?_ | refine And.intro trivial ?_ | intro _)
    refine ⟨_, hat, ?_⟩
    repeat (first | refine brT ?_ | refine brF ?_ | refine And.intro rfl ?_ | refine And.intro trivial ?_ | intro _)
    refine ⟨_, rfl, rfl, ((i : Int)).toNat, 0, _, _, _, rfl, by decide, hat, rfl, s_markCaseS (x.1) (K) (hh) (by omega) (by omega), fun v0 => ?_⟩
    repeat (first | refine brT ?_ | refine brF ?_ | refine And.intro rfl ?_ | refine And.intro trivial ?_ | intro _)
    refine ⟨nn i, by simp [mL_len]; omega, ?_⟩
    repeat (first | refine brT ?_ | refine brF ?_ | refine And.intro rfl ?_ | refine And.intro trivial ?_ | intro _)
    refine ⟨_, set_at (by simp [mL_len]; omega), by simp, fun v1 => ?_⟩
    have e1 : w64 (K + nL n_Case (x.1) + 1) = K + nL n_Case (x.1) + 1 := w64_id (by omega) (by omega)
    have f1 : w64 (K + nL n_Case (x.1) + 1) = K + nL n_Case (x.1) + 1 := by omega
    repeat (first | refine brT ?_ | refine brF ?_ | refine And.intro rfl ?_ | refine And.intro trivial ?_ | intro _)
    refine nxt (i + 1, v1) hlt (by show l.length - (i + 1) < l.length - i; omega) (wk rfl ⟨rfl, gi rfl (by show w64 (K + nL n_Case (x.1) + 1) = k + nL n_Select (l.take (i + 1)); omega), up1 hlt hl', trivial⟩ ⟨?_, trivial⟩)
    have hd : T.agg [.sl 5 (mL m_Case n_Case (x.1) (K)), T.int (K + nL n_Case (x.1))] = m_Select x K := by
      unfold m_Select
      try rw [f1]
      try rfl
    have hset : ∀ z0 z1 : T, z1 = m_Select x K → (((mL m_Select n_Select (l.take i) k ++ (l.drop i).map t_Select).set i z0).set i z1) = mL m_Select n_Select (l.take (i + 1)) k ++ (l.drop (i + 1)).map t_Select := fun z0 z1 hd => by
      rw [List.set_set, hd]; exact hfin
    exact congrArg (fun z => some (Ob.row 0 v1 2 z)) (hset _ _ hd)
  · have : i = l.length := by simp [mL_len] at h; omega
    subst this
    repeat (first | refine brT ?_ | refine brF ?_ | refine And.intro rfl ?_ | refine And.intro trivial ?_ | intro _)
    refine ⟨?_, ?_⟩
    · refine ti ?_
      simp
    · show T.sl 2 _ = T.sl 2 _
      simp
theorem s_heldSelectS (l : List Y_Select) (k : Int) (h : l.length ≤ bound ∧ ∀ y ∈ l, ok_Select y) (h0 : 0 ≤ k) (hk : k + nL n_Select l ≤ 4611686018427387904) : Spec Tryd.prog 57 [.ro (.sl 2 (mL m_Select n_Select l k)), .ro (.int k)] [.int (k + nL n_Select l)] := by
  obtain ⟨hl, hel⟩ := h
  have hl' : l.length ≤ 16777216 := hl
  refine fn Tryd.func57 ?_
  refine loopI (fun i : Nat => ⟨31, [(0, .c (.ro 2 (mL m_Select n_Select l k))), (1, .int (k + nL n_Select (l.take i))), (5, .int i)], []⟩) (fun i => l.length - i) (fun i => i ≤ l.length) 0 (Nat.zero_le _) (wk rfl ⟨rfl, congrArg AV.int (by simp [nL]), rfl, trivial⟩ trivial) ?_
  intro i hi
  refine brD (fun h => ?_) (fun h => ?_)
  · have hlt : i < l.length := by simpa [mL_len] using h
    have hh := hel _ (List.getElem_mem hlt)
    have hn0 := n0_Select l[i]
    have hna := nL_at (n := n_Select) hlt
    have hnl := nL_le n0_Select l (i + 1)
    have hnb := nL_nonneg n0_Select (l.take i)
    have hat : (mL m_Select n_Select l k)[((i : Int)).toNat]? = some (m_Select l[i] (k + nL n_Select (l.take i))) := mL_at hlt
    generalize hK : k + nL n_Select (l.take i) = K at *
    obtain ⟨x, hx⟩ : ∃ x, x = l[i] := ⟨_, rfl⟩
    rw [← hx] at hh hat
    rw [← hx] at hn0 hna
    have hn1 : n_Select x = nL n_Case (x.1) + 1 := rfl
    have c0 : 0 ≤ nL n_Case (x.1) := (nL_nonneg n0_Case (x.1))
    repeat (first | refine brT ?_ | refine brF ?_ | refine And.intro rfl ?_ | refine And.intro trivial ?_ | intro _)
    refine ⟨nn i, m_Select x K, hat, ?_⟩
    repeat (first | refine brT ?_ | refine brF ?_ | refine And.intro rfl ?_ | refine And.intro trivial ?_ | intro _)
    have s0 := s_heldCaseS (x.1) (K) (hh) (by omega) (by omega)
    refine ⟨_, s0, ?_⟩
    intro _
    refine brI (fun h1 => ?_) (fun _ => ?_)
    · have := of_decide_eq_true h1; omega
    repeat (first | refine brT ?_ | refine brF ?_ | refine And.intro rfl ?_ | refine And.intro trivial ?_ | intro _)
    refine ⟨nn i, m_Select x K, hat, ?_⟩
    repeat (first | refine brT ?_ | refine brF ?_ | refine And.intro rfl ?_ | refine And.intro trivial ?_ | intro _)
    refine brI (fun h1 => ?_) (fun _ => ?_)
    · replace h1 : (K + nL n_Case (x.1) != K + nL n_Case (x.1)) = true := h1
      simp at h1
    have e1 : w64 (K + nL n_Case (x.1) + 1) = K + nL n_Case (x.1) + 1 := w64_id (by omega) (by omega)
    have f1 : w64 (K + nL n_Case (x.1) + 1) = K + nL n_Case (x.1) + 1 := by omega
    repeat (first | refine brT ?_ | refine brF ?_ | refine And.intro rfl ?_ | refine And.intro trivial ?_ | intro _)
    exact nxt (i + 1) hlt (by show l.length - (i + 1) < l.length - i; omega) (wk rfl ⟨rfl, gi rfl (by show w64 (K + nL n_Case (x.1) + 1) = k + nL n_Select (l.take (i + 1)); omega), up1 hlt hl', trivial⟩ trivial)
  · have : i = l.length := by simp [mL_len] at h; omega
    subst this
    refine ti ?_
    simp
/-! marks of Proc -/
def m_Proc (x : Y_Proc) (k : Int) : T := .agg [.sl 4 (mL m_Instr n_Instr (x) (k))]
def n_Proc (x : Y_Proc) : Int := nL n_Instr (x)
theorem n0_Proc (x : Y_Proc) : 0 ≤ n_Proc x := by
  have c0 : 0 ≤ nL n_Instr (x) := (nL_nonneg n0_Instr (x))
  unfold n_Proc
  omega
theorem le_Proc (x : Y_Proc) (h : ok_Proc x) : n_Proc x ≤ 67108864 := by
  have c0 : nL n_Instr (x) ≤ 67108864 := (le_InstrS _ (h))
  unfold n_Proc
  omega
theorem le_ProcS (l : List Y_Proc) (h : l.length ≤ bound ∧ ∀ y ∈ l, ok_Proc y) : nL n_Proc l ≤ 1125899906842624 := nL_big n0_Proc (fun x hx => le_Proc x (h.2 x hx)) h.1
theorem s_markProcS (l : List Y_Proc) (k : Int) (h : l.length ≤ bound ∧ ∀ y ∈ l, ok_Proc y) (h0 : 0 ≤ k) (hk : k + nL n_Proc l ≤ 4611686018427387904) : Spec Tryd.prog 55 [.rw (.sl 1 (l.map t_Proc)) (.sl 1 (mL m_Proc n_Proc l k)), .ro (.int k)] [.int (k + nL n_Proc l)] := by
  obtain ⟨hl, hel⟩ := h
  have hl' : l.length ≤ 16777216 := hl
  refine fn Tryd.func55 ?_
  refine loopI (fun x : Nat × Nat => ⟨20, [(0, .c (.own 500 0)), (1, .int (k + nL n_Proc (l.take x.1))), (5, .int x.1)], [(500, .row 0 x.2 1 (mL m_Proc n_Proc (l.take x.1) k ++ (l.drop x.1).map t_Proc))]⟩) (fun x => l.length - x.1) (fun x => x.1 ≤ l.length) (0, 0) (Nat.zero_le _)
    (wk rfl ⟨rfl, congrArg AV.int (by simp [nL]), rfl, trivial⟩ ⟨rfl, trivial⟩) ?_
  rintro ⟨i, v⟩ hi
  simp only at hi
  repeat (first | refine brT ?_ | refine brF ?_ | refine And.intro rfl ?_ | refine And.intro trivial ?_ | intro _)
  refine brD (fun h => ?_) (fun h => ?_)
  · have hlt : i < l.length := by simp [mL_len] at h; omega
    have hh := hel _ (List.getElem_mem hlt)
    have hn0 := n0_Proc l[i]
    have hna := nL_at (n := n_Proc) hlt
    have hnl := nL_le n0_Proc l (i + 1)
    have hnb := nL_nonneg n0_Proc (l.take i)
    have hlen : (mL m_Proc n_Proc (l.take i) k ++ (l.drop i).map t_Proc).length = l.length := by simp [mL_len]; omega
    have hat : (mL m_Proc n_Proc (l.take i) k ++ (l.drop i).map t_Proc)[((i : Int)).toNat]? = some (t_Proc l[i]) := by
      have h1 : min i l.length = i := by omega
      simp [List.getElem?_append_right, mL_len, h1, hlt]
    have hfin := mark_set (mL m_Proc n_Proc (l.take i) k) (l.map t_Proc) (m_Proc l[i] (k + nL n_Proc (l.take i))) i (by simp [mL_len]; omega) (by simpa using hlt)
    rw [← mL_succ hlt, ← List.map_drop, ← List.map_drop] at hfin
    generalize hK : k + nL n_Proc (l.take i) = K at *
    obtain ⟨x, hx⟩ : ∃ x, x = l[i] := ⟨_, rfl⟩
    rw [← hx] at hh hat hfin
    rw [← hx] at hn0 hna
    have hn1 : n_Proc x = nL n_Instr (x) := rfl
    have c0 : 0 ≤ nL n_Instr (x) := (nL_nonneg n0_Instr (x))
    repeat (first | refine brT ?_ | refine brF ?_ | refine And.intro rfl ?_ | refine And.intro trivial ?_ | intro _)
    refine ⟨nn i, by simp [mL_len]; omega, ?_⟩
    repeat (first | refine brT ?_ | refine brF ?_ | refine And.intro rfl ?_ | refine And.intro trivial ?_ | intro _)
    refine ⟨_, hat, ?_⟩
    repeat (first | refine brT ?_ | refine brF ?_ | refine And.intro rfl ?_ | refine And.intro trivial ?_ | intro _)
    refine ⟨_, rfl, rfl, ((i : Int)).toNat, 0, _, _, _, rfl, by decide, hat, rfl, s_markInstrS (x) (K) (hh) (by omega) (by omega), fun v0 => ?_⟩
    repeat (first | refine brT ?_ | refine brF ?_ | refine And.intro rfl ?_ | refine And.intro trivial ?_ | intro _)
    refine nxt (i + 1, v0) hlt (by show l.length - (i + 1) < l.length - i; omega) (wk rfl ⟨rfl, gi rfl (by show K + nL n_Instr (x) = k + nL n_Proc (l.take (i + 1)); omega), up1 hlt hl', trivial⟩ ⟨?_, trivial⟩)
    have hd : T.agg [.sl 4 (mL m_Instr n_Instr (x) (K))] = m_Proc x K := by
      unfold m_Proc
      try rfl
    have hset : ∀ z0 : T, z0 = m_Proc x K → ((mL m_Proc n_Proc (l.take i) k ++ (l.drop i).map t_Proc).set i z0) = mL m_Proc n_Proc (l.take (i + 1)) k ++ (l.drop (i + 1)).map t_Proc := fun z0 hd => by
      rw [hd]; exact hfin
    exact congrArg (fun z => some (Ob.row 0 v0 1 z)) (hset _ hd)
  · have : i = l.length := by simp [mL_len] at h; omega
    subst this
    repeat (first | refine brT ?_ | refine brF ?_ | refine And.intro rfl ?_ | refine And.intro trivial ?_ | intro _)
    refine ⟨?_, ?_⟩
    · refine ti ?_
      simp
    · show T.sl 1 _ = T.sl 1 _
      simp
theorem s_heldProcS (l : List Y_Proc) (k : Int) (h : l.length ≤ bound ∧ ∀ y ∈ l, ok_Proc y) (h0 : 0 ≤ k) (hk : k + nL n_Proc l ≤ 4611686018427387904) : Spec Tryd.prog 58 [.ro (.sl 1 (mL m_Proc n_Proc l k)), .ro (.int k)] [.int (k + nL n_Proc l)] := by
  obtain ⟨hl, hel⟩ := h
  have hl' : l.length ≤ 16777216 := hl
  refine fn Tryd.func58 ?_
  refine loopI (fun i : Nat => ⟨22, [(0, .c (.ro 1 (mL m_Proc n_Proc l k))), (1, .int (k + nL n_Proc (l.take i))), (5, .int i)], []⟩) (fun i => l.length - i) (fun i => i ≤ l.length) 0 (Nat.zero_le _) (wk rfl ⟨rfl, congrArg AV.int (by simp [nL]), rfl, trivial⟩ trivial) ?_
  intro i hi
  refine brD (fun h => ?_) (fun h => ?_)
  · have hlt : i < l.length := by simpa [mL_len] using h
    have hh := hel _ (List.getElem_mem hlt)
    have hn0 := n0_Proc l[i]
    have hna := nL_at (n := n_Proc) hlt
    have hnl := nL_le n0_Proc l (i + 1)
    have hnb := nL_nonneg n0_Proc (l.take i)
    have hat : (mL m_Proc n_Proc l k)[((i : Int)).toNat]? = some (m_Proc l[i] (k + nL n_Proc (l.take i))) := mL_at hlt
    generalize hK : k + nL n_Proc (l.take i) = K at *
    obtain ⟨x, hx⟩ : ∃ x, x = l[i] := ⟨_, rfl⟩
    rw [← hx] at hh hat
    rw [← hx] at hn0 hna
    have hn1 : n_Proc x = nL n_Instr (x) := rfl
    have c0 : 0 ≤ nL n_Instr (x) := (nL_nonneg n0_Instr (x))
    repeat (first | refine brT ?_ | refine brF ?_ | refine And.intro rfl ?_ | refine And.intro trivial ?_ | intro _)
    refine ⟨nn i, m_Proc x K, hat, ?_⟩
    repeat (first | refine brT ?_ | refine brF ?_ | refine And.intro rfl ?_ | refine And.intro trivial ?_ | intro _)
    have s0 := s_heldInstrS (x) (K) (hh) (by omega) (by omega)
    refine ⟨_, s0, ?_⟩
    intro _
    refine brI (fun h1 => ?_) (fun _ => ?_)
    · have := of_decide_eq_true h1; omega
    repeat (first | refine brT ?_ | refine brF ?_ | refine And.intro rfl ?_ | refine And.intro trivial ?_ | intro _)
    exact nxt (i + 1) hlt (by show l.length - (i + 1) < l.length - i; omega) (wk rfl ⟨rfl, gi rfl (by show K + nL n_Instr (x) = k + nL n_Proc (l.take (i + 1)); omega), up1 hlt hl', trivial⟩ trivial)
  · have : i = l.length := by simp [mL_len] at h; omega
    subst this
    refine ti ?_
    simp
/-! marks of Prog -/
def m_Prog (x : Y_Prog) (k : Int) : T := .agg [.sl 1 (mkI (x.1).length (k)), T.int (k + ((x.1).length : Int)), .sl 2 (mL m_Select n_Select (x.2.2.1) (k + ((x.1).length : Int) + 1)), .sl 1 (mL m_Proc n_Proc (x.2.2.2) (k + ((x.1).length : Int) + 1 + nL n_Select (x.2.2.1)))]
def n_Prog (x : Y_Prog) : Int := ((x.1).length : Int) + 1 + nL n_Select (x.2.2.1) + nL n_Proc (x.2.2.2)
theorem n0_Prog (x : Y_Prog) : 0 ≤ n_Prog x := by
  have c0 : 0 ≤ ((x.1).length : Int) := (by exact Int.natCast_nonneg _)
  have c1 : 0 ≤ nL n_Select (x.2.2.1) := (nL_nonneg n0_Select (x.2.2.1))
  have c2 : 0 ≤ nL n_Proc (x.2.2.2) := (nL_nonneg n0_Proc (x.2.2.2))
  unfold n_Prog
  omega
theorem le_Prog (x : Y_Prog) (h : ok_Prog x) : n_Prog x ≤ 2533274823950337 := by
  have c0 : ((x.1).length : Int) ≤ 16777216 := (by have h1 : (x.1).length ≤ bound := h.1; unfold bound at h1; omega)
  have c1 : nL n_Select (x.2.2.1) ≤ 1407374900330496 := (le_SelectS _ (h.2.1))
  have c2 : nL n_Proc (x.2.2.2) ≤ 1125899906842624 := (le_ProcS _ (h.2.2))
  unfold n_Prog
  omega
theorem le_ProgS (l : List Y_Prog) (h : l.length ≤ bound ∧ ∀ y ∈ l, ok_Prog y) : nL n_Prog l ≤ 42501298908776777121792 := nL_big n0_Prog (fun x hx => le_Prog x (h.2 x hx)) h.1
def mv_Prog (x : Y_Prog) (k : Int) : T := .agg [.sl 1 (mkI (x.1).length (k)), T.int (x.2.1), .sl 2 (mL m_Select n_Select (x.2.2.1) (k + ((x.1).length : Int))), .sl 1 (mL m_Proc n_Proc (x.2.2.2) (k + ((x.1).length : Int) + nL n_Select (x.2.2.1)))]
def nv_Prog (x : Y_Prog) : Int := ((x.1).length : Int) + nL n_Select (x.2.2.1) + nL n_Proc (x.2.2.2)
theorem nv0_Prog (x : Y_Prog) : 0 ≤ nv_Prog x := by
  have c0 : 0 ≤ ((x.1).length : Int) := (by exact Int.natCast_nonneg _)
  have c1 : 0 ≤ nL n_Select (x.2.2.1) := (nL_nonneg n0_Select (x.2.2.1))
  have c2 : 0 ≤ nL n_Proc (x.2.2.2) := (nL_nonneg n0_Proc (x.2.2.2))
  unfold nv_Prog
  omega
theorem nvle_Prog (x : Y_Prog) (h : ok_Prog x) : nv_Prog x ≤ 2533274823950336 := by
  have c0 : ((x.1).length : Int) ≤ 16777216 := (by have h1 : (x.1).length ≤ bound := h.1; unfold bound at h1; omega)
  have c1 : nL n_Select (x.2.2.1) ≤ 1407374900330496 := (le_SelectS _ (h.2.1))
  have c2 : nL n_Proc (x.2.2.2) ≤ 1125899906842624 := (le_ProcS _ (h.2.2))
  unfold nv_Prog
  omega
theorem s_markProg (x : Y_Prog) (k : Int) (h : ok_Prog x) (h0 : 0 ≤ k) (hk : k + nv_Prog x ≤ 4611686018427387904) : Spec Tryd.prog 20 [.rw (t_Prog x) (mv_Prog x k), .ro (.int k)] [.int (k + nv_Prog x)] := by
  refine fn Tryd.func20 ?_
  unfold nv_Prog at hk
  have c0 : 0 ≤ ((x.1).length : Int) := (by exact Int.natCast_nonneg _)
  have c1 : 0 ≤ nL n_Select (x.2.2.1) := (nL_nonneg n0_Select (x.2.2.1))
  have c2 : 0 ≤ nL n_Proc (x.2.2.2) := (nL_nonneg n0_Proc (x.2.2.2))
  repeat (first | refine brT ?_ | refine brF ?_ | refine And.intro rfl ?_ | refine And.intro trivial ?_ | intro _)
  refine ⟨_, rfl, _, s_markIntS (x.1) (k) (h.1) (by omega) (by omega), ?_⟩
  repeat (first | refine brT ?_ | refine brF ?_ | refine And.intro rfl ?_ | refine And.intro trivial ?_ | intro _)
  refine ⟨_, rfl, _, s_markSelectS (x.2.2.1) (k + ((x.1).length : Int)) (h.2.1) (by omega) (by omega), ?_⟩
  repeat (first | refine brT ?_ | refine brF ?_ | refine And.intro rfl ?_ | refine And.intro trivial ?_ | intro _)
  refine ⟨_, rfl, _, s_markProcS (x.2.2.2) (k + ((x.1).length : Int) + nL n_Select (x.2.2.1)) (h.2.2) (by omega) (by omega), ?_⟩
  repeat (first | refine brT ?_ | refine brF ?_ | refine And.intro rfl ?_ | refine And.intro trivial ?_ | intro _)
  first
  | exact rfl
  | refine ⟨ti (by unfold nv_Prog; omega), ?_⟩
    repeat (first | refine brT ?_ | refine brF ?_ | refine And.intro rfl ?_ | refine And.intro trivial ?_ | intro _)
    exact rfl
theorem s_heldProg (x : Y_Prog) (k : Int) (h : ok_Prog x) (h0 : 0 ≤ k) (hk : k + nv_Prog x ≤ 4611686018427387904) : Spec Tryd.prog 21 [.ro (mv_Prog x k), .ro (.int k)] [.int (k + nv_Prog x)] := by
  refine fn Tryd.func21 ?_
  unfold nv_Prog at hk
  have c0 : 0 ≤ ((x.1).length : Int) := (by exact Int.natCast_nonneg _)
  have c1 : 0 ≤ nL n_Select (x.2.2.1) := (nL_nonneg n0_Select (x.2.2.1))
  have c2 : 0 ≤ nL n_Proc (x.2.2.2) := (nL_nonneg n0_Proc (x.2.2.2))
  repeat (first | refine brT ?_ | refine brF ?_ | refine And.intro rfl ?_ | refine And.intro trivial ?_ | intro _)
  refine ⟨_, s_heldIntS (x.1).length (k) (h.1) (by omega) (by omega), ?_⟩
  intro _
  refine brI (fun h1 => ?_) (fun _ => ?_)
  · have := of_decide_eq_true h1; omega
  repeat (first | refine brT ?_ | refine brF ?_ | refine And.intro rfl ?_ | refine And.intro trivial ?_ | intro _)
  refine ⟨_, s_heldSelectS (x.2.2.1) (k + ((x.1).length : Int)) (h.2.1) (by omega) (by omega), ?_⟩
  intro _
  refine brI (fun h1 => ?_) (fun _ => ?_)
  · have := of_decide_eq_true h1; omega
  repeat (first | refine brT ?_ | refine brF ?_ | refine And.intro rfl ?_ | refine And.intro trivial ?_ | intro _)
  refine ⟨_, s_heldProcS (x.2.2.2) (k + ((x.1).length : Int) + nL n_Select (x.2.2.1)) (h.2.2) (by omega) (by omega), ?_⟩
  intro _
  refine brI (fun h1 => ?_) (fun _ => ?_)
  · have := of_decide_eq_true h1; omega
  repeat (first | refine brT ?_ | refine brF ?_ | refine And.intro rfl ?_ | refine And.intro trivial ?_ | intro _)
  refine ti (by unfold nv_Prog; omega)


end Go.Proofs.YtphikogfogejlaaDoor.E
