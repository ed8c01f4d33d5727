/- Contracts of functions of this seat's program. -/
import Derived.Test.YtadpancnhinlbaaETy
import Derived.Test.YtadpancnhinlbaaEG
namespace Go.Proofs.Ytadpancnhinlbaa.E
set_option linter.unusedVariables false
set_option linter.unusedSimpArgs false
set_option maxHeartbeats 1600000
/-! marks of Waiter -/
def m_Waiter (x : Y_Waiter) (k : Int) : T := .agg [T.int (k), T.int (k + 1), T.int (k + 1 + 1)]
def n_Waiter (x : Y_Waiter) : Int := 1 + 1 + 1
theorem n0_Waiter (x : Y_Waiter) : 0 ≤ n_Waiter x := by
  unfold n_Waiter
  omega
theorem le_Waiter (x : Y_Waiter) (h : ok_Waiter x) : n_Waiter x ≤ 3 := by
  unfold n_Waiter
  omega
theorem le_WaiterS (l : List Y_Waiter) (h : l.length ≤ bound ∧ ∀ y ∈ l, ok_Waiter y) : nL n_Waiter l ≤ 50331648 := nL_big n0_Waiter (fun x hx => le_Waiter x (h.2 x hx)) h.1
theorem s_markWaiterS (l : List Y_Waiter) (k : Int) (h : l.length ≤ bound ∧ ∀ y ∈ l, ok_Waiter y) (h0 : 0 ≤ k) (hk : k + nL n_Waiter l ≤ 4611686018427387904) : Spec Try.prog 26 [.rw (.sl 3 (l.map t_Waiter)) (.sl 3 (mL m_Waiter n_Waiter l k)), .ro (.int k)] [.int (k + nL n_Waiter l)] := by
  obtain ⟨hl, hel⟩ := h
  have hl' : l.length ≤ 16777216 := hl
  refine fn Try.func26 ?_
  refine loopI (fun x : Nat × Nat => ⟨34, [(0, .c (.own 500 0)), (1, .int (k + nL n_Waiter (l.take x.1))), (5, .int x.1)], [(500, .row 0 x.2 3 (mL m_Waiter n_Waiter (l.take x.1) k ++ (l.drop x.1).map t_Waiter))]⟩) (fun x => l.length - x.1) (fun x => x.1 ≤ l.length) (0, 0) (Nat.zero_le _)
    (wk rfl ⟨rfl, congrArg AV.int (by simp [nL]), rfl, trivial⟩ ⟨rfl, trivial⟩) ?_
  rintro ⟨i, v⟩ hi
  simp only at hi
  repeat (first | refine brT ?_ | refine brF ?_ | refine And.intro rfl ?_ | refine And.intro trivial ?_ | intro _)
  refine brD (fun h => ?_) (fun h => ?_)
  · have hlt : i < l.length := by simp [mL_len] at h; omega
    have hh := hel _ (List.getElem_mem hlt)
    have hn0 := n0_Waiter l[i]
    have hna := nL_at (n := n_Waiter) hlt
    have hnl := nL_le n0_Waiter l (i + 1)
    have hnb := nL_nonneg n0_Waiter (l.take i)
    have hlen : (mL m_Waiter n_Waiter (l.take i) k ++ (l.drop i).map t_Waiter).length = l.length := by simp [mL_len]; omega
    have hat : (mL m_Waiter n_Waiter (l.take i) k ++ (l.drop i).map t_Waiter)[((i : Int)).toNat]? = some (t_Waiter l[i]) := by
      have h1 : min i l.length = i := by omega
      simp [List.getElem?_append_right, mL_len, h1, hlt]
    have hfin := mark_set (mL m_Waiter n_Waiter (l.take i) k) (l.map t_Waiter) (m_Waiter l[i] (k + nL n_Waiter (l.take i))) i (by simp [mL_len]; omega) (by simpa using hlt)
    rw [← mL_succ hlt, ← List.map_drop, ← List.map_drop] at hfin
    generalize hK : k + nL n_Waiter (l.take i) = K at *
    obtain ⟨x, hx⟩ : ∃ x, x = l[i] := ⟨_, rfl⟩
    rw [← hx] at hh hat hfin
    rw [← hx] at hn0 hna
    have hn1 : n_Waiter x = 1 + 1 + 1 := rfl
    repeat (first | refine brT ?_ | refine brF ?_ | refine And.intro rfl ?_ | refine And.intro trivial ?_ | intro _)
    refine ⟨nn i, by simp [mL_len]; omega, ?_⟩
    repeat (first | refine brT ?_ | refine brF ?_ | refine And.intro rfl ?_ | refine And.intro trivial ?_ | intro _)
    refine ⟨_, hat, by simp, fun v0 => ?_⟩
    have e0 : w64 (K + 1) = K + 1 := w64_id (by omega) (by omega)
    have f0 : w64 (K + 1) = K + 1 := by omega
    repeat (first | refine brT ?_ | refine brF ?_ | refine And.intro rfl ?_ | refine And.intro trivial ?_ | intro _)
    refine ⟨nn i, by simp [mL_len]; omega, ?_⟩
    repeat (first | refine brT ?_ | refine brF ?_ | refine And.intro rfl ?_ | refine And.intro trivial ?_ | intro _)
    refine ⟨_, set_at (by simp [mL_len]; omega), by simp, fun v1 => ?_⟩
    have e1 : w64 (w64 (K + 1) + 1) = w64 (K + 1) + 1 := w64_id (by omega) (by omega)
    have f1 : w64 (w64 (K + 1) + 1) = K + 1 + 1 := by omega
    repeat (first | refine brT ?_ | refine brF ?_ | refine And.intro rfl ?_ | refine And.intro trivial ?_ | intro _)
    refine ⟨nn i, by simp [mL_len]; omega, ?_⟩
    repeat (first | refine brT ?_ | refine brF ?_ | refine And.intro rfl ?_ | refine And.intro trivial ?_ | intro _)
    refine ⟨_, set_at (by simp [mL_len]; omega), by simp, fun v2 => ?_⟩
    have e2 : w64 (w64 (w64 (K + 1) + 1) + 1) = w64 (w64 (K + 1) + 1) + 1 := w64_id (by omega) (by omega)
    have f2 : w64 (w64 (w64 (K + 1) + 1) + 1) = K + 1 + 1 + 1 := by omega
    repeat (first | refine brT ?_ | refine brF ?_ | refine And.intro rfl ?_ | refine And.intro trivial ?_ | intro _)
    refine nxt (i + 1, v2) hlt (by show l.length - (i + 1) < l.length - i; omega) (wk rfl ⟨rfl, gi rfl (by show w64 (w64 (w64 (K + 1) + 1) + 1) = k + nL n_Waiter (l.take (i + 1)); omega), up1 hlt hl', trivial⟩ ⟨?_, trivial⟩)
    have hd : T.agg [T.int (K), T.int (w64 (K + 1)), T.int (w64 (w64 (K + 1) + 1))] = m_Waiter x K := by
      unfold m_Waiter
      try rw [f2]
      try rw [f1]
      try rw [f0]
      try rfl
    have hset : ∀ z0 z1 z2 : T, z2 = m_Waiter x K → ((((mL m_Waiter n_Waiter (l.take i) k ++ (l.drop i).map t_Waiter).set i z0).set i z1).set i z2) = mL m_Waiter n_Waiter (l.take (i + 1)) k ++ (l.drop (i + 1)).map t_Waiter := fun z0 z1 z2 hd => by
      rw [List.set_set, List.set_set, hd]; exact hfin
    exact congrArg (fun z => some (Ob.row 0 v2 3 z)) (hset _ _ _ hd)
  · have : i = l.length := by simp [mL_len] at h; omega
    subst this
    repeat (first | refine brT ?_ | refine brF ?_ | refine And.intro rfl ?_ | refine And.intro trivial ?_ | intro _)
    refine ⟨?_, ?_⟩
    · refine ti ?_
      simp
    · show T.sl 3 _ = T.sl 3 _
      simp
theorem s_heldWaiterS (l : List Y_Waiter) (k : Int) (h : l.length ≤ bound ∧ ∀ y ∈ l, ok_Waiter y) (h0 : 0 ≤ k) (hk : k + nL n_Waiter l ≤ 4611686018427387904) : Spec Try.prog 27 [.ro (.sl 3 (mL m_Waiter n_Waiter l k)), .ro (.int k)] [.int (k + nL n_Waiter l)] := by
  obtain ⟨hl, hel⟩ := h
  have hl' : l.length ≤ 16777216 := hl
  refine fn Try.func27 ?_
  refine loopI (fun i : Nat => ⟨40, [(0, .c (.ro 3 (mL m_Waiter n_Waiter l k))), (1, .int (k + nL n_Waiter (l.take i))), (5, .int i)], []⟩) (fun i => l.length - i) (fun i => i ≤ l.length) 0 (Nat.zero_le _) (wk rfl ⟨rfl, congrArg AV.int (by simp [nL]), rfl, trivial⟩ trivial) ?_
  intro i hi
  refine brD (fun h => ?_) (fun h => ?_)
  · have hlt : i < l.length := by simpa [mL_len] using h
    have hh := hel _ (List.getElem_mem hlt)
    have hn0 := n0_Waiter l[i]
    have hna := nL_at (n := n_Waiter) hlt
    have hnl := nL_le n0_Waiter l (i + 1)
    have hnb := nL_nonneg n0_Waiter (l.take i)
    have hat : (mL m_Waiter n_Waiter l k)[((i : Int)).toNat]? = some (m_Waiter l[i] (k + nL n_Waiter (l.take i))) := mL_at hlt
    generalize hK : k + nL n_Waiter (l.take i) = K at *
    obtain ⟨x, hx⟩ : ∃ x, x = l[i] := ⟨_, rfl⟩
    rw [← hx] at hh hat
    rw [← hx] at hn0 hna
    have hn1 : n_Waiter x = 1 + 1 + 1 := rfl
    repeat (first | refine brT ?_ | refine brF ?_ | refine And.intro rfl ?_ | refine And.intro trivial ?_ | intro _)
    refine ⟨nn i, m_Waiter x K, hat, ?_⟩
    repeat (first | refine brT ?_ | refine brF ?_ | refine And.intro rfl ?_ | refine And.intro trivial ?_ | intro _)
    refine brI (fun h1 => ?_) (fun _ => ?_)
    · replace h1 : (K != K) = true := h1
      simp at h1
    have e0 : w64 (K + 1) = K + 1 := w64_id (by omega) (by omega)
    have f0 : w64 (K + 1) = K + 1 := by omega
    repeat (first | refine brT ?_ | refine brF ?_ | refine And.intro rfl ?_ | refine And.intro trivial ?_ | intro _)
    refine ⟨nn i, m_Waiter x K, hat, ?_⟩
    repeat (first | refine brT ?_ | refine brF ?_ | refine And.intro rfl ?_ | refine And.intro trivial ?_ | intro _)
    refine brI (fun h1 => ?_) (fun _ => ?_)
    · replace h1 : (K + 1 != w64 (K + 1)) = true := h1
      rw [f0] at h1
      simp at h1
    have e1 : w64 (w64 (K + 1) + 1) = w64 (K + 1) + 1 := w64_id (by omega) (by omega)
    have f1 : w64 (w64 (K + 1) + 1) = K + 1 + 1 := by omega
    repeat (first | refine brT ?_ | refine brF ?_ | refine And.intro rfl ?_ | refine And.intro trivial ?_ | intro _)
    refine ⟨nn i, m_Waiter x K, hat, ?_⟩
    repeat (first | refine brT ?_ | refine brF ?_ | refine And.intro rfl ?_ | refine And.intro trivial ?_ | intro _)
    refine brI (fun h1 => ?_) (fun _ => ?_)
    · replace h1 : (K + 1 + 1 != w64 (w64 (K + 1) + 1)) = true := h1
      rw [f1] at h1
      simp at h1
    have e2 : w64 (w64 (w64 (K + 1) + 1) + 1) = w64 (w64 (K + 1) + 1) + 1 := w64_id (by omega) (by omega)
    have f2 : w64 (w64 (w64 (K + 1) + 1) + 1) = K + 1 + 1 + 1 := by omega
    repeat (first | refine brT ?_ | refine brF ?_ | refine And.intro rfl ?_ | refine And.intro trivial ?_ | intro _)
    exact nxt (i + 1) hlt (by show l.length - (i + 1) < l.length - i; omega) (wk rfl ⟨rfl, gi rfl (by show w64 (w64 (w64 (K + 1) + 1) + 1) = k + nL n_Waiter (l.take (i + 1)); omega), up1 hlt hl', trivial⟩ trivial)
  · have : i = l.length := by simp [mL_len] at h; omega
    subst this
    refine ti ?_
    simp
def mv_Chan (x : Y_Chan) (k : Int) : T := .agg [T.int (x.1), .sl 1 (mkI (x.2.1).length (k)), .sl 3 (mL m_Waiter n_Waiter (x.2.2.1) (k + ((x.2.1).length : Int))), .sl 3 (mL m_Waiter n_Waiter (x.2.2.2.1) (k + ((x.2.1).length : Int) + nL n_Waiter (x.2.2.1))), T.bool (x.2.2.2.2)]
def nv_Chan (x : Y_Chan) : Int := ((x.2.1).length : Int) + nL n_Waiter (x.2.2.1) + nL n_Waiter (x.2.2.2.1)
theorem nv0_Chan (x : Y_Chan) : 0 ≤ nv_Chan x := by
  have c0 : 0 ≤ ((x.2.1).length : Int) := (by exact Int.natCast_nonneg _)
  have c1 : 0 ≤ nL n_Waiter (x.2.2.1) := (nL_nonneg n0_Waiter (x.2.2.1))
  have c2 : 0 ≤ nL n_Waiter (x.2.2.2.1) := (nL_nonneg n0_Waiter (x.2.2.2.1))
  unfold nv_Chan
  omega
theorem nvle_Chan (x : Y_Chan) (h : ok_Chan x) : nv_Chan x ≤ 117440512 := by
  have c0 : ((x.2.1).length : Int) ≤ 16777216 := (by have h1 : (x.2.1).length ≤ bound := h.1; unfold bound at h1; omega)
  have c1 : nL n_Waiter (x.2.2.1) ≤ 50331648 := (le_WaiterS _ (h.2.1))
  have c2 : nL n_Waiter (x.2.2.2.1) ≤ 50331648 := (le_WaiterS _ (h.2.2))
  unfold nv_Chan
  omega

end Go.Proofs.Ytadpancnhinlbaa.E
