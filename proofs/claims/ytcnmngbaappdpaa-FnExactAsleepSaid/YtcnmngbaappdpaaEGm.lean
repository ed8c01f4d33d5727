/- Contracts of functions of this seat's program. -/
import Derived.Test.YtcnmngbaappdpaaETy
import Derived.Test.YtcnmngbaappdpaaEG
namespace Go.Proofs.Ytcnmngbaappdpaa.E
set_option linter.unusedVariables false
/-! marks of Item -/
def m_Item (x : Y_Item) (k : Int) : T := .agg [T.int (k), T.int (k + 1), T.int (k + 1 + 1), T.bool ((k + 1 + 1 + 1).tmod 3 == 0)]
def n_Item (x : Y_Item) : Int := 1 + 1 + 1 + 1
theorem n0_Item (x : Y_Item) : 0 ≤ n_Item x := by
  unfold n_Item
  omega
theorem le_Item (x : Y_Item) (h : ok_Item x) : n_Item x ≤ 4 := by
  unfold n_Item
  omega
theorem le_ItemS (l : List Y_Item) (h : l.length ≤ bound ∧ ∀ y ∈ l, ok_Item y) : nL n_Item l ≤ 67108864 := nL_big n0_Item (fun x hx => le_Item x (h.2 x hx)) h.1
theorem s_markItemS (l : List Y_Item) (k : Int) (h : l.length ≤ bound ∧ ∀ y ∈ l, ok_Item y) (h0 : 0 ≤ k) (hk : k + nL n_Item l ≤ 4611686018427387904) : Spec Try.prog 55 [.rw (.sl 4 (l.map t_Item)) (.sl 4 (mL m_Item n_Item l k)), .ro (.int k)] [.int (k + nL n_Item l)] := by
  obtain ⟨hl, hel⟩ := h
  have hl' : l.length ≤ 16777216 := hl
  refine fn Try.func55 ?_
  refine loopI (fun x : Nat × Nat => ⟨43, [(0, .c (.own 500 0)), (1, .int (k + nL n_Item (l.take x.1))), (5, .int x.1)], [(500, .row 0 x.2 4 (mL m_Item n_Item (l.take x.1) k ++ (l.drop x.1).map t_Item))]⟩) (fun x => l.length - x.1) (fun x => x.1 ≤ l.length) (0, 0) (Nat.zero_le _)
    (wk rfl ⟨rfl, congrArg AV.int (by simp [nL]), rfl, trivial⟩ ⟨rfl, trivial⟩) ?_
  rintro ⟨i, v⟩ hi
  simp only at hi
  repeat (first | refine ⟨rfl, ?_⟩ | refine brT ?_ | refine brF ?_ | intro _)
  refine brD (fun h => ?_) (fun h => ?_)
  · have hlt : i < l.length := by simp [mL_len] at h; omega
    have hh := hel _ (List.getElem_mem hlt)
    have hn0 := n0_Item l[i]
    have hna := nL_at (n := n_Item) hlt
    have hnl := nL_le n0_Item l (i + 1)
    have hnb := nL_nonneg n0_Item (l.take i)
    have hlen : (mL m_Item n_Item (l.take i) k ++ (l.drop i).map t_Item).length = l.length := by simp [mL_len]; omega
    have hat : (mL m_Item n_Item (l.take i) k ++ (l.drop i).map t_Item)[((i : Int)).toNat]? = some (t_Item l[i]) := by
      have h1 : min i l.length = i := by omega
      simp [List.getElem?_append_right, mL_len, h1, hlt]
    have hfin := mark_set (mL m_Item n_Item (l.take i) k) (l.map t_Item) (m_Item l[i] (k + nL n_Item (l.take i))) i (by simp [mL_len]; omega) (by simpa using hlt)
    rw [← mL_succ hlt, ← List.map_drop, ← List.map_drop] at hfin
    generalize hK : k + nL n_Item (l.take i) = K at *
    obtain ⟨x, hx⟩ : ∃ x, x = l[i] := ⟨_, rfl⟩
    rw [← hx] at hh hat hfin
    rw [← hx] at hn0 hna
    have hn1 : n_Item x = 1 + 1 + 1 + 1 := rfl
    repeat (first | refine ⟨rfl, ?_⟩ | refine brT ?_ | refine brF ?_ | intro _)
    refine ⟨nn i, by simp [mL_len]; omega, ?_⟩
    repeat (first | refine ⟨rfl, ?_⟩ | refine brT ?_ | refine brF ?_ | intro _)
    refine ⟨_, hat, by simp, fun v0 => ?_⟩
    have e0 : w64 (K + 1) = K + 1 := w64_id (by omega) (by omega)
    have f0 : w64 (K + 1) = K + 1 := by omega
    repeat (first | refine ⟨rfl, ?_⟩ | refine brT ?_ | refine brF ?_ | intro _)
    refine ⟨nn i, by simp [mL_len]; omega, ?_⟩
    repeat (first | refine ⟨rfl, ?_⟩ | refine brT ?_ | refine brF ?_ | intro _)
    refine ⟨_, set_at (by simp [mL_len]; omega), by simp, fun v1 => ?_⟩
    have e1 : w64 (w64 (K + 1) + 1) = w64 (K + 1) + 1 := w64_id (by omega) (by omega)
    have f1 : w64 (w64 (K + 1) + 1) = K + 1 + 1 := by omega
    repeat (first | refine ⟨rfl, ?_⟩ | refine brT ?_ | refine brF ?_ | intro _)
    refine ⟨nn i, by simp [mL_len]; omega, ?_⟩
    repeat (first | refine ⟨rfl, ?_⟩ | refine brT ?_ | refine brF ?_ | intro _)
    refine ⟨_, set_at (by simp [mL_len]; omega), by simp, fun v2 => ?_⟩
    have e2 : w64 (w64 (w64 (K + 1) + 1) + 1) = w64 (w64 (K + 1) + 1) + 1 := w64_id (by omega) (by omega)
    have f2 : w64 (w64 (w64 (K + 1) + 1) + 1) = K + 1 + 1 + 1 := by omega
    repeat (first | refine ⟨rfl, ?_⟩ | refine brT ?_ | refine brF ?_ | intro _)
    refine ⟨by decide, ?_⟩
    repeat (first | refine ⟨rfl, ?_⟩ | refine brT ?_ | refine brF ?_ | intro _)
    refine ⟨nn i, by simp [mL_len]; omega, ?_⟩
    repeat (first | refine ⟨rfl, ?_⟩ | refine brT ?_ | refine brF ?_ | intro _)
    refine ⟨_, set_at (by simp [mL_len]; omega), by simp, fun v3 => ?_⟩
    have e3 : w64 (w64 (w64 (w64 (K + 1) + 1) + 1) + 1) = w64 (w64 (w64 (K + 1) + 1) + 1) + 1 := w64_id (by omega) (by omega)
    have f3 : w64 (w64 (w64 (w64 (K + 1) + 1) + 1) + 1) = K + 1 + 1 + 1 + 1 := by omega
    repeat (first | refine ⟨rfl, ?_⟩ | refine brT ?_ | refine brF ?_ | intro _)
    refine nxt (i + 1, v3) hlt (by show l.length - (i + 1) < l.length - i; omega) (wk rfl ⟨rfl, gi rfl (by show w64 (w64 (w64 (w64 (K + 1) + 1) + 1) + 1) = k + nL n_Item (l.take (i + 1)); omega), up1 hlt hl', trivial⟩ ⟨?_, trivial⟩)
    have hd : T.agg [T.int (K), T.int (w64 (K + 1)), T.int (w64 (w64 (K + 1) + 1)), T.bool ((w64 (w64 (w64 (K + 1) + 1) + 1)).tmod 3 == 0)] = m_Item x K := by
      unfold m_Item
      try rw [f3]
      try rw [f2]
      try rw [f1]
      try rw [f0]
      try rfl
    have hset : ∀ z0 z1 z2 z3 : T, z3 = m_Item x K → (((((mL m_Item n_Item (l.take i) k ++ (l.drop i).map t_Item).set i z0).set i z1).set i z2).set i z3) = mL m_Item n_Item (l.take (i + 1)) k ++ (l.drop (i + 1)).map t_Item := fun z0 z1 z2 z3 hd => by
      rw [List.set_set, List.set_set, List.set_set, hd]; exact hfin
    exact congrArg (fun z => some (Ob.row 0 v3 4 z)) (hset _ _ _ _ hd)
  · have : i = l.length := by simp [mL_len] at h; omega
    subst this
    repeat (first | refine ⟨rfl, ?_⟩ | refine brT ?_ | refine brF ?_ | intro _)
    refine ⟨?_, ?_⟩
    · refine ti ?_
      simp
    · show T.sl 4 _ = T.sl 4 _
      simp
theorem s_heldItemS (l : List Y_Item) (k : Int) (h : l.length ≤ bound ∧ ∀ y ∈ l, ok_Item y) (h0 : 0 ≤ k) (hk : k + nL n_Item l ≤ 4611686018427387904) : Spec Try.prog 56 [.ro (.sl 4 (mL m_Item n_Item l k)), .ro (.int k)] [.int (k + nL n_Item l)] := by
  obtain ⟨hl, hel⟩ := h
  have hl' : l.length ≤ 16777216 := hl
  refine fn Try.func56 ?_
  refine loopI (fun i : Nat => ⟨51, [(0, .c (.ro 4 (mL m_Item n_Item l k))), (1, .int (k + nL n_Item (l.take i))), (5, .int i)], []⟩) (fun i => l.length - i) (fun i => i ≤ l.length) 0 (Nat.zero_le _) (wk rfl ⟨rfl, congrArg AV.int (by simp [nL]), rfl, trivial⟩ trivial) ?_
  intro i hi
  refine brD (fun h => ?_) (fun h => ?_)
  · have hlt : i < l.length := by simpa [mL_len] using h
    have hh := hel _ (List.getElem_mem hlt)
    have hn0 := n0_Item l[i]
    have hna := nL_at (n := n_Item) hlt
    have hnl := nL_le n0_Item l (i + 1)
    have hnb := nL_nonneg n0_Item (l.take i)
    have hat : (mL m_Item n_Item l k)[((i : Int)).toNat]? = some (m_Item l[i] (k + nL n_Item (l.take i))) := mL_at hlt
    generalize hK : k + nL n_Item (l.take i) = K at *
    obtain ⟨x, hx⟩ : ∃ x, x = l[i] := ⟨_, rfl⟩
    rw [← hx] at hh hat
    rw [← hx] at hn0 hna
    have hn1 : n_Item x = 1 + 1 + 1 + 1 := rfl
    repeat (first | refine ⟨rfl, ?_⟩ | refine brT ?_ | refine brF ?_ | intro _)
    refine ⟨nn i, m_Item x K, hat, ?_⟩
    repeat (first | refine ⟨rfl, ?_⟩ | refine brT ?_ | refine brF ?_ | intro _)
    refine brI (fun h1 => ?_) (fun _ => ?_)
    · replace h1 : (K != K) = true := h1
      simp at h1
    have e0 : w64 (K + 1) = K + 1 := w64_id (by omega) (by omega)
    have f0 : w64 (K + 1) = K + 1 := by omega
    repeat (first | refine ⟨rfl, ?_⟩ | refine brT ?_ | refine brF ?_ | intro _)
    refine ⟨nn i, m_Item x K, hat, ?_⟩
    repeat (first | refine ⟨rfl, ?_⟩ | refine brT ?_ | refine brF ?_ | intro _)
    refine brI (fun h1 => ?_) (fun _ => ?_)
    · replace h1 : (K + 1 != w64 (K + 1)) = true := h1
      rw [f0] at h1
      simp at h1
    have e1 : w64 (w64 (K + 1) + 1) = w64 (K + 1) + 1 := w64_id (by omega) (by omega)
    have f1 : w64 (w64 (K + 1) + 1) = K + 1 + 1 := by omega
    repeat (first | refine ⟨rfl, ?_⟩ | refine brT ?_ | refine brF ?_ | intro _)
    refine ⟨nn i, m_Item x K, hat, ?_⟩
    repeat (first | refine ⟨rfl, ?_⟩ | refine brT ?_ | refine brF ?_ | intro _)
    refine brI (fun h1 => ?_) (fun _ => ?_)
    · replace h1 : (K + 1 + 1 != w64 (w64 (K + 1) + 1)) = true := h1
      rw [f1] at h1
      simp at h1
    have e2 : w64 (w64 (w64 (K + 1) + 1) + 1) = w64 (w64 (K + 1) + 1) + 1 := w64_id (by omega) (by omega)
    have f2 : w64 (w64 (w64 (K + 1) + 1) + 1) = K + 1 + 1 + 1 := by omega
    repeat (first | refine ⟨rfl, ?_⟩ | refine brT ?_ | refine brF ?_ | intro _)
    refine ⟨nn i, m_Item x K, hat, ?_⟩
    repeat (first | refine ⟨rfl, ?_⟩ | refine brT ?_ | refine brF ?_ | intro _)
    refine ⟨by decide, ?_⟩
    repeat (first | refine ⟨rfl, ?_⟩ | refine brT ?_ | refine brF ?_ | intro _)
    refine brI (fun h1 => ?_) (fun _ => ?_)
    · replace h1 : (!(((K + 1 + 1 + 1).tmod 3 == 0) == ((w64 (w64 (w64 (K + 1) + 1) + 1)).tmod 3 == 0))) = true := h1
      rw [f2] at h1
      simp at h1
    have e3 : w64 (w64 (w64 (w64 (K + 1) + 1) + 1) + 1) = w64 (w64 (w64 (K + 1) + 1) + 1) + 1 := w64_id (by omega) (by omega)
    have f3 : w64 (w64 (w64 (w64 (K + 1) + 1) + 1) + 1) = K + 1 + 1 + 1 + 1 := by omega
    repeat (first | refine ⟨rfl, ?_⟩ | refine brT ?_ | refine brF ?_ | intro _)
    exact nxt (i + 1) hlt (by show l.length - (i + 1) < l.length - i; omega) (wk rfl ⟨rfl, gi rfl (by show w64 (w64 (w64 (w64 (K + 1) + 1) + 1) + 1) = k + nL n_Item (l.take (i + 1)); omega), up1 hlt hl', trivial⟩ trivial)
  · have : i = l.length := by simp [mL_len] at h; omega
    subst this
    refine ti ?_
    simp
def mv_Gor (x : Y_Gor) (k : Int) : T := .agg [T.int (x.1), T.int (x.2.1), .sl 1 (mkI (x.2.2.1).length (k)), T.int (x.2.2.2.1), .sl 4 (mL m_Item n_Item (x.2.2.2.2) (k + ((x.2.2.1).length : Int)))]
def nv_Gor (x : Y_Gor) : Int := ((x.2.2.1).length : Int) + nL n_Item (x.2.2.2.2)
theorem nv0_Gor (x : Y_Gor) : 0 ≤ nv_Gor x := by
  have c0 : 0 ≤ ((x.2.2.1).length : Int) := (by exact Int.natCast_nonneg _)
  have c1 : 0 ≤ nL n_Item (x.2.2.2.2) := (nL_nonneg n0_Item (x.2.2.2.2))
  unfold nv_Gor
  omega
theorem nvle_Gor (x : Y_Gor) (h : ok_Gor x) : nv_Gor x ≤ 83886080 := by
  have c0 : ((x.2.2.1).length : Int) ≤ 16777216 := (by have h1 : (x.2.2.1).length ≤ bound := h.1; unfold bound at h1; omega)
  have c1 : nL n_Item (x.2.2.2.2) ≤ 67108864 := (le_ItemS _ (h.2))
  unfold nv_Gor
  omega
theorem s_markGor (x : Y_Gor) (k : Int) (h : ok_Gor x) (h0 : 0 ≤ k) (hk : k + nv_Gor x ≤ 4611686018427387904) : Spec Try.prog 18 [.rw (t_Gor x) (mv_Gor x k), .ro (.int k)] [.int (k + nv_Gor x)] := by
  refine fn Try.func18 ?_
  unfold nv_Gor at hk
  have c0 : 0 ≤ ((x.2.2.1).length : Int) := (by exact Int.natCast_nonneg _)
  have c1 : 0 ≤ nL n_Item (x.2.2.2.2) := (nL_nonneg n0_Item (x.2.2.2.2))
  repeat (first | refine ⟨rfl, ?_⟩ | refine brT ?_ | refine brF ?_ | intro _)
  refine ⟨_, rfl, _, s_markIntS (x.2.2.1) (k) (h.1) (by omega) (by omega), ?_⟩
  repeat (first | refine ⟨rfl, ?_⟩ | refine brT ?_ | refine brF ?_ | intro _)
  refine ⟨_, rfl, _, s_markItemS (x.2.2.2.2) (k + ((x.2.2.1).length : Int)) (h.2) (by omega) (by omega), ?_⟩
  repeat (first | refine ⟨rfl, ?_⟩ | refine brT ?_ | refine brF ?_ | intro _)
  refine ⟨ti (by unfold nv_Gor; omega), ?_⟩
  repeat (first | refine ⟨rfl, ?_⟩ | refine brT ?_ | refine brF ?_ | intro _)
  exact rfl
theorem s_heldGor (x : Y_Gor) (k : Int) (h : ok_Gor x) (h0 : 0 ≤ k) (hk : k + nv_Gor x ≤ 4611686018427387904) : Spec Try.prog 19 [.ro (mv_Gor x k), .ro (.int k)] [.int (k + nv_Gor x)] := by
  refine fn Try.func19 ?_
  unfold nv_Gor at hk
  have c0 : 0 ≤ ((x.2.2.1).length : Int) := (by exact Int.natCast_nonneg _)
  have c1 : 0 ≤ nL n_Item (x.2.2.2.2) := (nL_nonneg n0_Item (x.2.2.2.2))
  repeat (first | refine ⟨rfl, ?_⟩ | refine brT ?_ | refine brF ?_ | intro _)
  refine ⟨_, s_heldIntS (x.2.2.1).length (k) (h.1) (by omega) (by omega), ?_⟩
  intro _
  refine brI (fun h1 => ?_) (fun _ => ?_)
  · have := of_decide_eq_true h1; omega
  repeat (first | refine ⟨rfl, ?_⟩ | refine brT ?_ | refine brF ?_ | intro _)
  refine ⟨_, s_heldItemS (x.2.2.2.2) (k + ((x.2.2.1).length : Int)) (h.2) (by omega) (by omega), ?_⟩
  intro _
  refine brI (fun h1 => ?_) (fun _ => ?_)
  · have := of_decide_eq_true h1; omega
  repeat (first | refine ⟨rfl, ?_⟩ | refine brT ?_ | refine brF ?_ | intro _)
  refine ti (by unfold nv_Gor; omega)


end Go.Proofs.Ytcnmngbaappdpaa.E
