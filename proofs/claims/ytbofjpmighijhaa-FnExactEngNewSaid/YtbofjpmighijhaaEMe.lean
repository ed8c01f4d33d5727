/- Contracts of functions of this seat's program. -/
import Derived.Test.YtbofjpmighijhaaETy
import Derived.Test.YtbofjpmighijhaaEGe
namespace Go.Proofs.Ytbofjpmighijhaa.E
set_option linter.unusedVariables false
set_option linter.unusedSimpArgs false
set_option maxHeartbeats 1600000
/-! marks of Item -/
def m_Item (x : Y_Item) (k : Int) : T := .agg [T.int (k), T.int (k + 1), T.int (k + 1 + 1), T.bool ((k + 1 + 1 + 1).tmod 3 == 0)]
def n_Item (x : Y_Item) : Int := 1 + 1 + 1 + 1
theorem n0_Item (x : Y_Item) : 0 ≤ n_Item x := by
  unfold n_Item
  omega
theorem le_Item (x : Y_Item) (h : ok_Item x) : n_Item x ≤ 4 := by
  unfold n_Item
  omega
theorem le_ItemS (l : List Y_Item) (h : l.length ≤ bound ∧ ∀ y ∈ l, ok_Item y) : nL n_Item l ≤ 67108864 := nL_big n0_Item (fun x hx => le_Item x (h.2 x hx)) h.1
theorem s_markItemS (l : List Y_Item) (k : Int) (h : l.length ≤ bound ∧ ∀ y ∈ l, ok_Item y) (h0 : 0 ≤ k) (hk : k + nL n_Item l ≤ 4611686018427387904) : Spec Try.prog 106 [.rw (.sl 4 (l.map t_Item)) (.sl 4 (mL m_Item n_Item l k)), .ro (.int k)] [.int (k + nL n_Item l)] := by
  obtain ⟨hl, hel⟩ := h
  have hl' : l.length ≤ 16777216 := hl
  refine fn Try.func106 ?_
  refine loopI (fun x : Nat × Nat => ⟨43, [(0, .c (.own 500 0)), (1, .int (k + nL n_Item (l.take x.1))), (5, .int x.1)], [(500, .row 0 x.2 4 (mL m_Item n_Item (l.take x.1) k ++ (l.drop x.1).map t_Item))]⟩) (fun x => l.length - x.1) (fun x => x.1 ≤ l.length) (0, 0) (Nat.zero_le _)
    (wk rfl ⟨rfl, congrArg AV.int (by simp [nL]), rfl, trivial⟩ ⟨rfl, trivial⟩) ?_
  rintro ⟨i, v⟩ hi
  simp only at hi
  repeat (first | refine brT ?_ | refine brF ?_ | refine And.intro rfl ?_ | refine And.intro trivial ?_ | intro _)
  refine brD (fun h => ?_) (fun h => ?_)
  · have hlt : i < l.length := by simp [mL_len] at h; omega
    have hh := hel _ (List.getElem_mem hlt)
    have hn0 := n0_Item l[i]
    have hna := nL_at (n := n_Item) hlt
    have hnl := nL_le n0_Item l (i + 1)
    have hnb := nL_nonneg n0_Item (l.take i)
    have hlen : (mL m_Item n_Item (l.take i) k ++ (l.drop i).map t_Item).length = l.length := by simp [mL_len]; omega
    have hat : (mL m_Item n_Item (l.take i) k ++ (l.drop i).map t_Item)[((i : Int)).toNat]? = some (t_Item l[i]) := by
      have h1 : min i l.length = i := by omega
      simp [List.getElem?_append_right, mL_len, h1, hlt]
    have hfin := mark_set (mL m_Item n_Item (l.take i) k) (l.map t_Item) (m_Item l[i] (k + nL n_Item (l.take i))) i (by simp [mL_len]; omega) (by simpa using hlt)
    rw [← mL_succ hlt, ← List.map_drop, ← List.map_drop] at hfin
    generalize hK : k + nL n_Item (l.take i) = K at *
    obtain ⟨x, hx⟩ : ∃ x, x = l[i] := ⟨_, rfl⟩
    rw [← hx] at hh hat hfin
    rw [← hx] at hn0 hna
    have hn1 : n_Item x = 1 + 1 + 1 + 1 := rfl
    repeat (first | refine brT ?_ | refine brF ?_ | refine And.intro rfl ?_ | refine And.intro trivial ?_ | intro _)
    refine ⟨nn i, by simp [mL_len]; omega, ?_⟩
    repeat (first | refine brT ?_ | refine brF ?_ | refine And.intro rfl ?_ | refine And.intro trivial ?_ | intro _)
    refine ⟨_, hat, by simp, fun v0 => ?_⟩
    have e0 : w64 (K + 1) = K + 1 := w64_id (by omega) (by omega)
    have f0 : w64 (K + 1) = K + 1 := by omega
    repeat (first | refine brT ?_ | refine brF ?_ | refine And.intro rfl ?_ | refine And.intro trivial ?_ | intro _)
    refine ⟨nn i, by simp [mL_len]; omega, ?_⟩
    repeat (first | refine brT ?_ | refine brF ?_ | refine And.intro rfl ?_ | refine And.intro trivial ?_ | intro _)
    refine ⟨_, set_at (by simp [mL_len]; omega), by simp, fun v1 => ?_⟩
    have e1 : w64 (w64 (K + 1) + 1) = w64 (K + 1) + 1 := w64_id (by omega) (by omega)
    have f1 : w64 (w64 (K + 1) + 1) = K + 1 + 1 := by omega
    repeat (first | refine brT ?_ | refine brF ?_ | refine And.intro rfl ?_ | refine And.intro trivial ?_ | intro _)
    refine ⟨nn i, by simp [mL_len]; omega, ?_⟩
    repeat (first | refine brT ?_ | refine brF ?_ | refine And.intro rfl ?_ | refine And.intro trivial ?_ | intro _)
    refine ⟨_, set_at (by simp [mL_len]; omega), by simp, fun v2 => ?_⟩
    have e2 : w64 (w64 (w64 (K + 1) + 1) + 1) = w64 (w64 (K + 1) + 1) + 1 := w64_id (by omega) (by omega)
    have f2 : w64 (w64 (w64 (K + 1) + 1) + 1) = K + 1 + 1 + 1 := by omega
    repeat (first | refine brT ?_ | refine brF ?_ | refine And.intro rfl ?_ | refine And.intro trivial ?_ | intro _)
    refine ⟨by decide, ?_⟩
    repeat (first | refine brT ?_ | refine brF ?_ | refine And.intro rfl ?_ | refine And.intro trivial ?_ | intro _)
    refine ⟨nn i, by simp [mL_len]; omega, ?_⟩
    repeat (first | refine brT ?_ | refine brF ?_ | refine And.intro rfl ?_ | refine And.intro trivial ?_ | intro _)
    refine ⟨_, set_at (by simp [mL_len]; omega), by simp, fun v3 => ?_⟩
    have e3 : w64 (w64 (w64 (w64 (K + 1) + 1) + 1) + 1) = w64 (w64 (w64 (K + 1) + 1) + 1) + 1 := w64_id (by omega) (by omega)
    have f3 : w64 (w64 (w64 (w64 (K + 1) + 1) + 1) + 1) = K + 1 + 1 + 1 + 1 := by omega
    repeat (first | refine brT ?_ | refine brF ?_ | refine And.intro rfl ?_ | refine And.intro trivial ?_ | intro _)
    refine nxt (i + 1, v3) hlt (by show l.length - (i + 1) < l.length - i; omega) (wk rfl ⟨rfl, gi rfl (by show w64 (w64 (w64 (w64 (K + 1) + 1) + 1) + 1) = k + nL n_Item (l.take (i + 1)); omega), up1 hlt hl', trivial⟩ ⟨?_, trivial⟩)
    have hd : T.agg [T.int (K), T.int (w64 (K + 1)), T.int (w64 (w64 (K + 1) + 1)), T.bool ((w64 (w64 (w64 (K + 1) + 1) + 1)).tmod 3 == 0)] = m_Item x K := by
      unfold m_Item
      try rw [f3]
      try rw [f2]
      try rw [f1]
      try rw [f0]
      try rfl
    have hset : ∀ z0 z1 z2 z3 : T, z3 = m_Item x K → (((((mL m_Item n_Item (l.take i) k ++ (l.drop i).map t_Item).set i z0).set i z1).set i z2).set i z3) = mL m_Item n_Item (l.take (i + 1)) k ++ (l.drop (i + 1)).map t_Item := fun z0 z1 z2 z3 hd => by
      rw [List.set_set, List.set_set, List.set_set, hd]; exact hfin
    exact congrArg (fun z => some (Ob.row 0 v3 4 z)) (hset _ _ _ _ hd)
  · have : i = l.length := by simp [mL_len] at h; omega
    subst this
    repeat (first | refine brT ?_ | refine brF ?_ | refine And.intro rfl ?_ | refine And.intro trivial ?_ | intro _)
    refine ⟨?_, ?_⟩
    · refine ti ?_
      simp
    · show T.sl 4 _ = T.sl 4 _
      simp
theorem s_heldItemS (l : List Y_Item) (k : Int) (h : l.length ≤ bound ∧ ∀ y ∈ l, ok_Item y) (h0 : 0 ≤ k) (hk : k + nL n_Item l ≤ 4611686018427387904) : Spec Try.prog 108 [.ro (.sl 4 (mL m_Item n_Item l k)), .ro (.int k)] [.int (k + nL n_Item l)] := by
  obtain ⟨hl, hel⟩ := h
  have hl' : l.length ≤ 16777216 := hl
  refine fn Try.func108 ?_
  refine loopI (fun i : Nat => ⟨51, [(0, .c (.ro 4 (mL m_Item n_Item l k))), (1, .int (k + nL n_Item (l.take i))), (5, .int i)], []⟩) (fun i => l.length - i) (fun i => i ≤ l.length) 0 (Nat.zero_le _) (wk rfl ⟨rfl, congrArg AV.int (by simp [nL]), rfl, trivial⟩ trivial) ?_
  intro i hi
  refine brD (fun h => ?_) (fun h => ?_)
  · have hlt : i < l.length := by simpa [mL_len] using h
    have hh := hel _ (List.getElem_mem hlt)
    have hn0 := n0_Item l[i]
    have hna := nL_at (n := n_Item) hlt
    have hnl := nL_le n0_Item l (i + 1)
    have hnb := nL_nonneg n0_Item (l.take i)
    have hat : (mL m_Item n_Item l k)[((i : Int)).toNat]? = some (m_Item l[i] (k + nL n_Item (l.take i))) := mL_at hlt
    generalize hK : k + nL n_Item (l.take i) = K at *
    obtain ⟨x, hx⟩ : ∃ x, x = l[i] := ⟨_, rfl⟩
    rw [← hx] at hh hat
    rw [← hx] at hn0 hna
    have hn1 : n_Item x = 1 + 1 + 1 + 1 := rfl
    repeat (first | refine brT ?_ | refine brF ?_ | refine And.intro rfl ?_ | refine And.intro trivial ?_ | intro _)
    refine ⟨nn i, m_Item x K, hat, ?_⟩
    repeat (first | refine brT ?_ | refine brF ?_ | refine And.intro rfl ?_ | refine And.intro trivial ?_ | intro _)
    refine brI (fun h1 => ?_) (fun _ => ?_)
    · replace h1 : (K != K) = true := h1
      simp at h1
    have e0 : w64 (K + 1) = K + 1 := w64_id (by omega) (by omega)
    have f0 : w64 (K + 1) = K + 1 := by omega
    repeat (first | refine brT ?_ | refine brF ?_ | refine And.intro rfl ?_ | refine And.intro trivial ?_ | intro _)
    refine ⟨nn i, m_Item x K, hat, ?_⟩
    repeat (first | refine brT ?_ | refine brF ?_ | refine And.intro rfl ?_ | refine And.intro trivial ?_ | intro _)
    refine brI (fun h1 => ?_) (fun _ => ?_)
    · replace h1 : (K + 1 != w64 (K + 1)) = true := h1
      rw [f0] at h1
      simp at h1
    have e1 : w64 (w64 (K + 1) + 1) = w64 (K + 1) + 1 := w64_id (by omega) (by omega)
    have f1 : w64 (w64 (K + 1) + 1) = K + 1 + 1 := by omega
    repeat (first | refine brT ?_ | refine brF ?_ | refine And.intro rfl ?_ | refine And.intro trivial ?_ | intro _)
    refine ⟨nn i, m_Item x K, hat, ?_⟩
    repeat (first | refine brT ?_ | refine brF ?_ | refine And.intro rfl ?_ | refine And.intro trivial ?_ | intro _)
    refine brI (fun h1 => ?_) (fun _ => ?_)
    · replace h1 : (K + 1 + 1 != w64 (w64 (K + 1) + 1)) = true := h1
      rw [f1] at h1
      simp at h1
    have e2 : w64 (w64 (w64 (K + 1) + 1) + 1) = w64 (w64 (K + 1) + 1) + 1 := w64_id (by omega) (by omega)
    have f2 : w64 (w64 (w64 (K + 1) + 1) + 1) = K + 1 + 1 + 1 := by omega
    repeat (first | refine brT ?_ | refine brF ?_ | refine And.intro rfl ?_ | refine And.intro trivial ?_ | intro _)
    refine ⟨nn i, m_Item x K, hat, ?_⟩
    repeat (first | refine brT ?_ | refine brF ?_ | refine And.intro rfl ?_ | refine And.intro trivial ?_ | intro _)
    refine ⟨by decide, ?_⟩
    repeat (first | refine brT ?_ | refine brF ?_ | refine And.intro rfl ?_ | refine And.intro trivial ?_ | intro _)
    refine brI (fun h1 => ?_) (fun _ => ?_)
    · replace h1 : (!(((K + 1 + 1 + 1).tmod 3 == 0) == ((w64 (w64 (w64 (K + 1) + 1) + 1)).tmod 3 == 0))) = true := h1
      rw [f2] at h1
      simp at h1
    have e3 : w64 (w64 (w64 (w64 (K + 1) + 1) + 1) + 1) = w64 (w64 (w64 (K + 1) + 1) + 1) + 1 := w64_id (by omega) (by omega)
    have f3 : w64 (w64 (w64 (w64 (K + 1) + 1) + 1) + 1) = K + 1 + 1 + 1 + 1 := by omega
    repeat (first | refine brT ?_ | refine brF ?_ | refine And.intro rfl ?_ | refine And.intro trivial ?_ | intro _)
    exact nxt (i + 1) hlt (by show l.length - (i + 1) < l.length - i; omega) (wk rfl ⟨rfl, gi rfl (by show w64 (w64 (w64 (w64 (K + 1) + 1) + 1) + 1) = k + nL n_Item (l.take (i + 1)); omega), up1 hlt hl', trivial⟩ trivial)
  · have : i = l.length := by simp [mL_len] at h; omega
    subst this
    refine ti ?_
    simp
/-! marks of Waiter -/
def m_Waiter (x : Y_Waiter) (k : Int) : T := .agg [T.int (k), T.int (k + 1), T.int (k + 1 + 1)]
def n_Waiter (x : Y_Waiter) : Int := 1 + 1 + 1
theorem n0_Waiter (x : Y_Waiter) : 0 ≤ n_Waiter x := by
  unfold n_Waiter
  omega
theorem le_Waiter (x : Y_Waiter) (h : ok_Waiter x) : n_Waiter x ≤ 3 := by
  unfold n_Waiter
  omega
theorem le_WaiterS (l : List Y_Waiter) (h : l.length ≤ bound ∧ ∀ y ∈ l, ok_Waiter y) : nL n_Waiter l ≤ 50331648 := nL_big n0_Waiter (fun x hx => le_Waiter x (h.2 x hx)) h.1
theorem s_markWaiterS (l : List Y_Waiter) (k : Int) (h : l.length ≤ bound ∧ ∀ y ∈ l, ok_Waiter y) (h0 : 0 ≤ k) (hk : k + nL n_Waiter l ≤ 4611686018427387904) : Spec Try.prog 107 [.rw (.sl 3 (l.map t_Waiter)) (.sl 3 (mL m_Waiter n_Waiter l k)), .ro (.int k)] [.int (k + nL n_Waiter l)] := by
  obtain ⟨hl, hel⟩ := h
  have hl' : l.length ≤ 16777216 := hl
  refine fn Try.func107 ?_
  refine loopI (fun x : Nat × Nat => ⟨34, [(0, .c (.own 500 0)), (1, .int (k + nL n_Waiter (l.take x.1))), (5, .int x.1)], [(500, .row 0 x.2 3 (mL m_Waiter n_Waiter (l.take x.1) k ++ (l.drop x.1).map t_Waiter))]⟩) (fun x => l.length - x.1) (fun x => x.1 ≤ l.length) (0, 0) (Nat.zero_le _)
    (wk rfl ⟨rfl, congrArg AV.int (by simp [nL]), rfl, trivial⟩ ⟨rfl, trivial⟩) ?_
  rintro ⟨i, v⟩ hi
  simp only at hi
  repeat (first | refine brT ?_ | refine brF ?_ | refine And.intro rfl ?_ | refine And.intro trivial ?_ | intro _)
  refine brD (fun h => ?_) (fun h => ?_)
  · have hlt : i < l.length := by simp [mL_len] at h; omega
    have hh := hel _ (List.getElem_mem hlt)
    have hn0 := n0_Waiter l[i]
    have hna := nL_at (n := n_Waiter) hlt
    have hnl := nL_le n0_Waiter l (i + 1)
    have hnb := nL_nonneg n0_Waiter (l.take i)
    have hlen : (mL m_Waiter n_Waiter (l.take i) k ++ (l.drop i).map t_Waiter).length = l.length := by simp [mL_len]; omega
    have hat : (mL m_Waiter n_Waiter (l.take i) k ++ (l.drop i).map t_Waiter)[((i : Int)).toNat]? = some (t_Waiter l[i]) := by
      have h1 : min i l.length = i := by omega
      simp [List.getElem?_append_right, mL_len, h1, hlt]
    have hfin := mark_set (mL m_Waiter n_Waiter (l.take i) k) (l.map t_Waiter) (m_Waiter l[i] (k + nL n_Waiter (l.take i))) i (by simp [mL_len]; omega) (by simpa using hlt)
    rw [← mL_succ hlt, ← List.map_drop, ← List.map_drop] at hfin
    generalize hK : k + nL n_Waiter (l.take i) = K at *
    obtain ⟨x, hx⟩ : ∃ x, x = l[i] := ⟨_, rfl⟩
    rw [← hx] at hh hat hfin
    rw [← hx] at hn0 hna
    have hn1 : n_Waiter x = 1 + 1 + 1 := rfl
    repeat (first | refine brT ?_ | refine brF ?_ | refine And.intro rfl ?_ | refine And.intro trivial ?_ | intro _)
    refine ⟨nn i, by simp [mL_len]; omega, ?_⟩
    repeat (first | refine brT ?_ | refine brF ?_ | refine And.intro rfl ?_ | refine And.intro trivial ?_ | intro _)
    refine ⟨_, hat, by simp, fun v0 => ?_⟩
    have e0 : w64 (K + 1) = K + 1 := w64_id (by omega) (by omega)
    have f0 : w64 (K + 1) = K + 1 := by omega
    repeat (first | refine brT ?_ | refine brF ?_ | refine And.intro rfl ?_ | refine And.intro trivial ?_ | intro _)
    refine ⟨nn i, by simp [mL_len]; omega, ?_⟩
    repeat (first | refine brT ?_ | refine brF ?_ | refine And.intro rfl ?_ | refine And.intro trivial ?_ | intro _)
    refine ⟨_, set_at (by simp [mL_len]; omega), by simp, fun v1 => ?_⟩
    have e1 : w64 (w64 (K + 1) + 1) = w64 (K + 1) + 1 := w64_id (by omega) (by omega)
    have f1 : w64 (w64 (K + 1) + 1) = K + 1 + 1 := by omega
    repeat (first | refine brT ?_ | refine brF ?_ | refine And.intro rfl ?_ | refine And.intro trivial ?_ | intro _)
    refine ⟨nn i, by simp [mL_len]; omega, ?_⟩
    repeat (first | refine brT ?_ | refine brF ?_ | refine And.intro rfl ?_ | refine And.intro trivial ?_ | intro _)
    refine ⟨_, set_at (by simp [mL_len]; omega), by simp, fun v2 => ?_⟩
    have e2 : w64 (w64 (w64 (K + 1) + 1) + 1) = w64 (w64 (K + 1) + 1) + 1 := w64_id (by omega) (by omega)
    have f2 : w64 (w64 (w64 (K + 1) + 1) + 1) = K + 1 + 1 + 1 := by omega
    repeat (first | refine brT ?_ | refine brF ?_ | refine And.intro rfl ?_ | refine And.intro trivial ?_ | intro _)
    refine nxt (i + 1, v2) hlt (by show l.length - (i + 1) < l.length - i; omega) (wk rfl ⟨rfl, gi rfl (by show w64 (w64 (w64 (K + 1) + 1) + 1) = k + nL n_Waiter (l.take (i + 1)); omega), up1 hlt hl', trivial⟩ ⟨?_, trivial⟩)
    have hd : T.agg [T.int (K), T.int (w64 (K + 1)), T.int (w64 (w64 (K + 1) + 1))] = m_Waiter x K := by
      unfold m_Waiter
      try rw [f2]
      try rw [f1]
      try rw [f0]
      try rfl
    have hset : ∀ z0 z1 z2 : T, z2 = m_Waiter x K → ((((mL m_Waiter n_Waiter (l.take i) k ++ (l.drop i).map t_Waiter).set i z0).set i z1).set i z2) = mL m_Waiter n_Waiter (l.take (i + 1)) k ++ (l.drop (i + 1)).map t_Waiter := fun z0 z1 z2 hd => by
      rw [List.set_set, List.set_set, hd]; exact hfin
    exact congrArg (fun z => some (Ob.row 0 v2 3 z)) (hset _ _ _ hd)
  · have : i = l.length := by simp [mL_len] at h; omega
    subst this
    repeat (first | refine brT ?_ | refine brF ?_ | refine And.intro rfl ?_ | refine And.intro trivial ?_ | intro _)
    refine ⟨?_, ?_⟩
    · refine ti ?_
      simp
    · show T.sl 3 _ = T.sl 3 _
      simp
theorem s_heldWaiterS (l : List Y_Waiter) (k : Int) (h : l.length ≤ bound ∧ ∀ y ∈ l, ok_Waiter y) (h0 : 0 ≤ k) (hk : k + nL n_Waiter l ≤ 4611686018427387904) : Spec Try.prog 109 [.ro (.sl 3 (mL m_Waiter n_Waiter l k)), .ro (.int k)] [.int (k + nL n_Waiter l)] := by
  obtain ⟨hl, hel⟩ := h
  have hl' : l.length ≤ 16777216 := hl
  refine fn Try.func109 ?_
  refine loopI (fun i : Nat => ⟨40, [(0, .c (.ro 3 (mL m_Waiter n_Waiter l k))), (1, .int (k + nL n_Waiter (l.take i))), (5, .int i)], []⟩) (fun i => l.length - i) (fun i => i ≤ l.length) 0 (Nat.zero_le _) (wk rfl ⟨rfl, congrArg AV.int (by simp [nL]), rfl, trivial⟩ trivial) ?_
  intro i hi
  refine brD (fun h => ?_) (fun h => ?_)
  · have hlt : i < l.length := by simpa [mL_len] using h
    have hh := hel _ (List.getElem_mem hlt)
    have hn0 := n0_Waiter l[i]
    have hna := nL_at (n := n_Waiter) hlt
    have hnl := nL_le n0_Waiter l (i + 1)
    have hnb := nL_nonneg n0_Waiter (l.take i)
    have hat : (mL m_Waiter n_Waiter l k)[((i : Int)).toNat]? = some (m_Waiter l[i] (k + nL n_Waiter (l.take i))) := mL_at hlt
    generalize hK : k + nL n_Waiter (l.take i) = K at *
    obtain ⟨x, hx⟩ : ∃ x, x = l[i] := ⟨_, rfl⟩
    rw [← hx] at hh hat
    rw [← hx] at hn0 hna
    have hn1 : n_Waiter x = 1 + 1 + 1 := rfl
    repeat (first | refine brT ?_ | refine brF ?_ | refine And.intro rfl ?_ | refine And.intro trivial ?_ | intro _)
    refine ⟨nn i, m_Waiter x K, hat, ?_⟩
    repeat (first | refine brT ?_ | refine brF ?_ | refine And.intro rfl ?_ | refine And.intro trivial ?_ | intro _)
    refine brI (fun h1 => ?_) (fun _ => ?_)
    · replace h1 : (K != K) = true := h1
      simp at h1
    have e0 : w64 (K + 1) = K + 1 := w64_id (by omega) (by omega)
    have f0 : w64 (K + 1) = K + 1 := by omega
    repeat (first | refine brT ?_ | refine brF ?_ | refine And.intro rfl ?_ | refine And.intro trivial ?_ | intro _)
    refine ⟨nn i, m_Waiter x K, hat, ?_⟩
    repeat (first | refine brT ?_ | refine brF ?_ | refine And.intro rfl ?_ | refine And.intro trivial ?_ | intro _)
    refine brI (fun h1 => ?_) (fun _ => ?_)
    · replace h1 : (K + 1 != w64 (K + 1)) = true := h1
      rw [f0] at h1
      simp at h1
    have e1 : w64 (w64 (K + 1) + 1) = w64 (K + 1) + 1 := w64_id (by omega) (by omega)
    have f1 : w64 (w64 (K + 1) + 1) = K + 1 + 1 := by omega
    repeat (first | refine brT ?_ | refine brF ?_ | refine And.intro rfl ?_ | refine And.intro trivial ?_ | intro _)
    refine ⟨nn i, m_Waiter x K, hat, ?_⟩
    repeat (first | refine brT ?_ | refine brF ?_ | refine And.intro rfl ?_ | refine And.intro trivial ?_ | intro _)
    refine brI (fun h1 => ?_) (fun _ => ?_)
    · replace h1 : (K + 1 + 1 != w64 (w64 (K + 1) + 1)) = true := h1
      rw [f1] at h1
      simp at h1
    have e2 : w64 (w64 (w64 (K + 1) + 1) + 1) = w64 (w64 (K + 1) + 1) + 1 := w64_id (by omega) (by omega)
    have f2 : w64 (w64 (w64 (K + 1) + 1) + 1) = K + 1 + 1 + 1 := by omega
    repeat (first | refine brT ?_ | refine brF ?_ | refine And.intro rfl ?_ | refine And.intro trivial ?_ | intro _)
    exact nxt (i + 1) hlt (by show l.length - (i + 1) < l.length - i; omega) (wk rfl ⟨rfl, gi rfl (by show w64 (w64 (w64 (K + 1) + 1) + 1) = k + nL n_Waiter (l.take (i + 1)); omega), up1 hlt hl', trivial⟩ trivial)
  · have : i = l.length := by simp [mL_len] at h; omega
    subst this
    refine ti ?_
    simp
/-! marks of Chan -/
def m_Chan (x : Y_Chan) (k : Int) : T := .agg [T.int (k), .sl 1 (mkI (x.2.1).length (k + 1)), .sl 3 (mL m_Waiter n_Waiter (x.2.2.1) (k + 1 + ((x.2.1).length : Int))), .sl 3 (mL m_Waiter n_Waiter (x.2.2.2.1) (k + 1 + ((x.2.1).length : Int) + nL n_Waiter (x.2.2.1))), T.bool ((k + 1 + ((x.2.1).length : Int) + nL n_Waiter (x.2.2.1) + nL n_Waiter (x.2.2.2.1)).tmod 3 == 0)]
def n_Chan (x : Y_Chan) : Int := 1 + ((x.2.1).length : Int) + nL n_Waiter (x.2.2.1) + nL n_Waiter (x.2.2.2.1) + 1
theorem n0_Chan (x : Y_Chan) : 0 ≤ n_Chan x := by
  have c0 : 0 ≤ ((x.2.1).length : Int) := (by exact Int.natCast_nonneg _)
  have c1 : 0 ≤ nL n_Waiter (x.2.2.1) := (nL_nonneg n0_Waiter (x.2.2.1))
  have c2 : 0 ≤ nL n_Waiter (x.2.2.2.1) := (nL_nonneg n0_Waiter (x.2.2.2.1))
  unfold n_Chan
  omega
theorem le_Chan (x : Y_Chan) (h : ok_Chan x) : n_Chan x ≤ 117440514 := by
  have c0 : ((x.2.1).length : Int) ≤ 16777216 := (by have h1 : (x.2.1).length ≤ bound := h.1; unfold bound at h1; omega)
  have c1 : nL n_Waiter (x.2.2.1) ≤ 50331648 := (le_WaiterS _ (h.2.1))
  have c2 : nL n_Waiter (x.2.2.2.1) ≤ 50331648 := (le_WaiterS _ (h.2.2))
  unfold n_Chan
  omega
theorem le_ChanS (l : List Y_Chan) (h : l.length ≤ bound ∧ ∀ y ∈ l, ok_Chan y) : nL n_Chan l ≤ 1970324870529024 := nL_big n0_Chan (fun x hx => le_Chan x (h.2 x hx)) h.1
theorem s_markChanS (l : List Y_Chan) (k : Int) (h : l.length ≤ bound ∧ ∀ y ∈ l, ok_Chan y) (h0 : 0 ≤ k) (hk : k + nL n_Chan l ≤ 4611686018427387904) : Spec Try.prog 76 [.rw (.sl 5 (l.map t_Chan)) (.sl 5 (mL m_Chan n_Chan l k)), .ro (.int k)] [.int (k + nL n_Chan l)] := by
  obtain ⟨hl, hel⟩ := h
  have hl' : l.length ≤ 16777216 := hl
  refine fn Try.func76 ?_
  refine loopI (fun x : Nat × Nat => ⟨50, [(0, .c (.own 500 0)), (1, .int (k + nL n_Chan (l.take x.1))), (5, .int x.1)], [(500, .row 0 x.2 5 (mL m_Chan n_Chan (l.take x.1) k ++ (l.drop x.1).map t_Chan))]⟩) (fun x => l.length - x.1) (fun x => x.1 ≤ l.length) (0, 0) (Nat.zero_le _)
    (wk rfl ⟨rfl, congrArg AV.int (by simp [nL]), rfl, trivial⟩ ⟨rfl, trivial⟩) ?_
  rintro ⟨i, v⟩ hi
  simp only at hi
  repeat (first | refine brT ?_ | refine brF ?_ | refine And.intro rfl ?_ | refine And.intro trivial ?_ | intro _)
  refine brD (fun h => ?_) (fun h => ?_)
  · have hlt : i < l.length := by simp [mL_len] at h; omega
    have hh := hel _ (List.getElem_mem hlt)
    have hn0 := n0_Chan l[i]
    have hna := nL_at (n := n_Chan) hlt
    have hnl := nL_le n0_Chan l (i + 1)
    have hnb := nL_nonneg n0_Chan (l.take i)
    have hlen : (mL m_Chan n_Chan (l.take i) k ++ (l.drop i).map t_Chan).length = l.length := by simp [mL_len]; omega
    have hat : (mL m_Chan n_Chan (l.take i) k ++ (l.drop i).map t_Chan)[((i : Int)).toNat]? = some (t_Chan l[i]) := by
      have h1 : min i l.length = i := by omega
      simp [List.getElem?_append_right, mL_len, h1, hlt]
    have hfin := mark_set (mL m_Chan n_Chan (l.take i) k) (l.map t_Chan) (m_Chan l[i] (k + nL n_Chan (l.take i))) i (by simp [mL_len]; omega) (by simpa using hlt)
    rw [← mL_succ hlt, ← List.map_drop, ← List.map_drop] at hfin
    generalize hK : k + nL n_Chan (l.take i) = K at *
    obtain ⟨x, hx⟩ : ∃ x, x = l[i] := ⟨_, rfl⟩
    rw [← hx] at hh hat hfin
    rw [← hx] at hn0 hna
    have hn1 : n_Chan x = 1 + ((x.2.1).length : Int) + nL n_Waiter (x.2.2.1) + nL n_Waiter (x.2.2.2.1) + 1 := rfl
    have c0 : 0 ≤ ((x.2.1).length : Int) := (by exact Int.natCast_nonneg _)
    have c1 : 0 ≤ nL n_Waiter (x.2.2.1) := (nL_nonneg n0_Waiter (x.2.2.1))
    have c2 : 0 ≤ nL n_Waiter (x.2.2.2.1) := (nL_nonneg n0_Waiter (x.2.2.2.1))
    repeat (first | refine brT ?_ | refine brF ?_ | refine And.intro rfl ?_ | refine And.intro trivial ?_ | intro _)
    refine ⟨nn i, by simp [mL_len]; omega, ?_⟩
    repeat (first | refine brT ?_ | refine brF ?_ | refine And.intro rfl ?_ | refine And.intro trivial ?_ | intro _)
    refine ⟨_, hat, by simp, fun v0 => ?_⟩
    have e0 : w64 (K + 1) = K + 1 := w64_id (by omega) (by omega)
    have f0 : w64 (K + 1) = K + 1 := by omega
    repeat (first | refine brT ?_ | refine brF ?_ | refine And.intro rfl ?_ | refine And.intro trivial ?_ | intro _)
    refine ⟨nn i, by simp [mL_len]; omega, ?_⟩
    repeat (first | refine brT ?_ | refine brF ?_ | refine And.intro rfl ?_ | refine And.intro trivial ?_ | intro _)
    refine ⟨_, set_at (by simp [mL_len]; omega), ?_⟩
    repeat (first | refine brT ?_ | refine brF ?_ | refine And.intro rfl ?_ | refine And.intro trivial ?_ | intro _)
    refine ⟨_, rfl, rfl, ((i : Int)).toNat, 1, _, _, _, rfl, by decide, set_at (by simp [mL_len]; omega), rfl, s_markIntS (x.2.1) (w64 (K + 1)) (hh.1) (by omega) (by omega), fun v1 => ?_⟩
    have f1 : w64 (K + 1) + ((x.2.1).length : Int) = K + 1 + ((x.2.1).length : Int) := by omega
    repeat (first | refine brT ?_ | refine brF ?_ | refine And.intro rfl ?_ | refine And.intro trivial ?_ | intro _)
    refine ⟨nn i, by simp [mL_len]; omega, ?_⟩
    repeat (first | refine brT ?_ | refine brF ?_ | refine And.intro rfl ?_ | refine And.intro trivial ?_ | intro _)
    refine ⟨_, set_at (by simp [mL_len]; omega), ?_⟩
    repeat (first | refine brT ?_ | refine brF ?_ | refine And.intro rfl ?_ | refine And.intro trivial ?_ | intro _)
    refine ⟨_, rfl, rfl, ((i : Int)).toNat, 2, _, _, _, rfl, by decide, set_at (by simp [mL_len]; omega), rfl, s_markWaiterS (x.2.2.1) (w64 (K + 1) + ((x.2.1).length : Int)) (hh.2.1) (by omega) (by omega), fun v2 => ?_⟩
    have f2 : w64 (K + 1) + ((x.2.1).length : Int) + nL n_Waiter (x.2.2.1) = K + 1 + ((x.2.1).length : Int) + nL n_Waiter (x.2.2.1) := by omega
    repeat (first | refine brT ?_ | refine brF ?_ | refine And.intro rfl ?_ | refine And.intro trivial ?_ | intro _)
    refine ⟨nn i, by simp [mL_len]; omega, ?_⟩
    repeat (first | refine brT ?_ | refine brF ?_ | refine And.intro rfl ?_ | refine And.intro trivial ?_ | intro _)
    refine ⟨_, set_at (by simp [mL_len]; omega), ?_⟩
    repeat (first | refine brT ?_ | refine brF ?_ | refine And.intro rfl ?_ | refine And.intro trivial ?_ | intro _)
    refine ⟨_, rfl, rfl, ((i : Int)).toNat, 3, _, _, _, rfl, by decide, set_at (by simp [mL_len]; omega), rfl, s_markWaiterS (x.2.2.2.1) (w64 (K + 1) + ((x.2.1).length : Int) + nL n_Waiter (x.2.2.1)) (hh.2.2) (by omega) (by omega), fun v3 => ?_⟩
    have f3 : w64 (K + 1) + ((x.2.1).length : Int) + nL n_Waiter (x.2.2.1) + nL n_Waiter (x.2.2.2.1) = K + 1 + ((x.2.1).length : Int) + nL n_Waiter (x.2.2.1) + nL n_Waiter (x.2.2.2.1) := by omega
    repeat (first | refine brT ?_ | refine brF ?_ | refine And.intro rfl ?_ | refine And.intro trivial ?_ | intro _)
    refine ⟨by decide, ?_⟩
    repeat (first | refine brT ?_ | refine brF ?_ | refine And.intro rfl ?_ | refine And.intro trivial ?_ | intro _)
    refine ⟨nn i, by simp [mL_len]; omega, ?_⟩
    repeat (first | refine brT ?_ | refine brF ?_ | refine And.intro rfl ?_ | refine And.intro trivial ?_ | intro _)
    refine ⟨_, set_at (by simp [mL_len]; omega), by simp, fun v4 => ?_⟩
    have e4 : w64 (w64 (K + 1) + ((x.2.1).length : Int) + nL n_Waiter (x.2.2.1) + nL n_Waiter (x.2.2.2.1) + 1) = w64 (K + 1) + ((x.2.1).length : Int) + nL n_Waiter (x.2.2.1) + nL n_Waiter (x.2.2.2.1) + 1 := w64_id (by omega) (by omega)
    have f4 : w64 (w64 (K + 1) + ((x.2.1).length : Int) + nL n_Waiter (x.2.2.1) + nL n_Waiter (x.2.2.2.1) + 1) = K + 1 + ((x.2.1).length : Int) + nL n_Waiter (x.2.2.1) + nL n_Waiter (x.2.2.2.1) + 1 := by omega
    repeat (first | refine brT ?_ | refine brF ?_ | refine And.intro rfl ?_ | refine And.intro trivial ?_ | intro _)
    refine nxt (i + 1, v4) hlt (by show l.length - (i + 1) < l.length - i; omega) (wk rfl ⟨rfl, gi rfl (by show w64 (w64 (K + 1) + ((x.2.1).length : Int) + nL n_Waiter (x.2.2.1) + nL n_Waiter (x.2.2.2.1) + 1) = k + nL n_Chan (l.take (i + 1)); omega), up1 hlt hl', trivial⟩ ⟨?_, trivial⟩)
    have hd : T.agg [T.int (K), .sl 1 (mkI (x.2.1).length (w64 (K + 1))), .sl 3 (mL m_Waiter n_Waiter (x.2.2.1) (w64 (K + 1) + ((x.2.1).length : Int))), .sl 3 (mL m_Waiter n_Waiter (x.2.2.2.1) (w64 (K + 1) + ((x.2.1).length : Int) + nL n_Waiter (x.2.2.1))), T.bool ((w64 (K + 1) + ((x.2.1).length : Int) + nL n_Waiter (x.2.2.1) + nL n_Waiter (x.2.2.2.1)).tmod 3 == 0)] = m_Chan x K := by
      unfold m_Chan
      try rw [f4]
      try rw [f3]
      try rw [f2]
      try rw [f1]
      try rw [f0]
      try rfl
    have hset : ∀ z0 z1 z2 z3 z4 : T, z4 = m_Chan x K → ((((((mL m_Chan n_Chan (l.take i) k ++ (l.drop i).map t_Chan).set i z0).set i z1).set i z2).set i z3).set i z4) = mL m_Chan n_Chan (l.take (i + 1)) k ++ (l.drop (i + 1)).map t_Chan := fun z0 z1 z2 z3 z4 hd => by
      rw [List.set_set, List.set_set, List.set_set, List.set_set, hd]; exact hfin
    exact congrArg (fun z => some (Ob.row 0 v4 5 z)) (hset _ _ _ _ _ hd)
  · have : i = l.length := by simp [mL_len] at h; omega
    subst this
    repeat (first | refine brT ?_ | refine brF ?_ | refine And.intro rfl ?_ | refine And.intro trivial ?_ | intro _)
    refine ⟨?_, ?_⟩
    · refine ti ?_
      simp
    · show T.sl 5 _ = T.sl 5 _
      simp
theorem s_heldChanS (l : List Y_Chan) (k : Int) (h : l.length ≤ bound ∧ ∀ y ∈ l, ok_Chan y) (h0 : 0 ≤ k) (hk : k + nL n_Chan l ≤ 4611686018427387904) : Spec Try.prog 79 [.ro (.sl 5 (mL m_Chan n_Chan l k)), .ro (.int k)] [.int (k + nL n_Chan l)] := by
  obtain ⟨hl, hel⟩ := h
  have hl' : l.length ≤ 16777216 := hl
  refine fn Try.func79 ?_
  refine loopI (fun i : Nat => ⟨60, [(0, .c (.ro 5 (mL m_Chan n_Chan l k))), (1, .int (k + nL n_Chan (l.take i))), (5, .int i)], []⟩) (fun i => l.length - i) (fun i => i ≤ l.length) 0 (Nat.zero_le _) (wk rfl ⟨rfl, congrArg AV.int (by simp [nL]), rfl, trivial⟩ trivial) ?_
  intro i hi
  refine brD (fun h => ?_) (fun h => ?_)
  · have hlt : i < l.length := by simpa [mL_len] using h
    have hh := hel _ (List.getElem_mem hlt)
    have hn0 := n0_Chan l[i]
    have hna := nL_at (n := n_Chan) hlt
    have hnl := nL_le n0_Chan l (i + 1)
    have hnb := nL_nonneg n0_Chan (l.take i)
    have hat : (mL m_Chan n_Chan l k)[((i : Int)).toNat]? = some (m_Chan l[i] (k + nL n_Chan (l.take i))) := mL_at hlt
    generalize hK : k + nL n_Chan (l.take i) = K at *
    obtain ⟨x, hx⟩ : ∃ x, x = l[i] := ⟨_, rfl⟩
    rw [← hx] at hh hat
    rw [← hx] at hn0 hna
    have hn1 : n_Chan x = 1 + ((x.2.1).length : Int) + nL n_Waiter (x.2.2.1) + nL n_Waiter (x.2.2.2.1) + 1 := rfl
    have c0 : 0 ≤ ((x.2.1).length : Int) := (by exact Int.natCast_nonneg _)
    have c1 : 0 ≤ nL n_Waiter (x.2.2.1) := (nL_nonneg n0_Waiter (x.2.2.1))
    have c2 : 0 ≤ nL n_Waiter (x.2.2.2.1) := (nL_nonneg n0_Waiter (x.2.2.2.1))
    repeat (first | refine brT ?_ | refine brF ?_ | refine And.intro rfl ?_ | refine And.intro trivial ?_ | intro _)
    refine ⟨nn i, m_Chan x K, hat, ?_⟩
    repeat (first | refine brT ?_ | refine brF ?_ | refine And.intro rfl ?_ | refine And.intro trivial ?_ | intro _)
    refine brI (fun h1 => ?_) (fun _ => ?_)
    · replace h1 : (K != K) = true := h1
      simp at h1
    have e0 : w64 (K + 1) = K + 1 := w64_id (by omega) (by omega)
    have f0 : w64 (K + 1) = K + 1 := by omega
    repeat (first | refine brT ?_ | refine brF ?_ | refine And.intro rfl ?_ | refine And.intro trivial ?_ | intro _)
    refine ⟨nn i, m_Chan x K, hat, ?_⟩
    repeat (first | refine brT ?_ | refine brF ?_ | refine And.intro rfl ?_ | refine And.intro trivial ?_ | intro _)
    have s1 := s_heldIntS (x.2.1).length (K + 1) (hh.1) (by omega) (by omega)
    have s1' := Eq.mpr (congrArg (fun z => Spec Try.prog 22 [.ro (.sl 1 (mkI (x.2.1).length (K + 1))), .ro (.int z)] [.int (z + ((x.2.1).length : Int))]) f0) s1
    refine ⟨_, s1', ?_⟩
    intro _
    refine brI (fun h1 => ?_) (fun _ => ?_)
    · have := of_decide_eq_true h1; omega
    have f1 : w64 (K + 1) + ((x.2.1).length : Int) = K + 1 + ((x.2.1).length : Int) := by omega
    repeat (first | refine brT ?_ | refine brF ?_ | refine And.intro rfl ?_ | refine And.intro trivial ?_ | intro _)
    refine ⟨nn i, m_Chan x K, hat, ?_⟩
    repeat (first | refine brT ?_ | refine brF ?_ | refine And.intro rfl ?_ | refine And.intro trivial ?_ | intro _)
    have s2 := s_heldWaiterS (x.2.2.1) (K + 1 + ((x.2.1).length : Int)) (hh.2.1) (by omega) (by omega)
    have s2' := Eq.mpr (congrArg (fun z => Spec Try.prog 109 [.ro (.sl 3 (mL m_Waiter n_Waiter (x.2.2.1) (K + 1 + ((x.2.1).length : Int)))), .ro (.int z)] [.int (z + nL n_Waiter (x.2.2.1))]) f1) s2
    refine ⟨_, s2', ?_⟩
    intro _
    refine brI (fun h1 => ?_) (fun _ => ?_)
    · have := of_decide_eq_true h1; omega
    have f2 : w64 (K + 1) + ((x.2.1).length : Int) + nL n_Waiter (x.2.2.1) = K + 1 + ((x.2.1).length : Int) + nL n_Waiter (x.2.2.1) := by omega
    repeat (first | refine brT ?_ | refine brF ?_ | refine And.intro rfl ?_ | refine And.intro trivial ?_ | intro _)
    refine ⟨nn i, m_Chan x K, hat, ?_⟩
    repeat (first | refine brT ?_ | refine brF ?_ | refine And.intro rfl ?_ | refine And.intro trivial ?_ | intro _)
    have s3 := s_heldWaiterS (x.2.2.2.1) (K + 1 + ((x.2.1).length : Int) + nL n_Waiter (x.2.2.1)) (hh.2.2) (by omega) (by omega)
    have s3' := Eq.mpr (congrArg (fun z => Spec Try.prog 109 [.ro (.sl 3 (mL m_Waiter n_Waiter (x.2.2.2.1) (K + 1 + ((x.2.1).length : Int) + nL n_Waiter (x.2.2.1)))), .ro (.int z)] [.int (z + nL n_Waiter (x.2.2.2.1))]) f2) s3
    refine ⟨_, s3', ?_⟩
    intro _
    refine brI (fun h1 => ?_) (fun _ => ?_)
    · have := of_decide_eq_true h1; omega
    have f3 : w64 (K + 1) + ((x.2.1).length : Int) + nL n_Waiter (x.2.2.1) + nL n_Waiter (x.2.2.2.1) = K + 1 + ((x.2.1).length : Int) + nL n_Waiter (x.2.2.1) + nL n_Waiter (x.2.2.2.1) := by omega
    repeat (first | refine brT ?_ | refine brF ?_ | refine And.intro rfl ?_ | refine And.intro trivial ?_ | intro _)
    refine ⟨nn i, m_Chan x K, hat, ?_⟩
    repeat (first | refine brT ?_ | refine brF ?_ | refine And.intro rfl ?_ | refine And.intro trivial ?_ | intro _)
    refine ⟨by decide, ?_⟩
    repeat (first | refine brT ?_ | refine brF ?_ | refine And.intro rfl ?_ | refine And.intro trivial ?_ | intro _)
    refine brI (fun h1 => ?_) (fun _ => ?_)
    · replace h1 : (!(((K + 1 + ((x.2.1).length : Int) + nL n_Waiter (x.2.2.1) + nL n_Waiter (x.2.2.2.1)).tmod 3 == 0) == ((w64 (K + 1) + ((x.2.1).length : Int) + nL n_Waiter (x.2.2.1) + nL n_Waiter (x.2.2.2.1)).tmod 3 == 0))) = true := h1
      rw [f3] at h1
      simp at h1
    have e4 : w64 (w64 (K + 1) + ((x.2.1).length : Int) + nL n_Waiter (x.2.2.1) + nL n_Waiter (x.2.2.2.1) + 1) = w64 (K + 1) + ((x.2.1).length : Int) + nL n_Waiter (x.2.2.1) + nL n_Waiter (x.2.2.2.1) + 1 := w64_id (by omega) (by omega)
    have f4 : w64 (w64 (K + 1) + ((x.2.1).length : Int) + nL n_Waiter (x.2.2.1) + nL n_Waiter (x.2.2.2.1) + 1) = K + 1 + ((x.2.1).length : Int) + nL n_Waiter (x.2.2.1) + nL n_Waiter (x.2.2.2.1) + 1 := by omega
    repeat (first | refine brT ?_ | refine brF ?_ | refine And.intro rfl ?_ | refine And.intro trivial ?_ | intro _)
    exact nxt (i + 1) hlt (by show l.length - (i + 1) < l.length - i; omega) (wk rfl ⟨rfl, gi rfl (by show w64 (w64 (K + 1) + ((x.2.1).length : Int) + nL n_Waiter (x.2.2.1) + nL n_Waiter (x.2.2.2.1) + 1) = k + nL n_Chan (l.take (i + 1)); omega), up1 hlt hl', trivial⟩ trivial)
  · have : i = l.length := by simp [mL_len] at h; omega
    subst this
    refine ti ?_
    simp
/-! marks of Mutex -/
def m_Mutex (x : Y_Mutex) (k : Int) : T := .agg [T.int (k), .sl 1 (mkI (x.2).length (k + 1))]
def n_Mutex (x : Y_Mutex) : Int := 1 + ((x.2).length : Int)
theorem n0_Mutex (x : Y_Mutex) : 0 ≤ n_Mutex x := by
  have c0 : 0 ≤ ((x.2).length : Int) := (by exact Int.natCast_nonneg _)
  unfold n_Mutex
  omega
theorem le_Mutex (x : Y_Mutex) (h : ok_Mutex x) : n_Mutex x ≤ 16777217 := by
  have c0 : ((x.2).length : Int) ≤ 16777216 := (by have h1 : (x.2).length ≤ bound := h; unfold bound at h1; omega)
  unfold n_Mutex
  omega
theorem le_MutexS (l : List Y_Mutex) (h : l.length ≤ bound ∧ ∀ y ∈ l, ok_Mutex y) : nL n_Mutex l ≤ 281474993487872 := nL_big n0_Mutex (fun x hx => le_Mutex x (h.2 x hx)) h.1
theorem s_markMutexS (l : List Y_Mutex) (k : Int) (h : l.length ≤ bound ∧ ∀ y ∈ l, ok_Mutex y) (h0 : 0 ≤ k) (hk : k + nL n_Mutex l ≤ 4611686018427387904) : Spec Try.prog 77 [.rw (.sl 2 (l.map t_Mutex)) (.sl 2 (mL m_Mutex n_Mutex l k)), .ro (.int k)] [.int (k + nL n_Mutex l)] := by
  obtain ⟨hl, hel⟩ := h
  have hl' : l.length ≤ 16777216 := hl
  refine fn Try.func77 ?_
  refine loopI (fun x : Nat × Nat => ⟨27, [(0, .c (.own 500 0)), (1, .int (k + nL n_Mutex (l.take x.1))), (5, .int x.1)], [(500, .row 0 x.2 2 (mL m_Mutex n_Mutex (l.take x.1) k ++ (l.drop x.1).map t_Mutex))]⟩) (fun x => l.length - x.1) (fun x => x.1 ≤ l.length) (0, 0) (Nat.zero_le _)
    (wk rfl ⟨rfl, congrArg AV.int (by simp [nL]), rfl, trivial⟩ ⟨rfl, trivial⟩) ?_
  rintro ⟨i, v⟩ hi
  simp only at hi
  repeat (first | refine brT ?_ | refine brF ?_ | refine And.intro rfl ?_ | refine And.intro trivial ?_ | intro _)
  refine brD (fun h => ?_) (fun h => ?_)
  · have hlt : i < l.length := by simp [mL_len] at h; omega
    have hh := hel _ (List.getElem_mem hlt)
    have hn0 := n0_Mutex l[i]
    have hna := nL_at (n := n_Mutex) hlt
    have hnl := nL_le n0_Mutex l (i + 1)
    have hnb := nL_nonneg n0_Mutex (l.take i)
    have hlen : (mL m_Mutex n_Mutex (l.take i) k ++ (l.drop i).map t_Mutex).length = l.length := by simp [mL_len]; omega
    have hat : (mL m_Mutex n_Mutex (l.take i) k ++ (l.drop i).map t_Mutex)[((i : Int)).toNat]? = some (t_Mutex l[i]) := by
      have h1 : min i l.length = i := by omega
      simp [List.getElem?_append_right, mL_len, h1, hlt]
    have hfin := mark_set (mL m_Mutex n_Mutex (l.take i) k) (l.map t_Mutex) (m_Mutex l[i] (k + nL n_Mutex (l.take i))) i (by simp [mL_len]; omega) (by simpa using hlt)
    rw [← mL_succ hlt, ← List.map_drop, ← List.map_drop] at hfin
    generalize hK : k + nL n_Mutex (l.take i) = K at *
    obtain ⟨x, hx⟩ : ∃ x, x = l[i] := ⟨_, rfl⟩
    rw [← hx] at hh hat hfin
    rw [← hx] at hn0 hna
    have hn1 : n_Mutex x = 1 + ((x.2).length : Int) := rfl
    have c0 : 0 ≤ ((x.2).length : Int) := (by exact Int.natCast_nonneg _)
    repeat (first | refine brT ?_ | refine brF ?_ | refine And.intro rfl ?_ | refine And.intro trivial ?_ | intro _)
    refine ⟨nn i, by simp [mL_len]; omega, ?_⟩
    repeat (first | refine brT ?_ | refine brF ?_ | refine And.intro rfl ?_ | refine And.intro trivial ?_ | intro _)
    refine ⟨_, hat, by simp, fun v0 => ?_⟩
    have e0 : w64 (K + 1) = K + 1 := w64_id (by omega) (by omega)
    have f0 : w64 (K + 1) = K + 1 := by omega
    repeat (first | refine brT ?_ | refine brF ?_ | refine And.intro rfl ?_ | refine And.intro trivial ?_ | intro _)
    refine ⟨nn i, by simp [mL_len]; omega, ?_⟩
    repeat (first | refine brT ?_ | refine brF ?_ | refine And.intro rfl ?_ | refine And.intro trivial ?_ | intro _)
    refine ⟨_, set_at (by simp [mL_len]; omega), ?_⟩
    repeat (first | refine brT ?_ | refine brF ?_ | refine And.intro rfl ?_ | refine And.intro trivial ?_ | intro _)
    refine ⟨_, rfl, rfl, ((i : Int)).toNat, 1, _, _, _, rfl, by decide, set_at (by simp [mL_len]; omega), rfl, s_markIntS (x.2) (w64 (K + 1)) (hh) (by omega) (by omega), fun v1 => ?_⟩
    have f1 : w64 (K + 1) + ((x.2).length : Int) = K + 1 + ((x.2).length : Int) := by omega
    repeat (first | refine brT ?_ | refine brF ?_ | refine And.intro rfl ?_ | refine And.intro trivial ?_ | intro _)
    refine nxt (i + 1, v1) hlt (by show l.length - (i + 1) < l.length - i; omega) (wk rfl ⟨rfl, gi rfl (by show w64 (K + 1) + ((x.2).length : Int) = k + nL n_Mutex (l.take (i + 1)); omega), up1 hlt hl', trivial⟩ ⟨?_, trivial⟩)
    have hd : T.agg [T.int (K), .sl 1 (mkI (x.2).length (w64 (K + 1)))] = m_Mutex x K := by
      unfold m_Mutex
      try rw [f1]
      try rw [f0]
      try rfl
    have hset : ∀ z0 z1 : T, z1 = m_Mutex x K → (((mL m_Mutex n_Mutex (l.take i) k ++ (l.drop i).map t_Mutex).set i z0).set i z1) = mL m_Mutex n_Mutex (l.take (i + 1)) k ++ (l.drop (i + 1)).map t_Mutex := fun z0 z1 hd => by
      rw [List.set_set, hd]; exact hfin
    exact congrArg (fun z => some (Ob.row 0 v1 2 z)) (hset _ _ hd)
  · have : i = l.length := by simp [mL_len] at h; omega
    subst this
    repeat (first | refine brT ?_ | refine brF ?_ | refine And.intro rfl ?_ | refine And.intro trivial ?_ | intro _)
    refine ⟨?_, ?_⟩
    · refine ti ?_
      simp
    · show T.sl 2 _ = T.sl 2 _
      simp
theorem s_heldMutexS (l : List Y_Mutex) (k : Int) (h : l.length ≤ bound ∧ ∀ y ∈ l, ok_Mutex y) (h0 : 0 ≤ k) (hk : k + nL n_Mutex l ≤ 4611686018427387904) : Spec Try.prog 80 [.ro (.sl 2 (mL m_Mutex n_Mutex l k)), .ro (.int k)] [.int (k + nL n_Mutex l)] := by
  obtain ⟨hl, hel⟩ := h
  have hl' : l.length ≤ 16777216 := hl
  refine fn Try.func80 ?_
  refine loopI (fun i : Nat => ⟨31, [(0, .c (.ro 2 (mL m_Mutex n_Mutex l k))), (1, .int (k + nL n_Mutex (l.take i))), (5, .int i)], []⟩) (fun i => l.length - i) (fun i => i ≤ l.length) 0 (Nat.zero_le _) (wk rfl ⟨rfl, congrArg AV.int (by simp [nL]), rfl, trivial⟩ trivial) ?_
  intro i hi
  refine brD (fun h => ?_) (fun h => ?_)
  · have hlt : i < l.length := by simpa [mL_len] using h
    have hh := hel _ (List.getElem_mem hlt)
    have hn0 := n0_Mutex l[i]
    have hna := nL_at (n := n_Mutex) hlt
    have hnl := nL_le n0_Mutex l (i + 1)
    have hnb := nL_nonneg n0_Mutex (l.take i)
    have hat : (mL m_Mutex n_Mutex l k)[((i : Int)).toNat]? = some (m_Mutex l[i] (k + nL n_Mutex (l.take i))) := mL_at hlt
    generalize hK : k + nL n_Mutex (l.take i) = K at *
    obtain ⟨x, hx⟩ : ∃ x, x = l[i] := ⟨_, rfl⟩
    rw [← hx] at hh hat
    rw [← hx] at hn0 hna
    have hn1 : n_Mutex x = 1 + ((x.2).length : Int) := rfl
    have c0 : 0 ≤ ((x.2).length : Int) := (by exact Int.natCast_nonneg _)
    repeat (first | refine brT ?_ | refine brF ?_ | refine And.intro rfl ?_ | refine And.intro trivial ?_ | intro _)
    refine ⟨nn i, m_Mutex x K, hat, ?_⟩
    repeat (first | refine brT ?_ | refine brF ?_ | refine And.intro rfl ?_ | refine And.intro trivial ?_ | intro _)
    refine brI (fun h1 => ?_) (fun _ => ?_)
    · replace h1 : (K != K) = true := h1
      simp at h1
    have e0 : w64 (K + 1) = K + 1 := w64_id (by omega) (by omega)
    have f0 : w64 (K + 1) = K + 1 := by omega
    repeat (first | refine brT ?_ | refine brF ?_ | refine And.intro rfl ?_ | refine And.intro trivial ?_ | intro _)
    refine ⟨nn i, m_Mutex x K, hat, ?_⟩
    repeat (first | refine brT ?_ | refine brF ?_ | refine And.intro rfl ?_ | refine And.intro trivial ?_ | intro _)
    have s1 := s_heldIntS (x.2).length (K + 1) (hh) (by omega) (by omega)
    have s1' := Eq.mpr (congrArg (fun z => Spec Try.prog 22 [.ro (.sl 1 (mkI (x.2).length (K + 1))), .ro (.int z)] [.int (z + ((x.2).length : Int))]) f0) s1
    refine ⟨_, s1', ?_⟩
    intro _
    refine brI (fun h1 => ?_) (fun _ => ?_)
    · have := of_decide_eq_true h1; omega
    have f1 : w64 (K + 1) + ((x.2).length : Int) = K + 1 + ((x.2).length : Int) := by omega
    repeat (first | refine brT ?_ | refine brF ?_ | refine And.intro rfl ?_ | refine And.intro trivial ?_ | intro _)
    exact nxt (i + 1) hlt (by show l.length - (i + 1) < l.length - i; omega) (wk rfl ⟨rfl, gi rfl (by show w64 (K + 1) + ((x.2).length : Int) = k + nL n_Mutex (l.take (i + 1)); omega), up1 hlt hl', trivial⟩ trivial)
  · have : i = l.length := by simp [mL_len] at h; omega
    subst this
    refine ti ?_
    simp
/-! marks of Gor -/
def m_Gor (x : Y_Gor) (k : Int) : T := .agg [T.int (k), T.int (k + 1), .sl 1 (mkI (x.2.2.1).length (k + 1 + 1)), T.int (k + 1 + 1 + ((x.2.2.1).length : Int)), .sl 4 (mL m_Item n_Item (x.2.2.2.2) (k + 1 + 1 + ((x.2.2.1).length : Int) + 1))]
def n_Gor (x : Y_Gor) : Int := 1 + 1 + ((x.2.2.1).length : Int) + 1 + nL n_Item (x.2.2.2.2)
theorem n0_Gor (x : Y_Gor) : 0 ≤ n_Gor x := by
  have c0 : 0 ≤ ((x.2.2.1).length : Int) := (by exact Int.natCast_nonneg _)
  have c1 : 0 ≤ nL n_Item (x.2.2.2.2) := (nL_nonneg n0_Item (x.2.2.2.2))
  unfold n_Gor
  omega
theorem le_Gor (x : Y_Gor) (h : ok_Gor x) : n_Gor x ≤ 83886083 := by
  have c0 : ((x.2.2.1).length : Int) ≤ 16777216 := (by have h1 : (x.2.2.1).length ≤ bound := h.1; unfold bound at h1; omega)
  have c1 : nL n_Item (x.2.2.2.2) ≤ 67108864 := (le_ItemS _ (h.2))
  unfold n_Gor
  omega
theorem le_GorS (l : List Y_Gor) (h : l.length ≤ bound ∧ ∀ y ∈ l, ok_Gor y) : nL n_Gor l ≤ 1407374933884928 := nL_big n0_Gor (fun x hx => le_Gor x (h.2 x hx)) h.1
theorem s_markGorS (l : List Y_Gor) (k : Int) (h : l.length ≤ bound ∧ ∀ y ∈ l, ok_Gor y) (h0 : 0 ≤ k) (hk : k + nL n_Gor l ≤ 4611686018427387904) : Spec Try.prog 75 [.rw (.sl 5 (l.map t_Gor)) (.sl 5 (mL m_Gor n_Gor l k)), .ro (.int k)] [.int (k + nL n_Gor l)] := by
  obtain ⟨hl, hel⟩ := h
  have hl' : l.length ≤ 16777216 := hl
  refine fn Try.func75 ?_
  refine loopI (fun x : Nat × Nat => ⟨48, [(0, .c (.own 500 0)), (1, .int (k + nL n_Gor (l.take x.1))), (5, .int x.1)], [(500, .row 0 x.2 5 (mL m_Gor n_Gor (l.take x.1) k ++ (l.drop x.1).map t_Gor))]⟩) (fun x => l.length - x.1) (fun x => x.1 ≤ l.length) (0, 0) (Nat.zero_le _)
    (wk rfl ⟨rfl, congrArg AV.int (by simp [nL]), rfl, trivial⟩ ⟨rfl, trivial⟩) ?_
  rintro ⟨i, v⟩ hi
  simp only at hi
  repeat (first | refine brT ?_ | refine brF ?_ | refine And.intro rfl ?_ | refine And.intro trivial ?_ | intro _)
  refine brD (fun h => ?_) (fun h => ?_)
  · have hlt : i < l.length := by simp [mL_len] at h; omega
    have hh := hel _ (List.getElem_mem hlt)
    have hn0 := n0_Gor l[i]
    have hna := nL_at (n := n_Gor) hlt
    have hnl := nL_le n0_Gor l (i + 1)
    have hnb := nL_nonneg n0_Gor (l.take i)
    have hlen : (mL m_Gor n_Gor (l.take i) k ++ (l.drop i).map t_Gor).length = l.length := by simp [mL_len]; omega
    have hat : (mL m_Gor n_Gor (l.take i) k ++ (l.drop i).map t_Gor)[((i : Int)).toNat]? = some (t_Gor l[i]) := by
      have h1 : min i l.length = i := by omega
      simp [List.getElem?_append_right, mL_len, h1, hlt]
    have hfin := mark_set (mL m_Gor n_Gor (l.take i) k) (l.map t_Gor) (m_Gor l[i] (k + nL n_Gor (l.take i))) i (by simp [mL_len]; omega) (by simpa using hlt)
    rw [← mL_succ hlt, ← List.map_drop, ← List.map_drop] at hfin
    generalize hK : k + nL n_Gor (l.take i) = K at *
    obtain ⟨x, hx⟩ : ∃ x, x = l[i] := ⟨_, rfl⟩
    rw [← hx] at hh hat hfin
    rw [← hx] at hn0 hna
    have hn1 : n_Gor x = 1 + 1 + ((x.2.2.1).length : Int) + 1 + nL n_Item (x.2.2.2.2) := rfl
    have c0 : 0 ≤ ((x.2.2.1).length : Int) := (by exact Int.natCast_nonneg _)
    have c1 : 0 ≤ nL n_Item (x.2.2.2.2) := (nL_nonneg n0_Item (x.2.2.2.2))
    repeat (first | refine brT ?_ | refine brF ?_ | refine And.intro rfl ?_ | refine And.intro trivial ?_ | intro _)
    refine ⟨nn i, by simp [mL_len]; omega, ?_⟩
    repeat (first | refine brT ?_ | refine brF ?_ | refine And.intro rfl ?_ | refine And.intro trivial ?_ | intro _)
    refine ⟨_, hat, by simp, fun v0 => ?_⟩
    have e0 : w64 (K + 1) = K + 1 := w64_id (by omega) (by omega)
    have f0 : w64 (K + 1) = K + 1 := by omega
    repeat (first | refine brT ?_ | refine brF ?_ | refine And.intro rfl ?_ | refine And.intro trivial ?_ | intro _)
    refine ⟨nn i, by simp [mL_len]; omega, ?_⟩
    repeat (first | refine brT ?_ | refine brF ?_ | refine And.intro rfl ?_ | refine And.intro trivial ?_ | intro _)
    refine ⟨_, set_at (by simp [mL_len]; omega), by simp, fun v1 => ?_⟩
    have e1 : w64 (w64 (K + 1) + 1) = w64 (K + 1) + 1 := w64_id (by omega) (by omega)
    have f1 : w64 (w64 (K + 1) + 1) = K + 1 + 1 := by omega
    repeat (first | refine brT ?_ | refine brF ?_ | refine And.intro rfl ?_ | refine And.intro trivial ?_ | intro _)
    refine ⟨nn i, by simp [mL_len]; omega, ?_⟩
    repeat (first | refine brT ?_ | refine brF ?_ | refine And.intro rfl ?_ | refine And.intro trivial ?_ | intro _)
    refine ⟨_, set_at (by simp [mL_len]; omega), ?_⟩
    repeat (first | refine brT ?_ | refine brF ?_ | refine And.intro rfl ?_ | refine And.intro trivial ?_ | intro _)
    refine ⟨_, rfl, rfl, ((i : Int)).toNat, 2, _, _, _, rfl, by decide, set_at (by simp [mL_len]; omega), rfl, s_markIntS (x.2.2.1) (w64 (w64 (K + 1) + 1)) (hh.1) (by omega) (by omega), fun v2 => ?_⟩
    have f2 : w64 (w64 (K + 1) + 1) + ((x.2.2.1).length : Int) = K + 1 + 1 + ((x.2.2.1).length : Int) := by omega
    repeat (first | refine brT ?_ | refine brF ?_ | refine And.intro rfl ?_ | refine And.intro trivial ?_ | intro _)
    refine ⟨nn i, by simp [mL_len]; omega, ?_⟩
    repeat (first | refine brT ?_ | refine brF ?_ | refine And.intro rfl ?_ | refine And.intro trivial ?_ | intro _)
    refine ⟨_, set_at (by simp [mL_len]; omega), by simp, fun v3 => ?_⟩
    have e3 : w64 (w64 (w64 (K + 1) + 1) + ((x.2.2.1).length : Int) + 1) = w64 (w64 (K + 1) + 1) + ((x.2.2.1).length : Int) + 1 := w64_id (by omega) (by omega)
    have f3 : w64 (w64 (w64 (K + 1) + 1) + ((x.2.2.1).length : Int) + 1) = K + 1 + 1 + ((x.2.2.1).length : Int) + 1 := by omega
    repeat (first | refine brT ?_ | refine brF ?_ | refine And.intro rfl ?_ | refine And.intro trivial ?_ | intro _)
    refine ⟨nn i, by simp [mL_len]; omega, ?_⟩
    repeat (first | refine brT ?_ | refine brF ?_ | refine And.intro rfl ?_ | refine And.intro trivial ?_ | intro _)
    refine ⟨_, set_at (by simp [mL_len]; omega), ?_⟩
    repeat (first | refine brT ?_ | refine brF ?_ | refine And.intro rfl ?_ | refine And.intro trivial ?_ | intro _)
    refine ⟨_, rfl, rfl, ((i : Int)).toNat, 4, _, _, _, rfl, by decide, set_at (by simp [mL_len]; omega), rfl, s_markItemS (x.2.2.2.2) (w64 (w64 (w64 (K + 1) + 1) + ((x.2.2.1).length : Int) + 1)) (hh.2) (by omega) (by omega), fun v4 => ?_⟩
    have f4 : w64 (w64 (w64 (K + 1) + 1) + ((x.2.2.1).length : Int) + 1) + nL n_Item (x.2.2.2.2) = K + 1 + 1 + ((x.2.2.1).length : Int) + 1 + nL n_Item (x.2.2.2.2) := by omega
    repeat (first | refine brT ?_ | refine brF ?_ | refine And.intro rfl ?_ | refine And.intro trivial ?_ | intro _)
    refine nxt (i + 1, v4) hlt (by show l.length - (i + 1) < l.length - i; omega) (wk rfl ⟨rfl, gi rfl (by show w64 (w64 (w64 (K + 1) + 1) + ((x.2.2.1).length : Int) + 1) + nL n_Item (x.2.2.2.2) = k + nL n_Gor (l.take (i + 1)); omega), up1 hlt hl', trivial⟩ ⟨?_, trivial⟩)
    have hd : T.agg [T.int (K), T.int (w64 (K + 1)), .sl 1 (mkI (x.2.2.1).length (w64 (w64 (K + 1) + 1))), T.int (w64 (w64 (K + 1) + 1) + ((x.2.2.1).length : Int)), .sl 4 (mL m_Item n_Item (x.2.2.2.2) (w64 (w64 (w64 (K + 1) + 1) + ((x.2.2.1).length : Int) + 1)))] = m_Gor x K := by
      unfold m_Gor
      try rw [f4]
      try rw [f3]
      try rw [f2]
      try rw [f1]
      try rw [f0]
      try rfl
    have hset : ∀ z0 z1 z2 z3 z4 : T, z4 = m_Gor x K → ((((((mL m_Gor n_Gor (l.take i) k ++ (l.drop i).map t_Gor).set i z0).set i z1).set i z2).set i z3).set i z4) = mL m_Gor n_Gor (l.take (i + 1)) k ++ (l.drop (i + 1)).map t_Gor := fun z0 z1 z2 z3 z4 hd => by
      rw [List.set_set, List.set_set, List.set_set, List.set_set, hd]; exact hfin
    exact congrArg (fun z => some (Ob.row 0 v4 5 z)) (hset _ _ _ _ _ hd)
  · have : i = l.length := by simp [mL_len] at h; omega
    subst this
    repeat (first | refine brT ?_ | refine brF ?_ | refine And.intro rfl ?_ | refine And.intro trivial ?_ | intro _)
    refine ⟨?_, ?_⟩
    · refine ti ?_
      simp
    · show T.sl 5 _ = T.sl 5 _
      simp
theorem s_heldGorS (l : List Y_Gor) (k : Int) (h : l.length ≤ bound ∧ ∀ y ∈ l, ok_Gor y) (h0 : 0 ≤ k) (hk : k + nL n_Gor l ≤ 4611686018427387904) : Spec Try.prog 78 [.ro (.sl 5 (mL m_Gor n_Gor l k)), .ro (.int k)] [.int (k + nL n_Gor l)] := by
  obtain ⟨hl, hel⟩ := h
  have hl' : l.length ≤ 16777216 := hl
  refine fn Try.func78 ?_
  refine loopI (fun i : Nat => ⟨58, [(0, .c (.ro 5 (mL m_Gor n_Gor l k))), (1, .int (k + nL n_Gor (l.take i))), (5, .int i)], []⟩) (fun i => l.length - i) (fun i => i ≤ l.length) 0 (Nat.zero_le _) (wk rfl ⟨rfl, congrArg AV.int (by simp [nL]), rfl, trivial⟩ trivial) ?_
  intro i hi
  refine brD (fun h => ?_) (fun h => ?_)
  · have hlt : i < l.length := by simpa [mL_len] using h
    have hh := hel _ (List.getElem_mem hlt)
    have hn0 := n0_Gor l[i]
    have hna := nL_at (n := n_Gor) hlt
    have hnl := nL_le n0_Gor l (i + 1)
    have hnb := nL_nonneg n0_Gor (l.take i)
    have hat : (mL m_Gor n_Gor l k)[((i : Int)).toNat]? = some (m_Gor l[i] (k + nL n_Gor (l.take i))) := mL_at hlt
    generalize hK : k + nL n_Gor (l.take i) = K at *
    obtain ⟨x, hx⟩ : ∃ x, x = l[i] := ⟨_, rfl⟩
    rw [← hx] at hh hat
    rw [← hx] at hn0 hna
    have hn1 : n_Gor x = 1 + 1 + ((x.2.2.1).length : Int) + 1 + nL n_Item (x.2.2.2.2) := rfl
    have c0 : 0 ≤ ((x.2.2.1).length : Int) := (by exact Int.natCast_nonneg _)
    have c1 : 0 ≤ nL n_Item (x.2.2.2.2) := (nL_nonneg n0_Item (x.2.2.2.2))
    repeat (first | refine brT ?_ | refine brF ?_ | refine And.intro rfl ?_ | refine And.intro trivial ?_ | intro _)
    refine ⟨nn i, m_Gor x K, hat, ?_⟩
    repeat (first | refine brT ?_ | refine brF ?_ | refine And.intro rfl ?_ | refine And.intro trivial ?_ | intro _)
    refine brI (fun h1 => ?_) (fun _ => ?_)
    · replace h1 : (K != K) = true := h1
      simp at h1
    have e0 : w64 (K + 1) = K + 1 := w64_id (by omega) (by omega)
    have f0 : w64 (K + 1) = K + 1 := by omega
    repeat (first | refine brT ?_ | refine brF ?_ | refine And.intro rfl ?_ | refine And.intro trivial ?_ | intro _)
    refine ⟨nn i, m_Gor x K, hat, ?_⟩
    repeat (first | refine brT ?_ | refine brF ?_ | refine And.intro rfl ?_ | refine And.intro trivial ?_ | intro _)
    refine brI (fun h1 => ?_) (fun _ => ?_)
    · replace h1 : (K + 1 != w64 (K + 1)) = true := h1
      rw [f0] at h1
      simp at h1
    have e1 : w64 (w64 (K + 1) + 1) = w64 (K + 1) + 1 := w64_id (by omega) (by omega)
    have f1 : w64 (w64 (K + 1) + 1) = K + 1 + 1 := by omega
    repeat (first | refine brT ?_ | refine brF ?_ | refine And.intro rfl ?_ | refine And.intro trivial ?_ | intro _)
    refine ⟨nn i, m_Gor x K, hat, ?_⟩
    repeat (first | refine brT ?_ | refine brF ?_ | refine And.intro rfl ?_ | refine And.intro trivial ?_ | intro _)
    have s2 := s_heldIntS (x.2.2.1).length (K + 1 + 1) (hh.1) (by omega) (by omega)
    have s2' := Eq.mpr (congrArg (fun z => Spec Try.prog 22 [.ro (.sl 1 (mkI (x.2.2.1).length (K + 1 + 1))), .ro (.int z)] [.int (z + ((x.2.2.1).length : Int))]) f1) s2
    refine ⟨_, s2', ?_⟩
    intro _
    refine brI (fun h1 => ?_) (fun _ => ?_)
    · have := of_decide_eq_true h1; omega
    have f2 : w64 (w64 (K + 1) + 1) + ((x.2.2.1).length : Int) = K + 1 + 1 + ((x.2.2.1).length : Int) := by omega
    repeat (first | refine brT ?_ | refine brF ?_ | refine And.intro rfl ?_ | refine And.intro trivial ?_ | intro _)
    refine ⟨nn i, m_Gor x K, hat, ?_⟩
    repeat (first | refine brT ?_ | refine brF ?_ | refine And.intro rfl ?_ | refine And.intro trivial ?_ | intro _)
    refine brI (fun h1 => ?_) (fun _ => ?_)
    · replace h1 : (K + 1 + 1 + ((x.2.2.1).length : Int) != w64 (w64 (K + 1) + 1) + ((x.2.2.1).length : Int)) = true := h1
      rw [f2] at h1
      simp at h1
    have e3 : w64 (w64 (w64 (K + 1) + 1) + ((x.2.2.1).length : Int) + 1) = w64 (w64 (K + 1) + 1) + ((x.2.2.1).length : Int) + 1 := w64_id (by omega) (by omega)
    have f3 : w64 (w64 (w64 (K + 1) + 1) + ((x.2.2.1).length : Int) + 1) = K + 1 + 1 + ((x.2.2.1).length : Int) + 1 := by omega
    repeat (first | refine brT ?_ | refine brF ?_ | refine And.intro rfl ?_ | refine And.intro trivial ?_ | intro _)
    refine ⟨nn i, m_Gor x K, hat, ?_⟩
    repeat (first | refine brT ?_ | refine brF ?_ | refine And.intro rfl ?_ | refine And.intro trivial ?_ | intro _)
    have s4 := s_heldItemS (x.2.2.2.2) (K + 1 + 1 + ((x.2.2.1).length : Int) + 1) (hh.2) (by omega) (by omega)
    have s4' := Eq.mpr (congrArg (fun z => Spec Try.prog 108 [.ro (.sl 4 (mL m_Item n_Item (x.2.2.2.2) (K + 1 + 1 + ((x.2.2.1).length : Int) + 1))), .ro (.int z)] [.int (z + nL n_Item (x.2.2.2.2))]) f3) s4
    refine ⟨_, s4', ?_⟩
    intro _
    refine brI (fun h1 => ?_) (fun _ => ?_)
    · have := of_decide_eq_true h1; omega
    have f4 : w64 (w64 (w64 (K + 1) + 1) + ((x.2.2.1).length : Int) + 1) + nL n_Item (x.2.2.2.2) = K + 1 + 1 + ((x.2.2.1).length : Int) + 1 + nL n_Item (x.2.2.2.2) := by omega
    repeat (first | refine brT ?_ | refine brF ?_ | refine And.intro rfl ?_ | refine And.intro trivial ?_ | intro _)
    exact nxt (i + 1) hlt (by show l.length - (i + 1) < l.length - i; omega) (wk rfl ⟨rfl, gi rfl (by show w64 (w64 (w64 (K + 1) + 1) + ((x.2.2.1).length : Int) + 1) + nL n_Item (x.2.2.2.2) = k + nL n_Gor (l.take (i + 1)); omega), up1 hlt hl', trivial⟩ trivial)
  · have : i = l.length := by simp [mL_len] at h; omega
    subst this
    refine ti ?_
    simp
def mv_Eng (x : Y_Eng) (k : Int) : T := .agg [.sl 5 (mL m_Gor n_Gor (x.1) (k)), .sl 5 (mL m_Chan n_Chan (x.2.1) (k + nL n_Gor (x.1))), .sl 2 (mL m_Mutex n_Mutex (x.2.2) (k + nL n_Gor (x.1) + nL n_Chan (x.2.1)))]
def nv_Eng (x : Y_Eng) : Int := nL n_Gor (x.1) + nL n_Chan (x.2.1) + nL n_Mutex (x.2.2)
theorem nv0_Eng (x : Y_Eng) : 0 ≤ nv_Eng x := by
  have c0 : 0 ≤ nL n_Gor (x.1) := (nL_nonneg n0_Gor (x.1))
  have c1 : 0 ≤ nL n_Chan (x.2.1) := (nL_nonneg n0_Chan (x.2.1))
  have c2 : 0 ≤ nL n_Mutex (x.2.2) := (nL_nonneg n0_Mutex (x.2.2))
  unfold nv_Eng
  omega
theorem nvle_Eng (x : Y_Eng) (h : ok_Eng x) : nv_Eng x ≤ 3659174797901824 := by
  have c0 : nL n_Gor (x.1) ≤ 1407374933884928 := (le_GorS _ (h.1))
  have c1 : nL n_Chan (x.2.1) ≤ 1970324870529024 := (le_ChanS _ (h.2.1))
  have c2 : nL n_Mutex (x.2.2) ≤ 281474993487872 := (le_MutexS _ (h.2.2))
  unfold nv_Eng
  omega
theorem s_markEng (x : Y_Eng) (k : Int) (h : ok_Eng x) (h0 : 0 ≤ k) (hk : k + nv_Eng x ≤ 4611686018427387904) : Spec Try.prog 35 [.rw (t_Eng x) (mv_Eng x k), .ro (.int k)] [.int (k + nv_Eng x)] := by
  refine fn Try.func35 ?_
  unfold nv_Eng at hk
  have c0 : 0 ≤ nL n_Gor (x.1) := (nL_nonneg n0_Gor (x.1))
  have c1 : 0 ≤ nL n_Chan (x.2.1) := (nL_nonneg n0_Chan (x.2.1))
  have c2 : 0 ≤ nL n_Mutex (x.2.2) := (nL_nonneg n0_Mutex (x.2.2))
  repeat (first | refine brT ?_ | refine brF ?_ | refine And.intro rfl ?_ | refine And.intro trivial ?_ | intro _)
  refine ⟨_, rfl, _, s_markGorS (x.1) (k) (h.1) (by omega) (by omega), ?_⟩
  repeat (first | refine brT ?_ | refine brF ?_ | refine And.intro rfl ?_ | refine And.intro trivial ?_ | intro _)
  refine ⟨_, rfl, _, s_markChanS (x.2.1) (k + nL n_Gor (x.1)) (h.2.1) (by omega) (by omega), ?_⟩
  repeat (first | refine brT ?_ | refine brF ?_ | refine And.intro rfl ?_ | refine And.intro trivial ?_ | intro _)
  refine ⟨_, rfl, _, s_markMutexS (x.2.2) (k + nL n_Gor (x.1) + nL n_Chan (x.2.1)) (h.2.2) (by omega) (by omega), ?_⟩
  repeat (first | refine brT ?_ | refine brF ?_ | refine And.intro rfl ?_ | refine And.intro trivial ?_ | intro _)
  refine ⟨ti (by unfold nv_Eng; omega), ?_⟩
  repeat (first | refine brT ?_ | refine brF ?_ | refine And.intro rfl ?_ | refine And.intro trivial ?_ | intro _)
  exact rfl
theorem s_heldEng (x : Y_Eng) (k : Int) (h : ok_Eng x) (h0 : 0 ≤ k) (hk : k + nv_Eng x ≤ 4611686018427387904) : Spec Try.prog 36 [.ro (mv_Eng x k), .ro (.int k)] [.int (k + nv_Eng x)] := by
  refine fn Try.func36 ?_
  unfold nv_Eng at hk
  have c0 : 0 ≤ nL n_Gor (x.1) := (nL_nonneg n0_Gor (x.1))
  have c1 : 0 ≤ nL n_Chan (x.2.1) := (nL_nonneg n0_Chan (x.2.1))
  have c2 : 0 ≤ nL n_Mutex (x.2.2) := (nL_nonneg n0_Mutex (x.2.2))
  repeat (first | refine brT ?_ | refine brF ?_ | refine And.intro rfl ?_ | refine And.intro trivial ?_ | intro _)
  refine ⟨_, s_heldGorS (x.1) (k) (h.1) (by omega) (by omega), ?_⟩
  intro _
  refine brI (fun h1 => ?_) (fun _ => ?_)
  · have := of_decide_eq_true h1; omega
  repeat (first | refine brT ?_ | refine brF ?_ | refine And.intro rfl ?_ | refine And.intro trivial ?_ | intro _)
  refine ⟨_, s_heldChanS (x.2.1) (k + nL n_Gor (x.1)) (h.2.1) (by omega) (by omega), ?_⟩
  intro _
  refine brI (fun h1 => ?_) (fun _ => ?_)
  · have := of_decide_eq_true h1; omega
  repeat (first | refine brT ?_ | refine brF ?_ | refine And.intro rfl ?_ | refine And.intro trivial ?_ | intro _)
  refine ⟨_, s_heldMutexS (x.2.2) (k + nL n_Gor (x.1) + nL n_Chan (x.2.1)) (h.2.2) (by omega) (by omega), ?_⟩
  intro _
  refine brI (fun h1 => ?_) (fun _ => ?_)
  · have := of_decide_eq_true h1; omega
  repeat (first | refine brT ?_ | refine brF ?_ | refine And.intro rfl ?_ | refine And.intro trivial ?_ | intro _)
  refine ti (by unfold nv_Eng; omega)


end Go.Proofs.Ytbofjpmighijhaa.E
