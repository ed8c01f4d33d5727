/- Contracts of functions of this seat's program. -/
import Derived.Test.YtiphlkclkieanaaETy
import Derived.Test.YtiphlkclkieanaaECh
namespace Go.Proofs.Ytiphlkclkieanaa.E
set_option linter.unusedVariables false
set_option maxHeartbeats 1600000
/-! marks of Chunk -/
def m_Chunk (x : Y_Chunk) (k : Int) : T := .agg [.sl 1 (mkB (x).length (k))]
def n_Chunk (x : Y_Chunk) : Int := ((x).length : Int)
theorem n0_Chunk (x : Y_Chunk) : 0 ≤ n_Chunk x := by
  have c0 : 0 ≤ ((x).length : Int) := (by exact Int.natCast_nonneg _)
  unfold n_Chunk
  omega
theorem le_Chunk (x : Y_Chunk) (h : ok_Chunk x) : n_Chunk x ≤ 16777216 := by
  have c0 : ((x).length : Int) ≤ 16777216 := (by have h1 : (x).length ≤ bound := (h).1; unfold bound at h1; omega)
  unfold n_Chunk
  omega
theorem le_ChunkS (l : List Y_Chunk) (h : l.length ≤ bound ∧ ∀ y ∈ l, ok_Chunk y) : nL n_Chunk l ≤ 281474976710656 := nL_big n0_Chunk (fun x hx => le_Chunk x (h.2 x hx)) h.1
theorem s_markChunkS (l : List Y_Chunk) (k : Int) (h : l.length ≤ bound ∧ ∀ y ∈ l, ok_Chunk y) (h0 : 0 ≤ k) (hk : k + nL n_Chunk l ≤ 4611686018427387904) : Spec Try.prog 12 [.rw (.sl 1 (l.map t_Chunk)) (.sl 1 (mL m_Chunk n_Chunk l k)), .ro (.int k)] [.int (k + nL n_Chunk l)] := by
  obtain ⟨hl, hel⟩ := h
  have hl' : l.length ≤ 16777216 := hl
  refine fn Try.func12 ?_
  refine loopI (fun x : Nat × Nat => ⟨20, [(0, .c (.own 500 0)), (1, .int (k + nL n_Chunk (l.take x.1))), (5, .int x.1)], [(500, .row 0 x.2 1 (mL m_Chunk n_Chunk (l.take x.1) k ++ (l.drop x.1).map t_Chunk))]⟩) (fun x => l.length - x.1) (fun x => x.1 ≤ l.length) (0, 0) (Nat.zero_le _)
    (wk rfl ⟨rfl, congrArg AV.int (by simp [nL]), rfl, trivial⟩ ⟨rfl, trivial⟩) ?_
  rintro ⟨i, v⟩ hi
  simp only at hi
  repeat (first | refine brT ?_ | refine brF ?_ | refine And.intro rfl ?_ | refine And.intro trivial ?_ | intro _)
  refine brD (fun h => ?_) (fun h => ?_)
  · have hlt : i < l.length := by simp [mL_len] at h; omega
    have hh := hel _ (List.getElem_mem hlt)
    have hn0 := n0_Chunk l[i]
    have hna := nL_at (n := n_Chunk) hlt
    have hnl := nL_le n0_Chunk l (i + 1)
    have hnb := nL_nonneg n0_Chunk (l.take i)
    have hlen : (mL m_Chunk n_Chunk (l.take i) k ++ (l.drop i).map t_Chunk).length = l.length := by simp [mL_len]; omega
    have hat : (mL m_Chunk n_Chunk (l.take i) k ++ (l.drop i).map t_Chunk)[((i : Int)).toNat]? = some (t_Chunk l[i]) := by
      have h1 : min i l.length = i := by omega
      simp [List.getElem?_append_right, mL_len, h1, hlt]
    have hfin := mark_set (mL m_Chunk n_Chunk (l.take i) k) (l.map t_Chunk) (m_Chunk l[i] (k + nL n_Chunk (l.take i))) i (by simp [mL_len]; omega) (by simpa using hlt)
    rw [← mL_succ hlt, ← List.map_drop, ← List.map_drop] at hfin
    generalize hK : k + nL n_Chunk (l.take i) = K at *
    obtain ⟨x, hx⟩ : ∃ x, x = l[i] := ⟨_, rfl⟩
    rw [← hx] at hh hat hfin
    rw [← hx] at hn0 hna
    have hn1 : n_Chunk x = ((x).length : Int) := rfl
    have c0 : 0 ≤ ((x).length : Int) := (by exact Int.natCast_nonneg _)
    repeat (first | refine brT ?_ | refine brF ?_ | refine And.intro rfl ?_ | refine And.intro trivial ?_ | intro _)
    refine ⟨nn i, by simp [mL_len]; omega, ?_⟩
    repeat (first | refine brT ?_ | refine brF ?_ | refine And.intro rfl ?_ | refine And.intro trivial ?_ | intro _)
    refine ⟨_, hat, ?_⟩
    repeat (first | refine brT ?_ | refine brF ?_ | refine And.intro rfl ?_ | refine And.intro trivial ?_ | intro _)
    refine ⟨_, rfl, rfl, ((i : Int)).toNat, 0, _, _, _, rfl, by decide, hat, rfl, s_markByteS (x) (K) ((hh).1) (by omega) (by omega), fun v0 => ?_⟩
    repeat (first | refine brT ?_ | refine brF ?_ | refine And.intro rfl ?_ | refine And.intro trivial ?_ | intro _)
    refine nxt (i + 1, v0) hlt (by show l.length - (i + 1) < l.length - i; omega) (wk rfl ⟨rfl, gi rfl (by show K + ((x).length : Int) = k + nL n_Chunk (l.take (i + 1)); omega), up1 hlt hl', trivial⟩ ⟨?_, trivial⟩)
    have hd : T.agg [.sl 1 (mkB (x).length (K))] = m_Chunk x K := by
      unfold m_Chunk
      try rfl
    have hset : ∀ z0 : T, z0 = m_Chunk x K → ((mL m_Chunk n_Chunk (l.take i) k ++ (l.drop i).map t_Chunk).set i z0) = mL m_Chunk n_Chunk (l.take (i + 1)) k ++ (l.drop (i + 1)).map t_Chunk := fun z0 hd => by
      rw [hd]; exact hfin
    exact congrArg (fun z => some (Ob.row 0 v0 1 z)) (hset _ hd)
  · have : i = l.length := by simp [mL_len] at h; omega
    subst this
    repeat (first | refine brT ?_ | refine brF ?_ | refine And.intro rfl ?_ | refine And.intro trivial ?_ | intro _)
    refine ⟨?_, ?_⟩
    · refine ti ?_
      simp
    · show T.sl 1 _ = T.sl 1 _
      simp
theorem s_heldChunkS (l : List Y_Chunk) (k : Int) (h : l.length ≤ bound ∧ ∀ y ∈ l, ok_Chunk y) (h0 : 0 ≤ k) (hk : k + nL n_Chunk l ≤ 4611686018427387904) : Spec Try.prog 18 [.ro (.sl 1 (mL m_Chunk n_Chunk l k)), .ro (.int k)] [.int (k + nL n_Chunk l)] := by
  obtain ⟨hl, hel⟩ := h
  have hl' : l.length ≤ 16777216 := hl
  refine fn Try.func18 ?_
  refine loopI (fun i : Nat => ⟨22, [(0, .c (.ro 1 (mL m_Chunk n_Chunk l k))), (1, .int (k + nL n_Chunk (l.take i))), (5, .int i)], []⟩) (fun i => l.length - i) (fun i => i ≤ l.length) 0 (Nat.zero_le _) (wk rfl ⟨rfl, congrArg AV.int (by simp [nL]), rfl, trivial⟩ trivial) ?_
  intro i hi
  refine brD (fun h => ?_) (fun h => ?_)
  · have hlt : i < l.length := by simpa [mL_len] using h
    have hh := hel _ (List.getElem_mem hlt)
    have hn0 := n0_Chunk l[i]
    have hna := nL_at (n := n_Chunk) hlt
    have hnl := nL_le n0_Chunk l (i + 1)
    have hnb := nL_nonneg n0_Chunk (l.take i)
    have hat : (mL m_Chunk n_Chunk l k)[((i : Int)).toNat]? = some (m_Chunk l[i] (k + nL n_Chunk (l.take i))) := mL_at hlt
    generalize hK : k + nL n_Chunk (l.take i) = K at *
    obtain ⟨x, hx⟩ : ∃ x, x = l[i] := ⟨_, rfl⟩
    rw [← hx] at hh hat
    rw [← hx] at hn0 hna
    have hn1 : n_Chunk x = ((x).length : Int) := rfl
    have c0 : 0 ≤ ((x).length : Int) := (by exact Int.natCast_nonneg _)
    repeat (first | refine brT ?_ | refine brF ?_ | refine And.intro rfl ?_ | refine And.intro trivial ?_ | intro _)
    refine ⟨nn i, m_Chunk x K, hat, ?_⟩
    repeat (first | refine brT ?_ | refine brF ?_ | refine And.intro rfl ?_ | refine And.intro trivial ?_ | intro _)
    have s0 := s_heldByteS (x).length (K) ((hh).1) (by omega) (by omega)
    refine ⟨_, s0, ?_⟩
    intro _
    refine brI (fun h1 => ?_) (fun _ => ?_)
    · have := of_decide_eq_true h1; omega
    repeat (first | refine brT ?_ | refine brF ?_ | refine And.intro rfl ?_ | refine And.intro trivial ?_ | intro _)
    exact nxt (i + 1) hlt (by show l.length - (i + 1) < l.length - i; omega) (wk rfl ⟨rfl, gi rfl (by show K + ((x).length : Int) = k + nL n_Chunk (l.take (i + 1)); omega), up1 hlt hl', trivial⟩ trivial)
  · have : i = l.length := by simp [mL_len] at h; omega
    subst this
    refine ti ?_
    simp


end Go.Proofs.Ytiphlkclkieanaa.E
