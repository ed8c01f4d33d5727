/- Contracts of functions of this seat's program. -/
import Derived.Test.YtiphlkclkieanaaETy
import Derived.Test.YtiphlkclkieanaaECm
namespace Go.Proofs.Ytiphlkclkieanaa.E
set_option linter.unusedVariables false
set_option maxHeartbeats 1600000
theorem s_Stream (l : List Y_Chunk) (ho : l.length ≤ bound ∧ ∀ y ∈ l, ok_Chunk y) (ht : totL l ≤ bound) : Spec Try.prog 7 [.ro (.sl 1 (l.map t_Chunk))] [.sl 1 ((stream l).1.map T.u8), T.bool (stream l).2] := by
  have hl : l.length ≤ 16777216 := ho.1
  refine fn Try.func7 ?_
  repeat (first | refine brT ?_ | refine brF ?_ | refine And.intro rfl ?_ | refine And.intro trivial ?_ | intro _)
  refine ⟨cB [], fun q0 => ?_⟩
  repeat (first | refine brT ?_ | refine brF ?_ | refine And.intro rfl ?_ | refine And.intro trivial ?_ | intro _)
  refine loopI (fun x : Nat × Nat => ⟨31, [(0, .c (.ro 1 (l.map t_Chunk))), (4, .c (.own 10000 x.2)), (10, .c (.ro 1 (l.map t_Chunk))), (11, .int l.length), (12, .int x.1)], [(10000, .row x.2 0 1 ((strP l x.1).map T.u8))]⟩) (fun x => l.length - x.1) (fun x => x.1 ≤ l.length ∧ ∀ j (hj : j < l.length), j < x.1 → (frameB j l[j]).2 = true) (0, q0) ⟨Nat.zero_le _, fun j _ h => absurd h (by simp)⟩ (wk rfl ⟨rfl, rfl, rfl, lenm, rfl, trivial⟩ ⟨rfl, trivial⟩) ?_
  rintro ⟨i, q⟩ ⟨hi, hI⟩
  simp only at hi hI
  refine brD (fun h => ?_) (fun h => ?_)
  · have h : i < l.length := by simpa using h
    have hx := ho.2 _ (List.getElem_mem h)
    have hs := strP_succ h
    have hn := strP_len (l := l) (i := i + 1) h
    have hn2 := totL_take l (i + 1)
    have hno := fun hk => str_no h hk
    refine ⟨nn i, t_Chunk l[i], atm h, ?_⟩
    intro q6
    repeat (first | refine brT ?_ | refine brF ?_ | refine And.intro rfl ?_ | refine And.intro trivial ?_ | intro _)
    obtain ⟨x, hxe⟩ : ∃ x, x = l[i] := ⟨_, rfl⟩
    rw [← hxe] at hx hs hno
    rw [← hxe]
    refine ⟨_, s_FrameBytes i x hx.2 hx.1, ?_⟩
    repeat (first | refine brT ?_ | refine brF ?_ | refine And.intro rfl ?_ | refine And.intro trivial ?_ | intro _)
    refine brI (fun h2 => ?_) (fun h2 => ?_)
    · repeat (first | refine brT ?_ | refine brF ?_ | refine And.intro rfl ?_ | refine And.intro trivial ?_ | intro _)
      rw [hno (by simpa using h2)]
      exact ⟨1, rfl⟩
    repeat (first | refine brT ?_ | refine brF ?_ | refine And.intro rfl ?_ | refine And.intro trivial ?_ | intro _)
    refine ⟨by rw [hs, List.length_append] at hn; rw [List.length_map, List.length_map]; show (strP l i).length + _ ≤ _; omega, fun q1 => ?_⟩
    repeat (first | refine brT ?_ | refine brF ?_ | refine And.intro rfl ?_ | refine And.intro trivial ?_ | intro _)
    exact nxt (i + 1, q1) ⟨h, fun j hj hji => by
      by_cases e : j = i
      · subst e; rw [← hxe]; simpa using h2
      · exact hI j hj (by simp only at hji; omega)⟩ (by show _ < _; simp only; omega) (wk rfl ⟨rfl, rfl, rfl, rfl, up1 h hl, trivial⟩ ⟨gr rfl (by rw [hs, List.map_append]), trivial⟩)
  · have : i = l.length := by simp at h; omega
    subst this
    repeat (first | refine brT ?_ | refine brF ?_ | refine And.intro rfl ?_ | refine And.intro trivial ?_ | intro _)
    have e := str_yes (fun j hj => hI j hj hj)
    exact congrArg (fun z : List Int × Bool => [T.sl 1 (z.1.map T.u8), T.bool z.2]) e.symm
theorem i_Stream (l : List Y_Chunk) (ho : l.length ≤ bound ∧ ∀ y ∈ l, ok_Chunk y) (ht : totL l ≤ bound) : Spec Try.prog 9 [.ro (.sl 1 (l.map t_Chunk))] [.sl 1 ((stream l).1.map T.u8), T.bool (stream l).2] := by
  have hl : l.length ≤ 16777216 := ho.1
  refine fn Try.func9 ?_
  repeat (first | refine brT ?_ | refine brF ?_ | refine And.intro rfl ?_ | refine And.intro trivial ?_ | intro _)
  refine ⟨cB [], fun q0 => ?_⟩
  repeat (first | refine brT ?_ | refine brF ?_ | refine And.intro rfl ?_ | refine And.intro trivial ?_ | intro _)
  refine loopI (fun x : Nat × Nat => ⟨31, [(0, .c (.ro 1 (l.map t_Chunk))), (4, .c (.own 10000 x.2)), (10, .c (.ro 1 (l.map t_Chunk))), (11, .int l.length), (12, .int x.1)], [(10000, .row x.2 0 1 ((strP l x.1).map T.u8))]⟩) (fun x => l.length - x.1) (fun x => x.1 ≤ l.length ∧ ∀ j (hj : j < l.length), j < x.1 → (frameB j l[j]).2 = true) (0, q0) ⟨Nat.zero_le _, fun j _ h => absurd h (by simp)⟩ (wk rfl ⟨rfl, rfl, rfl, lenm, rfl, trivial⟩ ⟨rfl, trivial⟩) ?_
  rintro ⟨i, q⟩ ⟨hi, hI⟩
  simp only at hi hI
  refine brD (fun h => ?_) (fun h => ?_)
  · have h : i < l.length := by simpa using h
    have hx := ho.2 _ (List.getElem_mem h)
    have hs := strP_succ h
    have hn := strP_len (l := l) (i := i + 1) h
    have hn2 := totL_take l (i + 1)
    have hno := fun hk => str_no h hk
    refine ⟨nn i, t_Chunk l[i], atm h, ?_⟩
    intro q6
    repeat (first | refine brT ?_ | refine brF ?_ | refine And.intro rfl ?_ | refine And.intro trivial ?_ | intro _)
    obtain ⟨x, hxe⟩ : ∃ x, x = l[i] := ⟨_, rfl⟩
    rw [← hxe] at hx hs hno
    rw [← hxe]
    refine ⟨_, i_FrameBytes i x hx.2 hx.1, ?_⟩
    repeat (first | refine brT ?_ | refine brF ?_ | refine And.intro rfl ?_ | refine And.intro trivial ?_ | intro _)
    refine brI (fun h2 => ?_) (fun h2 => ?_)
    · repeat (first | refine brT ?_ | refine brF ?_ | refine And.intro rfl ?_ | refine And.intro trivial ?_ | intro _)
      rw [hno (by simpa using h2)]
      exact ⟨1, rfl⟩
    repeat (first | refine brT ?_ | refine brF ?_ | refine And.intro rfl ?_ | refine And.intro trivial ?_ | intro _)
    refine ⟨by rw [hs, List.length_append] at hn; rw [List.length_map, List.length_map]; show (strP l i).length + _ ≤ _; omega, fun q1 => ?_⟩
    repeat (first | refine brT ?_ | refine brF ?_ | refine And.intro rfl ?_ | refine And.intro trivial ?_ | intro _)
    exact nxt (i + 1, q1) ⟨h, fun j hj hji => by
      by_cases e : j = i
      · subst e; rw [← hxe]; simpa using h2
      · exact hI j hj (by simp only at hji; omega)⟩ (by show _ < _; simp only; omega) (wk rfl ⟨rfl, rfl, rfl, rfl, up1 h hl, trivial⟩ ⟨gr rfl (by rw [hs, List.map_append]), trivial⟩)
  · have : i = l.length := by simp at h; omega
    subst this
    repeat (first | refine brT ?_ | refine brF ?_ | refine And.intro rfl ?_ | refine And.intro trivial ?_ | intro _)
    have e := str_yes (fun j hj => hI j hj hj)
    exact congrArg (fun z : List Int × Bool => [T.sl 1 (z.1.map T.u8), T.bool z.2]) e.symm
theorem fold_tot : ∀ (l : List Y_Chunk) (n : Int), (∀ x ∈ l, raw_Chunk x) → 0 ≤ n → n ≤ 1048576 → ¬ foldSz f_Chunk l n < 0 → ((l.map List.length).sum : Int) + foldSz f_Chunk l n = n
  | [], n, _, _, _, _ => by simp [foldSz]
  | x :: l, n, hr, h0, hn, h => by
    simp only [foldSz] at h ⊢
    split at h
    · omega
    · rename_i h1
      rw [if_neg h1]
      have hx : szI x.length n = n - x.length ∧ f_Chunk x n = szI x.length n := by
        unfold f_Chunk at h1 ⊢
        split at h1
        · omega
        · rename_i h2
          exact ⟨(szI_in (hr x (by simp)).1 h0 hn h2).2, by rw [if_neg h2]⟩
      rw [hx.2] at h1 h ⊢
      rw [hx.1] at h1 h ⊢
      have := fold_tot l (n - x.length) (fun y hy => hr y (by simp [hy])) (by omega) (by omega) h
      simp only [List.map_cons, List.sum_cons]
      omega
theorem tot_eq : ∀ l : List Y_Chunk, totL l = (l.map List.length).sum + 15 * l.length
  | [] => rfl
  | x :: l => by
    have := tot_eq l
    simp only [totL, List.map_cons, List.sum_cons, List.length_cons] at this ⊢
    omega
theorem tot_in {l : List Y_Chunk} (hr : rawS_Chunk l) (h : ¬ f_ChunkS l 1048576 < 0) : totL l ≤ 16777216 := by
  unfold f_ChunkS szS at h
  split at h
  · omega
  rename_i h1
  have a := szI_in hr.1 (by decide) (by decide) h1
  have b := fold_tot l _ hr.2 (by omega) (by omega) h
  have c := tot_eq l
  omega
theorem str_len {l : List Y_Chunk} (ht : totL l ≤ bound) : (stream l).1.length ≤ bound := by
  by_cases h : ∃ i, ∃ h : i < l.length, (frameB i l[i]).2 = false
  · obtain ⟨i, hi, hk⟩ := h
    rw [str_no hi hk]
    exact Nat.zero_le _
  · rw [str_yes (fun j hj => by
      cases e : (frameB j l[j]).2
      · exact absurd ⟨j, hj, e⟩ h
      · rfl)]
    have a := strP_len (l := l) (i := l.length) (Nat.le_refl _)
    have b := totL_take l l.length
    show (strP l l.length).length ≤ _
    omega


end Go.Proofs.Ytiphlkclkieanaa.E
