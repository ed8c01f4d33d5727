/- Contracts of functions of this seat's program. -/
import Derived.Test.YtiphlkclkieanaaETy
import Derived.Test.YtiphlkclkieanaaEFs
import Derived.Test.YtiphlkclkieanaaECm
namespace Go.Proofs.Ytiphlkclkieanaa.E
set_option linter.unusedVariables false
set_option maxHeartbeats 1600000
def scanGo (b : List Int) : Nat → Int → List (List Int) → List (List Int) × Int × Int
  | 0, a, l => (l, a, 0)
  | n + 1, a, l => if a < b.length then
      if (frameRead b a).2.2.2 = 2 ∨ (frameRead b a).2.2.2 = 4 then (l, a, 1)
      else if (frameRead b a).2.2.2 ≠ 0 ∨ (frameRead b a).1 ≠ l.length then (l, a, 2)
      else scanGo b n (frameRead b a).2.2.1 (l ++ [(frameRead b a).2.1])
    else (l, a, 0)
def scan (b : List Int) : List (List Int) × Int × Int := scanGo b (b.length + 1) 0 []
theorem read_ok {b : List Int} {a : Int} (hb : isB b) (h0 : 0 ≤ a) (ha : a ≤ b.length) (h : (frameRead b a).2.2.2 = 0) : a + 15 + (frameRead b a).2.1.length ≤ (frameRead b a).2.2.1 ∧ (frameRead b a).2.2.1 ≤ b.length := by
  have hf : isB (b.drop a.toNat) := fun x hx => hb x (List.mem_of_mem_drop hx)
  have hc := fCnt_in hf
  have hfl : (b.drop a.toNat).length = b.length - a.toNat := List.length_drop ..
  unfold frameRead at h ⊢
  split at h
  · exact absurd h (by decide)
  split at h
  · exact absurd h (by decide)
  split at h
  · exact absurd h (by decide)
  split at h
  · exact absurd h (by decide)
  split at h
  · exact absurd h (by decide)
  rename_i h1 h2 h3 h4 h5
  rw [if_neg h1, if_neg h2, if_neg h3, if_neg h4, if_neg h5]
  have : (fData (b.drop a.toNat)).length ≤ (fCnt (b.drop a.toNat)).toNat := by unfold fData; rw [List.length_take]; omega
  refine ⟨?_, ?_⟩
  · show a + 15 + ((fData (b.drop a.toNat)).length : Int) ≤ a + 15 + fCnt (b.drop a.toNat); omega
  · show a + 15 + fCnt (b.drop a.toNat) ≤ _; omega
theorem read_B {b : List Int} {a : Int} (hb : isB b) : isB (frameRead b a).2.1 := by
  have hf : isB (b.drop a.toNat) := fun x hx => hb x (List.mem_of_mem_drop hx)
  have nil : isB [] := fun x hx => by cases hx
  unfold frameRead
  repeat' split
  all_goals first | exact nil | exact isB_sub hf _ _
def okC (b : List Int) (a : Int) (l : List Y_Chunk) : Prop := 0 ≤ a ∧ a ≤ b.length ∧ (totL l : Int) ≤ a ∧ ∀ y ∈ l, ok_Chunk y
theorem totL_app (l : List Y_Chunk) (x : Y_Chunk) : totL (l ++ [x]) = totL l + (x.length + 15) := by simp [totL]
theorem totL_len (l : List Y_Chunk) : l.length ≤ totL l := by
  induction l with
  | nil => exact Nat.le_refl _
  | cons x l ih => simp only [totL, List.map_cons, List.sum_cons, List.length_cons] at ih ⊢; omega
theorem okC_next {b : List Int} {a : Int} {l : List Y_Chunk} (hb : isB b) (hl : b.length ≤ bound) (hk : okC b a l) (h : (frameRead b a).2.2.2 = 0) : okC b (frameRead b a).2.2.1 (l ++ [(frameRead b a).2.1]) ∧ a + 15 ≤ (frameRead b a).2.2.1 := by
  obtain ⟨h0, h1, h2, h3⟩ := hk
  have hr := read_ok hb h0 h1 h
  refine ⟨⟨by omega, hr.2, by rw [totL_app]; omega, fun y hy => ?_⟩, by omega⟩
  rcases List.mem_append.1 hy with h | h
  · exact h3 y h
  · obtain rfl := List.mem_singleton.1 h
    exact ⟨by omega, read_B hb⟩
theorem scan_ok {b : List Int} (hb : isB b) (hl : b.length ≤ bound) : okC b (scan b).2.1 (scan b).1 := by
  have : ∀ (n : Nat) (a : Int) (l : List Y_Chunk), okC b a l → okC b (scanGo b n a l).2.1 (scanGo b n a l).1 := by
    intro n
    induction n with
    | zero => intro a l h; exact h
    | succ n ih =>
      intro a l h
      unfold scanGo
      split
      · split
        · exact h
        split
        · exact h
        · rename_i h3
          exact ih _ _ (okC_next hb hl h (by omega)).1
      · exact h
  exact this _ _ _ ⟨Int.le_refl _, by omega, Int.le_refl _, fun y hy => by cases hy⟩
theorem read_end {b : List Int} : (frameRead b b.length).2.2.2 = 2 := by
  unfold frameRead
  rw [if_neg (by omega), if_pos (by rw [List.length_drop]; omega)]
theorem s_Scan (b : List Int) (hb : isB b) (hl : b.length ≤ bound) : Spec Try.prog 15 [.ro (.sl 1 (b.map T.u8))] [.sl 1 ((scan b).1.map t_Chunk), T.int (scan b).2.1, T.int (scan b).2.2] := by
  have hl' : b.length ≤ 16777216 := hl
  refine fn Try.func15 ?_
  repeat (first | refine brT ?_ | refine brF ?_ | refine And.intro rfl ?_ | refine And.intro trivial ?_ | intro _)
  refine ⟨cB [], fun q0 => ?_⟩
  repeat (first | refine brT ?_ | refine brF ?_ | refine And.intro rfl ?_ | refine And.intro trivial ?_ | intro _)
  refine loopI (fun x : Nat × Int × List Y_Chunk × Nat => ⟨50, [(0, .c (.ro 1 (b.map T.u8))), (5, .c (.own 12000 x.1)), (6, .int x.2.1)], [(12000, .row x.1 0 1 (x.2.2.1.map t_Chunk))]⟩) (fun x => x.2.2.2) (fun x => okC b x.2.1 x.2.2.1 ∧ (b.length : Int) - x.2.1 < x.2.2.2 ∧ scanGo b x.2.2.2 x.2.1 x.2.2.1 = scan b) (q0, 0, [], b.length + 1) ⟨⟨Int.le_refl _, by simp, Int.le_refl _, fun y hy => by cases hy⟩, by simp; omega, rfl⟩ (wk rfl ⟨rfl, rfl, rfl, trivial⟩ ⟨rfl, trivial⟩) ?_
  rintro ⟨q, a, l, n⟩ ⟨hk, hn, hs⟩
  simp only at hk hn hs
  cases n with
  | zero => exact absurd hn (by have := hk.2.1; omega)
  | succ n =>
  refine brD (fun h => ?_) (fun h => ?_)
  · have h : a < b.length := by simpa using h
    unfold scanGo at hs
    rw [if_pos h] at hs
    repeat (first | refine brT ?_ | refine brF ?_ | refine And.intro rfl ?_ | refine And.intro trivial ?_ | intro _)
    refine ⟨_, s_FrameRead b a hb hl, ?_⟩
    repeat (first | refine brT ?_ | refine brF ?_ | refine And.intro rfl ?_ | refine And.intro trivial ?_ | intro _)
    have fin := fun (z : List Y_Chunk × Int × Int) (e : z = scan b) => congrArg (fun z : List Y_Chunk × Int × Int => [T.sl 1 (z.1.map t_Chunk), T.int z.2.1, T.int z.2.2]) e
    by_cases h2 : (frameRead b a).2.2.2 = 2 ∨ (frameRead b a).2.2.2 = 4
    · rw [if_pos h2] at hs
      rcases h2 with h2 | h2
      · repeat (first | (first | refine brT ?_ | refine brF ?_ | refine And.intro rfl ?_ | refine And.intro trivial ?_ | intro _) | (refine brL ?a (fun _ => ?_); case a => (simp <;> omega)) | (refine brR ?a (fun _ => ?_); case a => (simp <;> omega)))
        exact fin _ hs
      · repeat (first | (first | refine brT ?_ | refine brF ?_ | refine And.intro rfl ?_ | refine And.intro trivial ?_ | intro _) | (refine brL ?a (fun _ => ?_); case a => (simp <;> omega)) | (refine brR ?a (fun _ => ?_); case a => (simp <;> omega)))
        exact fin _ hs
    rw [if_neg h2] at hs
    by_cases h3 : (frameRead b a).2.2.2 ≠ 0 ∨ (frameRead b a).1 ≠ l.length
    · rw [if_pos h3] at hs
      by_cases h4 : (frameRead b a).2.2.2 = 0
      · repeat (first | (first | refine brT ?_ | refine brF ?_ | refine And.intro rfl ?_ | refine And.intro trivial ?_ | intro _) | (refine brL ?a (fun _ => ?_); case a => (simp <;> omega)) | (refine brR ?a (fun _ => ?_); case a => (simp <;> omega)))
        exact fin _ hs
      · repeat (first | (first | refine brT ?_ | refine brF ?_ | refine And.intro rfl ?_ | refine And.intro trivial ?_ | intro _) | (refine brL ?a (fun _ => ?_); case a => (simp <;> omega)) | (refine brR ?a (fun _ => ?_); case a => (simp <;> omega)))
        exact fin _ hs
    rw [if_neg h3] at hs
    have nx := okC_next hb hl hk (by omega)
    repeat (first | (first | refine brT ?_ | refine brF ?_ | refine And.intro rfl ?_ | refine And.intro trivial ?_ | intro _) | (refine brL ?a (fun _ => ?_); case a => (simp <;> omega)) | (refine brR ?a (fun _ => ?_); case a => (simp <;> omega)))
    refine ⟨fun t ht => (by simp at ht; subst ht; rfl), fun q1 => ?_⟩
    repeat (first | refine brT ?_ | refine brF ?_ | refine And.intro rfl ?_ | refine And.intro trivial ?_ | intro _)
    refine ⟨?_, fun q2 => ?_⟩
    · have := totL_len (l ++ [(frameRead b a).2.1])
      have := nx.1.2.2.1
      have := nx.1.2.1
      simp only [List.length_append, List.length_map, List.length_cons, List.length_nil] at *
      omega
    repeat (first | refine brT ?_ | refine brF ?_ | refine And.intro rfl ?_ | refine And.intro trivial ?_ | intro _)
    exact nxt (q2, (frameRead b a).2.2.1, l ++ [(frameRead b a).2.1], n) ⟨nx.1, by simp only; omega, hs⟩ (by show _ < _; simp only; omega) (wk rfl ⟨rfl, rfl, rfl, trivial⟩ ⟨gr rfl (by rw [List.map_append]; rfl), trivial⟩)
  · have h : ¬ a < b.length := by simpa using h
    unfold scanGo at hs
    rw [if_neg h] at hs
    repeat (first | refine brT ?_ | refine brF ?_ | refine And.intro rfl ?_ | refine And.intro trivial ?_ | intro _)
    exact congrArg (fun z : List Y_Chunk × Int × Int => [T.sl 1 (z.1.map t_Chunk), T.int z.2.1, T.int z.2.2]) hs
theorem i_Scan (b : List Int) (hb : isB b) (hl : b.length ≤ bound) : Spec Try.prog 17 [.ro (.sl 1 (b.map T.u8))] [.sl 1 ((scan b).1.map t_Chunk), T.int (scan b).2.1, T.int (scan b).2.2] := by
  have hl' : b.length ≤ 16777216 := hl
  refine fn Try.func17 ?_
  repeat (first | refine brT ?_ | refine brF ?_ | refine And.intro rfl ?_ | refine And.intro trivial ?_ | intro _)
  refine ⟨cB [], fun q0 => ?_⟩
  repeat (first | refine brT ?_ | refine brF ?_ | refine And.intro rfl ?_ | refine And.intro trivial ?_ | intro _)
  refine loopI (fun x : Nat × Int × List Y_Chunk × Nat => ⟨52, [(0, .c (.ro 1 (b.map T.u8))), (5, .c (.own 12000 x.1)), (6, .int x.2.1)], [(12000, .row x.1 0 1 (x.2.2.1.map t_Chunk))]⟩) (fun x => x.2.2.2) (fun x => okC b x.2.1 x.2.2.1 ∧ (b.length : Int) - x.2.1 < x.2.2.2 ∧ scanGo b x.2.2.2 x.2.1 x.2.2.1 = scan b) (q0, 0, [], b.length + 1) ⟨⟨Int.le_refl _, by simp, Int.le_refl _, fun y hy => by cases hy⟩, by simp; omega, rfl⟩ (wk rfl ⟨rfl, rfl, rfl, trivial⟩ ⟨rfl, trivial⟩) ?_
  rintro ⟨q, a, l, n⟩ ⟨hk, hn, hs⟩
  simp only at hk hn hs
  cases n with
  | zero => exact absurd hn (by have := hk.2.1; omega)
  | succ n =>
  repeat (first | refine brT ?_ | refine brF ?_ | refine And.intro rfl ?_ | refine And.intro trivial ?_ | intro _)
  refine ⟨_, i_FrameRead b a hb hl, ?_⟩
  repeat (first | refine brT ?_ | refine brF ?_ | refine And.intro rfl ?_ | refine And.intro trivial ?_ | intro _)
  unfold scanGo at hs
  have fin := fun (z : List Y_Chunk × Int × Int) (e : z = scan b) => congrArg (fun z : List Y_Chunk × Int × Int => [T.sl 1 (z.1.map t_Chunk), T.int z.2.1, T.int z.2.2]) e
  by_cases h2 : (frameRead b a).2.2.2 = 0 ∧ (frameRead b a).1 = l.length
  · have z1 := h2.1
    have z2 := h2.2
    have h : a < b.length := by
      have := hk.2.1
      by_cases e : a = b.length
      · have := h2.1; rw [e, read_end] at this; exact absurd this (by decide)
      · omega
    rw [if_pos h, if_neg (by omega), if_neg (by omega)] at hs
    have nx := okC_next hb hl hk h2.1
    repeat (first | (first | refine brT ?_ | refine brF ?_ | refine And.intro rfl ?_ | refine And.intro trivial ?_ | intro _) | (refine brL ?a (fun _ => ?_); case a => (simp <;> omega)) | (refine brR ?a (fun _ => ?_); case a => (simp <;> omega)))
    refine ⟨fun t ht => (by simp at ht; subst ht; rfl), fun q1 => ?_⟩
    repeat (first | refine brT ?_ | refine brF ?_ | refine And.intro rfl ?_ | refine And.intro trivial ?_ | intro _)
    refine ⟨?_, fun q2 => ?_⟩
    · have := totL_len (l ++ [(frameRead b a).2.1])
      have := nx.1.2.2.1
      have := nx.1.2.1
      simp only [List.length_append, List.length_map, List.length_cons, List.length_nil] at *
      omega
    repeat (first | refine brT ?_ | refine brF ?_ | refine And.intro rfl ?_ | refine And.intro trivial ?_ | intro _)
    exact nxt (q2, (frameRead b a).2.2.1, l ++ [(frameRead b a).2.1], n) ⟨nx.1, by simp only; omega, hs⟩ (by show _ < _; simp only; omega) (wk rfl ⟨rfl, rfl, rfl, trivial⟩ ⟨gr rfl (by rw [List.map_append]; rfl), trivial⟩)
  have hle := hk.2.1
  by_cases h3 : a = b.length
  · rw [if_neg (by omega)] at hs
    have e2 : (frameRead b a).2.2.2 = 2 := by rw [h3, read_end]
    repeat (first | (first | refine brT ?_ | refine brF ?_ | refine And.intro rfl ?_ | refine And.intro trivial ?_ | intro _) | (refine brL ?a (fun _ => ?_); case a => (simp <;> omega)) | (refine brR ?a (fun _ => ?_); case a => (simp <;> omega)))
    exact fin _ hs
  rw [if_pos (by omega)] at hs
  by_cases h4 : (frameRead b a).2.2.2 = 2 ∨ (frameRead b a).2.2.2 = 4
  · rw [if_pos h4] at hs
    rcases h4 with h4 | h4
    · repeat (first | (first | refine brT ?_ | refine brF ?_ | refine And.intro rfl ?_ | refine And.intro trivial ?_ | intro _) | (refine brL ?a (fun _ => ?_); case a => (simp <;> omega)) | (refine brR ?a (fun _ => ?_); case a => (simp <;> omega)))
      exact fin _ hs
    · repeat (first | (first | refine brT ?_ | refine brF ?_ | refine And.intro rfl ?_ | refine And.intro trivial ?_ | intro _) | (refine brL ?a (fun _ => ?_); case a => (simp <;> omega)) | (refine brR ?a (fun _ => ?_); case a => (simp <;> omega)))
      exact fin _ hs
  rw [if_neg h4, if_pos (by omega)] at hs
  by_cases h5 : (frameRead b a).2.2.2 = 0
  · have h6 : ¬ (frameRead b a).1 = l.length := fun e => h2 ⟨h5, e⟩
    repeat (first | (first | refine brT ?_ | refine brF ?_ | refine And.intro rfl ?_ | refine And.intro trivial ?_ | intro _) | (refine brL ?a (fun _ => ?_); case a => (simp <;> omega)) | (refine brR ?a (fun _ => ?_); case a => (simp <;> omega)))
    exact fin _ hs
  · repeat (first | (first | refine brT ?_ | refine brF ?_ | refine And.intro rfl ?_ | refine And.intro trivial ?_ | intro _) | (refine brL ?a (fun _ => ?_); case a => (simp <;> omega)) | (refine brR ?a (fun _ => ?_); case a => (simp <;> omega)))
    exact fin _ hs


end Go.Proofs.Ytiphlkclkieanaa.E
