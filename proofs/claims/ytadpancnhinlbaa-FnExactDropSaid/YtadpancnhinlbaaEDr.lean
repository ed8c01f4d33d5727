/- Contracts of functions of this seat's program. -/
import Derived.Test.YtadpancnhinlbaaETy
import Derived.Test.YtadpancnhinlbaaEWm
namespace Go.Proofs.Ytadpancnhinlbaa.E
set_option linter.unusedVariables false
set_option linter.unusedSimpArgs false
set_option maxHeartbeats 1600000
def idxP {α : Type} (p : α → Bool) (l : List α) : Int := match l.findIdx? p with
  | some i => i
  | none => -1
theorem idxP_some {α : Type} {p : α → Bool} {l : List α} {i : Nat} (hi : i < l.length) (h1 : p l[i] = true) (h : ∀ j (hj : j < l.length), j < i → p l[j] = false) : idxP p l = i := by
  have : l.findIdx? p = some i := by
    rw [List.findIdx?_eq_some_iff_getElem]
    exact ⟨hi, h1, fun j hj => by simp [h j (by omega) hj]⟩
  simp [idxP, this]
theorem idxP_none {α : Type} {p : α → Bool} {l : List α} (h : ∀ j (hj : j < l.length), p l[j] = false) : idxP p l = -1 := by
  have : l.findIdx? p = none := by
    rw [List.findIdx?_eq_none_iff]
    intro x hx
    obtain ⟨j, hj, rfl⟩ := List.mem_iff_getElem.1 hx
    exact h j hj
  simp [idxP, this]
theorem idxP_ge {α : Type} {p : α → Bool} {l : List α} : decide (idxP p l ≥ 0) = l.any p := by
  unfold idxP
  cases h : l.findIdx? p with
  | some i =>
    rw [List.findIdx?_eq_some_iff_getElem] at h
    obtain ⟨hi, h1, _⟩ := h
    have : l.any p = true := List.any_eq_true.2 ⟨l[i], List.getElem_mem hi, h1⟩
    simp [this]
  | none =>
    rw [List.findIdx?_eq_none_iff] at h
    have : l.any p = false := List.any_eq_false.2 (fun x hx => by simp [h x hx])
    simp [this]
theorem idx_step {α : Type} {p : α → Bool} {l : List α} {i : Nat} (hi : i < l.length) (h : ∀ j (hj : j < l.length), j < i → p l[j] = false) (hp : p l[i] = false) : ∀ j (hj : j < l.length), j < i + 1 → p l[j] = false := by
  intro j hj h1
  by_cases e : j = i
  · subst e; exact hp
  · exact h j hj (by omega)

/-! Drop: the waiters but those of one goroutine -/
theorem vW {l : List Y_Waiter} : ∀ t ∈ l.map t_Waiter, ∀ c ∈ t.cells, ∃ x, c = T.v x := by
  intro t ht c hc
  obtain ⟨n, _, rfl⟩ := List.mem_map.1 ht
  have : c ∈ [T.int n.1, T.int n.2.1, T.int n.2.2] := hc
  simp at this
  rcases this with rfl | rfl | rfl <;> exact ⟨_, rfl⟩
def keepW (g : Int) (x : Y_Waiter) : Bool := x.1 != g
def dropW (g : Int) (l : List Y_Waiter) : List Y_Waiter := l.filter (keepW g)
theorem dropW_len (g : Int) (l : List Y_Waiter) : (dropW g l).length ≤ l.length := List.length_filter_le _ _
theorem dropW_yes {g : Int} {l : List Y_Waiter} {i : Nat} (h : i < l.length) (hk : keepW g l[i] = true) : dropW g (l.take (i + 1)) = dropW g (l.take i) ++ [l[i]] := by
  rw [List.take_succ_eq_append_getElem h]; simp only [dropW, List.filter_append, List.filter_cons, List.filter_nil, hk]; simp
theorem dropW_no {g : Int} {l : List Y_Waiter} {i : Nat} (h : i < l.length) (hk : keepW g l[i] = false) : dropW g (l.take (i + 1)) = dropW g (l.take i) := by
  rw [List.take_succ_eq_append_getElem h]; simp only [dropW, List.filter_append, List.filter_cons, List.filter_nil, hk]; simp
theorem s_Drop (l : List Y_Waiter) (g : Int) (hl : l.length ≤ bound) : Spec Try.prog 22 [.ro (.sl 3 (l.map t_Waiter)), .ro (T.int g)] [.sl 3 ((dropW g l).map t_Waiter)] := by
  have hl' : l.length ≤ 16777216 := hl
  refine fn Try.func22 ?_
  repeat (first | refine brT ?_ | refine brF ?_ | refine And.intro rfl ?_ | refine And.intro trivial ?_ | intro _)
  refine ⟨fun t h => (by cases h), fun q0 => ?_⟩
  repeat (first | refine brT ?_ | refine brF ?_ | refine And.intro rfl ?_ | refine And.intro trivial ?_ | intro _)
  refine loopI (fun x : Nat × Nat => ⟨25, [(1, .int g), (5, .c (.own 9000 x.2)), (9, .c (.ro 3 (l.map t_Waiter))), (10, .int l.length), (11, .int x.1)], [(9000, .row x.2 0 3 ((dropW g (l.take x.1)).map t_Waiter))]⟩) (fun x => l.length - x.1) (fun x => x.1 ≤ l.length) (0, q0) (Nat.zero_le _) (wk rfl ⟨rfl, rfl, rfl, lenm, rfl, trivial⟩ ⟨rfl, trivial⟩) ?_
  rintro ⟨i, q⟩ hi
  simp only at hi
  refine brD (fun h1 => ?_) (fun h1 => ?_)
  · have h1 : i < l.length := by simpa using h1
    have hn := dropW_len g (l.take i)
    have hn2 := List.length_take_le i l
    refine ⟨nn i, t_Waiter l[i], atm h1, ?_⟩
    repeat (first | refine brT ?_ | refine brF ?_ | refine And.intro rfl ?_ | refine And.intro trivial ?_ | intro _)
    refine brI (fun h2 => ?_) (fun h2 => ?_)
    · have h2 : keepW g l[i] = true := h2
      repeat (first | refine brT ?_ | refine brF ?_ | refine And.intro rfl ?_ | refine And.intro trivial ?_ | intro _)
      refine ⟨fun t ht => (by simp at ht; subst ht; rfl), fun q1 => ?_⟩
      repeat (first | refine brT ?_ | refine brF ?_ | refine And.intro rfl ?_ | refine And.intro trivial ?_ | intro _)
      refine ⟨by simp only [List.length_map, List.length_singleton]; unfold bound; omega, fun q2 => ?_⟩
      repeat (first | refine brT ?_ | refine brF ?_ | refine And.intro rfl ?_ | refine And.intro trivial ?_ | intro _)
      exact nxt (i + 1, q2) h1 (by show _ < _; simp only; omega) (wk rfl ⟨rfl, rfl, rfl, rfl, up1 h1 hl', trivial⟩ ⟨by rw [dropW_yes h1 h2, List.map_append]; rfl, trivial⟩)
    · have h2 : keepW g l[i] = false := h2
      exact nxt (i + 1, q) h1 (by show _ < _; simp only; omega) (wk rfl ⟨rfl, rfl, rfl, rfl, up1 h1 hl', trivial⟩ ⟨by rw [dropW_no h1 h2]; rfl, trivial⟩)
  · have : i = l.length := by simp at h1; omega
    subst this
    rw [List.take_length]
    exact ⟨rfl, rfl⟩
theorem s_CloneW (l : List Y_Waiter) (hl : l.length ≤ bound) : Spec Try.prog 48 [.ro (.sl 3 (l.map t_Waiter))] [.sl 3 (l.map t_Waiter)] := by
  refine fn Try.func48 ?_
  intro b hb
  refine brI (fun h => ?_) (fun h => ?_)
  · have : l = [] := by
      cases l with
      | nil => rfl
      | cons a r => have := hb (by simp); rw [h] at this; cases this
    subst this
    exact ⟨3, rfl⟩
  · refine ⟨fun t h => (by cases h), fun q0 => ?_⟩
    repeat (first | refine brT ?_ | refine brF ?_ | refine And.intro rfl ?_ | refine And.intro trivial ?_ | intro _)
    refine ⟨vW, by simp; exact hl, fun q => ?_⟩
    repeat (first | refine brT ?_ | refine brF ?_ | refine And.intro rfl ?_ | refine And.intro trivial ?_ | intro _)
    rfl
theorem i_Drop1 (x : Y_Waiter) (g : Int) : Spec Try.prog 49 ([t_Waiter x, T.rp (.int .i64 g)].map Ar.ro) [T.bool (!keepW g x)] := by
  refine fn Try.func49 ?_
  repeat (first | refine brT ?_ | refine brF ?_ | refine And.intro rfl ?_ | refine And.intro trivial ?_ | intro _)
  refine tb ?_
  show (x.1 == g) = !(x.1 != g)
  rw [bne, Bool.not_not]
def firstG (g : Int) (l : List Y_Waiter) : Int := idxP (fun x => !keepW g x) l
theorem s_idxG (l : List Y_Waiter) (g : Int) (hl : l.length ≤ bound) : Spec Try.prog 60 [.ro (.sl 3 (l.map t_Waiter)), .ro (.cl 49 (.int .i64 g))] [T.int (firstG g l)] := by
  have hl' : l.length ≤ 16777216 := hl
  refine fn Try.func60 ?_
  repeat (first | refine brT ?_ | refine brF ?_ | refine And.intro rfl ?_ | refine And.intro trivial ?_ | intro _)
  refine loopR (fun i => ⟨19, [(0, .c (.ro 3 (l.map t_Waiter))), (1, .c (.cl 49 (.int .i64 g))), (7, .int l.length), (8, .int i)], []⟩) l.length (fun i => ∀ j (hj : j < l.length), j < i → (!keepW g l[j]) = false) (fun j _ h => absurd h (by omega)) (wk rfl ⟨rfl, rfl, lenm, rfl, trivial⟩ trivial) ?_
  intro i hi hI
  refine brD (fun h => ?_) (fun h => ?_)
  · have h : i < l.length := by simpa using h
    refine ⟨nn i, t_Waiter l[i], atm h, ?_⟩
    refine ⟨_, i_Drop1 l[i] g, ?_⟩
    intro _
    refine brI (fun h1 => ?_) (fun h1 => ?_)
    · exact ti (idxP_some (p := fun x => !keepW g x) h h1 hI).symm
    · exact nxtR h (idx_step (p := fun x => !keepW g x) h hI h1) (wk rfl ⟨rfl, rfl, rfl, up1 h hl', trivial⟩ trivial)
  · exact ti (idxP_none (p := fun x => !keepW g x) (fun j hj => hI j hj (by simp at h; omega))).symm
theorem firstG_cases (g : Int) (l : List Y_Waiter) : (firstG g l = -1 ∧ dropW g l = l) ∨ ∃ i : Nat, i < l.length ∧ firstG g l = i ∧ dropW g (l.take (i + 1)) = l.take i := by
  unfold firstG idxP
  cases h : l.findIdx? (fun x => !keepW g x) with
  | none =>
    rw [List.findIdx?_eq_none_iff] at h
    exact .inl ⟨rfl, List.filter_eq_self.2 (fun x hx => by simpa using h x hx)⟩
  | some i =>
    rw [List.findIdx?_eq_some_iff_getElem] at h
    obtain ⟨hi, h1, h2⟩ := h
    refine .inr ⟨i, hi, rfl, ?_⟩
    rw [dropW_no hi (by simpa using h1)]
    refine List.filter_eq_self.2 (fun x hx => ?_)
    obtain ⟨j, hj, rfl⟩ := List.mem_iff_getElem.1 hx
    have := h2 j (by simp at hj; omega)
    simpa using this
theorem set_W {ws : List Y_Waiter} {i : Nat} {x : Y_Waiter} : (ws.map t_Waiter).set i (t_Waiter x) = (ws.set i x).map t_Waiter := by rw [List.map_set]
theorem take_set_W {ws : List Y_Waiter} {i : Nat} {x : Y_Waiter} (h : i < ws.length) : (ws.set i x).take (i + 1) = ws.take i ++ [x] := by
  rw [List.take_succ_eq_append_getElem (by simpa using h), List.getElem_set_self, List.take_set_of_le (Nat.le_refl _)]
theorem i_Delete (l : List Y_Waiter) (g : Int) (hl : l.length ≤ bound) : Spec Try.prog 47 [.mv (.sl 3 (l.map t_Waiter)), .ro (.cl 49 (.int .i64 g))] [.sl 3 ((dropW g l).map t_Waiter)] := by
  have hl' : l.length ≤ 16777216 := hl
  refine fn Try.func47 ?_
  repeat (first | refine brT ?_ | refine brF ?_ | refine And.intro rfl ?_ | refine And.intro trivial ?_ | intro _)
  refine ⟨_, s_idxG l g hl, ?_⟩
  repeat (first | refine brT ?_ | refine brF ?_ | refine And.intro rfl ?_ | refine And.intro trivial ?_ | intro _)
  refine brI (fun h => ?_) (fun h => ?_)
  · have h : firstG g l = -1 := by simpa using h
    rcases firstG_cases g l with ⟨_, h2⟩ | ⟨i, hi, h1, _⟩
    · rw [h2]
      exact ⟨rfl, rfl⟩
    · omega
  have h : ¬ firstG g l = -1 := by simpa using h
  rcases firstG_cases g l with ⟨h1, _⟩ | ⟨i0, hi0, h1, h2⟩
  · exact absurd h1 h
  rw [h1]
  repeat (first | refine brT ?_ | refine brF ?_ | refine And.intro rfl ?_ | refine And.intro trivial ?_ | intro _)
  refine loopI (fun x : Nat × List Y_Waiter × Nat × Nat => ⟨42, [(0, .c (.own 500000 0)), (1, .c (.cl 49 (.int .i64 g))), (5, .int x.2.2.1), (6, .int x.1)], [(500000, .row 0 x.2.2.2 3 (x.2.1.map t_Waiter))]⟩) (fun x => l.length - x.1) (fun x => x.1 ≤ l.length ∧ x.2.1.length = l.length ∧ x.2.2.1 < x.1 ∧ x.2.1.take x.2.2.1 = dropW g (l.take x.1) ∧ x.2.1.drop x.1 = l.drop x.1) (i0 + 1, l, i0, 0) ⟨by simp only; omega, rfl, by simp only; omega, h2.symm, rfl⟩ (wk rfl ⟨rfl, rfl, rfl, up1 hi0 hl', trivial⟩ ⟨rfl, trivial⟩) ?_
  rintro ⟨j, ws, i, v⟩ ⟨hj, hw, hij, hk, hd⟩
  simp only at hj hw hij hk hd
  repeat (first | refine brT ?_ | refine brF ?_ | refine And.intro rfl ?_ | refine And.intro trivial ?_ | intro _)
  refine brD (fun h3 => ?_) (fun h3 => ?_)
  · have h3 : j < l.length := by simp at h3; omega
    have hat : ws[j]? = some l[j] := by
      have : (ws.drop j)[0]? = (l.drop j)[0]? := by rw [hd]
      simpa [h3] using this
    repeat (first | refine brT ?_ | refine brF ?_ | refine And.intro rfl ?_ | refine And.intro trivial ?_ | intro _)
    refine ⟨nn j, by simp [hw]; exact h3, ?_⟩
    repeat (first | refine brT ?_ | refine brF ?_ | refine And.intro rfl ?_ | refine And.intro trivial ?_ | intro _)
    refine ⟨t_Waiter l[j], by simp [hat], ?_⟩
    repeat (first | refine brT ?_ | refine brF ?_ | refine And.intro rfl ?_ | refine And.intro trivial ?_ | intro _)
    refine ⟨_, i_Drop1 l[j] g, ?_⟩
    repeat (first | refine brT ?_ | refine brF ?_ | refine And.intro rfl ?_ | refine And.intro trivial ?_ | intro _)
    refine brI (fun h4 => ?_) (fun h4 => ?_)
    · have h4 : keepW g l[j] = true := by simpa using h4
      have hi : i < ws.length := by omega
      repeat (first | refine brT ?_ | refine brF ?_ | refine And.intro rfl ?_ | refine And.intro trivial ?_ | intro _)
      refine ⟨nn i, by simp; exact hi, ?_⟩
      repeat (first | refine brT ?_ | refine brF ?_ | refine And.intro rfl ?_ | refine And.intro trivial ?_ | intro _)
      refine ⟨t_Waiter ws[i], by simp [hi], Nat.le_refl _, fun v' => ?_⟩
      repeat (first | refine brT ?_ | refine brF ?_ | refine And.intro rfl ?_ | refine And.intro trivial ?_ | intro _)
      refine nxt (j + 1, ws.set i l[j], i + 1, v') ⟨by simp only; omega, by simp [hw], by simp only; omega, ?_, ?_⟩ (by show _ < _; simp only; omega) (wk rfl ⟨rfl, rfl, up1 (show i < l.length by omega) hl', up1 h3 hl', trivial⟩ ⟨?_, trivial⟩)
      · simp only
        rw [take_set_W hi, hk, dropW_yes h3 h4]
      · simp only
        rw [List.drop_set_of_lt (by omega), ← List.drop_drop, hd, List.drop_drop]
      · simp only
        rw [← set_W]; rfl
    · have h4 : keepW g l[j] = false := by simpa using h4
      refine nxt (j + 1, ws, i, v) ⟨by simp only; omega, hw, by simp only; omega, ?_, ?_⟩ (by show _ < _; simp only; omega) (wk rfl ⟨rfl, rfl, rfl, up1 h3 hl', trivial⟩ ⟨rfl, trivial⟩)
      · simp only
        rw [hk, dropW_no h3 h4]
      · simp only
        rw [← List.drop_drop, hd, List.drop_drop]
  · have : j = l.length := by simp at h3; omega
    subst this
    rw [List.take_length] at hk
    repeat (first | refine brT ?_ | refine brF ?_ | refine And.intro rfl ?_ | refine And.intro trivial ?_ | intro _)
    refine ⟨nn i, by simp; omega, Nat.le_refl _, ?_⟩
    repeat (first | refine brT ?_ | refine brF ?_ | refine And.intro rfl ?_ | refine And.intro trivial ?_ | intro _)
    refine ⟨vW, fun v2 => ?_⟩
    repeat (first | refine brT ?_ | refine brF ?_ | refine And.intro rfl ?_ | refine And.intro trivial ?_ | intro _)
    refine ⟨nn i, Nat.zero_le _, by simp; omega, fun q2 => ?_⟩
    repeat (first | refine brT ?_ | refine brF ?_ | refine And.intro rfl ?_ | refine And.intro trivial ?_ | intro _)
    show [T.sl 3 _] = [T.sl 3 _]
    have e : i ≤ ws.length := by omega
    rw [← hk, List.map_take, List.drop_zero]
    simp only [Int.toNat_natCast]
    rw [List.take_append_of_le_length (by simp; omega), List.take_take, Nat.min_self]
theorem i_Drop (l : List Y_Waiter) (g : Int) (hl : l.length ≤ bound) : Spec Try.prog 24 [.ro (.sl 3 (l.map t_Waiter)), .ro (T.int g)] [.sl 3 ((dropW g l).map t_Waiter)] := by
  refine fn Try.func24 ?_
  repeat (first | refine brT ?_ | refine brF ?_ | refine And.intro rfl ?_ | refine And.intro trivial ?_ | intro _)
  refine ⟨_, s_CloneW l hl, ?_⟩
  repeat (first | refine brT ?_ | refine brF ?_ | refine And.intro rfl ?_ | refine And.intro trivial ?_ | intro _)
  refine ⟨_, i_Delete l g hl, ?_⟩
  repeat (first | refine brT ?_ | refine brF ?_ | refine And.intro rfl ?_ | refine And.intro trivial ?_ | intro _)
  rfl
theorem s_Waits (l : List Y_Waiter) (g : Int) (hl : l.length ≤ bound) : Spec Try.prog 28 [.ro (.sl 3 (l.map t_Waiter)), .ro (T.int g)] [T.int (l.length - (dropW g l).length)] := by
  have hl' : l.length ≤ 16777216 := hl
  have := dropW_len g l
  refine fn Try.func28 ?_
  repeat (first | refine brT ?_ | refine brF ?_ | refine And.intro rfl ?_ | refine And.intro trivial ?_ | intro _)
  refine ⟨_, s_Drop l g hl, ?_⟩
  repeat (first | refine brT ?_ | refine brF ?_ | refine And.intro rfl ?_ | refine And.intro trivial ?_ | intro _)
  refine ti ?_
  simp
  exact w64_id (by omega) (by omega)
theorem i_Waits (l : List Y_Waiter) (g : Int) (hl : l.length ≤ bound) : Spec Try.prog 29 [.ro (.sl 3 (l.map t_Waiter)), .ro (T.int g)] [T.int (l.length - (dropW g l).length)] := by
  have hl' : l.length ≤ 16777216 := hl
  have := dropW_len g l
  refine fn Try.func29 ?_
  repeat (first | refine brT ?_ | refine brF ?_ | refine And.intro rfl ?_ | refine And.intro trivial ?_ | intro _)
  refine ⟨_, i_Drop l g hl, ?_⟩
  repeat (first | refine brT ?_ | refine brF ?_ | refine And.intro rfl ?_ | refine And.intro trivial ?_ | intro _)
  refine ti ?_
  simp
  exact w64_id (by omega) (by omega)


end Go.Proofs.Ytadpancnhinlbaa.E
