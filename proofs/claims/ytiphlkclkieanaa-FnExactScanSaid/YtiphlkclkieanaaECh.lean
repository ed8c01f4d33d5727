/- Contracts of functions of this seat's program. -/
import Derived.Test.YtiphlkclkieanaaETy
import Derived.Test.YtiphlkclkieanaaEB
namespace Go.Proofs.Ytiphlkclkieanaa.E
set_option linter.unusedVariables false
set_option maxHeartbeats 1600000
def foldSz {α : Type} (f : α → Int → Int) : List α → Int → Int
  | [], n => n
  | x :: l, n => if f x n < 0 then -1 else foldSz f l (f x n)
def szS {α : Type} (f : α → Int → Int) (l : List α) (n : Int) : Int := if szI l.length n < 0 then -1 else foldSz f l (szI l.length n)
theorem foldSz_in {α : Type} {f : α → Int → Int} {raw ok : α → Prop} (hf : ∀ x n, raw x → 0 ≤ n → n ≤ 1048576 → ¬ f x n < 0 → ok x ∧ 0 ≤ f x n ∧ f x n ≤ n) : ∀ (l : List α) (n : Int), (∀ x ∈ l, raw x) → 0 ≤ n → n ≤ 1048576 → ¬ foldSz f l n < 0 → (∀ x ∈ l, ok x) ∧ 0 ≤ foldSz f l n ∧ foldSz f l n ≤ n
  | [], n, _, h0, _, _ => ⟨fun _ h => by simp at h, h0, Int.le_refl _⟩
  | x :: l, n, hr, h0, hn, h => by
    simp only [foldSz] at h ⊢
    split at h
    · omega
    · rename_i h1
      obtain ⟨o1, a1, b1⟩ := hf x n (hr x List.mem_cons_self) h0 hn h1
      obtain ⟨o2, a2, b2⟩ := foldSz_in hf l (f x n) (fun y hy => hr y (List.mem_cons_of_mem _ hy)) a1 (by omega) h
      rw [if_neg h1]
      refine ⟨fun y hy => ?_, a2, by omega⟩
      rcases List.mem_cons.1 hy with rfl | hy
      · exact o1
      · exact o2 y hy
theorem szS_in {α : Type} {f : α → Int → Int} {raw ok : α → Prop} (hf : ∀ x n, raw x → 0 ≤ n → n ≤ 1048576 → ¬ f x n < 0 → ok x ∧ 0 ≤ f x n ∧ f x n ≤ n) {l : List α} {n : Int} (hl : l.length ≤ maxLen) (hr : ∀ x ∈ l, raw x) (h0 : 0 ≤ n) (hn : n ≤ 1048576) (h : ¬ szS f l n < 0) : (l.length ≤ bound ∧ ∀ x ∈ l, ok x) ∧ 0 ≤ szS f l n ∧ szS f l n ≤ n := by
  unfold szS at h ⊢
  split at h
  · omega
  · rename_i h1
    obtain ⟨c1, c2⟩ := szI_in hl h0 hn h1
    obtain ⟨o2, a2, b2⟩ := foldSz_in hf l _ hr (by omega) (by omega) h
    rw [if_neg h1]
    exact ⟨⟨by unfold bound; omega, o2⟩, a2, by omega⟩

/-! Chunk -/
abbrev Y_Chunk := List Int
def t_Chunk (x : Y_Chunk) : T := .agg [.sl 1 ((x).map T.u8)]
def raw_Chunk (x : Y_Chunk) : Prop := ((x).length ≤ maxLen ∧ ∀ y ∈ x, (Lit.int .u8 y).wf = true)
def ok_Chunk (x : Y_Chunk) : Prop := ((x).length ≤ bound ∧ isB (x))
theorem s_toChunk (x : Y_Chunk) (h : ok_Chunk x) : Spec Try.prog 24 [.ro (t_Chunk x)] [t_Chunk x] := by
  refine fn Try.func24 ?_
  repeat (first | refine brT ?_ | refine brF ?_ | refine And.intro rfl ?_ | refine And.intro trivial ?_ | intro _)
  refine ⟨_, s_toByteS _ (h).1, ?_⟩
  repeat (first | refine brT ?_ | refine brF ?_ | refine And.intro rfl ?_ | refine And.intro trivial ?_ | intro _)
  rfl
theorem s_eqChunk (x y : Y_Chunk) (h : ok_Chunk x) : Spec Try.prog 26 [.ro (t_Chunk x), .ro (t_Chunk y)] [T.bool (x == y)] := by
  refine fn Try.func26 ?_
  repeat' (first | (first | refine brT ?_ | refine brF ?_ | refine And.intro rfl ?_ | refine And.intro trivial ?_ | intro _) | refine brI (fun _ => ?_) (fun _ => ?_))
  all_goals try exact tb (by clear h; simp_all)
  refine ⟨_, s_eqByteS _ _ (h).1, ?_⟩
  repeat' (first | (first | refine brT ?_ | refine brF ?_ | refine And.intro rfl ?_ | refine And.intro trivial ?_ | intro _) | refine brI (fun _ => ?_) (fun _ => ?_))
  all_goals (refine tb ?_; clear h; simp_all)
def f_Chunk (x : Y_Chunk) (n : Int) : Int := if szI (x).length n < 0 then -1 else szI (x).length n
theorem in_Chunk {x : Y_Chunk} {n : Int} (hr : raw_Chunk x) (h0 : 0 ≤ n) (hn : n ≤ 1048576) (h : ¬ f_Chunk x n < 0) : ok_Chunk x ∧ 0 ≤ f_Chunk x n ∧ f_Chunk x n ≤ n := by
  unfold f_Chunk at h ⊢
  split at h
  · omega
  rename_i c0
  obtain ⟨o0, a0, b0⟩ := in_ByteS (hr) h0 hn c0
  rw [if_neg c0]
  exact ⟨o0, a0, by omega⟩
theorem s_szChunk (x : Y_Chunk) (n : Int) (hr : raw_Chunk x) (h0 : 0 ≤ n) (hn : n ≤ 1048576) : Spec Try.prog 22 [.ro (t_Chunk x), .ro (.int n)] [.int (f_Chunk x n)] := by
  refine fn Try.func22 ?_
  repeat (first | refine brT ?_ | refine brF ?_ | refine And.intro rfl ?_ | refine And.intro trivial ?_ | intro _)
  refine ⟨_, s_szByteS' _ _ (hr) h0 hn, ?_⟩
  intro _
  refine brI (fun c0 => ?_) (fun c0 => ?_)
  · have c0 := of_decide_eq_true c0
    refine ti ?_
    unfold f_Chunk
    rw [if_pos c0]
  have c0 := of_decide_eq_false c0
  refine ti ?_
  unfold f_Chunk
  rw [if_neg c0]
abbrev rawS_Chunk (l : List Y_Chunk) : Prop := l.length ≤ maxLen ∧ ∀ y ∈ l, raw_Chunk y
theorem s_toChunkS (l : List Y_Chunk) (h : l.length ≤ bound ∧ ∀ y ∈ l, ok_Chunk y) : Spec Try.prog 8 [.ro (.sl 1 (l.map t_Chunk))] [.sl 1 (l.map t_Chunk)] := by
  obtain ⟨hl, hel⟩ := h
  have hl' : l.length ≤ 16777216 := hl
  refine fn Try.func8 ?_
  refine ⟨rfl, by simp, by simpa using hl, fun q => ?_⟩
  refine loopI (fun x : Nat × Nat => ⟨23, [(0, .c (.ro 1 (l.map t_Chunk))), (3, .c (.own 8000 q)), (4, .int x.1)], [(8000, .row q x.2 1 ((l.map t_Chunk).take x.1 ++ List.replicate (l.length - x.1) (t_Chunk ([]))))]⟩) (fun x => l.length - x.1) (fun x => x.1 ≤ l.length) (0, 0) (Nat.zero_le _)
    (wk rfl ⟨rfl, rfl, rfl, trivial⟩ ⟨?_, trivial⟩) ?_
  · simp; rfl
  · rintro ⟨i, v⟩ hi
    refine brD (fun h => ?_) (fun h => ?_)
    · have hlt : i < l.length := by simpa using h
      refine ⟨by omega, t_Chunk l[i], by simp [hlt], ?_⟩
      refine ⟨_, s_toChunk l[i] (hel _ (List.getElem_mem hlt)), ?_⟩
      intro q1
      refine ⟨rfl, by omega, by simp; omega, ?_⟩
      repeat (first | refine brT ?_ | refine brF ?_ | refine And.intro rfl ?_ | refine And.intro trivial ?_ | intro _)
      refine ⟨t_Chunk ([]), ?_, Nat.le_refl _, fun v' => ?_⟩
      · have h1 : min i l.length = i := by omega
        simp [List.getElem?_append_right, h1, List.getElem?_replicate]; omega
      · refine nxt (i + 1, v') hlt (by show _ < _; simp only; omega) (wk rfl ⟨rfl, rfl, congrArg AV.int (w64_id (by omega) (by omega)), trivial⟩ ⟨?_, trivial⟩)
        have := fill_set (l.map t_Chunk) (t_Chunk ([])) l.length i (by simp) hlt
        simp only [List.getElem_map] at this
        rw [← this]; rfl
    · have : i = l.length := by simp at h; omega
      subst this
      refine ⟨rfl, ?_⟩
      show _ = _
      simp [List.take_of_length_le]
theorem s_eqChunkS (a b : List Y_Chunk) (h : a.length ≤ bound ∧ ∀ y ∈ a, ok_Chunk y) : Spec Try.prog 11 [.ro (.sl 1 (a.map t_Chunk)), .ro (.sl 1 (b.map t_Chunk))] [T.bool (a == b)] := by
  obtain ⟨hl, hel⟩ := h
  have hl' : a.length ≤ 16777216 := hl
  refine fn Try.func11 ?_
  refine brI (fun h => ?_) (fun h => ?_)
  · have hne : a.length ≠ b.length := by intro h1; simp [h1] at h
    refine tbf ?_
    cases hab : a == b
    · rfl
    · exact absurd (by rw [eq_of_beq hab]) hne
  have hab : a.length = b.length := by simp at h; omega
  refine loopR (fun i => ⟨27, [(0, .c (.ro 1 (a.map t_Chunk))), (1, .c (.ro 1 (b.map t_Chunk))), (5, .int i)], []⟩) a.length (fun i => ∀ j (hj : j < a.length), j < i → a[j] = b[j]) (fun j _ h => absurd h (by omega)) (wk rfl ⟨rfl, rfl, rfl, trivial⟩ trivial) ?_
  intro i hi hI
  refine brD (fun h => ?_) (fun h => ?_)
  · have h : i < a.length := by simpa using h
    refine dr (.line [0, 1, 2, 3, 4, 5, 6, 7, 8, 9]) (by kernel_rfl) ?_
    refine ⟨nn i, t_Chunk a[i], atm h, ?_⟩
    refine ⟨nn i, t_Chunk b[i], atm (by omega), ?_⟩
    refine ⟨_, s_eqChunk a[i] b[i] (hel _ (List.getElem_mem h)), ?_⟩
    intro _
    refine brI (fun h1 => ?_) (fun h1 => ?_)
    · refine tbf ?_
      simp only [Bool.not_eq_true'] at h1
      cases hab : a == b
      · rfl
      · have := eq_of_beq hab
        subst this
        simp at h1
    · refine nxtR h ?_ (wk rfl ⟨rfl, rfl, up1 h hl', trivial⟩ trivial)
      intro j hj h2
      by_cases h3 : j = i
      · subst h3; simpa using h1
      · exact hI j hj (by omega)
  · refine tbt ?_
    have : a = b := List.ext_getElem hab (fun j h1 h2 => hI j h1 (by simp at h; omega))
    simp [this]
def f_ChunkS (l : List Y_Chunk) (n : Int) : Int := szS f_Chunk l n
theorem in_ChunkS {l : List Y_Chunk} {n : Int} (hr : rawS_Chunk l) (h0 : 0 ≤ n) (hn : n ≤ 1048576) (h : ¬ f_ChunkS l n < 0) : (l.length ≤ bound ∧ ∀ y ∈ l, ok_Chunk y) ∧ 0 ≤ f_ChunkS l n ∧ f_ChunkS l n ≤ n :=
  szS_in (fun x n hr h0 hn h => in_Chunk hr h0 hn h) hr.1 hr.2 h0 hn h
theorem s_szChunkS (l : List Y_Chunk) (n : Int) (hr : rawS_Chunk l) (h0 : 0 ≤ n) (hn : n ≤ 1048576) : Spec Try.prog 6 [.ro (.sl 1 (l.map t_Chunk)), .ro (.int n)] [.int (f_ChunkS l n)] := by
  refine fn Try.func6 ?_
  refine brI (fun h => ?_) (fun h => ?_)
  · have h1 := of_decide_eq_true h
    rw [List.length_map] at h1
    refine ti ?_
    simp only [f_ChunkS, szS, szI, w64, h1, if_true]; rfl
  have h1 := of_decide_eq_false h
  rw [List.length_map] at h1
  have hI : ¬ szI l.length n < 0 := by simp only [szI, w64, h1, if_false, not_false_eq_true]
  obtain ⟨c1, c2⟩ := szI_in hr.1 h0 hn hI
  have hw : w64 (n - l.length) = szI l.length n := by simp only [szI, w64, h1, if_false]
  have hl' : l.length ≤ 16777216 := by omega
  refine loopI (fun x : Nat × Int => ⟨27, [(0, .c (.ro 1 (l.map t_Chunk))), (1, .int x.2), (5, .int x.1)], []⟩) (fun x => l.length - x.1) (fun x => x.1 ≤ l.length ∧ 0 ≤ x.2 ∧ x.2 ≤ 1048576 ∧ foldSz f_Chunk (l.drop x.1) x.2 = f_ChunkS l n) (0, szI l.length n) ⟨Nat.zero_le _, by simp only; omega, by simp only; omega, by simp only [f_ChunkS, szS, hI, if_false, List.drop_zero]⟩
    (wk rfl ⟨rfl, (by rw [← hw]; exact congrArg (fun k : Nat => AV.int (w64 (n - (k : Int)))) (List.length_map ..)), rfl, trivial⟩ trivial) ?_
  rintro ⟨i, m⟩ ⟨hi, hm0, hm1, hI⟩
  simp only at hi hm0 hm1 hI
  refine brD (fun h => ?_) (fun h => ?_)
  · have h : i < l.length := by simpa using h
    have hraw := hr.2 _ (List.getElem_mem h)
    refine ⟨nn i, t_Chunk l[i], atm h, ?_⟩
    refine ⟨_, s_szChunk l[i] m hraw hm0 hm1, ?_⟩
    intro _
    rw [List.drop_eq_getElem_cons h] at hI
    simp only [foldSz] at hI
    refine brI (fun h2 => ?_) (fun h2 => ?_)
    · have h2 := of_decide_eq_true h2
      rw [if_pos h2] at hI
      exact ti hI
    · have h2 := of_decide_eq_false h2
      rw [if_neg h2] at hI
      obtain ⟨_, a1, a2⟩ := in_Chunk hraw hm0 hm1 h2
      exact nxt (i + 1, f_Chunk l[i] m) ⟨h, a1, by simp only; omega, hI⟩ (by show l.length - (i + 1) < l.length - i; omega) (wk rfl ⟨rfl, rfl, up1 h hl', trivial⟩ trivial)
  · have : i = l.length := by simp at h; omega
    subst this
    rw [List.drop_length] at hI
    exact ti hI


end Go.Proofs.Ytiphlkclkieanaa.E
