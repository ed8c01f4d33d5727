/- Contracts of functions of this seat's program. -/
import Derived.Test.YtadpancnhinlbaaETy
import Derived.Test.YtadpancnhinlbaaEFa
namespace Go.Proofs.Ytadpancnhinlbaa.E
set_option linter.unusedVariables false
set_option linter.unusedSimpArgs false
set_option maxHeartbeats 1600000
def szI (l : Nat) (n : Int) : Int := if w64 (n - l) < 0 then -1 else w64 (n - l)
/-- The numbers that a mark lays: k, k + 1, .. -/
def mkB (n : Nat) (k : Int) : List T := (List.range n).map fun (i : Nat) => T.u8 (IntKind.wrap .u8 (k + i))
theorem mkB_len (n : Nat) (k : Int) : (mkB n k).length = n := by simp [mkB]
theorem mark_set {α : Type} (A B : List α) (z : α) (i : Nat) (hA : A.length = i) (hi : i < B.length) : (A ++ B.drop i).set i z = (A ++ [z]) ++ B.drop (i + 1) := by
  rw [List.set_append_right _ _ (by omega), hA, Nat.sub_self, List.drop_eq_getElem_cons hi, List.set_cons_zero, List.append_assoc]; rfl
theorem mkB_succ (i : Nat) (k : Int) : mkB (i + 1) k = mkB i k ++ [T.u8 (IntKind.wrap .u8 (k + i))] := by simp [mkB, List.range_succ]
/-- What a mark has laid is still there. -/
abbrev rawS_Byte (l : List Int) : Prop := l.length ≤ maxLen ∧ ∀ y ∈ l, (Lit.int .u8 y).wf = true
theorem wf_u8 {x : Int} (h : (Lit.int .u8 x).wf = true) : 0 ≤ x ∧ x < 256 := by
  simp [Lit.wf, IntKind.min, IntKind.max, IntKind.signed, IntKind.bits] at h
  omega
theorem raw_isB {l : List Int} (h : rawS_Byte l) : isB l := fun x hx => wf_u8 (h.2 x hx)
theorem szI_in {l : Nat} {n : Int} (hl : l ≤ 9223372036854775807) (h0 : 0 ≤ n) (hn : n ≤ 1048576) (h : ¬ szI l n < 0) : (l : Int) ≤ n ∧ szI l n = n - l := by
  have hw : w64 (n - l) = n - l := w64_id (by omega) (by omega)
  unfold szI at h ⊢
  rw [hw] at h ⊢
  split at h
  · omega
  · rename_i h1
    rw [if_neg h1]; omega
theorem in_ByteS {l : List Int} {n : Int} (hr : rawS_Byte l) (h0 : 0 ≤ n) (hn : n ≤ 1048576) (h : ¬ szI l.length n < 0) : (l.length ≤ bound ∧ isB l) ∧ 0 ≤ szI l.length n ∧ szI l.length n ≤ n := by
  have := szI_in hr.1 h0 hn h
  exact ⟨⟨by unfold bound; omega, raw_isB hr⟩, by omega, by omega⟩
def foldSz {α : Type} (f : α → Int → Int) : List α → Int → Int
  | [], n => n
  | x :: l, n => if f x n < 0 then -1 else foldSz f l (f x n)
def szS {α : Type} (f : α → Int → Int) (l : List α) (n : Int) : Int := if szI l.length n < 0 then -1 else foldSz f l (szI l.length n)
theorem foldSz_in {α : Type} {f : α → Int → Int} {raw ok : α → Prop} (hf : ∀ x n, raw x → 0 ≤ n → n ≤ 1048576 → ¬ f x n < 0 → ok x ∧ 0 ≤ f x n ∧ f x n ≤ n) : ∀ (l : List α) (n : Int), (∀ x ∈ l, raw x) → 0 ≤ n → n ≤ 1048576 → ¬ foldSz f l n < 0 → (∀ x ∈ l, ok x) ∧ 0 ≤ foldSz f l n ∧ foldSz f l n ≤ n
  | [], n, _, h0, _, _ => ⟨fun _ h => by simp at h, h0, Int.le_refl _⟩
  | x :: l, n, hr, h0, hn, h => by
    simp only [foldSz] at h ⊢
    split at h
    · omega
    · rename_i h1
      obtain ⟨o1, a1, b1⟩ := hf x n (hr x List.mem_cons_self) h0 hn h1
      obtain ⟨o2, a2, b2⟩ := foldSz_in hf l (f x n) (fun y hy => hr y (List.mem_cons_of_mem _ hy)) a1 (by omega) h
      rw [if_neg h1]
      refine ⟨fun y hy => ?_, a2, by omega⟩
      rcases List.mem_cons.1 hy with rfl | hy
      · exact o1
      · exact o2 y hy
theorem szS_in {α : Type} {f : α → Int → Int} {raw ok : α → Prop} (hf : ∀ x n, raw x → 0 ≤ n → n ≤ 1048576 → ¬ f x n < 0 → ok x ∧ 0 ≤ f x n ∧ f x n ≤ n) {l : List α} {n : Int} (hl : l.length ≤ maxLen) (hr : ∀ x ∈ l, raw x) (h0 : 0 ≤ n) (hn : n ≤ 1048576) (h : ¬ szS f l n < 0) : (l.length ≤ bound ∧ ∀ x ∈ l, ok x) ∧ 0 ≤ szS f l n ∧ szS f l n ≤ n := by
  unfold szS at h ⊢
  split at h
  · omega
  · rename_i h1
    obtain ⟨c1, c2⟩ := szI_in hl h0 hn h1
    obtain ⟨o2, a2, b2⟩ := foldSz_in hf l _ hr (by omega) (by omega) h
    rw [if_neg h1]
    exact ⟨⟨by unfold bound; omega, o2⟩, a2, by omega⟩

/-! Chunk -/
abbrev Y_Chunk := List Int
def t_Chunk (x : Y_Chunk) : T := .agg [.sl 1 ((x).map T.u8)]
def raw_Chunk (x : Y_Chunk) : Prop := ((x).length ≤ maxLen ∧ ∀ y ∈ x, (Lit.int .u8 y).wf = true)
def ok_Chunk (x : Y_Chunk) : Prop := ((x).length ≤ bound ∧ isB (x))
def f_Chunk (x : Y_Chunk) (n : Int) : Int := if szI (x).length n < 0 then -1 else szI (x).length n
theorem in_Chunk {x : Y_Chunk} {n : Int} (hr : raw_Chunk x) (h0 : 0 ≤ n) (hn : n ≤ 1048576) (h : ¬ f_Chunk x n < 0) : ok_Chunk x ∧ 0 ≤ f_Chunk x n ∧ f_Chunk x n ≤ n := by
  unfold f_Chunk at h ⊢
  split at h
  · omega
  rename_i c0
  obtain ⟨o0, a0, b0⟩ := in_ByteS (hr) h0 hn c0
  rw [if_neg c0]
  exact ⟨o0, a0, by omega⟩
abbrev rawS_Chunk (l : List Y_Chunk) : Prop := l.length ≤ maxLen ∧ ∀ y ∈ l, raw_Chunk y
def f_ChunkS (l : List Y_Chunk) (n : Int) : Int := szS f_Chunk l n
theorem in_ChunkS {l : List Y_Chunk} {n : Int} (hr : rawS_Chunk l) (h0 : 0 ≤ n) (hn : n ≤ 1048576) (h : ¬ f_ChunkS l n < 0) : (l.length ≤ bound ∧ ∀ y ∈ l, ok_Chunk y) ∧ 0 ≤ f_ChunkS l n ∧ f_ChunkS l n ≤ n :=
  szS_in (fun x n hr h0 hn h => in_Chunk hr h0 hn h) hr.1 hr.2 h0 hn h
theorem i_Stream (l : List Y_Chunk) (ho : l.length ≤ bound ∧ ∀ y ∈ l, ok_Chunk y) (ht : totL l ≤ bound) : Spec Try.prog 8 [.ro (.sl 1 (l.map t_Chunk))] [.sl 1 ((stream l).1.map T.u8), T.bool (stream l).2] := by
  have hl : l.length ≤ 16777216 := ho.1
  refine fn Try.func8 ?_
  repeat (first | refine brT ?_ | refine brF ?_ | refine And.intro rfl ?_ | refine And.intro trivial ?_ | intro _)
  refine ⟨cB [], fun q0 => ?_⟩
  repeat (first | refine brT ?_ | refine brF ?_ | refine And.intro rfl ?_ | refine And.intro trivial ?_ | intro _)
  refine loopI (fun x : Nat × Nat => ⟨31, [(0, .c (.ro 1 (l.map t_Chunk))), (4, .c (.own 10000 x.2)), (10, .c (.ro 1 (l.map t_Chunk))), (11, .int l.length), (12, .int x.1)], [(10000, .row x.2 0 1 ((strP l x.1).map T.u8))]⟩) (fun x => l.length - x.1) (fun x => x.1 ≤ l.length ∧ ∀ j (hj : j < l.length), j < x.1 → (frameB j l[j]).2 = true) (0, q0) ⟨Nat.zero_le _, fun j _ h => absurd h (by simp)⟩ (wk rfl ⟨rfl, rfl, rfl, lenm, rfl, trivial⟩ ⟨rfl, trivial⟩) ?_
  rintro ⟨i, q⟩ ⟨hi, hI⟩
  simp only at hi hI
  refine brD (fun h => ?_) (fun h => ?_)
  · have h : i < l.length := by simpa using h
    have hx := ho.2 _ (List.getElem_mem h)
    have hs := strP_succ h
    have hn := strP_len (l := l) (i := i + 1) h
    have hn2 := totL_take l (i + 1)
    have hno := fun hk => str_no h hk
    refine ⟨nn i, t_Chunk l[i], atm h, ?_⟩
    intro q6
    repeat (first | refine brT ?_ | refine brF ?_ | refine And.intro rfl ?_ | refine And.intro trivial ?_ | intro _)
    obtain ⟨x, hxe⟩ : ∃ x, x = l[i] := ⟨_, rfl⟩
    rw [← hxe] at hx hs hno
    rw [← hxe]
    refine ⟨_, i_FrameBytes i x hx.2 hx.1, ?_⟩
    repeat (first | refine brT ?_ | refine brF ?_ | refine And.intro rfl ?_ | refine And.intro trivial ?_ | intro _)
    refine brI (fun h2 => ?_) (fun h2 => ?_)
    · repeat (first | refine brT ?_ | refine brF ?_ | refine And.intro rfl ?_ | refine And.intro trivial ?_ | intro _)
      rw [hno (by simpa using h2)]
      exact ⟨1, rfl⟩
    repeat (first | refine brT ?_ | refine brF ?_ | refine And.intro rfl ?_ | refine And.intro trivial ?_ | intro _)
    refine ⟨by rw [hs, List.length_append] at hn; rw [List.length_map, List.length_map]; show (strP l i).length + _ ≤ _; omega, fun q1 => ?_⟩
    repeat (first | refine brT ?_ | refine brF ?_ | refine And.intro rfl ?_ | refine And.intro trivial ?_ | intro _)
    exact nxt (i + 1, q1) ⟨h, fun j hj hji => by
      by_cases e : j = i
      · subst e; rw [← hxe]; simpa using h2
      · exact hI j hj (by simp only at hji; omega)⟩ (by show _ < _; simp only; omega) (wk rfl ⟨rfl, rfl, rfl, rfl, up1 h hl, trivial⟩ ⟨gr rfl (by rw [hs, List.map_append]), trivial⟩)
  · have : i = l.length := by simp at h; omega
    subst this
    repeat (first | refine brT ?_ | refine brF ?_ | refine And.intro rfl ?_ | refine And.intro trivial ?_ | intro _)
    have e := str_yes (fun j hj => hI j hj hj)
    exact congrArg (fun z : List Int × Bool => [T.sl 1 (z.1.map T.u8), T.bool z.2]) e.symm
theorem fold_tot : ∀ (l : List Y_Chunk) (n : Int), (∀ x ∈ l, raw_Chunk x) → 0 ≤ n → n ≤ 1048576 → ¬ foldSz f_Chunk l n < 0 → ((l.map List.length).sum : Int) + foldSz f_Chunk l n = n
  | [], n, _, _, _, _ => by simp [foldSz]
  | x :: l, n, hr, h0, hn, h => by
    simp only [foldSz] at h ⊢
    split at h
    · omega
    · rename_i h1
      rw [if_neg h1]
      have hx : szI x.length n = n - x.length ∧ f_Chunk x n = szI x.length n := by
        unfold f_Chunk at h1 ⊢
        split at h1
        · omega
        · rename_i h2
          exact ⟨(szI_in (hr x (by simp)).1 h0 hn h2).2, by rw [if_neg h2]⟩
      rw [hx.2] at h1 h ⊢
      rw [hx.1] at h1 h ⊢
      have := fold_tot l (n - x.length) (fun y hy => hr y (by simp [hy])) (by omega) (by omega) h
      simp only [List.map_cons, List.sum_cons]
      omega
theorem tot_eq : ∀ l : List Y_Chunk, totL l = (l.map List.length).sum + 15 * l.length
  | [] => rfl
  | x :: l => by
    have := tot_eq l
    simp only [totL, List.map_cons, List.sum_cons, List.length_cons] at this ⊢
    omega
theorem tot_in {l : List Y_Chunk} (hr : rawS_Chunk l) (h : ¬ f_ChunkS l 1048576 < 0) : totL l ≤ 16777216 := by
  unfold f_ChunkS szS at h
  split at h
  · omega
  rename_i h1
  have a := szI_in hr.1 (by decide) (by decide) h1
  have b := fold_tot l _ hr.2 (by omega) (by omega) h
  have c := tot_eq l
  omega
theorem str_len {l : List Y_Chunk} (ht : totL l ≤ bound) : (stream l).1.length ≤ bound := by
  by_cases h : ∃ i, ∃ h : i < l.length, (frameB i l[i]).2 = false
  · obtain ⟨i, hi, hk⟩ := h
    rw [str_no hi hk]
    exact Nat.zero_le _
  · rw [str_yes (fun j hj => by
      cases e : (frameB j l[j]).2
      · exact absurd ⟨j, hj, e⟩ h
      · rfl)]
    have a := strP_len (l := l) (i := l.length) (Nat.le_refl _)
    have b := totL_take l l.length
    show (strP l l.length).length ≤ _
    omega

def scanGo (b : List Int) : Nat → Int → List (List Int) → List (List Int) × Int × Int
  | 0, a, l => (l, a, 0)
  | n + 1, a, l => if a < b.length then
      if (frameRead b a).2.2.2 = 2 ∨ (frameRead b a).2.2.2 = 4 then (l, a, 1)
      else if (frameRead b a).2.2.2 ≠ 0 ∨ (frameRead b a).1 ≠ l.length then (l, a, 2)
      else scanGo b n (frameRead b a).2.2.1 (l ++ [(frameRead b a).2.1])
    else (l, a, 0)
def scan (b : List Int) : List (List Int) × Int × Int := scanGo b (b.length + 1) 0 []
theorem read_ok {b : List Int} {a : Int} (hb : isB b) (h0 : 0 ≤ a) (ha : a ≤ b.length) (h : (frameRead b a).2.2.2 = 0) : a + 15 + (frameRead b a).2.1.length ≤ (frameRead b a).2.2.1 ∧ (frameRead b a).2.2.1 ≤ b.length := by
  have hf : isB (b.drop a.toNat) := fun x hx => hb x (List.mem_of_mem_drop hx)
  have hc := fCnt_in hf
  have hfl : (b.drop a.toNat).length = b.length - a.toNat := List.length_drop ..
  unfold frameRead at h ⊢
  split at h
  · exact absurd h (by decide)
  split at h
  · exact absurd h (by decide)
  split at h
  · exact absurd h (by decide)
  split at h
  · exact absurd h (by decide)
  split at h
  · exact absurd h (by decide)
  rename_i h1 h2 h3 h4 h5
  rw [if_neg h1, if_neg h2, if_neg h3, if_neg h4, if_neg h5]
  have : (fData (b.drop a.toNat)).length ≤ (fCnt (b.drop a.toNat)).toNat := by unfold fData; rw [List.length_take]; omega
  refine ⟨?_, ?_⟩
  · show a + 15 + ((fData (b.drop a.toNat)).length : Int) ≤ a + 15 + fCnt (b.drop a.toNat); omega
  · show a + 15 + fCnt (b.drop a.toNat) ≤ _; omega
theorem read_B {b : List Int} {a : Int} (hb : isB b) : isB (frameRead b a).2.1 := by
  have hf : isB (b.drop a.toNat) := fun x hx => hb x (List.mem_of_mem_drop hx)
  have nil : isB [] := fun x hx => by cases hx
  unfold frameRead
  repeat' split
  all_goals first | exact nil | exact isB_sub hf _ _
def okC (b : List Int) (a : Int) (l : List Y_Chunk) : Prop := 0 ≤ a ∧ a ≤ b.length ∧ (totL l : Int) ≤ a ∧ ∀ y ∈ l, ok_Chunk y
theorem totL_app (l : List Y_Chunk) (x : Y_Chunk) : totL (l ++ [x]) = totL l + (x.length + 15) := by simp [totL]
theorem totL_len (l : List Y_Chunk) : l.length ≤ totL l := by
  induction l with
  | nil => exact Nat.le_refl _
  | cons x l ih => simp only [totL, List.map_cons, List.sum_cons, List.length_cons] at ih ⊢; omega
theorem okC_next {b : List Int} {a : Int} {l : List Y_Chunk} (hb : isB b) (hl : b.length ≤ bound) (hk : okC b a l) (h : (frameRead b a).2.2.2 = 0) : okC b (frameRead b a).2.2.1 (l ++ [(frameRead b a).2.1]) ∧ a + 15 ≤ (frameRead b a).2.2.1 := by
  obtain ⟨h0, h1, h2, h3⟩ := hk
  have hr := read_ok hb h0 h1 h
  refine ⟨⟨by omega, hr.2, by rw [totL_app]; omega, fun y hy => ?_⟩, by omega⟩
  rcases List.mem_append.1 hy with h | h
  · exact h3 y h
  · obtain rfl := List.mem_singleton.1 h
    exact ⟨by omega, read_B hb⟩
theorem scan_ok {b : List Int} (hb : isB b) (hl : b.length ≤ bound) : okC b (scan b).2.1 (scan b).1 := by
  have : ∀ (n : Nat) (a : Int) (l : List Y_Chunk), okC b a l → okC b (scanGo b n a l).2.1 (scanGo b n a l).1 := by
    intro n
    induction n with
    | zero => intro a l h; exact h
    | succ n ih =>
      intro a l h
      unfold scanGo
      split
      · split
        · exact h
        split
        · exact h
        · rename_i h3
          exact ih _ _ (okC_next hb hl h (by omega)).1
      · exact h
  exact this _ _ _ ⟨Int.le_refl _, by omega, Int.le_refl _, fun y hy => by cases hy⟩
theorem read_end {b : List Int} : (frameRead b b.length).2.2.2 = 2 := by
  unfold frameRead
  rw [if_neg (by omega), if_pos (by rw [List.length_drop]; omega)]
theorem i_Scan (b : List Int) (hb : isB b) (hl : b.length ≤ bound) : Spec Try.prog 9 [.ro (.sl 1 (b.map T.u8))] [.sl 1 ((scan b).1.map t_Chunk), T.int (scan b).2.1, T.int (scan b).2.2] := by
  have hl' : b.length ≤ 16777216 := hl
  refine fn Try.func9 ?_
  repeat (first | refine brT ?_ | refine brF ?_ | refine And.intro rfl ?_ | refine And.intro trivial ?_ | intro _)
  refine ⟨cB [], fun q0 => ?_⟩
  repeat (first | refine brT ?_ | refine brF ?_ | refine And.intro rfl ?_ | refine And.intro trivial ?_ | intro _)
  refine loopI (fun x : Nat × Int × List Y_Chunk × Nat => ⟨52, [(0, .c (.ro 1 (b.map T.u8))), (5, .c (.own 12000 x.1)), (6, .int x.2.1)], [(12000, .row x.1 0 1 (x.2.2.1.map t_Chunk))]⟩) (fun x => x.2.2.2) (fun x => okC b x.2.1 x.2.2.1 ∧ (b.length : Int) - x.2.1 < x.2.2.2 ∧ scanGo b x.2.2.2 x.2.1 x.2.2.1 = scan b) (q0, 0, [], b.length + 1) ⟨⟨Int.le_refl _, by simp, Int.le_refl _, fun y hy => by cases hy⟩, by simp; omega, rfl⟩ (wk rfl ⟨rfl, rfl, rfl, trivial⟩ ⟨rfl, trivial⟩) ?_
  rintro ⟨q, a, l, n⟩ ⟨hk, hn, hs⟩
  simp only at hk hn hs
  cases n with
  | zero => exact absurd hn (by have := hk.2.1; omega)
  | succ n =>
  repeat (first | refine brT ?_ | refine brF ?_ | refine And.intro rfl ?_ | refine And.intro trivial ?_ | intro _)
  refine ⟨_, i_FrameRead b a hb hl, ?_⟩
  repeat (first | refine brT ?_ | refine brF ?_ | refine And.intro rfl ?_ | refine And.intro trivial ?_ | intro _)
  unfold scanGo at hs
  have fin := fun (z : List Y_Chunk × Int × Int) (e : z = scan b) => congrArg (fun z : List Y_Chunk × Int × Int => [T.sl 1 (z.1.map t_Chunk), T.int z.2.1, T.int z.2.2]) e
  by_cases h2 : (frameRead b a).2.2.2 = 0 ∧ (frameRead b a).1 = l.length
  · have z1 := h2.1
    have z2 := h2.2
    have h : a < b.length := by
      have := hk.2.1
      by_cases e : a = b.length
      · have := h2.1; rw [e, read_end] at this; exact absurd this (by decide)
      · omega
    rw [if_pos h, if_neg (by omega), if_neg (by omega)] at hs
    have nx := okC_next hb hl hk h2.1
    repeat (first | (first | refine brT ?_ | refine brF ?_ | refine And.intro rfl ?_ | refine And.intro trivial ?_ | intro _) | (refine brL ?kzz (fun _ => ?_); case kzz => (simp <;> omega)) | (refine brR ?kzz (fun _ => ?_); case kzz => (simp <;> omega)))
    refine ⟨fun t ht => (by simp at ht; subst ht; rfl), fun q1 => ?_⟩
    repeat (first | refine brT ?_ | refine brF ?_ | refine And.intro rfl ?_ | refine And.intro trivial ?_ | intro _)
    refine ⟨?_, fun q2 => ?_⟩
    · have := totL_len (l ++ [(frameRead b a).2.1])
      have := nx.1.2.2.1
      have := nx.1.2.1
      simp only [List.length_append, List.length_map, List.length_cons, List.length_nil] at *
      omega
    repeat (first | refine brT ?_ | refine brF ?_ | refine And.intro rfl ?_ | refine And.intro trivial ?_ | intro _)
    exact nxt (q2, (frameRead b a).2.2.1, l ++ [(frameRead b a).2.1], n) ⟨nx.1, by simp only; omega, hs⟩ (by show _ < _; simp only; omega) (wk rfl ⟨rfl, rfl, rfl, trivial⟩ ⟨gr rfl (by rw [List.map_append]; rfl), trivial⟩)
  have hle := hk.2.1
  by_cases h3 : a = b.length
  · rw [if_neg (by omega)] at hs
    have e2 : (frameRead b a).2.2.2 = 2 := by rw [h3, read_end]
    repeat (first | (first | refine brT ?_ | refine brF ?_ | refine And.intro rfl ?_ | refine And.intro trivial ?_ | intro _) | (refine brL ?kzz (fun _ => ?_); case kzz => (simp <;> omega)) | (refine brR ?kzz (fun _ => ?_); case kzz => (simp <;> omega)))
    exact fin _ hs
  rw [if_pos (by omega)] at hs
  by_cases h4 : (frameRead b a).2.2.2 = 2 ∨ (frameRead b a).2.2.2 = 4
  · rw [if_pos h4] at hs
    rcases h4 with h4 | h4
    · repeat (first | (first | refine brT ?_ | refine brF ?_ | refine And.intro rfl ?_ | refine And.intro trivial ?_ | intro _) | (refine brL ?kzz (fun _ => ?_); case kzz => (simp <;> omega)) | (refine brR ?kzz (fun _ => ?_); case kzz => (simp <;> omega)))
      exact fin _ hs
    · repeat (first | (first | refine brT ?_ | refine brF ?_ | refine And.intro rfl ?_ | refine And.intro trivial ?_ | intro _) | (refine brL ?kzz (fun _ => ?_); case kzz => (simp <;> omega)) | (refine brR ?kzz (fun _ => ?_); case kzz => (simp <;> omega)))
      exact fin _ hs
  rw [if_neg h4, if_pos (by omega)] at hs
  by_cases h5 : (frameRead b a).2.2.2 = 0
  · have h6 : ¬ (frameRead b a).1 = l.length := fun e => h2 ⟨h5, e⟩
    repeat (first | (first | refine brT ?_ | refine brF ?_ | refine And.intro rfl ?_ | refine And.intro trivial ?_ | intro _) | (refine brL ?kzz (fun _ => ?_); case kzz => (simp <;> omega)) | (refine brR ?kzz (fun _ => ?_); case kzz => (simp <;> omega)))
    exact fin _ hs
  · repeat (first | (first | refine brT ?_ | refine brF ?_ | refine And.intro rfl ?_ | refine And.intro trivial ?_ | intro _) | (refine brL ?kzz (fun _ => ?_); case kzz => (simp <;> omega)) | (refine brR ?kzz (fun _ => ?_); case kzz => (simp <;> omega)))
    exact fin _ hs


end Go.Proofs.Ytadpancnhinlbaa.E
