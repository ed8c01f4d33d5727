/- Contracts of functions of this seat's program. -/
import Derived.Test.YtphikogfogejlaaDoorETy
import Derived.Test.YtphikogfogejlaaDoorEGo
namespace Go.Proofs.YtphikogfogejlaaDoor.E
set_option linter.unusedVariables false
set_option linter.unusedSimpArgs false
set_option maxHeartbeats 1600000
def szI (l : Nat) (n : Int) : Int := if w64 (n - l) < 0 then -1 else w64 (n - l)
theorem s_eqIntS (a b : List Int) (hl : a.length ≤ bound) : Spec Tryd.prog 50 [.ro (.sl 1 (a.map T.int)), .ro (.sl 1 (b.map T.int))] [T.bool (a == b)] := by
  have hl' : a.length ≤ 16777216 := hl
  refine fn Tryd.func50 ?_
  refine brI (fun h => ?_) (fun h => ?_)
  · have hne : a.length ≠ b.length := by intro h1; simp [h1] at h
    refine tbf ?_
    cases hab : a == b
    · rfl
    · exact absurd (by rw [eq_of_beq hab]) hne
  have hab : a.length = b.length := by simp at h; omega
  refine loopR (fun i => ⟨26, [(0, .c (.ro 1 (a.map T.int))), (1, .c (.ro 1 (b.map T.int))), (5, .int i)], []⟩) a.length (fun i => ∀ j (hj : j < a.length), j < i → a[j] = b[j]) (fun j _ h => absurd h (by omega)) (wk rfl ⟨rfl, rfl, rfl, trivial⟩ trivial) ?_
  intro i hi hI
  refine brD (fun h => ?_) (fun h => ?_)
  · have h : i < a.length := by simpa using h
    refine dr (.line [0, 1, 2, 3, 4, 5, 6, 7, 8]) (by kernel_rfl) ?_
    refine ⟨nn i, T.int a[i], atm h, ?_⟩
    refine ⟨nn i, T.int b[i], atm (by omega), ?_⟩
    refine brI (fun h1 => ?_) (fun h1 => ?_)
    · refine tbf ?_
      simp at h1
      cases hab : a == b
      · rfl
      · have := eq_of_beq hab
        subst this
        exact absurd rfl h1
    · refine nxtR h ?_ (wk rfl ⟨rfl, rfl, up1 h hl', trivial⟩ trivial)
      intro j hj h2
      by_cases h3 : j = i
      · subst h3; simpa using h1
      · exact hI j hj (by omega)
  · refine tbt ?_
    have : a = b := List.ext_getElem hab (fun j h1 h2 => hI j h1 (by simp at h; omega))
    simp [this]

/-- The numbers that a mark lays: k, k + 1, .. -/
def mkI (n : Nat) (k : Int) : List T := (List.range n).map fun (i : Nat) => T.int (k + i)
theorem mkI_len (n : Nat) (k : Int) : (mkI n k).length = n := by simp [mkI]
theorem mark_set {α : Type} (A B : List α) (z : α) (i : Nat) (hA : A.length = i) (hi : i < B.length) : (A ++ B.drop i).set i z = (A ++ [z]) ++ B.drop (i + 1) := by
  rw [List.set_append_right _ _ (by omega), hA, Nat.sub_self, List.drop_eq_getElem_cons hi, List.set_cons_zero, List.append_assoc]; rfl
theorem mkI_succ (i : Nat) (k : Int) : mkI (i + 1) k = mkI i k ++ [T.int (k + i)] := by simp [mkI, List.range_succ]
theorem s_markIntS (l : List Int) (k : Int) (hl : l.length ≤ bound) (h0 : 0 ≤ k) (hk : k ≤ 4611686018427387904) : Spec Tryd.prog 53 [.rw (.sl 1 (l.map T.int)) (.sl 1 (mkI l.length k)), .ro (.int k)] [.int (k + l.length)] := by
  have hl' : l.length ≤ 16777216 := hl
  refine fn Tryd.func53 ?_
  refine loopI (fun x : Nat × Nat => ⟨19, [(0, .c (.own 500 0)), (1, .int (k + x.1)), (5, .int x.1)], [(500, .row 0 x.2 1 (mkI x.1 k ++ (l.map T.int).drop x.1))]⟩) (fun x => l.length - x.1) (fun x => x.1 ≤ l.length) (0, 0) (Nat.zero_le _)
    (wk rfl ⟨rfl, congrArg AV.int (by simp), rfl, trivial⟩ ⟨?_, trivial⟩) ?_
  · simp [mkI]; rfl
  rintro ⟨i, v⟩ hi
  simp only at hi
  repeat (first | refine brT ?_ | refine brF ?_ | refine And.intro rfl ?_ | refine And.intro trivial ?_ | intro _)
  refine brD (fun h => ?_) (fun h => ?_)
  · have hlt : i < l.length := by simp [mkI_len] at h; omega
    repeat (first | refine brT ?_ | refine brF ?_ | refine And.intro rfl ?_ | refine And.intro trivial ?_ | intro _)
    refine ⟨nn i, by simp [mkI_len]; omega, ?_⟩
    repeat (first | refine brT ?_ | refine brF ?_ | refine And.intro rfl ?_ | refine And.intro trivial ?_ | intro _)
    refine ⟨T.int l[i], ?_, Nat.le_refl _, fun v' => ?_⟩
    · simp [List.getElem?_append_right, mkI_len, hlt]
    · repeat (first | refine brT ?_ | refine brF ?_ | refine And.intro rfl ?_ | refine And.intro trivial ?_ | intro _)
      refine nxt (i + 1, v') hlt (by show l.length - (i + 1) < l.length - i; omega) (wk rfl ⟨rfl, congrArg AV.int (by show w64 (k + (i : Int) + 1) = k + ((i + 1 : Nat) : Int); rw [w64_id (by omega) (by omega)]; omega), up1 hlt hl', trivial⟩ ⟨?_, trivial⟩)
      have := mark_set (mkI i k) (l.map T.int) (T.int (k + i)) i (mkI_len i k) (by simpa using hlt)
      rw [mkI_succ, ← this]
      rfl
  · have : i = l.length := by simp [mkI_len] at h; omega
    subst this
    repeat (first | refine brT ?_ | refine brF ?_ | refine And.intro rfl ?_ | refine And.intro trivial ?_ | intro _)
    show T.sl 1 _ = T.sl 1 _
    rw [List.drop_of_length_le (by simp), List.append_nil]
/-- What a mark has laid is still there. -/
theorem s_heldIntS (n : Nat) (k : Int) (hl : n ≤ bound) (h0 : 0 ≤ k) (hk : k ≤ 4611686018427387904) : Spec Tryd.prog 56 [.ro (.sl 1 (mkI n k)), .ro (.int k)] [.int (k + n)] := by
  have hl' : n ≤ 16777216 := hl
  refine fn Tryd.func56 ?_
  refine loopI (fun i : Nat => ⟨21, [(0, .c (.ro 1 (mkI n k))), (1, .int (k + i)), (5, .int i)], []⟩) (fun i => n - i) (fun i => i ≤ n) 0 (Nat.zero_le _) (wk rfl ⟨rfl, congrArg AV.int (by simp), rfl, trivial⟩ trivial) ?_
  intro i hi
  refine brD (fun h => ?_) (fun h => ?_)
  · have hlt : i < n := by simpa [mkI_len] using h
    refine ⟨nn i, T.int (k + i), by simp [mkI, hlt], ?_⟩
    refine brI (fun h1 => ?_) (fun h1 => ?_)
    · simp at h1
    · exact nxt (i + 1) hlt (by show n - (i + 1) < n - i; omega) (wk rfl ⟨rfl, congrArg AV.int (by show w64 (k + (i : Int) + 1) = k + ((i + 1 : Nat) : Int); rw [w64_id (by omega) (by omega)]; omega), up1 hlt hl', trivial⟩ trivial)
  · have : i = n := by simp [mkI_len] at h; omega
    subst this
    exact ti rfl

theorem szI_in {l : Nat} {n : Int} (hl : l ≤ 9223372036854775807) (h0 : 0 ≤ n) (hn : n ≤ 1048576) (h : ¬ szI l n < 0) : (l : Int) ≤ n ∧ szI l n = n - l := by
  have hw : w64 (n - l) = n - l := w64_id (by omega) (by omega)
  unfold szI at h ⊢
  rw [hw] at h ⊢
  split at h
  · omega
  · rename_i h1
    rw [if_neg h1]; omega

def foldSz {α : Type} (f : α → Int → Int) : List α → Int → Int
  | [], n => n
  | x :: l, n => if f x n < 0 then -1 else foldSz f l (f x n)
def szS {α : Type} (f : α → Int → Int) (l : List α) (n : Int) : Int := if szI l.length n < 0 then -1 else foldSz f l (szI l.length n)
theorem foldSz_in {α : Type} {f : α → Int → Int} {raw ok : α → Prop} (hf : ∀ x n, raw x → 0 ≤ n → n ≤ 1048576 → ¬ f x n < 0 → ok x ∧ 0 ≤ f x n ∧ f x n ≤ n) : ∀ (l : List α) (n : Int), (∀ x ∈ l, raw x) → 0 ≤ n → n ≤ 1048576 → ¬ foldSz f l n < 0 → (∀ x ∈ l, ok x) ∧ 0 ≤ foldSz f l n ∧ foldSz f l n ≤ n
  | [], n, _, h0, _, _ => ⟨fun _ h => by simp at h, h0, Int.le_refl _⟩
  | x :: l, n, hr, h0, hn, h => by
    simp only [foldSz] at h ⊢
    split at h
    · omega
    · rename_i h1
      obtain ⟨o1, a1, b1⟩ := hf x n (hr x List.mem_cons_self) h0 hn h1
      obtain ⟨o2, a2, b2⟩ := foldSz_in hf l (f x n) (fun y hy => hr y (List.mem_cons_of_mem _ hy)) a1 (by omega) h
      rw [if_neg h1]
      refine ⟨fun y hy => ?_, a2, by omega⟩
      rcases List.mem_cons.1 hy with rfl | hy
      · exact o1
      · exact o2 y hy
theorem szS_in {α : Type} {f : α → Int → Int} {raw ok : α → Prop} (hf : ∀ x n, raw x → 0 ≤ n → n ≤ 1048576 → ¬ f x n < 0 → ok x ∧ 0 ≤ f x n ∧ f x n ≤ n) {l : List α} {n : Int} (hl : l.length ≤ maxLen) (hr : ∀ x ∈ l, raw x) (h0 : 0 ≤ n) (hn : n ≤ 1048576) (h : ¬ szS f l n < 0) : (l.length ≤ bound ∧ ∀ x ∈ l, ok x) ∧ 0 ≤ szS f l n ∧ szS f l n ≤ n := by
  unfold szS at h ⊢
  split at h
  · omega
  · rename_i h1
    obtain ⟨c1, c2⟩ := szI_in hl h0 hn h1
    obtain ⟨o2, a2, b2⟩ := foldSz_in hf l _ hr (by omega) (by omega) h
    rw [if_neg h1]
    exact ⟨⟨by unfold bound; omega, o2⟩, a2, by omega⟩
abbrev rawS_Int (l : List Int) : Prop := l.length ≤ maxLen ∧ ∀ y ∈ l, (Lit.int .i64 y).wf = true
theorem in_IntS {l : List Int} {n : Int} (hr : rawS_Int l) (h0 : 0 ≤ n) (hn : n ≤ 1048576) (h : ¬ szI l.length n < 0) : l.length ≤ bound ∧ 0 ≤ szI l.length n ∧ szI l.length n ≤ n := by
  have := szI_in hr.1 h0 hn h
  exact ⟨by unfold bound; omega, by omega, by omega⟩
/-! Marks: how many a list takes, and what they lay. -/
def nL {α : Type} (n : α → Int) : List α → Int
  | [] => 0
  | x :: l => n x + nL n l
def mL {α : Type} (m : α → Int → T) (n : α → Int) : List α → Int → List T
  | [], _ => []
  | x :: l, k => m x k :: mL m n l (k + n x)
section
variable {α : Type} {m : α → Int → T} {n : α → Int}
theorem nL_nonneg (h : ∀ x, 0 ≤ n x) : ∀ l : List α, 0 ≤ nL n l
  | [] => Int.le_refl _
  | x :: l => by have := h x; have := nL_nonneg h l; simp only [nL]; omega
theorem nL_at : ∀ {l : List α} {i : Nat} (h : i < l.length), nL n (l.take (i + 1)) = nL n (l.take i) + n l[i]
  | x :: l, 0, _ => by simp [nL]
  | x :: l, i + 1, h => by
    have := nL_at (l := l) (i := i) (by simpa using h)
    simp only [List.take_succ_cons, nL, this, List.getElem_cons_succ]; omega
theorem nL_le (h : ∀ x, 0 ≤ n x) : ∀ (l : List α) (i : Nat), nL n (l.take i) ≤ nL n l
  | [], i => by simp
  | x :: l, 0 => by have := nL_nonneg h (x :: l); simpa [nL] using this
  | x :: l, i + 1 => by have := nL_le h l i; simp only [List.take_succ_cons, nL]; omega
theorem nL_big {B : Nat} : ∀ {l : List α} (_ : ∀ x, 0 ≤ n x) (_ : ∀ x ∈ l, n x ≤ (B : Int)) {c : Nat} (_ : l.length ≤ c), nL n l ≤ ((c * B : Nat) : Int)
  | [], _, _, _, _ => by simp only [nL]; omega
  | x :: l, h0, h, 0, hc => by simp at hc
  | x :: l, h0, h, c + 1, hc => by
    have h1 := h x (by simp)
    have h2 := nL_big (l := l) h0 (fun y hy => h y (by simp [hy])) (c := c) (by simpa using hc)
    simp only [nL]
    rw [Nat.succ_mul]
    omega
theorem mL_len : ∀ {l : List α} {k : Int}, (mL m n l k).length = l.length
  | [], _ => rfl
  | x :: l, k => by simp [mL, mL_len (l := l)]
theorem mL_succ : ∀ {l : List α} {i : Nat} {k : Int} (h : i < l.length), mL m n (l.take (i + 1)) k = mL m n (l.take i) k ++ [m l[i] (k + nL n (l.take i))]
  | x :: l, 0, k, _ => by simp [mL, nL]
  | x :: l, i + 1, k, h => by
    have := mL_succ (l := l) (i := i) (k := k + n x) (by simpa using h)
    simp only [List.take_succ_cons, mL, this, nL, List.getElem_cons_succ, List.cons_append, Int.add_assoc]
theorem mL_get : ∀ {l : List α} {i : Nat} {k : Int} (h : i < l.length), (mL m n l k)[i]? = some (m l[i] (k + nL n (l.take i)))
  | x :: l, 0, k, _ => by simp [mL, nL]
  | x :: l, i + 1, k, h => by
    have := mL_get (l := l) (i := i) (k := k + n x) (by simpa using h)
    simp only [List.take_succ_cons, mL, List.getElem?_cons_succ, this, nL, List.getElem_cons_succ, Int.add_assoc]
theorem mL_at {l : List α} {i : Nat} {k : Int} (h : i < l.length) : (mL m n l k)[((i : Int)).toNat]? = some (m l[i] (k + nL n (l.take i))) := mL_get h
end
theorem gi {s : St} {d : Nat} {n m : Int} (h : s.get d = AV.int n) (e : n = m) : s.get d = AV.int m := by rw [h, e]
theorem gr {s : St} {d q v e : Nat} {es es' : List T} (h : look s.ob d = some (.row q v e es)) (he : es = es') : look s.ob d = some (.row q v e es') := by rw [h, he]
theorem set_at {α : Type} {l : List α} {i : Nat} {x : α} (h : i < l.length) : (l.set ((i : Int)).toNat x)[((i : Int)).toNat]? = some x := by simp [h]
theorem brL {b : Bool} {A B : Prop} (h : ¬ (b = true)) (k : b = false → B) : Br b A B := ⟨fun h' => absurd h' h, k⟩
theorem brR {b : Bool} {A B : Prop} (h : ¬ (b = false)) (k : b = true → A) : Br b A B := ⟨k, fun h' => absurd h' h⟩


end Go.Proofs.YtphikogfogejlaaDoor.E
