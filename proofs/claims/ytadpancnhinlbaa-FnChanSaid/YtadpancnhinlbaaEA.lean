/- Contracts of functions of this seat's program. -/
import Derived.Test.YtadpancnhinlbaaETy
import Derived.Test.YtadpancnhinlbaaEGo
namespace Go.Proofs.Ytadpancnhinlbaa.E
set_option linter.unusedVariables false
set_option linter.unusedSimpArgs false
set_option maxHeartbeats 1600000
/-- The numbers that a mark lays: k, k + 1, .. -/
def mkI (n : Nat) (k : Int) : List T := (List.range n).map fun (i : Nat) => T.int (k + i)
theorem mkI_len (n : Nat) (k : Int) : (mkI n k).length = n := by simp [mkI]
theorem mark_set {α : Type} (A B : List α) (z : α) (i : Nat) (hA : A.length = i) (hi : i < B.length) : (A ++ B.drop i).set i z = (A ++ [z]) ++ B.drop (i + 1) := by
  rw [List.set_append_right _ _ (by omega), hA, Nat.sub_self, List.drop_eq_getElem_cons hi, List.set_cons_zero, List.append_assoc]; rfl
theorem mkI_succ (i : Nat) (k : Int) : mkI (i + 1) k = mkI i k ++ [T.int (k + i)] := by simp [mkI, List.range_succ]
/-- What a mark has laid is still there. -/
theorem szI_in {l : Nat} {n : Int} (hl : l ≤ 9223372036854775807) (h0 : 0 ≤ n) (hn : n ≤ 1048576) (h : ¬ szI l n < 0) : (l : Int) ≤ n ∧ szI l n = n - l := by
  have hw : w64 (n - l) = n - l := w64_id (by omega) (by omega)
  unfold szI at h ⊢
  rw [hw] at h ⊢
  split at h
  · omega
  · rename_i h1
    rw [if_neg h1]; omega

def foldSz {α : Type} (f : α → Int → Int) : List α → Int → Int
  | [], n => n
  | x :: l, n => if f x n < 0 then -1 else foldSz f l (f x n)
def szS {α : Type} (f : α → Int → Int) (l : List α) (n : Int) : Int := if szI l.length n < 0 then -1 else foldSz f l (szI l.length n)
theorem foldSz_in {α : Type} {f : α → Int → Int} {raw ok : α → Prop} (hf : ∀ x n, raw x → 0 ≤ n → n ≤ 1048576 → ¬ f x n < 0 → ok x ∧ 0 ≤ f x n ∧ f x n ≤ n) : ∀ (l : List α) (n : Int), (∀ x ∈ l, raw x) → 0 ≤ n → n ≤ 1048576 → ¬ foldSz f l n < 0 → (∀ x ∈ l, ok x) ∧ 0 ≤ foldSz f l n ∧ foldSz f l n ≤ n
  | [], n, _, h0, _, _ => ⟨fun _ h => by simp at h, h0, Int.le_refl _⟩
  | x :: l, n, hr, h0, hn, h => by
    simp only [foldSz] at h ⊢
    split at h
    · omega
    · rename_i h1
      obtain ⟨o1, a1, b1⟩ := hf x n (hr x List.mem_cons_self) h0 hn h1
      obtain ⟨o2, a2, b2⟩ := foldSz_in hf l (f x n) (fun y hy => hr y (List.mem_cons_of_mem _ hy)) a1 (by omega) h
      rw [if_neg h1]
      refine ⟨fun y hy => ?_, a2, by omega⟩
      rcases List.mem_cons.1 hy with rfl | hy
      · exact o1
      · exact o2 y hy
theorem szS_in {α : Type} {f : α → Int → Int} {raw ok : α → Prop} (hf : ∀ x n, raw x → 0 ≤ n → n ≤ 1048576 → ¬ f x n < 0 → ok x ∧ 0 ≤ f x n ∧ f x n ≤ n) {l : List α} {n : Int} (hl : l.length ≤ maxLen) (hr : ∀ x ∈ l, raw x) (h0 : 0 ≤ n) (hn : n ≤ 1048576) (h : ¬ szS f l n < 0) : (l.length ≤ bound ∧ ∀ x ∈ l, ok x) ∧ 0 ≤ szS f l n ∧ szS f l n ≤ n := by
  unfold szS at h ⊢
  split at h
  · omega
  · rename_i h1
    obtain ⟨c1, c2⟩ := szI_in hl h0 hn h1
    obtain ⟨o2, a2, b2⟩ := foldSz_in hf l _ hr (by omega) (by omega) h
    rw [if_neg h1]
    exact ⟨⟨by unfold bound; omega, o2⟩, a2, by omega⟩
abbrev rawS_Int (l : List Int) : Prop := l.length ≤ maxLen ∧ ∀ y ∈ l, (Lit.int .i64 y).wf = true
theorem in_IntS {l : List Int} {n : Int} (hr : rawS_Int l) (h0 : 0 ≤ n) (hn : n ≤ 1048576) (h : ¬ szI l.length n < 0) : l.length ≤ bound ∧ 0 ≤ szI l.length n ∧ szI l.length n ≤ n := by
  have := szI_in hr.1 h0 hn h
  exact ⟨by unfold bound; omega, by omega, by omega⟩
/-! Marks: how many a list takes, and what they lay. -/
def nL {α : Type} (n : α → Int) : List α → Int
  | [] => 0
  | x :: l => n x + nL n l
def mL {α : Type} (m : α → Int → T) (n : α → Int) : List α → Int → List T
  | [], _ => []
  | x :: l, k => m x k :: mL m n l (k + n x)
section
variable {α : Type} {m : α → Int → T} {n : α → Int}
theorem nL_nonneg (h : ∀ x, 0 ≤ n x) : ∀ l : List α, 0 ≤ nL n l
  | [] => Int.le_refl _
  | x :: l => by have := h x; have := nL_nonneg h l; simp only [nL]; omega
theorem nL_at : ∀ {l : List α} {i : Nat} (h : i < l.length), nL n (l.take (i + 1)) = nL n (l.take i) + n l[i]
  | x :: l, 0, _ => by simp [nL]
  | x :: l, i + 1, h => by
    have := nL_at (l := l) (i := i) (by simpa using h)
    simp only [List.take_succ_cons, nL, this, List.getElem_cons_succ]; omega
theorem nL_le (h : ∀ x, 0 ≤ n x) : ∀ (l : List α) (i : Nat), nL n (l.take i) ≤ nL n l
  | [], i => by simp
  | x :: l, 0 => by have := nL_nonneg h (x :: l); simpa [nL] using this
  | x :: l, i + 1 => by have := nL_le h l i; simp only [List.take_succ_cons, nL]; omega
theorem nL_big {B : Nat} : ∀ {l : List α} (_ : ∀ x, 0 ≤ n x) (_ : ∀ x ∈ l, n x ≤ (B : Int)) {c : Nat} (_ : l.length ≤ c), nL n l ≤ ((c * B : Nat) : Int)
  | [], _, _, _, _ => by simp only [nL]; omega
  | x :: l, h0, h, 0, hc => by simp at hc
  | x :: l, h0, h, c + 1, hc => by
    have h1 := h x (by simp)
    have h2 := nL_big (l := l) h0 (fun y hy => h y (by simp [hy])) (c := c) (by simpa using hc)
    simp only [nL]
    rw [Nat.succ_mul]
    omega
theorem mL_len : ∀ {l : List α} {k : Int}, (mL m n l k).length = l.length
  | [], _ => rfl
  | x :: l, k => by simp [mL, mL_len (l := l)]
theorem mL_succ : ∀ {l : List α} {i : Nat} {k : Int} (h : i < l.length), mL m n (l.take (i + 1)) k = mL m n (l.take i) k ++ [m l[i] (k + nL n (l.take i))]
  | x :: l, 0, k, _ => by simp [mL, nL]
  | x :: l, i + 1, k, h => by
    have := mL_succ (l := l) (i := i) (k := k + n x) (by simpa using h)
    simp only [List.take_succ_cons, mL, this, nL, List.getElem_cons_succ, List.cons_append, Int.add_assoc]
theorem mL_get : ∀ {l : List α} {i : Nat} {k : Int} (h : i < l.length), (mL m n l k)[i]? = some (m l[i] (k + nL n (l.take i)))
  | x :: l, 0, k, _ => by simp [mL, nL]
  | x :: l, i + 1, k, h => by
    have := mL_get (l := l) (i := i) (k := k + n x) (by simpa using h)
    simp only [List.take_succ_cons, mL, List.getElem?_cons_succ, this, nL, List.getElem_cons_succ, Int.add_assoc]
theorem mL_at {l : List α} {i : Nat} {k : Int} (h : i < l.length) : (mL m n l k)[((i : Int)).toNat]? = some (m l[i] (k + nL n (l.take i))) := mL_get h
end
theorem gi {s : St} {d : Nat} {n m : Int} (h : s.get d = AV.int n) (e : n = m) : s.get d = AV.int m := by rw [h, e]
theorem gr {s : St} {d q v e : Nat} {es es' : List T} (h : look s.ob d = some (.row q v e es)) (he : es = es') : look s.ob d = some (.row q v e es') := by rw [h, he]
theorem set_at {α : Type} {l : List α} {i : Nat} {x : α} (h : i < l.length) : (l.set ((i : Int)).toNat x)[((i : Int)).toNat]? = some x := by simp [h]
theorem brL {b : Bool} {A B : Prop} (h : ¬ (b = true)) (k : b = false → B) : Br b A B := ⟨fun h' => absurd h' h, k⟩
theorem brR {b : Bool} {A B : Prop} (h : ¬ (b = false)) (k : b = true → A) : Br b A B := ⟨k, fun h' => absurd h' h⟩

def isV (n : Int) : Bool := decide (n ≥ 0) && decide (n ≤ 999)
theorem s_l03Val (n : Int) : Spec Try.prog 39 [.ro (T.int n)] [T.bool (isV n)] := by
  refine fn Try.func39 ?_
  refine brI (fun h => ?_) (fun h => ?_)
  · repeat (first | refine brT ?_ | refine brF ?_)
    show _ = _
    simp only [isV, h, Bool.true_and]; rfl
  · repeat (first | refine brT ?_ | refine brF ?_)
    show _ = _
    simp only [isV, h, Bool.false_and]; rfl
theorem s_isVal (n : Int) : Spec Try.prog 36 [.ro (T.int n)] [T.bool (isV n)] := by
  refine fn Try.func36 ?_
  refine brI (fun h => ?_) (fun h => ?_)
  · repeat (first | refine brT ?_ | refine brF ?_)
    show _ = _
    simp only [isV, h, Bool.true_and]; rfl
  · repeat (first | refine brT ?_ | refine brF ?_)
    show _ = _
    simp only [isV, h, Bool.false_and]; rfl


end Go.Proofs.Ytadpancnhinlbaa.E
