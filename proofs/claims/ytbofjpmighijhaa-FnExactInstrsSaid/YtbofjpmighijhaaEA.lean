/- Contracts of functions of this seat's program. -/
import Derived.Test.YtbofjpmighijhaaETy
import Derived.Test.YtbofjpmighijhaaEGo
namespace Go.Proofs.Ytbofjpmighijhaa.E
set_option linter.unusedVariables false
theorem s_eqIntS (a b : List Int) (hl : a.length ≤ bound) : Spec Try.prog 19 [.ro (.sl 1 (a.map T.int)), .ro (.sl 1 (b.map T.int))] [T.bool (a == b)] := by
  have hl' : a.length ≤ 1073741824 := hl
  refine fn Try.func19 ?_
  refine brI (fun h => ?_) (fun h => ?_)
  · have hne : a.length ≠ b.length := by intro h1; simp [h1] at h
    refine tbf ?_
    cases hab : a == b
    · rfl
    · exact absurd (by rw [eq_of_beq hab]) hne
  have hab : a.length = b.length := by simp at h; omega
  refine loopR (fun i => ⟨26, [(0, .c (.ro 1 (a.map T.int))), (1, .c (.ro 1 (b.map T.int))), (5, .int i)], []⟩) a.length (fun i => ∀ j (hj : j < a.length), j < i → a[j] = b[j]) (fun j _ h => absurd h (by omega)) (wk rfl ⟨rfl, rfl, rfl, trivial⟩ trivial) ?_
  intro i hi hI
  refine brD (fun h => ?_) (fun h => ?_)
  · have h : i < a.length := by simpa using h
    refine dr (.line [0, 1, 2, 3, 4, 5, 6, 7, 8]) (by kernel_rfl) ?_
    refine ⟨nn i, T.int a[i], atm h, ?_⟩
    refine ⟨nn i, T.int b[i], atm (by omega), ?_⟩
    refine brI (fun h1 => ?_) (fun h1 => ?_)
    · refine tbf ?_
      simp at h1
      cases hab : a == b
      · rfl
      · have := eq_of_beq hab
        subst this
        exact absurd rfl h1
    · refine nxtR h ?_ (wk rfl ⟨rfl, rfl, up1 h hl', trivial⟩ trivial)
      intro j hj h2
      by_cases h3 : j = i
      · subst h3; simpa using h1
      · exact hI j hj (by omega)
  · refine tbt ?_
    have : a = b := List.ext_getElem hab (fun j h1 h2 => hI j h1 (by simp at h; omega))
    simp [this]

theorem szI_in {l : Nat} {n : Int} (hl : l ≤ 9223372036854775807) (h0 : 0 ≤ n) (hn : n ≤ 1048576) (h : ¬ szI l n < 0) : (l : Int) ≤ n ∧ szI l n = n - l := by
  have hw : w64 (n - l) = n - l := w64_id (by omega) (by omega)
  unfold szI at h ⊢
  rw [hw] at h ⊢
  split at h
  · omega
  · rename_i h1
    rw [if_neg h1]; omega

def foldSz {α : Type} (f : α → Int → Int) : List α → Int → Int
  | [], n => n
  | x :: l, n => if f x n < 0 then -1 else foldSz f l (f x n)
def szS {α : Type} (f : α → Int → Int) (l : List α) (n : Int) : Int := if szI l.length n < 0 then -1 else foldSz f l (szI l.length n)
theorem foldSz_in {α : Type} {f : α → Int → Int} {raw ok : α → Prop} (hf : ∀ x n, raw x → 0 ≤ n → n ≤ 1048576 → ¬ f x n < 0 → ok x ∧ 0 ≤ f x n ∧ f x n ≤ n) : ∀ (l : List α) (n : Int), (∀ x ∈ l, raw x) → 0 ≤ n → n ≤ 1048576 → ¬ foldSz f l n < 0 → (∀ x ∈ l, ok x) ∧ 0 ≤ foldSz f l n ∧ foldSz f l n ≤ n
  | [], n, _, h0, _, _ => ⟨fun _ h => by simp at h, h0, Int.le_refl _⟩
  | x :: l, n, hr, h0, hn, h => by
    simp only [foldSz] at h ⊢
    split at h
    · omega
    · rename_i h1
      obtain ⟨o1, a1, b1⟩ := hf x n (hr x List.mem_cons_self) h0 hn h1
      obtain ⟨o2, a2, b2⟩ := foldSz_in hf l (f x n) (fun y hy => hr y (List.mem_cons_of_mem _ hy)) a1 (by omega) h
      rw [if_neg h1]
      refine ⟨fun y hy => ?_, a2, by omega⟩
      rcases List.mem_cons.1 hy with rfl | hy
      · exact o1
      · exact o2 y hy
theorem szS_in {α : Type} {f : α → Int → Int} {raw ok : α → Prop} (hf : ∀ x n, raw x → 0 ≤ n → n ≤ 1048576 → ¬ f x n < 0 → ok x ∧ 0 ≤ f x n ∧ f x n ≤ n) {l : List α} {n : Int} (hl : l.length ≤ maxLen) (hr : ∀ x ∈ l, raw x) (h0 : 0 ≤ n) (hn : n ≤ 1048576) (h : ¬ szS f l n < 0) : (l.length ≤ bound ∧ ∀ x ∈ l, ok x) ∧ 0 ≤ szS f l n ∧ szS f l n ≤ n := by
  unfold szS at h ⊢
  split at h
  · omega
  · rename_i h1
    obtain ⟨c1, c2⟩ := szI_in hl h0 hn h1
    obtain ⟨o2, a2, b2⟩ := foldSz_in hf l _ hr (by omega) (by omega) h
    rw [if_neg h1]
    exact ⟨⟨by unfold bound; omega, o2⟩, a2, by omega⟩
abbrev rawS_Int (l : List Int) : Prop := l.length ≤ maxLen ∧ ∀ y ∈ l, (Lit.int .i64 y).wf = true
theorem in_IntS {l : List Int} {n : Int} (hr : rawS_Int l) (h0 : 0 ≤ n) (hn : n ≤ 1048576) (h : ¬ szI l.length n < 0) : l.length ≤ bound ∧ 0 ≤ szI l.length n ∧ szI l.length n ≤ n := by
  have := szI_in hr.1 h0 hn h
  exact ⟨by unfold bound; omega, by omega, by omega⟩
theorem s_szIntS' (l : List Int) (n : Int) (_ : rawS_Int l) (_ : 0 ≤ n) (_ : n ≤ 1048576) : Spec Try.prog 37 [.ro (.sl 1 (l.map T.int)), .ro (.int n)] [.int (szI l.length n)] := by
  have := s_szIntS (l.map T.int) n
  rwa [List.length_map] at this


end Go.Proofs.Ytbofjpmighijhaa.E
