/- Contracts of functions of this seat's program. -/
import Derived.Test.YtiphlkclkieanaaETy
import Derived.Test.YtiphlkclkieanaaEFb
namespace Go.Proofs.Ytiphlkclkieanaa.E
set_option linter.unusedVariables false
set_option maxHeartbeats 1600000
def szI (l : Nat) (n : Int) : Int := if w64 (n - l) < 0 then -1 else w64 (n - l)
theorem s_szByteS (l : List T) (n : Int) : Spec Try.prog 32 [.ro (.sl 1 l), .ro (.int n)] [.int (szI l.length n)] := by
  refine fn Try.func32 ?_
  refine brI (fun h => ?_) (fun h => ?_)
  · have h1 := of_decide_eq_true h
    show _ = _
    simp only [szI, w64, h1, if_true]; rfl
  · have h1 := of_decide_eq_false h
    show _ = _
    simp only [szI, w64, h1, if_false]; rfl
theorem s_toByteS (l : List Int) (hl : l.length ≤ bound) : Spec Try.prog 16 [.ro (.sl 1 (l.map T.u8))] [.sl 1 (l.map T.u8)] := by
  have hl' : l.length ≤ 16777216 := hl
  refine fn Try.func16 ?_
  refine ⟨rfl, by simp, by simpa using hl, fun q => ?_⟩
  refine loopI (fun x : Nat × Nat => ⟨22, [(0, .c (.ro 1 (l.map T.u8))), (3, .c (.own 8000 q)), (4, .int x.1)], [(8000, .row q x.2 1 ((l.map T.u8).take x.1 ++ List.replicate (l.length - x.1) (T.u8 0)))]⟩) (fun x => l.length - x.1) (fun x => x.1 ≤ l.length) (0, 0) (Nat.zero_le _)
    (wk rfl ⟨rfl, rfl, rfl, trivial⟩ ⟨?_, trivial⟩) ?_
  · simp; rfl
  · rintro ⟨i, v⟩ hi
    refine brD (fun h => ?_) (fun h => ?_)
    · have hlt : i < l.length := by simpa using h
      refine ⟨by omega, T.u8 l[i], by simp [hlt], ?_⟩
      refine ⟨rfl, by omega, by simp; omega, ?_⟩
      refine ⟨rfl, T.u8 0, ?_, Nat.le_refl _, fun v' => ?_⟩
      · have h1 : min i l.length = i := by omega
        simp [List.getElem?_append_right, h1, List.getElem?_replicate]; omega
      · refine nxt (i + 1, v') hlt (by show _ < _; simp only; omega) (wk rfl ⟨rfl, rfl, congrArg AV.int (w64_id (by omega) (by omega)), trivial⟩ ⟨?_, trivial⟩)
        have := fill_set (l.map T.u8) (T.u8 0) l.length i (by simp) hlt
        simp only [List.getElem_map] at this
        rw [← this]; rfl
    · have : i = l.length := by simp at h; omega
      subst this
      refine ⟨rfl, ?_⟩
      show _ = _
      simp [List.take_of_length_le]
theorem s_eqByteS (a b : List Int) (hl : a.length ≤ bound) : Spec Try.prog 10 [.ro (.sl 1 (a.map T.u8)), .ro (.sl 1 (b.map T.u8))] [T.bool (a == b)] := by
  have hl' : a.length ≤ 16777216 := hl
  refine fn Try.func10 ?_
  refine brI (fun h => ?_) (fun h => ?_)
  · have hne : a.length ≠ b.length := by intro h1; simp [h1] at h
    refine tbf ?_
    cases hab : a == b
    · rfl
    · exact absurd (by rw [eq_of_beq hab]) hne
  have hab : a.length = b.length := by simp at h; omega
  refine loopR (fun i => ⟨26, [(0, .c (.ro 1 (a.map T.u8))), (1, .c (.ro 1 (b.map T.u8))), (5, .int i)], []⟩) a.length (fun i => ∀ j (hj : j < a.length), j < i → a[j] = b[j]) (fun j _ h => absurd h (by omega)) (wk rfl ⟨rfl, rfl, rfl, trivial⟩ trivial) ?_
  intro i hi hI
  refine brD (fun h => ?_) (fun h => ?_)
  · have h : i < a.length := by simpa using h
    refine dr (.line [0, 1, 2, 3, 4, 5, 6, 7, 8]) (by kernel_rfl) ?_
    refine ⟨nn i, T.u8 a[i], atm h, ?_⟩
    refine ⟨nn i, T.u8 b[i], atm (by omega), ?_⟩
    refine brI (fun h1 => ?_) (fun h1 => ?_)
    · refine tbf ?_
      simp at h1
      cases hab : a == b
      · rfl
      · have := eq_of_beq hab
        subst this
        exact absurd rfl h1
    · refine nxtR h ?_ (wk rfl ⟨rfl, rfl, up1 h hl', trivial⟩ trivial)
      intro j hj h2
      by_cases h3 : j = i
      · subst h3; simpa using h1
      · exact hI j hj (by omega)
  · refine tbt ?_
    have : a = b := List.ext_getElem hab (fun j h1 h2 => hI j h1 (by simp at h; omega))
    simp [this]
/-- The numbers that a mark lays: k, k + 1, .. -/
def mkB (n : Nat) (k : Int) : List T := (List.range n).map fun (i : Nat) => T.u8 (IntKind.wrap .u8 (k + i))
theorem mkB_len (n : Nat) (k : Int) : (mkB n k).length = n := by simp [mkB]
theorem mark_set {α : Type} (A B : List α) (z : α) (i : Nat) (hA : A.length = i) (hi : i < B.length) : (A ++ B.drop i).set i z = (A ++ [z]) ++ B.drop (i + 1) := by
  rw [List.set_append_right _ _ (by omega), hA, Nat.sub_self, List.drop_eq_getElem_cons hi, List.set_cons_zero, List.append_assoc]; rfl
theorem mkB_succ (i : Nat) (k : Int) : mkB (i + 1) k = mkB i k ++ [T.u8 (IntKind.wrap .u8 (k + i))] := by simp [mkB, List.range_succ]
theorem s_markByteS (l : List Int) (k : Int) (hl : l.length ≤ bound) (h0 : 0 ≤ k) (hk : k ≤ 4611686018427387904) : Spec Try.prog 13 [.rw (.sl 1 (l.map T.u8)) (.sl 1 (mkB l.length k)), .ro (.int k)] [.int (k + l.length)] := by
  have hl' : l.length ≤ 16777216 := hl
  refine fn Try.func13 ?_
  refine loopI (fun x : Nat × Nat => ⟨20, [(0, .c (.own 500 0)), (1, .int (k + x.1)), (5, .int x.1)], [(500, .row 0 x.2 1 (mkB x.1 k ++ (l.map T.u8).drop x.1))]⟩) (fun x => l.length - x.1) (fun x => x.1 ≤ l.length) (0, 0) (Nat.zero_le _)
    (wk rfl ⟨rfl, congrArg AV.int (by simp), rfl, trivial⟩ ⟨?_, trivial⟩) ?_
  · simp [mkB]; rfl
  rintro ⟨i, v⟩ hi
  simp only at hi
  repeat (first | refine brT ?_ | refine brF ?_ | refine And.intro rfl ?_ | refine And.intro trivial ?_ | intro _)
  refine brD (fun h => ?_) (fun h => ?_)
  · have hlt : i < l.length := by simp [mkB_len] at h; omega
    repeat (first | refine brT ?_ | refine brF ?_ | refine And.intro rfl ?_ | refine And.intro trivial ?_ | intro _)
    refine ⟨nn i, by simp [mkB_len]; omega, ?_⟩
    repeat (first | refine brT ?_ | refine brF ?_ | refine And.intro rfl ?_ | refine And.intro trivial ?_ | intro _)
    refine ⟨T.u8 l[i], ?_, Nat.le_refl _, fun v' => ?_⟩
    · simp [List.getElem?_append_right, mkB_len, hlt]
    · repeat (first | refine brT ?_ | refine brF ?_ | refine And.intro rfl ?_ | refine And.intro trivial ?_ | intro _)
      refine nxt (i + 1, v') hlt (by show l.length - (i + 1) < l.length - i; omega) (wk rfl ⟨rfl, congrArg AV.int (by show w64 (k + (i : Int) + 1) = k + ((i + 1 : Nat) : Int); rw [w64_id (by omega) (by omega)]; omega), up1 hlt hl', trivial⟩ ⟨?_, trivial⟩)
      have := mark_set (mkB i k) (l.map T.u8) (T.u8 (IntKind.wrap .u8 (k + i))) i (mkB_len i k) (by simpa using hlt)
      rw [mkB_succ, ← this]
      rfl
  · have : i = l.length := by simp [mkB_len] at h; omega
    subst this
    repeat (first | refine brT ?_ | refine brF ?_ | refine And.intro rfl ?_ | refine And.intro trivial ?_ | intro _)
    show T.sl 1 _ = T.sl 1 _
    rw [List.drop_of_length_le (by simp), List.append_nil]
/-- What a mark has laid is still there. -/
theorem s_heldByteS (n : Nat) (k : Int) (hl : n ≤ bound) (h0 : 0 ≤ k) (hk : k ≤ 4611686018427387904) : Spec Try.prog 14 [.ro (.sl 1 (mkB n k)), .ro (.int k)] [.int (k + n)] := by
  have hl' : n ≤ 16777216 := hl
  refine fn Try.func14 ?_
  refine loopI (fun i : Nat => ⟨22, [(0, .c (.ro 1 (mkB n k))), (1, .int (k + i)), (5, .int i)], []⟩) (fun i => n - i) (fun i => i ≤ n) 0 (Nat.zero_le _) (wk rfl ⟨rfl, congrArg AV.int (by simp), rfl, trivial⟩ trivial) ?_
  intro i hi
  refine brD (fun h => ?_) (fun h => ?_)
  · have hlt : i < n := by simpa [mkB_len] using h
    refine ⟨nn i, T.u8 (IntKind.wrap .u8 (k + i)), by simp [mkB, hlt], ?_⟩
    repeat (first | refine brT ?_ | refine brF ?_ | refine And.intro rfl ?_ | refine And.intro trivial ?_ | intro _)
    refine brI (fun h1 => ?_) (fun h1 => ?_)
    · simp at h1
    · exact nxt (i + 1) hlt (by show n - (i + 1) < n - i; omega) (wk rfl ⟨rfl, congrArg AV.int (by show w64 (k + (i : Int) + 1) = k + ((i + 1 : Nat) : Int); rw [w64_id (by omega) (by omega)]; omega), up1 hlt hl', trivial⟩ trivial)
  · have : i = n := by simp [mkB_len] at h; omega
    subst this
    exact ti rfl
abbrev rawS_Byte (l : List Int) : Prop := l.length ≤ maxLen ∧ ∀ y ∈ l, (Lit.int .u8 y).wf = true
theorem wf_u8 {x : Int} (h : (Lit.int .u8 x).wf = true) : 0 ≤ x ∧ x < 256 := by
  simp [Lit.wf, IntKind.min, IntKind.max, IntKind.signed, IntKind.bits] at h
  omega
theorem raw_isB {l : List Int} (h : rawS_Byte l) : isB l := fun x hx => wf_u8 (h.2 x hx)
theorem szI_in {l : Nat} {n : Int} (hl : l ≤ 9223372036854775807) (h0 : 0 ≤ n) (hn : n ≤ 1048576) (h : ¬ szI l n < 0) : (l : Int) ≤ n ∧ szI l n = n - l := by
  have hw : w64 (n - l) = n - l := w64_id (by omega) (by omega)
  unfold szI at h ⊢
  rw [hw] at h ⊢
  split at h
  · omega
  · rename_i h1
    rw [if_neg h1]; omega
theorem in_ByteS {l : List Int} {n : Int} (hr : rawS_Byte l) (h0 : 0 ≤ n) (hn : n ≤ 1048576) (h : ¬ szI l.length n < 0) : (l.length ≤ bound ∧ isB l) ∧ 0 ≤ szI l.length n ∧ szI l.length n ≤ n := by
  have := szI_in hr.1 h0 hn h
  exact ⟨⟨by unfold bound; omega, raw_isB hr⟩, by omega, by omega⟩
theorem s_szByteS' (l : List Int) (n : Int) (_ : rawS_Byte l) (_ : 0 ≤ n) (_ : n ≤ 1048576) : Spec Try.prog 32 [.ro (.sl 1 (l.map T.u8)), .ro (.int n)] [.int (szI l.length n)] := by
  have := s_szByteS (l.map T.u8) n
  rwa [List.length_map] at this


end Go.Proofs.Ytiphlkclkieanaa.E
