/- Contracts of functions of this seat's program. -/
import Derived.Test.YtphikogfogejlaaDoorETy
import Derived.Test.YtphikogfogejlaaDoorESp
import Derived.Test.YtphikogfogejlaaDoorETx
namespace Go.Proofs.YtphikogfogejlaaDoor.E
set_option linter.unusedVariables false
set_option linter.unusedSimpArgs false
set_option maxHeartbeats 1600000
/-! Marks over rows of texts. -/
instance lawfulBA : LawfulBEq ByteArray where
  eq_of_beq {a b} h := by
    obtain ⟨a⟩ := a
    obtain ⟨b⟩ := b
    have h' : (a == b) = true := h
    rw [eq_of_beq h']
  rfl {a} := by
    obtain ⟨a⟩ := a
    show (a == a) = true
    simp
theorem s_eqStringS (a b : List ByteArray) (hl : a.length ≤ bound) : Spec Tryd.prog 27 [.ro (.sl 1 (a.map T.str)), .ro (.sl 1 (b.map T.str))] [T.bool (a == b)] := by
  have hl' : a.length ≤ 16777216 := hl
  refine fn Tryd.func27 ?_
  refine brI (fun h => ?_) (fun h => ?_)
  · have hne : a.length ≠ b.length := by intro h1; simp [h1] at h
    refine tbf ?_
    cases hab : a == b
    · rfl
    · exact absurd (by rw [eq_of_beq hab]) hne
  have hab : a.length = b.length := by simp at h; omega
  refine loopR (fun i => ⟨26, [(0, .c (.ro 1 (a.map T.str))), (1, .c (.ro 1 (b.map T.str))), (5, .int i)], []⟩) a.length (fun i => ∀ j (hj : j < a.length), j < i → a[j] = b[j]) (fun j _ h => absurd h (by omega)) (wk rfl ⟨rfl, rfl, rfl, trivial⟩ trivial) ?_
  intro i hi hI
  refine brD (fun h => ?_) (fun h => ?_)
  · have h : i < a.length := by simpa using h
    refine dr (.line [0, 1, 2, 3, 4, 5, 6, 7, 8]) (by kernel_rfl) ?_
    refine ⟨nn i, T.str a[i], atm h, ?_⟩
    refine ⟨nn i, T.str b[i], atm (by omega), ?_⟩
    refine brI (fun h1 => ?_) (fun h1 => ?_)
    · refine tbf ?_
      have h1 : (!(a[i].toList == b[i].toList)) = true := h1
      rw [beq_str] at h1
      simp at h1
      cases hab : a == b
      · rfl
      · have := eq_of_beq hab
        subst this
        exact absurd rfl h1
    · refine nxtR h ?_ (wk rfl ⟨rfl, rfl, up1 h hl', trivial⟩ trivial)
      have h1 : (!(a[i].toList == b[i].toList)) = false := h1
      rw [beq_str] at h1
      simp at h1
      intro j hj h2
      by_cases h3 : j = i
      · subst h3; exact h1
      · exact hI j hj (by omega)
  · refine tbt ?_
    have : a = b := List.ext_getElem hab (fun j h1 h2 => hI j h1 (by simp at h; omega))
    simp [this]
def mtD (k : Nat) (out : ByteArray) : ByteArray := if h : k = 0 then out else mtD (k / 10) (dg (k % 10) ++ out)
termination_by k
decreasing_by omega
def mText (k : Int) : ByteArray := if k ≤ 0 then ⟨#[109, 48]⟩ else ⟨#[109]⟩ ++ mtD k.toNat ⟨#[]⟩
theorem s_markText (k : Int) (hk : k ≤ 9223372036854775807) : Spec Tryd.prog 68 [.ro (T.int k)] [T.str (mText k)] := by
  refine fn Tryd.func68 ?_
  unfold mText
  repeat (first | refine brT ?_ | refine brF ?_ | refine And.intro rfl ?_ | refine And.intro trivial ?_ | intro _)
  by_cases h0 : k ≤ 0
  · rw [if_pos h0]
    refine brR (by simp; omega) (fun _ => ?_)
    repeat (first | refine brT ?_ | refine brF ?_ | refine And.intro rfl ?_ | refine And.intro trivial ?_ | intro _)
    exact rfl
  rw [if_neg h0]
  refine brL (by simp; omega) (fun _ => ?_)
  repeat (first | refine brT ?_ | refine brF ?_ | refine And.intro rfl ?_ | refine And.intro trivial ?_ | intro _)
  refine loopI (fun x : Nat × ByteArray => ⟨20, [(0, .int x.1), (3, .vv (.string x.2))], []⟩) (fun x => x.1) (fun x => mtD x.1 x.2 = mtD k.toNat ⟨#[]⟩ ∧ ∃ m, x.1 < 10 ^ m ∧ x.2.size + m ≤ 19) (k.toNat, ⟨#[]⟩) ⟨rfl, 19, by show k.toNat < _; omega, Nat.le_refl _⟩
    (wk rfl ⟨congrArg AV.int (by simp; omega), rfl, trivial⟩ trivial) ?_
  rintro ⟨n, out⟩ ⟨hI, m, hm, hz⟩
  simp only at hI hm hz
  repeat (first | refine brT ?_ | refine brF ?_ | refine And.intro rfl ?_ | refine And.intro trivial ?_ | intro _)
  refine brD (fun h => ?_) (fun h => ?_)
  · have hn : 0 < n := by have h' : (n : Int) > 0 := h; omega
    have hmm : m ≠ 0 := by intro e; subst e; simp at hm; omega
    obtain ⟨m', rfl⟩ : ∃ m', m = m' + 1 := ⟨m - 1, by omega⟩
    have hpow : (10 : Nat) ^ (m' + 1) ≤ 10 ^ 19 := Nat.pow_le_pow_right (by decide) (by omega)
    have hq : (((n : Int)).tdiv 10) = ((n / 10 : Nat) : Int) := by rw [Int.tdiv_eq_ediv_of_nonneg (by omega)]; omega
    have hr : (((n : Int)).tmod 10) = ((n % 10 : Nat) : Int) := by rw [Int.tmod_eq_emod_of_nonneg (by omega)]; omega
    have hw : w64 (((n : Int)).tdiv 10) = ((n / 10 : Nat) : Int) := by rw [hq, w64_id (by omega) (by have : n < 10 ^ 19 := Nat.lt_of_lt_of_le hm hpow; omega)]
    have hsz2 : (dg (n % 10)).size = 1 := rfl
    repeat (first | refine brT ?_ | refine brF ?_ | refine And.intro rfl ?_ | refine And.intro trivial ?_ | intro _)
    refine ⟨(by decide : (10 : Int) ≠ 0), ?_⟩
    repeat (first | refine brT ?_ | refine brF ?_ | refine And.intro rfl ?_ | refine And.intro trivial ?_ | intro _)
    refine ⟨fun t ht => (by simp at ht; subst ht; rfl), fun q => ?_⟩
    repeat (first | refine brT ?_ | refine brF ?_ | refine And.intro rfl ?_ | refine And.intro trivial ?_ | intro _)
    refine ⟨[UInt8.ofNat (48 + n % 10)], by simp, congrArg (fun z => [T.v (.int .u8 z)]) (dg_val hr (by omega)), ?_⟩
    repeat (first | refine brT ?_ | refine brF ?_ | refine And.intro rfl ?_ | refine And.intro trivial ?_ | intro _)
    refine ⟨by show (dg (n % 10)).size + out.size ≤ _; omega, ?_⟩
    repeat (first | refine brT ?_ | refine brF ?_ | refine And.intro rfl ?_ | refine And.intro trivial ?_ | intro _)
    refine ⟨(by decide : (10 : Int) ≠ 0), ?_⟩
    repeat (first | refine brT ?_ | refine brF ?_ | refine And.intro rfl ?_ | refine And.intro trivial ?_ | intro _)
    refine nxt (n / 10, dg (n % 10) ++ out) ⟨?_, m', ?_, ?_⟩ (by show n / 10 < n; omega) (wk rfl ⟨congrArg AV.int hw, rfl, trivial⟩ trivial)
    · show mtD (n / 10) (dg (n % 10) ++ out) = _
      rw [← hI]
      conv => rhs; rw [mtD, dif_neg (by omega)]
    · show n / 10 < 10 ^ m'
      rw [Nat.pow_succ] at hm; omega
    · show (dg (n % 10) ++ out).size + m' ≤ 19
      rw [ByteArray.size_append, hsz2]; omega
  · have hn : n = 0 := by have h' : ¬ (n : Int) > 0 := h; omega
    subst hn
    have e : mtD 0 out = out := by rw [mtD, dif_pos rfl]
    have hz1 : (⟨#[109]⟩ : ByteArray).size = 1 := rfl
    repeat (first | refine brT ?_ | refine brF ?_ | refine And.intro rfl ?_ | refine And.intro trivial ?_ | intro _)
    refine ⟨by show (⟨#[109]⟩ : ByteArray).size + out.size ≤ _; omega, ?_⟩
    repeat (first | refine brT ?_ | refine brF ?_ | refine And.intro rfl ?_ | refine And.intro trivial ?_ | intro _)
    exact congrArg (fun z => [T.str (⟨#[109]⟩ ++ z)]) (e.symm.trans hI)
def mkS (n : Nat) (k : Int) : List T := (List.range n).map fun (i : Nat) => T.str (mText (k + i))
theorem mkS_len (n : Nat) (k : Int) : (mkS n k).length = n := by simp [mkS]
theorem mkS_succ (i : Nat) (k : Int) : mkS (i + 1) k = mkS i k ++ [T.str (mText (k + i))] := by simp [mkS, List.range_succ]
theorem s_markStringS (l : List ByteArray) (k : Int) (hl : l.length ≤ bound) (h0 : 0 ≤ k) (hk : k ≤ 4611686018427387904) : Spec Tryd.prog 28 [.rw (.sl 1 (l.map T.str)) (.sl 1 (mkS l.length k)), .ro (.int k)] [.int (k + l.length)] := by
  have hl' : l.length ≤ 16777216 := hl
  refine fn Tryd.func28 ?_
  refine loopI (fun x : Nat × Nat => ⟨20, [(0, .c (.own 500 0)), (1, .int (k + x.1)), (5, .int x.1)], [(500, .row 0 x.2 1 (mkS x.1 k ++ (l.map T.str).drop x.1))]⟩) (fun x => l.length - x.1) (fun x => x.1 ≤ l.length) (0, 0) (Nat.zero_le _)
    (wk rfl ⟨rfl, congrArg AV.int (by simp), rfl, trivial⟩ ⟨?_, trivial⟩) ?_
  · simp [mkS]; rfl
  rintro ⟨i, v⟩ hi
  simp only at hi
  repeat (first | refine brT ?_ | refine brF ?_ | refine And.intro rfl ?_ | refine And.intro trivial ?_ | intro _)
  refine brD (fun h => ?_) (fun h => ?_)
  · have hlt : i < l.length := by simp [mkS_len] at h; omega
    repeat (first | refine brT ?_ | refine brF ?_ | refine And.intro rfl ?_ | refine And.intro trivial ?_ | intro _)
    refine ⟨_, s_markText (k + i) (by omega), ?_⟩
    repeat (first | refine brT ?_ | refine brF ?_ | refine And.intro rfl ?_ | refine And.intro trivial ?_ | intro _)
    refine ⟨nn i, by simp [mkS_len]; omega, ?_⟩
    repeat (first | refine brT ?_ | refine brF ?_ | refine And.intro rfl ?_ | refine And.intro trivial ?_ | intro _)
    refine ⟨T.str l[i], ?_, Nat.le_refl _, fun v' => ?_⟩
    · simp [List.getElem?_append_right, mkS_len, hlt]
    · repeat (first | refine brT ?_ | refine brF ?_ | refine And.intro rfl ?_ | refine And.intro trivial ?_ | intro _)
      refine nxt (i + 1, v') hlt (by show l.length - (i + 1) < l.length - i; omega) (wk rfl ⟨rfl, congrArg AV.int (by show w64 (k + (i : Int) + 1) = k + ((i + 1 : Nat) : Int); rw [w64_id (by omega) (by omega)]; omega), up1 hlt hl', trivial⟩ ⟨?_, trivial⟩)
      have := mark_set (mkS i k) (l.map T.str) (T.str (mText (k + i))) i (mkS_len i k) (by simpa using hlt)
      rw [mkS_succ, ← this]
      rfl
  · have : i = l.length := by simp [mkS_len] at h; omega
    subst this
    repeat (first | refine brT ?_ | refine brF ?_ | refine And.intro rfl ?_ | refine And.intro trivial ?_ | intro _)
    show T.sl 1 _ = T.sl 1 _
    rw [List.drop_of_length_le (by simp), List.append_nil]
theorem s_heldStringS (n : Nat) (k : Int) (hl : n ≤ bound) (h0 : 0 ≤ k) (hk : k ≤ 4611686018427387904) : Spec Tryd.prog 29 [.ro (.sl 1 (mkS n k)), .ro (.int k)] [.int (k + n)] := by
  have hl' : n ≤ 16777216 := hl
  refine fn Tryd.func29 ?_
  refine loopI (fun i : Nat => ⟨22, [(0, .c (.ro 1 (mkS n k))), (1, .int (k + i)), (5, .int i)], []⟩) (fun i => n - i) (fun i => i ≤ n) 0 (Nat.zero_le _) (wk rfl ⟨rfl, congrArg AV.int (by simp), rfl, trivial⟩ trivial) ?_
  intro i hi
  refine brD (fun h => ?_) (fun h => ?_)
  · have hlt : i < n := by simpa [mkS_len] using h
    repeat (first | refine brT ?_ | refine brF ?_ | refine And.intro rfl ?_ | refine And.intro trivial ?_ | intro _)
    refine dr (Pl.go 0 (Pl.go 1 (Pl.go 2 (Pl.go 3 (Pl.go 4 (Pl.go 5 (Pl.go 6 Pl.stop))))))) (by kernel_rfl) ?_
    repeat' (first | (first | refine brT ?_ | refine brF ?_ | refine And.intro rfl ?_ | refine And.intro trivial ?_ | intro _) | refine ⟨_, s_markText (k + i) (by omega), ?_⟩ | refine ⟨nn i, T.str (mText (k + i)), by simp [mkS, hlt], ?_⟩ | refine And.intro ?_ ?_)
    all_goals
      refine brI (fun h1 => ?_) (fun h1 => ?_)
      · have h1 : (!((mText (k + i)).toList == (mText (k + i)).toList)) = true := h1
        simp at h1
      · exact nxt (i + 1) hlt (by show n - (i + 1) < n - i; omega) (wk rfl ⟨rfl, congrArg AV.int (by show w64 (k + (i : Int) + 1) = k + ((i + 1 : Nat) : Int); rw [w64_id (by omega) (by omega)]; omega), up1 hlt hl', trivial⟩ trivial)
  · have : i = n := by simp [mkS_len] at h; omega
    subst this
    exact ti rfl


end Go.Proofs.YtphikogfogejlaaDoor.E
