/- Contracts of functions of this seat's program. -/
import Derived.Test.YtbofjpmighijhaaETy
import Derived.Test.YtbofjpmighijhaaEPm2
namespace Go.Proofs.Ytbofjpmighijhaa.E
set_option linter.unusedVariables false
set_option linter.unusedSimpArgs false
set_option maxHeartbeats 1600000
theorem vI {l : List Int} : ∀ t ∈ l.map T.int, ∀ c ∈ t.cells, ∃ x, c = T.v x := by
  intro t ht c hc
  obtain ⟨n, _, rfl⟩ := List.mem_map.1 ht
  have : c = T.int n := by simpa [T.int, T.cells] using hc
  exact ⟨_, this⟩
theorem cI (l : List Int) : ∀ t ∈ l.map T.int, t.cells.length = 1 := by
  intro t ht
  obtain ⟨n, _, rfl⟩ := List.mem_map.1 ht
  rfl
theorem fm_succ {α β : Type} {l : List α} {f : α → List β} {i : Nat} (h : i < l.length) : (l.take (i + 1)).flatMap f = (l.take i).flatMap f ++ f l[i] := by
  rw [List.take_succ_eq_append_getElem h, List.flatMap_append]
  simp
theorem fm_len {α β : Type} {l : List α} {f : α → List β} {B : Nat} (h : ∀ x ∈ l, (f x).length ≤ B) : ∀ i, i ≤ l.length → ((l.take i).flatMap f).length ≤ i * B
  | 0, _ => by simp
  | i + 1, hi => by
    have h1 := fm_len h i (by omega)
    rw [fm_succ (by omega), List.length_append, Nat.succ_mul]
    have := h l[i] (List.getElem_mem _)
    omega
def bitI (b : Bool) : Int := if b then 1 else 0
def caseNums (x : Y_Case) : List Int := [bitI x.1, x.2.1, x.2.2.1, x.2.2.2.1, x.2.2.2.2]
def selNums (s : Y_Select) : List Int := (s.1.length : Int) :: (s.1.flatMap caseNums ++ [s.2])
def instrNums (x : Y_Instr) : List Int := [x.1, x.2.1, x.2.2.1, x.2.2.2]
def procNums (c : Y_Proc) : List Int := (c.length : Int) :: c.flatMap instrNums
def numsA (p : Y_Prog) : List Int := ((p.1.length : Int) :: p.1) ++ [p.2.1, (p.2.2.1.length : Int)]
def numsB (p : Y_Prog) (i : Nat) : List Int := numsA p ++ (p.2.2.1.take i).flatMap selNums
def numsC (p : Y_Prog) (i : Nat) : List Int := (numsA p ++ p.2.2.1.flatMap selNums ++ [(p.2.2.2.length : Int)]) ++ (p.2.2.2.take i).flatMap procNums
def progNums (p : Y_Prog) : List Int := if progOk p then numsC p p.2.2.2.length else []
structure Small (p : Y_Prog) : Prop where
  caps : p.1.length ≤ 6
  sels : p.2.2.1.length ≤ 6
  procs : p.2.2.2.length ≤ 6
  cases : ∀ s ∈ p.2.2.1, s.1.length ≤ 4
  code : ∀ c ∈ p.2.2.2, c.length ≤ 40
theorem small_of {p : Y_Prog} (h : progOk p = true) : Small p := by
  simp only [progOk, headOk, Bool.and_eq_true, decide_eq_true_eq] at h
  obtain ⟨⟨⟨⟨⟨⟨⟨⟨h1, _⟩, _⟩, h2⟩, _⟩, h3⟩, _⟩, h4⟩, h5⟩ := h
  refine ⟨h1, h2, h3, fun s hs => ?_, fun c hc => ?_⟩
  · have := List.all_eq_true.1 h4 s hs
    simp only [selGood, Bool.and_eq_true, decide_eq_true_eq] at this
    exact this.1.1
  · have := List.all_eq_true.1 h5 c hc
    simp only [procOk, Bool.and_eq_true, decide_eq_true_eq] at this
    exact this.1.1.2
theorem selNums_len {s : Y_Select} (h : s.1.length ≤ 4) : (selNums s).length ≤ 22 := by
  have := fm_len (l := s.1) (f := caseNums) (B := 5) (fun x _ => Nat.le_refl _) s.1.length (Nat.le_refl _)
  rw [List.take_length] at this
  simp only [selNums, List.length_cons, List.length_append, List.length_singleton]
  have : s.1.length * 5 ≤ 4 * 5 := Nat.mul_le_mul_right _ h
  simp only [List.length_nil]
  omega
theorem procNums_len {c : Y_Proc} (h : c.length ≤ 40) : (procNums c).length ≤ 161 := by
  have := fm_len (l := c) (f := instrNums) (B := 4) (fun x _ => Nat.le_refl _) c.length (Nat.le_refl _)
  rw [List.take_length] at this
  simp only [procNums, List.length_cons]
  have : c.length * 4 ≤ 40 * 4 := Nat.mul_le_mul_right _ h
  omega
theorem numsB_len {p : Y_Prog} (h : Small p) {i : Nat} (hi : i ≤ p.2.2.1.length) : (numsB p i).length ≤ 150 := by
  have h1 := fm_len (l := p.2.2.1) (f := selNums) (B := 22) (fun s hs => selNums_len (h.cases s hs)) i hi
  have h2 := h.caps
  have h3 := h.sels
  have : i * 22 ≤ 6 * 22 := Nat.mul_le_mul_right _ (by omega)
  simp only [numsB, numsA, List.length_append, List.length_cons, List.length_nil]
  omega
theorem numsB_end (p : Y_Prog) : numsB p p.2.2.1.length = numsA p ++ p.2.2.1.flatMap selNums := by simp [numsB]
theorem numsC_len {p : Y_Prog} (h : Small p) {i : Nat} (hi : i ≤ p.2.2.2.length) : (numsC p i).length ≤ 1200 := by
  have h1 := fm_len (l := p.2.2.2) (f := procNums) (B := 161) (fun s hs => procNums_len (h.code s hs)) i hi
  have h2 := numsB_len h (Nat.le_refl _)
  rw [numsB_end] at h2
  have h3 := h.procs
  have : i * 161 ≤ 6 * 161 := Nat.mul_le_mul_right _ (by omega)
  simp only [numsC, List.length_append, List.length_cons, List.length_nil] at h2 ⊢
  omega
theorem progNums_len {p : Y_Prog} : (progNums p).length ≤ 1200 := by
  unfold progNums
  split
  · rename_i h; exact numsC_len (small_of h) (Nat.le_refl _)
  · simp
theorem numsB_succ {p : Y_Prog} {i : Nat} (h : i < p.2.2.1.length) : numsB p (i + 1) = numsB p i ++ [(p.2.2.1[i].1.length : Int)] ++ p.2.2.1[i].1.flatMap caseNums ++ [p.2.2.1[i].2] := by
  simp only [numsB, fm_succ h, selNums]
  simp
theorem numsC_succ {p : Y_Prog} {i : Nat} (h : i < p.2.2.2.length) : numsC p (i + 1) = numsC p i ++ [(p.2.2.2[i].length : Int)] ++ p.2.2.2[i].flatMap instrNums := by
  simp only [numsC, fm_succ h, procNums]
  simp
theorem s_bit (b : Bool) : Spec Try.prog 50 [.ro (T.bool b)] [T.int (bitI b)] := by
  refine fn Try.func50 ?_
  cases b
  all_goals
    repeat (first | refine brT ?_ | refine brF ?_ | refine And.intro rfl ?_ | refine And.intro trivial ?_ | intro _)
    exact rfl
theorem i_bit (b : Bool) : Spec Try.prog 51 [.ro (T.bool b)] [T.int (bitI b)] := by
  refine fn Try.func51 ?_
  cases b
  all_goals
    repeat (first | refine brT ?_ | refine brF ?_ | refine And.intro rfl ?_ | refine And.intro trivial ?_ | intro _)
    exact rfl
theorem s_ProgNums (p : Y_Prog) (hp : ok_Prog p) : Spec Try.prog 17 [.ro (t_Prog p)] [.sl 1 ((progNums p).map T.int)] := by
  refine fn Try.func17 ?_
  intro q1
  repeat (first | refine brT ?_ | refine brF ?_ | refine And.intro rfl ?_ | refine And.intro trivial ?_ | intro _)
  refine ⟨_, s_ProgOk p hp, ?_⟩
  repeat (first | refine brT ?_ | refine brF ?_ | refine And.intro rfl ?_ | refine And.intro trivial ?_ | intro _)
  refine brI (fun h => ?_) (fun h => ?_)
  · repeat (first | refine brT ?_ | refine brF ?_ | refine And.intro rfl ?_ | refine And.intro trivial ?_ | intro _)
    have h : progOk p = false := by simpa using h
    refine ⟨1, ?_⟩
    simp only [progNums, h]
    exact rfl
  have hpo : progOk p = true := by simpa using h
  clear h
  have hs := small_of hpo
  have k1 := hs.caps
  have k2 := hs.sels
  have k3 := hs.procs
  repeat (first | refine brT ?_ | refine brF ?_ | refine And.intro rfl ?_ | refine And.intro trivial ?_ | intro _)
  refine ⟨cI [_], fun q0 => ?_⟩
  repeat (first | refine brT ?_ | refine brF ?_ | refine And.intro rfl ?_ | refine And.intro trivial ?_ | intro _)
  refine ⟨vI, by simp; unfold bound; omega, fun q2 => ?_⟩
  repeat (first | refine brT ?_ | refine brF ?_ | refine And.intro rfl ?_ | refine And.intro trivial ?_ | intro _)
  refine ⟨cI [_, _], fun q0 => ?_⟩
  repeat (first | refine brT ?_ | refine brF ?_ | refine And.intro rfl ?_ | refine And.intro trivial ?_ | intro _)
  refine ⟨by simp; unfold bound; omega, fun q3 => ?_⟩
  repeat (first | refine brT ?_ | refine brF ?_ | refine And.intro rfl ?_ | refine And.intro trivial ?_ | intro _)
  refine loopI (fun x : Nat × Nat => ⟨111, [(1, .c (.bx 2000 q1 0)), (3, .c (.own 19000 x.2)), (31, .c (.ro 2 (p.2.2.1.map t_Select))), (32, .int p.2.2.1.length), (33, .int x.1)], [(2000, .box q1 (t_Prog p).a2.cells), (19000, .row x.2 0 1 ((numsB p x.1).map T.int))]⟩) (fun x => p.2.2.1.length - x.1) (fun x => x.1 ≤ p.2.2.1.length) (0, q3) (Nat.zero_le _) (wk rfl ⟨rfl, rfl, rfl, lenm, rfl, trivial⟩ ⟨rfl, gr rfl (by simp [numsB, numsA, T.int]), trivial⟩) ?_
  rintro ⟨i, q⟩ hi
  simp only at hi
  refine brD (fun h => ?_) (fun h => ?_)
  · have h : i < p.2.2.1.length := by simpa using h
    have hl := numsB_len hs hi
    have hsuc := numsB_succ h
    have hc4 := hs.cases _ (List.getElem_mem h)
    refine ⟨nn i, t_Select p.2.2.1[i], atm h, ?_⟩
    intro q6
    generalize p.2.2.1[i] = s at hsuc hc4
    repeat (first | refine brT ?_ | refine brF ?_ | refine And.intro rfl ?_ | refine And.intro trivial ?_ | intro _)
    refine ⟨cI [_], fun q0 => ?_⟩
    repeat (first | refine brT ?_ | refine brF ?_ | refine And.intro rfl ?_ | refine And.intro trivial ?_ | intro _)
    refine ⟨by simp; unfold bound; omega, fun q7 => ?_⟩
    repeat (first | refine brT ?_ | refine brF ?_ | refine And.intro rfl ?_ | refine And.intro trivial ?_ | intro _)
    refine loopI (fun x : Nat × Nat => ⟨111, [(1, .c (.bx 2000 q1 0)), (3, .c (.own 19000 x.2)), (5, .c (.bx 6000 q6 0)), (31, .c (.ro 2 (p.2.2.1.map t_Select))), (32, .int p.2.2.1.length), (33, .int i), (44, .c (.ro 5 (s.1.map t_Case))), (45, .int s.1.length), (46, .int x.1)], [(2000, .box q1 (t_Prog p).a2.cells), (6000, .box q6 (t_Select s).a2.cells), (19000, .row x.2 0 1 ((numsB p i ++ [(s.1.length : Int)] ++ (s.1.take x.1).flatMap caseNums).map T.int))]⟩) (fun x => s.1.length - x.1) (fun x => x.1 ≤ s.1.length) (0, q7) (Nat.zero_le _) (wk rfl ⟨rfl, rfl, rfl, rfl, rfl, rfl, rfl, lenm, rfl, trivial⟩ ⟨rfl, rfl, gr rfl (by simp [T.int]), trivial⟩) ?_
    rintro ⟨j, q8⟩ hj
    simp only at hj
    refine brD (fun h3 => ?_) (fun h3 => ?_)
    · have h3 : j < s.1.length := by simpa using h3
      have hfl := fm_len (l := s.1) (f := caseNums) (B := 5) (fun x _ => Nat.le_refl _) j hj
      have hfs := fm_succ (f := caseNums) h3
      refine ⟨nn j, t_Case s.1[j], atm h3, ?_⟩
      intro q9
      repeat (first | refine brT ?_ | refine brF ?_ | refine And.intro rfl ?_ | refine And.intro trivial ?_ | intro _)
      generalize s.1[j] = x at hfs
      refine dr (Pl.go 0 (Pl.go 1 (Pl.go 2 (Pl.go 4 (Pl.go 5 (Pl.go 6 (Pl.go 7 (Pl.go 8 (Pl.go 9 (Pl.go 10 (Pl.go 11 (Pl.go 3 (Pl.go 12 (Pl.go 13 (Pl.go 14 Pl.stop))))))))))))))) (by kernel_rfl) ?_
      repeat (first | refine brT ?_ | refine brF ?_ | refine And.intro rfl ?_ | refine And.intro trivial ?_ | intro _)
      refine ⟨_, s_bit x.1, ?_⟩
      repeat (first | refine brT ?_ | refine brF ?_ | refine And.intro rfl ?_ | refine And.intro trivial ?_ | intro _)
      refine ⟨cI (caseNums x), fun q0 => ?_⟩
      repeat (first | refine brT ?_ | refine brF ?_ | refine And.intro rfl ?_ | refine And.intro trivial ?_ | intro _)
      refine ⟨by simp [caseNums] at hfl ⊢; unfold bound; omega, fun q10 => ?_⟩
      repeat (first | refine brT ?_ | refine brF ?_ | refine And.intro rfl ?_ | refine And.intro trivial ?_ | intro _)
      exact nxt (j + 1, q10) h3 (by show _ < _; simp only; omega) (wk rfl ⟨rfl, rfl, rfl, rfl, rfl, rfl, rfl, rfl, up1 h3 (by omega), trivial⟩ ⟨rfl, rfl, gr rfl (by rw [hfs]; simp [caseNums, T.int]), trivial⟩)
    · have : j = s.1.length := by simp at h3; omega
      subst this
      have hfl := fm_len (l := s.1) (f := caseNums) (B := 5) (fun x _ => Nat.le_refl _) s.1.length (Nat.le_refl _)
      repeat (first | refine brT ?_ | refine brF ?_ | refine And.intro rfl ?_ | refine And.intro trivial ?_ | intro _)
      refine ⟨cI [_], fun q0 => ?_⟩
      repeat (first | refine brT ?_ | refine brF ?_ | refine And.intro rfl ?_ | refine And.intro trivial ?_ | intro _)
      refine ⟨by simp at hfl ⊢; unfold bound; omega, fun q11 => ?_⟩
      repeat (first | refine brT ?_ | refine brF ?_ | refine And.intro rfl ?_ | refine And.intro trivial ?_ | intro _)
      exact nxt (i + 1, q11) h (by show _ < _; simp only; omega) (wk rfl ⟨rfl, rfl, rfl, rfl, up1 h (by omega), trivial⟩ ⟨rfl, gr rfl (by rw [hsuc]; simp [T.int]), trivial⟩)
  have : i = p.2.2.1.length := by simp at h; omega
  subst this
  have hl := numsB_len hs hi
  have hend := numsB_end p
  clear h
  repeat (first | refine brT ?_ | refine brF ?_ | refine And.intro rfl ?_ | refine And.intro trivial ?_ | intro _)
  refine ⟨cI [_], fun q0 => ?_⟩
  repeat (first | refine brT ?_ | refine brF ?_ | refine And.intro rfl ?_ | refine And.intro trivial ?_ | intro _)
  refine ⟨by simp; unfold bound; omega, fun q12 => ?_⟩
  repeat (first | refine brT ?_ | refine brF ?_ | refine And.intro rfl ?_ | refine And.intro trivial ?_ | intro _)
  refine loopI (fun x : Nat × Nat => ⟨111, [(1, .c (.bx 2000 q1 0)), (3, .c (.own 19000 x.2)), (78, .c (.ro 1 (p.2.2.2.map t_Proc))), (79, .int p.2.2.2.length), (80, .int x.1)], [(2000, .box q1 (t_Prog p).a2.cells), (19000, .row x.2 0 1 ((numsC p x.1).map T.int))]⟩) (fun x => p.2.2.2.length - x.1) (fun x => x.1 ≤ p.2.2.2.length) (0, q12) (Nat.zero_le _) (wk rfl ⟨rfl, rfl, rfl, lenm, rfl, trivial⟩ ⟨rfl, gr rfl (by rw [hend]; simp [numsC, T.int]), trivial⟩) ?_
  rintro ⟨i, q⟩ hi
  simp only at hi
  refine brD (fun h => ?_) (fun h => ?_)
  · have h : i < p.2.2.2.length := by simpa using h
    have hl := numsC_len hs hi
    have hsuc := numsC_succ h
    have hc4 := hs.code _ (List.getElem_mem h)
    refine ⟨nn i, t_Proc p.2.2.2[i], atm h, ?_⟩
    intro q6
    generalize p.2.2.2[i] = s at hsuc hc4
    repeat (first | refine brT ?_ | refine brF ?_ | refine And.intro rfl ?_ | refine And.intro trivial ?_ | intro _)
    refine ⟨cI [_], fun q0 => ?_⟩
    repeat (first | refine brT ?_ | refine brF ?_ | refine And.intro rfl ?_ | refine And.intro trivial ?_ | intro _)
    refine ⟨by simp; unfold bound; omega, fun q7 => ?_⟩
    repeat (first | refine brT ?_ | refine brF ?_ | refine And.intro rfl ?_ | refine And.intro trivial ?_ | intro _)
    refine loopI (fun x : Nat × Nat => ⟨111, [(1, .c (.bx 2000 q1 0)), (3, .c (.own 19000 x.2)), (9, .c (.bx 10000 q6 0)), (78, .c (.ro 1 (p.2.2.2.map t_Proc))), (79, .int p.2.2.2.length), (80, .int i), (91, .c (.ro 4 (s.map t_Instr))), (92, .int s.length), (93, .int x.1)], [(2000, .box q1 (t_Prog p).a2.cells), (10000, .box q6 (t_Proc s).a2.cells), (19000, .row x.2 0 1 ((numsC p i ++ [(s.length : Int)] ++ (s.take x.1).flatMap instrNums).map T.int))]⟩) (fun x => s.length - x.1) (fun x => x.1 ≤ s.length) (0, q7) (Nat.zero_le _) (wk rfl ⟨rfl, rfl, rfl, rfl, rfl, rfl, rfl, lenm, rfl, trivial⟩ ⟨rfl, rfl, gr rfl (by simp [T.int]), trivial⟩) ?_
    rintro ⟨j, q8⟩ hj
    simp only at hj
    refine brD (fun h3 => ?_) (fun h3 => ?_)
    · have h3 : j < s.length := by simpa using h3
      have hfl := fm_len (l := s) (f := instrNums) (B := 4) (fun x _ => Nat.le_refl _) j hj
      have hfs := fm_succ (f := instrNums) h3
      refine ⟨nn j, t_Instr s[j], atm h3, ?_⟩
      intro q9
      repeat (first | refine brT ?_ | refine brF ?_ | refine And.intro rfl ?_ | refine And.intro trivial ?_ | intro _)
      generalize s[j] = x at hfs
      refine ⟨cI (instrNums x), fun q0 => ?_⟩
      repeat (first | refine brT ?_ | refine brF ?_ | refine And.intro rfl ?_ | refine And.intro trivial ?_ | intro _)
      refine ⟨by simp [instrNums] at hfl ⊢; unfold bound; omega, fun q10 => ?_⟩
      repeat (first | refine brT ?_ | refine brF ?_ | refine And.intro rfl ?_ | refine And.intro trivial ?_ | intro _)
      exact nxt (j + 1, q10) h3 (by show _ < _; simp only; omega) (wk rfl ⟨rfl, rfl, rfl, rfl, rfl, rfl, rfl, rfl, up1 h3 (by omega), trivial⟩ ⟨rfl, rfl, gr rfl (by rw [hfs]; simp [instrNums, T.int]), trivial⟩)
    · have : j = s.length := by simp at h3; omega
      subst this
      repeat (first | refine brT ?_ | refine brF ?_ | refine And.intro rfl ?_ | refine And.intro trivial ?_ | intro _)
      exact nxt (i + 1, q8) h (by show _ < _; simp only; omega) (wk rfl ⟨rfl, rfl, rfl, rfl, up1 h (by omega), trivial⟩ ⟨rfl, gr rfl (by rw [hsuc]; simp [T.int]), trivial⟩)
  have : i = p.2.2.2.length := by simp at h; omega
  subst this
  repeat (first | refine brT ?_ | refine brF ?_ | refine And.intro rfl ?_ | refine And.intro trivial ?_ | intro _)
  have e : progNums p = numsC p p.2.2.2.length := by simp [progNums, hpo]
  rw [e]
theorem i_ProgNums (p : Y_Prog) (hp : ok_Prog p) : Spec Try.prog 18 [.ro (t_Prog p)] [.sl 1 ((progNums p).map T.int)] := by
  refine fn Try.func18 ?_
  intro q1
  repeat (first | refine brT ?_ | refine brF ?_ | refine And.intro rfl ?_ | refine And.intro trivial ?_ | intro _)
  refine ⟨_, i_ProgOk p hp, ?_⟩
  repeat (first | refine brT ?_ | refine brF ?_ | refine And.intro rfl ?_ | refine And.intro trivial ?_ | intro _)
  refine brI (fun h => ?_) (fun h => ?_)
  · repeat (first | refine brT ?_ | refine brF ?_ | refine And.intro rfl ?_ | refine And.intro trivial ?_ | intro _)
    have h : progOk p = false := by simpa using h
    refine ⟨1, ?_⟩
    simp only [progNums, h]
    exact rfl
  have hpo : progOk p = true := by simpa using h
  clear h
  have hs := small_of hpo
  have k1 := hs.caps
  have k2 := hs.sels
  have k3 := hs.procs
  repeat (first | refine brT ?_ | refine brF ?_ | refine And.intro rfl ?_ | refine And.intro trivial ?_ | intro _)
  refine ⟨cI [_], fun q0 => ?_⟩
  repeat (first | refine brT ?_ | refine brF ?_ | refine And.intro rfl ?_ | refine And.intro trivial ?_ | intro _)
  refine ⟨vI, by simp; unfold bound; omega, fun q2 => ?_⟩
  repeat (first | refine brT ?_ | refine brF ?_ | refine And.intro rfl ?_ | refine And.intro trivial ?_ | intro _)
  refine ⟨cI [_, _], fun q0 => ?_⟩
  repeat (first | refine brT ?_ | refine brF ?_ | refine And.intro rfl ?_ | refine And.intro trivial ?_ | intro _)
  refine ⟨by simp; unfold bound; omega, fun q3 => ?_⟩
  repeat (first | refine brT ?_ | refine brF ?_ | refine And.intro rfl ?_ | refine And.intro trivial ?_ | intro _)
  refine loopI (fun x : Nat × Nat => ⟨111, [(1, .c (.bx 2000 q1 0)), (3, .c (.own 19000 x.2)), (31, .c (.ro 2 (p.2.2.1.map t_Select))), (32, .int p.2.2.1.length), (33, .int x.1)], [(2000, .box q1 (t_Prog p).a2.cells), (19000, .row x.2 0 1 ((numsB p x.1).map T.int))]⟩) (fun x => p.2.2.1.length - x.1) (fun x => x.1 ≤ p.2.2.1.length) (0, q3) (Nat.zero_le _) (wk rfl ⟨rfl, rfl, rfl, lenm, rfl, trivial⟩ ⟨rfl, gr rfl (by simp [numsB, numsA, T.int]), trivial⟩) ?_
  rintro ⟨i, q⟩ hi
  simp only at hi
  refine brD (fun h => ?_) (fun h => ?_)
  · have h : i < p.2.2.1.length := by simpa using h
    have hl := numsB_len hs hi
    have hsuc := numsB_succ h
    have hc4 := hs.cases _ (List.getElem_mem h)
    refine ⟨nn i, t_Select p.2.2.1[i], atm h, ?_⟩
    intro q6
    generalize p.2.2.1[i] = s at hsuc hc4
    repeat (first | refine brT ?_ | refine brF ?_ | refine And.intro rfl ?_ | refine And.intro trivial ?_ | intro _)
    refine ⟨cI [_], fun q0 => ?_⟩
    repeat (first | refine brT ?_ | refine brF ?_ | refine And.intro rfl ?_ | refine And.intro trivial ?_ | intro _)
    refine ⟨by simp; unfold bound; omega, fun q7 => ?_⟩
    repeat (first | refine brT ?_ | refine brF ?_ | refine And.intro rfl ?_ | refine And.intro trivial ?_ | intro _)
    refine loopI (fun x : Nat × Nat => ⟨111, [(1, .c (.bx 2000 q1 0)), (3, .c (.own 19000 x.2)), (5, .c (.bx 6000 q6 0)), (31, .c (.ro 2 (p.2.2.1.map t_Select))), (32, .int p.2.2.1.length), (33, .int i), (44, .c (.ro 5 (s.1.map t_Case))), (45, .int s.1.length), (46, .int x.1)], [(2000, .box q1 (t_Prog p).a2.cells), (6000, .box q6 (t_Select s).a2.cells), (19000, .row x.2 0 1 ((numsB p i ++ [(s.1.length : Int)] ++ (s.1.take x.1).flatMap caseNums).map T.int))]⟩) (fun x => s.1.length - x.1) (fun x => x.1 ≤ s.1.length) (0, q7) (Nat.zero_le _) (wk rfl ⟨rfl, rfl, rfl, rfl, rfl, rfl, rfl, lenm, rfl, trivial⟩ ⟨rfl, rfl, gr rfl (by simp [T.int]), trivial⟩) ?_
    rintro ⟨j, q8⟩ hj
    simp only at hj
    refine brD (fun h3 => ?_) (fun h3 => ?_)
    · have h3 : j < s.1.length := by simpa using h3
      have hfl := fm_len (l := s.1) (f := caseNums) (B := 5) (fun x _ => Nat.le_refl _) j hj
      have hfs := fm_succ (f := caseNums) h3
      refine ⟨nn j, t_Case s.1[j], atm h3, ?_⟩
      intro q9
      repeat (first | refine brT ?_ | refine brF ?_ | refine And.intro rfl ?_ | refine And.intro trivial ?_ | intro _)
      generalize s.1[j] = x at hfs
      refine dr (Pl.go 0 (Pl.go 1 (Pl.go 2 (Pl.go 4 (Pl.go 5 (Pl.go 6 (Pl.go 7 (Pl.go 8 (Pl.go 9 (Pl.go 10 (Pl.go 11 (Pl.go 3 (Pl.go 12 (Pl.go 13 (Pl.go 14 Pl.stop))))))))))))))) (by kernel_rfl) ?_
      repeat (first | refine brT ?_ | refine brF ?_ | refine And.intro rfl ?_ | refine And.intro trivial ?_ | intro _)
      refine ⟨_, i_bit x.1, ?_⟩
      repeat (first | refine brT ?_ | refine brF ?_ | refine And.intro rfl ?_ | refine And.intro trivial ?_ | intro _)
      refine ⟨cI (caseNums x), fun q0 => ?_⟩
      repeat (first | refine brT ?_ | refine brF ?_ | refine And.intro rfl ?_ | refine And.intro trivial ?_ | intro _)
      refine ⟨by simp [caseNums] at hfl ⊢; unfold bound; omega, fun q10 => ?_⟩
      repeat (first | refine brT ?_ | refine brF ?_ | refine And.intro rfl ?_ | refine And.intro trivial ?_ | intro _)
      exact nxt (j + 1, q10) h3 (by show _ < _; simp only; omega) (wk rfl ⟨rfl, rfl, rfl, rfl, rfl, rfl, rfl, rfl, up1 h3 (by omega), trivial⟩ ⟨rfl, rfl, gr rfl (by rw [hfs]; simp [caseNums, T.int]), trivial⟩)
    · have : j = s.1.length := by simp at h3; omega
      subst this
      have hfl := fm_len (l := s.1) (f := caseNums) (B := 5) (fun x _ => Nat.le_refl _) s.1.length (Nat.le_refl _)
      repeat (first | refine brT ?_ | refine brF ?_ | refine And.intro rfl ?_ | refine And.intro trivial ?_ | intro _)
      refine ⟨cI [_], fun q0 => ?_⟩
      repeat (first | refine brT ?_ | refine brF ?_ | refine And.intro rfl ?_ | refine And.intro trivial ?_ | intro _)
      refine ⟨by simp at hfl ⊢; unfold bound; omega, fun q11 => ?_⟩
      repeat (first | refine brT ?_ | refine brF ?_ | refine And.intro rfl ?_ | refine And.intro trivial ?_ | intro _)
      exact nxt (i + 1, q11) h (by show _ < _; simp only; omega) (wk rfl ⟨rfl, rfl, rfl, rfl, up1 h (by omega), trivial⟩ ⟨rfl, gr rfl (by rw [hsuc]; simp [T.int]), trivial⟩)
  have : i = p.2.2.1.length := by simp at h; omega
  subst this
  have hl := numsB_len hs hi
  have hend := numsB_end p
  clear h
  repeat (first | refine brT ?_ | refine brF ?_ | refine And.intro rfl ?_ | refine And.intro trivial ?_ | intro _)
  refine ⟨cI [_], fun q0 => ?_⟩
  repeat (first | refine brT ?_ | refine brF ?_ | refine And.intro rfl ?_ | refine And.intro trivial ?_ | intro _)
  refine ⟨by simp; unfold bound; omega, fun q12 => ?_⟩
  repeat (first | refine brT ?_ | refine brF ?_ | refine And.intro rfl ?_ | refine And.intro trivial ?_ | intro _)
  refine loopI (fun x : Nat × Nat => ⟨111, [(1, .c (.bx 2000 q1 0)), (3, .c (.own 19000 x.2)), (78, .c (.ro 1 (p.2.2.2.map t_Proc))), (79, .int p.2.2.2.length), (80, .int x.1)], [(2000, .box q1 (t_Prog p).a2.cells), (19000, .row x.2 0 1 ((numsC p x.1).map T.int))]⟩) (fun x => p.2.2.2.length - x.1) (fun x => x.1 ≤ p.2.2.2.length) (0, q12) (Nat.zero_le _) (wk rfl ⟨rfl, rfl, rfl, lenm, rfl, trivial⟩ ⟨rfl, gr rfl (by rw [hend]; simp [numsC, T.int]), trivial⟩) ?_
  rintro ⟨i, q⟩ hi
  simp only at hi
  refine brD (fun h => ?_) (fun h => ?_)
  · have h : i < p.2.2.2.length := by simpa using h
    have hl := numsC_len hs hi
    have hsuc := numsC_succ h
    have hc4 := hs.code _ (List.getElem_mem h)
    refine ⟨nn i, t_Proc p.2.2.2[i], atm h, ?_⟩
    intro q6
    generalize p.2.2.2[i] = s at hsuc hc4
    repeat (first | refine brT ?_ | refine brF ?_ | refine And.intro rfl ?_ | refine And.intro trivial ?_ | intro _)
    refine ⟨cI [_], fun q0 => ?_⟩
    repeat (first | refine brT ?_ | refine brF ?_ | refine And.intro rfl ?_ | refine And.intro trivial ?_ | intro _)
    refine ⟨by simp; unfold bound; omega, fun q7 => ?_⟩
    repeat (first | refine brT ?_ | refine brF ?_ | refine And.intro rfl ?_ | refine And.intro trivial ?_ | intro _)
    refine loopI (fun x : Nat × Nat => ⟨111, [(1, .c (.bx 2000 q1 0)), (3, .c (.own 19000 x.2)), (9, .c (.bx 10000 q6 0)), (78, .c (.ro 1 (p.2.2.2.map t_Proc))), (79, .int p.2.2.2.length), (80, .int i), (91, .c (.ro 4 (s.map t_Instr))), (92, .int s.length), (93, .int x.1)], [(2000, .box q1 (t_Prog p).a2.cells), (10000, .box q6 (t_Proc s).a2.cells), (19000, .row x.2 0 1 ((numsC p i ++ [(s.length : Int)] ++ (s.take x.1).flatMap instrNums).map T.int))]⟩) (fun x => s.length - x.1) (fun x => x.1 ≤ s.length) (0, q7) (Nat.zero_le _) (wk rfl ⟨rfl, rfl, rfl, rfl, rfl, rfl, rfl, lenm, rfl, trivial⟩ ⟨rfl, rfl, gr rfl (by simp [T.int]), trivial⟩) ?_
    rintro ⟨j, q8⟩ hj
    simp only at hj
    refine brD (fun h3 => ?_) (fun h3 => ?_)
    · have h3 : j < s.length := by simpa using h3
      have hfl := fm_len (l := s) (f := instrNums) (B := 4) (fun x _ => Nat.le_refl _) j hj
      have hfs := fm_succ (f := instrNums) h3
      refine ⟨nn j, t_Instr s[j], atm h3, ?_⟩
      intro q9
      repeat (first | refine brT ?_ | refine brF ?_ | refine And.intro rfl ?_ | refine And.intro trivial ?_ | intro _)
      generalize s[j] = x at hfs
      refine ⟨cI (instrNums x), fun q0 => ?_⟩
      repeat (first | refine brT ?_ | refine brF ?_ | refine And.intro rfl ?_ | refine And.intro trivial ?_ | intro _)
      refine ⟨by simp [instrNums] at hfl ⊢; unfold bound; omega, fun q10 => ?_⟩
      repeat (first | refine brT ?_ | refine brF ?_ | refine And.intro rfl ?_ | refine And.intro trivial ?_ | intro _)
      exact nxt (j + 1, q10) h3 (by show _ < _; simp only; omega) (wk rfl ⟨rfl, rfl, rfl, rfl, rfl, rfl, rfl, rfl, up1 h3 (by omega), trivial⟩ ⟨rfl, rfl, gr rfl (by rw [hfs]; simp [instrNums, T.int]), trivial⟩)
    · have : j = s.length := by simp at h3; omega
      subst this
      repeat (first | refine brT ?_ | refine brF ?_ | refine And.intro rfl ?_ | refine And.intro trivial ?_ | intro _)
      exact nxt (i + 1, q8) h (by show _ < _; simp only; omega) (wk rfl ⟨rfl, rfl, rfl, rfl, up1 h (by omega), trivial⟩ ⟨rfl, gr rfl (by rw [hsuc]; simp [T.int]), trivial⟩)
  have : i = p.2.2.2.length := by simp at h; omega
  subst this
  repeat (first | refine brT ?_ | refine brF ?_ | refine And.intro rfl ?_ | refine And.intro trivial ?_ | intro _)
  have e : progNums p = numsC p p.2.2.2.length := by simp [progNums, hpo]
  rw [e]


end Go.Proofs.Ytbofjpmighijhaa.E
