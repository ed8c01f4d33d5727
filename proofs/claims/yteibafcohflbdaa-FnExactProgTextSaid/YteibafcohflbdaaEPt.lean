/- Contracts of functions of this seat's program. -/
import Derived.Test.YteibafcohflbdaaETy
import Derived.Test.YteibafcohflbdaaESl
import Derived.Test.YteibafcohflbdaaEPm2
namespace Go.Proofs.Yteibafcohflbdaa.E
set_option linter.unusedVariables false
set_option linter.unusedSimpArgs false
set_option maxHeartbeats 1600000
structure Small (p : Y_Prog) : Prop where
  caps : p.1.length ≤ 6
  sels : p.2.2.1.length ≤ 6
  procs : p.2.2.2.length ≤ 6
  cases : ∀ s ∈ p.2.2.1, s.1.length ≤ 4
  code : ∀ c ∈ p.2.2.2, c.length ≤ 40
theorem small_of {p : Y_Prog} (h : progOk p = true) : Small p := by
  simp only [progOk, headOk, Bool.and_eq_true, decide_eq_true_eq] at h
  obtain ⟨⟨⟨⟨⟨⟨⟨⟨h1, _⟩, _⟩, h2⟩, _⟩, h3⟩, _⟩, h4⟩, h5⟩ := h
  refine ⟨h1, h2, h3, fun s hs => ?_, fun c hc => ?_⟩
  · have := List.all_eq_true.1 h4 s hs
    simp only [selGood, Bool.and_eq_true, decide_eq_true_eq] at this
    exact this.1.1
  · have := List.all_eq_true.1 h5 c hc
    simp only [procOk, Bool.and_eq_true, decide_eq_true_eq] at this
    exact this.1.1.2

abbrev nl : ByteArray := ⟨#[10]⟩
abbrev chansW : ByteArray := ⟨#[99, 104, 97, 110, 115]⟩
abbrev mutexesW : ByteArray := ⟨#[109, 117, 116, 101, 120, 101, 115]⟩
abbrev procW : ByteArray := ⟨#[112, 114, 111, 99, 10]⟩
theorem app_assoc (a b c : ByteArray) : a ++ b ++ c = a ++ (b ++ c) := ba_ext (by simp [ByteArray.data_append])
def numsT (s : ByteArray) (l : List Int) : ByteArray := l.foldl (fun s n => s ++ sp ++ numText n) s
def headT (p : Y_Prog) : ByteArray := numsT chansW p.1 ++ nl ++ (mutexesW ++ sp ++ numText p.2.1 ++ nl)
def selsT (p : Y_Prog) (j : Nat) : ByteArray := (p.2.2.1.take j).foldl (fun s x => s ++ selText x ++ nl) (headT p)
def codeT (s : ByteArray) (c : Y_Proc) (j : Nat) : ByteArray := (c.take j).foldl (fun s x => s ++ instrText x ++ nl) (s ++ procW)
def procsT (p : Y_Prog) (j : Nat) : ByteArray := (p.2.2.2.take j).foldl (fun s c => codeT s c c.length) (selsT p p.2.2.1.length)
def progText (p : Y_Prog) : ByteArray := if progOk p = true then procsT p p.2.2.2.length else ⟨#[]⟩
theorem numsT_succ {s : ByteArray} {l : List Int} {i : Nat} (h : i < l.length) : numsT s (l.take (i + 1)) = numsT s (l.take i) ++ sp ++ numText l[i] := by
  unfold numsT
  rw [List.take_succ_eq_append_getElem h, List.foldl_append]; rfl
theorem numsT_size {s : ByteArray} {l : List Int} : ∀ i : Nat, i ≤ l.length → (numsT s (l.take i)).size ≤ s.size + 11 * i
  | 0, _ => by simp [numsT]
  | i + 1, h => by
    have := numsT_size (s := s) (l := l) i (by omega)
    have h2 := (numText_size l[i]).1
    rw [numsT_succ (by omega), size_app, size_app]
    have : sp.size = 1 := rfl
    omega
theorem selsT_succ {p : Y_Prog} {j : Nat} (h : j < p.2.2.1.length) : selsT p (j + 1) = selsT p j ++ selText p.2.2.1[j] ++ nl := by
  unfold selsT
  rw [List.take_succ_eq_append_getElem h, List.foldl_append]; rfl
theorem codeT_succ {s : ByteArray} {c : Y_Proc} {j : Nat} (h : j < c.length) : codeT s c (j + 1) = codeT s c j ++ instrText c[j] ++ nl := by
  unfold codeT
  rw [List.take_succ_eq_append_getElem h, List.foldl_append]; rfl
theorem procsT_succ {p : Y_Prog} {j : Nat} (h : j < p.2.2.2.length) : procsT p (j + 1) = codeT (procsT p j) p.2.2.2[j] p.2.2.2[j].length := by
  unfold procsT
  rw [List.take_succ_eq_append_getElem h, List.foldl_append]; rfl
theorem instrText_size (i : Y_Instr) : (instrText i).size ≤ 50 := by
  unfold instrText
  split
  · exact Nat.zero_le _
  rename_i h
  split
  · have h1 := op_in (fun e => h (.inl e))
    have := joinW_size ⟨h1.1, h1.2.1⟩ (fieldsOf i.1).toNat
    omega
  · exact Nat.zero_le _
theorem selText_size {s : Y_Select} (h : s.1.length ≤ 4) : (selText s).size ≤ 300 := by
  unfold selText joined
  split
  · exact Nat.zero_le _
  · have := joinS_size s s.1.length (Nat.le_refl _)
    omega
theorem codeT_size {s : ByteArray} {c : Y_Proc} : ∀ j : Nat, j ≤ c.length → (codeT s c j).size ≤ s.size + 5 + 51 * j
  | 0, _ => by unfold codeT; rw [List.take_zero]; show (s ++ procW).size ≤ _; rw [size_app]; exact Nat.le_refl _
  | j + 1, h => by
    have a := codeT_size (s := s) (c := c) j (by omega)
    have b := instrText_size c[j]
    rw [codeT_succ (by omega), size_app, size_app]
    have : nl.size = 1 := rfl
    omega
theorem headT_size {p : Y_Prog} (h : p.1.length ≤ 6) : (headT p).size ≤ 200 := by
  have a := numsT_size (s := chansW) (l := p.1) p.1.length (Nat.le_refl _)
  rw [List.take_length] at a
  have b := (numText_size p.2.1).1
  unfold headT
  simp only [size_app]
  have z1 : nl.size = 1 := rfl
  have z2 : chansW.size = 5 := rfl
  have z3 : mutexesW.size = 7 := rfl
  have z4 : sp.size = 1 := rfl
  omega
theorem selsT_size {p : Y_Prog} (h : Small p) : ∀ j : Nat, j ≤ p.2.2.1.length → (selsT p j).size ≤ 200 + 301 * j
  | 0, _ => headT_size h.caps
  | j + 1, hj => by
    have a := selsT_size h j (by omega)
    have b := selText_size (h.cases _ (List.getElem_mem (show j < p.2.2.1.length by omega)))
    rw [selsT_succ (by omega), size_app, size_app]
    have : nl.size = 1 := rfl
    omega
theorem procsT_size {p : Y_Prog} (h : Small p) : ∀ j : Nat, j ≤ p.2.2.2.length → (procsT p j).size ≤ 2100 + 2100 * j
  | 0, _ => by
    have a := selsT_size h p.2.2.1.length (Nat.le_refl _)
    have b := h.sels
    show (selsT p p.2.2.1.length).size ≤ _
    omega
  | j + 1, hj => by
    have a := procsT_size h j (by omega)
    have b := h.code _ (List.getElem_mem (show j < p.2.2.2.length by omega))
    have c := codeT_size (s := procsT p j) (c := p.2.2.2[j]) _ (Nat.le_refl _)
    rw [procsT_succ (by omega)]
    omega
theorem s_l05Nums (s : ByteArray) (l : List Int) (hs : s.size ≤ 100) (hl : l.length ≤ 6) (hn : ∀ x ∈ l, 0 ≤ x ∧ x ≤ 4294967295) : Spec Try.prog 57 [.ro (T.str s), .ro (.sl 1 (l.map T.int))] [T.str (numsT s l ++ nl)] := by
  refine fn Try.func57 ?_
  repeat (first | refine brT ?_ | refine brF ?_ | refine And.intro rfl ?_ | refine And.intro trivial ?_ | intro _)
  refine loopR (fun i => ⟨26, [(0, .vv (.string (numsT s (l.take i)))), (7, .c (.ro 1 (l.map T.int))), (8, .int l.length), (9, .int i)], []⟩) l.length (fun _ => True) trivial (wk rfl ⟨rfl, rfl, lenm, rfl, trivial⟩ trivial) ?_
  intro i hi _
  have hz := numsT_size (s := s) (l := l) i hi
  refine brD (fun h => ?_) (fun h => ?_)
  · have h : i < l.length := by simpa using h
    have hx := hn _ (List.getElem_mem h)
    have hz2 := (numText_size l[i]).1
    refine ⟨nn i, T.int l[i], atm h, ?_⟩
    repeat (first | refine brT ?_ | refine brF ?_ | refine And.intro rfl ?_ | refine And.intro trivial ?_ | intro _)
    refine ⟨by show (numsT s (l.take i)).size + 1 ≤ _; omega, ?_⟩
    repeat (first | refine brT ?_ | refine brF ?_ | refine And.intro rfl ?_ | refine And.intro trivial ?_ | intro _)
    refine ⟨_, s_NumText l[i], ?_⟩
    repeat (first | refine brT ?_ | refine brF ?_ | refine And.intro rfl ?_ | refine And.intro trivial ?_ | intro _)
    refine ⟨by show (numsT s (l.take i) ++ sp).size + (numText l[i]).size ≤ _; rw [size_app]; show _ + 1 + _ ≤ _; omega, ?_⟩
    repeat (first | refine brT ?_ | refine brF ?_ | refine And.intro rfl ?_ | refine And.intro trivial ?_ | intro _)
    refine ⟨_, s_l01Num l[i], ?_⟩
    repeat (first | refine brT ?_ | refine brF ?_ | refine And.intro rfl ?_ | refine And.intro trivial ?_ | intro _)
    refine brL (by rw [decide_eq_true hx]; decide) (fun _ => ?_)
    repeat (first | refine brT ?_ | refine brF ?_ | refine And.intro rfl ?_ | refine And.intro trivial ?_ | intro _)
    exact nxtR h trivial (wk rfl ⟨(by rw [numsT_succ h]; rfl), rfl, rfl, up1 h (by omega), trivial⟩ trivial)
  · have h : i = l.length := by simp at h; omega
    subst h
    repeat (first | refine brT ?_ | refine brF ?_ | refine And.intro rfl ?_ | refine And.intro trivial ?_ | intro _)
    refine ⟨by show (numsT s (l.take l.length)).size + 1 ≤ _; omega, ?_⟩
    repeat (first | refine brT ?_ | refine brF ?_ | refine And.intro rfl ?_ | refine And.intro trivial ?_ | intro _)
    exact congrArg (fun z => [T.str (numsT s z ++ nl)]) (List.take_length ..)
theorem s_l05Text (p : Y_Prog) (h : Small p) (hc : ∀ x ∈ p.1, 0 ≤ x ∧ x ≤ 4294967295) (hm : 0 ≤ p.2.1 ∧ p.2.1 ≤ 4294967295) : Spec Try.prog 39 [.ro (t_Prog p)] [T.str (procsT p p.2.2.2.length)] := by
  have k1 := h.caps
  have k2 := h.sels
  have k3 := h.procs
  refine fn Try.func39 ?_
  intro q1
  repeat (first | refine brT ?_ | refine brF ?_ | refine And.intro rfl ?_ | refine And.intro trivial ?_ | intro _)
  have c1 := s_l05Nums chansW p.1 (by decide) k1 hc
  have c2 := s_l05Nums mutexesW [p.2.1] (by decide) (by simp) (fun x hx => by obtain rfl := List.mem_singleton.1 hx; exact hm)
  have a := numsT_size (s := chansW) (l := p.1) p.1.length (Nat.le_refl _)
  rw [List.take_length] at a
  have b := (numText_size p.2.1).1
  refine drM0 (Pl.go 0 (Pl.go 3 ((Pl.go 1 ((Pl.go 2 (Pl.go 4 (Pl.go 5 (Pl.go 6 (Pl.go 7 (Pl.go 8 Pl.stop)))))).or (Pl.go 4 ((Pl.go 2 (Pl.go 5 (Pl.go 6 (Pl.go 7 (Pl.go 8 Pl.stop))))).or (Pl.go 5 (Pl.go 2 (Pl.go 6 (Pl.go 7 (Pl.go 8 Pl.stop))))))))).or (Pl.go 4 ((Pl.go 1 ((Pl.go 2 (Pl.go 5 (Pl.go 6 (Pl.go 7 (Pl.go 8 Pl.stop))))).or (Pl.go 5 (Pl.go 2 (Pl.go 6 (Pl.go 7 (Pl.go 8 Pl.stop))))))).or (Pl.go 5 (Pl.go 1 (Pl.go 2 (Pl.go 6 (Pl.go 7 (Pl.go 8 Pl.stop))))))))))) (fun m => ∃ x : Nat, m = ⟨55, [(1, .c (.bx 2000 q1 0)), (3, .vv (.string (headT p)))], [(2000, .box q1 (t_Prog p).a2.cells)]⟩) (by kernel_rfl) ?_ ?_
  · repeat' (first | (first | refine brT ?_ | refine brF ?_ | refine And.intro rfl ?_ | refine And.intro trivial ?_ | intro _) | refine ⟨_, c1, ?_⟩ | refine ⟨_, c2, ?_⟩ | refine ⟨fun t ht => (by simp at ht; subst ht; rfl), fun _ => ?_⟩ | refine And.intro ?_ ?_)
    all_goals first
      | (show (numsT chansW p.1 ++ nl).size + (mutexesW ++ sp ++ numText p.2.1 ++ nl).size ≤ _; simp only [size_app]; show _ + 1 + (7 + 1 + _ + 1) ≤ _; have : chansW.size = 5 := rfl; omega)
      | exact ⟨_, ⟨0, rfl⟩, wk rfl ⟨rfl, rfl, trivial⟩ ⟨rfl, trivial⟩⟩
  rintro m ⟨_, rfl⟩
  repeat (first | refine brT ?_ | refine brF ?_ | refine And.intro rfl ?_ | refine And.intro trivial ?_ | intro _)
  refine loopR (fun j => ⟨55, [(1, .c (.bx 2000 q1 0)), (3, .vv (.string (selsT p j))), (19, .c (.ro 2 (p.2.2.1.map t_Select))), (20, .int p.2.2.1.length), (21, .int j)], [(2000, .box q1 (t_Prog p).a2.cells)]⟩) p.2.2.1.length (fun _ => True) trivial (wk rfl ⟨rfl, rfl, rfl, lenm, rfl, trivial⟩ ⟨rfl, trivial⟩) ?_
  intro j hj _
  have hz := selsT_size h j hj
  refine brD (fun hlt => ?_) (fun hlt => ?_)
  · have hlt : j < p.2.2.1.length := by simpa using hlt
    have hcs := h.cases _ (List.getElem_mem hlt)
    have hx := selText_size hcs
    refine ⟨nn j, t_Select p.2.2.1[j], atm hlt, ?_⟩
    repeat (first | refine brT ?_ | refine brF ?_ | refine And.intro rfl ?_ | refine And.intro trivial ?_ | intro _)
    refine ⟨_, s_SelectText p.2.2.1[j] (by unfold bound; omega), ?_⟩
    repeat (first | refine brT ?_ | refine brF ?_ | refine And.intro rfl ?_ | refine And.intro trivial ?_ | intro _)
    refine ⟨by show (selsT p j).size + (selText p.2.2.1[j]).size ≤ _; omega, ?_⟩
    repeat (first | refine brT ?_ | refine brF ?_ | refine And.intro rfl ?_ | refine And.intro trivial ?_ | intro _)
    refine ⟨by show (selsT p j ++ selText p.2.2.1[j]).size + 1 ≤ _; rw [size_app]; omega, ?_⟩
    repeat (first | refine brT ?_ | refine brF ?_ | refine And.intro rfl ?_ | refine And.intro trivial ?_ | intro _)
    exact nxtR hlt trivial (wk rfl ⟨rfl, (by rw [selsT_succ hlt]; rfl), rfl, rfl, up1 hlt (by omega), trivial⟩ ⟨rfl, trivial⟩)
  have hj2 : j = p.2.2.1.length := by simp at hlt; omega
  subst hj2
  repeat (first | refine brT ?_ | refine brF ?_ | refine And.intro rfl ?_ | refine And.intro trivial ?_ | intro _)
  refine loopR (fun j => ⟨55, [(1, .c (.bx 2000 q1 0)), (3, .vv (.string (procsT p j))), (32, .c (.ro 1 (p.2.2.2.map t_Proc))), (33, .int p.2.2.2.length), (34, .int j)], [(2000, .box q1 (t_Prog p).a2.cells)]⟩) p.2.2.2.length (fun _ => True) trivial (wk rfl ⟨rfl, rfl, rfl, lenm, rfl, trivial⟩ ⟨rfl, trivial⟩) ?_
  intro j hj _
  have hz := procsT_size h j hj
  refine brD (fun hlt => ?_) (fun hlt => ?_)
  · have hlt : j < p.2.2.2.length := by simpa using hlt
    have hcd := h.code _ (List.getElem_mem hlt)
    refine ⟨nn j, t_Proc p.2.2.2[j], atm hlt, ?_⟩
    obtain ⟨c, hc0⟩ : ∃ c, c = p.2.2.2[j] := ⟨_, rfl⟩
    rw [← hc0] at hcd
    rw [← hc0]
    repeat (first | refine brT ?_ | refine brF ?_ | refine And.intro rfl ?_ | refine And.intro trivial ?_ | intro _)
    refine ⟨by show (procsT p j).size + 5 ≤ _; omega, ?_⟩
    repeat (first | refine brT ?_ | refine brF ?_ | refine And.intro rfl ?_ | refine And.intro trivial ?_ | intro _)
    refine loopR (fun i => ⟨55, [(1, .c (.bx 2000 q1 0)), (3, .vv (.string (codeT (procsT p j) c i))), (32, .c (.ro 1 (p.2.2.2.map t_Proc))), (33, .int p.2.2.2.length), (34, .int j), (41, .c (.ro 4 (c.map t_Instr))), (42, .int c.length), (43, .int i)], [(2000, .box q1 (t_Prog p).a2.cells)]⟩) c.length (fun _ => True) trivial (wk rfl ⟨rfl, rfl, rfl, rfl, rfl, rfl, lenm, rfl, trivial⟩ ⟨rfl, trivial⟩) ?_
    intro i hi _
    have hz2 := codeT_size (s := procsT p j) (c := c) i hi
    refine brD (fun h2 => ?_) (fun h2 => ?_)
    · have h2 : i < c.length := by simpa using h2
      have hx := instrText_size c[i]
      refine ⟨nn i, t_Instr c[i], atm h2, ?_⟩
      repeat (first | refine brT ?_ | refine brF ?_ | refine And.intro rfl ?_ | refine And.intro trivial ?_ | intro _)
      refine ⟨_, s_InstrText c[i], ?_⟩
      repeat (first | refine brT ?_ | refine brF ?_ | refine And.intro rfl ?_ | refine And.intro trivial ?_ | intro _)
      refine ⟨by show (codeT (procsT p j) c i).size + (instrText c[i]).size ≤ _; omega, ?_⟩
      repeat (first | refine brT ?_ | refine brF ?_ | refine And.intro rfl ?_ | refine And.intro trivial ?_ | intro _)
      refine ⟨by show (codeT (procsT p j) c i ++ instrText c[i]).size + 1 ≤ _; rw [size_app]; omega, ?_⟩
      repeat (first | refine brT ?_ | refine brF ?_ | refine And.intro rfl ?_ | refine And.intro trivial ?_ | intro _)
      exact nxtR h2 trivial (wk rfl ⟨rfl, (by rw [codeT_succ h2]; rfl), rfl, rfl, rfl, rfl, rfl, up1 h2 (by omega), trivial⟩ ⟨rfl, trivial⟩)
    · have hi2 : i = c.length := by simp at h2; omega
      subst hi2
      repeat (first | refine brT ?_ | refine brF ?_ | refine And.intro rfl ?_ | refine And.intro trivial ?_ | intro _)
      exact nxtR hlt trivial (wk rfl ⟨rfl, (by rw [procsT_succ hlt, ← hc0]; rfl), rfl, rfl, up1 hlt (by omega), trivial⟩ ⟨rfl, trivial⟩)
  have hj3 : j = p.2.2.2.length := by simp at hlt; omega
  subst hj3
  repeat (first | refine brT ?_ | refine brF ?_ | refine And.intro rfl ?_ | refine And.intro trivial ?_ | intro _)
  exact rfl
theorem caps_ok {p : Y_Prog} (h : progOk p = true) : (∀ x ∈ p.1, 0 ≤ x ∧ x ≤ 4294967295) ∧ (0 ≤ p.2.1 ∧ p.2.1 ≤ 4294967295) := by
  simp only [progOk, headOk, Bool.and_eq_true, decide_eq_true_eq] at h
  refine ⟨fun x hx => ?_, by omega⟩
  have := List.all_eq_true.1 h.1.1.2 x hx
  simp only [capOk, Bool.and_eq_true, decide_eq_true_eq] at this
  omega
theorem s_ProgText (p : Y_Prog) (hp : ok_Prog p) : Spec Try.prog 15 [.ro (t_Prog p)] [T.str (progText p)] := by
  refine fn Try.func15 ?_
  intro q1
  repeat (first | refine brT ?_ | refine brF ?_ | refine And.intro rfl ?_ | refine And.intro trivial ?_ | intro _)
  refine ⟨_, s_ProgOk p hp, ?_⟩
  repeat (first | refine brT ?_ | refine brF ?_ | refine And.intro rfl ?_ | refine And.intro trivial ?_ | intro _)
  unfold progText
  refine brI (fun h => ?_) (fun h => ?_)
  · have h : progOk p = false := by simpa using h
    rw [h]
    repeat (first | refine brT ?_ | refine brF ?_ | refine And.intro rfl ?_ | refine And.intro trivial ?_ | intro _)
    exact rfl
  have hpo : progOk p = true := by simpa using h
  rw [hpo]
  repeat (first | refine brT ?_ | refine brF ?_ | refine And.intro rfl ?_ | refine And.intro trivial ?_ | intro _)
  refine ⟨_, s_l05Text p (small_of hpo) (caps_ok hpo).1 (caps_ok hpo).2, ?_⟩
  repeat (first | refine brT ?_ | refine brF ?_ | refine And.intro rfl ?_ | refine And.intro trivial ?_ | intro _)
  exact rfl
theorem i_ProgText (p : Y_Prog) (hp : ok_Prog p) : Spec Try.prog 17 [.ro (t_Prog p)] [T.str (progText p)] := by
  refine fn Try.func17 ?_
  intro q1
  repeat (first | refine brT ?_ | refine brF ?_ | refine And.intro rfl ?_ | refine And.intro trivial ?_ | intro _)
  refine ⟨_, i_ProgOk p hp, ?_⟩
  repeat (first | refine brT ?_ | refine brF ?_ | refine And.intro rfl ?_ | refine And.intro trivial ?_ | intro _)
  unfold progText
  refine brI (fun h => ?_) (fun h => ?_)
  · have h : progOk p = false := by simpa using h
    rw [h]
    repeat (first | refine brT ?_ | refine brF ?_ | refine And.intro rfl ?_ | refine And.intro trivial ?_ | intro _)
    exact rfl
  have hpo : progOk p = true := by simpa using h
  rw [hpo]
  have h := small_of hpo
  have k1 := h.caps
  have k2 := h.sels
  have k3 := h.procs
  repeat (first | refine brT ?_ | refine brF ?_ | refine And.intro rfl ?_ | refine And.intro trivial ?_ | intro _)
  refine loopR (fun i => ⟨72, [(1, .c (.bx 2000 q1 0)), (3, .vv (.string (numsT chansW (p.1.take i)))), (16, .c (.ro 1 (p.1.map T.int))), (17, .int p.1.length), (18, .int i)], [(2000, .box q1 (t_Prog p).a2.cells)]⟩) p.1.length (fun _ => True) trivial (wk rfl ⟨rfl, rfl, rfl, lenm, rfl, trivial⟩ ⟨rfl, trivial⟩) ?_
  intro i hi _
  have hz := numsT_size (s := chansW) (l := p.1) i hi
  have hz5 : chansW.size = 5 := rfl
  refine brD (fun hlt => ?_) (fun hlt => ?_)
  · have hlt : i < p.1.length := by simpa using hlt
    have hz2 := (numText_size p.1[i]).1
    refine ⟨nn i, T.int p.1[i], atm hlt, ?_⟩
    repeat (first | refine brT ?_ | refine brF ?_ | refine And.intro rfl ?_ | refine And.intro trivial ?_ | intro _)
    refine ⟨_, i_NumText p.1[i], ?_⟩
    repeat (first | refine brT ?_ | refine brF ?_ | refine And.intro rfl ?_ | refine And.intro trivial ?_ | intro _)
    refine ⟨by show 1 + (numText p.1[i]).size ≤ _; omega, ?_⟩
    repeat (first | refine brT ?_ | refine brF ?_ | refine And.intro rfl ?_ | refine And.intro trivial ?_ | intro _)
    refine ⟨by show (numsT chansW (p.1.take i)).size + (sp ++ numText p.1[i]).size ≤ _; rw [size_app]; show _ + (1 + _) ≤ _; omega, ?_⟩
    repeat (first | refine brT ?_ | refine brF ?_ | refine And.intro rfl ?_ | refine And.intro trivial ?_ | intro _)
    exact nxtR hlt trivial (wk rfl ⟨rfl, (by rw [numsT_succ hlt, app_assoc]; rfl), rfl, rfl, up1 hlt (by omega), trivial⟩ ⟨rfl, trivial⟩)
  have hi2 : i = p.1.length := by simp at hlt; omega
  subst hi2
  have hb := (numText_size p.2.1).1
  repeat (first | refine brT ?_ | refine brF ?_ | refine And.intro rfl ?_ | refine And.intro trivial ?_ | intro _)
  refine ⟨_, i_NumText p.2.1, ?_⟩
  repeat (first | refine brT ?_ | refine brF ?_ | refine And.intro rfl ?_ | refine And.intro trivial ?_ | intro _)
  refine ⟨by show 9 + (numText p.2.1).size ≤ _; omega, ?_⟩
  repeat (first | refine brT ?_ | refine brF ?_ | refine And.intro rfl ?_ | refine And.intro trivial ?_ | intro _)
  refine ⟨by show ((⟨#[10, 109, 117, 116, 101, 120, 101, 115, 32]⟩ : ByteArray) ++ numText p.2.1).size + 1 ≤ _; rw [size_app]; show 9 + _ + 1 ≤ _; omega, ?_⟩
  repeat (first | refine brT ?_ | refine brF ?_ | refine And.intro rfl ?_ | refine And.intro trivial ?_ | intro _)
  refine ⟨by show (numsT chansW (p.1.take p.1.length)).size + ((⟨#[10, 109, 117, 116, 101, 120, 101, 115, 32]⟩ : ByteArray) ++ numText p.2.1 ++ nl).size ≤ _; rw [size_app, size_app]; show _ + (9 + _ + 1) ≤ _; omega, ?_⟩
  repeat (first | refine brT ?_ | refine brF ?_ | refine And.intro rfl ?_ | refine And.intro trivial ?_ | intro _)
  have eh : numsT chansW (p.1.take p.1.length) ++ ((⟨#[10, 109, 117, 116, 101, 120, 101, 115, 32]⟩ : ByteArray) ++ numText p.2.1 ++ nl) = selsT p 0 := by
    have e1 : (⟨#[10, 109, 117, 116, 101, 120, 101, 115, 32]⟩ : ByteArray) = nl ++ (mutexesW ++ sp) := by decide
    show _ = headT p
    unfold headT
    rw [List.take_length, e1]
    simp only [app_assoc]
  refine loopR (fun j => ⟨72, [(1, .c (.bx 2000 q1 0)), (3, .vv (.string (selsT p j))), (36, .c (.ro 2 (p.2.2.1.map t_Select))), (37, .int p.2.2.1.length), (38, .int j)], [(2000, .box q1 (t_Prog p).a2.cells)]⟩) p.2.2.1.length (fun _ => True) trivial (wk rfl ⟨rfl, (by rw [← eh]; rfl), rfl, lenm, rfl, trivial⟩ ⟨rfl, trivial⟩) ?_
  intro j hj _
  have hz := selsT_size h j hj
  refine brD (fun hlt => ?_) (fun hlt => ?_)
  · have hlt : j < p.2.2.1.length := by simpa using hlt
    have hcs := h.cases _ (List.getElem_mem hlt)
    have hx := selText_size hcs
    refine ⟨nn j, t_Select p.2.2.1[j], atm hlt, ?_⟩
    repeat (first | refine brT ?_ | refine brF ?_ | refine And.intro rfl ?_ | refine And.intro trivial ?_ | intro _)
    refine ⟨_, i_SelectText p.2.2.1[j] (by unfold bound; omega), ?_⟩
    repeat (first | refine brT ?_ | refine brF ?_ | refine And.intro rfl ?_ | refine And.intro trivial ?_ | intro _)
    refine ⟨by show (selText p.2.2.1[j]).size + 1 ≤ _; omega, ?_⟩
    repeat (first | refine brT ?_ | refine brF ?_ | refine And.intro rfl ?_ | refine And.intro trivial ?_ | intro _)
    refine ⟨by show (selsT p j).size + (selText p.2.2.1[j] ++ nl).size ≤ _; rw [size_app]; show _ + (_ + 1) ≤ _; omega, ?_⟩
    repeat (first | refine brT ?_ | refine brF ?_ | refine And.intro rfl ?_ | refine And.intro trivial ?_ | intro _)
    exact nxtR hlt trivial (wk rfl ⟨rfl, (by rw [selsT_succ hlt, app_assoc]; rfl), rfl, rfl, up1 hlt (by omega), trivial⟩ ⟨rfl, trivial⟩)
  have hj2 : j = p.2.2.1.length := by simp at hlt; omega
  subst hj2
  repeat (first | refine brT ?_ | refine brF ?_ | refine And.intro rfl ?_ | refine And.intro trivial ?_ | intro _)
  refine loopR (fun j => ⟨72, [(1, .c (.bx 2000 q1 0)), (3, .vv (.string (procsT p j))), (49, .c (.ro 1 (p.2.2.2.map t_Proc))), (50, .int p.2.2.2.length), (51, .int j)], [(2000, .box q1 (t_Prog p).a2.cells)]⟩) p.2.2.2.length (fun _ => True) trivial (wk rfl ⟨rfl, rfl, rfl, lenm, rfl, trivial⟩ ⟨rfl, trivial⟩) ?_
  intro j hj _
  have hz := procsT_size h j hj
  refine brD (fun hlt => ?_) (fun hlt => ?_)
  · have hlt : j < p.2.2.2.length := by simpa using hlt
    have hcd := h.code _ (List.getElem_mem hlt)
    refine ⟨nn j, t_Proc p.2.2.2[j], atm hlt, ?_⟩
    obtain ⟨c, hc0⟩ : ∃ c, c = p.2.2.2[j] := ⟨_, rfl⟩
    rw [← hc0] at hcd
    rw [← hc0]
    repeat (first | refine brT ?_ | refine brF ?_ | refine And.intro rfl ?_ | refine And.intro trivial ?_ | intro _)
    refine ⟨by show (procsT p j).size + 5 ≤ _; omega, ?_⟩
    repeat (first | refine brT ?_ | refine brF ?_ | refine And.intro rfl ?_ | refine And.intro trivial ?_ | intro _)
    refine loopR (fun i => ⟨72, [(1, .c (.bx 2000 q1 0)), (3, .vv (.string (codeT (procsT p j) c i))), (49, .c (.ro 1 (p.2.2.2.map t_Proc))), (50, .int p.2.2.2.length), (51, .int j), (58, .c (.ro 4 (c.map t_Instr))), (59, .int c.length), (60, .int i)], [(2000, .box q1 (t_Prog p).a2.cells)]⟩) c.length (fun _ => True) trivial (wk rfl ⟨rfl, rfl, rfl, rfl, rfl, rfl, lenm, rfl, trivial⟩ ⟨rfl, trivial⟩) ?_
    intro i hi _
    have hz2 := codeT_size (s := procsT p j) (c := c) i hi
    refine brD (fun h2 => ?_) (fun h2 => ?_)
    · have h2 : i < c.length := by simpa using h2
      have hx := instrText_size c[i]
      refine ⟨nn i, t_Instr c[i], atm h2, ?_⟩
      repeat (first | refine brT ?_ | refine brF ?_ | refine And.intro rfl ?_ | refine And.intro trivial ?_ | intro _)
      refine ⟨_, i_InstrText c[i], ?_⟩
      repeat (first | refine brT ?_ | refine brF ?_ | refine And.intro rfl ?_ | refine And.intro trivial ?_ | intro _)
      refine ⟨by show (instrText c[i]).size + 1 ≤ _; omega, ?_⟩
      repeat (first | refine brT ?_ | refine brF ?_ | refine And.intro rfl ?_ | refine And.intro trivial ?_ | intro _)
      refine ⟨by show (codeT (procsT p j) c i).size + (instrText c[i] ++ nl).size ≤ _; rw [size_app]; show _ + (_ + 1) ≤ _; omega, ?_⟩
      repeat (first | refine brT ?_ | refine brF ?_ | refine And.intro rfl ?_ | refine And.intro trivial ?_ | intro _)
      exact nxtR h2 trivial (wk rfl ⟨rfl, (by rw [codeT_succ h2, app_assoc]; rfl), rfl, rfl, rfl, rfl, rfl, up1 h2 (by omega), trivial⟩ ⟨rfl, trivial⟩)
    · have hi2 : i = c.length := by simp at h2; omega
      subst hi2
      repeat (first | refine brT ?_ | refine brF ?_ | refine And.intro rfl ?_ | refine And.intro trivial ?_ | intro _)
      exact nxtR hlt trivial (wk rfl ⟨rfl, (by rw [procsT_succ hlt, ← hc0]; rfl), rfl, rfl, up1 hlt (by omega), trivial⟩ ⟨rfl, trivial⟩)
  have hj3 : j = p.2.2.2.length := by simp at hlt; omega
  subst hj3
  repeat (first | refine brT ?_ | refine brF ?_ | refine And.intro rfl ?_ | refine And.intro trivial ?_ | intro _)
  exact rfl


end Go.Proofs.Yteibafcohflbdaa.E
