/- Contracts of functions of this seat's program. -/
import Derived.Test.YtphikogfogejlaaDoorETy
import Derived.Test.YtphikogfogejlaaDoorESd
import Derived.Test.YtphikogfogejlaaDoorETk
import Derived.Test.YtphikogfogejlaaDoorEPm2
namespace Go.Proofs.YtphikogfogejlaaDoor.E
set_option linter.unusedVariables false
set_option linter.unusedSimpArgs false
set_option maxHeartbeats 1600000
/-! A program out of its text: what is read, and when it is taken. -/
abbrev nl : ByteArray := ⟨#[10]⟩
abbrev chansW : ByteArray := ⟨#[99, 104, 97, 110, 115]⟩
abbrev mutexesW : ByteArray := ⟨#[109, 117, 116, 101, 120, 101, 115]⟩
abbrev procW0 : ByteArray := ⟨#[112, 114, 111, 99]⟩
abbrev qm : ByteArray := ⟨#[63]⟩
abbrev PS := List Y_Select × List Y_Proc
def numQ (n : Int) : ByteArray := if isNb n = true then numText n else numText n ++ qm
def numsLine (w : ByteArray) (l : List Int) : ByteArray := joinB (w :: l.map numQ) sp
def catL (L : List ByteArray) : ByteArray := L.foldl (fun s x => s ++ x ++ nl) e0
theorem catL_snoc (L : List ByteArray) (x : ByteArray) : catL (L ++ [x]) = catL L ++ x ++ nl := by unfold catL; rw [List.foldl_append]; rfl
def stLines (st : PS) : List ByteArray := st.1.map selText ++ st.2.flatMap (fun c => procW0 :: c.map instrText)
def addI (P : List Y_Proc) (x : Y_Instr) : List Y_Proc := P.set (P.length - 1) (P.getD (P.length - 1) [] ++ [x])
theorem addI_snoc (Q : List Y_Proc) (c : Y_Proc) (x : Y_Instr) : addI (Q ++ [c]) x = Q ++ [c ++ [x]] := by
  unfold addI
  simp [List.getD_eq_getElem?_getD]
theorem addI_len (P : List Y_Proc) (x : Y_Instr) : (addI P x).length = P.length := by unfold addI; simp
theorem stL_sel {S : List Y_Select} {P : List Y_Proc} (x : Y_Select) (h : P.length = 0) : stLines (S ++ [x], P) = stLines (S, P) ++ [selText x] := by
  obtain rfl := List.length_eq_zero_iff.1 h
  simp [stLines]
theorem stL_proc (S : List Y_Select) (P : List Y_Proc) : stLines (S, P ++ [[]]) = stLines (S, P) ++ [procW0] := by simp [stLines]
theorem stL_ins {S : List Y_Select} {P : List Y_Proc} (x : Y_Instr) (h : ¬ P.length = 0) : stLines (S, addI P x) = stLines (S, P) ++ [instrText x] := by
  obtain ⟨Q, c, rfl⟩ : ∃ Q c, P = Q ++ [c] := ⟨_, _, (List.dropLast_concat_getLast (fun e => h (by rw [e]; rfl))).symm⟩
  rw [addI_snoc]
  simp [stLines]
def specStep (st : PS × Bool) (w : ByteArray) : PS × Bool :=
  if wd (cutB 32 w) 0 = selW ∧ st.1.2.length = 0 then ((st.1.1 ++ [(textSelect w).1], st.1.2), st.2)
  else if w = procW0 then ((st.1.1, st.1.2 ++ [[]]), st.2)
  else if st.1.2.length = 0 then st
  else ((st.1.1, addI st.1.2 (textInstr w).1), st.2 || !(textInstr w).2)
def implStep (o : Option PS) (w : ByteArray) : Option PS := match o with
  | none => none
  | some st =>
    if w = procW0 then some (st.1, st.2 ++ [[]])
    else if st.2.length = 0 then (if (textSelect w).2 = true then some (st.1 ++ [(textSelect w).1], st.2) else none)
    else (if (textInstr w).2 = true then some (st.1, addI st.2 (textInstr w).1) else none)
theorem fold_none : ∀ L : List ByteArray, L.foldl implStep none = none
  | [] => rfl
  | _ :: L => fold_none L
theorem proc_cut : wd (cutB 32 procW0) 0 = procW0 := by decide
theorem proc_ne : procW0 ≠ selW := fun e => absurd (congrArg ByteArray.size e) (by decide)
theorem sel_ok {w : ByteArray} (h : (textSelect w).2 = true) : wd (cutB 32 w) 0 = selW ∧ selText (textSelect w).1 = w := by
  have hi : selIn (cutB 32 w) := Classical.byContradiction fun e => by rw [textSelect_no e] at h; cases h
  refine ⟨hi.2.1, ?_⟩
  rw [textSelect_yes hi]
  exact sel_yes hi
theorem instr_ok {w : ByteArray} (h : (textInstr w).2 = true) : instrText (textInstr w).1 = w := by
  unfold textInstr at h ⊢
  by_cases hc : w = ⟨#[]⟩ ∨ instrText (specI (cutB 32 w)) ≠ w
  · rw [if_pos hc] at h; cases h
  · rw [if_neg hc]
    exact Classical.byContradiction fun e => hc (.inr e)
theorem run_A : ∀ (L : List ByteArray) (st st' : PS), L.foldl implStep (some st) = some st' → L.foldl specStep (st, false) = (st', false) ∧ stLines st' = stLines st ++ L
  | [], st, st', h => by
    obtain rfl : st = st' := Option.some.inj h
    exact ⟨rfl, by simp⟩
  | w :: L, st, st', h => by
    rw [List.foldl_cons] at h ⊢
    obtain ⟨S, P⟩ := st
    by_cases hp : w = procW0
    · have e1 : implStep (some (S, P)) w = some (S, P ++ [[]]) := by unfold implStep; simp only; rw [if_pos hp]
      have e2 : specStep ((S, P), false) w = ((S, P ++ [[]]), false) := by
        unfold specStep
        rw [if_neg (by rw [hp, proc_cut]; exact fun e => proc_ne e.1), if_pos hp]
      rw [e1] at h
      obtain ⟨a, b⟩ := run_A L _ _ h
      rw [e2]
      refine ⟨a, ?_⟩
      rw [b, stL_proc, hp]; simp
    by_cases hz : P.length = 0
    · cases ht : (textSelect w).2 with
      | false =>
        have e1 : implStep (some (S, P)) w = none := by unfold implStep; simp only; rw [if_neg hp, if_pos hz, ht]; rfl
        rw [e1, fold_none] at h; cases h
      | true =>
        have e1 : implStep (some (S, P)) w = some (S ++ [(textSelect w).1], P) := by unfold implStep; simp only; rw [if_neg hp, if_pos hz, ht]; rfl
        obtain ⟨s1, s2⟩ := sel_ok ht
        have e2 : specStep ((S, P), false) w = ((S ++ [(textSelect w).1], P), false) := by unfold specStep; rw [if_pos ⟨s1, hz⟩]
        rw [e1] at h
        obtain ⟨a, b⟩ := run_A L _ _ h
        rw [e2]
        refine ⟨a, ?_⟩
        rw [b, stL_sel _ hz, s2]; simp
    · cases ht : (textInstr w).2 with
      | false =>
        have e1 : implStep (some (S, P)) w = none := by unfold implStep; simp only; rw [if_neg hp, if_neg hz, ht]; rfl
        rw [e1, fold_none] at h; cases h
      | true =>
        have e1 : implStep (some (S, P)) w = some (S, addI P (textInstr w).1) := by unfold implStep; simp only; rw [if_neg hp, if_neg hz, ht]; rfl
        have e2 : specStep ((S, P), false) w = ((S, addI P (textInstr w).1), false) := by
          unfold specStep; rw [if_neg (fun e => hz e.2), if_neg hp, if_neg hz, ht]; rfl
        rw [e1] at h
        obtain ⟨a, b⟩ := run_A L _ _ h
        rw [e2]
        refine ⟨a, ?_⟩
        rw [b, stL_ins _ hz, instr_ok ht]; simp
theorem step_pre (st : PS × Bool) (w : ByteArray) : ∃ e, stLines (specStep st w).1 = stLines st.1 ++ e ∧ e.length ≤ 1 ∧ (st.2 = true → (specStep st w).2 = true) := by
  obtain ⟨⟨S, P⟩, b⟩ := st
  unfold specStep
  split
  · rename_i h
    exact ⟨[selText (textSelect w).1], stL_sel _ h.2, Nat.le_refl _, fun h => h⟩
  split
  · exact ⟨[procW0], stL_proc _ _, Nat.le_refl _, fun h => h⟩
  split
  · exact ⟨[], by simp, Nat.zero_le _, fun h => h⟩
  · rename_i h
    exact ⟨[instrText (textInstr w).1], stL_ins _ h, Nat.le_refl _, fun h => by simp only at h; simp [h]⟩
theorem run_pre : ∀ (L : List ByteArray) (st : PS × Bool), ∃ e, stLines (L.foldl specStep st).1 = stLines st.1 ++ e ∧ e.length ≤ L.length ∧ (st.2 = true → (L.foldl specStep st).2 = true)
  | [], st => ⟨[], by simp, Nat.le_refl _, fun h => h⟩
  | w :: L, st => by
    obtain ⟨e1, a1, b1, c1⟩ := step_pre st w
    obtain ⟨e2, a2, b2, c2⟩ := run_pre L (specStep st w)
    refine ⟨e1 ++ e2, ?_, by simp; omega, fun h => c2 (c1 h)⟩
    rw [List.foldl_cons, a2, a1, List.append_assoc]
abbrev sel0 : ByteArray := ⟨#[115, 101, 108, 101, 99, 116, 32, 48]⟩
theorem selText_zS : selText zS = sel0 := by
  have h1 : selL zS zS.1.length = [selW, ⟨#[48]⟩] := by
    rw [selL_eq]
    show [selW, sw zS] = _
    have : sw zS = ⟨#[48]⟩ := by decide
    rw [this]
  have i1 : isE selW = false := by rw [isE_iff]; rfl
  have i2 : isE ⟨#[48]⟩ = false := by rw [isE_iff]; rfl
  have hj := joinB_snoc selW [] ⟨#[48]⟩ sp
  rw [List.nil_append, joinB_one] at hj
  unfold selText joined
  rw [h1, if_neg (by simp [i1, i2]), hj]
  exact bx_ext (by simp [ByteArray.data_append])
theorem sel0_ok : (textSelect sel0).2 = true := by
  have hi : selIn (cutB 32 sel0) := by
    have hc : cutB 32 sel0 = [selW, ⟨#[48]⟩] := by decide
    rw [hc]
    refine ⟨Nat.le_refl _, rfl, .inr (by decide), fun w hw => by cases hw⟩
  rw [textSelect_yes hi]
theorem run_B : ∀ (L : List ByteArray) (st st' : PS), L.foldl specStep (st, false) = (st', false) → stLines st' = stLines st ++ L → L.foldl implStep (some st) = some st'
  | [], st, st', h, _ => by
    have : st = st' := congrArg Prod.fst h
    rw [this]; rfl
  | w :: L, st, st', h, hl => by
    rw [List.foldl_cons] at h ⊢
    obtain ⟨S, P⟩ := st
    have key : ∀ (st1 : PS) (b : Bool) (t : ByteArray), specStep ((S, P), false) w = (st1, b) → stLines st1 = stLines (S, P) ++ [t] → t = w ∧ stLines st' = stLines st1 ++ L ∧ b = false := by
      intro st1 b t e1 e2
      rw [e1] at h
      obtain ⟨e, a, _, c⟩ := run_pre L (st1, b)
      rw [h] at a c
      simp only at a c
      rw [hl, e2, List.append_assoc] at a
      have a := List.append_cancel_left a
      simp only [List.singleton_append, List.cons.injEq] at a
      refine ⟨a.1.symm, ?_, ?_⟩
      · rw [hl, e2, a.1]; simp
      · cases b with
        | false => rfl
        | true => exact absurd (c rfl) (by simp)
    by_cases h1 : wd (cutB 32 w) 0 = selW ∧ P.length = 0
    · have e1 : specStep ((S, P), false) w = ((S ++ [(textSelect w).1], P), false) := by unfold specStep; rw [if_pos h1]
      obtain ⟨k1, k2, _⟩ := key _ _ _ e1 (stL_sel _ h1.2)
      have hp : ¬ w = procW0 := fun e => by rw [e, proc_cut] at h1; exact proc_ne h1.1
      have ht : (textSelect w).2 = true := by
        cases ht : (textSelect w).2 with
        | true => rfl
        | false =>
          have hn : ¬ selIn (cutB 32 w) := fun e => by rw [textSelect_yes e] at ht; cases ht
          rw [textSelect_no hn] at k1
          have : w = sel0 := by rw [← k1]; exact selText_zS
          rw [this, sel0_ok] at ht; cases ht
      have e3 : implStep (some (S, P)) w = some (S ++ [(textSelect w).1], P) := by unfold implStep; simp only; rw [if_neg hp, if_pos h1.2, ht]; rfl
      rw [e1] at h
      rw [e3]
      exact run_B L _ _ h k2
    by_cases hp : w = procW0
    · have e1 : specStep ((S, P), false) w = ((S, P ++ [[]]), false) := by unfold specStep; rw [if_neg h1, if_pos hp]
      obtain ⟨_, k2, _⟩ := key _ _ _ e1 (stL_proc _ _)
      have e3 : implStep (some (S, P)) w = some (S, P ++ [[]]) := by unfold implStep; simp only; rw [if_pos hp]
      rw [e1] at h
      rw [e3]
      exact run_B L _ _ h k2
    by_cases hz : P.length = 0
    · have e1 : specStep ((S, P), false) w = ((S, P), false) := by unfold specStep; rw [if_neg h1, if_neg hp, if_pos hz]
      rw [e1] at h
      obtain ⟨e, a, b, _⟩ := run_pre L ((S, P), false)
      rw [h] at a
      simp only at a
      rw [hl] at a
      have := congrArg List.length (List.append_cancel_left a)
      simp at this
      omega
    · have e1 : specStep ((S, P), false) w = ((S, addI P (textInstr w).1), !(textInstr w).2) := by unfold specStep; rw [if_neg h1, if_neg hp, if_neg hz]; rfl
      obtain ⟨_, k2, k3⟩ := key _ _ _ e1 (stL_ins _ hz)
      have ht : (textInstr w).2 = true := by simpa using k3
      have e3 : implStep (some (S, P)) w = some (S, addI P (textInstr w).1) := by unfold implStep; simp only; rw [if_neg hp, if_neg hz, ht]; rfl
      rw [e1, ht] at h
      rw [e3]
      exact run_B L _ _ h k2

/-! The lines of numbers, the whole text. -/
theorem numQ_val {w : ByteArray} (h : numQ (readW w e0) = w) : (textNum w).2 = true := by
  unfold readW at h
  by_cases he : w = e0
  · rw [if_pos he, he] at h
    exact absurd (congrArg ByteArray.size h) (by decide)
  · rw [if_neg he] at h
    cases hn : (textNum w).2 with
    | true => rfl
    | false =>
      rw [textNum_no hn] at h
      have : w = ⟨#[48]⟩ := by rw [← h]; decide
      rw [this] at hn
      exact absurd hn (by decide)
theorem val_numQ {w : ByteArray} (h : (textNum w).2 = true) : numQ (readW w e0) = w ∧ readW w e0 = (textNum w).1 := by
  obtain ⟨a, b, c⟩ := num_val h
  refine ⟨?_, c⟩
  rw [c]
  unfold numQ
  rw [if_pos b, a]
theorem noC_numQ {c : UInt8} (hc : isDg c = false) (hq : c ≠ 63) (n : Int) : noC c (numQ n) := by
  unfold numQ
  split
  · exact noC_num hc n
  · intro h
    rw [app_data] at h
    rcases List.mem_append.1 h with h | h
    · exact noC_num hc n h
    · have : c = 63 := by simpa using h
      exact hq this
def numsOf (l : ByteArray) : List Int := ((cutB 32 l).drop 1).map fun w => readW w e0
def numsIn (w l : ByteArray) : Prop := wd (cutB 32 l) 0 = w ∧ ∀ x ∈ (cutB 32 l).drop 1, (textNum x).2 = true
theorem nums_iff {w l : ByteArray} (hw : noC 32 w) : numsLine w (numsOf l) = l ↔ numsIn w l := by
  have hj := joinB_cutB 32 l
  have hne := cutB_ne 32 l
  have hcut : cutB 32 (numsLine w (numsOf l)) = w :: (numsOf l).map numQ := by
    unfold numsLine
    refine cutB_joinB 32 _ (by simp) (fun x hx => ?_)
    simp only [List.mem_cons, List.mem_map] at hx
    rcases hx with rfl | ⟨n, _, rfl⟩
    · exact hw
    · exact noC_numQ (by decide) (by decide) n
  have hW : cutB 32 l = wd (cutB 32 l) 0 :: (cutB 32 l).drop 1 := by
    cases h : cutB 32 l with
    | nil => exact absurd h hne
    | cons a r => rfl
  constructor
  · intro h
    rw [h, hW] at hcut
    simp only [List.cons.injEq] at hcut
    refine ⟨hcut.1, fun x hx => ?_⟩
    have h2 := hcut.2
    unfold numsOf at h2
    rw [List.map_map] at h2
    obtain ⟨k, hk, rfl⟩ := List.mem_iff_getElem.1 hx
    have h3 := congrArg (fun z => z[k]?) h2
    simp only [List.getElem?_map, List.getElem?_eq_getElem hk, Option.map_some, Option.some.injEq, Function.comp] at h3
    exact numQ_val h3.symm
  · intro h
    unfold numsLine
    have : w :: (numsOf l).map numQ = cutB 32 l := by
      conv => rhs; rw [hW]
      rw [h.1]
      congr 1
      unfold numsOf
      rw [List.map_map]
      conv => rhs; rw [← List.map_id ((cutB 32 l).drop 1)]
      exact List.map_congr_left (fun x hx => (val_numQ (h.2 x hx)).1)
    rw [this, hj]
theorem catL_join : ∀ L : List ByteArray, catL L = joinB (L ++ [e0]) nl := by
  intro L
  have key : ∀ (r : List ByteArray) (a : ByteArray), catL (a :: r) = joinB (a :: r) nl ++ nl := by
    intro r
    generalize hn : r.length = n
    induction n generalizing r with
    | zero =>
      intro a
      obtain rfl := List.length_eq_zero_iff.1 hn
      rw [joinB_one]
      exact bx_ext (by simp [catL, ByteArray.data_append])
    | succ n ih =>
      intro a
      have hne : r ≠ [] := by intro e; rw [e] at hn; cases hn
      obtain ⟨r', x, rfl⟩ : ∃ r' x, r = r' ++ [x] := ⟨_, _, (List.dropLast_concat_getLast hne).symm⟩
      have := ih r' (by simp at hn; exact hn) a
      rw [← List.cons_append, catL_snoc, this, List.cons_append, joinB_snoc]
  cases L with
  | nil => rw [List.nil_append, joinB_one]; rfl
  | cons a r =>
    rw [key, List.cons_append, joinB_snoc]
    exact bx_ext (by simp [ByteArray.data_append])
theorem lines_catL {L : List ByteArray} (h : ∀ w ∈ L, noC 10 w) : linesB (catL L) = L := by
  unfold linesB
  rw [catL_join, cutB_joinB 10 _ (by simp) (fun w hw => by
    rcases List.mem_append.1 hw with hw | hw
    · exact h w hw
    · obtain rfl := List.mem_singleton.1 hw
      exact (by decide : (10 : UInt8) ∉ e0.data.toList))]
  unfold linesOf
  simp
theorem cut_end (c : UInt8) : ∀ l : List UInt8, cut c (l ++ [c]) = cut c l ++ [[]]
  | [] => by simp [cut]
  | b :: l => by
    have ih := cut_end c l
    rw [List.cons_append]
    unfold cut
    split
    · rw [ih]; rfl
    · rw [ih]
      cases h : cut c l with
      | nil => exact absurd h (cut_ne _ _)
      | cons q r => rfl
theorem catL_lines {s : ByteArray} (h : s.data.toList.getLast? = some 10) : catL (linesB s) = s := by
  obtain ⟨m, hm⟩ : ∃ m, s.data.toList = m ++ [10] := by
    have hne : s.data.toList ≠ [] := by intro e; rw [e] at h; cases h
    have := List.getLast?_eq_some_getLast hne
    rw [h] at this
    exact ⟨_, by rw [Option.some.inj this]; exact (List.dropLast_concat_getLast hne).symm⟩
  have hc : cutB 10 s = (cut 10 m).map (fun l => (⟨l.toArray⟩ : ByteArray)) ++ [e0] := by
    unfold cutB
    rw [hm, cut_end, List.map_append]; rfl
  have hj := joinB_cutB 10 s
  rw [catL_join]
  unfold linesB linesOf
  rw [hc] at hj ⊢
  rw [if_pos (by simp), List.dropLast_concat]
  exact hj
theorem catL_last {L : List ByteArray} (x : ByteArray) : (catL (L ++ [x])).data.toList.getLast? = some 10 := by
  rw [catL_snoc, app_data]; simp
def linesQ (p : Y_Prog) : List ByteArray := numsLine chansW p.1 :: numsLine mutexesW [p.2.1] :: stLines (p.2.2.1, p.2.2.2)
def textQ (p : Y_Prog) : ByteArray := catL (linesQ p)
theorem noC_instr (i : Y_Instr) : noC 10 (instrText i) := by
  have z : noC 10 (⟨#[]⟩ : ByteArray) := (by decide : (10 : UInt8) ∉ (⟨#[]⟩ : ByteArray).data.toList)
  unfold instrText
  split
  · exact z
  rename_i h1
  split
  · refine noC_join (by decide : (10 : UInt8) ∉ sp.data.toList) _ (fun w hw => ?_)
    have hf : ¬ fieldsOf i.1 < 0 := fun e => h1 (.inl e)
    have hin := op_in hf
    unfold words at hw
    rcases List.mem_cons.1 hw with rfl | hw
    · exact opWord_cases ⟨hin.1, hin.2.1⟩ (P := noC 10) (by
        intro k h1 h2
        have : k = 1 ∨ k = 2 ∨ k = 3 ∨ k = 4 ∨ k = 5 ∨ k = 6 ∨ k = 7 ∨ k = 8 ∨ k = 9 ∨ k = 10 ∨ k = 11 ∨ k = 12 ∨ k = 13 ∨ k = 14 ∨ k = 15 := by omega
        unfold noC
        rcases this with rfl | rfl | rfl | rfl | rfl | rfl | rfl | rfl | rfl | rfl | rfl | rfl | rfl | rfl | rfl <;> decide)
    · obtain ⟨k, _, rfl⟩ := List.mem_map.1 hw
      exact noC_word (by decide) (by decide) _ _
  · exact z
theorem noC_case10 (c : Y_Case) : noC 10 (caseT c) := by
  have nw : ∀ n : Int, noC 10 (numText n) := fun n => noC_num (by decide) n
  have nc : noC 10 (cw c) := noC_word (by decide) (by decide) _ _
  have dc : noC 10 colon := (by decide : (10 : UInt8) ∉ colon.data.toList)
  unfold caseT
  split
  · exact (by decide : (10 : UInt8) ∉ (⟨#[]⟩ : ByteArray).data.toList)
  split
  · refine noC_join dc _ (fun x hx => ?_)
    simp only [List.mem_cons, List.not_mem_nil, or_false] at hx
    rcases hx with rfl | rfl | rfl | rfl
    · exact (by decide : (10 : UInt8) ∉ sendW.data.toList)
    · exact nc
    · exact nw _
    · exact nw _
  · refine noC_join dc _ (fun x hx => ?_)
    simp only [List.mem_cons, List.not_mem_nil, or_false] at hx
    rcases hx with rfl | rfl | rfl | rfl | rfl
    · exact (by decide : (10 : UInt8) ∉ recvW.data.toList)
    · exact nc
    · exact nw _
    · exact nw _
    · exact nw _
theorem noC_sel10 (s : Y_Select) : noC 10 (selText s) := by
  unfold selText joined
  split
  · exact (by decide : (10 : UInt8) ∉ (⟨#[]⟩ : ByteArray).data.toList)
  · refine noC_join (by decide : (10 : UInt8) ∉ sp.data.toList) _ (fun x hx => ?_)
    rw [selL_eq] at hx
    simp only [List.mem_cons, List.mem_map] at hx
    rcases hx with rfl | rfl | ⟨c, _, rfl⟩
    · exact (by decide : (10 : UInt8) ∉ selW.data.toList)
    · unfold sw wordOf
      split
      · exact (by decide : (10 : UInt8) ∉ dash.data.toList)
      · exact noC_num (by decide) _
    · exact noC_case10 c
theorem noC_nums (w : ByteArray) (hw : noC 10 w) (l : List Int) : noC 10 (numsLine w l) := by
  unfold numsLine
  refine noC_join (by decide : (10 : UInt8) ∉ sp.data.toList) _ (fun x hx => ?_)
  simp only [List.mem_cons, List.mem_map] at hx
  rcases hx with rfl | ⟨n, _, rfl⟩
  · exact hw
  · exact noC_numQ (by decide) (by decide) n
theorem noC_lines (p : Y_Prog) : ∀ w ∈ linesQ p, noC 10 w := by
  intro w hw
  unfold linesQ stLines at hw
  simp only [List.mem_cons, List.mem_append, List.mem_map, List.mem_flatMap] at hw
  rcases hw with rfl | rfl | ⟨x, _, rfl⟩ | ⟨c, _, hw⟩
  · exact noC_nums _ (by decide : (10 : UInt8) ∉ chansW.data.toList) _
  · exact noC_nums _ (by decide : (10 : UInt8) ∉ mutexesW.data.toList) _
  · exact noC_sel10 x
  · rcases hw with rfl | ⟨i, _, rfl⟩
    · exact (by decide : (10 : UInt8) ∉ procW0.data.toList)
    · exact noC_instr i
/-! What both answer. -/
def zP : Y_Prog := ([], 0, [], [])
def runS (s : ByteArray) : PS × Bool := ((linesB s).drop 2).foldl specStep (([], []), false)
def specX (s : ByteArray) : Y_Prog := (numsOf (wd (linesB s) 0), (numsOf (wd (linesB s) 1)).getLast?.getD 0, (runS s).1.1, (runS s).1.2)
def textProg (s : ByteArray) : Y_Prog × Int :=
  if 20000 < s.size then (zP, 1) else if (runS s).2 = true ∨ textQ (specX s) ≠ s then (zP, 2) else if progOk (specX s) = true then (specX s, 0) else (zP, 3)
structure ProgIn (s : ByteArray) (st : PS) : Prop where
  two : 2 ≤ (linesB s).length
  last : s.data.toList.getLast? = some 10
  caps : numsIn chansW (wd (linesB s) 0)
  mus : numsIn mutexesW (wd (linesB s) 1)
  one : (cutB 32 (wd (linesB s) 1)).length = 2
  run : ((linesB s).drop 2).foldl implStep (some ([], [])) = some st
theorem getLast_one {l : List Int} (h : l.length = 1) : [l.getLast?.getD 0] = l := by
  match l, h with
  | [a], _ => rfl
theorem lines_two {L : List ByteArray} (h : 2 ≤ L.length) : L = wd L 0 :: wd L 1 :: L.drop 2 := by
  match L, h with
  | a :: b :: r, _ => rfl
theorem prog_yes {s : ByteArray} {st : PS} (h : ProgIn s st) : (runS s) = (st, false) ∧ textQ (specX s) = s := by
  obtain ⟨a, b⟩ := run_A _ _ _ h.run
  have hr : runS s = (st, false) := a
  refine ⟨hr, ?_⟩
  unfold textQ linesQ specX
  rw [hr]
  simp only
  have e1 := (nums_iff (by decide : (32 : UInt8) ∉ chansW.data.toList)).2 h.caps
  have e2 := (nums_iff (by decide : (32 : UInt8) ∉ mutexesW.data.toList)).2 h.mus
  have hl : (numsOf (wd (linesB s) 1)).length = 1 := by unfold numsOf; rw [List.length_map, List.length_drop, h.one]
  rw [getLast_one hl, e1, e2, show (st.1, st.2) = st from rfl, b]
  rw [show stLines ([], []) ++ (linesB s).drop 2 = (linesB s).drop 2 from rfl, ← lines_two h.two]
  exact catL_lines h.last
theorem prog_no {s : ByteArray} (h1 : (runS s).2 = false) (h2 : textQ (specX s) = s) : ProgIn s (runS s).1 := by
  have hL : linesB s = linesQ (specX s) := by
    conv => lhs; rw [← h2]
    unfold textQ
    exact lines_catL (noC_lines _)
  have h0 : wd (linesB s) 0 = numsLine chansW (specX s).1 := by rw [hL]; rfl
  have h1' : wd (linesB s) 1 = numsLine mutexesW [(specX s).2.1] := by rw [hL]; rfl
  have hd : (linesB s).drop 2 = stLines (runS s).1 := by
    conv => lhs; rw [hL]
    rfl
  have hlast : s.data.toList.getLast? = some 10 := by
    have hne : linesQ (specX s) ≠ [] := by unfold linesQ; simp
    obtain ⟨Q, x, hq⟩ : ∃ Q x, linesQ (specX s) = Q ++ [x] := ⟨_, _, (List.dropLast_concat_getLast hne).symm⟩
    have : s = catL (Q ++ [x]) := by rw [← hq]; exact h2.symm
    rw [this]
    exact catL_last x
  have hm2 : cutB 32 (wd (linesB s) 1) = [mutexesW, numQ (specX s).2.1] := by
    rw [h1']
    unfold numsLine
    refine cutB_joinB 32 _ (by simp) (fun x hx => ?_)
    simp only [List.map_cons, List.map_nil, List.mem_cons, List.not_mem_nil, or_false] at hx
    rcases hx with rfl | rfl
    · exact (by decide : (32 : UInt8) ∉ mutexesW.data.toList)
    · exact noC_numQ (by decide) (by decide) _
  have hone : (cutB 32 (wd (linesB s) 1)).length = 2 := by rw [hm2]; rfl
  have hl : (numsOf (wd (linesB s) 1)).length = 1 := by unfold numsOf; rw [List.length_map, List.length_drop, hone]
  have em : [(specX s).2.1] = numsOf (wd (linesB s) 1) := getLast_one hl
  refine ⟨by rw [hL]; unfold linesQ; simp, hlast, (nums_iff (by decide : (32 : UInt8) ∉ chansW.data.toList)).1 h0.symm, (nums_iff (by decide : (32 : UInt8) ∉ mutexesW.data.toList)).1 (by rw [← em]; exact h1'.symm), hone, ?_⟩
  refine run_B _ _ _ ?_ (by rw [hd]; rfl)
  exact Prod.ext rfl h1
theorem textProg_yes {s : ByteArray} {st : PS} (hz : ¬ 20000 < s.size) (h : ProgIn s st) : textProg s = if progOk (numsOf (wd (linesB s) 0), (numsOf (wd (linesB s) 1)).getLast?.getD 0, st.1, st.2) = true then ((numsOf (wd (linesB s) 0), (numsOf (wd (linesB s) 1)).getLast?.getD 0, st.1, st.2), 0) else (zP, 3) := by
  obtain ⟨a, b⟩ := prog_yes h
  unfold textProg
  rw [if_neg hz, if_neg (by rintro (e | e); rw [a] at e; cases e; exact e b)]
  unfold specX
  rw [a]
theorem textProg_no {s : ByteArray} (hz : ¬ 20000 < s.size) (h : ∀ st, ¬ ProgIn s st) : textProg s = (zP, 2) := by
  unfold textProg
  rw [if_neg hz, if_pos]
  cases h1 : (runS s).2 with
  | true => exact .inl rfl
  | false => exact .inr (fun e => h _ (prog_no h1 e))

/-! The text written anew: spec.l05Text on whatever was read. -/
theorem szB (a b : ByteArray) : (a ++ b).size = a.size + b.size := ByteArray.size_append
theorem app3 (a b c : ByteArray) : a ++ b ++ c = a ++ (b ++ c) := bx_ext (by simp [ByteArray.data_append])
theorem numQ_size (n : Int) : (numQ n).size ≤ 11 := by
  have := (numText_size n).1
  unfold numQ
  split
  · omega
  · rw [szB]; show _ + 1 ≤ 11; omega
theorem joinN_succ {w : ByteArray} {l : List Int} {i : Nat} (h : i < l.length) : joinB (w :: (l.take (i + 1)).map numQ) sp = joinB (w :: (l.take i).map numQ) sp ++ sp ++ numQ l[i] := by
  rw [List.take_succ_eq_append_getElem h, List.map_append]
  exact joinB_snoc w _ _ _
theorem joinN_size {w : ByteArray} {l : List Int} : ∀ i : Nat, i ≤ l.length → (joinB (w :: (l.take i).map numQ) sp).size ≤ w.size + 12 * i
  | 0, _ => by rw [List.take_zero, List.map_nil, joinB_one]; omega
  | i + 1, h => by
    have ih := joinN_size (w := w) (l := l) i (by omega)
    have := numQ_size l[i]
    rw [joinN_succ (by omega), szB, szB]
    have : sp.size = 1 := rfl
    omega
theorem s_l05NumsQ (s : ByteArray) (l : List Int) (hs : s.size ≤ 100) (hl : l.length ≤ 20001) : Spec Tryd.prog 76 [.ro (T.str s), .ro (.sl 1 (l.map T.int))] [T.str (numsLine s l ++ nl)] := by
  refine fn Tryd.func76 ?_
  repeat (first | refine brT ?_ | refine brF ?_ | refine And.intro rfl ?_ | refine And.intro trivial ?_ | intro _)
  refine loopR (fun i => ⟨26, [(0, .vv (.string (joinB (s :: (l.take i).map numQ) sp))), (7, .c (.ro 1 (l.map T.int))), (8, .int l.length), (9, .int i)], []⟩) l.length (fun _ => True) trivial (wk rfl ⟨(by rw [List.take_zero, List.map_nil, joinB_one]; rfl), rfl, lenm, rfl, trivial⟩ trivial) ?_
  intro i hi _
  have hz := joinN_size (w := s) (l := l) i hi
  refine brD (fun h => ?_) (fun h => ?_)
  · have h : i < l.length := by simpa using h
    have hn := (numText_size l[i]).1
    have hsu := joinN_succ (w := s) h
    refine ⟨nn i, T.int l[i], atm h, ?_⟩
    repeat (first | refine brT ?_ | refine brF ?_ | refine And.intro rfl ?_ | refine And.intro trivial ?_ | intro _)
    refine ⟨by show (joinB (s :: (l.take i).map numQ) sp).size + 1 ≤ _; omega, ?_⟩
    repeat (first | refine brT ?_ | refine brF ?_ | refine And.intro rfl ?_ | refine And.intro trivial ?_ | intro _)
    refine ⟨_, s_NumText l[i], ?_⟩
    repeat (first | refine brT ?_ | refine brF ?_ | refine And.intro rfl ?_ | refine And.intro trivial ?_ | intro _)
    refine ⟨by show (joinB (s :: (l.take i).map numQ) sp ++ sp).size + (numText l[i]).size ≤ _; rw [szB]; show _ + 1 + _ ≤ _; omega, ?_⟩
    repeat (first | refine brT ?_ | refine brF ?_ | refine And.intro rfl ?_ | refine And.intro trivial ?_ | intro _)
    refine ⟨_, s_l01Num l[i], ?_⟩
    cases hb : isNb l[i] with
    | true =>
      have hb' : decide (0 ≤ l[i] ∧ l[i] ≤ 4294967295) = true := hb
      rw [hb']
      repeat (first | refine brT ?_ | refine brF ?_ | refine And.intro rfl ?_ | refine And.intro trivial ?_ | intro _)
      refine nxtR h trivial (wk rfl ⟨?_, rfl, rfl, up1 h (by omega), trivial⟩ trivial)
      rw [hsu]; unfold numQ; rw [if_pos hb]; rfl
    | false =>
      have hb' : decide (0 ≤ l[i] ∧ l[i] ≤ 4294967295) = false := hb
      rw [hb']
      repeat (first | refine brT ?_ | refine brF ?_ | refine And.intro rfl ?_ | refine And.intro trivial ?_ | intro _)
      refine ⟨by show (joinB (s :: (l.take i).map numQ) sp ++ sp ++ numText l[i]).size + 1 ≤ _; rw [szB, szB]; show _ + 1 + _ + 1 ≤ _; omega, ?_⟩
      repeat (first | refine brT ?_ | refine brF ?_ | refine And.intro rfl ?_ | refine And.intro trivial ?_ | intro _)
      refine nxtR h trivial (wk rfl ⟨?_, rfl, rfl, up1 h (by omega), trivial⟩ trivial)
      rw [hsu]; unfold numQ; rw [if_neg (by rw [hb]; decide), ← app3]; rfl
  · have : i = l.length := by simp at h; omega
    subst this
    rw [List.take_length] at hz ⊢
    repeat (first | refine brT ?_ | refine brF ?_ | refine And.intro rfl ?_ | refine And.intro trivial ?_ | intro _)
    refine ⟨by show (joinB (s :: l.map numQ) sp).size + 1 ≤ _; omega, ?_⟩
    repeat (first | refine brT ?_ | refine brF ?_ | refine And.intro rfl ?_ | refine And.intro trivial ?_ | intro _)
    exact rfl
structure Bnd (p : Y_Prog) : Prop where
  caps : p.1.length ≤ 20001
  sels : p.2.2.1.length ≤ 20001
  cases : ∀ s ∈ p.2.2.1, s.1.length ≤ 20001
  procs : p.2.2.2.length ≤ 20001
  code : ∀ c ∈ p.2.2.2, c.length ≤ 20001
theorem catL_size {L : List ByteArray} {B : Nat} (h : ∀ w ∈ L, w.size ≤ B) : (catL L).size ≤ L.length * (B + 1) := by
  have key : ∀ (r : List ByteArray) (a : ByteArray), (∀ w ∈ r, w.size ≤ B) → (r.foldl (fun s x => s ++ x ++ nl) a).size ≤ a.size + r.length * (B + 1) := by
    intro r
    induction r with
    | nil => intro a _; simp
    | cons x r ih =>
      intro a h
      have h1 := ih (a ++ x ++ nl) (fun w hw => h w (by simp [hw]))
      have h2 := h x (by simp)
      rw [szB, szB] at h1
      have : nl.size = 1 := rfl
      rw [List.foldl_cons, List.length_cons, Nat.add_mul]
      omega
  have := key L e0 h
  have z : e0.size = 0 := rfl
  unfold catL
  omega
def procL (P : List Y_Proc) : List ByteArray := P.flatMap fun c => procW0 :: c.map instrText
theorem procL_len {P : List Y_Proc} (h : ∀ c ∈ P, c.length ≤ 20001) : (procL P).length ≤ P.length * 20002 := by
  induction P with
  | nil => simp [procL]
  | cons c P ih =>
    have h1 := ih (fun x hx => h x (by simp [hx]))
    have h2 := h c (by simp)
    unfold procL at h1 ⊢
    rw [List.flatMap_cons, List.length_append, List.length_cons, List.length_cons, List.length_map, Nat.add_mul]
    omega
def headL (p : Y_Prog) : List ByteArray := [numsLine chansW p.1, numsLine mutexesW [p.2.1]]
/-- Lines that may come: not too long, not too many. -/
theorem lines_small {p : Y_Prog} (h : Bnd p) {S : List Y_Select} {P : List Y_Proc} {c : Y_Proc} (hS : ∀ x ∈ S, x ∈ p.2.2.1) (hSl : S.length ≤ 20001) (hP : ∀ x ∈ P, x ∈ p.2.2.2) (hPl : P.length ≤ 20001) (hc : c.length ≤ 20001) :
    (catL (headL p ++ S.map selText ++ procL P ++ (procW0 :: c.map instrText))).size ≤ 1000000000000000 ∧ (catL (headL p ++ S.map selText ++ procL P)).size ≤ 1000000000000000 := by
  have hsz : ∀ w ∈ headL p ++ S.map selText ++ procL P ++ (procW0 :: c.map instrText), w.size ≤ 1300000 := by
    intro w hw
    simp only [headL, procL, List.mem_append, List.mem_cons, List.mem_map, List.mem_flatMap, List.not_mem_nil, or_false] at hw
    have iT : ∀ i : Y_Instr, (instrText i).size ≤ 1300000 := fun i => by
      unfold instrText
      split
      · exact Nat.zero_le _
      rename_i h1
      split
      · have hf : ¬ fieldsOf i.1 < 0 := fun e => h1 (.inl e)
        have hin := op_in hf
        have := joinW_size (i := i) ⟨hin.1, hin.2.1⟩ (fieldsOf i.1).toNat
        omega
      · exact Nat.zero_le _
    rcases hw with (((rfl | rfl) | ⟨x, hx, rfl⟩) | ⟨d, _, rfl | ⟨i, _, rfl⟩⟩) | rfl | ⟨i, _, rfl⟩
    · have := joinN_size (w := chansW) (l := p.1) p.1.length (Nat.le_refl _)
      rw [List.take_length] at this
      have e : chansW.size = 5 := rfl
      have := h.caps
      unfold numsLine; omega
    · have := joinN_size (w := mutexesW) (l := [p.2.1]) 1 (Nat.le_refl _)
      have e : mutexesW.size = 7 := rfl
      unfold numsLine
      exact Nat.le_trans this (by omega)
    · have h1 := joinS_size x x.1.length (Nat.le_refl _)
      have h2 := h.cases x (hS x hx)
      unfold selText joined
      split
      · exact Nat.zero_le _
      · omega
    · decide
    · exact iT i
    · decide
    · exact iT i
  have hPc : ∀ x ∈ P, x.length ≤ 20001 := fun x hx => h.code x (hP x hx)
  have hpl := procL_len hPc
  constructor
  · have := catL_size hsz
    simp only [headL, List.length_append, List.length_cons, List.length_map, List.length_nil] at this ⊢
    refine Nat.le_trans this ?_
    omega
  · have := catL_size (fun w hw => hsz w (List.mem_append_left _ hw))
    simp only [headL, List.length_append, List.length_cons, List.length_map, List.length_nil] at this ⊢
    refine Nat.le_trans this ?_
    omega

theorem takeMem {α : Type} {l : List α} {j : Nat} : ∀ x ∈ l.take j, x ∈ l := fun x hx => List.mem_of_mem_take hx
theorem procL_snoc (P : List Y_Proc) (c : Y_Proc) : procL (P ++ [c]) = procL P ++ (procW0 :: c.map instrText) := by simp [procL]
theorem catL_app (L : List ByteArray) (x : ByteArray) (M : List ByteArray) : catL (L ++ (M ++ [x])) = catL (L ++ M) ++ x ++ nl := by rw [← List.append_assoc, catL_snoc]
theorem s_l05TextQ (p : Y_Prog) (h : Bnd p) : Spec Tryd.prog 46 [.ro (t_Prog p)] [T.str (textQ p)] := by
  have k2 := h.sels
  have k3 := h.procs
  refine fn Tryd.func46 ?_
  intro q1
  repeat (first | refine brT ?_ | refine brF ?_ | refine And.intro rfl ?_ | refine And.intro trivial ?_ | intro _)
  have c1 := s_l05NumsQ chansW p.1 (by decide) h.caps
  have c2 := s_l05NumsQ mutexesW [p.2.1] (by decide) (by simp)
  have z0 := (lines_small h (S := []) (P := []) (c := []) (fun _ h => (by cases h)) (Nat.zero_le _) (fun _ h => (by cases h)) (Nat.zero_le _) (Nat.zero_le _)).2
  have hh : numsLine chansW p.1 ++ nl ++ (numsLine mutexesW [p.2.1] ++ nl) = catL (headL p) := by
    unfold headL catL
    rw [List.foldl_cons, List.foldl_cons, List.foldl_nil, ← app3]
    exact bx_ext (by simp [ByteArray.data_append])
  have z1 : (numsLine chansW p.1 ++ nl ++ (numsLine mutexesW [p.2.1] ++ nl)).size ≤ 1000000000000000 := by
    rw [hh]
    simpa [procL] using z0
  rw [szB] at z1
  refine drM0 (Pl.go 0 (Pl.go 3 ((Pl.go 1 ((Pl.go 2 (Pl.go 4 (Pl.go 5 (Pl.go 6 (Pl.go 7 (Pl.go 8 Pl.stop)))))).or (Pl.go 4 ((Pl.go 2 (Pl.go 5 (Pl.go 6 (Pl.go 7 (Pl.go 8 Pl.stop))))).or (Pl.go 5 (Pl.go 2 (Pl.go 6 (Pl.go 7 (Pl.go 8 Pl.stop))))))))).or (Pl.go 4 ((Pl.go 1 ((Pl.go 2 (Pl.go 5 (Pl.go 6 (Pl.go 7 (Pl.go 8 Pl.stop))))).or (Pl.go 5 (Pl.go 2 (Pl.go 6 (Pl.go 7 (Pl.go 8 Pl.stop))))))).or (Pl.go 5 (Pl.go 1 (Pl.go 2 (Pl.go 6 (Pl.go 7 (Pl.go 8 Pl.stop))))))))))) (fun m => ∃ x : Nat, m = ⟨55, [(1, .c (.bx 2000 q1 0)), (3, .vv (.string (catL (headL p))))], [(2000, .box q1 (t_Prog p).a2.cells)]⟩) (by kernel_rfl) ?_ ?_
  · rw [← hh]
    repeat' (first | (first | refine brT ?_ | refine brF ?_ | refine And.intro rfl ?_ | refine And.intro trivial ?_ | intro _) | refine ⟨_, c1, ?_⟩ | refine ⟨_, c2, ?_⟩ | refine ⟨fun t ht => (by simp at ht; subst ht; rfl), fun _ => ?_⟩ | refine And.intro ?_ ?_)
    all_goals first
      | (show (numsLine chansW p.1 ++ nl).size + (numsLine mutexesW [p.2.1] ++ nl).size ≤ _; omega)
      | exact ⟨_, ⟨0, rfl⟩, wk rfl ⟨rfl, rfl, trivial⟩ ⟨rfl, trivial⟩⟩
  rintro m ⟨_, rfl⟩
  repeat (first | refine brT ?_ | refine brF ?_ | refine And.intro rfl ?_ | refine And.intro trivial ?_ | intro _)
  refine loopR (fun j => ⟨55, [(1, .c (.bx 2000 q1 0)), (3, .vv (.string (catL (headL p ++ (p.2.2.1.take j).map selText)))), (19, .c (.ro 2 (p.2.2.1.map t_Select))), (20, .int p.2.2.1.length), (21, .int j)], [(2000, .box q1 (t_Prog p).a2.cells)]⟩) p.2.2.1.length (fun _ => True) trivial (wk rfl ⟨rfl, by simp; rfl, rfl, lenm, rfl, trivial⟩ ⟨rfl, trivial⟩) ?_
  intro j hj _
  refine brD (fun hlt => ?_) (fun hlt => ?_)
  · have hlt : j < p.2.2.1.length := by simpa using hlt
    have hcs := h.cases _ (List.getElem_mem hlt)
    have e1 : catL (headL p ++ (p.2.2.1.take (j + 1)).map selText) = catL (headL p ++ (p.2.2.1.take j).map selText) ++ selText p.2.2.1[j] ++ nl := by
      rw [List.take_succ_eq_append_getElem hlt, List.map_append]
      exact catL_app _ _ _
    have z2 := (lines_small h (S := p.2.2.1.take (j + 1)) (P := []) (c := []) takeMem (by rw [List.length_take]; omega) (fun _ h => (by cases h)) (Nat.zero_le _) (Nat.zero_le _)).2
    rw [show procL [] = [] from rfl, List.append_nil, e1, szB, szB] at z2
    refine ⟨nn j, t_Select p.2.2.1[j], atm hlt, ?_⟩
    repeat (first | refine brT ?_ | refine brF ?_ | refine And.intro rfl ?_ | refine And.intro trivial ?_ | intro _)
    refine ⟨_, s_SelectText p.2.2.1[j] (by unfold bound; omega), ?_⟩
    repeat (first | refine brT ?_ | refine brF ?_ | refine And.intro rfl ?_ | refine And.intro trivial ?_ | intro _)
    refine ⟨by show (catL (headL p ++ (p.2.2.1.take j).map selText)).size + (selText p.2.2.1[j]).size ≤ _; omega, ?_⟩
    repeat (first | refine brT ?_ | refine brF ?_ | refine And.intro rfl ?_ | refine And.intro trivial ?_ | intro _)
    refine ⟨by show (catL (headL p ++ (p.2.2.1.take j).map selText) ++ selText p.2.2.1[j]).size + 1 ≤ _; rw [szB]; omega, ?_⟩
    repeat (first | refine brT ?_ | refine brF ?_ | refine And.intro rfl ?_ | refine And.intro trivial ?_ | intro _)
    exact nxtR hlt trivial (wk rfl ⟨rfl, (by rw [e1]; rfl), rfl, rfl, up1 hlt (by omega), trivial⟩ ⟨rfl, trivial⟩)
  have hj2 : j = p.2.2.1.length := by simp at hlt; omega
  subst hj2
  rw [List.take_length]
  repeat (first | refine brT ?_ | refine brF ?_ | refine And.intro rfl ?_ | refine And.intro trivial ?_ | intro _)
  refine loopR (fun j => ⟨55, [(1, .c (.bx 2000 q1 0)), (3, .vv (.string (catL (headL p ++ p.2.2.1.map selText ++ procL (p.2.2.2.take j))))), (32, .c (.ro 1 (p.2.2.2.map t_Proc))), (33, .int p.2.2.2.length), (34, .int j)], [(2000, .box q1 (t_Prog p).a2.cells)]⟩) p.2.2.2.length (fun _ => True) trivial (wk rfl ⟨rfl, by simp [procL]; rfl, rfl, lenm, rfl, trivial⟩ ⟨rfl, trivial⟩) ?_
  intro j hj _
  refine brD (fun hlt => ?_) (fun hlt => ?_)
  · have hlt : j < p.2.2.2.length := by simpa using hlt
    have hcd := h.code _ (List.getElem_mem hlt)
    refine ⟨nn j, t_Proc p.2.2.2[j], atm hlt, ?_⟩
    have hts : p.2.2.2.take (j + 1) = p.2.2.2.take j ++ [p.2.2.2[j]] := List.take_succ_eq_append_getElem hlt
    obtain ⟨c, hc0⟩ : ∃ c, c = p.2.2.2[j] := ⟨_, rfl⟩
    rw [← hc0] at hcd hts
    rw [← hc0]
    have zz := fun i => lines_small h (S := p.2.2.1) (P := p.2.2.2.take j) (c := c.take i) (fun _ h => h) k2 takeMem (by rw [List.length_take]; omega) (by rw [List.length_take]; omega)
    have e0' : catL (headL p ++ p.2.2.1.map selText ++ procL (p.2.2.2.take j) ++ (procW0 :: (c.take 0).map instrText)) = catL (headL p ++ p.2.2.1.map selText ++ procL (p.2.2.2.take j)) ++ (⟨#[112, 114, 111, 99, 10]⟩ : ByteArray) := by
      rw [List.take_zero, List.map_nil, catL_snoc, app3]; rfl
    repeat (first | refine brT ?_ | refine brF ?_ | refine And.intro rfl ?_ | refine And.intro trivial ?_ | intro _)
    refine ⟨by show (catL (headL p ++ p.2.2.1.map selText ++ procL (p.2.2.2.take j))).size + 5 ≤ _; have := (zz 0).2; omega, ?_⟩
    repeat (first | refine brT ?_ | refine brF ?_ | refine And.intro rfl ?_ | refine And.intro trivial ?_ | intro _)
    refine loopR (fun i => ⟨55, [(1, .c (.bx 2000 q1 0)), (3, .vv (.string (catL (headL p ++ p.2.2.1.map selText ++ procL (p.2.2.2.take j) ++ (procW0 :: (c.take i).map instrText))))), (32, .c (.ro 1 (p.2.2.2.map t_Proc))), (33, .int p.2.2.2.length), (34, .int j), (41, .c (.ro 4 (c.map t_Instr))), (42, .int c.length), (43, .int i)], [(2000, .box q1 (t_Prog p).a2.cells)]⟩) c.length (fun _ => True) trivial (wk rfl ⟨rfl, by rw [e0']; rfl, rfl, rfl, rfl, rfl, lenm, rfl, trivial⟩ ⟨rfl, trivial⟩) ?_
    intro i hi _
    refine brD (fun h2 => ?_) (fun h2 => ?_)
    · have h2 : i < c.length := by simpa using h2
      have e1 : catL (headL p ++ p.2.2.1.map selText ++ procL (p.2.2.2.take j) ++ (procW0 :: (c.take (i + 1)).map instrText)) = catL (headL p ++ p.2.2.1.map selText ++ procL (p.2.2.2.take j) ++ (procW0 :: (c.take i).map instrText)) ++ instrText c[i] ++ nl := by
        rw [List.take_succ_eq_append_getElem h2, List.map_append]
        exact catL_app _ _ (procW0 :: (c.take i).map instrText)
      have z2 := (zz (i + 1)).1
      rw [e1, szB, szB] at z2
      refine ⟨nn i, t_Instr c[i], atm h2, ?_⟩
      repeat (first | refine brT ?_ | refine brF ?_ | refine And.intro rfl ?_ | refine And.intro trivial ?_ | intro _)
      refine ⟨_, s_InstrText c[i], ?_⟩
      repeat (first | refine brT ?_ | refine brF ?_ | refine And.intro rfl ?_ | refine And.intro trivial ?_ | intro _)
      refine ⟨by show (catL (headL p ++ p.2.2.1.map selText ++ procL (p.2.2.2.take j) ++ (procW0 :: (c.take i).map instrText))).size + (instrText c[i]).size ≤ _; omega, ?_⟩
      repeat (first | refine brT ?_ | refine brF ?_ | refine And.intro rfl ?_ | refine And.intro trivial ?_ | intro _)
      refine ⟨by show (catL (headL p ++ p.2.2.1.map selText ++ procL (p.2.2.2.take j) ++ (procW0 :: (c.take i).map instrText)) ++ instrText c[i]).size + 1 ≤ _; rw [szB]; omega, ?_⟩
      repeat (first | refine brT ?_ | refine brF ?_ | refine And.intro rfl ?_ | refine And.intro trivial ?_ | intro _)
      exact nxtR h2 trivial (wk rfl ⟨rfl, (by rw [e1]; rfl), rfl, rfl, rfl, rfl, rfl, up1 h2 (by omega), trivial⟩ ⟨rfl, trivial⟩)
    · have hi2 : i = c.length := by simp at h2; omega
      subst hi2
      rw [List.take_length]
      repeat (first | refine brT ?_ | refine brF ?_ | refine And.intro rfl ?_ | refine And.intro trivial ?_ | intro _)
      exact nxtR hlt trivial (wk rfl ⟨rfl, (by rw [hts, procL_snoc, ← List.append_assoc]; rfl), rfl, rfl, up1 hlt (by omega), trivial⟩ ⟨rfl, trivial⟩)
  have hj3 : j = p.2.2.2.length := by simp at hlt; omega
  subst hj3
  rw [List.take_length]
  repeat (first | refine brT ?_ | refine brF ?_ | refine And.intro rfl ?_ | refine And.intro trivial ?_ | intro _)
  exact rfl


end Go.Proofs.YtphikogfogejlaaDoor.E
