/- Contracts of functions of this seat's program. -/
import Derived.Test.YtphikogfogejlaaDoorETy
import Derived.Test.YtphikogfogejlaaDoorEJn
import Derived.Test.YtphikogfogejlaaDoorETx
import Derived.Lib.Join
namespace Go.Proofs.YtphikogfogejlaaDoor.E
set_option linter.unusedVariables false
set_option linter.unusedSimpArgs false
set_option maxHeartbeats 1600000
theorem ba_ext {a b : ByteArray} (h : a.data.toList = b.data.toList) : a = b := by
  obtain ⟨⟨a⟩⟩ := a
  obtain ⟨⟨b⟩⟩ := b
  simp at h
  rw [h]
theorem joinB_data (l : List ByteArray) (sep : ByteArray) : (joinB l sep).data.toList = Lib.join (l.map (·.data.toList)) sep.data.toList := by simp [joinB]
theorem joinB_one (x sep : ByteArray) : joinB [x] sep = x := ba_ext (by rw [joinB_data]; exact Lib.join_one _ _)
theorem joinB_snoc (x : ByteArray) (r : List ByteArray) (y sep : ByteArray) : joinB (x :: (r ++ [y])) sep = joinB (x :: r) sep ++ sep ++ y := by
  refine ba_ext ?_
  rw [ByteArray.data_append, ByteArray.data_append, Array.toList_append, Array.toList_append, joinB_data, joinB_data, List.map_cons, List.map_cons, Lib.join_cons, Lib.join_cons]
  simp [Lib.joinTail]
def isE (a : ByteArray) : Bool := a.toList == (⟨#[]⟩ : ByteArray).toList
theorem isE_iff (a : ByteArray) : isE a = decide (a.size = 0) := by
  unfold isE
  rw [ByteArray.toList_eq, ByteArray.toList_eq]
  obtain ⟨⟨a⟩⟩ := a
  cases a with
  | nil => rfl
  | cons x r => simp [ByteArray.size]
def joined (l : List ByteArray) (sep : ByteArray) : ByteArray := if l.any isE then ⟨#[]⟩ else joinB l sep
theorem i_joined (l : List ByteArray) (sep : ByteArray) (hl : l.length ≤ bound) (hz : (joinB l sep).size ≤ 140737488355328) : Spec Tryd.prog 66 [.ro (.sl 1 (l.map T.str)), .ro (T.str sep)] [T.str (joined l sep)] := by
  have hl' : l.length ≤ 16777216 := hl
  refine fn Tryd.func66 ?_
  repeat (first | refine brT ?_ | refine brF ?_ | refine And.intro rfl ?_ | refine And.intro trivial ?_ | intro _)
  refine loopR (fun i => ⟨19, [(0, .c (.ro 1 (l.map T.str))), (1, .vv (.string sep)), (7, .c (.ro 1 (l.map T.str))), (8, .int l.length), (9, .int i)], []⟩) l.length (fun i => ∀ j (hj : j < l.length), j < i → isE l[j] = false) (fun j _ h => absurd h (by omega)) (wk rfl ⟨rfl, rfl, rfl, lenm, rfl, trivial⟩ trivial) ?_
  intro i hi hI
  refine brD (fun h => ?_) (fun h => ?_)
  · have h : i < l.length := by simpa using h
    refine ⟨nn i, T.str l[i], atm h, ?_⟩
    repeat (first | refine brT ?_ | refine brF ?_ | refine And.intro rfl ?_ | refine And.intro trivial ?_ | intro _)
    refine brI (fun h1 => ?_) (fun h1 => ?_)
    · have h1 : isE l[i] = true := h1
      have e : joined l sep = ⟨#[]⟩ := if_pos (List.any_eq_true.2 ⟨l[i], List.getElem_mem h, h1⟩)
      rw [e]
      repeat (first | refine brT ?_ | refine brF ?_ | refine And.intro rfl ?_ | refine And.intro trivial ?_ | intro _)
      exact rfl
    · have h1 : isE l[i] = false := h1
      repeat (first | refine brT ?_ | refine brF ?_ | refine And.intro rfl ?_ | refine And.intro trivial ?_ | intro _)
      refine nxtR h ?_ (wk rfl ⟨rfl, rfl, rfl, rfl, up1 h hl', trivial⟩ trivial)
      intro j hj h2
      by_cases h3 : j = i
      · subst h3; exact h1
      · exact hI j hj (by omega)
  · have h : i = l.length := by simp at h; omega
    have e : joined l sep = joinB l sep := if_neg (by
      rw [List.any_eq_true]
      rintro ⟨x, hx, hx2⟩
      obtain ⟨j, hj, rfl⟩ := List.mem_iff_getElem.1 hx
      rw [hI j hj (by omega)] at hx2
      cases hx2)
    rw [e]
    repeat (first | refine brT ?_ | refine brF ?_ | refine And.intro rfl ?_ | refine And.intro trivial ?_ | intro _)
    refine ⟨_, s_Join l sep (by omega) hz, ?_⟩
    repeat (first | refine brT ?_ | refine brF ?_ | refine And.intro rfl ?_ | refine And.intro trivial ?_ | intro _)
    exact rfl
abbrev sp : ByteArray := ⟨#[32]⟩
def ag (i : Y_Instr) (j : Nat) : Int := [i.2.1, i.2.2.1, i.2.2.2].getD j 0
def cj (i : Y_Instr) (j : Nat) : Bool := j == 0 && isCh i.1
def ws (i : Y_Instr) (j : Nat) : ByteArray := wordOf (ag i j) (cj i j) nilW
def okj (i : Y_Instr) (j : Nat) : Bool := okW (ag i j) (cj i j)
def words (i : Y_Instr) (j : Nat) : List ByteArray := opWord i.1 :: (List.range j).map (ws i)
def instrText (i : Y_Instr) : ByteArray := if fieldsOf i.1 < 0 ∨ restOk i (fieldsOf i.1) = false then ⟨#[]⟩ else if (List.range (fieldsOf i.1).toNat).all (okj i) then joinB (words i (fieldsOf i.1).toNat) sp else ⟨#[]⟩
theorem words_succ (i : Y_Instr) (j : Nat) : words i (j + 1) = words i j ++ [ws i j] := by simp [words, List.range_succ]
theorem joinW_succ (i : Y_Instr) (j : Nat) : joinB (words i (j + 1)) sp = joinB (words i j) sp ++ sp ++ ws i j := by
  unfold words
  rw [List.range_succ, List.map_append]
  exact joinB_snoc _ _ _ _
theorem op_in {op : Int} (h : ¬ fieldsOf op < 0) : 1 ≤ op ∧ op ≤ 15 ∧ 0 ≤ fieldsOf op ∧ fieldsOf op ≤ 3 := by
  unfold fieldsOf at h ⊢
  repeat' split at h
  all_goals first | omega | skip
  all_goals (repeat' split) <;> omega
theorem opWord_size {op : Int} (h : 1 ≤ op ∧ op ≤ 15) : 1 ≤ (opWord op).size ∧ (opWord op).size ≤ 8 := by
  have : op = 1 ∨ op = 2 ∨ op = 3 ∨ op = 4 ∨ op = 5 ∨ op = 6 ∨ op = 7 ∨ op = 8 ∨ op = 9 ∨ op = 10 ∨ op = 11 ∨ op = 12 ∨ op = 13 ∨ op = 14 ∨ op = 15 := by omega
  rcases this with rfl | rfl | rfl | rfl | rfl | rfl | rfl | rfl | rfl | rfl | rfl | rfl | rfl | rfl | rfl <;> exact ⟨by decide, by decide⟩
theorem numText_size (n : Int) : (numText n).size ≤ 10 ∧ ((numText n).size = 0 ↔ ¬ (0 ≤ n ∧ n ≤ 4294967295)) := by
  unfold numText
  split
  · rename_i h
    have := ntF_size 9 n.toNat
    exact ⟨by omega, by omega, fun h2 => absurd h h2⟩
  · rename_i h
    exact ⟨Nat.zero_le _, fun _ => h, fun _ => rfl⟩
theorem ws_size (i : Y_Instr) (j : Nat) : (ws i j).size ≤ 10 ∧ isE (ws i j) = !okj i j := by
  have hn := numText_size (ag i j)
  unfold ws wordOf okj okW
  rw [isE_iff]
  split
  · rename_i h
    refine ⟨by decide, ?_⟩
    rw [h.1, h.2]; rfl
  · rename_i h
    refine ⟨hn.1, ?_⟩
    have e : (cj i j && ag i j == -1) = false := by
      cases hc : cj i j with
      | false => rfl
      | true => have : ¬ ag i j = -1 := fun e => h ⟨hc, e⟩; simpa using this
    rw [e, Bool.false_or]
    by_cases hk : 0 ≤ ag i j ∧ ag i j ≤ 4294967295
    · rw [decide_eq_true hk, decide_eq_false (fun e => hn.2.1 e hk)]; rfl
    · rw [decide_eq_false hk, decide_eq_true (hn.2.2 hk)]; rfl
theorem joinW_size {i : Y_Instr} (h : 1 ≤ i.1 ∧ i.1 ≤ 15) : ∀ j : Nat, (joinB (words i j) sp).size ≤ 8 + 11 * j
  | 0 => by
    have := opWord_size h
    show (joinB [opWord i.1] sp).size ≤ _
    rw [joinB_one]; omega
  | j + 1 => by
    have := joinW_size h j
    have h2 := ws_size i j
    rw [joinW_succ, size_app, size_app]
    have : sp.size = 1 := rfl
    omega
theorem restOk_iff {i : Y_Instr} {k : Int} (h0 : 0 ≤ k) (h3 : k ≤ 3) : restOk i k = true ↔ ∀ j : Nat, j < 3 → k ≤ j → ag i j = 0 := by
  unfold restOk
  simp only [Bool.and_eq_true, Bool.or_eq_true, decide_eq_true_eq, beq_iff_eq]
  constructor
  · rintro ⟨⟨a, b⟩, c⟩ j hj hk
    have : j = 0 ∨ j = 1 ∨ j = 2 := by omega
    rcases this with rfl | rfl | rfl
    · exact a.resolve_left (by omega)
    · exact b.resolve_left (by omega)
    · exact c.resolve_left (by omega)
  · intro h
    refine ⟨⟨?_, ?_⟩, ?_⟩
    · by_cases hk : k > 0
      · exact .inl hk
      · exact .inr (h 0 (by decide) (by omega))
    · by_cases hk : k > 1
      · exact .inl hk
      · exact .inr (h 1 (by decide) (by omega))
    · by_cases hk : k > 2
      · exact .inl hk
      · exact .inr (h 2 (by decide) (by omega))


end Go.Proofs.YtphikogfogejlaaDoor.E
