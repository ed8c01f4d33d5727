/- Contracts of functions of this seat's program. -/
import Derived.Test.YtadpancnhinlbaaETy
namespace Go.Proofs.Ytadpancnhinlbaa.E
set_option linter.unusedVariables false
set_option linter.unusedSimpArgs false
set_option maxHeartbeats 1600000
theorem brI {b : Bool} {A B : Prop} (h1 : b = true → A) (h2 : b = false → B) : Br b A B := ⟨h1, h2⟩
theorem brT {A B : Prop} (h1 : A) : Br true A B := ⟨fun _ => h1, fun h => by cases h⟩
theorem brF {A B : Prop} (h1 : B) : Br false A B := ⟨fun h => (by cases h), fun _ => h1⟩
/-- A test over numbers. -/
theorem brD {p : Prop} [Decidable p] {A B : Prop} (h1 : p → A) (h2 : ¬ p → B) : Br (decide p) A B := ⟨fun h => h1 (of_decide_eq_true h), fun h => h2 (of_decide_eq_false h)⟩
theorem brDT {p : Prop} [Decidable p] {A B : Prop} (h : p) (h1 : A) : Br (decide p) A B := ⟨fun _ => h1, fun h' => absurd h (of_decide_eq_false h')⟩
theorem brDF {p : Prop} [Decidable p] {A B : Prop} (h : ¬ p) (h1 : B) : Br (decide p) A B := ⟨fun h' => absurd (of_decide_eq_true h') h, fun _ => h1⟩
abbrev w64 (n : Int) : Int := IntKind.wrap .i64 n
theorem w64_id {n : Int} (h1 : -9223372036854775808 ≤ n) (h2 : n ≤ 9223372036854775807) : w64 n = n := by
  show IntKind.wrap .i64 n = n
  rw [IntKind.wrap_i64]; omega
def allT (s : St) : List (Nat × AV) → Prop
  | [] => True
  | (d, x) :: r => s.get d = x ∧ allT s r
def allO (s : St) : List (Nat × Ob) → Prop
  | [] => True
  | (d, x) :: r => look s.ob d = some x ∧ allO s r
theorem allT_out {s : St} : ∀ {l : List (Nat × AV)}, allT s l → ∀ p ∈ l, s.get p.1 = p.2
  | [], _, p, h => by cases h
  | (d, x) :: r, h, p, hp => by
    rcases List.mem_cons.1 hp with rfl | hp
    · exact h.1
    · exact allT_out h.2 p hp
theorem allO_out {s : St} : ∀ {l : List (Nat × Ob)}, allO s l → ∀ p ∈ l, look s.ob p.1 = some p.2
  | [], _, p, h => by cases h
  | (d, x) :: r, h, p, hp => by
    rcases List.mem_cons.1 hp with rfl | hp
    · exact h.1
    · exact allO_out h.2 p hp
theorem wk {s : St} {n : Nat} {tm : List (Nat × AV)} {ob : List (Nat × Ob)} (h1 : n = s.n) (h2 : allT s tm) (h3 : allO s ob) : weaker s ⟨n, tm, ob⟩ := weaker_of h1 (allT_out h2) (allO_out h3)
/-- A loop: what its head knows goes by x; each round makes the measure smaller. -/
def Next {α : Type} (mk : α → St) (μ : α → Nat) (I : α → Prop) (n : Nat) (s' : St) : Prop := ∃ m s'', m < n ∧ (∃ x, I x ∧ μ x = m ∧ s'' = mk x) ∧ weaker s' s''
theorem nxt {α : Type} {mk : α → St} {μ : α → Nat} {I : α → Prop} {n : Nat} {s' : St} (y : α) (hy : I y) (hm : μ y < n) (hw : weaker s' (mk y)) : Next mk μ I n s' := ⟨μ y, mk y, hm, ⟨y, hy, rfl, rfl⟩, hw⟩
theorem loopI {α : Type} {F : St → (Ex → St → Prop) → Prop} {s : St} {Q : Ex → St → Prop} (mk : α → St) (μ : α → Nat) (I : α → Prop) (x0 : α) (h0 : I x0) (hw : weaker s (mk x0))
    (h : ∀ x, I x → F (mk x) (fun e s' => match e with
      | .normal => Next mk μ I (μ x) s'
      | e => Q e s')) : Looped F s Q := by
  refine ⟨fun n s => ∃ x, I x ∧ μ x = n ∧ s = mk x, .here ⟨μ x0, x0, h0, rfl, rfl⟩ hw, ?_⟩
  rintro n s ⟨x, hx, rfl, rfl⟩
  exact h x hx
/-- The same, entered by 'Entry'. -/
theorem loopE {α : Type} {F : St → (Ex → St → Prop) → Prop} {s : St} {Q : Ex → St → Prop} (mk : α → St) (μ : α → Nat) (I : α → Prop) (he : Entry (fun s0 => ∃ x, I x ∧ s0 = mk x) s)
    (h : ∀ x, I x → F (mk x) (fun e s' => match e with
      | .normal => Next mk μ I (μ x) s'
      | e => Q e s')) : Looped F s Q := by
  refine ⟨fun n s => ∃ x, I x ∧ μ x = n ∧ s = mk x, ?_, ?_⟩
  · have e : (fun s0 => ∃ x, I x ∧ s0 = mk x) = (fun s0 => ∃ n, ∃ x, I x ∧ μ x = n ∧ s0 = mk x) := funext fun s0 => propext ⟨fun ⟨x, a, b⟩ => ⟨μ x, x, a, rfl, b⟩, fun ⟨_, x, a, _, b⟩ => ⟨x, a, b⟩⟩
    rw [← e]; exact he
  rintro n s ⟨x, hx, rfl, rfl⟩
  exact h x hx
theorem fill_set {α : Type} (xs : List α) (z : α) (n i : Nat) (hn : xs.length = n) (h : i < n) : (xs.take i ++ List.replicate (n - i) z).set i (xs[i]'(by omega)) = xs.take (i + 1) ++ List.replicate (n - (i + 1)) z := by
  rw [List.set_append_right i _ (by simp; omega)]
  rw [List.length_take, Nat.min_eq_left (by omega), Nat.sub_self]
  obtain ⟨m, hm⟩ : ∃ m, n - i = m + 1 := ⟨n - i - 1, by omega⟩
  rw [hm, List.replicate_succ, List.set_cons_zero, List.take_succ_eq_append_getElem (by omega), List.append_assoc, show n - (i + 1) = m by omega]
  rfl

theorem tb {a b : Bool} (h : a = b) : [T.bool a] = [T.bool b] := by rw [h]
theorem ti {a b : Int} (h : a = b) : [T.int a] = [T.int b] := by rw [h]
theorem tbt {a : Bool} (h : a = true) : [T.bool true] = [T.bool a] := by rw [h]
theorem tbf {a : Bool} (h : a = false) : [T.bool false] = [T.bool a] := by rw [h]
/-- A range loop's head: round i of n, at the temp d. -/
theorem loopR {F : St → (Ex → St → Prop) → Prop} {s : St} {Q : Ex → St → Prop} (mk : Nat → St) (n : Nat) (I : Nat → Prop) (h0 : I 0) (hw : weaker s (mk 0))
    (h : ∀ i, i ≤ n → I i → F (mk i) (fun e s' => match e with
      | .normal => Next mk (fun i => n - i) (fun i => i ≤ n ∧ I i) (n - i) s'
      | e => Q e s')) : Looped F s Q := by
  refine loopI mk (fun i => n - i) (fun i => i ≤ n ∧ I i) 0 ⟨Nat.zero_le _, h0⟩ hw ?_
  rintro i ⟨h1, h2⟩
  exact h i h1 h2
theorem nxtR {mk : Nat → St} {n i : Nat} {I : Nat → Prop} {s' : St} (hi : i < n) (h : I (i + 1)) (hw : weaker s' (mk (i + 1))) : Next mk (fun i => n - i) (fun i => i ≤ n ∧ I i) (n - i) s' :=
  nxt (i + 1) ⟨hi, h⟩ (by show n - (i + 1) < n - i; omega) hw
theorem up1 {n i : Nat} (h : i < n) (hn : n ≤ 16777216) : AV.int (w64 (i + 1)) = AV.int ((i + 1 : Nat) : Int) := by
  rw [w64_id (by omega) (by omega)]; rfl
theorem all_step {α : Type} {l : List α} {p : α → Bool} {i : Nat} (hi : i < l.length) (h : ∀ j (hj : j < l.length), j < i → p l[j] = true) (hp : p l[i] = true) : ∀ j (hj : j < l.length), j < i + 1 → p l[j] = true := by
  intro j hj h1
  by_cases h2 : j = i
  · subst h2; exact hp
  · exact h j hj (by omega)
theorem all_end {α : Type} {l : List α} {p : α → Bool} {i : Nat} (hi : ¬ i < l.length) (h : ∀ j (hj : j < l.length), j < i → p l[j] = true) : l.all p = true := by
  rw [List.all_eq_true]
  intro x hx
  obtain ⟨j, hj, rfl⟩ := List.mem_iff_getElem.1 hx
  exact h j hj (by omega)
theorem all_no {α : Type} {l : List α} {p : α → Bool} {i : Nat} (hi : i < l.length) (hp : p l[i] = false) : l.all p = false := by
  rw [List.all_eq_false]
  exact ⟨l[i], List.getElem_mem hi, by simp [hp]⟩
theorem lenm {α : Type} {l : List α} {f : α → T} : AV.int ((l.map f).length : Int) = AV.int (l.length : Int) := by simp
theorem atm {α : Type} {l : List α} {f : α → T} {i : Nat} (h : i < l.length) : (l.map f)[((i : Int)).toNat]? = some (f l[i]) := by simp [h]
theorem nn (i : Nat) : (0 : Int) ≤ (i : Int) := by omega


end Go.Proofs.Ytadpancnhinlbaa.E
