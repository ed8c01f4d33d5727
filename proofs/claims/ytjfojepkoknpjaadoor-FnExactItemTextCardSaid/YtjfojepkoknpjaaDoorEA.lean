/- Contracts of functions of this seat's program. -/
import Derived.Test.YtjfojepkoknpjaaDoorETy
import Derived.Test.YtjfojepkoknpjaaDoorEGo
namespace Go.Proofs.YtjfojepkoknpjaaDoor.E
set_option linter.unusedVariables false
set_option linter.unusedSimpArgs false
set_option maxHeartbeats 1600000
/-! Marks: how many a list takes, and what they lay. -/
def nL {α : Type} (n : α → Int) : List α → Int
  | [] => 0
  | x :: l => n x + nL n l
def mL {α : Type} (m : α → Int → T) (n : α → Int) : List α → Int → List T
  | [], _ => []
  | x :: l, k => m x k :: mL m n l (k + n x)
section
variable {α : Type} {m : α → Int → T} {n : α → Int}
theorem nL_nonneg (h : ∀ x, 0 ≤ n x) : ∀ l : List α, 0 ≤ nL n l
  | [] => Int.le_refl _
  | x :: l => by have := h x; have := nL_nonneg h l; simp only [nL]; omega
theorem nL_at : ∀ {l : List α} {i : Nat} (h : i < l.length), nL n (l.take (i + 1)) = nL n (l.take i) + n l[i]
  | x :: l, 0, _ => by simp [nL]
  | x :: l, i + 1, h => by
    have := nL_at (l := l) (i := i) (by simpa using h)
    simp only [List.take_succ_cons, nL, this, List.getElem_cons_succ]; omega
theorem nL_le (h : ∀ x, 0 ≤ n x) : ∀ (l : List α) (i : Nat), nL n (l.take i) ≤ nL n l
  | [], i => by simp
  | x :: l, 0 => by have := nL_nonneg h (x :: l); simpa [nL] using this
  | x :: l, i + 1 => by have := nL_le h l i; simp only [List.take_succ_cons, nL]; omega
theorem nL_big {B : Nat} : ∀ {l : List α} (_ : ∀ x, 0 ≤ n x) (_ : ∀ x ∈ l, n x ≤ (B : Int)) {c : Nat} (_ : l.length ≤ c), nL n l ≤ ((c * B : Nat) : Int)
  | [], _, _, _, _ => by simp only [nL]; omega
  | x :: l, h0, h, 0, hc => by simp at hc
  | x :: l, h0, h, c + 1, hc => by
    have h1 := h x (by simp)
    have h2 := nL_big (l := l) h0 (fun y hy => h y (by simp [hy])) (c := c) (by simpa using hc)
    simp only [nL]
    rw [Nat.succ_mul]
    omega
theorem mL_len : ∀ {l : List α} {k : Int}, (mL m n l k).length = l.length
  | [], _ => rfl
  | x :: l, k => by simp [mL, mL_len (l := l)]
theorem mL_succ : ∀ {l : List α} {i : Nat} {k : Int} (h : i < l.length), mL m n (l.take (i + 1)) k = mL m n (l.take i) k ++ [m l[i] (k + nL n (l.take i))]
  | x :: l, 0, k, _ => by simp [mL, nL]
  | x :: l, i + 1, k, h => by
    have := mL_succ (l := l) (i := i) (k := k + n x) (by simpa using h)
    simp only [List.take_succ_cons, mL, this, nL, List.getElem_cons_succ, List.cons_append, Int.add_assoc]
theorem mL_get : ∀ {l : List α} {i : Nat} {k : Int} (h : i < l.length), (mL m n l k)[i]? = some (m l[i] (k + nL n (l.take i)))
  | x :: l, 0, k, _ => by simp [mL, nL]
  | x :: l, i + 1, k, h => by
    have := mL_get (l := l) (i := i) (k := k + n x) (by simpa using h)
    simp only [List.take_succ_cons, mL, List.getElem?_cons_succ, this, nL, List.getElem_cons_succ, Int.add_assoc]
theorem mL_at {l : List α} {i : Nat} {k : Int} (h : i < l.length) : (mL m n l k)[((i : Int)).toNat]? = some (m l[i] (k + nL n (l.take i))) := mL_get h
end
theorem gi {s : St} {d : Nat} {n m : Int} (h : s.get d = AV.int n) (e : n = m) : s.get d = AV.int m := by rw [h, e]
theorem gr {s : St} {d q v e : Nat} {es es' : List T} (h : look s.ob d = some (.row q v e es)) (he : es = es') : look s.ob d = some (.row q v e es') := by rw [h, he]
theorem set_at {α : Type} {l : List α} {i : Nat} {x : α} (h : i < l.length) : (l.set ((i : Int)).toNat x)[((i : Int)).toNat]? = some x := by simp [h]
theorem brL {b : Bool} {A B : Prop} (h : ¬ (b = true)) (k : b = false → B) : Br b A B := ⟨fun h' => absurd h' h, k⟩
theorem brR {b : Bool} {A B : Prop} (h : ¬ (b = false)) (k : b = true → A) : Br b A B := ⟨k, fun h' => absurd h' h⟩

/-! Item -/
abbrev Y_Item := Int × Int × Int × Bool
def t_Item (x : Y_Item) : T := .agg [T.int (x.1), T.int (x.2.1), T.int (x.2.2.1), T.bool (x.2.2.2)]
def raw_Item (x : Y_Item) : Prop := (Lit.int .i64 (x.1)).wf = true ∧ (Lit.int .i64 (x.2.1)).wf = true ∧ (Lit.int .i64 (x.2.2.1)).wf = true ∧ True
def ok_Item (x : Y_Item) : Prop := True
theorem s_toItem (x : Y_Item) (h : ok_Item x) : Spec Tryd.prog 5 [.ro (t_Item x)] [t_Item x] := by
  refine fn Tryd.func5 ?_
  repeat (first | refine brT ?_ | refine brF ?_ | refine And.intro rfl ?_ | refine And.intro trivial ?_ | intro _)
  rfl
def isV (n : Int) : Bool := decide (n ≥ 0) && decide (n ≤ 999)
theorem s_l03Val (n : Int) : Spec Tryd.prog 15 [.ro (T.int n)] [T.bool (isV n)] := by
  refine fn Tryd.func15 ?_
  refine brI (fun h => ?_) (fun h => ?_)
  · repeat (first | refine brT ?_ | refine brF ?_)
    show _ = _
    simp only [isV, h, Bool.true_and]; rfl
  · repeat (first | refine brT ?_ | refine brF ?_)
    show _ = _
    simp only [isV, h, Bool.false_and]; rfl
theorem s_isVal (n : Int) : Spec Tryd.prog 16 [.ro (T.int n)] [T.bool (isV n)] := by
  refine fn Tryd.func16 ?_
  refine brI (fun h => ?_) (fun h => ?_)
  · repeat (first | refine brT ?_ | refine brF ?_)
    show _ = _
    simp only [isV, h, Bool.true_and]; rfl
  · repeat (first | refine brT ?_ | refine brF ?_)
    show _ = _
    simp only [isV, h, Bool.false_and]; rfl


end Go.Proofs.YtjfojepkoknpjaaDoor.E
