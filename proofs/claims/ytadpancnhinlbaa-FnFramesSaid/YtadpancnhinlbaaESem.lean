/- What the trees, names and states of the abstract weakest precondition mean in a world. -/
import Derived.Test.YtadpancnhinlbaaEDef
import Derived.Below
import Derived.Laws.AppendOwn
import Derived.Deep.MidRow
import Derived.Laws.Slices
namespace Go.Proofs.Ytadpancnhinlbaa.E
set_option linter.unusedVariables false
set_option linter.unusedSimpArgs false

theorem add_add (a : Addr) (m i : Nat) : (a.add m).add i = a.add (m + i) := by
  unfold Addr.add
  split <;> split <;> simp_all <;> omega
theorem add_mk (g o i : Nat) : (⟨g, o, none⟩ : Addr).add i = ⟨g, o + i, none⟩ := by unfold Addr.add; split <;> simp_all
theorem add_block (a : Addr) (i : Nat) : (a.add i).block = a.block := by unfold Addr.add; split <;> rfl

def flat (es : List T) : List T := es.flatMap T.cells

/-- The value is a tree of memory that is nobody else's: its blocks lie in S. -/
inductive Ow (w : World) : T → Value → (Nat → Prop) → Prop
  | v {x : Value} {S : Nat → Prop} : x.oneCell' = true → Ow w (.v x) x S
  | nil {e : Nat} {A : Option Addr} {S : Nat → Prop} : Ow w (.sl e []) (.slice A 0 0) S
  | row {es : List T} {g o cap : Nat} {cur : Array Value} {te e : Nat} {Ss : Nat → Nat → Prop} {S : Nat → Prop} : w.heap[g]? = some (.cells cur te (0, 0)) → es.length ≤ cap → o + cap * e ≤ cur.size →
      (∀ t ∈ es, t.cells.length = e) → (∀ j ct, (flat es)[j]? = some ct → Ow w ct (cur.getD (o + j) undef) (Ss j)) → S g → (∀ j, ¬ Ss j g) → (∀ j b, Ss j b → S b) → (∀ i j b, Ss i b → Ss j b → i = j) →
      Ow w (.sl e es) (.slice (some ⟨g, o, none⟩) es.length cap) S
/-- The value reads as a tree; what is read lies in Z. -/
inductive Rd (w : World) (Z : Nat → Prop) : T → Value → Prop
  | v {x : Value} : x.oneCell' = true → Rd w Z (.v x) x
  | nil {e : Nat} {A : Option Addr} {c : Nat} : Rd w Z (.sl e []) (.slice A 0 c)
  | row {es : List T} {a : Addr} {e cap : Nat} {u : Nat → Value} : es.length ≤ cap → Z a.block → (∀ t ∈ es, t.cells.length = e) → (∀ j ct, (flat es)[j]? = some ct → w.cell? (a.add j) = some (u j)) →
      (∀ j ct, (flat es)[j]? = some ct → Rd w Z ct (u j)) → Rd w Z (.sl e es) (.slice (some a) es.length cap)
  | cl {g : Nat} {x : Value} {a : Addr} : Z a.block → w.cell? a = some x → x.oneCell' = true → Rd w Z (.cl g x) (.func (.func g) #[] #[.pointer (some a)])
  | rp {x : Value} {a : Addr} : Z a.block → w.cell? a = some x → x.oneCell' = true → Rd w Z (.rp x) (.pointer (some a))

theorem Ow.one {w : World} {t : T} {x : Value} {S : Nat → Prop} (h : Ow w t x S) : x.oneCell' = true := by cases h <;> first | assumption | rfl
theorem Rd.one {w : World} {t : T} {x : Value} {Z : Nat → Prop} (h : Rd w Z t x) : x.oneCell' = true := by cases h <;> first | assumption | rfl
theorem Ow.sup {w : World} {t : T} {x : Value} {S S' : Nat → Prop} (h : Ow w t x S) (hs : ∀ b, S b → S' b) : Ow w t x S' := by
  cases h with
  | v h => exact .v h
  | nil => exact .nil
  | row h1 h2 h3 h4 h5 h6 h7 h8 h9 => exact .row h1 h2 h3 h4 h5 (hs _ h6) h7 (fun j b hb => hs b (h8 j b hb)) h9
theorem Ow.move {w w' : World} {t : T} {x : Value} {S : Nat → Prop} (h : Ow w t x S) (hm : ∀ b, S b → w'.heap[b]? = w.heap[b]?) : Ow w' t x S := by
  induction h with
  | v h => exact .v h
  | nil => exact .nil
  | row h1 h2 h3 h4 h5 h6 h7 h8 h9 ih => exact .row ((hm _ h6).trans h1) h2 h3 h4 (fun j ct hj => ih j ct hj (fun b hb => hm b (h8 j b hb))) h6 h7 h8 h9
theorem Rd.sup {w : World} {t : T} {x : Value} {Z Z' : Nat → Prop} (h : Rd w Z t x) (hs : ∀ b, Z b → Z' b) : Rd w Z' t x := by
  induction h with
  | v h => exact .v h
  | nil => exact .nil
  | row h1 h2 h3 h4 h5 ih => exact .row h1 (hs _ h2) h3 h4 (fun j ct hj => ih j ct hj)
  | cl h1 h2 h3 => exact .cl (hs _ h1) h2 h3
  | rp h1 h2 h3 => exact .rp (hs _ h1) h2 h3
theorem Rd.move {w w' : World} {t : T} {x : Value} {Z : Nat → Prop} (h : Rd w Z t x) (hm : ∀ b, Z b → w'.heap[b]? = w.heap[b]?) : Rd w' Z t x := by
  induction h with
  | v h => exact .v h
  | nil => exact .nil
  | row h1 h2 h3 h4 h5 ih => exact .row h1 h2 h3 (fun j ct hj => (World.cell?_of_block (show w'.heap[(Addr.add _ j).block]? = _ by rw [add_block]; exact hm _ h2)).trans (h4 j ct hj)) (fun j ct hj => ih j ct hj)
  | cl h1 h2 h3 => exact .cl h1 ((World.cell?_of_block (hm _ h1)).trans h2) h3
  | rp h1 h2 h3 => exact .rp h1 ((World.cell?_of_block (hm _ h1)).trans h2) h3
theorem getD_arr {l : Array Value} {j : Nat} {d : Value} (h : j < l.size) : l[j]? = some (l.getD j d) := by simp [Array.getD, h]
theorem flat_len {e : Nat} : ∀ {es : List T}, (∀ t ∈ es, t.cells.length = e) → (flat es).length = es.length * e
  | [], _ => by simp [flat]
  | t :: l, h => by
    have h1 := h t (by simp)
    have h2 := flat_len (es := l) (fun x hx => h x (by simp [hx]))
    simp only [flat, List.flatMap_cons, List.length_append, List.length_cons] at h2 ⊢
    rw [h2, h1, Nat.succ_mul]; omega
/-- A tree of one's own may be read. -/
theorem Ow.rd {w : World} {t : T} {x : Value} {S : Nat → Prop} (h : Ow w t x S) : Rd w S t x := by
  induction h with
  | v h => exact .v h
  | nil => exact .nil
  | @row es g o cap cur te e Ss S h1 h2 h3 h4 h5 h6 h7 h8 h9 ih =>
    refine .row (u := fun j => cur.getD (o + j) undef) h2 h6 h4 (fun j ct hj => ?_) (fun j ct hj => (ih j ct hj).sup (h8 j))
    have hl := flat_len h4
    have hlt : j < (flat es).length := (List.getElem?_eq_some_iff.1 hj).1
    have hc : es.length * e ≤ cap * e := Nat.mul_le_mul_right _ h2
    rw [add_mk]
    simp only [World.cell?, h1, Option.isSome_none, Bool.false_eq_true, if_false]
    exact getD_arr (by omega)

/-- Whole values. -/
def Cells (R : Nat → T → Value → Prop) (l : List T) (vs : List Value) : Prop := vs.length = l.length ∧ ∀ j c, l[j]? = some c → R j c (vs.getD j undef)
def Rd2 (w : World) (Z : Nat → Prop) (t : T) (x : Value) : Prop :=
  match t with
  | .agg l => ∃ vs : List Value, x = .agg vs.toArray ∧ Cells (fun _ => Rd w Z) l vs
  | t => Rd w Z t x
def Ow2 (w : World) (t : T) (x : Value) (S : Nat → Prop) : Prop :=
  match t with
  | .agg l => ∃ (vs : List Value) (Ss : Nat → Nat → Prop), x = .agg vs.toArray ∧ Cells (fun j c y => Ow w c y (Ss j)) l vs ∧ (∀ j b, Ss j b → S b) ∧ (∀ i j b, Ss i b → Ss j b → i = j)
  | t => Ow w t x S
def Outs (w : World) (ts : List T) (x : Value) (S : Nat → Prop) : Prop :=
  match ts with
  | [t] => Ow2 w t x S
  | ts => ∃ (xs : List Value) (Ss : Nat → Nat → Prop), x = .tuple xs.toArray ∧ xs.length = ts.length ∧ (∀ j t, ts[j]? = some t → Ow2 w t (xs.getD j undef) (Ss j)) ∧ (∀ j b, Ss j b → S b) ∧ (∀ i j b, Ss i b → Ss j b → i = j)
def Ar.old : Ar → T
  | .ro t => t
  | .rw t _ => t
  | .mv t => t
/-- The arguments: those that may be written own what they refer to, and that lies in R. -/
def Args (w : World) (R : Nat → Prop) (args : List Ar) (vals : List Value) : Prop :=
  vals.length = args.length ∧ ∃ Ss : Nat → Nat → Prop, (∀ i b, Ss i b → R b) ∧ (∀ i j b, Ss i b → Ss j b → i = j) ∧
    ∀ (i : Nat) (a : Ar), args[i]? = some a → match a with
      | .ro t => Rd2 w (fun b => b < w.heap.size ∧ ¬ R b) t (vals.getD i undef)
      | .rw t _ => Ow2 w t (vals.getD i undef) (Ss i)
      | .mv t => Ow2 w t (vals.getD i undef) (Ss i)
def ArgsOut (w : World) (args : List Ar) (vals : List Value) (Ss : Nat → Nat → Prop) : Prop :=
  ∀ (i : Nat) (a : Ar), args[i]? = some a → match a with
    | .ro _ => True
    | .rw _ t' => Ow2 w t' (vals.getD i undef) (Ss i)
    | .mv _ => True
/-- The world has grown; what lies outside the memory stands. -/
structure Up (w w' : World) : Prop where
  os : w'.os = w.os
  tape : w'.tape = w.tape
  output : w'.output = w.output
  size : w.heap.size ≤ w'.heap.size
theorem Up.refl (w : World) : Up w w := ⟨rfl, rfl, rfl, Nat.le_refl _⟩
theorem Up.trans {a b c : World} (h : Up a b) (k : Up b c) : Up a c := ⟨k.os.trans h.os, k.tape.trans h.tape, k.output.trans h.output, Nat.le_trans h.size k.size⟩
theorem up_alloc (w : World) (o : Obj) : Up w (w.alloc o) := ⟨rfl, rfl, rfl, by simp⟩
theorem up_drew (w : World) (o : Obj) : Up w (w.drew.alloc o) := ⟨rfl, rfl, rfl, by simp⟩
theorem up_draw (w : World) : Up w { w with drawn := w.drawn + 1 } := ⟨rfl, rfl, rfl, Nat.le_refl _⟩
theorem up_setCells (b : Nat) : ∀ (vs : List Value) (o : Nat) (w : World), Up w (w.setCells b o vs)
  | [], _, w => Up.refl w
  | v :: r, o, w => by
    simp only [World.setCells]
    exact (⟨rfl, rfl, rfl, by simp [World.setCell]⟩ : Up w (w.setCell ⟨b, o, none⟩ v)).trans (up_setCells b r (o + 1) _)
def hasMv : List Ar → Bool
  | [] => false
  | .mv _ :: _ => true
  | _ :: r => hasMv r
theorem hasMv_ro : ∀ (l : List T), hasMv (l.map .ro) = false
  | [] => rfl
  | _ :: l => hasMv_ro l
def Ret (w : World) (R : Nat → Prop) (args : List Ar) (rs : List T) (vals : List Value) (e : Ending) (w' : World) : Prop :=
  ∃ (x : Value) (S : Nat → Prop) (Ss : Nat → Nat → Prop), e = .returned x ∧ Outs w' rs x S ∧ ArgsOut w' args vals Ss ∧ (∀ b, S b → (w.heap.size ≤ b ∨ hasMv args = true ∧ R b) ∧ b < w'.heap.size) ∧ (∀ i b, Ss i b → b < w'.heap.size ∧ (w.heap.size ≤ b ∨ R b)) ∧
    (∀ i b, S b → ¬ Ss i b) ∧ (∀ i j b, Ss i b → Ss j b → i = j) ∧ Up w w' ∧ ∀ b, b < w.heap.size → ¬ R b → w'.heap[b]? = w.heap[b]?
def Callable (P : Program) (f : Nat) : Prop := ∃ fn, P.funcs[f]? = some fn ∧ (fn.name == "runtime.NumGoroutine") = false ∧ fn.body.isNone = false
structure RInv (w : World) (R : Nat → Prop) : Prop where
  lt : ∀ b, R b → b < w.heap.size
  inv : Inv w R
theorem RInv.none {w : World} {R : Nat → Prop} (h : RInv w R) : RInv w (fun _ => False) := ⟨fun _ h => h.elim, h.inv.turn (Nat.le_refl _) (fun _ _ _ => rfl) (fun _ h => h.elim)⟩
/-- The contract of a function. -/
structure Spec (P : Program) (f : Nat) (args : List Ar) (rs : List T) : Prop where
  callable : Callable P f
  calls : ∀ (w : World) (vals : List Value) (R : Nat → Prop), RInv w R → Args w R args vals → Calls P f vals.toArray w (Ret w R args rs vals)

/-- A function whose first argument is a pointer to a struct through which it reads and writes: the struct's cells ahead and behind. What is no plain cell of it stays the very value that it was. -/
def RetP (w : World) (b : Nat) (cur : List Value) (ts' rs : List T) (e : Ending) (w' : World) : Prop :=
  ∃ (x : Value) (S : Nat → Prop) (cur' : List Value) (te' : Nat), e = .returned x ∧ Outs w' rs x S ∧ (∀ k, S k → w.heap.size ≤ k ∧ k < w'.heap.size) ∧ w'.heap[b]? = some (.cells cur'.toArray te' (0, 0)) ∧ cur'.length = cur.length ∧ ts'.length = cur.length ∧
    (∀ (j : Nat) (t : T), ts'[j]? = some t → match t with | .v z => cur'.getD j undef = z ∧ z.oneCell' = true | _ => cur'.getD j undef = cur.getD j undef) ∧ Up w w' ∧ ∀ k, k < w.heap.size → k ≠ b → w'.heap[k]? = w.heap[k]?
structure SpecP (P : Program) (f : Nat) (ts ts' az rs : List T) : Prop where
  callable : Callable P f
  calls : ∀ (w : World) (b te : Nat) (cur vals : List Value), RInv w (fun x => x = b) → w.heap[b]? = some (.cells cur.toArray te (0, 0)) → Cells (fun _ => Rd w (fun x => x < w.heap.size ∧ ¬ x = b)) ts cur → vals.length = az.length → (∀ (i : Nat) (t : T), az[i]? = some t → Rd2 w (fun x => x < w.heap.size ∧ ¬ x = b) t (vals.getD i undef)) →
    Calls P f (Value.pointer (some ⟨b, 0, none⟩) :: vals).toArray w (RetP w b cur ts' rs)
/-- A function that hands back a pointer to a new struct; a cell of it is a value, or the very value of an argument. -/
def RetN (w : World) (vals : List Value) (cs : List (Value ⊕ Nat)) (e : Ending) (w' : World) : Prop :=
  ∃ (b te : Nat) (cur : List Value), e = .returned (.pointer (some ⟨b, 0, none⟩)) ∧ w.heap.size ≤ b ∧ w'.heap[b]? = some (.cells cur.toArray te (0, 0)) ∧ cur.length = cs.length ∧
    (∀ (j : Nat) (c : Value ⊕ Nat), cs[j]? = some c → match c with | .inl z => cur.getD j undef = z | .inr i => cur.getD j undef = vals.getD i undef) ∧ Up w w' ∧ ∀ k, k < w.heap.size → w'.heap[k]? = w.heap[k]?
structure SpecN (P : Program) (f : Nat) (az : List T) (cs : List (Value ⊕ Nat)) : Prop where
  callable : Callable P f
  calls : ∀ (w : World) (vals : List Value), RInv w (fun _ => False) → vals.length = az.length → (∀ (i : Nat) (t : T), az[i]? = some t → Rd2 w (fun x => x < w.heap.size ∧ ¬ False) t (vals.getD i undef)) → Calls P f vals.toArray w (RetN w vals cs)

/-- What binds a state's names to a world: the world at the start, the blocks that may be written, a bound above all marks, the boxes' blocks, the rows' values, the blocks of each thing. -/
structure Gh where
  w0 : World
  R : Nat → Prop
  k : Nat
  β : Nat → Nat
  y : Nat → Value
  S : Nat → Nat → Prop
  fx : Nat → Value
def Gh.Z (G : Gh) (b : Nat) : Prop := b < G.w0.heap.size ∧ ¬ G.R b

def A1.lt (k : Nat) : A1 → Prop
  | .bx _ q _ | .own _ q | .ownp _ q _ _ _ => q < k
  | .sub _ q sv _ => q < k ∧ sv < k
  | .bs _ q _ => q < k
  | .clo _ _ q => q < k
  | .vw _ q _ _ _ => q < k
  | _ => True
abbrev Obs := List (Nat × Ob)
def V1 (G : Gh) (w : World) (s : Obs) (a : A1) (y : Value) : Prop :=
  match a with
  | .any => True
  | .v x => y = x ∧ y.oneCell' = true
  | .ro e es => Rd G.w0 G.Z (.sl e es) y
  | .rop t off => ∃ (ad : Addr) (u : Nat → Value), y = .pointer (some (ad.add off)) ∧ G.Z ad.block ∧ (∀ j c, t.cells[j]? = some c → G.w0.cell? (ad.add j) = some (u j)) ∧ (∀ j c, t.cells[j]? = some c → Rd G.w0 G.Z c (u j))
  | .bx d q off => y.oneCell' = true ∧ ((∃ l, look s d = some (.box q l)) → y = .pointer (some ⟨G.β d, off, none⟩))
  | .own d q => y.oneCell' = true ∧ ((∃ sv e es, look s d = some (.row q sv e es)) → y = G.y d)
  | .ownp d q e i off => y.oneCell' = true ∧ ((∃ sv es, look s d = some (.row q sv e es)) → ∃ g o n c, G.y d = .slice (some ⟨g, o, none⟩) n c ∧ y = .pointer (some ⟨g, o + (i * e + off), none⟩))
  | .sub d q sv j => y.oneCell' = true ∧ ((∃ e es, look s d = some (.row q sv e es) ∧ j < (flat es).length) → ∃ g o n c, G.y d = .slice (some ⟨g, o, none⟩) n c ∧ w.cell? ⟨g, o + j, none⟩ = some y)
  | .fx j e es => y = G.fx j ∧ Rd G.w0 G.Z (.sl e es) y
  | .clo g d q => y.oneCell' = true ∧ ((∃ l, look s d = some (.box q l)) → y = .func (.func g) #[] #[.pointer (some ⟨G.β d, 0, none⟩)])
  | .cl g x => Rd G.w0 G.Z (.cl g x) y
  | .vw d q e l h => y.oneCell' = true ∧ ((∃ sv es, look s d = some (.row q sv e es)) → ∃ A n c, G.y d = .slice A n c ∧ y = sliced A l h c e ∧ l ≤ h ∧ h ≤ n)
  | .bs d q n => y.oneCell' = true ∧ ((∃ l, look s d = some (.box q l)) → y = .slice (some ⟨G.β d, 0, none⟩) n n)
theorem V1.one {G : Gh} {w : World} {s : Obs} {a : A1} {y : Value} (h : V1 G w s a y) (hk : a.known = true) : y.oneCell' = true := by
  cases a <;> simp only [V1, A1.known] at h hk
  · cases hk
  · exact h.2
  · exact h.1
  · exact h.one
  · obtain ⟨ad, u, rfl, _⟩ := h; rfl
  · exact h.1
  · exact h.1
  · exact h.1
  · exact h.1
  · exact h.2.one
  · exact h.1
  · exact h.one
  · exact h.1
def VL (G : Gh) (w : World) (s : Obs) (l : List A1) (vs : List Value) : Prop := vs.length = l.length ∧ ∀ j a, l[j]? = some a → V1 G w s a (vs.getD j undef) ∧ (vs.getD j undef).oneCell' = true
def V2 (G : Gh) (w : World) (s : Obs) (a : A2) (y : Value) : Prop :=
  match a with
  | .c x => V1 G w s x y
  | .agg l => ∃ vs : List Value, y = .agg vs.toArray ∧ VL G w s l vs
def V (G : Gh) (w : World) (s : Obs) (a : AV) (y : Value) : Prop :=
  match a with
  | .o a => V2 G w s a y
  | .tup l => ∃ vs : List Value, y = .tuple vs.toArray ∧ vs.length = l.length ∧ ∀ j a, l[j]? = some a → V2 G w s a (vs.getD j undef)
def A2.lt (k : Nat) (a : A2) : Prop := ∀ x ∈ a.cells, x.lt k
def AV.lt (k : Nat) : AV → Prop
  | .o a => a.lt k
  | .tup l => ∀ a ∈ l, a.lt k
def ObOk (G : Gh) (w : World) (s : Obs) (d : Nat) (x : Ob) : Prop :=
  match x with
  | .box q l => q < G.k ∧ (∃ (vs : List Value) (te : Nat), w.heap[G.β d]? = some (.cells vs.toArray te (0, 0)) ∧ VL G w s l vs) ∧ G.S d (G.β d) ∧ ∀ a ∈ l, a.lt G.k
  | .row q sv e es => (q < G.k ∧ sv < G.k) ∧ Ow w (.sl e es) (G.y d) (G.S d)
  | .dead => True
structure Sim (G : Gh) (s : St) (a : Act) (w : World) : Prop where
  size : a.tmps.size = s.n
  defers : a.defers = []
  tm : ∀ d, V G w s.ob (s.get d) (a.tmps.getD d undef) ∧ (s.get d).lt G.k
  up : Up G.w0 w
  old : ∀ b, b < G.w0.heap.size → ¬ G.R b → w.heap[b]? = G.w0.heap[b]?
  Rlt : RInv G.w0 G.R
  ob : ∀ d x, look s.ob d = some x → ObOk G w s.ob d x
  own : ∀ d b, G.S d b → b < w.heap.size ∧ (G.w0.heap.size ≤ b ∨ G.R b)
  apart : ∀ d d' b, G.S d b → G.S d' b → d = d'

theorem Sim.grown {G : Gh} {s : St} {a : Act} {w : World} (hs : Sim G s a w) : G.w0.heap.size ≤ w.heap.size := hs.up.size
theorem Sim.toR {G : Gh} {s : St} {a : Act} {w : World} (hs : Sim G s a w) {R' : Nat → Prop} (h : ∀ b, R' b → b < w.heap.size ∧ (G.w0.heap.size ≤ b ∨ G.R b)) : RInv w R' := ⟨fun b hb => (h b hb).1, hs.Rlt.inv.turn hs.grown hs.old (fun b hb => ((h b hb).2).symm)⟩
/-- What makes everything that was said of cells hold on. -/
structure Ext (G : Gh) (w : World) (s : Obs) (G' : Gh) (w' : World) (s' : Obs) : Prop where
  w0 : G'.w0 = G.w0
  R : G'.R = G.R
  fx : G'.fx = G.fx
  k : G.k ≤ G'.k
  box : ∀ d q, q < G.k → (∃ l, look s' d = some (.box q l)) → (∃ l, look s d = some (.box q l)) ∧ G'.β d = G.β d
  row : ∀ d q e, q < G.k → (∃ sv es, look s' d = some (.row q sv e es)) → (∃ sv es, look s d = some (.row q sv e es)) ∧ G'.y d = G.y d
  sub : ∀ d q sv j, q < G.k → sv < G.k → (∃ e es, look s' d = some (.row q sv e es) ∧ j < (flat es).length) → (∃ e es, look s d = some (.row q sv e es) ∧ j < (flat es).length) ∧ ∀ g o n c, G.y d = .slice (some ⟨g, o, none⟩) n c → w'.cell? ⟨g, o + j, none⟩ = w.cell? ⟨g, o + j, none⟩
section
variable {G G' : Gh} {w w' : World} {s s' : Obs}
theorem Ext.z (h : Ext G w s G' w' s') : G'.Z = G.Z := by funext b; simp only [Gh.Z, h.w0, h.R]
theorem A1.lt_mono {k k' : Nat} (hk : k ≤ k') {a : A1} (h : a.lt k) : a.lt k' := by cases a <;> simp only [A1.lt] at h ⊢ <;> omega
theorem A2.lt_mono {k k' : Nat} (hk : k ≤ k') {a : A2} (h : a.lt k) : a.lt k' := fun x hx => A1.lt_mono hk (h x hx)
theorem AV.lt_mono {k k' : Nat} (hk : k ≤ k') {a : AV} (h : a.lt k) : a.lt k' := by
  cases a with
  | o a => exact A2.lt_mono hk h
  | tup l => exact fun a ha => A2.lt_mono hk (h a ha)
theorem V1.ext (h : Ext G w s G' w' s') {a : A1} {y : Value} (hl : a.lt G.k) (hv : V1 G w s a y) : V1 G' w' s' a y := by
  cases a with
  | any => trivial
  | v x => exact hv
  | ro e es => simpa only [V1, h.z, h.w0] using hv
  | rop t off => simpa only [V1, h.z, h.w0] using hv
  | bx d q off => exact ⟨hv.1, fun hb => by obtain ⟨h1, h2⟩ := h.box d q hl hb; rw [h2]; exact hv.2 h1⟩
  | own d q => exact ⟨hv.1, fun hb => by obtain ⟨sv, e, es, hb⟩ := hb; obtain ⟨⟨sv1, es1, h1⟩, h2⟩ := h.row d q e hl ⟨sv, es, hb⟩; rw [h2]; exact hv.2 ⟨sv1, e, es1, h1⟩⟩
  | ownp d q e i off => exact ⟨hv.1, fun hb => by obtain ⟨h1, h2⟩ := h.row d q e hl hb; rw [h2]; exact hv.2 h1⟩
  | sub d q sv j =>
    refine ⟨hv.1, fun hb => ?_⟩
    obtain ⟨h1, h2⟩ := h.sub d q sv j hl.1 hl.2 hb
    obtain ⟨e, es, hb', _⟩ := hb
    obtain ⟨_, h3⟩ := h.row d q e hl.1 ⟨sv, es, hb'⟩
    obtain ⟨g, o, n, c, hy, hc⟩ := hv.2 h1
    exact ⟨g, o, n, c, by rw [h3]; exact hy, by rw [h2 g o n c hy]; exact hc⟩
  | fx j e es => simpa only [V1, h.z, h.w0, h.fx] using hv
  | clo g d q => exact ⟨hv.1, fun hb => by obtain ⟨h1, h2⟩ := h.box d q hl hb; rw [h2]; exact hv.2 h1⟩
  | cl g x => simpa only [V1, h.z, h.w0] using hv
  | vw d q e l' h' => exact ⟨hv.1, fun hb => by obtain ⟨h1, h2⟩ := h.row d q e hl hb; rw [h2]; exact hv.2 h1⟩
  | bs d q n => exact ⟨hv.1, fun hb => by obtain ⟨h1, h2⟩ := h.box d q hl hb; rw [h2]; exact hv.2 h1⟩
theorem VL.ext (h : Ext G w s G' w' s') {l : List A1} {vs : List Value} (hl : ∀ a ∈ l, a.lt G.k) (hv : VL G w s l vs) : VL G' w' s' l vs :=
  ⟨hv.1, fun j a ha => ⟨V1.ext h (hl a (List.mem_of_getElem? ha)) (hv.2 j a ha).1, (hv.2 j a ha).2⟩⟩
theorem V2.ext (h : Ext G w s G' w' s') {a : A2} {y : Value} (hl : a.lt G.k) (hv : V2 G w s a y) : V2 G' w' s' a y := by
  cases a with
  | c x => exact V1.ext h (hl x (by simp [A2.cells])) hv
  | agg l => obtain ⟨vs, hy, hv⟩ := hv; exact ⟨vs, hy, VL.ext h hl hv⟩
theorem V.ext (h : Ext G w s G' w' s') {a : AV} {y : Value} (hl : a.lt G.k) (hv : V G w s a y) : V G' w' s' a y := by
  cases a with
  | o a => exact V2.ext h hl hv
  | tup l => obtain ⟨vs, hy, hn, hv⟩ := hv; exact ⟨vs, hy, hn, fun j a ha => V2.ext h (hl a (List.mem_of_getElem? ha)) (hv j a ha)⟩
end
section
variable {G G' : Gh} {w w' : World} {s s' : St} {a : Act}
structure KeepB (B : Nat) (G G' : Gh) : Prop where
  w0 : G'.w0 = G.w0
  R : G'.R = G.R
  fx : G'.fx = G.fx
  y : ∀ d, d < B → G'.y d = G.y d
  β : ∀ d, d < B → G'.β d = G.β d
abbrev Keep := KeepB 1000
theorem KeepB.refl {B : Nat} (G : Gh) : KeepB B G G := ⟨rfl, rfl, rfl, fun _ _ => rfl, fun _ _ => rfl⟩
theorem Keep.refl (G : Gh) : Keep G G := ⟨rfl, rfl, rfl, fun _ _ => rfl, fun _ _ => rfl⟩
theorem KeepB.trans {B : Nat} {G G' G'' : Gh} (h : KeepB B G G') (h' : KeepB B G' G'') : KeepB B G G'' := ⟨h'.w0.trans h.w0, h'.R.trans h.R, h'.fx.trans h.fx, fun d hd => (h'.y d hd).trans (h.y d hd), fun d hd => (h'.β d hd).trans (h.β d hd)⟩
def Ob.ver : Ob → Option Nat
  | .box q _ => some q
  | .row q _ _ _ => some q
  | .dead => none
@[simp] theorem put_ob (s : St) (d : Option Nat) (x : AV) : (s.put d x).ob = s.ob := by cases d <;> rfl
@[simp] theorem put_n (s : St) (d : Option Nat) (x : AV) : (s.put d x).n = s.n := by cases d <;> rfl
@[simp] theorem set_n (s : St) (d : Nat) (x : Ob) : (s.set d x).n = s.n := rfl
@[simp] theorem set_get (s : St) (d e : Nat) (x : Ob) : (s.set d x).get e = s.get e := rfl
theorem look_cons {α : Type} (k d : Nat) (x : α) (l : List (Nat × α)) : look ((k, x) :: l) d = if k = d then some x else look l d := by
  simp only [look]
  by_cases h : k = d
  · subst h; simp [Nat.beq_refl]
  · have : Nat.beq k d = false := by
      cases hb : Nat.beq k d
      · rfl
      · exact absurd (Nat.eq_of_beq_eq_true hb) h
    simp [this, h]
theorem set_ob (s : St) (d e : Nat) (x : Ob) : look (s.set d x).ob e = if d = e then some x else look s.ob e := look_cons _ _ _ _
theorem put_get (s : St) (d e : Nat) (x : AV) : (s.put (some d) x).get e = if d = e then x else s.get e := by
  simp only [St.get, St.put, look_cons]
  split <;> rfl
theorem ext_same (hs : Sim G s a w) (h0 : G'.w0 = G.w0) (hR : G'.R = G.R) (hfx : G'.fx = G.fx) (hk : G.k ≤ G'.k) (h : ∀ d x q, look s'.ob d = some x → x.ver = some q → q < G.k → look s.ob d = some x ∧ G'.β d = G.β d ∧ G'.y d = G.y d)
    (hw : ∀ d b, G.S d b → (∃ x q, look s'.ob d = some x ∧ x.ver = some q ∧ q < G.k) → w'.heap[b]? = w.heap[b]?) : Ext G w s.ob G' w' s'.ob where
  w0 := h0
  R := hR
  fx := hfx
  k := hk
  box d q hq hl := by obtain ⟨l, hl⟩ := hl; obtain ⟨h1, h2, _⟩ := h d _ q hl rfl hq; exact ⟨⟨l, h1⟩, h2⟩
  row d q e hq hl := by obtain ⟨sv, es, hl⟩ := hl; obtain ⟨h1, _, h2⟩ := h d _ q hl rfl hq; exact ⟨⟨sv, es, h1⟩, h2⟩
  sub d q sv j hq _ hl := by
    obtain ⟨e, es, hl, hj⟩ := hl
    obtain ⟨h1, _, h2⟩ := h d _ q hl rfl hq
    refine ⟨⟨e, es, h1, hj⟩, fun g o n c hy => ?_⟩
    have ho := (hs.ob d _ h1).2
    rw [hy] at ho
    have hg : G.S d g := by
      cases ho with
      | nil => simp [flat] at hj
      | row _ _ _ _ _ h6 => exact h6
    exact World.cell?_of_block (hw d g hg ⟨_, q, hl, rfl, hq⟩)
/-- The one way by which a state turns: every cell's word holds on, and each thing is as it is told. -/
theorem Sim.turn (hs : Sim G s a w) (hn : s'.n = s.n) (htm : ∀ d, s'.get d = s.get d) (E : Ext G w s.ob G' w' s'.ob) (hg : Up w w') (hold : ∀ b, b < G.w0.heap.size → ¬ G.R b → w'.heap[b]? = w.heap[b]?)
    (hob : ∀ d x, look s'.ob d = some x → ObOk G' w' s'.ob d x) (hown : ∀ d b, G'.S d b → b < w'.heap.size ∧ (G.w0.heap.size ≤ b ∨ G.R b)) (hap : ∀ d d' b, G'.S d b → G'.S d' b → d = d') : Sim G' s' a w' where
  size := by rw [hs.size, hn]
  defers := hs.defers
  tm d := by rw [htm]; exact ⟨V.ext E (hs.tm d).2 (hs.tm d).1, AV.lt_mono E.k (hs.tm d).2⟩
  up := by rw [E.w0]; exact hs.up.trans hg
  old b hb hR := by rw [E.w0] at hb ⊢; rw [E.R] at hR; exact (hold b hb hR).trans (hs.old b hb hR)
  Rlt := by rw [E.R, E.w0]; exact hs.Rlt
  ob := hob
  own d b hb := by rw [E.w0, E.R]; exact hown d b hb
  apart := hap
theorem ObOk.ext (E : Ext G w s.ob G' w' s'.ob) {d : Nat} {x : Ob} (h : ObOk G w s.ob d x) (hβ : G'.β d = G.β d) (hy : G'.y d = G.y d) (hS : ∀ b, G.S d b ↔ G'.S d b) (hw : ∀ b, G.S d b → w'.heap[b]? = w.heap[b]?) : ObOk G' w' s'.ob d x := by
  cases x with
  | box q l =>
    obtain ⟨h1, ⟨vs, te, h2, h3⟩, h4, h5⟩ := h
    refine ⟨Nat.lt_of_lt_of_le h1 E.k, ⟨vs, te, by rw [hβ, hw _ h4]; exact h2, VL.ext E h5 h3⟩, by rw [hβ]; exact (hS _).1 h4, fun a ha => A1.lt_mono E.k (h5 a ha)⟩
  | row q sv e es =>
    obtain ⟨h1, h2⟩ := h
    exact ⟨⟨Nat.lt_of_lt_of_le h1.1 E.k, Nat.lt_of_lt_of_le h1.2 E.k⟩, by rw [hy]; exact (h2.move hw).sup (fun b hb => (hS b).1 hb)⟩
  | dead => trivial
def upd {α : Type} (f : Nat → α) (n : Nat) (x : α) (d : Nat) : α := if d = n then x else f d
@[simp] theorem upd_same {α : Type} (f : Nat → α) (n : Nat) (x : α) : upd f n x n = x := if_pos rfl
theorem upd_other {α : Type} (f : Nat → α) {n d : Nat} (x : α) (h : d ≠ n) : upd f n x d = f d := if_neg h
theorem ver_lt (hs : Sim G s a w) {d : Nat} {x : Ob} (h : look s.ob d = some x) {q : Nat} (hq : x.ver = some q) : q < G.k := by
  have := hs.ob d x h
  cases x <;> simp only [Ob.ver, Option.some.injEq, reduceCtorEq] at hq <;> subst hq <;> first | exact this.1.1 | exact this.1
/-- A thing that is there no more. -/
theorem Sim.kill (hs : Sim G s a w) (d : Nat) : Sim { G with S := upd G.S d (fun _ => False) } (s.set d .dead) a w := by
  have E : Ext G w s.ob { G with S := upd G.S d (fun _ => False) } w (s.set d .dead).ob := by
    refine ext_same hs rfl rfl rfl (Nat.le_refl _) (fun e x q hx hv hq => ?_) (fun _ _ _ _ => rfl)
    rw [set_ob] at hx
    split at hx
    · cases hx; cases hv
    · exact ⟨hx, rfl, rfl⟩
  refine hs.turn rfl (fun _ => rfl) E (Up.refl _) (fun _ _ _ => rfl) (fun e x hx => ?_) (fun e b hb => ?_) (fun e e' b hb hb' => ?_)
  · rw [set_ob] at hx
    split at hx
    · cases hx; trivial
    · rename_i hne
      exact (hs.ob e x hx).ext E rfl rfl (fun b => by show _ ↔ upd G.S d _ e b; rw [upd_other _ _ (fun h => hne h.symm)]) (fun _ _ => rfl)
  · have hb' : upd G.S d (fun _ => False) e b := hb
    by_cases he : e = d
    · rw [he, upd_same] at hb'; exact hb'.elim
    · rw [upd_other _ _ he] at hb'; exact hs.own e b hb'
  · have hb1 : upd G.S d (fun _ => False) e b := hb
    have hb2 : upd G.S d (fun _ => False) e' b := hb'
    by_cases he : e = d
    · rw [he, upd_same] at hb1; exact hb1.elim
    · by_cases he' : e' = d
      · rw [he', upd_same] at hb2; exact hb2.elim
      · rw [upd_other _ _ he] at hb1; rw [upd_other _ _ he'] at hb2; exact hs.apart e e' b hb1 hb2
theorem Sim.put (hs : Sim G s a w) {d : Option Nat} (hd : okDst d s.n = true) {x : AV} {y : Value} (hv : V G w s.ob x y) (hl : x.lt G.k) : Sim G (s.put d x) (a.put d y) w := by
  cases d with
  | none => exact hs
  | some d =>
    have hd' : d < s.n := by
      have : Nat.blt d s.n = true := hd
      exact Nat.le_of_ble_eq_true this
    refine { size := by simp [Act.put, hs.size], defers := hs.defers, tm := fun e => ?_, up := hs.up, old := hs.old, Rlt := hs.Rlt, ob := hs.ob, own := hs.own, apart := hs.apart }
    rw [put_get, put_ob]
    have hsz : d < a.tmps.size := by rw [hs.size]; exact hd'
    by_cases h : d = e
    · subst h
      rw [if_pos rfl]
      have : (a.put (some d) y).tmps.getD d undef = y := by simp [Act.put, Array.getD, hsz]
      rw [this]; exact ⟨hv, hl⟩
    · rw [if_neg h]
      have : (a.put (some d) y).tmps.getD e undef = a.tmps.getD e undef := by
        by_cases h2 : e < a.tmps.size
        · simp [Act.put, Array.getD, h2, h]
        · simp [Act.put, Array.getD, h2]
      rw [this]; exact hs.tm e
/-- A variable's cells are told in other words. -/
theorem Sim.rebox (hs : Sim G s a w) {n q : Nat} {l l' : List A1} (hr : look s.ob n = some (.box q l)) (hv : ∀ vs, VL G w s.ob l vs → VL G w s.ob l' vs) (hl : ∀ a ∈ l', a.lt G.k) : Sim G (s.set n (.box q l')) a w := by
  obtain ⟨hq, ⟨cur, te, hc, hcur⟩, hS, hlt⟩ := hs.ob n _ hr
  have hgone : ∀ d x, d ≠ n → look (s.set n (.box q l')).ob d = some x → look s.ob d = some x := fun d x hd hx => by rwa [set_ob, if_neg (fun h => hd h.symm)] at hx
  have hat : look (s.set n (.box q l')).ob n = some (.box q l') := by rw [set_ob, if_pos rfl]
  have E : Ext G w s.ob G w (s.set n (.box q l')).ob := by
    refine ⟨rfl, rfl, rfl, Nat.le_refl _, fun d q1 _ hl => ?_, fun d q1 e1 _ hl => ?_, fun d q1 sv1 j hq hsv hl => ?_⟩
    · obtain ⟨l1, hl⟩ := hl
      by_cases hd : d = n
      · subst hd; rw [hat] at hl; cases hl; exact ⟨⟨l, hr⟩, rfl⟩
      · exact ⟨⟨l1, hgone d _ hd hl⟩, rfl⟩
    · obtain ⟨sv1, es1, hl⟩ := hl
      by_cases hd : d = n
      · subst hd; rw [hat] at hl; cases hl
      · exact ⟨⟨sv1, es1, hgone d _ hd hl⟩, rfl⟩
    · obtain ⟨e1, es1, hl, hj⟩ := hl
      by_cases hd : d = n
      · subst hd; rw [hat] at hl; cases hl
      · exact ⟨⟨e1, es1, hgone d _ hd hl, hj⟩, fun _ _ _ _ _ => rfl⟩
  refine hs.turn rfl (fun _ => rfl) E (Up.refl _) (fun _ _ _ => rfl) (fun e x hx => ?_) hs.own hs.apart
  by_cases he : e = n
  · subst he; rw [hat] at hx; cases hx
    have hn := hv _ hcur
    exact ⟨hq, ⟨cur, te, hc, hn.1, fun j x hx => ⟨V1.ext E (hl x (List.mem_of_getElem? hx)) (hn.2 j x hx).1, (hn.2 j x hx).2⟩⟩, hS, hl⟩
  · exact (hs.ob e x (hgone e x he hx)).ext E rfl rfl (fun b => Iff.rfl) (fun b hb => rfl)
theorem Sim.retm (hs : Sim G s a w) {t : Nat} {x : AV} (hv : V G w s.ob x (a.tmps.getD t undef)) (hl : x.lt G.k) : Sim G (s.put (some t) x) a w where
  size := hs.size
  defers := hs.defers
  tm d := by
    rw [put_get]
    split
    · rename_i h; subst h; exact ⟨hv, hl⟩
    · exact hs.tm d
  up := hs.up
  old := hs.old
  Rlt := hs.Rlt
  ob := hs.ob
  own := hs.own
  apart := hs.apart
end
end Go.Proofs.Ytadpancnhinlbaa.E
