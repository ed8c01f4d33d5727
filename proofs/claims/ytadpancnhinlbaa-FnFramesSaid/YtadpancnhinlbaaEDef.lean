/- An abstract weakest precondition for the operations that this program uses: values are trees, what a function makes is told by name. Nothing here speaks of one program. -/
import GoSem.Step
import Derived.Test.YtadpancnhinlbaaEInv
import Derived.Calls
import Derived.Laws.Sem
import Derived.Laws.Entries
import Derived.OrdersHeld
import Derived.Laws.Runes
import Derived.Laws.IdiomStrings
namespace Go.Proofs.Ytadpancnhinlbaa.E
set_option linter.unusedVariables false
set_option linter.unusedSimpArgs false

/-- What a value says, memory followed: a cell that refers to nothing, a struct's cells, a slice's elements. -/
inductive T where
  | v (x : Value)
  | agg (l : List T)
  | sl (e : Nat) (l : List T)     -- e: the cells of an element
  | cl (g : Nat) (x : Value)      -- a function literal with one captured variable
  | rp (x : Value)                -- a pointer to a cell, to read
instance : Inhabited T := ⟨.v default⟩
def T.cells : T → List T
  | .agg l => l
  | t => [t]
def T.int (n : Int) : T := .v (.int .i64 n)
def T.bool (b : Bool) : T := .v (.bool b)
def T.str (s : ByteArray) : T := .v (.string s)
def T.u8 (n : Int) : T := .v (.int .u8 n)

/-- One cell, as a function sees it. -/
inductive A1 where
  | any
  | v (x : Value)
  | bx (d q off : Nat)
  | ro (e : Nat) (es : List T)
  | rop (t : T) (off : Nat)
  | own (d q : Nat)
  | ownp (d q e i off : Nat)
  | sub (d q sv j : Nat)
  | bs (d q n : Nat)     -- a slice over the cells of a box
  | fx (j e : Nat) (es : List T)   -- as 'ro', and the very value that came in at place j
  | clo (g d q : Nat)    -- a function literal that captures a box
  | cl (g : Nat) (x : Value)
  | vw (d q e l h : Nat) -- a part of a row of one's own, to read
inductive A2 where
  | c (x : A1)
  | agg (l : List A1)
inductive AV where
  | o (x : A2)
  | tup (l : List A2)
abbrev AV.c (x : A1) : AV := .o (.c x)
abbrev AV.vv (x : Value) : AV := .o (.c (.v x))
abbrev AV.int (n : Int) : AV := .o (.c (.v (.int .i64 n)))
abbrev AV.bool (b : Bool) : AV := .o (.c (.v (.bool b)))

/-- A thing of the function's own: a variable that has an address, a row. q: which one of that name. -/
inductive Ob where
  | box (q : Nat) (l : List A1)
  | row (q sv e : Nat) (es : List T)
  | dead
structure St where
  n : Nat
  tm : List (Nat × AV)
  ob : List (Nat × Ob)

def look {α : Type} : List (Nat × α) → Nat → Option α
  | [], _ => none
  | (k, x) :: r, d => bif Nat.beq k d then some x else look r d
def St.get (s : St) (d : Nat) : AV := (look s.tm d).getD (.o (.c .any))
def St.put (s : St) (d : Option Nat) (x : AV) : St :=
  match d with
  | some d => { s with tm := (d, x) :: s.tm }
  | none => s
def St.set (s : St) (d : Nat) (x : Ob) : St := { s with ob := (d, x) :: s.ob }

def A2.ofV : Value → A2
  | .agg cs => bif cs.toList.all (·.oneCell') then .agg (cs.toList.map .v) else .c .any
  | x => bif x.oneCell' then .c (.v x) else .c .any
def T.a1 : T → A1
  | .v x => .v x
  | .sl e es => .ro e es
  | .agg _ => .any
  | .cl g x => .cl g x
  | .rp x => .rop (.v x) 0
/-- What came in, as a cell that is only read. -/
def A1.nrm : A1 → A1
  | .fx _ e es => .ro e es
  | a => a
def T.a2 : T → A2
  | .agg l => .agg (l.map T.a1)
  | t => .c t.a1

def St.eval (s : St) : Operand → AV
  | .tmp t => s.get t
  | .const v => .o (A2.ofV v)
  | .func f => .o (.c (.v (.func (.func f) #[] #[])))
  | .global _ => .o (.c .any)

/-- What is known of a type. -/
inductive TD where
  | int (k : IntKind) | bool | str | sl (e : Nat) | st (fs : List (Nat × Nat)) | ptr | other
structure TI where
  sz : Nat
  agg : Bool
  bytes : Nat
  zero : List Value
  zt : List T      -- the zero cells as trees
  d : TD
abbrev TT := List (Nat × TI)

/-- The two ways of a test. -/
structure Br (b : Bool) (A B : Prop) : Prop where
  yes : b = true → A
  no : b = false → B

/-- What an argument is at a call: read only; or read and written (what it is behind the call). -/
inductive Ar where
  | ro (t : T)
  | rw (t t' : T)
  | mv (t : T)

inductive Ex where
  | normal | exit (id : Nat) | ret

/-- What a cell says to who only reads it. -/
def rd1 (s : St) : A1 → (T → Prop) → Prop
  | .v (.slice none 0 0), K => ∃ e, K (.sl e [])
  | .v x, K => K (.v x)
  | .ro e es, K => K (.sl e es)
  | .own d q, K => match look s.ob d with
    | some (.row q' _ e es) => q' = q ∧ K (.sl e es)
    | _ => False
  | .sub d q sv j, K => match look s.ob d with
    | some (.row q' sv' _ es) => q' = q ∧ sv' = sv ∧ ∃ t, (es.flatMap T.cells)[j]? = some t ∧ K t
    | _ => False
  | .fx _ e es, K => K (.sl e es)
  | .cl g x, K => K (.cl g x)
  | .clo g d q, K => match look s.ob d with
    | some (.box q' [.v x]) => q' = q ∧ K (.cl g x)
    | _ => False
  | .vw d q e l h, K => match look s.ob d with
    | some (.row q' _ e' es) => q' = q ∧ e' = e ∧ K (.sl e ((es.take h).drop l))
    | _ => False
  | _, _ => False
def rdL (s : St) (l : List A1) : (List T → Prop) → Prop :=
  List.rec (motive := fun _ => (List T → Prop) → Prop) (fun K => K []) (fun a _ ih K => rd1 s a fun t => ih fun ts => K (t :: ts)) l
def rd2 (s : St) : A2 → (T → Prop) → Prop
  | .c x, K => rd1 s x K
  | .agg l, K => rdL s l fun ts => K (.agg ts)

/-- A cell is handed on for good: what it owns goes with it. -/
def mv1 (s : St) : A1 → (T → St → Prop) → Prop
  | .v (.slice none 0 0), K => ∃ e, K (.sl e []) s
  | .v x, K => K (.v x) s
  | .own d q, K => match look s.ob d with
    | some (.row q' _ e es) => q' = q ∧ K (.sl e es) (s.set d .dead)
    | _ => False
  | _, _ => False
def mvL (l : List A1) : St → (List T → St → Prop) → Prop :=
  List.rec (motive := fun _ => St → (List T → St → Prop) → Prop) (fun s K => K [] s) (fun a _ ih s K => mv1 s a fun t s' => ih s' fun ts s'' => K (t :: ts) s'') l
theorem mvL_cons {a : A1} {l : List A1} {s : St} {K : List T → St → Prop} : mvL (a :: l) s K = mv1 s a fun t s' => mvL l s' fun ts s'' => K (t :: ts) s'' := rfl
def mv2 (s : St) : A2 → (T → St → Prop) → Prop
  | .c x, K => mv1 s x K
  | .agg l, K => mvL l s fun ts s' => K (.agg ts) s'

/-- What has come out of a call gets names, each its own mark. -/
def th1 (d : Nat) (q : Nat) (s : St) : T → A1 × St
  | .v x => (.v x, s)
  | .sl e es => (.own d q, s.set d (.row q 0 e es))
  | _ => (.any, s)
def thL : Nat → Nat → List T → St → List A1 × St
  | _, _, [], s => ([], s)
  | d, q, t :: l, s => let r := th1 d q s t; let rs := thL (d + 1) (q + 1) l r.2; (r.1 :: rs.1, rs.2)
def th2 (d q : Nat) (s : St) : T → A2 × St
  | .agg l => bif Nat.ble l.length 16 then (let r := thL d q l s; (.agg r.1, r.2)) else (.c .any, s)
  | t => let r := th1 d q s t; (.c r.1, r.2)
def thT : Nat → Nat → List T → St → List A2 × St
  | _, _, [], s => ([], s)
  | d, q, t :: l, s => let r := th2 d q s t; let rs := thT (d + 16) (q + 16) l r.2; (r.1 :: rs.1, rs.2)
def thR (d q : Nat) (s : St) : List T → AV × St
  | [t] => let r := th2 d q s t; (.o r.1, r.2)
  | ts => let r := thT d q ts s; (.tup r.1, r.2)

def nm (d : Option Nat) : Nat := match d with | some d => 1000 * d + 1000 | none => 1000
def opr (s : St) (x : Operand) (K : A1 → Prop) : Prop := match s.eval x with | .o (.c a) => K a | _ => False
def oprN (s : St) (x : Operand) (K : A1 → Prop) : Prop := opr s x fun a => K a.nrm
def opi (s : St) (x : Operand) (K : IntKind → Int → Prop) : Prop := match s.eval x with | .o (.c (.v (.int k n))) => K k n | _ => False
def A1.known : A1 → Bool
  | .any => false
  | _ => true
/-- The cells of a value. -/
def A2.cells : A2 → List A1
  | .c x => [x]
  | .agg l => l
def A2.of (agg : Bool) (sz : Nat) (l : List A1) : Option A2 := bif Nat.beq l.length sz then (bif agg then some (.agg l) else match l with | [x] => some (.c x) | _ => none) else none
def setL {α : Type} : List α → Nat → List α → List α
  | l, _, [] => l
  | [], _, _ => []
  | _ :: l, 0, y :: r => y :: setL l 0 r
  | x :: l, i + 1, r => x :: setL l i r
def T.setCells : T → Nat → List T → T
  | .agg l, off, ts => .agg (setL l off ts)
  | t, 0, x :: _ => match x with
    | .agg _ => t
    | x => x
  | t, _, _ => t
def T.ofCells (agg : Bool) (l : List T) : T := bif agg then .agg l else match l with | [x] => x | _ => .agg l

/-- Sums, differences and so on of two cells that refer to nothing. -/
def kEq : IntKind → IntKind → Bool
  | .i64, .i64 => true
  | .u8, .u8 => true
  | .i32, .i32 => true
  | _, _ => false
def TD.isBool : Option TI → Bool
  | some ⟨_, _, _, _, _, .bool⟩ => true
  | _ => false
def TD.isStr : Option TI → Bool
  | some ⟨_, _, _, _, _, .str⟩ => true
  | _ => false
def TD.isSl : Option TI → Bool
  | some ⟨_, _, _, _, _, .sl _⟩ => true
  | _ => false
def notShift : BinOp → Bool
  | .shl | .shr => false
  | _ => true
def binV (ti : Option TI) (op : BinOp) (x y : Value) (K : Value → Prop) : Prop :=
  match x, y with
  | .int k a, .int k' b => bif kEq k k' && notShift op then
    (match op with
    | .add => K (.int k (k.wrap (a + b)))
    | .sub => K (.int k (k.wrap (a - b)))
    | .mul => K (.int k (k.wrap (a * b)))
    | .quo => b ≠ 0 ∧ K (.int k (k.wrap (a.tdiv b)))
    | .rem => b ≠ 0 ∧ K (.int k (a.tmod b))
    | .and => K (.int k (bits .and k a b))
    | .or => K (.int k (bits .or k a b))
    | .xor => K (.int k (bits .xor k a b))
    | .eql => K (.bool (a == b))
    | .neq => K (.bool (a != b))
    | .lss => K (.bool (decide (a < b)))
    | .leq => K (.bool (decide (a ≤ b)))
    | .gtr => K (.bool (decide (a > b)))
    | .geq => K (.bool (decide (a ≥ b)))
    | _ => False) else
    (match op with
    | .shr => (0 ≤ b ∧ b ≤ k.bits) ∧ K (.int k (a / 2 ^ b.toNat))
    | .shl => (0 ≤ b ∧ b ≤ k.bits) ∧ K (.int k (k.wrap (a * 2 ^ b.toNat)))
    | _ => False)
  | .string a, .string b =>
    match op with
    | .add => a.size + b.size ≤ 9223372036854775807 ∧ K (.string (a ++ b))
    | .eql => K (.bool (a.toList == b.toList))
    | .neq => K (.bool (!(a.toList == b.toList)))
    | _ => False
  | .bool a, .bool b => bif TD.isBool ti then
    (match op with
    | .eql => K (.bool (a == b))
    | .neq => K (.bool (!(a == b)))
    | _ => False) else False
  | _, _ => False
def binA (ti : Option TI) (op : BinOp) (x y : A1) (K : Value → Prop) : Prop :=
  match x, y with
  | .v a, .v b => binV ti op a b K
  | .ro _ es, .v (.slice none 0 0) => bif TD.isSl ti then
    (match op with
    | .eql => ∀ b : Bool, (es ≠ [] → b = false) → K (.bool b)
    | .neq => ∀ b : Bool, (es ≠ [] → b = true) → K (.bool b)
    | _ => False) else False
  | _, _ => False
def unA (op : UnOp) (x : A1) (K : Value → Prop) : Prop :=
  match op, x with
  | .not, .v (.bool b) => K (.bool (!b))
  | .neg, .v (.int k n) => K (.int k (k.wrap (0 - n)))
  | _, _ => False
def cvA (tt : TT) (src dst : Nat) (x : A1) (K : Value → Prop) : Prop :=
  match look tt dst, x with
  | some ⟨_, _, _, _, _, .int k⟩, .v (.int _ n) => (match look tt src with | some ⟨_, _, _, _, _, .int _⟩ => True | _ => False) ∧ K (.int k (k.wrap n))
  | _, _ => False

def TD.isBy (tt : TT) (d : Nat) : Bool := match look tt d with
  | some ⟨_, _, _, _, _, .sl e⟩ => (match look tt e with | some ⟨_, _, _, _, _, .int .u8⟩ => true | _ => false)
  | _ => false
/-- To a string: a number is a rune, a row of bytes is the bytes. -/
def cvS (tt : TT) (src : Nat) (s : St) (x : A1) (K : Value → Prop) : Prop :=
  bif TD.isBy tt src then rd1 s x fun t => (match t with | .sl _ es => ∃ l : List UInt8, es = l.map (fun b => T.v (.int .u8 b.toNat)) ∧ K (.string ⟨l.toArray⟩) | _ => False)
  else match x with
  | .v (.int _ n) => (look tt src).isSome = true ∧ K (.string (Utf8.encode n))
  | _ => False

/-- The parts of a literal, laid over its zero cells. -/
def lay (s : St) (fs : List (Nat × Nat)) (cs : List A1) : List (Nat × Operand) → (List A1 → Prop) → Prop
  | [], K => K cs
  | (i, x) :: r, K => match fs[i]?, s.eval x with
    | some (off, sz), .o a => bif Nat.beq a.cells.length sz && a.cells.all A1.known && Nat.ble (off + sz) cs.length then lay s fs (setL cs off a.cells) r K else False
    | _, _ => False
def sizes (tt : TT) : List (Nat × Nat) → Option (List (Nat × Nat))
  | [] => some []
  | (off, t) :: r => match look tt t, sizes tt r with
    | some i, some l => some ((off, i.sz) :: l)
    | _, _ => none
/-- The elements of a slice's literal: all of them are there, in order. -/
def layS (k : Nat) : List (Nat × Operand) → St → (List T → St → Prop) → Prop
  | [], s, K => K [] s
  | (i, x) :: r, s, K => bif Nat.beq i k then (match s.eval x with
    | .o a => mv2 s a fun t s' => layS (k + 1) r s' fun ts s'' => K (t :: ts) s''
    | _ => False) else False
/-- The elements of a slice's literal whose cells may be pointers to one's own things. -/
def ptrs (s : St) : Nat → List (Nat × Operand) → Option (List A1)
  | _, [] => some []
  | k, (i, x) :: r => match s.eval x, ptrs s (k + 1) r with
    | .o (.c a), some l => bif Nat.beq i k && a.known then some (a :: l) else none
    | _, _ => none
def TD.isPtr : TD → Bool
  | .ptr => true
  | _ => false
def bound : Nat := 16777216

/-- What is appended: the elements, told to K. -/
def src (kp : Bool) (e : Nat) (s : St) : A1 → (List T → St → Prop) → Prop
  | .own d q, K => match look s.ob d with
    | some (.row q' _ e' es) => bif Nat.beq e' e then q' = q ∧ (bif kp then (∀ t ∈ es, ∀ c ∈ t.cells, ∃ x, c = .v x) ∧ K es s else K es (s.set d .dead)) else False
    | _ => False
  | .ro e' es, K => bif Nat.beq e' e then (∀ t ∈ es, ∀ c ∈ t.cells, ∃ x, c = .v x) ∧ K es s else False
  | .v (.slice none 0 0), K => K [] s
  | _, _ => False
def base (e : Nat) (s : St) : A1 → (List T → St → Prop) → Prop
  | .own d q, K => match look s.ob d with
    | some (.row q' _ e' es) => bif Nat.beq e' e then q' = q ∧ K es (s.set d .dead) else False
    | _ => False
  | .v (.slice none 0 0), K => K [] s
  | _, _ => False

/-- A row inside a row is taken out of it: where it lay a value stands of which nothing more is known. -/
def carve (e : Nat) (s : St) (d q sv j : Nat) (K : List T → St → Prop) : Prop := match look s.ob d with
  | some (.row q' sv' e0 es0) => q' = q ∧ sv' = sv ∧ ∃ k off t ts, j = k * e0 + off ∧ off < e0 ∧ es0[k]? = some t ∧ t.cells[off]? = some (.sl e ts) ∧ ∀ v x, K ts (s.set d (.row q v e0 (es0.set k (t.setCells off [.v x]))))
  | _ => False
/-- The arguments of a call. rw: is the first one read and written? -/
def argR (s : St) (l : List A2) : (List T → Prop) → Prop :=
  List.rec (motive := fun _ => (List T → Prop) → Prop) (fun K => K []) (fun a _ ih K => rd2 s a fun t => ih fun ts => K (t :: ts)) l
/-- What may be read and written through an argument's cells. -/
def rw1 (s : St) : A1 → (T → Prop) → Prop
  | .v (.slice none 0 0), K => ∃ e, K (.sl e [])
  | .v x, K => K (.v x)
  | .own d q, K => match look s.ob d with
    | some (.row q' _ e es) => q' = q ∧ K (.sl e es)
    | _ => False
  | _, _ => False
def rwL (s : St) : List A1 → (List T → Prop) → Prop
  | [], K => K []
  | a :: l, K => rw1 s a fun t => rwL s l fun ts => K (t :: ts)
def names : List A1 → List Nat
  | [] => []
  | .own d _ :: l => d :: names l
  | _ :: l => names l
def mem (l : List Nat) (x : Nat) : Bool := match l with | [] => false | y :: r => bif Nat.beq y x then true else mem r x
def nodup : List Nat → Bool
  | [] => true
  | x :: l => bif mem l x then false else nodup l
/-- What was written through the cells of an argument is laid back. -/
def wr1 (s : St) : A1 → T → (St → Prop) → Prop
  | .v (.slice none 0 0), .sl _ [], K => K s
  | .v x, .v y, K => y = x ∧ K s
  | .own d q, .sl e' es', K => match look s.ob d with
    | some (.row _ _ e _) => bif Nat.beq e' e then ∀ v, K (s.set d (.row q v e es')) else False
    | _ => False
  | _, _, _ => False
def wrL : List A1 → List T → St → (St → Prop) → Prop
  | [], [], s, K => K s
  | a :: l, t :: ts, s, K => wr1 s a t fun s' => wrL l ts s' K
  | _, _, _, _ => False
/-- A call that reads and writes what its first argument refers to: the argument ahead and behind. -/
def rwA (s : St) (a : A2) (C : T → T → Prop) (K : St → Prop) : Prop :=
  match a with
  | .agg l => bif nodup (names l) then rwL s l fun ts => ∃ ts', C (.agg ts) (.agg ts') ∧ wrL l ts' s K else False
  | .c (.sub d q sv j) => match look s.ob d with
    | some (.row q' sv' e es) => q' = q ∧ sv' = sv ∧ ∃ k off t x x', j = k * e + off ∧ off < e ∧ es[k]? = some t ∧ t.cells[off]? = some x ∧ C x x' ∧ ∀ v, K (s.set d (.row q v e (es.set k (t.setCells off [x']))))
    | _ => False
  | .c x => rw1 s x fun t => ∃ t', C t t' ∧ wr1 s x t' K
def scal : List A2 → Option (List T)
  | [] => some []
  | .c (.v (.slice _ _ _)) :: _ => none
  | .c (.v x) :: l => match scal l with
    | some ts => some (.v x :: ts)
    | none => none
  | _ :: _ => none
def evs (s : St) : List Operand → Option (List A2)
  | [] => some []
  | x :: r => match s.eval x, evs s r with
    | .o a, some l => some (a :: l)
    | _, _ => none

structure Ctx where
  tt : TT
  Sp : Nat → List Ar → List T → Prop      -- the contracts
  rw : List Nat                            -- the functions that write what their first argument refers to
  mv : List Nat                            -- the functions to which their first argument is given for good
  px : List Nat                            -- the functions whose first argument is a pointer through which they read and write
  nw : List Nat                            -- the functions that hand back a pointer to a new struct
  kp : List Nat                            -- places (1000 times the function's number of temps, and the temp): a slice, or an append, there leaves the row as it is
  SpP : Nat → List T → List T → List T → List T → Prop
  SpN : Nat → List T → List (Value ⊕ Nat) → Prop
def memO (l : List Nat) (n : Nat) : Option Nat → Bool
  | some d => mem l (1000 * n + d)
  | none => false
/-- The cells of a struct that is handed on by its pointer; they behind the call; those of a new one. -/
def unR : List A1 → Option (List T)
  | [] => some []
  | a :: l => match a, unR l with
    | .v x, some ts => some (.v x :: ts)
    | .ro e es, some ts => some (.sl e es :: ts)
    | .fx _ e es, some ts => some (.sl e es :: ts)
    | _, _ => none
def upB : List A1 → List T → List A1
  | a :: l, t :: ts => (match t with | .v x => .v x | _ => a) :: upB l ts
  | _, _ => []
def newB (aas : List A2) : List (Value ⊕ Nat) → Option (List A1)
  | [] => some []
  | .inl z :: r => match newB aas r with
    | some l => bif z.oneCell' then some (.v z :: l) else none
    | none => none
  | .inr i :: r => match aas[i]?, newB aas r with
    | some (.c a), some l => bif a.known then some (a :: l) else none
    | _, _ => none


/-- A bound of a slice expression; what is left out is n. -/
def bnd (s : St) (x : Option Operand) (n : Nat) (K : Nat → Prop) : Prop := match x with
  | none => K n
  | some o => opi s o fun _ i => 0 ≤ i ∧ K i.toNat

/-- The name of what an append gives: its base's, if that is one of the function's own things. -/
def apN (dst : Option Nat) : A1 → Nat
  | .own d _ => bif Nat.ble 1000 d then d else nm dst
  | _ => nm dst
def aop (C : Ctx) (op : Op) (dst : Option Nat) (s : St) (K : St → Prop) : Prop :=
  match op with
  | .move x | .assign x => K (s.put dst (s.eval x))
  | .pick c x y => match s.eval c with
    | .o (.c (.v (.bool b))) => match s.eval x, s.eval y with
      | .o (.c (.v (.bool p))), .o (.c (.v (.bool r))) => K (s.put dst (.bool (bif b then p else r)))
      | p, r => Br b (K (s.put dst p)) (K (s.put dst r))
    | _ => False
  | .alloc t => match look C.tt t with
    | some i => ∀ q, K ((s.set (nm dst) (.box q (i.zero.map .v))).put dst (.c (.bx (nm dst) q 0)))
    | none => False
  | .box t x => match s.eval x with
    | .o a => bif a.cells.all A1.known then ∀ q, K ((s.set (nm dst) (.box q a.cells)).put dst (.c (.bx (nm dst) q 0))) else False
    | _ => False
  | .build t ps => match look C.tt t with
    | some ⟨_, _, _, z, _, .st fs⟩ => match sizes C.tt fs with
      | some fz => lay s fz (z.map .v) ps.toList fun cs => K (s.put dst (.o (.agg cs)))
      | none => False
    | _ => False
  | .buildSlice t len ps => match look C.tt t with
    | some ⟨_, _, _, _, _, .sl e⟩ => match look C.tt e with
      | some i => bif TD.isPtr i.d then (match ptrs s 0 ps.toList with
        | some cs => bif Nat.beq ps.size len && Nat.beq i.sz 1 && Nat.ble 1 len && Nat.ble len 16777216 then ∀ q, K ((s.set (nm dst) (.box q cs)).put dst (.c (.bs (nm dst) q len))) else False
        | none => False)
        else bif Nat.beq ps.size len && Nat.ble 1 i.sz && Nat.ble (len * i.sz) 16777216 then layS 0 ps.toList s fun es s' => (∀ t ∈ es, t.cells.length = i.sz) ∧ ∀ q, K ((s'.set (nm dst) (.row q 0 i.sz es)).put dst (.c (.own (nm dst) q))) else False
      | none => False
    | _ => False
  | .load t p => match look C.tt t with
    | some i => opr s p fun a => match a with
      | .bx d q off => match look s.ob d with
        | some (.box q' l) => q' = q ∧ match A2.of i.agg i.sz ((l.drop off).take i.sz) with
          | some a => K (s.put dst (.o a))
          | none => False
        | _ => False
      | .rop t off => match A2.of i.agg i.sz (((t.cells.drop off).take i.sz).map T.a1) with
        | some a => K (s.put dst (.o a))
        | none => False
      | .ownp d q e k off => match look s.ob d with
        | some (.row q' sv e' es) => bif Nat.beq e' e then q' = q ∧ ∃ t, es[k]? = some t ∧ match A2.of i.agg i.sz (((t.cells.zipIdx.drop off).take i.sz).map fun c => match c.1 with | .v x => .v x | _ => .sub d q sv (k * e + c.2)) with
          | some a => K (s.put dst (.o a))
          | none => False
          else False
        | _ => False
      | _ => False
    | none => False
  | .store t p x => match look C.tt t, s.eval x with
    | some i, .o a => bif Nat.beq a.cells.length i.sz && a.cells.all A1.known then opr s p fun b => match b with
      | .bx d q off => match look s.ob d with
        | some (.box q' l) => q' = q ∧ bif Nat.ble (off + i.sz) l.length then K ((s.set d (.box q (setL l off a.cells))).put dst (.c .any)) else False
        | _ => False
      | .ownp d q e k off => mvL a.cells s fun ts s => match look s.ob d with
        | some (.row q' _ e' es) => bif Nat.beq e' e then q' = q ∧ ∃ t, es[k]? = some t ∧ off + ts.length ≤ e ∧ ∀ v, K ((s.set d (.row q v e (es.set k (t.setCells off ts)))).put dst (.c .any)) else False
        | _ => False
      | _ => False
      else False
    | _, _ => False
  | .nilCheck x => opr s x fun a => match a with
    | .bx d q off => match look s.ob d with
      | some (.box q' _) => q' = q ∧ K (s.put dst (.c a))
      | _ => False
    | .rop _ _ => K (s.put dst (.c a))
    | _ => False
  | .binOp op t x y _ => opr s x fun a => opr s y fun b => binA (look C.tt t) op a b fun v => K (s.put dst (.vv v))
  | .unOp op _ x => opr s x fun a => unA op a fun v => K (s.put dst (.vv v))
  | .convert a b x => opr s x fun c => bif TD.isStr (look C.tt b) then cvS C.tt a s c fun v => K (s.put dst (.vv v)) else cvA C.tt a b c fun v => K (s.put dst (.vv v))
  | .makeSlice t x y => match look C.tt t with
    | some ⟨_, _, _, _, _, .sl e⟩ => match look C.tt e with
      | some i => opi s x fun k n => opi s y fun k' m => bif kEq k .i64 && kEq k' .i64 && Nat.ble 1 i.sz then m = n ∧ 0 ≤ n ∧ n.toNat ≤ bound ∧ ∀ q, K ((s.set (nm dst) (.row q 0 i.sz (List.replicate n.toNat (T.ofCells i.agg i.zt)))).put dst (.c (.own (nm dst) q))) else False
      | none => False
    | _ => False
  | .fieldAddr t x f => match look C.tt t with
    | some ⟨_, _, _, _, _, .st fs⟩ => match fs[f]? with
      | some (o, u) => match look C.tt u with
        | some iu => bif Nat.ble 1 iu.sz then opr s x fun a => match a with
          | .bx d q off => match look s.ob d with
            | some (.box q' _) => q' = q ∧ K (s.put dst (.c (.bx d q (off + o))))
            | _ => False
          | .rop t off => K (s.put dst (.c (.rop t (off + o))))
          | .ownp d q e i off => match look s.ob d with
            | some (.row q' _ e' _) => bif Nat.beq e' e then q' = q ∧ K (s.put dst (.c (.ownp d q e i (off + o)))) else False
            | _ => False
          | _ => False
          else False
        | none => False
      | none => False
    | _ => False
  | .indexAddr t x y => match look C.tt t with
    | some ⟨_, _, _, _, _, .sl e⟩ => match look C.tt e with
      | some i => opi s y fun _ n => oprN s x fun a => match a with
        | .ro e es => bif Nat.beq e i.sz then 0 ≤ n ∧ ∃ t, es[n.toNat]? = some t ∧ K (s.put dst (.c (.rop t 0))) else False
        | .own d q => match look s.ob d with
          | some (.row q' _ e es) => bif Nat.beq e i.sz then q' = q ∧ 0 ≤ n ∧ n.toNat < es.length ∧ K (s.put dst (.c (.ownp d q e n.toNat 0))) else False
          | _ => False
        | .bs d q m => match look s.ob d with
          | some (.box q' _) => bif Nat.beq i.sz 1 then q' = q ∧ 0 ≤ n ∧ n.toNat < m ∧ K (s.put dst (.c (.bx d q n.toNat))) else False
          | _ => False
        | .vw d q e l h => match look s.ob d with
          | some (.row q' _ e' _) => bif Nat.beq e' e && Nat.beq e i.sz then q' = q ∧ 0 ≤ n ∧ l + n.toNat < h ∧ K (s.put dst (.c (.ownp d q e (l + n.toNat) 0))) else False
          | _ => False
        | _ => False
      | none => False
    | _ => False
  | .index t x y => bif TD.isStr (look C.tt t) then opi s y fun _ n => opr s x fun a => match a with
    | .v (.string b) => 0 ≤ n ∧ n < b.size ∧ K (s.put dst (.vv (.int .u8 (b[n.toNat]!).toNat)))
    | _ => False
    else False
  | .slice t x lo hi none => match look C.tt t with
    | some ⟨_, _, _, _, _, .sl e⟩ => match look C.tt e with
      | some i => bif Nat.ble 1 i.sz then opr s x fun a => (match a with
        | .v (.slice none 0 0) => bnd s lo 0 fun l => bnd s hi 0 fun h => l ≤ h ∧ h ≤ 0 ∧ K (s.put dst (.c (.v (.slice none 0 0))))
        | .ro e' es => bif Nat.beq e' i.sz then bnd s lo 0 fun l => bnd s hi es.length fun h => l ≤ h ∧ h ≤ es.length ∧ K (s.put dst (.c (.ro e' ((es.take h).drop l)))) else False
        | .own d q => match look s.ob d with
          | some (.row q' _ e' es) => bif Nat.beq e' i.sz then q' = q ∧ bnd s lo 0 fun l => bnd s hi es.length fun h => l ≤ h ∧ h ≤ es.length ∧ bif memO C.kp s.n dst then K (s.put dst (.c (.vw d q e' l h))) else ∀ q2, K (((s.set d .dead).set (nm dst) (.row q2 0 e' ((es.take h).drop l))).put dst (.c (.own (nm dst) q2))) else False
          | _ => False
        | _ => False) else False
      | none => False
    | some ⟨_, _, _, _, _, .str⟩ => opr s x fun a => (match a with
      | .v (.string b) => bnd s lo 0 fun l => bnd s hi b.size fun h => l ≤ h ∧ h ≤ b.size ∧ K (s.put dst (.vv (.string (b.extract l h))))
      | _ => False)
    | _ => False
  | .extract x i => match s.eval x with
    | .tup l => match l[i]? with
      | some a => K (s.put dst (.o a))
      | none => False
    | _ => False
  | .call c => match c.callee with
    | .builtin .len => match c.args.toList, c.argTypes.toList with
      | [x], [t] => bif TD.isStr (look C.tt t) then opr s x fun a => (match a with
          | .v (.string b) => K (s.put dst (.int b.size))
          | _ => False)
        else bif TD.isSl (look C.tt t) then oprN s x fun a => (match a with
          | .v (.slice none 0 0) => K (s.put dst (.int 0))
          | .ro _ es => K (s.put dst (.int es.length))
          | .own d q => match look s.ob d with
            | some (.row q' _ _ es) => q' = q ∧ K (s.put dst (.int es.length))
            | _ => False
          | .sub d q sv j => match look s.ob d with
            | some (.row q' sv' _ es) => q' = q ∧ sv' = sv ∧ ∃ e ts, (es.flatMap T.cells)[j]? = some (.sl e ts) ∧ K (s.put dst (.int ts.length))
            | _ => False
          | .bs d q m => match look s.ob d with
            | some (.box q' _) => q' = q ∧ K (s.put dst (.int m))
            | _ => False
          | .vw d q e l h => match look s.ob d with
            | some (.row q' _ e' _) => q' = q ∧ e' = e ∧ K (s.put dst (.int ((h - l : Nat) : Int)))
            | _ => False
          | _ => False)
        else False
      | _, _ => False
    | .builtin .append => match c.args.toList, c.argTypes.toList with
      | [x, y], [t, t'] => bif Nat.beq t t' then match look C.tt t with
        | some ⟨_, _, _, _, _, .sl e⟩ => match look C.tt e with
          | some i => bif Nat.ble 1 i.sz then opr s x fun a => (match a with
            | .sub d q sv j => carve i.sz s d q sv j fun es s => opr s y fun b => src (memO C.kp s.n dst) i.sz s b fun fs s =>
              es.length + fs.length ≤ bound ∧ ∀ q, K ((s.set (nm dst) (.row q 0 i.sz (es ++ fs))).put dst (.c (.own (nm dst) q)))
            | a => opr s y fun b => base i.sz s a fun es s => src (memO C.kp s.n dst) i.sz s b fun fs s =>
              es.length + fs.length ≤ bound ∧ ∀ q, K ((s.set (apN dst a) (.row q 0 i.sz (es ++ fs))).put dst (.c (.own (apN dst a) q))))
            else False
          | none => False
        | _ => False
        else False
      | _, _ => False
    | .value f => match s.eval f, evs s c.args.toList with
      | .o (.c (.v (.func (.func g) fi ca))), some aas => bif fi.isEmpty && ca.isEmpty then (bif mem C.rw g then
          (match aas with
          | a :: l => match scal l with
            | some ts => ∃ rs, rwA s a (fun t t' => C.Sp g (.rw t t' :: ts.map .ro) rs) fun s => ∀ q, K ((thR (nm dst) q s rs).2.put dst (thR (nm dst) q s rs).1)
            | none => False
          | [] => False)
        else bif mem C.mv g then (match aas with
          | a :: l => mv2 s a fun t s' => argR s' l fun ts => ∃ rs, C.Sp g (.mv t :: ts.map .ro) rs ∧ ∀ q, K ((thR (nm dst) q s' rs).2.put dst (thR (nm dst) q s' rs).1)
          | [] => False)
        else bif mem C.px g then (match aas with
          | .c (.bx d q 0) :: l => (match look s.ob d with
            | some (.box q' cs) => q' = q ∧ (match unR cs, scal l with
              | some ts, some az => ∃ ts' rs, C.SpP g ts ts' az rs ∧ ∀ q2, K ((thR (nm dst) q2 (s.set d (.box q (upB cs ts'))) rs).2.put dst (thR (nm dst) q2 (s.set d (.box q (upB cs ts'))) rs).1)
              | _, _ => False)
            | _ => False)
          | _ => False)
        else bif mem C.nw g then argR s aas fun az => ∃ cs, C.SpN g az cs ∧ (match newB aas cs with
          | some l => ∀ q, K ((s.set (nm dst) (.box q l)).put dst (.c (.bx (nm dst) q 0)))
          | none => False)
        else argR s aas fun ts => ∃ rs, C.Sp g (ts.map .ro) rs ∧ ∀ q, K ((thR (nm dst) q s rs).2.put dst (thR (nm dst) q s rs).1)) else False
      | .o (.c (.cl g x)), some aas => argR s aas fun ts => ∃ rs, C.Sp g ((ts ++ [T.rp x]).map Ar.ro) rs ∧ ∀ q, K ((thR (nm dst) q s rs).2.put dst (thR (nm dst) q s rs).1)
      | _, _ => False
    | .builtin .clear => match c.args.toList, c.argTypes.toList with
      | [x], [t] => match look C.tt t with
        | some ⟨_, _, _, _, _, .sl e⟩ => match look C.tt e with
          | some i => opr s x fun a => match a with
            | .vw d q e' l h => match look s.ob d with
              | some (.row q' _ e0 es) => bif Nat.beq e0 e' && Nat.beq e' i.sz && Nat.ble 1 i.sz then q' = q ∧ (∀ t ∈ es, ∀ c ∈ t.cells, ∃ x, c = .v x) ∧ ∀ v, K ((s.set d (.row q v e0 (es.take l ++ (List.replicate (h - l) (T.ofCells i.agg i.zt) ++ es.drop h)))).put dst (.c .any)) else False
              | _ => False
            | _ => False
          | none => False
        | _ => False
      | _, _ => False
    | _ => False
  | .makeFunc (.func g) fi ca => match fi.toList, ca.toList with
    | [], [x] => opr s x fun a => match a with
      | .bx d q 0 => match look s.ob d with
        | some (.box q' _) => q' = q ∧ K (s.put dst (.c (.clo g d q)))
        | _ => False
      | _ => False
    | _, _ => False
  | _ => False

def okDst (d : Option Nat) (n : Nat) : Bool := match d with | some d => Nat.blt d n | none => true
def aops (C : Ctx) (all : List Oper) (l : List Oper) : St → (St → Prop) → Prop :=
  List.rec (motive := fun _ => St → (St → Prop) → Prop) (fun s K => K s) (fun o _ ih s K => bif okDst o.dst s.n then
      (match o.guard with
      | none => aop C o.op o.dst s fun s' => ih s' K
      | some (j, want) => match (all[j]?).bind (·.dst) with
        | some t => match s.get t with
          | .o (.c (.v (.bool b))) => Br b
              (bif want then aop C o.op o.dst (s.put (some t) (.bool true)) (fun s' => ih s' K) else ih ((s.put (some t) (.bool true)).put o.dst (.tup [])) K)
              (bif want then ih ((s.put (some t) (.bool false)).put o.dst (.tup [])) K else aop C o.op o.dst (s.put (some t) (.bool false)) (fun s' => ih s' K))
          | .tup [] => ih (s.put o.dst (.tup [])) K
          | _ => False
        | none => False)
    else False) l
theorem aops_cons {C : Ctx} {all r : List Oper} {o : Oper} {s : St} {K : St → Prop} : aops C all (o :: r) s K = (bif okDst o.dst s.n then
      (match o.guard with
      | none => aop C o.op o.dst s fun s' => aops C all r s' K
      | some (j, want) => match (all[j]?).bind (·.dst) with
        | some t => match s.get t with
          | .o (.c (.v (.bool b))) => Br b
              (bif want then aop C o.op o.dst (s.put (some t) (.bool true)) (fun s' => aops C all r s' K) else aops C all r ((s.put (some t) (.bool true)).put o.dst (.tup [])) K)
              (bif want then aops C all r ((s.put (some t) (.bool false)).put o.dst (.tup [])) K else aop C o.op o.dst (s.put (some t) (.bool false)) (fun s' => aops C all r s' K))
          | .tup [] => aops C all r (s.put o.dst (.tup [])) K
          | _ => False
        | none => False)
    else False) := rfl

/-! A region whose order is open: what only reads comes first; of the others whichever may come comes. -/
def isLoad : Op → Bool
  | .load _ _ => true
  | _ => false
def isPure : Op → Bool
  | .move _ | .assign _ | .pick _ _ _ | .fieldAddr _ _ _ | .indexAddr _ _ _ | .unOp _ _ _ | .binOp _ _ _ _ _ => true
  | .call c => match c.callee with
    | .builtin .len => true
    | _ => false
  | _ => false
/-- An operation that leaves all that was as it was. -/
def calm (C : Ctx) : Op → Bool
  | .alloc _ => true
  | .call c => match c.callee with
    | .value (.func g) => !mem C.rw g && !mem C.mv g && !mem C.px g && !mem C.nw g
    | _ => false
  | _ => false
def opOf (ops : Array Oper) (i : Nat) : Op := match ops[i]? with | some o => o.op | none => .move (.const .nilFunc)
def isW (C : Ctx) (op : Op) : Bool := !(isPure op || isLoad op || calm C op)
/-- Whatever writes comes behind every load. -/
def reach (ops : Array Oper) : Nat → Nat → Nat → Bool
  | 0, _, _ => false
  | n + 1, j, i => match ops[j]? with
    | some o => o.after.any fun e => Region.binds .any e && (e.on == i || reach ops n e.on i)
    | none => false
def okD (C : Ctx) (ops : Array Oper) : Bool := (List.range ops.size).all fun j => !isW C (opOf ops j) || (List.range ops.size).all fun i => !isLoad (opOf ops i) || reach ops 3 j i
def both : List Nat → (Nat → Prop) → Prop
  | [], _ => True
  | [i], F => F i
  | i :: r, F => F i ∧ both r F
def firstQ (st : Bool) (ops : Array Oper) (listed : Array Bool) : List Nat → Option Nat
  | [] => none
  | i :: r => bif (isPure (opOf ops i) || (st && isLoad (opOf ops i))) && Region.free .any ops listed i then some i else firstQ st ops listed r
def stepD (C : Ctx) (ops : Array Oper) (i : Nat) (s : St) (K : St → Prop) : Prop :=
  match ops[i]? with
  | some o => bif okDst o.dst s.n then (match o.guard with
    | none => aop C o.op o.dst s K
    | some (j, want) => match (ops[j]?).bind (·.dst) with
      | some t => match s.get t with
        | .o (.c (.v (.bool b))) => Br b
            (bif want then aop C o.op o.dst (s.put (some t) (.bool true)) K else K ((s.put (some t) (.bool true)).put o.dst (.tup [])))
            (bif want then K ((s.put (some t) (.bool false)).put o.dst (.tup [])) else aop C o.op o.dst (s.put (some t) (.bool false)) K)
        | .tup [] => K (s.put o.dst (.tup []))
        | _ => False
      | none => False) else False
  | none => False
def adraw (C : Ctx) (ops : Array Oper) : Nat → Bool → Array Bool → St → (St → Prop) → Prop
  | 0, _, listed, s, K => match Region.ready .any ops listed with
    | [] => K s
    | _ => False
  | n + 1, st, listed, s, K => match Region.ready .any ops listed with
    | [] => K s
    | rs => match firstQ st ops listed rs with
      | some i => stepD C ops i s fun s' => adraw C ops n st (listed.setIfInBounds i true) s' K
      | none => both rs fun i => stepD C ops i s (fun s' => adraw C ops n false (listed.setIfInBounds i true) s' K)

/-- A state that tells no more than another. -/
def weaker (s s' : St) : Prop := s'.n = s.n ∧ (∀ d, s'.get d = s.get d ∨ s'.get d = .o (.c .any)) ∧ (∀ d x, look s'.ob d = some x → look s.ob d = some x)
theorem look_mem {α : Type} : ∀ {l : List (Nat × α)} {d : Nat} {x : α}, look l d = some x → (d, x) ∈ l
  | [], _, _, h => by simp [look] at h
  | (k, y) :: l, d, x, h => by
    unfold look at h
    cases hk : Nat.beq k d with
    | true => rw [hk] at h; cases h; have := Nat.eq_of_beq_eq_true hk; subst this; simp
    | false => rw [hk] at h; exact List.mem_cons_of_mem _ (look_mem h)
theorem weaker.refl (s : St) : weaker s s := ⟨rfl, fun _ => .inl rfl, fun _ _ h => h⟩
theorem weaker_of {s s' : St} (h1 : s'.n = s.n) (h2 : ∀ p ∈ s'.tm, s.get p.1 = p.2) (h3 : ∀ p ∈ s'.ob, look s.ob p.1 = some p.2) : weaker s s' := by
  refine ⟨h1, fun d => ?_, fun d x h => h3 _ (look_mem h)⟩
  cases hd : look s'.tm d with
  | none => right; simp [St.get, hd]
  | some x => left; rw [show s.get d = x from h2 _ (look_mem hd)]; simp [St.get, hd]
/-- Two states that tell the same, name by name. -/
def allG (s s' : St) : List (Nat × AV) → Prop
  | [] => True
  | p :: r => s'.get p.1 = s.get p.1 ∧ allG s s' r
def allW (s s' : St) : List (Nat × Ob) → Prop
  | [] => True
  | p :: r => look s'.ob p.1 = look s.ob p.1 ∧ allW s s' r
theorem allG_out {s s' : St} : ∀ {l : List (Nat × AV)}, allG s s' l → ∀ p ∈ l, s'.get p.1 = s.get p.1
  | [], _, p, h => by cases h
  | q :: r, h, p, hp => by
    rcases List.mem_cons.1 hp with rfl | hp
    · exact h.1
    · exact allG_out h.2 p hp
theorem allW_out {s s' : St} : ∀ {l : List (Nat × Ob)}, allW s s' l → ∀ p ∈ l, look s'.ob p.1 = look s.ob p.1
  | [], _, p, h => by cases h
  | q :: r, h, p, hp => by
    rcases List.mem_cons.1 hp with rfl | hp
    · exact h.1
    · exact allW_out h.2 p hp
theorem wkG {s s' : St} (h1 : s'.n = s.n) (h2 : allG s s' s'.tm) (h3 : allW s s' s'.ob) : weaker s s' := by
  refine ⟨h1, fun d => ?_, fun d x h => by rw [← allW_out h3 _ (look_mem h)]; exact h⟩
  cases hd : look s'.tm d with
  | none => right; simp [St.get, hd]
  | some x => left; exact allG_out h2 _ (look_mem hd)

/-- A region whose order is open. -/
structure Drawn (C : Ctx) (ops : Array Oper) (s : St) (K : St → Prop) : Prop where
  sel : Region.noSelect ops = true
  way : ∃ st : Bool, (st = true → okD C ops = true) ∧ (adraw C ops ops.size st (Array.replicate ops.size false) s K ∨ ∃ M : St → Prop, adraw C ops ops.size st (Array.replicate ops.size false) s (fun s' => ∃ m, M m ∧ weaker s' m) ∧ ∀ m, M m → K m)
/-- How a loop is entered: with what is known, or with less; an empty slice may be told as a row of one's own. -/
inductive Entry (P : St → Prop) : St → Prop
  | here {s s0 : St} : P s0 → weaker s s0 → Entry P s
  | tmp {s : St} (t n e : Nat) : s.get t = .c (.v (.slice none 0 0)) → Nat.ble 1000 n = true → (∀ q, Entry P ((s.set n (.row q 0 e [])).put (some t) (.c (.own n q)))) → Entry P s
  | box {s : St} (d n off e : Nat) {q : Nat} {l : List A1} : look s.ob d = some (.box q l) → l[off]? = some (.v (.slice none 0 0)) → Nat.ble 1000 n = true → Nat.beq n d = false → (∀ q', Entry P ((s.set n (.row q' 0 e [])).set d (.box q (l.set off (.own n q'))))) → Entry P s
/-- A loop: some law of its rounds holds at the start, each round keeps it and makes its number smaller. -/
def Looped (F : St → (Ex → St → Prop) → Prop) (s : St) (Q : Ex → St → Prop) : Prop :=
  ∃ (J : Nat → St → Prop), Entry (fun s0 => ∃ n, J n s0) s ∧ ∀ n s, J n s → F s fun e s' => match e with
      | .normal => ∃ m s'', m < n ∧ J m s'' ∧ weaker s' s''
      | e => Q e s'
def awp (C : Ctx) (c : Code) : St → (Ex → St → Prop) → Prop :=
  Code.rec (motive := fun _ => St → (Ex → St → Prop) → Prop)
    (fun s Q => Q .normal s)
    (fun _ ops draw s Q => bif draw then Drawn C ops s (Q .normal) else aops C ops.toList ops.toList s (Q .normal))
    (fun _ _ iha ihb s Q => iha s fun e s' => match e with
      | .normal => ihb s' Q
      | e => Q e s')
    (fun c _ _ ihx ihy s Q => match s.eval c with
      | .o (.c (.v (.bool b))) => Br b (ihx s Q) (ihy s Q)
      | _ => False)
    (fun id _ ih s Q => ih s fun e s' => match e with
      | .exit i => bif Nat.beq i id then Q .normal s' else Q (.exit i) s'
      | e => Q e s')
    (fun _ ih s Q => Looped ih s Q)
    (fun _ _ _ _ _ _ _ _ => False)
    (fun id s Q => Q (.exit id) s)
    (fun _ _ _ _ => False)
    (fun _ _ _ => False)
    (fun _ _ _ => False)
    (fun s Q => Q .ret s)
    (fun _ _ _ => False) c
theorem awp_draw {C : Ctx} {id : Nat} {ops : Array Oper} {s : St} {Q : Ex → St → Prop} : awp C (.region id ops true) s Q = Drawn C ops s (Q .normal) := rfl
theorem awp_cond {C : Ctx} {c : Operand} {x y : Code} {s : St} {Q : Ex → St → Prop} : awp C (.cond c x y) s Q = (match s.eval c with
      | .o (.c (.v (.bool b))) => Br b (awp C x s Q) (awp C y s Q)
      | _ => False) := rfl

/-- What a function hands back. -/
def outs (C : Ctx) (l : List ResultVar) : St → (List T → St → Prop) → Prop :=
  List.rec (motive := fun _ => St → (List T → St → Prop) → Prop) (fun s K => K [] s) (fun x _ ih s K => match x with
    | .tmp t => (match s.get t with
    | .o a => mv2 s a fun x s' => ih s' fun xs s'' => K (x :: xs) s''
    | _ => False)
    | .cell p t => (match look C.tt t, s.get p with
    | some i, .o (.c (.bx d q off)) => match look s.ob d with
      | some (.box q' l) => q' = q ∧ match A2.of i.agg i.sz ((l.drop off).take i.sz) with
        | some a => mv2 s a fun x s' => ih s' fun xs s'' => K (x :: xs) s''
        | none => False
      | _ => False
    | _, _ => False)) l
theorem outs_tmp {C : Ctx} {t : Nat} {r : List ResultVar} {s : St} {K : List T → St → Prop} : outs C (.tmp t :: r) s K = (match s.get t with
    | .o a => mv2 s a fun x s' => outs C r s' fun xs s'' => K (x :: xs) s''
    | _ => False) := rfl
theorem outs_cell {C : Ctx} {p : Nat} {t : TypeId} {r : List ResultVar} {s : St} {K : List T → St → Prop} : outs C (.cell p t :: r) s K = (match look C.tt t, s.get p with
    | some i, .o (.c (.bx d q off)) => match look s.ob d with
      | some (.box q' l) => q' = q ∧ match A2.of i.agg i.sz ((l.drop off).take i.sz) with
        | some a => mv2 s a fun x s' => outs C r s' fun xs s'' => K (x :: xs) s''
        | none => False
      | _ => False
    | _, _ => False) := rfl
/-- The parameters, as the function meets them. -/
def enterR : Nat → List T → St → St
  | _, [], s => s
  | i, t :: r, s => enterR (i + 1) r (s.put (some i) (.o t.a2))
def old : List Ar → List T
  | [] => []
  | .ro t :: r => t :: old r
  | .rw t _ :: r => t :: old r
  | .mv t :: r => t :: old r
def allRo : List Ar → Bool
  | [] => true
  | .ro _ :: r => allRo r
  | .rw _ _ :: _ => false
  | .mv _ :: _ => false
def allV : List T → Bool
  | [] => true
  | .v _ :: r => allV r
  | _ :: _ => false
/-- What a parameter that may be written holds at the end. -/
def leave1 (s : St) (d : Nat) : T → T → Prop
  | .v x, t' => t' = .v x
  | .sl _ _, t' => match look s.ob d with
    | some (.row _ _ e es) => t' = .sl e es
    | _ => False
  | _, _ => False
def leaveL (s : St) : Nat → List T → List T → Prop
  | _, [], ts' => ts' = []
  | d, t :: l, ts' => match ts' with
    | t' :: l' => leave1 s d t t' ∧ leaveL s (d + 1) l l'
    | [] => False
def leave2 (s : St) (t t' : T) : Prop :=
  match t with
  | .agg l => match t' with
    | .agg l' => leaveL s 500 l l'
    | _ => False
  | t => leave1 s 500 t t'
/-- The whole body of a function, from its parameters to its results. -/
def body (C : Ctx) (n : Nat) (rs : List ResultVar) (c : Code) (args : List Ar) (ts : List T) : Prop :=
  bif Nat.ble args.length n then
    (match args with
    | .rw t t' :: r => bif allRo r && allV ts && Nat.ble t.cells.length 16 then awp C c (enterR 1 (old r) ((th2 500 0 ⟨n, [], []⟩ t).2.put (some 0) (.o (th2 500 0 ⟨n, [], []⟩ t).1))) (fun e s => match e with
        | .exit _ => False
        | _ => outs C rs s fun xs s' => xs = ts ∧ leave2 s' t t') else False
    | .mv t :: r => bif allRo r && Nat.ble t.cells.length 16 then awp C c (enterR 1 (old r) ((th2 500000 0 ⟨n, [], []⟩ t).2.put (some 0) (.o (th2 500000 0 ⟨n, [], []⟩ t).1))) (fun e s => match e with
        | .exit _ => False
        | _ => outs C rs s fun xs _ => xs = ts) else False
    | args => bif allRo args then awp C c (enterR 0 (old args) ⟨n, [], []⟩) (fun e s => match e with
        | .exit _ => False
        | _ => outs C rs s fun xs _ => xs = ts) else False)
  else False
def Fn (C : Ctx) (fn : Func) (args : List Ar) (ts : List T) : Prop :=
  match fn.body with
  | some c => body C fn.ntmps fn.results.toList c args ts
  | none => False

/-- The parameters as they came in, each slice with its place. -/
def fxV (i : Nat) (t : T) : AV := match t with
  | .sl e es => .c (.fx i e es)
  | t => .o t.a2
def enterF : Nat → List T → St → St
  | _, [], s => s
  | i, t :: ts, s => enterF (i + 1) ts (s.put (some i) (fxV i t))
/-- The cells of a struct behind a pointer, as a function meets them; as it leaves them. -/
def inB : Nat → List T → List A1
  | _, [] => []
  | j, t :: ts => (match t with | .v x => .v x | .sl e es => .fx j e es | _ => .any) :: inB (j + 1) ts
def eqB : Nat → List A1 → List T → Prop
  | _, [], [] => True
  | j, a :: l, t :: ts => (match t with | .v x => a = .v x | _ => ∃ e es, a = .fx j e es) ∧ eqB (j + 1) l ts
  | _, _, _ => False
def eqN : List A1 → List (Value ⊕ Nat) → Prop
  | [], [] => True
  | a :: l, c :: cs => (match c with | .inl z => a = .v z | .inr i => ∃ e es, a = .fx i e es) ∧ eqN l cs
  | _, _ => False
def FnP (C : Ctx) (fn : Func) (ts ts' az rs : List T) : Prop :=
  match fn.body with
  | some c => bif Nat.ble (az.length + 1) fn.ntmps then awp C c (enterR 1 az (((⟨fn.ntmps, [], []⟩ : St).set 500 (.box 0 (inB 0 ts))).put (some 0) (.c (.bx 500 0 0)))) (fun e s => match e with
      | .exit _ => False
      | _ => outs C fn.results.toList s fun xs s' => xs = rs ∧ ts'.length = ts.length ∧ match look s'.ob 500 with
        | some (.box q l) => eqB 0 l ts'
        | _ => False) else False
  | none => False
def FnN (C : Ctx) (fn : Func) (az : List T) (cs : List (Value ⊕ Nat)) : Prop :=
  match fn.body with
  | some c => bif Nat.ble az.length fn.ntmps then awp C c (enterF 0 az ⟨fn.ntmps, [], []⟩) (fun e s => match e with
      | .exit _ => False
      | _ => match fn.results.toList with
        | [.tmp t] => (match s.get t with
          | .o (.c (.bx d q 0)) => (match look s.ob d with
            | some (.box q' l) => q' = q ∧ eqN l cs
            | _ => False)
          | _ => False)
        | _ => False) else False
  | none => False

/-- The ways of a region, told ahead. -/
inductive Pl where
  | stop
  | go (i : Nat) (r : Pl)
  | or (a b : Pl)
def Pl.firsts : Pl → List Nat
  | .stop => []
  | .go i _ => [i]
  | .or a b => a.firsts ++ b.firsts
def adrawP (C : Ctx) (ops : Array Oper) (p : Pl) : St → (St → Prop) → Prop :=
  Pl.rec (motive := fun _ => St → (St → Prop) → Prop) (fun s K => K s) (fun i _ ih s K => stepD C ops i s fun s' => ih s' K) (fun _ _ iha ihb s K => iha s K ∧ ihb s K) p
theorem adrawP_stop {C : Ctx} {ops : Array Oper} {s : St} {K : St → Prop} : adrawP C ops .stop s K = K s := rfl
theorem adrawP_go {C : Ctx} {ops : Array Oper} {i : Nat} {r : Pl} {s : St} {K : St → Prop} : adrawP C ops (.go i r) s K = stepD C ops i s fun s' => adrawP C ops r s' K := rfl
theorem adrawP_or {C : Ctx} {ops : Array Oper} {a b : Pl} {s : St} {K : St → Prop} : adrawP C ops (.or a b) s K = (adrawP C ops a s K ∧ adrawP C ops b s K) := rfl
def plOk (ops : Array Oper) : Pl → Nat → Bool → Bool → Array Bool → Bool
  | .stop, _, alt, _, l => !alt && (Region.ready .any ops l).isEmpty
  | .go i r, n, alt, st, l => match n with
    | 0 => false
    | n + 1 => match alt with
      | true => plOk ops r n false false (l.setIfInBounds i true)
      | false => match firstQ st ops l (Region.ready .any ops l) with
        | some j => decide (j = i) && !(Region.ready .any ops l).isEmpty && plOk ops r n false st (l.setIfInBounds i true)
        | none => decide (Region.ready .any ops l = [i]) && plOk ops r n false false (l.setIfInBounds i true)
  | .or a b, n, alt, st, l => match n with
    | 0 => false
    | n + 1 => match alt with
      | true => plOk ops a (n + 1) true st l && plOk ops b (n + 1) true st l
      | false => (firstQ st ops l (Region.ready .any ops l)).isNone && !(Region.ready .any ops l).isEmpty && decide (Region.ready .any ops l = a.firsts ++ b.firsts) && plOk ops a (n + 1) true st l && plOk ops b (n + 1) true st l
theorem both_all {F : Nat → Prop} : ∀ {l : List Nat}, both l F ↔ ∀ i ∈ l, F i
  | [] => by simp [both]
  | [i] => by simp [both]
  | i :: j :: r => by
    have := both_all (F := F) (l := j :: r)
    simp only [both, this]; simp
theorem pl_eq {C : Ctx} {ops : Array Oper} : ∀ (pl : Pl), (∀ n st l, plOk ops pl n false st l = true → ∀ s K, adrawP C ops pl s K = adraw C ops n st l s K) ∧
    (∀ n st l, plOk ops pl (n + 1) true st l = true → ∀ s K, adrawP C ops pl s K ↔ ∀ i ∈ pl.firsts, stepD C ops i s (fun s' => adraw C ops n false (l.setIfInBounds i true) s' K))
  | .stop => ⟨fun n st l h s K => by
      simp only [plOk, Bool.not_false, Bool.true_and, List.isEmpty_iff] at h
      cases n <;> simp only [adrawP_stop, adrawP_go, adrawP_or, adraw, h], fun n st l h => by simp [plOk] at h⟩
  | .go i r => by
      have ih := (pl_eq (C := C) (ops := ops) r).1
      refine ⟨fun n st l h s K => ?_, fun n st l h s K => ?_⟩
      · cases n with
        | zero => simp [plOk] at h
        | succ n =>
          simp only [plOk] at h
          cases hf : firstQ st ops l (Region.ready .any ops l) with
          | none =>
            rw [hf] at h
            simp only [Bool.and_eq_true, decide_eq_true_eq] at h
            have := funext fun s => ih n false _ h.2 s K
            simp only [adrawP_stop, adrawP_go, adrawP_or, adraw]
            rw [this]
            rw [h.1] at hf
            rw [h.1]
            simp only [hf, both]
          | some j =>
            rw [hf] at h
            simp only [Bool.and_eq_true, decide_eq_true_eq] at h
            obtain ⟨⟨rfl, h1⟩, h2⟩ := h
            have := funext fun s => ih n st _ h2 s K
            simp only [adrawP_stop, adrawP_go, adrawP_or, adraw]
            rw [this]
            cases hr : Region.ready .any ops l with
            | nil => rw [hr] at h1; simp at h1
            | cons x y => rw [hr] at hf; simp only [hf]
      · simp only [plOk] at h
        have := funext fun s => ih n false _ h s K
        simp only [adrawP_stop, adrawP_go, adrawP_or, Pl.firsts, List.mem_singleton, forall_eq]
        rw [this]
  | .or a b => by
      have iha := (pl_eq (C := C) (ops := ops) a).2
      have ihb := (pl_eq (C := C) (ops := ops) b).2
      refine ⟨fun n st l h s K => ?_, fun n st l h s K => ?_⟩
      · cases n with
        | zero => simp [plOk] at h
        | succ n =>
          simp only [plOk, Bool.and_eq_true, decide_eq_true_eq, Option.isNone_iff_eq_none] at h
          obtain ⟨⟨⟨⟨h1, h2⟩, h3⟩, h4⟩, h5⟩ := h
          apply propext
          simp only [adrawP_stop, adrawP_go, adrawP_or, adraw]
          rw [iha n st l h4 s K, ihb n st l h5 s K]
          cases hr : Region.ready .any ops l with
          | nil => rw [hr] at h2; simp at h2
          | cons x y =>
            rw [hr] at h1 h3
            simp only [h1]
            rw [both_all, h3]
            simp only [List.mem_append, or_imp, forall_and]
      · simp only [plOk, Bool.and_eq_true] at h
        simp only [adrawP_stop, adrawP_go, adrawP_or, Pl.firsts]
        rw [iha n st l h.1 s K, ihb n st l h.2 s K]
        simp only [List.mem_append, or_imp, forall_and]
theorem dr {C : Ctx} {ops : Array Oper} {s : St} {K : St → Prop} (pl : Pl) (h : (Region.noSelect ops && okD C ops && plOk ops pl ops.size false true (Array.replicate ops.size false)) = true) (hk : adrawP C ops pl s K) : Drawn C ops s K := by
  rw [Bool.and_eq_true, Bool.and_eq_true] at h
  exact ⟨h.1.1, true, fun _ => h.1.2, .inl (by rw [← (pl_eq pl).1 _ _ _ h.2]; exact hk)⟩
theorem drM {C : Ctx} {ops : Array Oper} {s : St} {K : St → Prop} (pl : Pl) (M : St → Prop) (h : (Region.noSelect ops && okD C ops && plOk ops pl ops.size false true (Array.replicate ops.size false)) = true) (hk : adrawP C ops pl s (fun s' => ∃ m, M m ∧ weaker s' m)) (hm : ∀ m, M m → K m) : Drawn C ops s K := by
  rw [Bool.and_eq_true, Bool.and_eq_true] at h
  exact ⟨h.1.1, true, fun _ => h.1.2, .inr ⟨M, by rw [← (pl_eq pl).1 _ _ _ h.2]; exact hk, hm⟩⟩
/-- As 'dr', where something is written ahead of a load: then loads too come in every order. -/
theorem dr0 {C : Ctx} {ops : Array Oper} {s : St} {K : St → Prop} (pl : Pl) (h : (Region.noSelect ops && plOk ops pl ops.size false false (Array.replicate ops.size false)) = true) (hk : adrawP C ops pl s K) : Drawn C ops s K := by
  rw [Bool.and_eq_true] at h
  exact ⟨h.1, false, fun e => (by cases e), .inl (by rw [← (pl_eq pl).1 _ _ _ h.2]; exact hk)⟩
theorem drM0 {C : Ctx} {ops : Array Oper} {s : St} {K : St → Prop} (pl : Pl) (M : St → Prop) (h : (Region.noSelect ops && plOk ops pl ops.size false false (Array.replicate ops.size false)) = true) (hk : adrawP C ops pl s (fun s' => ∃ m, M m ∧ weaker s' m)) (hm : ∀ m, M m → K m) : Drawn C ops s K := by
  rw [Bool.and_eq_true] at h
  exact ⟨h.1, false, fun e => (by cases e), .inr ⟨M, by rw [← (pl_eq pl).1 _ _ _ h.2]; exact hk, hm⟩⟩
theorem drG1 {C : Ctx} {ops : Array Oper} {s : St} {K : St → Prop} {f : Nat → St} (pl : Pl) (h : (Region.noSelect ops && okD C ops && plOk ops pl ops.size false true (Array.replicate ops.size false)) = true) (hk : adrawP C ops pl s (fun s' => ∃ q0, weaker s' (f q0))) (hm : ∀ q0, K (f q0)) : Drawn C ops s K :=
  drM pl (fun m => ∃ q0, m = f q0) h (by have e : (fun s' => ∃ m, (∃ q0, m = f q0) ∧ weaker s' m) = (fun s' => ∃ q0, weaker s' (f q0)) := (funext fun s' => propext ⟨fun ⟨m, ⟨q0, hm⟩, h⟩ => ⟨q0, hm ▸ h⟩, fun ⟨q0, h⟩ => ⟨_, ⟨q0, rfl⟩, h⟩⟩); rw [e]; exact hk) (fun m ⟨q0, hq⟩ => hq ▸ hm q0)
theorem drG2 {C : Ctx} {ops : Array Oper} {s : St} {K : St → Prop} {f : Nat → Nat → St} (pl : Pl) (h : (Region.noSelect ops && okD C ops && plOk ops pl ops.size false true (Array.replicate ops.size false)) = true) (hk : adrawP C ops pl s (fun s' => ∃ q0 q1, weaker s' (f q0 q1))) (hm : ∀ q0 q1, K (f q0 q1)) : Drawn C ops s K :=
  drM pl (fun m => ∃ q0 q1, m = f q0 q1) h (by have e : (fun s' => ∃ m, (∃ q0 q1, m = f q0 q1) ∧ weaker s' m) = (fun s' => ∃ q0 q1, weaker s' (f q0 q1)) := (funext fun s' => propext ⟨fun ⟨m, ⟨q0, q1, hm⟩, h⟩ => ⟨q0, q1, hm ▸ h⟩, fun ⟨q0, q1, h⟩ => ⟨_, ⟨q0, q1, rfl⟩, h⟩⟩); rw [e]; exact hk) (fun m ⟨q0, q1, hq⟩ => hq ▸ hm q0 q1)
theorem drG3 {C : Ctx} {ops : Array Oper} {s : St} {K : St → Prop} {f : Nat → Nat → Nat → St} (pl : Pl) (h : (Region.noSelect ops && okD C ops && plOk ops pl ops.size false true (Array.replicate ops.size false)) = true) (hk : adrawP C ops pl s (fun s' => ∃ q0 q1 q2, weaker s' (f q0 q1 q2))) (hm : ∀ q0 q1 q2, K (f q0 q1 q2)) : Drawn C ops s K :=
  drM pl (fun m => ∃ q0 q1 q2, m = f q0 q1 q2) h (by have e : (fun s' => ∃ m, (∃ q0 q1 q2, m = f q0 q1 q2) ∧ weaker s' m) = (fun s' => ∃ q0 q1 q2, weaker s' (f q0 q1 q2)) := (funext fun s' => propext ⟨fun ⟨m, ⟨q0, q1, q2, hm⟩, h⟩ => ⟨q0, q1, q2, hm ▸ h⟩, fun ⟨q0, q1, q2, h⟩ => ⟨_, ⟨q0, q1, q2, rfl⟩, h⟩⟩); rw [e]; exact hk) (fun m ⟨q0, q1, q2, hq⟩ => hq ▸ hm q0 q1 q2)
theorem drG4 {C : Ctx} {ops : Array Oper} {s : St} {K : St → Prop} {f : Nat → Nat → Nat → Nat → St} (pl : Pl) (h : (Region.noSelect ops && okD C ops && plOk ops pl ops.size false true (Array.replicate ops.size false)) = true) (hk : adrawP C ops pl s (fun s' => ∃ q0 q1 q2 q3, weaker s' (f q0 q1 q2 q3))) (hm : ∀ q0 q1 q2 q3, K (f q0 q1 q2 q3)) : Drawn C ops s K :=
  drM pl (fun m => ∃ q0 q1 q2 q3, m = f q0 q1 q2 q3) h (by have e : (fun s' => ∃ m, (∃ q0 q1 q2 q3, m = f q0 q1 q2 q3) ∧ weaker s' m) = (fun s' => ∃ q0 q1 q2 q3, weaker s' (f q0 q1 q2 q3)) := (funext fun s' => propext ⟨fun ⟨m, ⟨q0, q1, q2, q3, hm⟩, h⟩ => ⟨q0, q1, q2, q3, hm ▸ h⟩, fun ⟨q0, q1, q2, q3, h⟩ => ⟨_, ⟨q0, q1, q2, q3, rfl⟩, h⟩⟩); rw [e]; exact hk) (fun m ⟨q0, q1, q2, q3, hq⟩ => hq ▸ hm q0 q1 q2 q3)
theorem drG5 {C : Ctx} {ops : Array Oper} {s : St} {K : St → Prop} {f : Nat → Nat → Nat → Nat → Nat → St} (pl : Pl) (h : (Region.noSelect ops && okD C ops && plOk ops pl ops.size false true (Array.replicate ops.size false)) = true) (hk : adrawP C ops pl s (fun s' => ∃ q0 q1 q2 q3 q4, weaker s' (f q0 q1 q2 q3 q4))) (hm : ∀ q0 q1 q2 q3 q4, K (f q0 q1 q2 q3 q4)) : Drawn C ops s K :=
  drM pl (fun m => ∃ q0 q1 q2 q3 q4, m = f q0 q1 q2 q3 q4) h (by have e : (fun s' => ∃ m, (∃ q0 q1 q2 q3 q4, m = f q0 q1 q2 q3 q4) ∧ weaker s' m) = (fun s' => ∃ q0 q1 q2 q3 q4, weaker s' (f q0 q1 q2 q3 q4)) := (funext fun s' => propext ⟨fun ⟨m, ⟨q0, q1, q2, q3, q4, hm⟩, h⟩ => ⟨q0, q1, q2, q3, q4, hm ▸ h⟩, fun ⟨q0, q1, q2, q3, q4, h⟩ => ⟨_, ⟨q0, q1, q2, q3, q4, rfl⟩, h⟩⟩); rw [e]; exact hk) (fun m ⟨q0, q1, q2, q3, q4, hq⟩ => hq ▸ hm q0 q1 q2 q3 q4)
theorem drG6 {C : Ctx} {ops : Array Oper} {s : St} {K : St → Prop} {f : Nat → Nat → Nat → Nat → Nat → Nat → St} (pl : Pl) (h : (Region.noSelect ops && okD C ops && plOk ops pl ops.size false true (Array.replicate ops.size false)) = true) (hk : adrawP C ops pl s (fun s' => ∃ q0 q1 q2 q3 q4 q5, weaker s' (f q0 q1 q2 q3 q4 q5))) (hm : ∀ q0 q1 q2 q3 q4 q5, K (f q0 q1 q2 q3 q4 q5)) : Drawn C ops s K :=
  drM pl (fun m => ∃ q0 q1 q2 q3 q4 q5, m = f q0 q1 q2 q3 q4 q5) h (by have e : (fun s' => ∃ m, (∃ q0 q1 q2 q3 q4 q5, m = f q0 q1 q2 q3 q4 q5) ∧ weaker s' m) = (fun s' => ∃ q0 q1 q2 q3 q4 q5, weaker s' (f q0 q1 q2 q3 q4 q5)) := (funext fun s' => propext ⟨fun ⟨m, ⟨q0, q1, q2, q3, q4, q5, hm⟩, h⟩ => ⟨q0, q1, q2, q3, q4, q5, hm ▸ h⟩, fun ⟨q0, q1, q2, q3, q4, q5, h⟩ => ⟨_, ⟨q0, q1, q2, q3, q4, q5, rfl⟩, h⟩⟩); rw [e]; exact hk) (fun m ⟨q0, q1, q2, q3, q4, q5, hq⟩ => hq ▸ hm q0 q1 q2 q3 q4 q5)
theorem drG7 {C : Ctx} {ops : Array Oper} {s : St} {K : St → Prop} {f : Nat → Nat → Nat → Nat → Nat → Nat → Nat → St} (pl : Pl) (h : (Region.noSelect ops && okD C ops && plOk ops pl ops.size false true (Array.replicate ops.size false)) = true) (hk : adrawP C ops pl s (fun s' => ∃ q0 q1 q2 q3 q4 q5 q6, weaker s' (f q0 q1 q2 q3 q4 q5 q6))) (hm : ∀ q0 q1 q2 q3 q4 q5 q6, K (f q0 q1 q2 q3 q4 q5 q6)) : Drawn C ops s K :=
  drM pl (fun m => ∃ q0 q1 q2 q3 q4 q5 q6, m = f q0 q1 q2 q3 q4 q5 q6) h (by have e : (fun s' => ∃ m, (∃ q0 q1 q2 q3 q4 q5 q6, m = f q0 q1 q2 q3 q4 q5 q6) ∧ weaker s' m) = (fun s' => ∃ q0 q1 q2 q3 q4 q5 q6, weaker s' (f q0 q1 q2 q3 q4 q5 q6)) := (funext fun s' => propext ⟨fun ⟨m, ⟨q0, q1, q2, q3, q4, q5, q6, hm⟩, h⟩ => ⟨q0, q1, q2, q3, q4, q5, q6, hm ▸ h⟩, fun ⟨q0, q1, q2, q3, q4, q5, q6, h⟩ => ⟨_, ⟨q0, q1, q2, q3, q4, q5, q6, rfl⟩, h⟩⟩); rw [e]; exact hk) (fun m ⟨q0, q1, q2, q3, q4, q5, q6, hq⟩ => hq ▸ hm q0 q1 q2 q3 q4 q5 q6)
theorem drG8 {C : Ctx} {ops : Array Oper} {s : St} {K : St → Prop} {f : Nat → Nat → Nat → Nat → Nat → Nat → Nat → Nat → St} (pl : Pl) (h : (Region.noSelect ops && okD C ops && plOk ops pl ops.size false true (Array.replicate ops.size false)) = true) (hk : adrawP C ops pl s (fun s' => ∃ q0 q1 q2 q3 q4 q5 q6 q7, weaker s' (f q0 q1 q2 q3 q4 q5 q6 q7))) (hm : ∀ q0 q1 q2 q3 q4 q5 q6 q7, K (f q0 q1 q2 q3 q4 q5 q6 q7)) : Drawn C ops s K :=
  drM pl (fun m => ∃ q0 q1 q2 q3 q4 q5 q6 q7, m = f q0 q1 q2 q3 q4 q5 q6 q7) h (by have e : (fun s' => ∃ m, (∃ q0 q1 q2 q3 q4 q5 q6 q7, m = f q0 q1 q2 q3 q4 q5 q6 q7) ∧ weaker s' m) = (fun s' => ∃ q0 q1 q2 q3 q4 q5 q6 q7, weaker s' (f q0 q1 q2 q3 q4 q5 q6 q7)) := (funext fun s' => propext ⟨fun ⟨m, ⟨q0, q1, q2, q3, q4, q5, q6, q7, hm⟩, h⟩ => ⟨q0, q1, q2, q3, q4, q5, q6, q7, hm ▸ h⟩, fun ⟨q0, q1, q2, q3, q4, q5, q6, q7, h⟩ => ⟨_, ⟨q0, q1, q2, q3, q4, q5, q6, q7, rfl⟩, h⟩⟩); rw [e]; exact hk) (fun m ⟨q0, q1, q2, q3, q4, q5, q6, q7, hq⟩ => hq ▸ hm q0 q1 q2 q3 q4 q5 q6 q7)
def Pl.line : List Nat → Pl
  | [] => .stop
  | i :: r => .go i (Pl.line r)

end Go.Proofs.Ytadpancnhinlbaa.E
