/- The operations do what the abstract weakest precondition says. -/
import Derived.Test.YtadpancnhinlbaaENew
import Derived.Laws.Entries
import Derived.ChangeKeysEq
namespace Go.Proofs.Ytadpancnhinlbaa.E
set_option linter.unusedVariables false
set_option linter.unusedSimpArgs false

def ZT (x : Value) (t : T) : Prop := (t = .v x ∧ x.oneCell' = true) ∨ ∃ e, t = .sl e [] ∧ x = .slice none 0 0
structure TIok (P : Program) (t : Nat) (i : TI) : Prop where
  info : ∃ j z, P.info? t = some j ∧ j.size = i.sz ∧ j.bytes = i.bytes ∧ j.zero = some z ∧ z.cells.toList = i.zero ∧ (if i.agg then z = .agg i.zero.toArray else ∃ x, i.zero = [x] ∧ z = x)
  len : i.zero.length = i.sz
  one : ∀ x ∈ i.zero, x.oneCell' = true
  zt : i.zt.length = i.zero.length ∧ ∀ (j : Nat) (x : Value) (t : T), i.zero[j]? = some x → i.zt[j]? = some t → ZT x t
  bytes : i.bytes ≤ 1024
  desc : ∃ d, P.underlying t = some d ∧ d.isRow = i.agg ∧ match i.d with
    | .int k => d = .int k
    | .bool => d = .bool
    | .str => d = .string
    | .sl e => d = .slice e
    | .st fs => ∃ fa : Array Field, d = .struct fa ∧ fa.toList.map (fun f => (f.offset, f.type)) = fs
    | _ => True
structure CtxOk (P : Program) (C : Ctx) : Prop where
  tt : ∀ t i, look C.tt t = some i → TIok P t i
  sp : ∀ f args rs, C.Sp f args rs → Spec P f args rs
  spP : ∀ f ts ts' az rs, C.SpP f ts ts' az rs → SpecP P f ts ts' az rs
  spN : ∀ f az cs, C.SpN f az cs → SpecN P f az cs

section
variable {P : Program} {C : Ctx} {G : Gh} {w : World} {s : St} {a : Act} {o : Oper} {K : St → Prop} {Q : Exit → Act → World → Prop}

theorem one_of_all {l : List Value} (h : l.all (·.oneCell') = true) {j : Nat} {x : Value} (hx : l[j]? = some x) : x.oneCell' = true := List.all_eq_true.1 h x (List.mem_of_getElem? hx)
theorem v_ofV (x : Value) : V2 G w s.ob (A2.ofV x) x ∧ (A2.ofV x).lt G.k := by
  have key : ∀ y : Value, V2 G w s.ob (bif y.oneCell' then A2.c (.v y) else .c .any) y ∧ (bif y.oneCell' then A2.c (.v y) else .c .any).lt G.k := by
    intro y
    cases h : y.oneCell'
    · exact ⟨trivial, fun x hx => by simp [A2.cells] at hx; subst hx; trivial⟩
    · exact ⟨⟨rfl, h⟩, fun x hx => by simp [A2.cells] at hx; subst hx; trivial⟩
  by_cases hx : ∃ cs, x = .agg cs
  · obtain ⟨cs, rfl⟩ := hx
    simp only [A2.ofV]
    cases h : cs.toList.all (·.oneCell')
    · exact ⟨trivial, fun x hx => by simp [A2.cells] at hx; subst hx; trivial⟩
    · refine ⟨⟨cs.toList, by simp, by simp, fun j b hb => ?_⟩, fun x hx => ?_⟩
      · rw [List.getElem?_map, Option.map_eq_some_iff] at hb
        obtain ⟨x, hx, rfl⟩ := hb
        have : cs.toList.getD j undef = x := by rw [List.getD_eq_getElem?_getD, hx]; rfl
        rw [this]
        exact ⟨⟨rfl, one_of_all h hx⟩, one_of_all h hx⟩
      · simp only [cond_true, A2.cells, List.mem_map] at hx
        obtain ⟨y, _, rfl⟩ := hx; trivial
  · have : A2.ofV x = bif x.oneCell' then A2.c (.v x) else .c .any := by cases x <;> first | rfl | exact absurd ⟨_, rfl⟩ hx
    rw [this]; exact key x
theorem Sim.eval (hs : Sim G s a w) (x : Operand) : V G w s.ob (s.eval x) (a.eval x) ∧ (s.eval x).lt G.k := by
  cases x with
  | tmp t => exact hs.tm t
  | const v => exact v_ofV v
  | global g => exact ⟨trivial, fun x hx => by simp [A2.cells] at hx; subst hx; trivial⟩
  | func f => exact ⟨⟨rfl, rfl⟩, fun x hx => by simp [A2.cells] at hx; subst hx; trivial⟩

/-- Behind an operation. -/
def After (G : Gh) (K : St → Prop) (a' : Act) (w' : World) : Prop := ∃ G' s', Keep G G' ∧ K s' ∧ Sim G' s' a' w'
theorem wp_val {y : Value} {w' : World} {K' : Act → World → Prop} (h : (execOp a.eval o).run P w = .ok (.value y) w') (hk : K' (a.put o.dst y) w') : o.wp P a w K' Q := by
  unfold Oper.wp; rw [h]; exact hk
theorem wp_unit {w' : World} {K' : Act → World → Prop} (h : (execOp a.eval o).run P w = .ok .skip w') (hk : K' (a.put o.dst undef) w') : o.wp P a w K' Q := by
  unfold Oper.wp; rw [h]; exact hk
theorem after_of {G' : Gh} {s' : St} {a' : Act} {w' : World} (h : Sim G' s' a' w') (hk : Keep G G') (k : K s') : After G K a' w' := ⟨G', s', hk, k, h⟩
/-- The world stands; a value comes. -/
theorem after_val (hs : Sim G s a w) (hd : okDst o.dst s.n = true) {x : AV} {y : Value} (hv : V G w s.ob x y) (hl : x.lt G.k) (hk : K (s.put o.dst x)) : After G K (a.put o.dst y) w :=
  ⟨G, _, Keep.refl G, hk, hs.put hd hv hl⟩
theorem lt_c {k : Nat} {x : A1} (h : x.lt k) : (AV.c x).lt k := fun y hy => by simp [A2.cells] at hy; subst hy; exact h
theorem opr_out {x : Operand} {K' : A1 → Prop} (hs : Sim G s a w) (h : opr s x K') : ∃ c, K' c ∧ V1 G w s.ob c (a.eval x) ∧ c.lt G.k := by
  have he := hs.eval x
  unfold opr at h
  split at h
  · rename_i c hc
    rw [hc] at he
    exact ⟨c, h, he.1, he.2 c (by simp [A2.cells])⟩
  · exact h.elim
theorem oprN_out {x : Operand} {K' : A1 → Prop} (hs : Sim G s a w) (h : oprN s x K') : ∃ c, K' c ∧ V1 G w s.ob c (a.eval x) ∧ c.lt G.k := by
  obtain ⟨c, h, hv, hl⟩ := opr_out hs h
  refine ⟨c.nrm, h, ?_, ?_⟩
  · cases c with
    | fx j e es => exact hv.2
    | _ => exact hv
  · cases c with
    | fx j e es => trivial
    | _ => exact hl
theorem opi_out {x : Operand} {K' : IntKind → Int → Prop} (hs : Sim G s a w) (h : opi s x K') : ∃ k n, K' k n ∧ a.eval x = .int k n := by
  have he := hs.eval x
  unfold opi at h
  split at h
  · rename_i k n hc
    rw [hc] at he
    exact ⟨k, n, h, he.1.1⟩
  · exact h.elim

theorem op_move {x : Operand} (ho : o.op = .move x ∨ o.op = .assign x) (hs : Sim G s a w) (hd : okDst o.dst s.n = true) (h : K (s.put o.dst (s.eval x))) : o.wp P a w (After G K) Q := by
  refine wp_val (y := a.eval x) (w' := w) ?_ (after_val hs hd (hs.eval x).1 (hs.eval x).2 h)
  rcases ho with ho | ho <;> simp only [execOp, ho] <;> rfl
theorem op_pick {c x y : Operand} (ho : o.op = .pick c x y) (hs : Sim G s a w) (hd : okDst o.dst s.n = true) (h : aop C (.pick c x y) o.dst s K) : o.wp P a w (After G K) Q := by
  have hc := hs.eval c
  have hx := hs.eval x
  have hy := hs.eval y
  simp only [aop] at h
  split at h
  · rename_i b hb
    rw [hb] at hc
    have hcv : a.eval c = .bool b := hc.1.1
    have hrun : (execOp a.eval o).run P w = .ok (.value (if b then a.eval x else a.eval y)) w := by simp only [execOp, ho, hcv]; rfl
    refine wp_val hrun ?_
    split at h
    · rename_i p r hp hr
      rw [hp] at hx; rw [hr] at hy
      have h1 : a.eval x = .bool p := hx.1.1
      have h2 : a.eval y = .bool r := hy.1.1
      refine after_val hs hd (x := .bool (bif b then p else r)) ?_ (lt_c trivial) h
      rw [h1, h2]
      cases b <;> exact ⟨rfl, rfl⟩
    · cases b with
      | true => exact after_val hs hd hx.1 hx.2 (h.1 rfl)
      | false => exact after_val hs hd hy.1 hy.2 (h.2 rfl)
  · exact h.elim
/-- .. and all that was is as it was. -/
def Calm (G : Gh) (K : St → Prop) (w : World) (a' : Act) (w' : World) : Prop := After G K a' w' ∧ Up w w' ∧ ∀ b, b < w.heap.size → w'.heap[b]? = w.heap[b]?
theorem nm_ge (d : Option Nat) : 1000 ≤ nm d := by cases d <;> simp [nm]
theorem op_newC {t : Nat} {vs : List Value} {l : List A1} (n : Nat) (hn : 1000 ≤ n) (hrun : (execOp a.eval o).run P w = .ok (.value (.pointer (some ⟨w.heap.size, 0, none⟩))) (w.alloc (.cells vs.toArray t))) (hs : Sim G s a w) (hd : okDst o.dst s.n = true) (hv : VL G w s.ob l vs) (hl : ∀ a ∈ l, a.lt G.k)
    (h : ∀ q, K ((s.set n (.box q l)).put o.dst (.c (.bx n q 0)))) : o.wp P a w (Calm G K w) Q := by
  refine wp_val hrun ?_
  have hs' := hs.box t n hv hl
  refine ⟨?_, up_alloc _ _, fun b hb => heap_alloc_old w _ b hb⟩
  refine after_of (hs'.put hd (x := .c (.bx n G.k 0)) ?_ (lt_c (Nat.lt_succ_self G.k))) ⟨rfl, rfl, rfl, fun _ _ => rfl, fun d hd => upd_other _ _ (by omega)⟩ (h G.k)
  refine ⟨rfl, fun _ => ?_⟩
  show _ = Value.pointer (some ⟨upd G.β n w.heap.size n, 0, none⟩)
  rw [upd_same]
theorem op_new {t : Nat} {vs : List Value} {l : List A1} (n : Nat) (hn : 1000 ≤ n) (hrun : (execOp a.eval o).run P w = .ok (.value (.pointer (some ⟨w.heap.size, 0, none⟩))) (w.alloc (.cells vs.toArray t))) (hs : Sim G s a w) (hd : okDst o.dst s.n = true) (hv : VL G w s.ob l vs) (hl : ∀ a ∈ l, a.lt G.k)
    (h : ∀ q, K ((s.set n (.box q l)).put o.dst (.c (.bx n q 0)))) : o.wp P a w (After G K) Q := by
  exact Oper.wp_mono (fun _ _ h => h.1) (op_newC n hn hrun hs hd hv hl h)
theorem op_allocC {t : Nat} (ho : o.op = .alloc t) (hC : CtxOk P C) (hs : Sim G s a w) (hd : okDst o.dst s.n = true) (h : aop C (.alloc t) o.dst s K) : o.wp P a w (Calm G K w) Q := by
  simp only [aop] at h
  split at h
  · rename_i i hi
    have ti := hC.tt t i hi
    obtain ⟨j, z, hj, hsz, hby, hz, hzc, _⟩ := ti.info
    refine op_newC (t := t) (vs := i.zero) (l := i.zero.map .v) (nm o.dst) (nm_ge _) ?_ hs hd ⟨by simp, fun j x hx => ?_⟩ (fun x hx => ?_) h
    · simp only [execOp, ho, Instr.alloc, zeroValue, newVar, newRow, newObj, Sem.run_bind, run_typeInfo _ hj, Result.andThen_ok, hz, Sem.run_pure]
      rw [← hzc]
      rfl
    · rw [List.getElem?_map, Option.map_eq_some_iff] at hx
      obtain ⟨y, hy, rfl⟩ := hx
      have : i.zero.getD j undef = y := by rw [List.getD_eq_getElem?_getD, hy]; rfl
      rw [this]
      have := ti.one y (List.mem_of_getElem? hy)
      exact ⟨⟨rfl, this⟩, this⟩
    · obtain ⟨y, _, rfl⟩ := List.mem_map.1 hx; trivial
  · exact h.elim
theorem op_alloc {t : Nat} (ho : o.op = .alloc t) (hC : CtxOk P C) (hs : Sim G s a w) (hd : okDst o.dst s.n = true) (h : aop C (.alloc t) o.dst s K) : o.wp P a w (After G K) Q :=
  Oper.wp_mono (fun _ _ h => h.1) (op_allocC ho hC hs hd h)
theorem cells_of {x : A2} {y : Value} (hv : V2 G w s.ob x y) (hk : x.cells.all A1.known = true) : VL G w s.ob x.cells y.cells.toList := by
  cases x with
  | c x =>
    have h1 : x.known = true := by simpa [A2.cells] using hk
    have hone := hv.one h1
    have hc : y.cells.toList = [y] := by cases y <;> first | rfl | cases hone
    rw [hc]
    refine ⟨rfl, fun j b hb => ?_⟩
    cases j with
    | zero => simp [A2.cells] at hb; subst hb; exact ⟨hv, hone⟩
    | succ j => simp [A2.cells] at hb
  | agg l =>
    obtain ⟨vs, rfl, hv⟩ := hv
    exact hv
theorem op_box {t : Nat} {x : Operand} (ho : o.op = .box t x) (hs : Sim G s a w) (hd : okDst o.dst s.n = true) (h : aop C (.box t x) o.dst s K) : o.wp P a w (After G K) Q := by
  have hx := hs.eval x
  simp only [aop] at h
  split at h
  · rename_i b hb
    rw [hb] at hx
    cases hk : b.cells.all A1.known with
    | false => rw [hk] at h; exact h.elim
    | true =>
      rw [hk] at h
      refine op_new (t := t) (vs := (a.eval x).cells.toList) (nm o.dst) (nm_ge _) ?_ hs hd (cells_of hx.1 hk) hx.2 h
      simp only [execOp, ho, Instr.box, newVar, newRow, newObj, Sem.run_bind, Sem.run_pure]
      rfl
  · exact h.elim

theorem getD_of {l : List Value} {j : Nat} {x : Value} (h : l[j]? = some x) : l.getD j undef = x := by rw [List.getD_eq_getElem?_getD, h]; rfl
theorem run_isAgg {t : Nat} {i : TI} (ti : TIok P t i) (w : World) : (isAgg t).run P w = .ok i.agg w := by
  obtain ⟨d, hu, hr, _⟩ := ti.desc
  unfold isAgg
  rw [Sem.run_bind, run_underlying hu w, ← hr]
  cases d <;> rfl
theorem run_sizeOf {t : Nat} {i : TI} (ti : TIok P t i) (w : World) : (sizeOf t).run P w = .ok i.sz w := by
  obtain ⟨j, z, hj, hsz, _⟩ := ti.info
  simp only [sizeOf, Sem.run_bind, run_typeInfo _ hj, Result.andThen_ok, Sem.run_pure, hsz]
theorem run_load {t : Nat} {i : TI} (ti : TIok P t i) (ad : Addr) (cs : List Value) (h : ∀ j v, cs[j]? = some v → w.cell? (ad.add j) = some v) (hl : cs.length = i.sz) (y : Value) (hy : if i.agg then y = .agg cs.toArray else cs = [y]) :
    (Instr.loadAt t (.pointer (some ad))).run P w = .ok y w := by
  simp only [Instr.loadAt, Instr.sureAddr, Sem.run_bind, Sem.run_pure, Result.andThen_ok, loadVar, run_isAgg ti]
  cases hg : i.agg with
  | true =>
    rw [hg] at hy
    simp only [if_true] at hy ⊢
    simp only [Sem.run_bind, run_sizeOf ti, Result.andThen_ok]
    rw [← hl, run_loadCells_list (P := P) w ad cs h]
    simp only [Result.andThen_ok, Sem.run_pure, hy]
  | false =>
    rw [hg] at hy
    simp only [Bool.false_eq_true, if_false] at hy ⊢
    subst hy
    have := h 0 y rfl
    rw [show ad.add 0 = ad from by simp [Addr.add]] at this
    simp only [load, Sem.run, this]
/-- The value that a load of some cells gives. -/
theorem of_loadQ {t : Nat} {i : TI} (ti : TIok P t i) {l : List A1} {cs : List Value} {x : A2} (hx : A2.of i.agg i.sz l = some x) (hv : VL G w s.ob l cs) :
    ∃ y, (∀ (w' : World) (ad : Addr), (∀ j v, cs[j]? = some v → w'.cell? (ad.add j) = some v) → (Instr.loadAt t (.pointer (some ad))).run P w' = .ok y w') ∧ V2 G w s.ob x y := by
  simp only [A2.of] at hx
  cases hl : Nat.beq l.length i.sz with
  | false => rw [hl] at hx; cases hx
  | true =>
    rw [hl] at hx
    have hl' : cs.length = i.sz := hv.1.trans (Nat.eq_of_beq_eq_true hl)
    simp only [cond_true] at hx
    cases hg : i.agg with
    | true =>
      rw [hg] at hx
      cases hx
      exact ⟨.agg cs.toArray, fun w' ad h => run_load ti ad cs h hl' _ (by rw [hg]; rfl), cs, rfl, hv⟩
    | false =>
      rw [hg] at hx
      simp only [cond_false] at hx
      split at hx
      · rename_i c
        cases hx
        obtain ⟨v, hv1⟩ : ∃ v, cs = [v] := by
          have := hv.1
          cases cs with
          | nil => simp at this
          | cons v r => cases r with
            | nil => exact ⟨v, rfl⟩
            | cons _ _ => simp at this
        subst hv1
        exact ⟨v, fun w' ad h => run_load ti ad [v] h hl' v (by rw [hg]; rfl), (hv.2 0 c rfl).1⟩
      · cases hx
theorem of_load {t : Nat} {i : TI} (ti : TIok P t i) {ad : Addr} {l : List A1} {cs : List Value} {x : A2} (hx : A2.of i.agg i.sz l = some x) (hv : VL G w s.ob l cs) (h : ∀ j v, cs[j]? = some v → w.cell? (ad.add j) = some v) :
    ∃ y, (Instr.loadAt t (.pointer (some ad))).run P w = .ok y w ∧ V2 G w s.ob x y := by
  obtain ⟨y, h1, h2⟩ := of_loadQ ti hx hv
  exact ⟨y, h1 w ad h, h2⟩
theorem of_lt {i : TI} {l : List A1} {x : A2} {k : Nat} (hx : A2.of i.agg i.sz l = some x) (h : ∀ a ∈ l, a.lt k) : x.lt k := by
  simp only [A2.of] at hx
  cases hl : Nat.beq l.length i.sz <;> rw [hl] at hx
  · cases hx
  · cases hg : i.agg <;> rw [hg] at hx
    · simp only [cond_true, cond_false] at hx
      split at hx
      · cases hx; exact h
      · cases hx
    · cases hx; exact h
theorem VL.part {l : List A1} {vs : List Value} (hv : VL G w s.ob l vs) (off n : Nat) : VL G w s.ob ((l.drop off).take n) ((vs.drop off).take n) := by
  refine ⟨by simp [hv.1], fun j b hb => ?_⟩
  rw [List.getElem?_take] at hb
  split at hb
  · rename_i hj
    rw [List.getElem?_drop] at hb
    have h1 := hv.2 (off + j) b hb
    have hlt : off + j < vs.length := by rw [hv.1]; exact (List.getElem?_eq_some_iff.1 hb).1
    have : ((vs.drop off).take n).getD j undef = vs.getD (off + j) undef := by
      simp only [List.getD_eq_getElem?_getD, List.getElem?_take, List.getElem?_drop, hj, if_true]
    rw [this]; exact h1
  · cases hb
theorem part_mem {α : Type} {l : List α} {off n : Nat} {x : α} (h : x ∈ (l.drop off).take n) : x ∈ l := List.mem_of_mem_drop (List.mem_of_mem_take h)
theorem cell_arr {b te : Nat} {cur : Array Value} (h : w.heap[b]? = some (.cells cur te (0, 0))) (o : Nat) : w.cell? ⟨b, o, none⟩ = cur[o]? := by
  simp only [World.cell?, h, Option.isSome_none, Bool.false_eq_true, if_false]
theorem V1_old {c : T} {y : Value} (h : Rd G.w0 G.Z c y) : V1 G w s.ob c.a1 y := by
  cases h with
  | v h => exact ⟨rfl, h⟩
  | nil => exact .nil
  | row h1 h2 h3 h4 h5 => exact .row h1 h2 h3 h4 h5
  | cl h1 h2 h3 => exact .cl h1 h2 h3
  | @rp x a h1 h2 h3 =>
    refine ⟨a, fun _ => x, by simp [Addr.add], h1, fun j c hj => ?_, fun j c hj => ?_⟩
    · cases j with
      | zero => rw [show a.add 0 = a by simp [Addr.add]]; exact h2
      | succ j => simp [T.cells] at hj
    · cases j with
      | zero => simp [T.cells] at hj; subst hj; exact .v h3
      | succ j => simp [T.cells] at hj
theorem a1_lt (c : T) (k : Nat) : c.a1.lt k := by cases c <;> trivial
theorem old_cell (hs : Sim G s a w) {ad : Addr} (hz : G.Z ad.block) : w.cell? ad = G.w0.cell? ad := World.cell?_of_block (hs.old _ hz.1 hz.2)

theorem flat_get {e : Nat} : ∀ {es : List T} {k : Nat} {t : T} {j : Nat}, (∀ t ∈ es, t.cells.length = e) → es[k]? = some t → j < e → (flat es)[k * e + j]? = t.cells[j]?
  | [], k, t, j, _, h, _ => by simp at h
  | x :: es, 0, t, j, he, h, hj => by
    simp only [List.getElem?_cons_zero, Option.some.injEq] at h
    subst h
    have := he x (by simp)
    simp only [flat, List.flatMap_cons, Nat.zero_mul, Nat.zero_add]
    rw [List.getElem?_append_left (by omega)]
  | x :: es, k + 1, t, j, he, h, hj => by
    have h1 := he x (by simp)
    have h2 := flat_get (es := es) (k := k) (t := t) (j := j) (fun t ht => he t (by simp [ht])) (by simpa using h) hj
    simp only [flat, List.flatMap_cons] at h2 ⊢
    rw [Nat.succ_mul, List.getElem?_append_right (by omega), ← h2]
    congr 1; omega
theorem op_load {t : Nat} {p : Operand} (ho : o.op = .load t p) (hC : CtxOk P C) (hs : Sim G s a w) (hd : okDst o.dst s.n = true) (h : aop C (.load t p) o.dst s K) : o.wp P a w (After G K) Q := by
  simp only [aop] at h
  split at h
  · rename_i i hi
    have ti := hC.tt t i hi
    obtain ⟨c, h, hv, hlt⟩ := opr_out hs h
    have fin : ∀ {x : A2} {y : Value}, (Instr.loadAt t (a.eval p)).run P w = .ok y w → V2 G w s.ob x y → x.lt G.k → K (s.put o.dst (.o x)) → o.wp P a w (After G K) Q := by
      intro x y hr hv hl hk
      refine wp_val (y := y) (w' := w) ?_ (after_val hs hd (x := .o x) hv hl hk)
      simp only [execOp, ho, Sem.run_bind, hr, Result.andThen_ok, Sem.run_pure]
    split at h
    · rename_i d q off
      split at h
      · rename_i q' l hl
        obtain ⟨rfl, h⟩ := h
        split at h
        · rename_i x hx
          obtain ⟨_, ⟨vs, te, hc, hvl⟩, _, hlts⟩ := hs.ob d _ hl
          have hp : a.eval p = .pointer (some ⟨G.β d, off, none⟩) := hv.2 ⟨l, hl⟩
          have hcell : ∀ j v, ((vs.drop off).take i.sz)[j]? = some v → w.cell? ((⟨G.β d, off, none⟩ : Addr).add j) = some v := by
            intro j v hj
            rw [List.getElem?_take] at hj
            split at hj
            · rw [List.getElem?_drop] at hj
              rw [add_mk, cell_arr hc]
              simpa using hj
            · cases hj
          obtain ⟨y, hr, hy⟩ := of_load ti hx (hvl.part off i.sz) hcell
          exact fin (by rw [hp]; exact hr) hy (of_lt hx fun b hb => hlts b (part_mem hb)) h
        · exact h.elim
      · exact h.elim
    · rename_i t' off
      split at h
      · rename_i x hx
        obtain ⟨ad, u, hp, hz, hu, hru⟩ := hv
        have hvl : VL G w s.ob (((t'.cells.drop off).take i.sz).map T.a1) (((t'.cells.drop off).take i.sz).zipIdx.map fun c => u (off + c.2)) := by
          refine ⟨by simp, fun j b hb => ?_⟩
          rw [List.getElem?_map, Option.map_eq_some_iff] at hb
          obtain ⟨c, hc, rfl⟩ := hb
          have hc' := hc
          rw [List.getElem?_take] at hc
          split at hc
          · rw [List.getElem?_drop] at hc
            have h1 := hru (off + j) c hc
            have : (((t'.cells.drop off).take i.sz).zipIdx.map fun c => u (off + c.2)).getD j undef = u (off + j) := by
              refine getD_of ?_
              rw [List.getElem?_map, List.getElem?_zipIdx, hc']; simp
            rw [this]
            exact ⟨V1_old h1, h1.one⟩
          · cases hc
        have hcell : ∀ j v, (((t'.cells.drop off).take i.sz).zipIdx.map fun c => u (off + c.2))[j]? = some v → w.cell? ((ad.add off).add j) = some v := by
          intro j v hj
          rw [List.getElem?_map, List.getElem?_zipIdx] at hj
          simp only [Option.map_map, Option.map_eq_some_iff, Function.comp_apply, Nat.zero_add] at hj
          obtain ⟨c, hc, rfl⟩ := hj
          rw [List.getElem?_take] at hc
          split at hc
          · rw [List.getElem?_drop] at hc
            rw [add_add, old_cell hs (by rw [add_block]; exact hz)]
            exact hu (off + j) c hc
          · cases hc
        obtain ⟨y, hr, hy⟩ := of_load ti hx hvl hcell
        exact fin (by rw [hp]; exact hr) hy (of_lt hx fun b hb => by obtain ⟨c, _, rfl⟩ := List.mem_map.1 hb; exact a1_lt c _) h
      · exact h.elim
    · rename_i d q e k off
      split at h
      · rename_i q' sv e' es hr
        cases hbe : Nat.beq e' e with
        | false => rw [hbe] at h; exact h.elim
        | true =>
        rw [hbe] at h
        have he : e' = e := Nat.eq_of_beq_eq_true hbe
        subst he
        obtain ⟨rfl, t', ht, h⟩ := h
        split at h
        · rename_i x hx
          obtain ⟨⟨hq, hsv⟩, how⟩ := hs.ob d _ hr
          obtain ⟨g, o', n, c, hy, hp⟩ := hv.2 ⟨sv, es, hr⟩
          have hk : k < es.length := (List.getElem?_eq_some_iff.1 ht).1
          rw [hy] at how
          cases how with
          | nil => simp at hk
          | @row _ _ _ _ cur te _ Ss S h1 h2 h3 h4 h5 h6 h7 h8 h9 =>
          have hcl : t'.cells.length = e' := h4 t' (List.mem_of_getElem? ht)
          have hfl : ∀ j c, t'.cells[j]? = some c → (flat es)[k * e' + j]? = some c := fun j c hj => by rw [flat_get h4 ht (by rw [← hcl]; exact (List.getElem?_eq_some_iff.1 hj).1)]; exact hj
          have hcur : ∀ j, j < e' → w.cell? ⟨g, o' + (k * e' + j), none⟩ = some (cur.getD (o' + (k * e' + j)) undef) := fun j hj => by
            rw [cell_arr h1]
            have : (k + 1) * e' ≤ c * e' := Nat.mul_le_mul_right _ (by omega)
            rw [Nat.succ_mul] at this
            exact getD_arr (by omega)
          let f : T × Nat → A1 := fun c => match c.1 with | .v x => .v x | _ => .sub d q' sv (k * e' + c.2)
          let u : T × Nat → Value := fun c => cur.getD (o' + (k * e' + c.2)) undef
          have hget : ∀ j c, ((t'.cells.zipIdx.drop off).take i.sz)[j]? = some c → c.2 = off + j ∧ t'.cells[off + j]? = some c.1 := by
            intro j c hj
            rw [List.getElem?_take] at hj
            split at hj
            · rw [List.getElem?_drop, List.getElem?_zipIdx, Option.map_eq_some_iff] at hj
              obtain ⟨b, hb, rfl⟩ := hj
              exact ⟨by simp, hb⟩
            · cases hj
          have hvl : VL G w s.ob (((t'.cells.zipIdx.drop off).take i.sz).map f) (((t'.cells.zipIdx.drop off).take i.sz).map u) := by
            refine ⟨by simp, fun j b hb => ?_⟩
            rw [List.getElem?_map, Option.map_eq_some_iff] at hb
            obtain ⟨c, hc, rfl⟩ := hb
            obtain ⟨hc2, hc1⟩ := hget j c hc
            have : (((t'.cells.zipIdx.drop off).take i.sz).map u).getD j undef = u c := getD_of (by rw [List.getElem?_map, hc]; rfl)
            rw [this]
            have how := h5 (k * e' + c.2) c.1 (hfl _ _ (by rw [hc2]; exact hc1))
            have hlt2 : c.2 < e' := by rw [hc2, ← hcl]; exact (List.getElem?_eq_some_iff.1 hc1).1
            have hone : (u c).oneCell' = true := how.one
            refine ⟨?_, hone⟩
            show V1 G w s.ob (f c) (u c)
            cases hc1' : c.1 with
            | v x =>
              rw [hc1'] at how
              simp only [f, hc1']
              generalize hz : cur.getD (o' + (k * e' + c.2)) undef = z at how
              have hu : u c = z := hz
              rw [hu] at hone ⊢
              cases how with
              | v h => exact ⟨rfl, h⟩
            | agg l => simp only [f, hc1']; exact ⟨hone, fun _ => ⟨g, o', _, _, hy, hcur _ hlt2⟩⟩
            | sl e1 l => simp only [f, hc1']; exact ⟨hone, fun _ => ⟨g, o', _, _, hy, hcur _ hlt2⟩⟩
            | cl g1 x1 => rw [hc1'] at how; cases how
            | rp x1 => rw [hc1'] at how; cases how
          have hcell : ∀ j v, (((t'.cells.zipIdx.drop off).take i.sz).map u)[j]? = some v → w.cell? ((⟨g, o' + (k * e' + off), none⟩ : Addr).add j) = some v := by
            intro j v hj
            rw [List.getElem?_map, Option.map_eq_some_iff] at hj
            obtain ⟨c, hc, rfl⟩ := hj
            obtain ⟨hc2, hc1⟩ := hget j c hc
            have hlt2 : c.2 < e' := by rw [hc2, ← hcl]; exact (List.getElem?_eq_some_iff.1 hc1).1
            rw [add_mk, show o' + (k * e' + off) + j = o' + (k * e' + c.2) by omega]
            exact hcur _ hlt2
          obtain ⟨y, hr', hy'⟩ := of_load ti hx hvl hcell
          refine fin (by rw [hp]; exact hr') hy' (of_lt hx fun b hb => ?_) h
          obtain ⟨c, _, rfl⟩ := List.mem_map.1 hb
          show (f c).lt G.k
          cases hc : c.1 <;> simp only [f, hc]
          · trivial
          · exact ⟨hq, hsv⟩
          · exact ⟨hq, hsv⟩
          · exact ⟨hq, hsv⟩
          · exact ⟨hq, hsv⟩
        · exact h.elim
      · exact h.elim
    · exact h.elim
  · exact h.elim
/-- What a state knows of is as it was. -/
def Same (G : Gh) (w w' : World) : Prop := ∀ b, ((∃ d, G.S d b) ∨ G.Z b) → w'.heap[b]? = w.heap[b]?
/-- The operation only reads: its value is the same in every world in which what the state knows of is as it was. -/
def Quiet (P : Program) (G : Gh) (w : World) (s : St) (a : Act) (o : Oper) (K : St → Prop) (T : World → Prop) : Prop :=
  ∃ x y, K (s.put o.dst x) ∧ V G w s.ob x y ∧ x.lt G.k ∧ ∀ w', T w' → (execOp a.eval o).run P w' = .ok (.value y) w'
theorem q_load {t : Nat} {p : Operand} (ho : o.op = .load t p) (hC : CtxOk P C) (hs : Sim G s a w) (hd : okDst o.dst s.n = true) (h : aop C (.load t p) o.dst s K) : Quiet P G w s a o K (Same G w) := by
  simp only [aop] at h
  split at h
  · rename_i i hi
    have ti := hC.tt t i hi
    obtain ⟨c, h, hv, hlt⟩ := opr_out hs h
    have fin : ∀ {x : A2} {y : Value}, (∀ w', Same G w w' → (Instr.loadAt t (a.eval p)).run P w' = .ok y w') → V2 G w s.ob x y → x.lt G.k → K (s.put o.dst (.o x)) → Quiet P G w s a o K (Same G w) := by
      intro x y hr hv hl hk
      refine ⟨.o x, y, hk, hv, hl, fun w' hw' => ?_⟩
      simp only [execOp, ho, Sem.run_bind, hr w' hw', Result.andThen_ok, Sem.run_pure]
    split at h
    · rename_i d q off
      split at h
      · rename_i q' l hl
        obtain ⟨rfl, h⟩ := h
        split at h
        · rename_i x hx
          obtain ⟨_, ⟨vs, te, hc, hvl⟩, hSd, hlts⟩ := hs.ob d _ hl
          have hp : a.eval p = .pointer (some ⟨G.β d, off, none⟩) := hv.2 ⟨l, hl⟩
          have hcell : ∀ j v, ((vs.drop off).take i.sz)[j]? = some v → w.cell? ((⟨G.β d, off, none⟩ : Addr).add j) = some v := by
            intro j v hj
            rw [List.getElem?_take] at hj
            split at hj
            · rw [List.getElem?_drop] at hj
              rw [add_mk, cell_arr hc]
              simpa using hj
            · cases hj
          obtain ⟨y, hr, hy⟩ := of_loadQ (P := P) ti hx (hvl.part off i.sz)
          exact fin (fun w' hw' => by rw [hp]; exact hr w' _ (fun j v hj => (World.cell?_of_block (by rw [add_block]; exact hw' _ (.inl ⟨d, hSd⟩))).trans (hcell j v hj))) hy (of_lt hx fun b hb => hlts b (part_mem hb)) h
        · exact h.elim
      · exact h.elim
    · rename_i t' off
      split at h
      · rename_i x hx
        obtain ⟨ad, u, hp, hz, hu, hru⟩ := hv
        have hvl : VL G w s.ob (((t'.cells.drop off).take i.sz).map T.a1) (((t'.cells.drop off).take i.sz).zipIdx.map fun c => u (off + c.2)) := by
          refine ⟨by simp, fun j b hb => ?_⟩
          rw [List.getElem?_map, Option.map_eq_some_iff] at hb
          obtain ⟨c, hc, rfl⟩ := hb
          have hc' := hc
          rw [List.getElem?_take] at hc
          split at hc
          · rw [List.getElem?_drop] at hc
            have h1 := hru (off + j) c hc
            have : (((t'.cells.drop off).take i.sz).zipIdx.map fun c => u (off + c.2)).getD j undef = u (off + j) := by
              refine getD_of ?_
              rw [List.getElem?_map, List.getElem?_zipIdx, hc']; simp
            rw [this]
            exact ⟨V1_old h1, h1.one⟩
          · cases hc
        have hcell : ∀ j v, (((t'.cells.drop off).take i.sz).zipIdx.map fun c => u (off + c.2))[j]? = some v → w.cell? ((ad.add off).add j) = some v := by
          intro j v hj
          rw [List.getElem?_map, List.getElem?_zipIdx] at hj
          simp only [Option.map_map, Option.map_eq_some_iff, Function.comp_apply, Nat.zero_add] at hj
          obtain ⟨c, hc, rfl⟩ := hj
          rw [List.getElem?_take] at hc
          split at hc
          · rw [List.getElem?_drop] at hc
            rw [add_add, old_cell hs (by rw [add_block]; exact hz)]
            exact hu (off + j) c hc
          · cases hc
        obtain ⟨y, hr, hy⟩ := of_loadQ (P := P) ti hx hvl
        exact fin (fun w' hw' => by rw [hp]; exact hr w' _ (fun j v hj => (World.cell?_of_block (by rw [add_block, add_block]; exact hw' _ (.inr hz))).trans (hcell j v hj))) hy (of_lt hx fun b hb => by obtain ⟨c, _, rfl⟩ := List.mem_map.1 hb; exact a1_lt c _) h
      · exact h.elim
    · rename_i d q e k off
      split at h
      · rename_i q' sv e' es hr
        cases hbe : Nat.beq e' e with
        | false => rw [hbe] at h; exact h.elim
        | true =>
        rw [hbe] at h
        have he : e' = e := Nat.eq_of_beq_eq_true hbe
        subst he
        obtain ⟨rfl, t', ht, h⟩ := h
        split at h
        · rename_i x hx
          obtain ⟨⟨hq, hsv⟩, how⟩ := hs.ob d _ hr
          obtain ⟨g, o', n, c, hy, hp⟩ := hv.2 ⟨sv, es, hr⟩
          have hk : k < es.length := (List.getElem?_eq_some_iff.1 ht).1
          rw [hy] at how
          cases how with
          | nil => simp at hk
          | @row _ _ _ _ cur te _ Ss S h1 h2 h3 h4 h5 h6 h7 h8 h9 =>
          have hcl : t'.cells.length = e' := h4 t' (List.mem_of_getElem? ht)
          have hfl : ∀ j c, t'.cells[j]? = some c → (flat es)[k * e' + j]? = some c := fun j c hj => by rw [flat_get h4 ht (by rw [← hcl]; exact (List.getElem?_eq_some_iff.1 hj).1)]; exact hj
          have hcur : ∀ j, j < e' → w.cell? ⟨g, o' + (k * e' + j), none⟩ = some (cur.getD (o' + (k * e' + j)) undef) := fun j hj => by
            rw [cell_arr h1]
            have : (k + 1) * e' ≤ c * e' := Nat.mul_le_mul_right _ (by omega)
            rw [Nat.succ_mul] at this
            exact getD_arr (by omega)
          let f : T × Nat → A1 := fun c => match c.1 with | .v x => .v x | _ => .sub d q' sv (k * e' + c.2)
          let u : T × Nat → Value := fun c => cur.getD (o' + (k * e' + c.2)) undef
          have hget : ∀ j c, ((t'.cells.zipIdx.drop off).take i.sz)[j]? = some c → c.2 = off + j ∧ t'.cells[off + j]? = some c.1 := by
            intro j c hj
            rw [List.getElem?_take] at hj
            split at hj
            · rw [List.getElem?_drop, List.getElem?_zipIdx, Option.map_eq_some_iff] at hj
              obtain ⟨b, hb, rfl⟩ := hj
              exact ⟨by simp, hb⟩
            · cases hj
          have hvl : VL G w s.ob (((t'.cells.zipIdx.drop off).take i.sz).map f) (((t'.cells.zipIdx.drop off).take i.sz).map u) := by
            refine ⟨by simp, fun j b hb => ?_⟩
            rw [List.getElem?_map, Option.map_eq_some_iff] at hb
            obtain ⟨c, hc, rfl⟩ := hb
            obtain ⟨hc2, hc1⟩ := hget j c hc
            have : (((t'.cells.zipIdx.drop off).take i.sz).map u).getD j undef = u c := getD_of (by rw [List.getElem?_map, hc]; rfl)
            rw [this]
            have how := h5 (k * e' + c.2) c.1 (hfl _ _ (by rw [hc2]; exact hc1))
            have hlt2 : c.2 < e' := by rw [hc2, ← hcl]; exact (List.getElem?_eq_some_iff.1 hc1).1
            have hone : (u c).oneCell' = true := how.one
            refine ⟨?_, hone⟩
            show V1 G w s.ob (f c) (u c)
            cases hc1' : c.1 with
            | v x =>
              rw [hc1'] at how
              simp only [f, hc1']
              generalize hz : cur.getD (o' + (k * e' + c.2)) undef = z at how
              have hu : u c = z := hz
              rw [hu] at hone ⊢
              cases how with
              | v h => exact ⟨rfl, h⟩
            | agg l => simp only [f, hc1']; exact ⟨hone, fun _ => ⟨g, o', _, _, hy, hcur _ hlt2⟩⟩
            | sl e1 l => simp only [f, hc1']; exact ⟨hone, fun _ => ⟨g, o', _, _, hy, hcur _ hlt2⟩⟩
            | cl g1 x1 => rw [hc1'] at how; cases how
            | rp x1 => rw [hc1'] at how; cases how
          have hcell : ∀ j v, (((t'.cells.zipIdx.drop off).take i.sz).map u)[j]? = some v → w.cell? ((⟨g, o' + (k * e' + off), none⟩ : Addr).add j) = some v := by
            intro j v hj
            rw [List.getElem?_map, Option.map_eq_some_iff] at hj
            obtain ⟨c, hc, rfl⟩ := hj
            obtain ⟨hc2, hc1⟩ := hget j c hc
            have hlt2 : c.2 < e' := by rw [hc2, ← hcl]; exact (List.getElem?_eq_some_iff.1 hc1).1
            rw [add_mk, show o' + (k * e' + off) + j = o' + (k * e' + c.2) by omega]
            exact hcur _ hlt2
          obtain ⟨y, hr', hy'⟩ := of_loadQ (P := P) ti hx hvl
          refine fin (fun w' hw' => by rw [hp]; exact hr' w' _ (fun j v hj => (World.cell?_of_block (by rw [add_block]; exact hw' _ (.inl ⟨d, h6⟩))).trans (hcell j v hj))) hy' (of_lt hx fun b hb => ?_) h
          obtain ⟨c, _, rfl⟩ := List.mem_map.1 hb
          show (f c).lt G.k
          cases hc : c.1 <;> simp only [f, hc]
          · trivial
          · exact ⟨hq, hsv⟩
          · exact ⟨hq, hsv⟩
          · exact ⟨hq, hsv⟩
          · exact ⟨hq, hsv⟩
        · exact h.elim
      · exact h.elim
    · exact h.elim
  · exact h.elim
end
end Go.Proofs.Ytadpancnhinlbaa.E
