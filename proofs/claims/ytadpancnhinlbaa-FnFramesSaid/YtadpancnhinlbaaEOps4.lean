/- Lengths, literals, memory that is made. -/
import Derived.Test.YtadpancnhinlbaaEOps3
namespace Go.Proofs.Ytadpancnhinlbaa.E
set_option linter.unusedVariables false
set_option linter.unusedSimpArgs false
section
variable {P : Program} {C : Ctx} {G : Gh} {w : World} {s : St} {a : Act} {o : Oper} {K : St → Prop} {Q : Exit → Act → World → Prop}

theorem tt_sl (hC : CtxOk P C) {t : Nat} (h : TD.isSl (look C.tt t) = true) : ∃ e, P.underlying t = some (.slice e) := by
  cases hi : look C.tt t with
  | none => rw [hi] at h; cases h
  | some i =>
    rw [hi] at h
    obtain ⟨d, hu, _, hd⟩ := (hC.tt t i hi).desc
    obtain ⟨_, _, _, _, _, td⟩ := i
    cases td <;> first | (simp only at hd; rw [hd] at hu; exact ⟨_, hu⟩) | cases h
theorem Ow.sl_val {w : World} {e : Nat} {es : List T} {y : Value} {S : Nat → Prop} (h : Ow w (.sl e es) y S) : ∃ A c, y = .slice A es.length c := by cases h <;> exact ⟨_, _, rfl⟩
theorem Rd.sl_val {w : World} {Z : Nat → Prop} {e : Nat} {es : List T} {y : Value} (h : Rd w Z (.sl e es) y) : ∃ A c, y = .slice A es.length c := by cases h <;> exact ⟨_, _, rfl⟩
/-- What a look into a row of one's own gives. -/
theorem sub_ow (hs : Sim G s a w) {d q sv j e : Nat} {es : List T} {t : T} {y : Value} (hv : V1 G w s.ob (.sub d q sv j) y) (hr : look s.ob d = some (.row q sv e es)) (ht : (flat es)[j]? = some t) :
    ∃ S, Ow w t y S ∧ ∀ b, S b → G.S d b := by
  have hj : j < (flat es).length := (List.getElem?_eq_some_iff.1 ht).1
  obtain ⟨g, o', n, c, hy, hc⟩ := hv.2 ⟨e, es, hr, hj⟩
  have how := (hs.ob d _ hr).2
  rw [hy] at how
  cases how with
  | nil => simp [flat] at ht
  | @row _ _ _ _ cur te _ Ss S h1 h2 h3 h4 h5 h6 h7 h8 h9 =>
    have hfl := flat_len h4
    have hcap : es.length * e ≤ c * e := Nat.mul_le_mul_right _ h2
    rw [cell_arr h1, getD_arr (d := undef) (by omega)] at hc
    cases hc
    exact ⟨Ss j, h5 j t ht, h8 j⟩
theorem q_len {c : Call} (ho : o.op = .call c) (hc : c.callee = .builtin .len) (hC : CtxOk P C) (hs : Sim G s a w) (h : aop C (.call c) o.dst s K) : Quiet P G w s a o K (fun _ => True) := by
  obtain ⟨cal, args, tys⟩ := c
  simp only at hc
  subst hc
  simp only [aop] at h
  split at h
  · rename_i x t hx ht
    have hx' : args = #[x] := by cases args; simp_all
    have ht' : tys = #[t] := by cases tys; simp_all
    subst hx'; subst ht'
    have fin : ∀ {n : Int}, (∀ w : World, (Builtin.len_ #[t] o.type #[a.eval x]).run P w = .ok (.int .i64 n) w) → K (s.put o.dst (.int n)) → Quiet P G w s a o K (fun _ => True) := by
      intro n hr hk
      refine ⟨.int n, .int .i64 n, hk, ⟨rfl, rfl⟩, lt_c trivial, fun w' _ => ?_⟩
      simp only [execOp, ho, resolve, invoke, builtin, Sem.run_bind, Sem.run_pure, Result.andThen_ok, List.map_toArray, List.map_cons, List.map_nil, hr]
    have fsl : ∀ {A : Option Addr} {n c : Nat}, TD.isSl (look C.tt t) = true → a.eval x = .slice A n c → K (s.put o.dst (.int n)) → Quiet P G w s a o K (fun _ => True) := by
      intro A n c hb hv hk
      obtain ⟨e, hu⟩ := tt_sl hC hb
      refine fin (n := n) (fun w => ?_) hk
      rw [hv]
      simp [Builtin.len_, run_underlying hu, goInt]
    cases hb : TD.isStr (look C.tt t) with
    | true =>
      rw [hb] at h
      simp only [cond_true] at h
      replace h := opr_out hs h
      obtain ⟨c, h, hv, -⟩ := h
      have hu := tt_str hC hb
      split at h
      · rename_i b
        refine fin (n := b.size) (fun w => ?_) h
        rw [hv.1]
        simp [Builtin.len_, run_underlying hu, goInt]
      · exact h.elim
    | false =>
      rw [hb] at h
      simp only [cond_false] at h
      cases hb2 : TD.isSl (look C.tt t) with
      | false => rw [hb2] at h; exact h.elim
      | true =>
        rw [hb2] at h
        simp only [cond_true] at h
        replace h := oprN_out hs h
        obtain ⟨c, h, hv, -⟩ := h
        split at h
        · exact fsl hb2 hv.1 h
        · have hv' : Rd G.w0 G.Z _ (a.eval x) := hv
          obtain ⟨A, c, hy⟩ := hv'.sl_val
          exact fsl hb2 hy h
        · rename_i d q
          split at h
          · rename_i q' sv e es hr
            obtain ⟨rfl, h⟩ := h
            obtain ⟨A, c, hy⟩ := (hs.ob d _ hr).2.sl_val
            exact fsl hb2 ((hv.2 ⟨sv, e, es, hr⟩).trans hy) h
          · exact h.elim
        · rename_i d q sv j
          split at h
          · rename_i q' sv' e0 es hr
            obtain ⟨rfl, rfl, e, ts, ht, h⟩ := h
            obtain ⟨S, how, _⟩ := sub_ow hs hv hr ht
            obtain ⟨A, c, hy⟩ := how.sl_val
            exact fsl hb2 hy h
          · exact h.elim
        · rename_i d q m
          split at h
          · rename_i q' l hr
            obtain ⟨rfl, h⟩ := h
            exact fsl hb2 (hv.2 ⟨l, hr⟩) h
          · exact h.elim
        · rename_i d q e l hh
          split at h
          · rename_i q' sv e' es hr
            obtain ⟨rfl, rfl, h⟩ := h
            obtain ⟨A, n, c, hy0, hy, hl1, hl2⟩ := hv.2 ⟨sv, es, hr⟩
            unfold sliced at hy
            by_cases hcl : c = l
            · rw [if_pos hcl] at hy; exact fsl hb2 hy h
            · rw [if_neg hcl] at hy; exact fsl hb2 hy h
          · exact h.elim
        · exact h.elim
  · exact h.elim
theorem op_len {c : Call} (ho : o.op = .call c) (hc : c.callee = .builtin .len) (hC : CtxOk P C) (hs : Sim G s a w) (hd : okDst o.dst s.n = true) (h : aop C (.call c) o.dst s K) : o.wp P a w (After G K) Q := by
  obtain ⟨x, y, hk, hv, hl, hrun⟩ := q_len ho hc hC hs h
  exact wp_val (hrun w trivial) (after_val hs hd hv hl hk)

theorem layS_out : ∀ {ps : List (Nat × Operand)} {k : Nat} {s : St} {G : Gh} {K' : List T → St → Prop}, Sim G s a w → layS k ps s K' →
    ∃ ts s1 G1, ∃ Sx : Nat → Nat → Nat → Prop, K' ts s1 ∧ Gone G w s a G1 s1 ∧ ts.length = ps.length ∧ (∀ j p, ps[j]? = some p → p.1 = k + j) ∧ (∀ j t p, ts[j]? = some t → ps[j]? = some p → Own2 w t (a.eval p.2) (Sx j)) ∧
      (∀ j m, Free G w G1 (Sx j m)) ∧ (∀ i j m n b, Sx i m b → Sx j n b → i = j ∧ m = n)
  | [], k, s, G, K', hs, h => ⟨[], s, G, fun _ _ _ => False, h, Gone.refl hs, rfl, fun j p h => by simp at h, fun j t p h => by simp at h, fun _ _ => ⟨fun _ h => h.elim, fun _ _ h => h.elim⟩, fun _ _ _ _ _ h => h.elim⟩
  | (i, x) :: ps, k, s, G, K', hs, h => by
    simp only [layS] at h
    cases hi : Nat.beq i k with
    | false => rw [hi] at h; exact h.elim
    | true =>
      rw [hi] at h
      simp only [cond_true] at h
      have hik : i = k := Nat.eq_of_beq_eq_true hi
      split at h
      · rename_i b hb
        have hx := hs.eval x
        rw [hb] at hx
        obtain ⟨t, s1, G1, S0, h, hg, how, hf⟩ := mv2_out hs hx.1 hx.2 h
        obtain ⟨ts, s2, G2, Sx, h, hg2, hn, hps, how2, hf2, hd⟩ := layS_out hg.sim h
        refine ⟨t :: ts, s2, G2, fun j => match j with | 0 => S0 | j + 1 => Sx j, h, hg.trans hg2, by simp [hn], fun j p hp => ?_, fun j t' p ht hp => ?_, fun j m => ?_, fun i j m n b hi hj => ?_⟩
        · cases j with
          | zero => simp at hp; subst hp; exact hik
          | succ j => have := hps j p (by simpa using hp); omega
        · cases j with
          | zero => simp at ht hp; subst ht; subst hp; exact how
          | succ j => exact how2 j t' p (by simpa using ht) (by simpa using hp)
        · cases j with
          | zero => exact ⟨(hf m).was, fun b d hb hb' => (hf m).now b d hb (hg2.S d b hb')⟩
          | succ j => exact ⟨fun b hb => by obtain ⟨d, hb'⟩ := (hf2 j m).was b hb; exact ⟨d, hg.S d b hb'⟩, (hf2 j m).now⟩
        · cases i with
          | zero => cases j with
            | zero => exact ⟨rfl, how.apart m n b hi hj⟩
            | succ j => obtain ⟨d, hb'⟩ := (hf2 j n).was b hj; exact absurd hb' ((hf m).now b d hi)
          | succ i => cases j with
            | zero => obtain ⟨d, hb'⟩ := (hf2 i m).was b hi; exact absurd hb' ((hf n).now b d hj)
            | succ j => obtain ⟨h1, h2⟩ := hd i j m n b hi hj; exact ⟨congrArg (· + 1) h1, h2⟩
      · exact h.elim
/-- A new block that holds a row's cells. -/
theorem ow_new {vs : List Value} {ts : List T} {sz e : Nat} {Sx : Nat → Nat → Nat → Prop} (hsz : 0 < sz) (hn : ts.length = vs.length) (hl : ∀ t ∈ ts, t.cells.length = sz) (how : ∀ j t v, ts[j]? = some t → vs[j]? = some v → Own2 w t v (Sx j))
    (hlt : ∀ j m b, Sx j m b → b < w.heap.size) (hd : ∀ i j m n b, Sx i m b → Sx j n b → i = j ∧ m = n) :
    Ow (w.alloc (.cells (vs.flatMap fun v => v.cells.toList).toArray e)) (.sl sz ts) (.slice (some ⟨w.heap.size, 0, none⟩) ts.length ts.length) (fun b => b = w.heap.size ∨ ∃ j m, Sx j m b) := by
  have hvl : ∀ v ∈ vs, v.cells.size = sz := fun v hv => by
    obtain ⟨j, hj⟩ := List.getElem?_of_mem hv
    have hj' : j < ts.length := by rw [hn]; exact (List.getElem?_eq_some_iff.1 hj).1
    have := (how j ts[j] v (List.getElem?_eq_getElem hj') hj).len
    rw [hl _ (List.getElem_mem hj')] at this
    simpa using this
  refine .row (o := 0) (Ss := fun j b => Sx (j / sz) (j % sz) b) (heap_alloc_new w _) (Nat.le_refl _) ?_ hl (fun j ct hj => ?_) (.inl rfl) (fun j hj => ?_) (fun j b hj => .inr ⟨_, _, hj⟩) (fun i j b hi hj => ?_)
  · have : ∀ l : List Value, (∀ v ∈ l, v.cells.size = sz) → (l.flatMap fun v => v.cells.toList).length = l.length * sz := by
      intro l
      induction l with
      | nil => intro _; simp
      | cons v l ih => intro h; rw [List.flatMap_cons, List.length_append, ih (fun x hx => h x (by simp [hx])), Array.length_toList, h v (by simp), List.length_cons, Nat.succ_mul]; omega
    rw [List.size_toArray, this vs hvl, ← hn]; omega
  · have hjl : j < ts.length * sz := by rw [← flat_len hl]; exact (List.getElem?_eq_some_iff.1 hj).1
    have hk : j / sz < ts.length := Nat.div_lt_of_lt_mul (by rw [Nat.mul_comm]; exact hjl)
    have hjm : j = (j / sz) * sz + j % sz := by rw [Nat.mul_comm]; exact (Nat.div_add_mod j sz).symm
    rw [hjm, flat_get hl (List.getElem?_eq_getElem hk) (Nat.mod_lt _ hsz)] at hj
    have hkv : j / sz < vs.length := by omega
    have := (how (j / sz) _ _ (List.getElem?_eq_getElem hk) (List.getElem?_eq_getElem hkv)).cell (j % sz) ct hj
    have hv : (vs.flatMap fun v => v.cells.toList)[j]? = some (vs[j / sz].cells.toList.getD (j % sz) undef) := by
      rw [Great.flat_get hsz vs hvl j, List.getElem?_eq_getElem hkv]
      have : j % sz < vs[j / sz].cells.size := by rw [hvl _ (List.getElem_mem hkv)]; exact Nat.mod_lt _ hsz
      simp [List.getD_eq_getElem?_getD, this]
    rw [Nat.zero_add, Array.getD_eq_getD_getElem?, List.getElem?_toArray, hv]
    exact this.move (fun b hb => heap_alloc_old w _ b (hlt _ _ b hb))
  · exact absurd (hlt _ _ _ hj) (Nat.lt_irrefl _)
  · obtain ⟨h1, h2⟩ := hd _ _ _ _ b hi hj
    rw [← Nat.div_add_mod i sz, ← Nat.div_add_mod j sz, h1, h2]
theorem tt_elem {P : Program} {t : Nat} {i1 i3 : Nat} {i2 : Bool} {i4 : List Value} {i5 : List T} {e : Nat} (h : TIok P t ⟨i1, i2, i3, i4, i5, .sl e⟩) : P.underlying t = some (.slice e) := by
  obtain ⟨d, hu, _, hd⟩ := h.desc
  simp only at hd
  rw [hd] at hu; exact hu
theorem own_new {y : Value} {d q : Nat} {s' : Obs} (hy : G.y d = y) (hone : y.oneCell' = true) : V1 G w s' (.own d q) y := ⟨hone, fun _ => hy.symm⟩
theorem ptrs_out (hs : Sim G s a w) : ∀ {ps : List (Nat × Operand)} {k : Nat} {cs : List A1}, ptrs s k ps = some cs → cs.length = ps.length ∧ (∀ (j : Nat) (p : Nat × Operand), ps[j]? = some p → p.1 = k + j) ∧
    ∀ (j : Nat) (c : A1) (p : Nat × Operand), cs[j]? = some c → ps[j]? = some p → V1 G w s.ob c (a.eval p.2) ∧ (a.eval p.2).oneCell' = true ∧ c.lt G.k
  | [], k, cs, h => by simp [ptrs] at h; subst h; exact ⟨rfl, fun j p h => by simp at h, fun j c p h => by simp at h⟩
  | (i, x) :: ps, k, cs, h => by
    have hx := hs.eval x
    unfold ptrs at h
    split at h
    · rename_i c l he hl
      rw [he] at hx
      cases hb : (Nat.beq i k && c.known) with
      | false => rw [hb] at h; cases h
      | true =>
        rw [hb] at h
        simp only [cond_true, Option.some.injEq] at h
        subst h
        rw [Bool.and_eq_true] at hb
        have hik : i = k := Nat.eq_of_beq_eq_true hb.1
        obtain ⟨h1, h2, h3⟩ := ptrs_out hs hl
        refine ⟨by simp [h1], fun j p hp => ?_, fun j c' p hc hp => ?_⟩
        · cases j with
          | zero => simp at hp; subst hp; exact hik
          | succ j => have := h2 j p (by simpa using hp); omega
        · cases j with
          | zero => simp at hc hp; subst hc; subst hp; exact ⟨hx.1, hx.1.one hb.2, hx.2 c (by simp [A2.cells])⟩
          | succ j => exact h3 j c' p (by simpa using hc) (by simpa using hp)
    · cases h
theorem op_buildPtrs {t len : Nat} {ps : Array (Nat × Operand)} {i1 i3 : Nat} {i2 : Bool} {i4 : List Value} {i5 : List T} {e : Nat} {ie : TI} (ho : o.op = .buildSlice t len ps) (hC : CtxOk P C) (hs : Sim G s a w) (hd : okDst o.dst s.n = true)
    (hi : look C.tt t = some ⟨i1, i2, i3, i4, i5, .sl e⟩) (hie : look C.tt e = some ie)
    (h : match ptrs s 0 ps.toList with
        | some cs => bif Nat.beq ps.size len && Nat.beq ie.sz 1 && Nat.ble 1 len && Nat.ble len 16777216 then ∀ q, K ((s.set (nm o.dst) (.box q cs)).put o.dst (.c (.bs (nm o.dst) q len))) else False
        | none => False) : o.wp P a w (After G K) Q := by
  split at h
  · rename_i cs hcs
    cases hb : (Nat.beq ps.size len && Nat.beq ie.sz 1 && Nat.ble 1 len && Nat.ble len 16777216) with
    | false => rw [hb] at h; exact h.elim
    | true =>
      rw [hb] at h
      simp only [cond_true] at h
      simp only [Bool.and_eq_true] at hb
      have hlen : ps.size = len := Nat.eq_of_beq_eq_true hb.1.1.1
      have hsz : ie.sz = 1 := Nat.eq_of_beq_eq_true hb.1.1.2
      have hl1 : 1 ≤ len := Nat.le_of_ble_eq_true hb.1.2
      have hsm : len ≤ 16777216 := Nat.le_of_ble_eq_true hb.2
      have hu := tt_elem (hC.tt _ _ hi)
      have tie := hC.tt _ _ hie
      obtain ⟨j, z, hj, hjsz, hjby, hz, hzc, _⟩ := tie.info
      obtain ⟨hn, hps, hv⟩ := ptrs_out hs hcs
      let vs := ps.toList.map fun p => a.eval p.2
      have hpz : (ps.map fun p => (p.1, a.eval p.2)).toList = (vs.zipIdx 0).map fun x => (x.2, x.1) := by
        apply List.ext_getElem?
        intro k
        simp only [Array.toList_map, List.getElem?_map, List.getElem?_zipIdx, vs, Option.map_map]
        cases hk : ps.toList[k]? with
        | none => rfl
        | some p => have := hps k p hk; simp only [Option.map_some, Function.comp_apply, this]
      have hvn : vs.length = len := by simp [vs, hlen]
      have hcells : ∀ v ∈ vs, v.cells = #[v] := fun v hv' => by
        obtain ⟨p, hp, rfl⟩ := List.mem_map.1 hv'
        obtain ⟨k, hk⟩ := List.getElem?_of_mem hp
        have hk' : k < cs.length := by rw [hn]; exact (List.getElem?_eq_some_iff.1 hk).1
        have := (hv k cs[k] p (List.getElem?_eq_getElem hk') hk).2.1
        generalize a.eval p.2 = y at this
        cases y <;> first | rfl | cases this
      have hvl : ∀ v ∈ vs, v.cells.size = ie.sz := fun v hv' => by rw [hcells v hv', hsz]; rfl
      have hflat : ∀ l : List Value, (∀ v ∈ l, v.cells = #[v]) → l.flatMap (fun v => v.cells.toList) = l := by
        intro l
        induction l with
        | nil => intro _; rfl
        | cons x l ih => intro h; rw [List.flatMap_cons, ih (fun v hv => h v (by simp [hv])), h x (by simp)]; rfl
      have hfill := Great.fill_whole (s := ie.sz) (by omega) vs ((Array.range (len * j.size)).map (z.cells[· % z.cells.size]!)) hvl (by simp [hvn, hjsz])
      have hrun := run_buildSlice (P := P) w t e len (ps.map fun p => (p.1, a.eval p.2)) _ j z hu hj hz (by rw [hjsz, hsz]; omega) (by rw [hjsz]; exact Nat.mul_ne_zero (by omega) (by omega)) (by rw [hpz, hjsz]; rw [hjsz] at hfill; exact hfill)
      rw [hflat vs hcells] at hrun
      have hvl2 : VL G w s.ob cs vs := by
        refine ⟨by simp [vs, hn], fun k c hc => ?_⟩
        have hk' : k < ps.toList.length := by rw [← hn]; exact (List.getElem?_eq_some_iff.1 hc).1
        have := hv k c _ hc (List.getElem?_eq_getElem hk')
        have e1 : vs.getD k undef = a.eval ps.toList[k].2 := by
          simp only [vs, List.getD_eq_getElem?_getD, List.getElem?_map, List.getElem?_eq_getElem hk', Option.map_some, Option.getD_some]
        rw [e1]; exact ⟨this.1, this.2.1⟩
      have hlt : ∀ c ∈ cs, c.lt G.k := fun c hc => by
        obtain ⟨k, hk⟩ := List.getElem?_of_mem hc
        have hk' : k < ps.toList.length := by rw [← hn]; exact (List.getElem?_eq_some_iff.1 hk).1
        exact (hv k c _ hk (List.getElem?_eq_getElem hk')).2.2
      have hs' := hs.box e (nm o.dst) hvl2 hlt
      refine wp_val (w' := w.alloc (.cells vs.toArray e)) (y := .slice (some ⟨w.heap.size, 0, none⟩) len len) ?_ ?_
      · simp only [execOp, ho, Sem.run_bind, hrun, Result.andThen_ok, Sem.run_pure]
      · refine after_of (hs'.put hd (x := .c (.bs (nm o.dst) G.k len)) ?_ (lt_c (Nat.lt_succ_self G.k))) ⟨rfl, rfl, rfl, fun _ _ => rfl, fun d hd => upd_other _ _ (by have := nm_ge o.dst; omega)⟩ (h G.k)
        refine ⟨rfl, fun _ => ?_⟩
        show _ = Value.slice (some ⟨upd G.β (nm o.dst) w.heap.size (nm o.dst), 0, none⟩) len len
        rw [upd_same]
  · exact h.elim
theorem op_buildSlice {t len : Nat} {ps : Array (Nat × Operand)} (ho : o.op = .buildSlice t len ps) (hC : CtxOk P C) (hs : Sim G s a w) (hd : okDst o.dst s.n = true) (h : aop C (.buildSlice t len ps) o.dst s K) : o.wp P a w (After G K) Q := by
  simp only [aop] at h
  split at h
  · rename_i i1 i2 i3 i4 i5 e hi
    split at h
    · rename_i ie hie
      cases hp : TD.isPtr ie.d with
      | true =>
        rw [hp] at h
        exact op_buildPtrs ho hC hs hd hi hie h
      | false =>
      rw [hp] at h
      simp only [cond_false] at h
      cases hb : (Nat.beq ps.size len && Nat.ble 1 ie.sz && Nat.ble (len * ie.sz) 16777216) with
      | false => rw [hb] at h; exact h.elim
      | true =>
        rw [hb] at h
        simp only [cond_true] at h
        simp only [Bool.and_eq_true] at hb
        have hlen : ps.size = len := Nat.eq_of_beq_eq_true hb.1.1
        have hsz : 1 ≤ ie.sz := Nat.le_of_ble_eq_true hb.1.2
        have hsm : len * ie.sz ≤ 16777216 := Nat.le_of_ble_eq_true hb.2
        have hu := tt_elem (hC.tt _ _ hi)
        have tie := hC.tt _ _ hie
        obtain ⟨j, z, hj, hjsz, hjby, hz, hzc, _⟩ := tie.info
        obtain ⟨ts, s1, G1, Sx, h, hg, hn, hps, how, hf, hdis⟩ := layS_out hs h
        obtain ⟨hcl, h⟩ := h
        let vs := ps.toList.map fun p => a.eval p.2
        have hpz : (ps.map fun p => (p.1, a.eval p.2)).toList = (vs.zipIdx 0).map fun x => (x.2, x.1) := by
          apply List.ext_getElem?
          intro k
          simp only [Array.toList_map, List.getElem?_map, List.getElem?_zipIdx, vs, Option.map_map]
          cases hk : ps.toList[k]? with
          | none => rfl
          | some p => have := hps k p hk; simp only [Option.map_some, Function.comp_apply, this]
        have hown : ∀ j t v, ts[j]? = some t → vs[j]? = some v → Own2 w t v (Sx j) := by
          intro j t v ht hv
          simp only [vs, List.getElem?_map, Option.map_eq_some_iff] at hv
          obtain ⟨p, hp, rfl⟩ := hv
          exact how j t p ht hp
        have hnv : ts.length = vs.length := by simp [vs, hn]
        have hlt : ∀ j m b, Sx j m b → b < w.heap.size := fun j m b hb => by obtain ⟨d, hd⟩ := (hf j m).was b hb; exact (hs.own d b hd).1
        have hvl : ∀ v ∈ vs, v.cells.size = ie.sz := fun v hv => by
          obtain ⟨j, hj⟩ := List.getElem?_of_mem hv
          have hj' : j < ts.length := by rw [hnv]; exact (List.getElem?_eq_some_iff.1 hj).1
          have := (hown j ts[j] v (List.getElem?_eq_getElem hj') hj).len
          rw [hcl _ (List.getElem_mem hj')] at this
          simpa using this
        have hvn : vs.length = len := by simp [vs, hlen]
        have fin : ∀ {w' : World} {Sn : Nat → Prop}, (execOp a.eval o).run P w = .ok (.value (.slice (some ⟨w.heap.size, 0, none⟩) ts.length ts.length)) w' → Up w w' → (∀ b, b < w.heap.size → w'.heap[b]? = w.heap[b]?) →
            Ow w' (.sl ie.sz ts) (.slice (some ⟨w.heap.size, 0, none⟩) ts.length ts.length) Sn → (∀ b, Sn b → b < w'.heap.size ∧ (b = w.heap.size ∨ ∃ j m, Sx j m b)) → o.wp P a w (After G K) Q := by
          intro w' Sn hr hgr hold ho' hSn
          refine wp_val hr ?_
          have hs' := hg.sim.row (nm o.dst) 0 hgr (fun b hb _ => hold b (by have := hg.sim.grown; omega)) (fun d b _ hb => hold b (hg.sim.own d b hb).1) ho' (fun b hb => by
            obtain ⟨h1, h2⟩ := hSn b hb
            refine ⟨h1, ?_⟩
            rcases h2 with rfl | ⟨j, m, hjm⟩
            · exact ⟨.inl hg.sim.grown, fun d _ hd => absurd (hg.sim.own d _ hd).1 (Nat.lt_irrefl _)⟩
            · obtain ⟨d0, hd0⟩ := (hf j m).was b hjm
              rw [hg.keep.w0, hg.keep.R]
              exact ⟨(hs.own d0 b hd0).2, fun d _ => (hf j m).now b d hjm⟩) (Nat.succ_pos _)
          refine after_of (hs'.put (by simpa [hg.n] using hd) (x := .c (.own (nm o.dst) G1.k)) (own_new (w := w') (upd_same _ _ _) rfl) (lt_c (Nat.lt_succ_self G1.k))) ⟨hg.keep.w0, hg.keep.R, hg.keep.fx, fun d hd => ?_, fun d hd => hg.keep.β d hd⟩ (h G1.k)
          show upd G1.y (nm o.dst) _ d = _
          rw [upd_other _ _ (by have := nm_ge o.dst; omega)]; exact hg.keep.y d hd
        by_cases h0 : len = 0
        · have hvs : vs = [] := List.length_eq_zero_iff.1 (by omega)
          have hts : ts = [] := List.length_eq_zero_iff.1 (by omega)
          have hps0 : ps = #[] := Array.eq_empty_of_size_eq_zero (by omega)
          refine fin (w' := w.alloc (.cells #[] e)) (Sn := fun _ => False) ?_ (up_alloc _ _) (fun b hb => heap_alloc_old w _ b hb) (by rw [hts]; exact .nil) (fun b hb => hb.elim)
          simp only [execOp, ho, Instr.buildSlice, Sem.run_bind, run_underlying hu, Result.andThen_ok, run_sizeOf tie, h0, hps0, hts]
          simp [Instr.fill, newRow, newObj, Sem.run]
          rw [show Array.range 0 = #[] from Array.eq_empty_of_size_eq_zero (by simp), Array.map_empty]
        · have hfill := Great.fill_whole (s := ie.sz) (by omega) vs ((Array.range (len * j.size)).map (z.cells[· % z.cells.size]!)) hvl (by simp [hvn, hjsz])
          have hrun := run_buildSlice (P := P) w t e len (ps.map fun p => (p.1, a.eval p.2)) _ j z hu hj hz (by rw [hjsz]; omega) (by rw [hjsz]; exact Nat.mul_ne_zero h0 (by omega)) (by rw [hpz, hjsz]; rw [hjsz] at hfill; exact hfill)
          have hlen' : len = ts.length := by omega
          refine fin (w' := w.alloc (.cells (vs.flatMap fun v => v.cells.toList).toArray e)) ?_ (up_alloc _ _) (fun b hb => heap_alloc_old w _ b hb) (ow_new (by omega) hnv hcl hown hlt hdis) (fun b hb => ⟨?_, hb⟩)
          · simp only [execOp, ho, Sem.run_bind, hrun, Result.andThen_ok, Sem.run_pure]
            rw [← hlen']
          · rcases hb with rfl | ⟨j, m, hjm⟩
            · simp
            · have := hlt j m b hjm; simp; omega
    · exact h.elim
  · exact h.elim
end
end Go.Proofs.Ytadpancnhinlbaa.E
