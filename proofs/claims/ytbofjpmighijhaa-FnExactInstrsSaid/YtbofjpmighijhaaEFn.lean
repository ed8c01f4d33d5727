/- Whole functions. -/
import Derived.Test.YtbofjpmighijhaaECtl
namespace Go.Proofs.Ytbofjpmighijhaa.E
set_option linter.unusedVariables false
section
variable {P : Program} {C : Ctx} {G : Gh} {w : World} {s : St} {a : Act} {K : St → Prop}

theorem outs_out (hC : CtxOk P C) (f : ResultVar → Sem Value) (hf1 : ∀ u, f (.tmp u) = pure (a.tmps.getD u undef)) (hf2 : ∀ p t, f (.cell p t) = (do loadVar t (← asAddr (a.tmps.getD p undef)))) : ∀ {rs : List ResultVar} {s : St} {G : Gh} {K' : List T → St → Prop}, Sim G s a w → outs C rs s K' →
    ∃ ts s1 G1 xs, ∃ Sx : Nat → Nat → Prop, K' ts s1 ∧ Gone G w s a G1 s1 ∧ (rs.mapM f).run P w = .ok xs w ∧ xs.length = rs.length ∧ ts.length = rs.length ∧ (∀ j t, ts[j]? = some t → Ow2 w t (xs.getD j undef) (Sx j)) ∧ (∀ j, Free G w G1 (Sx j)) ∧ (∀ i j b, Sx i b → Sx j b → i = j)
  | [], s, G, K', hs, h => ⟨[], s, G, [], fun _ _ => False, h, Gone.refl hs, by simp, rfl, rfl, fun j t h => by simp at h, fun _ => ⟨fun _ h => h.elim, fun _ _ h => h.elim⟩, fun _ _ _ h => h.elim⟩
  | r :: rs, s, G, K', hs, h => by
    have step : ∀ {x : A2} {y : Value}, (f r).run P w = .ok y w → V2 G w s.ob x y → x.lt G.k → (mv2 s x fun t s' => outs C rs s' fun xs s'' => K' (t :: xs) s'') →
        ∃ ts s1 G1 xs, ∃ Sx : Nat → Nat → Prop, K' ts s1 ∧ Gone G w s a G1 s1 ∧ ((r :: rs).mapM f).run P w = .ok xs w ∧ xs.length = (r :: rs).length ∧ ts.length = (r :: rs).length ∧ (∀ j t, ts[j]? = some t → Ow2 w t (xs.getD j undef) (Sx j)) ∧ (∀ j, Free G w G1 (Sx j)) ∧ (∀ i j b, Sx i b → Sx j b → i = j) := by
      intro x y hr hv hl h
      obtain ⟨t, s1, G1, S0, h, hg, how, hf⟩ := mv2_out hs hv hl h
      obtain ⟨ts, s2, G2, xs, Sx, h, hg2, hr2, hn, hn2, how2, hf2', hd⟩ := outs_out hC f hf1 hf2 hg.sim h
      refine ⟨t :: ts, s2, G2, y :: xs, fun j => match j with | 0 => fun b => ∃ m, S0 m b | j + 1 => Sx j, h, hg.trans hg2, by simp [List.mapM_cons, Sem.run_bind, hr, hr2], by simp [hn], by simp [hn2], fun j t' ht => ?_, fun j => ?_, fun i j b hi hj => ?_⟩
      · cases j with
        | zero => simp at ht; subst ht; exact how.ow
        | succ j => simpa using how2 j t' (by simpa using ht)
      · cases j with
        | zero => exact ⟨fun b ⟨m, hb⟩ => (hf m).was b hb, fun b d ⟨m, hb⟩ hb' => (hf m).now b d hb (hg2.S d b hb')⟩
        | succ j => exact ⟨fun b hb => by obtain ⟨d, hb'⟩ := (hf2' j).was b hb; exact ⟨d, hg.S d b hb'⟩, (hf2' j).now⟩
      · cases i with
        | zero => cases j with
          | zero => rfl
          | succ j => obtain ⟨m, hm⟩ := hi; obtain ⟨d, hb'⟩ := (hf2' j).was b hj; exact absurd hb' ((hf m).now b d hm)
        | succ i => cases j with
          | zero => obtain ⟨m, hm⟩ := hj; obtain ⟨d, hb'⟩ := (hf2' i).was b hi; exact absurd hb' ((hf m).now b d hm)
          | succ j => exact congrArg (· + 1) (hd i j b hi hj)
    cases r with
    | tmp t =>
      rw [outs_tmp] at h
      split at h
      · rename_i x hx
        have ht := hs.tm t
        rw [hx] at ht
        exact step (y := a.tmps.getD t undef) (by rw [hf1]; simp) ht.1 ht.2 h
      · exact h.elim
    | cell p t =>
      rw [outs_cell] at h
      split at h
      · rename_i i d q off hi hp
        split at h
        · rename_i q' l hl
          obtain ⟨rfl, h⟩ := h
          split at h
          · rename_i x hx
            have ht := hs.tm p
            rw [hp] at ht
            obtain ⟨_, ⟨vs, te, hc, hvl⟩, _, hlts⟩ := hs.ob d _ hl
            have hpv : a.tmps.getD p undef = .pointer (some ⟨G.β d, off, none⟩) := ht.1.2 ⟨l, hl⟩
            have hcell : ∀ j v, ((vs.drop off).take i.sz)[j]? = some v → w.cell? ((⟨G.β d, off, none⟩ : Addr).add j) = some v := by
              intro j v hj
              rw [List.getElem?_take] at hj
              split at hj
              · rw [List.getElem?_drop] at hj
                rw [add_mk, cell_arr hc]
                simpa using hj
              · cases hj
            obtain ⟨y, hr, hy⟩ := of_load (P := P) (hC.tt t i hi) hx (hvl.part off i.sz) hcell
            refine step (y := y) ?_ hy (of_lt hx fun b hb => hlts b (part_mem hb)) h
            rw [hf2, hpv]
            simp only [Instr.loadAt, Instr.sureAddr, Sem.run_bind, Sem.run_pure, Result.andThen_ok] at hr
            simp only [asAddr, Sem.run_bind, Sem.run_pure, Result.andThen_ok, hr]
          · exact h.elim
        · exact h.elim
      · exact h.elim
theorem results_out (hC : CtxOk P C) {fn : Func} {K' : List T → St → Prop} (hs : Sim G s a w) (h : outs C fn.results.toList s K') :
    ∃ ts s1 G1 x, ∃ S : Nat → Prop, K' ts s1 ∧ Gone G w s a G1 s1 ∧ (results fn a.tmps).run P w = .ok x w ∧ Outs w ts x S ∧ Free G w G1 S := by
  obtain ⟨ts, s1, G1, xs, Sx, h, hg, hr, hn, hn2, how, hf, hd⟩ := outs_out hC (fun | .tmp t => pure (a.tmps.getD t undef) | .cell p t => do loadVar t (← asAddr (a.tmps.getD p undef))) (fun _ => rfl) (fun _ _ => rfl) hs h
  have hrun : (results fn a.tmps).run P w = .ok (if h : xs.toArray.size = 1 then xs.toArray[0] else .tuple xs.toArray) w := by
    unfold results
    have : fn.results = fn.results.toList.toArray := by simp
    rw [this, List.mapM_toArray]
    simp only [Sem.run_bind, Sem.run_map]
    erw [hr]
    rfl
  refine ⟨ts, s1, G1, _, fun b => ∃ j, Sx j b, h, hg, hrun, ?_, ⟨fun b ⟨j, hb⟩ => (hf j).was b hb, fun b d ⟨j, hb⟩ => (hf j).now b d hb⟩⟩
  have hlen : xs.length = ts.length := by omega
  by_cases h1 : xs.length = 1
  · obtain ⟨x, rfl⟩ := List.length_eq_one_iff.1 h1
    obtain ⟨t, rfl⟩ := List.length_eq_one_iff.1 (hlen ▸ h1)
    rw [dif_pos (by simp)]
    have := how 0 t rfl
    have sup : ∀ {t : T} {x : Value} {S S' : Nat → Prop}, Ow2 w t x S → (∀ b, S b → S' b) → Ow2 w t x S' := by
      intro t x S S' h hS
      cases t with
      | agg l => obtain ⟨vs, Ss, h1, h2, h3, h4⟩ := h; exact ⟨vs, Ss, h1, h2, fun j b hb => hS b (h3 j b hb), h4⟩
      | v x => exact Ow.sup h hS
      | sl e l => exact Ow.sup h hS
    exact sup this (fun b hb => ⟨0, hb⟩)
  · rw [dif_neg (by simpa using h1)]
    have many : ∃ (ys : List Value) (Ss : Nat → Nat → Prop), Value.tuple xs.toArray = .tuple ys.toArray ∧ ys.length = ts.length ∧ (∀ j t, ts[j]? = some t → Ow2 w t (ys.getD j undef) (Ss j)) ∧ (∀ j b, Ss j b → ∃ j, Sx j b) ∧ (∀ i j b, Ss i b → Ss j b → i = j) := ⟨xs, Sx, rfl, hlen, how, fun j b hb => ⟨j, hb⟩, hd⟩
    match ts, hlen, many with
    | [], _, many => exact many
    | [t], hlen, _ => exact absurd hlen (by simpa using h1)
    | _ :: _ :: _, _, many => exact many

theorem Sim.start {tmps : Array Value} {R : Nat → Prop} (hR : ∀ b, R b → b < w.heap.size) : Sim ⟨w, R, 0, fun _ => 0, fun _ => undef, fun _ _ => False⟩ ⟨tmps.size, [], []⟩ ⟨tmps, []⟩ w where
  size := rfl
  defers := rfl
  tm _ := ⟨trivial, lt_c trivial⟩
  up := Up.refl _
  old _ _ _ := rfl
  Rlt := hR
  ob d x h := by simp [look] at h
  own _ _ h := h.elim
  apart _ _ _ h := h.elim
theorem a2_V {t : T} {y : Value} (h : Rd2 G.w0 G.Z t y) : V2 G w s.ob t.a2 y ∧ t.a2.lt G.k := by
  cases t with
  | agg l =>
    obtain ⟨vs, rfl, hn, hv⟩ := h
    refine ⟨⟨vs, rfl, by simp [hn], fun j c hj => ?_⟩, fun x hx => ?_⟩
    · rw [List.getElem?_map, Option.map_eq_some_iff] at hj
      obtain ⟨t, ht, rfl⟩ := hj
      exact ⟨V1_old (w := w) (s := s) (hv j t ht), (hv j t ht).one⟩
    · obtain ⟨t, _, rfl⟩ := List.mem_map.1 hx; exact a1_lt t _
  | v x => exact ⟨V1_old (w := w) (s := s) h, fun y hy => by simp [T.a2, A2.cells] at hy; subst hy; trivial⟩
  | sl e l => exact ⟨V1_old (w := w) (s := s) h, fun y hy => by simp [T.a2, A2.cells] at hy; subst hy; trivial⟩
theorem enterR_out : ∀ {ts : List T} {i : Nat} {s : St}, Sim G s a w → (∀ j t, ts[j]? = some t → Rd2 G.w0 G.Z t (a.tmps.getD (i + j) undef)) → Sim G (enterR i ts s) a w ∧ (enterR i ts s).ob = s.ob
  | [], i, s, hs, h => ⟨hs, rfl⟩
  | t :: ts, i, s, hs, h => by
    obtain ⟨h1, h2⟩ := a2_V (w := w) (s := s) (h 0 t rfl)
    obtain ⟨h3, h4⟩ := enterR_out (ts := ts) (i := i + 1) (hs.learn (d := i) (x := .o t.a2) h1 h2) (fun j t ht => by
      have := h (j + 1) t (by simpa using ht)
      rwa [show i + (j + 1) = i + 1 + j by omega] at this)
    exact ⟨h3, h4⟩
theorem allRo_eq : ∀ {args : List Ar}, allRo args = true → args = (old args).map .ro
  | [], _ => rfl
  | .ro t :: r, h => by simp only [old, List.map_cons]; rw [← allRo_eq (args := r) h]
  | .rw _ _ :: r, h => by cases h
theorem old_len : ∀ (args : List Ar), (old args).length = args.length
  | [] => rfl
  | .ro _ :: r => by simp [old, old_len r]
  | .rw _ _ :: r => by simp [old, old_len r]
/-- A body without written parameters. -/
theorem spec_ro (hm : P.follows .mixedOrders = true) (hC : CtxOk P C) {f : Nat} {fn : Func} {args : List Ar} {ts : List T} (hf : P.funcs[f]? = some fn) (hname : (fn.name == "runtime.NumGoroutine") = false) {c : Code} (hb : fn.body = some c) (hn : args.length ≤ fn.ntmps) (hro : allRo args = true)
    (h : awp C c (enterR 0 (old args) ⟨fn.ntmps, [], []⟩) (fun e s => match e with
        | .exit _ => False
        | _ => outs C fn.results.toList s fun xs _ => xs = ts)) : Spec P f args ts := by
  refine ⟨⟨fn, hf, hname, by rw [hb]; rfl⟩, fun w vals R hR ha => ?_⟩
  obtain ⟨hlen, Ss, hSs, _, hargs⟩ := ha
  have heq := allRo_eq hro
  have hol := old_len args
  refine calls_of_wp hf hb ?_
  let tmps : Array Value := vals.toArray ++ Array.replicate (fn.ntmps - vals.toArray.size) undef
  have hsz : tmps.size = fn.ntmps := by simp [tmps]; omega
  have hget : ∀ j, j < vals.length → tmps.getD j undef = vals.getD j undef := fun j hj => by
    simp [tmps, Array.getD_eq_getD_getElem?, List.getD_eq_getElem?_getD, Array.getElem?_append_left, hj]
  have hs0 := Sim.start (w := w) (tmps := tmps) (R := fun _ => False) (fun _ h => h.elim)
  rw [hsz] at hs0
  have supR : ∀ {t : T} {y : Value} {Z Z' : Nat → Prop}, (∀ b, Z b → Z' b) → Rd2 w Z t y → Rd2 w Z' t y := by
    intro t y Z Z' hz h
    cases t with
    | agg l => obtain ⟨vs, h1, h2, h3⟩ := h; exact ⟨vs, h1, h2, fun j c hc => (h3 j c hc).sup hz⟩
    | v x => exact Rd.sup h hz
    | sl e l => exact Rd.sup h hz
  obtain ⟨hs1, _⟩ := enterR_out (ts := old args) (i := 0) hs0 (fun j t ht => by
    have hj : j < vals.length := by rw [hlen, ← hol]; exact (List.getElem?_eq_some_iff.1 ht).1
    have h1 : args[j]? = some (.ro t) := by rw [heq, List.getElem?_map, ht]; rfl
    have h2 := hargs j _ h1
    show Rd2 w _ t (tmps.getD (0 + j) undef)
    rw [Nat.zero_add, hget j hj]; exact supR (fun b hb => ⟨hb.1, fun h => h⟩) h2)
  have noargs : ∀ w', ArgsOut w' args vals (fun _ _ => False) := fun w' i x hx => by
    rw [heq, List.getElem?_map, Option.map_eq_some_iff] at hx
    obtain ⟨t, _, rfl⟩ := hx; trivial
  have fin : ∀ {s' : St} {G' : Gh} {a' : Act} {w' : World}, Keep ⟨w, fun _ => False, 0, fun _ => 0, fun _ => undef, fun _ _ => False⟩ G' → (outs C fn.results.toList s' fun xs _ => xs = ts) → Sim G' s' a' w' → a'.defers = [] ∧ ∃ v, (results fn a'.tmps).run P w' = .ok v w' ∧ Ret w R args ts vals (.returned v) w' := by
    intro s' G' a' w' hk hq hs'
    obtain ⟨ts', s1, G1, x, S, rfl, hg, hr, hout, hfree⟩ := results_out hC (fn := fn) hs' hq
    have hw0 : G'.w0 = w := hk.w0
    have hR0 : G'.R = fun _ => False := hk.R
    refine ⟨hs'.defers, x, hr, x, S, fun _ _ => False, rfl, hout, noargs w', fun b hb => ?_, fun _ _ h => h.elim, fun _ _ _ h => h, fun _ _ _ h => h.elim, by have := hs'.up; rwa [hw0] at this, fun b hb _ => by have := hs'.old b (by rw [hw0]; exact hb) (by rw [hR0]; exact fun h => h); rw [this, hw0]⟩
    obtain ⟨d, hd⟩ := hfree.was b hb
    have := hs'.own d b hd
    rw [hw0, hR0] at this
    exact ⟨this.2.elim id (fun h => h.elim), this.1⟩
  refine awp_sound hm hC c hs1 h (fun e s' G' a' w' hk hq hs' => ?_)
  cases e with
  | normal => exact fin hk hq hs'
  | exit i => exact hq.elim
  | ret => exact fin hk hq hs'
theorem spec_fn (hm : P.follows .mixedOrders = true) (hC : CtxOk P C) {f : Nat} {fn : Func} {args : List Ar} {ts : List T} (hf : P.funcs[f]? = some fn) (hname : (fn.name == "runtime.NumGoroutine") = false) (h : Fn C fn args ts) : Spec P f args ts := by
  unfold Fn at h
  split at h
  · rename_i c hb
    unfold body at h
    cases hl : Nat.ble args.length fn.ntmps with
    | false => rw [hl] at h; exact h.elim
    | true =>
      rw [hl] at h
      have hl' : args.length ≤ fn.ntmps := Nat.le_of_ble_eq_true hl
      simp only [cond_true] at h
      split at h
      · exact h.elim
      · cases hro : allRo args with
        | false => rw [hro] at h; exact h.elim
        | true => rw [hro] at h; exact spec_ro hm hC hf hname hb hl' hro h
  · exact h.elim
def ZTL : List Value → List T → Prop
  | [], [] => True
  | x :: xs, t :: ts => ZT x t ∧ ZTL xs ts
  | _, _ => False
theorem ztl_out : ∀ {xs : List Value} {ts : List T}, ZTL xs ts → ts.length = xs.length ∧ ∀ (j : Nat) (x : Value) (t : T), xs[j]? = some x → ts[j]? = some t → ZT x t
  | [], [], _ => ⟨rfl, fun j x t h => by simp at h⟩
  | x :: xs, t :: ts, h => by
    obtain ⟨h1, h2⟩ := ztl_out h.2
    refine ⟨by simp [h1], fun j y u hy hu => ?_⟩
    cases j with
    | zero => simp at hy hu; subst hy; subst hu; exact h.1
    | succ j => exact h2 j y u (by simpa using hy) (by simpa using hu)
  | [], _ :: _, h => h.elim
  | _ :: _, [], h => h.elim
theorem TIok.mk1 {P : Program} {t : Nat} {i : TI} (z : Value) (d : TypeDesc) (h : (P.info? t).map (fun j => (j.size, j.bytes, j.zero)) = some (i.sz, i.bytes, some z)) (hz : z.cells.toList = i.zero) (ha : if i.agg then z = .agg i.zero.toArray else ∃ x, i.zero = [x] ∧ z = x) (hl : i.zero.length = i.sz)
    (h1 : i.zero.all (·.oneCell') = true) (hzt : ZTL i.zero i.zt) (hb : i.bytes ≤ 1024) (hu : P.underlying t = some d) (hr : d.isRow = i.agg)
    (hd : match i.d with
      | .int k => d = .int k
      | .bool => d = .bool
      | .str => d = .string
      | .sl e => d = .slice e
      | .st fs => ∃ fa : Array Field, d = .struct fa ∧ fa.toList.map (fun f => (f.offset, f.type)) = fs
      | _ => True) : TIok P t i where
  info := by
    cases hj : P.info? t with
    | none => rw [hj] at h; cases h
    | some j =>
      rw [hj] at h
      simp only [Option.map_some, Option.some.injEq, Prod.mk.injEq] at h
      exact ⟨j, z, rfl, h.1, h.2.1, h.2.2, hz, ha⟩
  len := hl
  one x hx := List.all_eq_true.1 h1 x hx
  zt := ztl_out hzt
  bytes := hb
  desc := ⟨d, hu, hr, hd⟩
def TTall (P : Program) : TT → Prop
  | [] => True
  | (t, i) :: r => TIok P t i ∧ TTall P r
theorem tt_out : ∀ {tt : TT}, TTall P tt → ∀ t i, look tt t = some i → TIok P t i
  | [], _, t, i, h => by simp [look] at h
  | (k, x) :: r, hh, t, i, h => by
    rw [look_cons] at h
    split at h
    · rename_i hk; cases h; subst hk; exact hh.1
    · exact tt_out hh.2 t i h
end
end Go.Proofs.Ytbofjpmighijhaa.E
