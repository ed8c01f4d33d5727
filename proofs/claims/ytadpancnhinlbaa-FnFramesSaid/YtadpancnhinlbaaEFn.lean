/- Whole functions. -/
import Derived.Test.YtadpancnhinlbaaECtl
namespace Go.Proofs.Ytadpancnhinlbaa.E
set_option linter.unusedVariables false
set_option linter.unusedSimpArgs false
section
variable {P : Program} {C : Ctx} {G : Gh} {w : World} {s : St} {a : Act} {K : St → Prop}

theorem outs_out (hC : CtxOk P C) (f : ResultVar → Sem Value) (hf1 : ∀ u, f (.tmp u) = pure (a.tmps.getD u undef)) (hf2 : ∀ p t, f (.cell p t) = (do loadVar t (← asAddr (a.tmps.getD p undef)))) : ∀ {rs : List ResultVar} {s : St} {G : Gh} {K' : List T → St → Prop}, Sim G s a w → outs C rs s K' →
    ∃ ts s1 G1 xs, ∃ Sx : Nat → Nat → Prop, K' ts s1 ∧ Gone G w s a G1 s1 ∧ (rs.mapM f).run P w = .ok xs w ∧ xs.length = rs.length ∧ ts.length = rs.length ∧ (∀ j t, ts[j]? = some t → Ow2 w t (xs.getD j undef) (Sx j)) ∧ (∀ j, Free G w G1 (Sx j)) ∧ (∀ i j b, Sx i b → Sx j b → i = j)
  | [], s, G, K', hs, h => ⟨[], s, G, [], fun _ _ => False, h, Gone.refl hs, by simp, rfl, rfl, fun j t h => by simp at h, fun _ => ⟨fun _ h => h.elim, fun _ _ h => h.elim⟩, fun _ _ _ h => h.elim⟩
  | r :: rs, s, G, K', hs, h => by
    have step : ∀ {x : A2} {y : Value}, (f r).run P w = .ok y w → V2 G w s.ob x y → x.lt G.k → (mv2 s x fun t s' => outs C rs s' fun xs s'' => K' (t :: xs) s'') →
        ∃ ts s1 G1 xs, ∃ Sx : Nat → Nat → Prop, K' ts s1 ∧ Gone G w s a G1 s1 ∧ ((r :: rs).mapM f).run P w = .ok xs w ∧ xs.length = (r :: rs).length ∧ ts.length = (r :: rs).length ∧ (∀ j t, ts[j]? = some t → Ow2 w t (xs.getD j undef) (Sx j)) ∧ (∀ j, Free G w G1 (Sx j)) ∧ (∀ i j b, Sx i b → Sx j b → i = j) := by
      intro x y hr hv hl h
      obtain ⟨t, s1, G1, S0, h, hg, how, hf⟩ := mv2_out hs hv hl h
      obtain ⟨ts, s2, G2, xs, Sx, h, hg2, hr2, hn, hn2, how2, hf2', hd⟩ := outs_out hC f hf1 hf2 hg.sim h
      refine ⟨t :: ts, s2, G2, y :: xs, fun j => match j with | 0 => fun b => ∃ m, S0 m b | j + 1 => Sx j, h, hg.trans hg2, by simp [List.mapM_cons, Sem.run_bind, hr, hr2], by simp [hn], by simp [hn2], fun j t' ht => ?_, fun j => ?_, fun i j b hi hj => ?_⟩
      · cases j with
        | zero => simp at ht; subst ht; exact how.ow
        | succ j => simpa using how2 j t' (by simpa using ht)
      · cases j with
        | zero => exact ⟨fun b ⟨m, hb⟩ => (hf m).was b hb, fun b d ⟨m, hb⟩ hb' => (hf m).now b d hb (hg2.S d b hb')⟩
        | succ j => exact ⟨fun b hb => by obtain ⟨d, hb'⟩ := (hf2' j).was b hb; exact ⟨d, hg.S d b hb'⟩, (hf2' j).now⟩
      · cases i with
        | zero => cases j with
          | zero => rfl
          | succ j => obtain ⟨m, hm⟩ := hi; obtain ⟨d, hb'⟩ := (hf2' j).was b hj; exact absurd hb' ((hf m).now b d hm)
        | succ i => cases j with
          | zero => obtain ⟨m, hm⟩ := hj; obtain ⟨d, hb'⟩ := (hf2' i).was b hi; exact absurd hb' ((hf m).now b d hm)
          | succ j => exact congrArg (· + 1) (hd i j b hi hj)
    cases r with
    | tmp t =>
      rw [outs_tmp] at h
      split at h
      · rename_i x hx
        have ht := hs.tm t
        rw [hx] at ht
        exact step (y := a.tmps.getD t undef) (by rw [hf1]; simp) ht.1 ht.2 h
      · exact h.elim
    | cell p t =>
      rw [outs_cell] at h
      split at h
      · rename_i i d q off hi hp
        split at h
        · rename_i q' l hl
          obtain ⟨rfl, h⟩ := h
          split at h
          · rename_i x hx
            have ht := hs.tm p
            rw [hp] at ht
            obtain ⟨_, ⟨vs, te, hc, hvl⟩, _, hlts⟩ := hs.ob d _ hl
            have hpv : a.tmps.getD p undef = .pointer (some ⟨G.β d, off, none⟩) := ht.1.2 ⟨l, hl⟩
            have hcell : ∀ j v, ((vs.drop off).take i.sz)[j]? = some v → w.cell? ((⟨G.β d, off, none⟩ : Addr).add j) = some v := by
              intro j v hj
              rw [List.getElem?_take] at hj
              split at hj
              · rw [List.getElem?_drop] at hj
                rw [add_mk, cell_arr hc]
                simpa using hj
              · cases hj
            obtain ⟨y, hr, hy⟩ := of_load (P := P) (hC.tt t i hi) hx (hvl.part off i.sz) hcell
            refine step (y := y) ?_ hy (of_lt hx fun b hb => hlts b (part_mem hb)) h
            rw [hf2, hpv]
            simp only [Instr.loadAt, Instr.sureAddr, Sem.run_bind, Sem.run_pure, Result.andThen_ok] at hr
            simp only [asAddr, Sem.run_bind, Sem.run_pure, Result.andThen_ok, hr]
          · exact h.elim
        · exact h.elim
      · exact h.elim
theorem results_out (hC : CtxOk P C) {fn : Func} {K' : List T → St → Prop} (hs : Sim G s a w) (h : outs C fn.results.toList s K') :
    ∃ ts s1 G1 x, ∃ S : Nat → Prop, K' ts s1 ∧ Gone G w s a G1 s1 ∧ (results fn a.tmps).run P w = .ok x w ∧ Outs w ts x S ∧ Free G w G1 S := by
  obtain ⟨ts, s1, G1, xs, Sx, h, hg, hr, hn, hn2, how, hf, hd⟩ := outs_out hC (fun | .tmp t => pure (a.tmps.getD t undef) | .cell p t => do loadVar t (← asAddr (a.tmps.getD p undef))) (fun _ => rfl) (fun _ _ => rfl) hs h
  have hrun : (results fn a.tmps).run P w = .ok (if h : xs.toArray.size = 1 then xs.toArray[0] else .tuple xs.toArray) w := by
    unfold results
    have : fn.results = fn.results.toList.toArray := by simp
    rw [this, List.mapM_toArray]
    simp only [Sem.run_bind, Sem.run_map]
    erw [hr]
    rfl
  refine ⟨ts, s1, G1, _, fun b => ∃ j, Sx j b, h, hg, hrun, ?_, ⟨fun b ⟨j, hb⟩ => (hf j).was b hb, fun b d ⟨j, hb⟩ => (hf j).now b d hb⟩⟩
  have hlen : xs.length = ts.length := by omega
  by_cases h1 : xs.length = 1
  · obtain ⟨x, rfl⟩ := List.length_eq_one_iff.1 h1
    obtain ⟨t, rfl⟩ := List.length_eq_one_iff.1 (hlen ▸ h1)
    rw [dif_pos (by simp)]
    have := how 0 t rfl
    have sup : ∀ {t : T} {x : Value} {S S' : Nat → Prop}, Ow2 w t x S → (∀ b, S b → S' b) → Ow2 w t x S' := by
      intro t x S S' h hS
      cases t with
      | agg l => obtain ⟨vs, Ss, h1, h2, h3, h4⟩ := h; exact ⟨vs, Ss, h1, h2, fun j b hb => hS b (h3 j b hb), h4⟩
      | v x => exact Ow.sup h hS
      | sl e l => exact Ow.sup h hS
      | cl g x => exact Ow.sup h hS
      | rp x => exact Ow.sup h hS
    exact sup this (fun b hb => ⟨0, hb⟩)
  · rw [dif_neg (by simpa using h1)]
    have many : ∃ (ys : List Value) (Ss : Nat → Nat → Prop), Value.tuple xs.toArray = .tuple ys.toArray ∧ ys.length = ts.length ∧ (∀ j t, ts[j]? = some t → Ow2 w t (ys.getD j undef) (Ss j)) ∧ (∀ j b, Ss j b → ∃ j, Sx j b) ∧ (∀ i j b, Ss i b → Ss j b → i = j) := ⟨xs, Sx, rfl, hlen, how, fun j b hb => ⟨j, hb⟩, hd⟩
    match ts, hlen, many with
    | [], _, many => exact many
    | [t], hlen, _ => exact absurd hlen (by simpa using h1)
    | _ :: _ :: _, _, many => exact many

theorem Sim.start {tmps : Array Value} {R : Nat → Prop} (hR : RInv w R) : Sim ⟨w, R, 0, fun _ => 0, fun _ => undef, fun _ _ => False, fun _ => undef⟩ ⟨tmps.size, [], []⟩ ⟨tmps, []⟩ w where
  size := rfl
  defers := rfl
  tm _ := ⟨trivial, lt_c trivial⟩
  up := Up.refl _
  old _ _ _ := rfl
  Rlt := hR
  ob d x h := by simp [look] at h
  own _ _ h := h.elim
  apart _ _ _ h := h.elim
theorem a2_V {t : T} {y : Value} (h : Rd2 G.w0 G.Z t y) : V2 G w s.ob t.a2 y ∧ t.a2.lt G.k := by
  cases t with
  | agg l =>
    obtain ⟨vs, rfl, hn, hv⟩ := h
    refine ⟨⟨vs, rfl, by simp [hn], fun j c hj => ?_⟩, fun x hx => ?_⟩
    · rw [List.getElem?_map, Option.map_eq_some_iff] at hj
      obtain ⟨t, ht, rfl⟩ := hj
      exact ⟨V1_old (w := w) (s := s) (hv j t ht), (hv j t ht).one⟩
    · obtain ⟨t, _, rfl⟩ := List.mem_map.1 hx; exact a1_lt t _
  | v x => exact ⟨V1_old (w := w) (s := s) h, fun y hy => by simp [T.a2, A2.cells] at hy; subst hy; trivial⟩
  | sl e l => exact ⟨V1_old (w := w) (s := s) h, fun y hy => by simp [T.a2, A2.cells] at hy; subst hy; trivial⟩
  | cl g x => exact ⟨V1_old (w := w) (s := s) h, fun y hy => by simp [T.a2, A2.cells] at hy; subst hy; trivial⟩
  | rp x => exact ⟨V1_old (w := w) (s := s) h, fun y hy => by simp [T.a2, A2.cells] at hy; subst hy; trivial⟩
theorem enterR_out : ∀ {ts : List T} {i : Nat} {s : St}, Sim G s a w → (∀ j t, ts[j]? = some t → Rd2 G.w0 G.Z t (a.tmps.getD (i + j) undef)) → Sim G (enterR i ts s) a w ∧ (enterR i ts s).ob = s.ob
  | [], i, s, hs, h => ⟨hs, rfl⟩
  | t :: ts, i, s, hs, h => by
    obtain ⟨h1, h2⟩ := a2_V (w := w) (s := s) (h 0 t rfl)
    obtain ⟨h3, h4⟩ := enterR_out (ts := ts) (i := i + 1) (hs.learn (d := i) (x := .o t.a2) h1 h2) (fun j t ht => by
      have := h (j + 1) t (by simpa using ht)
      rwa [show i + (j + 1) = i + 1 + j by omega] at this)
    exact ⟨h3, h4⟩
theorem allRo_eq : ∀ {args : List Ar}, allRo args = true → args = (old args).map .ro
  | [], _ => rfl
  | .ro t :: r, h => by simp only [old, List.map_cons]; rw [← allRo_eq (args := r) h]
  | .rw _ _ :: r, h => by cases h
  | .mv _ :: r, h => by cases h
theorem old_len : ∀ (args : List Ar), (old args).length = args.length
  | [] => rfl
  | .ro _ :: r => by simp [old, old_len r]
  | .rw _ _ :: r => by simp [old, old_len r]
  | .mv _ :: r => by simp [old, old_len r]
/-- A body without written parameters. -/
theorem spec_ro (hm : P.follows .mixedOrders = true) (hC : CtxOk P C) {f : Nat} {fn : Func} {args : List Ar} {ts : List T} (hf : P.funcs[f]? = some fn) (hname : (fn.name == "runtime.NumGoroutine") = false) {c : Code} (hb : fn.body = some c) (hn : args.length ≤ fn.ntmps) (hro : allRo args = true)
    (h : awp C c (enterR 0 (old args) ⟨fn.ntmps, [], []⟩) (fun e s => match e with
        | .exit _ => False
        | _ => outs C fn.results.toList s fun xs _ => xs = ts)) : Spec P f args ts := by
  refine ⟨⟨fn, hf, hname, by rw [hb]; rfl⟩, fun w vals R hR ha => ?_⟩
  obtain ⟨hlen, Ss, hSs, _, hargs⟩ := ha
  have heq := allRo_eq hro
  have hol := old_len args
  refine calls_of_wp hf hb ?_
  let tmps : Array Value := vals.toArray ++ Array.replicate (fn.ntmps - vals.toArray.size) undef
  have hsz : tmps.size = fn.ntmps := by simp [tmps]; omega
  have hget : ∀ j, j < vals.length → tmps.getD j undef = vals.getD j undef := fun j hj => by
    simp [tmps, Array.getD_eq_getD_getElem?, List.getD_eq_getElem?_getD, Array.getElem?_append_left, hj]
  have hs0 := Sim.start (w := w) (tmps := tmps) (R := fun _ => False) hR.none
  rw [hsz] at hs0
  have supR : ∀ {t : T} {y : Value} {Z Z' : Nat → Prop}, (∀ b, Z b → Z' b) → Rd2 w Z t y → Rd2 w Z' t y := by
    intro t y Z Z' hz h
    cases t with
    | agg l => obtain ⟨vs, h1, h2, h3⟩ := h; exact ⟨vs, h1, h2, fun j c hc => (h3 j c hc).sup hz⟩
    | v x => exact Rd.sup h hz
    | sl e l => exact Rd.sup h hz
    | cl g x => exact Rd.sup h hz
    | rp x => exact Rd.sup h hz
  obtain ⟨hs1, _⟩ := enterR_out (ts := old args) (i := 0) hs0 (fun j t ht => by
    have hj : j < vals.length := by rw [hlen, ← hol]; exact (List.getElem?_eq_some_iff.1 ht).1
    have h1 : args[j]? = some (.ro t) := by rw [heq, List.getElem?_map, ht]; rfl
    have h2 := hargs j _ h1
    show Rd2 w _ t (tmps.getD (0 + j) undef)
    rw [Nat.zero_add, hget j hj]; exact supR (fun b hb => ⟨hb.1, fun h => h⟩) h2)
  have noargs : ∀ w', ArgsOut w' args vals (fun _ _ => False) := fun w' i x hx => by
    rw [heq, List.getElem?_map, Option.map_eq_some_iff] at hx
    obtain ⟨t, _, rfl⟩ := hx; trivial
  have fin : ∀ {s' : St} {G' : Gh} {a' : Act} {w' : World}, Keep ⟨w, fun _ => False, 0, fun _ => 0, fun _ => undef, fun _ _ => False, fun _ => undef⟩ G' → (outs C fn.results.toList s' fun xs _ => xs = ts) → Sim G' s' a' w' → a'.defers = [] ∧ ∃ v, (results fn a'.tmps).run P w' = .ok v w' ∧ Ret w R args ts vals (.returned v) w' := by
    intro s' G' a' w' hk hq hs'
    obtain ⟨ts', s1, G1, x, S, rfl, hg, hr, hout, hfree⟩ := results_out hC (fn := fn) hs' hq
    have hw0 : G'.w0 = w := hk.w0
    have hR0 : G'.R = fun _ => False := hk.R
    refine ⟨hs'.defers, x, hr, x, S, fun _ _ => False, rfl, hout, noargs w', fun b hb => ?_, fun _ _ h => h.elim, fun _ _ _ h => h, fun _ _ _ h => h.elim, by have := hs'.up; rwa [hw0] at this, fun b hb _ => by have := hs'.old b (by rw [hw0]; exact hb) (by rw [hR0]; exact fun h => h); rw [this, hw0]⟩
    obtain ⟨d, hd⟩ := hfree.was b hb
    have := hs'.own d b hd
    rw [hw0, hR0] at this
    exact ⟨.inl (this.2.elim id (fun h => h.elim)), this.1⟩
  refine awp_sound hm hC c hs1 h (fun e s' G' a' w' hk hq hs' => ?_)
  cases e with
  | normal => exact fin hk hq hs'
  | exit i => exact hq.elim
  | ret => exact fin hk hq hs'
theorem thL_lt : ∀ {l : List T} {d q d' : Nat} {s : St}, d' < d → look (thL d q l s).2.ob d' = look s.ob d'
  | [], _, _, _, _, _ => rfl
  | t :: l, d, q, d', s, h => by
    have h1 := thL_lt (l := l) (d := d + 1) (q := q + 1) (d' := d') (s := (th1 d q s t).2) (by omega)
    show look (thL (d + 1) (q + 1) l (th1 d q s t).2).2.ob d' = _
    rw [h1]
    cases t with
    | v x => rfl
    | agg l => rfl
    | cl g x => rfl
    | rp x => rfl
    | sl e es => show look (s.set d _).ob d' = _; rw [set_ob, if_neg (by omega)]
theorem thL_own : ∀ {l : List T} {d q : Nat} {s : St} {j e : Nat} {es : List T}, l[j]? = some (.sl e es) → (thL d q l s).1[j]? = some (.own (d + j) (q + j)) ∧ look (thL d q l s).2.ob (d + j) = some (.row (q + j) 0 e es)
  | t :: l, d, q, s, 0, e, es, h => by
    simp at h; subst h
    refine ⟨rfl, ?_⟩
    show look (thL (d + 1) (q + 1) l (th1 d q s (.sl e es)).2).2.ob d = _
    rw [thL_lt (by omega)]
    show look (s.set d _).ob d = _
    rw [set_ob, if_pos rfl]; rfl
  | t :: l, d, q, s, j + 1, e, es, h => by
    have h1 := thL_own (d := d + 1) (q := q + 1) (s := (th1 d q s t).2) (j := j) (e := e) (es := es) (by simpa using h)
    rw [show d + 1 + j = d + (j + 1) by omega, show q + 1 + j = q + (j + 1) by omega] at h1
    exact h1
  | [], _, _, _, _, _, _, h => by simp at h
theorem leave_cell (hs : Sim G s a w) {d : Nat} {c c' : T} {y : Value} (h : leave1 s d c c') (hy : ∀ e es, c = .sl e es → G.y d = y) (hv : ∀ x, c = .v x → y = x ∧ x.oneCell' = true) : Ow w c' y (G.S d) := by
  cases c with
  | v x =>
    have h' : c' = .v x := h
    subst h'
    obtain ⟨rfl, h1⟩ := hv x rfl
    exact .v h1
  | agg l => exact h.elim
  | cl g x => exact h.elim
  | rp x => exact h.elim
  | sl e es =>
    simp only [leave1] at h
    split at h
    · rename_i q sv e' es' hl
      subst h
      rw [← hy e es rfl]
      exact (hs.ob d _ hl).2
    · exact h.elim
theorem leaveL_out : ∀ {l l' : List T} {d : Nat}, leaveL s d l l' → l'.length = l.length ∧ ∀ (j : Nat) (c' : T), l'[j]? = some c' → ∃ c, l[j]? = some c ∧ leave1 s (d + j) c c'
  | [], l', d, h => by
    have h' : l' = [] := h
    subst h'; exact ⟨rfl, fun j c' h => by simp at h⟩
  | c :: l, l', d, h => by
    cases l' with
    | nil => exact h.elim
    | cons c' l' =>
      obtain ⟨h1, h2⟩ := (h : leave1 s d c c' ∧ leaveL s (d + 1) l l')
      obtain ⟨h3, h4⟩ := leaveL_out h2
      refine ⟨by simp [h3], fun j x hx => ?_⟩
      cases j with
      | zero => simp at hx; subst hx; exact ⟨c, rfl, h1⟩
      | succ j =>
        obtain ⟨c2, h5, h6⟩ := h4 j x (by simpa using hx)
        rw [show d + 1 + j = d + (j + 1) by omega] at h6
        exact ⟨c2, by simpa using h5, h6⟩
theorem allV_get : ∀ {ts : List T}, allV ts = true → ∀ {j : Nat} {t : T}, ts[j]? = some t → ∃ x, t = .v x
  | [], _, j, t, h => by simp at h
  | .v x :: r, hv, j, t, h => by
    cases j with
    | zero => simp at h; exact ⟨x, h.symm⟩
    | succ j => exact allV_get (ts := r) hv (by simpa using h)
  | .sl _ _ :: _, hv, _, _, _ => by cases hv
  | .agg _ :: _, hv, _, _, _ => by cases hv
theorem ow2_v {x y : Value} {S S' : Nat → Prop} (h : Ow2 w (.v x) y S) : Ow2 w (.v x) y S' := by
  have h' : Ow w (.v x) y S := h
  cases h' with
  | v h1 => exact (Ow.v h1 : Ow w (.v _) _ S')
theorem outs_v {ts : List T} {x : Value} {S : Nat → Prop} (hv : allV ts = true) (h : Outs w ts x S) : Outs w ts x (fun _ => False) := by
  have many : ∀ {ts : List T}, allV ts = true → (∃ (xs : List Value) (Ss : Nat → Nat → Prop), x = .tuple xs.toArray ∧ xs.length = ts.length ∧ (∀ j t, ts[j]? = some t → Ow2 w t (xs.getD j undef) (Ss j)) ∧ (∀ j b, Ss j b → S b) ∧ (∀ i j b, Ss i b → Ss j b → i = j)) →
      ∃ (xs : List Value) (Ss : Nat → Nat → Prop), x = .tuple xs.toArray ∧ xs.length = ts.length ∧ (∀ j t, ts[j]? = some t → Ow2 w t (xs.getD j undef) (Ss j)) ∧ (∀ j b, Ss j b → False) ∧ (∀ i j b, Ss i b → Ss j b → i = j) := by
    rintro ts hv ⟨xs, Ss, h1, h2, h3, _, _⟩
    refine ⟨xs, fun _ _ => False, h1, h2, fun j t ht => ?_, fun _ _ h => h, fun _ _ _ h => h.elim⟩
    obtain ⟨y, rfl⟩ := allV_get hv ht
    exact ow2_v (h3 j _ ht)
  match ts, hv, h with
  | [], hv, h => exact many hv h
  | [t], hv, h =>
    obtain ⟨y, rfl⟩ := allV_get hv (j := 0) (t := t) rfl
    exact ow2_v h
  | _ :: _ :: _, hv, h => exact many hv h
/-- A body that writes what its first parameter refers to. -/
theorem spec_rw (hm : P.follows .mixedOrders = true) (hC : CtxOk P C) {f : Nat} {fn : Func} {t t' : T} {r : List Ar} {ts : List T} (hf : P.funcs[f]? = some fn) (hname : (fn.name == "runtime.NumGoroutine") = false) {c : Code} (hb : fn.body = some c) (hn : (Ar.rw t t' :: r).length ≤ fn.ntmps) (hro : allRo r = true) (hv : allV ts = true) (h16 : t.cells.length ≤ 16)
    (h : awp C c (enterR 1 (old r) ((th2 500 0 ⟨fn.ntmps, [], []⟩ t).2.put (some 0) (.o (th2 500 0 ⟨fn.ntmps, [], []⟩ t).1))) (fun e s => match e with
        | .exit _ => False
        | _ => outs C fn.results.toList s fun xs s' => xs = ts ∧ leave2 s' t t')) : Spec P f (.rw t t' :: r) ts := by
  refine ⟨⟨fn, hf, hname, by rw [hb]; rfl⟩, fun w vals R hR ha => ?_⟩
  obtain ⟨hlen, Ss, hSs, hap, hargs⟩ := ha
  have h0 : Ow2 w t (vals.getD 0 undef) (Ss 0) := hargs 0 _ rfl
  have heq := allRo_eq hro
  have hol := old_len r
  refine calls_of_wp hf hb ?_
  let tmps : Array Value := vals.toArray ++ Array.replicate (fn.ntmps - vals.toArray.size) undef
  have hln : vals.length = r.length + 1 := by rw [hlen]; rfl
  have hn' : r.length + 1 ≤ fn.ntmps := hn
  have hsz : tmps.size = fn.ntmps := by simp [tmps]; omega
  have hget : ∀ j, j < vals.length → tmps.getD j undef = vals.getD j undef := fun j hj => by
    simp [tmps, Array.getD_eq_getD_getElem?, List.getD_eq_getElem?_getD, Array.getElem?_append_left, hj]
  have hs0 := Sim.start (w := w) (tmps := tmps) (R := R) hR
  rw [hsz] at hs0
  obtain ⟨G', hk', hs1, hv2, hl2, _, _, _, _, _⟩ := th2_out (B := 500) (q := 0) (d := 500) hs0 (Nat.le_refl _) (Nat.le_refl _) h0 (fun b hb => ⟨hR.lt b (hSs 0 b hb), .inr (hSs 0 b hb), fun d h => h⟩)
  have hw0' : G'.w0 = w := hk'.w0
  have hR0' : G'.R = R := hk'.R
  have hs2 := hs1.learn (d := 0) (x := .o (th2 500 0 ⟨fn.ntmps, [], []⟩ t).1) (by show V2 _ _ _ _ (tmps.getD 0 undef); rw [hget 0 (by omega)]; exact hv2) hl2
  obtain ⟨hs3, _⟩ := enterR_out (ts := old r) (i := 1) hs2 (fun j u hu => by
    have hj : j < r.length := by rw [← hol]; exact (List.getElem?_eq_some_iff.1 hu).1
    have h1 : (Ar.rw t t' :: r)[1 + j]? = some (.ro u) := by rw [Nat.add_comm 1 j, List.getElem?_cons_succ, heq, List.getElem?_map, hu]; rfl
    have h2 := hargs (1 + j) _ h1
    show Rd2 G'.w0 G'.Z u (tmps.getD (1 + j) undef)
    rw [hget (1 + j) (by omega), hw0', show G'.Z = fun b => b < w.heap.size ∧ ¬ R b by funext b; simp only [Gh.Z, hw0', hR0']]
    exact h2)
  -- what the names of the first parameter's rows stand for
  have named : ∀ {l : List T} {vs : List Value}, t = .agg l → vals.getD 0 undef = .agg vs.toArray → ∀ j e es, l[j]? = some (.sl e es) → G'.y (500 + j) = vs.getD j undef := by
    intro l vs ht hval j e es hj
    subst ht
    have hb16 : Nat.ble l.length 16 = true := Nat.ble_eq_true_of_le h16
    have e1 : (th2 500 0 ⟨fn.ntmps, [], []⟩ (.agg l)) = (.agg (thL 500 0 l ⟨fn.ntmps, [], []⟩).1, (thL 500 0 l ⟨fn.ntmps, [], []⟩).2) := by simp only [th2, hb16, cond_true]
    rw [e1] at hv2
    obtain ⟨vs2, hval2, hvl⟩ := hv2
    rw [hval] at hval2
    have hvs : vs2 = vs := by injection hval2 with h; exact (List.toArray_inj h).symm
    subst hvs
    obtain ⟨h1, h2⟩ := thL_own (d := 500) (q := 0) (s := ⟨fn.ntmps, [], []⟩) hj
    exact ((hvl.2 j _ h1).1.2 ⟨_, _, _, h2⟩).symm
  have named1 : ∀ e es, t = .sl e es → G'.y 500 = vals.getD 0 undef := by
    intro e es ht
    subst ht
    have hv3 : V1 G' w _ (.own 500 0) (vals.getD 0 undef) := hv2
    refine (hv3.2 ⟨0, e, es, ?_⟩).symm
    show look (St.set _ 500 _).ob 500 = _
    rw [set_ob, if_pos rfl]
  have fin : ∀ {s' : St} {G2 : Gh} {a' : Act} {w' : World}, Keep G' G2 → (outs C fn.results.toList s' fun xs s'' => xs = ts ∧ leave2 s'' t t') → Sim G2 s' a' w' → a'.defers = [] ∧ ∃ v, (results fn a'.tmps).run P w' = .ok v w' ∧ Ret w R (.rw t t' :: r) ts vals (.returned v) w' := by
    intro s' G2 a' w' hk hq hs'
    obtain ⟨ts', s1, G1, x, S, ⟨rfl, hleave⟩, hg, hr, hout, _⟩ := results_out hC (fn := fn) hs' hq
    have hw0 : G1.w0 = w := by rw [hg.keep.w0, hk.w0, hw0']
    have hR0 : G1.R = R := by rw [hg.keep.R, hk.R, hR0']
    have hw2 : G2.w0 = w := by rw [hk.w0, hw0']
    have hR2 : G2.R = R := by rw [hk.R, hR0']
    have hy : ∀ d, d < 1000 → G1.y d = G'.y d := fun d hd => by rw [hg.y]; exact hk.y d hd
    let S0 : Nat → Prop := fun b => ∃ j, G1.S (500 + j) b
    have how : Ow2 w' t' (vals.getD 0 undef) S0 := by
      cases t with
      | cl g x =>
        have hl : leave1 s1 500 (.cl g x) t' := hleave
        exact hl.elim
      | rp x =>
        have hl : leave1 s1 500 (.rp x) t' := hleave
        exact hl.elim
      | v z =>
        have hl : leave1 s1 500 (.v z) t' := hleave
        have hz : Ow w (.v z) (vals.getD 0 undef) (Ss 0) := h0
        have := leave_cell hg.sim (y := vals.getD 0 undef) hl (fun e es h => by cases h) (fun z' h => by cases h; cases hz with | v h1 => exact ⟨rfl, h1⟩)
        have ht' : t' = .v z := hl
        subst ht'
        exact Ow.sup this (fun b hb => ⟨0, hb⟩)
      | sl e es =>
        have hl : leave1 s1 500 (.sl e es) t' := hleave
        have := leave_cell hg.sim (y := vals.getD 0 undef) hl (fun _ _ _ => by rw [hy 500 (by omega)]; exact named1 e es rfl) (fun z' h => by cases h)
        have ht' : ∃ e' es', t' = .sl e' es' := by
          simp only [leave1] at hl
          split at hl
          · exact ⟨_, _, hl⟩
          · exact hl.elim
        obtain ⟨e', es', rfl⟩ := ht'
        exact Ow.sup this (fun b hb => ⟨0, hb⟩)
      | agg l =>
        have hl2 : ∃ l', t' = .agg l' ∧ leaveL s1 500 l l' := by
          simp only [leave2] at hleave
          split at hleave
          · exact ⟨_, rfl, hleave⟩
          · exact hleave.elim
        obtain ⟨l', rfl, hl⟩ := hl2
        obtain ⟨hl1, hl2⟩ := leaveL_out hl
        obtain ⟨vs, Sx, hval, ⟨hvn, hcells⟩, hsub, _⟩ := h0
        have h16' : l.length ≤ 16 := h16
        refine ⟨vs, fun j => if j < 16 then G1.S (500 + j) else fun _ => False, hval, ⟨by omega, fun j c' hc' => ?_⟩, fun j b hb => ?_, fun i j b hi hj => ?_⟩
        · obtain ⟨c0, hc0, hlv⟩ := hl2 j c' hc'
          have hj : j < l.length := (List.getElem?_eq_some_iff.1 hc0).1
          simp only [show j < 16 by omega, if_true]
          refine leave_cell hg.sim hlv (fun e es he => ?_) (fun z hz => ?_)
          · rw [hy _ (by omega)]; subst he; exact named rfl hval j e es hc0
          · subst hz
            have := hcells j _ hc0
            cases this with
            | v h1 => exact ⟨rfl, h1⟩
        · by_cases hj : j < 16
          · simp only [hj, if_true] at hb; exact ⟨j, hb⟩
          · simp only [hj, if_false] at hb
        · by_cases h1 : i < 16
          · by_cases h2 : j < 16
            · simp only [h1, h2, if_true] at hi hj
              have := hg.sim.apart _ _ b hi hj; omega
            · simp only [h2, if_false] at hj
          · simp only [h1, if_false] at hi
    refine ⟨hs'.defers, x, hr, x, fun _ => False, fun i => if i = 0 then S0 else fun _ => False, rfl, outs_v hv hout, fun i ar hi => ?_, fun _ h => h.elim, fun i b hb => ?_, fun _ _ h => h.elim, fun i j b hi hj => ?_, by have := hs'.up; rwa [hw2] at this, fun b hb hRb => by have := hs'.old b (by rw [hw2]; exact hb) (by rw [hR2]; exact hRb); rw [this, hw2]⟩
    · cases i with
      | zero => simp at hi; subst hi; exact how
      | succ i =>
        rw [List.getElem?_cons_succ, heq, List.getElem?_map, Option.map_eq_some_iff] at hi
        obtain ⟨u, _, rfl⟩ := hi; trivial
    · cases i with
      | zero =>
        obtain ⟨j, hj⟩ := (hb : S0 b)
        have := hg.sim.own _ b hj
        rw [hw0, hR0] at this; exact this
      | succ i => exact hb.elim
    · cases i with
      | zero => cases j with
        | zero => rfl
        | succ j => exact hj.elim
      | succ i => exact hi.elim
  refine awp_sound hm hC c hs3 h (fun e s' G2 a' w' hk hq hs' => ?_)
  cases e with
  | normal => exact fin hk hq hs'
  | exit i => exact hq.elim
  | ret => exact fin hk hq hs'
/-- A body to which its first argument is given for good. -/
theorem spec_mv (hm : P.follows .mixedOrders = true) (hC : CtxOk P C) {f : Nat} {fn : Func} {t : T} {r : List Ar} {ts : List T} (hf : P.funcs[f]? = some fn) (hname : (fn.name == "runtime.NumGoroutine") = false) {c : Code} (hb : fn.body = some c) (hn : (Ar.mv t :: r).length ≤ fn.ntmps) (hro : allRo r = true)
    (h : awp C c (enterR 1 (old r) ((th2 500000 0 ⟨fn.ntmps, [], []⟩ t).2.put (some 0) (.o (th2 500000 0 ⟨fn.ntmps, [], []⟩ t).1))) (fun e s => match e with
        | .exit _ => False
        | _ => outs C fn.results.toList s fun xs _ => xs = ts)) : Spec P f (.mv t :: r) ts := by
  refine ⟨⟨fn, hf, hname, by rw [hb]; rfl⟩, fun w vals R hR ha => ?_⟩
  obtain ⟨hlen, Ss, hSs, hap, hargs⟩ := ha
  have h0 : Ow2 w t (vals.getD 0 undef) (Ss 0) := hargs 0 _ rfl
  have heq := allRo_eq hro
  have hol := old_len r
  refine calls_of_wp hf hb ?_
  let tmps : Array Value := vals.toArray ++ Array.replicate (fn.ntmps - vals.toArray.size) undef
  have hln : vals.length = r.length + 1 := by rw [hlen]; rfl
  have hn' : r.length + 1 ≤ fn.ntmps := hn
  have hsz : tmps.size = fn.ntmps := by simp [tmps]; omega
  have hget : ∀ j, j < vals.length → tmps.getD j undef = vals.getD j undef := fun j hj => by
    simp [tmps, Array.getD_eq_getD_getElem?, List.getD_eq_getElem?_getD, Array.getElem?_append_left, hj]
  have hs0 := Sim.start (w := w) (tmps := tmps) (R := R) hR
  rw [hsz] at hs0
  obtain ⟨G', hk', hs1, hv2, hl2, _, _, _, _, _⟩ := th2_out (B := 1000) (q := 0) (d := 500000) hs0 (Nat.le_refl _) (by decide) h0 (fun b hb => ⟨hR.lt b (hSs 0 b hb), .inr (hSs 0 b hb), fun d h => h⟩)
  have hw0' : G'.w0 = w := hk'.w0
  have hR0' : G'.R = R := hk'.R
  have hs2 := hs1.learn (d := 0) (x := .o (th2 500000 0 ⟨fn.ntmps, [], []⟩ t).1) (by show V2 _ _ _ _ (tmps.getD 0 undef); rw [hget 0 (by omega)]; exact hv2) hl2
  obtain ⟨hs3, _⟩ := enterR_out (ts := old r) (i := 1) hs2 (fun j u hu => by
    have hj : j < r.length := by rw [← hol]; exact (List.getElem?_eq_some_iff.1 hu).1
    have h1 : (Ar.mv t :: r)[1 + j]? = some (.ro u) := by rw [Nat.add_comm 1 j, List.getElem?_cons_succ, heq, List.getElem?_map, hu]; rfl
    have h2 := hargs (1 + j) _ h1
    show Rd2 G'.w0 G'.Z u (tmps.getD (1 + j) undef)
    rw [hget (1 + j) (by omega), hw0', show G'.Z = fun b => b < w.heap.size ∧ ¬ R b by funext b; simp only [Gh.Z, hw0', hR0']]
    exact h2)
  have fin : ∀ {s' : St} {G2 : Gh} {a' : Act} {w' : World}, Keep G' G2 → (outs C fn.results.toList s' fun xs _ => xs = ts) → Sim G2 s' a' w' → a'.defers = [] ∧ ∃ v, (results fn a'.tmps).run P w' = .ok v w' ∧ Ret w R (.mv t :: r) ts vals (.returned v) w' := by
    intro s' G2 a' w' hk hq hs'
    obtain ⟨ts', s1, G1, x, S, rfl, hg, hr, hout, hfree⟩ := results_out hC (fn := fn) hs' hq
    have hw2 : G2.w0 = w := by rw [hk.w0, hw0']
    have hR2 : G2.R = R := by rw [hk.R, hR0']
    refine ⟨hs'.defers, x, hr, x, S, fun _ _ => False, rfl, hout, fun i ar hi => ?_, fun b hb => ?_, fun _ _ h => h.elim, fun _ _ _ h => h, fun _ _ _ h => h.elim, by have := hs'.up; rwa [hw2] at this, fun b hb hRb => by have := hs'.old b (by rw [hw2]; exact hb) (by rw [hR2]; exact hRb); rw [this, hw2]⟩
    · cases i with
      | zero => simp at hi; subst hi; trivial
      | succ i =>
        rw [List.getElem?_cons_succ, heq, List.getElem?_map, Option.map_eq_some_iff] at hi
        obtain ⟨u, _, rfl⟩ := hi; trivial
    · obtain ⟨d, hd⟩ := hfree.was b hb
      have := hs'.own d b hd
      rw [hw2, hR2] at this
      exact ⟨this.2.imp id (fun h => ⟨rfl, h⟩), this.1⟩
  refine awp_sound hm hC c hs3 h (fun e s' G2 a' w' hk hq hs' => ?_)
  cases e with
  | normal => exact fin hk hq hs'
  | exit i => exact hq.elim
  | ret => exact fin hk hq hs'
theorem spec_fn (hm : P.follows .mixedOrders = true) (hC : CtxOk P C) {f : Nat} {fn : Func} {args : List Ar} {ts : List T} (hf : P.funcs[f]? = some fn) (hname : (fn.name == "runtime.NumGoroutine") = false) (h : Fn C fn args ts) : Spec P f args ts := by
  unfold Fn at h
  split at h
  · rename_i c hb
    unfold body at h
    cases hl : Nat.ble args.length fn.ntmps with
    | false => rw [hl] at h; exact h.elim
    | true =>
      rw [hl] at h
      have hl' : args.length ≤ fn.ntmps := Nat.le_of_ble_eq_true hl
      simp only [cond_true] at h
      split at h
      · rename_i t t' r
        cases hro : (allRo r && allV ts && Nat.ble t.cells.length 16) with
        | false => rw [hro] at h; exact h.elim
        | true =>
          rw [hro] at h
          simp only [Bool.and_eq_true] at hro
          exact spec_rw hm hC hf hname hb hl' hro.1.1 hro.1.2 (Nat.le_of_ble_eq_true hro.2) h
      · rename_i t r
        cases hro : (allRo r && Nat.ble t.cells.length 16) with
        | false => rw [hro] at h; exact h.elim
        | true =>
          rw [hro] at h
          simp only [Bool.and_eq_true] at hro
          exact spec_mv hm hC hf hname hb hl' hro.1 h
      · cases hro : allRo args with
        | false => rw [hro] at h; exact h.elim
        | true => rw [hro] at h; exact spec_ro hm hC hf hname hb hl' hro h
  · exact h.elim
theorem inB_get : ∀ {ts : List T} {k j : Nat} {a : A1}, (inB k ts)[j]? = some a → ∃ t, ts[j]? = some t ∧ ((∃ x, t = .v x ∧ a = .v x) ∨ (∃ e es, t = .sl e es ∧ a = .fx (k + j) e es) ∨ a = .any)
  | [], k, j, a, h => by simp [inB] at h
  | t :: ts, k, j, a, h => by
    cases j with
    | zero =>
      simp only [inB, List.getElem?_cons_zero, Option.some.injEq] at h
      refine ⟨t, rfl, ?_⟩
      cases t with
      | v x => exact .inl ⟨x, rfl, h.symm⟩
      | sl e es => exact .inr (.inl ⟨e, es, rfl, h.symm⟩)
      | agg _ => exact .inr (.inr h.symm)
      | cl _ _ => exact .inr (.inr h.symm)
      | rp _ => exact .inr (.inr h.symm)
    | succ j =>
      obtain ⟨t', h1, h2⟩ := inB_get (ts := ts) (k := k + 1) (j := j) (by simpa [inB] using h)
      rw [show k + 1 + j = k + (j + 1) by omega] at h2
      exact ⟨t', by simpa using h1, h2⟩
theorem inB_len : ∀ {ts : List T} {k : Nat}, (inB k ts).length = ts.length
  | [], _ => rfl
  | t :: ts, k => by simp [inB, inB_len (ts := ts)]
theorem eqB_get : ∀ {l : List A1} {ts : List T} {k : Nat}, eqB k l ts → l.length = ts.length ∧ ∀ (j : Nat) (t : T), ts[j]? = some t → ((∃ z, t = T.v z ∧ l[j]? = some (A1.v z)) ∨ (∀ z, t ≠ T.v z) ∧ ∃ e es, l[j]? = some (A1.fx (k + j) e es))
  | [], [], k, _ => ⟨rfl, fun j t h => by simp at h⟩
  | [], _ :: _, _, h => h.elim
  | _ :: _, [], _, h => h.elim
  | a :: l, t :: ts, k, h => by
    obtain ⟨h1, h2⟩ := eqB_get h.2
    refine ⟨by simp [h1], fun j t' ht => ?_⟩
    cases j with
    | zero =>
      simp at ht; subst ht
      have h0 := h.1
      cases t with
      | v z => exact .inl ⟨z, rfl, by rw [show a = .v z from h0]; rfl⟩
      | agg _ => obtain ⟨e, es, rfl⟩ := h0; exact .inr ⟨fun z e => (by cases e), e, es, rfl⟩
      | sl _ _ => obtain ⟨e, es, rfl⟩ := h0; exact .inr ⟨fun z e => (by cases e), e, es, rfl⟩
      | cl _ _ => obtain ⟨e, es, rfl⟩ := h0; exact .inr ⟨fun z e => (by cases e), e, es, rfl⟩
      | rp _ => obtain ⟨e, es, rfl⟩ := h0; exact .inr ⟨fun z e => (by cases e), e, es, rfl⟩
    | succ j =>
      have := h2 j t' (by simpa using ht)
      rw [show k + 1 + j = k + (j + 1) by omega] at this
      simpa using this
/-- A body whose first parameter is a pointer to a struct. -/
theorem spec_px (hm : P.follows .mixedOrders = true) (hC : CtxOk P C) {f : Nat} {fn : Func} {ts ts' az rs : List T} (hf : P.funcs[f]? = some fn) (hname : (fn.name == "runtime.NumGoroutine") = false) {c : Code} (hb : fn.body = some c) (hn : az.length + 1 ≤ fn.ntmps)
    (h : awp C c (enterR 1 az (((⟨fn.ntmps, [], []⟩ : St).set 500 (.box 0 (inB 0 ts))).put (some 0) (.c (.bx 500 0 0)))) (fun e s => match e with
      | .exit _ => False
      | _ => outs C fn.results.toList s fun xs s' => xs = rs ∧ ts'.length = ts.length ∧ match look s'.ob 500 with
        | some (.box q l) => eqB 0 l ts'
        | _ => False)) : SpecP P f ts ts' az rs := by
  refine ⟨⟨fn, hf, hname, by rw [hb]; rfl⟩, fun w b te cur vals hR hcell hcur hvn hvals => ?_⟩
  refine calls_of_wp hf hb ?_
  let pv : List Value := Value.pointer (some ⟨b, 0, none⟩) :: vals
  let tmps : Array Value := pv.toArray ++ Array.replicate (fn.ntmps - pv.toArray.size) undef
  have hpl : pv.length = az.length + 1 := by simp [pv, hvn]
  have hsz : tmps.size = fn.ntmps := by simp [tmps]; omega
  have hget : ∀ j, j < pv.length → tmps.getD j undef = pv.getD j undef := fun j hj => by
    simp [tmps, Array.getD_eq_getD_getElem?, List.getD_eq_getElem?_getD, Array.getElem?_append_left, hj]
  have hblt : b < w.heap.size := hR.lt b rfl
  have hs1 : Sim ⟨w, fun x => x = b, 1, fun _ => b, fun _ => undef, fun d x => d = 500 ∧ x = b, fun j => cur.getD j undef⟩ ((⟨fn.ntmps, [], []⟩ : St).set 500 (.box 0 (inB 0 ts))) ⟨tmps, []⟩ w := by
    refine { size := hsz, defers := rfl, tm := fun _ => ⟨trivial, lt_c trivial⟩, up := Up.refl _, old := fun _ _ _ => rfl, Rlt := hR, ob := fun d x hx => ?_, own := fun d x hx => ?_, apart := fun d d' x hx hx' => hx.1.trans hx'.1.symm }
    · rw [set_ob] at hx
      split at hx
      · rename_i hd; subst hd
        cases hx
        refine ⟨Nat.lt_succ_self 0, ⟨cur, te, hcell, by rw [inB_len]; exact hcur.1, fun j a ha => ?_⟩, ⟨rfl, rfl⟩, fun a ha => ?_⟩
        · obtain ⟨t, ht, hc⟩ := inB_get ha
          have hr := hcur.2 j t ht
          refine ⟨?_, hr.one⟩
          rcases hc with ⟨x, rfl, rfl⟩ | ⟨e, es, rfl, rfl⟩ | rfl
          · generalize cur.getD j undef = z at hr
            cases hr with
            | v h => exact ⟨rfl, h⟩
          · exact ⟨by rw [Nat.zero_add], hr⟩
          · trivial
        · obtain ⟨j, hj⟩ := List.getElem?_of_mem ha
          obtain ⟨t, ht, hc⟩ := inB_get hj
          rcases hc with ⟨x, rfl, rfl⟩ | ⟨e, es, rfl, rfl⟩ | rfl <;> trivial
      · simp [look] at hx
    · obtain ⟨rfl, rfl⟩ := hx; exact ⟨hblt, .inr rfl⟩
  have hs2 := hs1.learn (d := 0) (x := .c (.bx 500 0 0)) (by
    show V1 _ w _ (.bx 500 0 0) (tmps.getD 0 undef)
    rw [hget 0 (by omega)]
    exact ⟨rfl, fun _ => rfl⟩) (lt_c (Nat.lt_succ_self 0))
  obtain ⟨hs3, _⟩ := enterR_out (ts := az) (i := 1) hs2 (fun j t ht => by
    have hj : j < az.length := (List.getElem?_eq_some_iff.1 ht).1
    show Rd2 w _ t (tmps.getD (1 + j) undef)
    rw [hget (1 + j) (by omega), Nat.add_comm 1 j]
    have e1 : pv.getD (j + 1) undef = vals.getD j undef := by simp [pv]
    rw [e1]
    exact hvals j t ht)
  have fin : ∀ {s' : St} {G2 : Gh} {a' : Act} {w' : World}, Keep ⟨w, fun x => x = b, 1, fun _ => b, fun _ => undef, fun d x => d = 500 ∧ x = b, fun j => cur.getD j undef⟩ G2 → (outs C fn.results.toList s' fun xs s'' => xs = rs ∧ ts'.length = ts.length ∧ match look s''.ob 500 with
        | some (.box q l) => eqB 0 l ts'
        | _ => False) → Sim G2 s' a' w' → a'.defers = [] ∧ ∃ v, (results fn a'.tmps).run P w' = .ok v w' ∧ RetP w b cur ts' rs (.returned v) w' := by
    intro s' G2 a' w' hk hq hs'
    obtain ⟨xs, s1, G1, x, S, ⟨rfl, hlen, hq⟩, hg, hr, hout, hfree⟩ := results_out hC (fn := fn) hs' hq
    have hw2 : G2.w0 = w := hk.w0
    have hR2 : G2.R = fun x => x = b := hk.R
    have hβ : G1.β 500 = b := by rw [hg.β]; exact hk.β 500 (by decide)
    have hfx : G1.fx = fun j => cur.getD j undef := hg.keep.fx.trans hk.fx
    split at hq
    · rename_i q l hl
      obtain ⟨_, ⟨vs, te', hc', hvs⟩, hS', _⟩ := hg.sim.ob 500 _ hl
      rw [hβ] at hc' hS'
      obtain ⟨hel, heq⟩ := eqB_get hq
      refine ⟨hs'.defers, x, hr, x, S, vs, te', rfl, hout, fun k hk' => ?_, hc', by rw [hvs.1, hel, hlen]; exact hcur.1.symm, by rw [hlen]; exact hcur.1.symm, fun j t ht => ?_, by have := hs'.up; rwa [hw2] at this, fun k hk' hne => by have := hs'.old k (by rw [hw2]; exact hk') (by rw [hR2]; exact hne); rw [this, hw2]⟩
      · obtain ⟨d, hd⟩ := hfree.was k hk'
        have := hs'.own d k hd
        rw [hw2, hR2] at this
        refine ⟨this.2.elim id (fun e => ?_), this.1⟩
        have e' : k = b := e
        subst e'
        exact absurd hS' (hfree.now k 500 hk')
      · rcases heq j t ht with ⟨z, rfl, hz⟩ | ⟨hno, e, es, hz⟩
        · have h1 : vs.getD j undef = z ∧ (vs.getD j undef).oneCell' = true := (hvs.2 j _ hz).1
          exact ⟨h1.1, by rw [← h1.1]; exact h1.2⟩
        · have h1 := (hvs.2 j _ hz).1.1
          rw [hfx, Nat.zero_add] at h1
          cases t with
          | v z => exact absurd rfl (hno z)
          | agg _ => exact h1
          | sl _ _ => exact h1
          | cl _ _ => exact h1
          | rp _ => exact h1
    · exact hq.elim
  refine awp_sound hm hC c hs3 h (fun e s' G2 a' w' hk hq hs' => ?_)
  cases e with
  | normal => exact fin hk hq hs'
  | exit i => exact hq.elim
  | ret => exact fin hk hq hs'
theorem enterF_out : ∀ {ts : List T} {i : Nat} {s : St}, Sim G s a w → (∀ j t, ts[j]? = some t → Rd2 G.w0 G.Z t (a.tmps.getD (i + j) undef) ∧ a.tmps.getD (i + j) undef = G.fx (i + j)) → Sim G (enterF i ts s) a w
  | [], i, s, hs, h => hs
  | t :: ts, i, s, hs, h => by
    obtain ⟨h1, h2⟩ := h 0 t rfl
    have h3 := a2_V (w := w) (s := s) h1
    have hs' : Sim G (s.put (some i) (fxV i t)) a w := by
      cases t with
      | sl e es => exact hs.learn (d := i) (x := .c (.fx i e es)) ⟨h2, h1⟩ (lt_c trivial)
      | v x => exact hs.learn (d := i) (x := .o (T.v x).a2) h3.1 h3.2
      | agg l => exact hs.learn (d := i) (x := .o (T.agg l).a2) h3.1 h3.2
      | cl g x => exact hs.learn (d := i) (x := .o (T.cl g x).a2) h3.1 h3.2
      | rp x => exact hs.learn (d := i) (x := .o (T.rp x).a2) h3.1 h3.2
    exact enterF_out (ts := ts) (i := i + 1) hs' (fun j t ht => by
      have := h (j + 1) t (by simpa using ht)
      rwa [show i + (j + 1) = i + 1 + j by omega] at this)
theorem eqN_get : ∀ {l : List A1} {cs : List (Value ⊕ Nat)}, eqN l cs → l.length = cs.length ∧ ∀ (j : Nat) (c : Value ⊕ Nat), cs[j]? = some c → (match c with | .inl z => l[j]? = some (.v z) | .inr i => ∃ e es, l[j]? = some (.fx i e es))
  | [], [], _ => ⟨rfl, fun j c h => by simp at h⟩
  | [], _ :: _, h => h.elim
  | _ :: _, [], h => h.elim
  | a :: l, c :: cs, h => by
    obtain ⟨h1, h2⟩ := eqN_get h.2
    refine ⟨by simp [h1], fun j c' hc => ?_⟩
    cases j with
    | zero =>
      simp at hc; subst hc
      have h0 := h.1
      cases c with
      | inl z => show (a :: l)[0]? = _; rw [show a = .v z from h0]; rfl
      | inr i => obtain ⟨e, es, rfl⟩ := h0; exact ⟨e, es, rfl⟩
    | succ j => simpa using h2 j c' (by simpa using hc)
/-- A body that hands back a pointer to a new struct. -/
theorem spec_nw (hm : P.follows .mixedOrders = true) (hC : CtxOk P C) {f : Nat} {fn : Func} {az : List T} {cs : List (Value ⊕ Nat)} (hf : P.funcs[f]? = some fn) (hname : (fn.name == "runtime.NumGoroutine") = false) {c : Code} (hb : fn.body = some c) (hn : az.length ≤ fn.ntmps)
    (h : awp C c (enterF 0 az ⟨fn.ntmps, [], []⟩) (fun e s => match e with
      | .exit _ => False
      | _ => match fn.results.toList with
        | [.tmp t] => (match s.get t with
          | .o (.c (.bx d q 0)) => (match look s.ob d with
            | some (.box q' l) => q' = q ∧ eqN l cs
            | _ => False)
          | _ => False)
        | _ => False)) : SpecN P f az cs := by
  refine ⟨⟨fn, hf, hname, by rw [hb]; rfl⟩, fun w vals hR hvn hvals => ?_⟩
  refine calls_of_wp hf hb ?_
  let tmps : Array Value := vals.toArray ++ Array.replicate (fn.ntmps - vals.toArray.size) undef
  have hsz : tmps.size = fn.ntmps := by simp [tmps]; omega
  have hget : ∀ j, j < vals.length → tmps.getD j undef = vals.getD j undef := fun j hj => by
    simp [tmps, Array.getD_eq_getD_getElem?, List.getD_eq_getElem?_getD, Array.getElem?_append_left, hj]
  have hs1 : Sim ⟨w, fun _ => False, 0, fun _ => 0, fun _ => undef, fun _ _ => False, fun j => vals.getD j undef⟩ ⟨fn.ntmps, [], []⟩ ⟨tmps, []⟩ w :=
    { size := hsz, defers := rfl, tm := fun _ => ⟨trivial, lt_c trivial⟩, up := Up.refl _, old := fun _ _ _ => rfl, Rlt := hR, ob := fun d x hx => by simp [look] at hx, own := fun d x hx => hx.elim, apart := fun _ _ _ h => h.elim }
  have hs3 := enterF_out (ts := az) (i := 0) hs1 (fun j t ht => by
    have hj : j < az.length := (List.getElem?_eq_some_iff.1 ht).1
    rw [Nat.zero_add]
    show Rd2 w _ t (tmps.getD j undef) ∧ tmps.getD j undef = _
    rw [hget j (by omega)]
    exact ⟨hvals j t ht, rfl⟩)
  have fin : ∀ {s' : St} {G2 : Gh} {a' : Act} {w' : World}, Keep ⟨w, fun _ => False, 0, fun _ => 0, fun _ => undef, fun _ _ => False, fun j => vals.getD j undef⟩ G2 → (match fn.results.toList with
        | [.tmp t] => (match s'.get t with
          | .o (.c (.bx d q 0)) => (match look s'.ob d with
            | some (.box q' l) => q' = q ∧ eqN l cs
            | _ => False)
          | _ => False)
        | _ => False) → Sim G2 s' a' w' → a'.defers = [] ∧ ∃ v, (results fn a'.tmps).run P w' = .ok v w' ∧ RetN w vals cs (.returned v) w' := by
    intro s' G2 a' w' hk hq hs'
    have hw2 : G2.w0 = w := hk.w0
    have hR2 : G2.R = fun _ => False := hk.R
    have hfx : G2.fx = fun j => vals.getD j undef := hk.fx
    split at hq
    · rename_i t hres
      split at hq
      · rename_i d q ht
        split at hq
        · rename_i q' l hl
          obtain ⟨rfl, hq⟩ := hq
          have hv := (hs'.tm t).1
          rw [ht] at hv
          have hv' : V1 G2 w' s'.ob (.bx d q' 0) (a'.tmps.getD t undef) := hv
          have hp := hv'.2 ⟨l, hl⟩
          obtain ⟨_, ⟨vs, te', hc', hvs⟩, hS', _⟩ := hs'.ob d _ hl
          obtain ⟨hel, heq⟩ := eqN_get hq
          have hres' : fn.results = #[.tmp t] := by rw [← Array.toArray_toList (xs := fn.results), hres]
          have hown := hs'.own d _ hS'
          rw [hw2, hR2] at hown
          refine ⟨hs'.defers, .pointer (some ⟨G2.β d, 0, none⟩), ?_, G2.β d, te', vs, rfl, hown.2.elim id (fun h => h.elim), hc', by rw [hvs.1, hel], fun j c hc => ?_, by have := hs'.up; rwa [hw2] at this, fun k hk' => by have := hs'.old k (by rw [hw2]; exact hk') (by rw [hR2]; exact fun h => h); rw [this, hw2]⟩
          · rw [← hp]
            unfold results
            rw [hres']
            simp
          · have h1 := heq j c hc
            cases c with
            | inl z => exact (hvs.2 j _ h1).1.1
            | inr i =>
              obtain ⟨e, es, h1⟩ := h1
              have := (hvs.2 j _ h1).1.1
              rw [hfx] at this
              exact this
        · exact hq.elim
      · exact hq.elim
    · exact hq.elim
  refine awp_sound hm hC c hs3 h (fun e s' G2 a' w' hk hq hs' => ?_)
  cases e with
  | normal => exact fin hk hq hs'
  | exit i => exact hq.elim
  | ret => exact fin hk hq hs'
theorem specP_fn (hm : P.follows .mixedOrders = true) (hC : CtxOk P C) {f : Nat} {fn : Func} {ts ts' az rs : List T} (hf : P.funcs[f]? = some fn) (hname : (fn.name == "runtime.NumGoroutine") = false) (h : FnP C fn ts ts' az rs) : SpecP P f ts ts' az rs := by
  unfold FnP at h
  split at h
  · rename_i c hb
    cases hl : Nat.ble (az.length + 1) fn.ntmps with
    | false => rw [hl] at h; exact h.elim
    | true => rw [hl] at h; exact spec_px hm hC hf hname hb (Nat.le_of_ble_eq_true hl) h
  · exact h.elim
theorem specN_fn (hm : P.follows .mixedOrders = true) (hC : CtxOk P C) {f : Nat} {fn : Func} {az : List T} {cs : List (Value ⊕ Nat)} (hf : P.funcs[f]? = some fn) (hname : (fn.name == "runtime.NumGoroutine") = false) (h : FnN C fn az cs) : SpecN P f az cs := by
  unfold FnN at h
  split at h
  · rename_i c hb
    cases hl : Nat.ble az.length fn.ntmps with
    | false => rw [hl] at h; exact h.elim
    | true => rw [hl] at h; exact spec_nw hm hC hf hname hb (Nat.le_of_ble_eq_true hl) h
  · exact h.elim
def ZTL : List Value → List T → Prop
  | [], [] => True
  | x :: xs, t :: ts => ZT x t ∧ ZTL xs ts
  | _, _ => False
theorem ztl_out : ∀ {xs : List Value} {ts : List T}, ZTL xs ts → ts.length = xs.length ∧ ∀ (j : Nat) (x : Value) (t : T), xs[j]? = some x → ts[j]? = some t → ZT x t
  | [], [], _ => ⟨rfl, fun j x t h => by simp at h⟩
  | x :: xs, t :: ts, h => by
    obtain ⟨h1, h2⟩ := ztl_out h.2
    refine ⟨by simp [h1], fun j y u hy hu => ?_⟩
    cases j with
    | zero => simp at hy hu; subst hy; subst hu; exact h.1
    | succ j => exact h2 j y u (by simpa using hy) (by simpa using hu)
  | [], _ :: _, h => h.elim
  | _ :: _, [], h => h.elim
theorem TIok.mk1 {P : Program} {t : Nat} {i : TI} (z : Value) (d : TypeDesc) (h : (P.info? t).map (fun j => (j.size, j.bytes, j.zero)) = some (i.sz, i.bytes, some z)) (hz : z.cells.toList = i.zero) (ha : if i.agg then z = .agg i.zero.toArray else ∃ x, i.zero = [x] ∧ z = x) (hl : i.zero.length = i.sz)
    (h1 : i.zero.all (·.oneCell') = true) (hzt : ZTL i.zero i.zt) (hb : i.bytes ≤ 1024) (hu : P.underlying t = some d) (hr : d.isRow = i.agg)
    (hd : match i.d with
      | .int k => d = .int k
      | .bool => d = .bool
      | .str => d = .string
      | .sl e => d = .slice e
      | .st fs => ∃ fa : Array Field, d = .struct fa ∧ fa.toList.map (fun f => (f.offset, f.type)) = fs
      | _ => True) : TIok P t i where
  info := by
    cases hj : P.info? t with
    | none => rw [hj] at h; cases h
    | some j =>
      rw [hj] at h
      simp only [Option.map_some, Option.some.injEq, Prod.mk.injEq] at h
      exact ⟨j, z, rfl, h.1, h.2.1, h.2.2, hz, ha⟩
  len := hl
  one x hx := List.all_eq_true.1 h1 x hx
  zt := ztl_out hzt
  bytes := hb
  desc := ⟨d, hu, hr, hd⟩
def TTall (P : Program) : TT → Prop
  | [] => True
  | (t, i) :: r => TIok P t i ∧ TTall P r
theorem tt_out : ∀ {tt : TT}, TTall P tt → ∀ t i, look tt t = some i → TIok P t i
  | [], _, t, i, h => by simp [look] at h
  | (k, x) :: r, hh, t, i, h => by
    rw [look_cons] at h
    split at h
    · rename_i hk; cases h; subst hk; exact hh.1
    · exact tt_out hh.2 t i h
end
end Go.Proofs.Ytadpancnhinlbaa.E
