/- Calls. -/
import Derived.Test.YtadpancnhinlbaaEOps7
namespace Go.Proofs.Ytadpancnhinlbaa.E
set_option linter.unusedVariables false
set_option linter.unusedSimpArgs false
section
variable {P : Program} {C : Ctx} {G : Gh} {w : World} {s : St} {a : Act} {o : Oper} {K : St → Prop} {Q : Exit → Act → World → Prop}

/-- The blocks that the function may read. -/
def Zs (G : Gh) (b : Nat) : Prop := G.Z b ∨ ∃ d, G.S d b
theorem zs_lt (hs : Sim G s a w) {b : Nat} (h : Zs G b) : b < w.heap.size := by
  rcases h with h | ⟨d, h⟩
  · have := h.1; have := hs.grown; omega
  · exact (hs.own d b h).1
theorem Rd2.sup {t : T} {y : Value} {Z Z' : Nat → Prop} (h : Rd2 w Z t y) (hz : ∀ b, Z b → Z' b) : Rd2 w Z' t y := by
  cases t with
  | agg l => obtain ⟨vs, h1, h2, h3⟩ := h; exact ⟨vs, h1, h2, fun j c hc => (h3 j c hc).sup hz⟩
  | v x => exact Rd.sup h hz
  | sl e l => exact Rd.sup h hz
  | cl g x => exact Rd.sup h hz
  | rp x => exact Rd.sup h hz
theorem flat_take {es : List T} {e : Nat} (he : ∀ t ∈ es, t.cells.length = e) {l h : Nat} (hl : l ≤ h) (hh : h ≤ es.length) {j : Nat} {ct : T} (hj : (flat ((es.take h).drop l))[j]? = some ct) : (flat es)[l * e + j]? = some ct ∧ j < (h - l) * e := by
  have h1 : flat es = flat (es.take l) ++ (flat ((es.take h).drop l) ++ flat (es.drop h)) := by
    have : es = es.take l ++ ((es.take h).drop l ++ es.drop h) := by
      have h2 : es.take l = (es.take h).take l := by rw [List.take_take, Nat.min_eq_left hl]
      rw [← List.append_assoc, h2, List.take_append_drop, List.take_append_drop]
    conv => lhs; rw [this]
    simp [flat]
  have hlen : (flat (es.take l)).length = l * e := by rw [flat_len (fun t ht => he t (List.mem_of_mem_take ht)), List.length_take, Nat.min_eq_left (by omega)]
  have hlen2 : (flat ((es.take h).drop l)).length = (h - l) * e := by rw [flat_len (fun t ht => he t (List.mem_of_mem_take (List.mem_of_mem_drop ht))), List.length_drop, List.length_take, Nat.min_eq_left hh]
  have hlt : j < (flat ((es.take h).drop l)).length := (List.getElem?_eq_some_iff.1 hj).1
  refine ⟨?_, by omega⟩
  rw [h1, List.getElem?_append_right (by omega), hlen, Nat.add_sub_cancel_left, List.getElem?_append_left hlt]
  exact hj
theorem rd1_out {c : A1} {y : Value} {K' : T → Prop} (hs : Sim G s a w) (hv : V1 G w s.ob c y) (h : rd1 s c K') : ∃ t, K' t ∧ Rd w (Zs G) t y ∧ t.cells = [t] := by
  unfold rd1 at h
  split at h
  · obtain ⟨e, h⟩ := h
    rw [hv.1]
    exact ⟨_, h, .nil, rfl⟩
  · rw [hv.1]
    exact ⟨_, h, .v (hv.1 ▸ hv.2), rfl⟩
  · rename_i e es
    have hv' : Rd G.w0 G.Z (.sl e es) y := hv
    exact ⟨_, h, (hv'.move (fun b hb => hs.old b hb.1 hb.2)).sup (fun b hb => .inl hb), rfl⟩
  · rename_i d q
    split at h
    · rename_i q' sv e es hr
      obtain ⟨rfl, h⟩ := h
      have hy := hv.2 ⟨sv, e, es, hr⟩
      refine ⟨_, h, ?_, rfl⟩
      rw [hy]
      exact (hs.ob d _ hr).2.rd.sup (fun b hb => .inr ⟨d, hb⟩)
    · exact h.elim
  · rename_i d q sv j
    split at h
    · rename_i q' sv' e es hr
      obtain ⟨rfl, rfl, t, ht, h⟩ := h
      obtain ⟨S, how, hS⟩ := sub_ow hs hv hr ht
      exact ⟨t, h, how.rd.sup (fun b hb => .inr ⟨d, hS b hb⟩), how.cells⟩
    · exact h.elim
  · rename_i j e es
    exact ⟨_, h, (hv.2.move (fun b hb => hs.old b hb.1 hb.2)).sup (fun b hb => .inl hb), rfl⟩
  · rename_i g x
    have hv' : Rd G.w0 G.Z (.cl g x) y := hv
    exact ⟨_, h, (hv'.move (fun b hb => hs.old b hb.1 hb.2)).sup (fun b hb => .inl hb), rfl⟩
  · rename_i g d q
    split at h
    · rename_i q' x hr
      obtain ⟨rfl, h⟩ := h
      have hy := hv.2 ⟨_, hr⟩
      obtain ⟨_, ⟨vs, te, hc, hvs⟩, hS, _⟩ := hs.ob d _ hr
      have h0 := hvs.2 0 _ rfl
      have hlen : vs.length = 1 := hvs.1
      obtain ⟨z, rfl⟩ := List.length_eq_one_iff.1 hlen
      have hz : z = x := h0.1.1
      subst hz
      refine ⟨_, h, ?_, rfl⟩
      rw [hy]
      exact .cl (.inr ⟨d, hS⟩) (by rw [cell_arr hc]; rfl) h0.1.2
    · exact h.elim
  · rename_i d q e l hh
    split at h
    · rename_i q' sv e' es hr
      obtain ⟨rfl, rfl, h⟩ := h
      obtain ⟨A, n, c, hy, hyv, hl, hn⟩ := hv.2 ⟨sv, es, hr⟩
      have how := (hs.ob d _ hr).2
      refine ⟨_, h, ?_, rfl⟩
      rw [hyv]
      rw [hy] at how
      cases how with
      | nil =>
        have e1 : hh - l = 0 := by omega
        unfold sliced
        rw [e1]; simp
        split <;> exact .nil
      | @row _ g o' _ cur te _ Ss S h1 h2 h3 h4 h5 h6 h7 h8 h9 =>
        have hlen : ((es.take hh).drop l).length = hh - l := by simp; omega
        have hcap : es.length * e' ≤ c * e' := Nat.mul_le_mul_right _ h2
        unfold sliced
        by_cases hcl : c = l
        · rw [if_pos hcl]
          have : (es.take hh).drop l = [] := List.eq_nil_of_length_eq_zero (by omega)
          rw [this, show hh - l = 0 by omega]
          exact .nil
        rw [if_neg hcl]
        have hmk : Value.slice (Option.map (fun a : Addr => a.add (l * e')) (some (⟨g, o', none⟩ : Addr))) (hh - l) (c - l) = .slice (some ⟨g, o' + l * e', none⟩) ((es.take hh).drop l).length (c - l) := by rw [hlen, Option.map_some, add_mk]
        rw [hmk]
        refine .row (u := fun j => cur.getD (o' + (l * e' + j)) undef) (by rw [hlen]; omega) (.inr ⟨d, h6⟩) (fun t ht => h4 t (List.mem_of_mem_take (List.mem_of_mem_drop ht))) (fun j ct hj => ?_) (fun j ct hj => ?_)
        · obtain ⟨hj1, _⟩ := flat_take h4 hl hn hj
          have hfl := flat_len h4
          have := (List.getElem?_eq_some_iff.1 hj1).1
          rw [add_mk, cell_arr h1, Nat.add_assoc]
          exact getD_arr (by omega)
        · obtain ⟨hj1, _⟩ := flat_take h4 hl hn hj
          exact ((h5 _ ct hj1).rd.sup (h8 _)).sup (fun b hb => .inr ⟨d, hb⟩)
    · exact h.elim
  · exact h.elim
theorem rdL_out : ∀ {l : List A1} {ys : Nat → Value} {K' : List T → Prop}, Sim G s a w → (∀ j c, l[j]? = some c → V1 G w s.ob c (ys j)) → rdL s l K' → ∃ ts, K' ts ∧ ts.length = l.length ∧ ∀ j t, ts[j]? = some t → Rd w (Zs G) t (ys j)
  | [], ys, K', hs, hv, h => ⟨[], h, rfl, fun j t h => by simp at h⟩
  | c :: l, ys, K', hs, hv, h => by
    obtain ⟨t, h, hr, _⟩ := rd1_out hs (hv 0 c rfl) h
    obtain ⟨ts, h, hn, hr2⟩ := rdL_out (ys := fun j => ys (j + 1)) hs (fun j c hc => hv (j + 1) c (by simpa using hc)) h
    refine ⟨t :: ts, h, by simp [hn], fun j t' ht => ?_⟩
    cases j with
    | zero => simp at ht; subst ht; exact hr
    | succ j => exact hr2 j t' (by simpa using ht)
theorem rd2_out {c : A2} {y : Value} {K' : T → Prop} (hs : Sim G s a w) (hv : V2 G w s.ob c y) (h : rd2 s c K') : ∃ t, K' t ∧ Rd2 w (Zs G) t y := by
  cases c with
  | c c =>
    obtain ⟨t, h, hr, hc⟩ := rd1_out hs hv h
    refine ⟨t, h, ?_⟩
    cases hr <;> first | exact .v ‹_› | exact .nil | exact .cl ‹_› ‹_› ‹_› | exact .rp ‹_› ‹_› ‹_› | exact .row ‹_› ‹_› ‹_› ‹_› ‹_›
  | agg l =>
    obtain ⟨vs, rfl, hn, hv⟩ := hv
    obtain ⟨ts, h, hn2, hr⟩ := rdL_out (ys := fun j => vs.getD j undef) hs (fun j c hc => (hv j c hc).1) h
    exact ⟨.agg ts, h, vs, rfl, by omega, hr⟩
theorem argR_out : ∀ {l : List A2} {ys : Nat → Value} {K' : List T → Prop}, Sim G s a w → (∀ j c, l[j]? = some c → V2 G w s.ob c (ys j)) → argR s l K' → ∃ ts, K' ts ∧ ts.length = l.length ∧ ∀ j t, ts[j]? = some t → Rd2 w (Zs G) t (ys j)
  | [], ys, K', hs, hv, h => ⟨[], h, rfl, fun j t h => by simp at h⟩
  | c :: l, ys, K', hs, hv, h => by
    obtain ⟨t, h, hr⟩ := rd2_out hs (hv 0 c rfl) h
    obtain ⟨ts, h, hn, hr2⟩ := argR_out (ys := fun j => ys (j + 1)) hs (fun j c hc => hv (j + 1) c (by simpa using hc)) h
    refine ⟨t :: ts, h, by simp [hn], fun j t' ht => ?_⟩
    cases j with
    | zero => simp at ht; subst ht; exact hr
    | succ j => exact hr2 j t' (by simpa using ht)
theorem evs_out (hs : Sim G s a w) : ∀ {xs : List Operand} {aas : List A2}, evs s xs = some aas → aas.length = xs.length ∧ ∀ j c, aas[j]? = some c → V2 G w s.ob c ((xs.map a.eval).getD j undef) ∧ c.lt G.k
  | [], aas, h => by simp [evs] at h; subst h; exact ⟨rfl, fun j c h => by simp at h⟩
  | x :: xs, aas, h => by
    simp only [evs] at h
    split at h
    · rename_i b l hb hl
      cases h
      have hx := hs.eval x
      rw [hb] at hx
      obtain ⟨hn, hv⟩ := evs_out hs hl
      refine ⟨by simp [hn], fun j c hc => ?_⟩
      cases j with
      | zero => simp at hc; subst hc; exact ⟨hx.1, hx.2⟩
      | succ j => have := hv j c (by simpa using hc); simpa using this
    · cases h
/-- The world grows; what is the state's stands. -/
theorem Sim.world {w' : World} (hs : Sim G s a w) (hg : Up w w') (hw : ∀ b, b < w.heap.size → w'.heap[b]? = w.heap[b]?) : Sim G s a w' := by
  have hgs := hg.size
  have E : Ext G w s.ob G w' s.ob := ext_same hs rfl rfl rfl (Nat.le_refl _) (fun d x q hx _ _ => ⟨hx, rfl, rfl⟩) (fun d b hb _ => hw b (hs.own d b hb).1)
  exact hs.turn rfl (fun _ => rfl) E hg (fun b hb _ => hw b (by have := hs.grown; omega)) (fun d x hx => (hs.ob d x hx).ext E rfl rfl (fun _ => Iff.rfl) (fun b hb => hw b (hs.own d b hb).1)) (fun d b hb => by have := hs.own d b hb; exact ⟨by omega, this.2⟩) hs.apart
theorem run_call {c : Call} {f : Operand} {g : Nat} (ho : o.op = .call c) (hc : c.callee = .value f) (hf : a.eval f = .func (.func g) #[] #[]) (hcal : Callable P g) : (execOp a.eval o).run P w = .ok (.enter g (c.args.toList.map a.eval).toArray) w := by
  obtain ⟨fn, h1, h2, h3⟩ := hcal
  have harr : c.args.map a.eval = (c.args.toList.map a.eval).toArray := Array.ext' (by simp)
  simp only [execOp, ho, resolve, hc, hf, Deferred.ofValue, Sem.run_bind, Sem.run_pure, Result.andThen_ok, invoke, callFunc, program, Sem.run, h1, h2, h3, Array.empty_append, Array.append_empty, harr]
  rfl
theorem wp_call {c : Call} {f : Operand} {g : Nat} {args : List Ar} {rs : List T} {R : Nat → Prop} {K' : Act → World → Prop} (ho : o.op = .call c) (hc : c.callee = .value f) (hf : a.eval f = .func (.func g) #[] #[]) (hsp : Spec P g args rs) (hR : RInv w R) (ha : Args w R args (c.args.toList.map a.eval))
    (h : ∀ x w', Ret w R args rs (c.args.toList.map a.eval) (.returned x) w' → K' (a.put o.dst x) w') : o.wp P a w K' Q := by
  unfold Oper.wp
  rw [run_call ho hc hf hsp.1]
  show Calls P g _ w _
  refine (hsp.2 w _ R hR ha).mono fun e w' hr => ?_
  obtain ⟨x, S, Ss, rfl, hrest⟩ := id hr
  exact h x w' hr
theorem op_call_ro {c : Call} {f : Operand} {g : Nat} {aas : List A2} (ho : o.op = .call c) (hc : c.callee = .value f) (hC : CtxOk P C) (hs : Sim G s a w) (hd : okDst o.dst s.n = true) (hf : a.eval f = .func (.func g) #[] #[]) (has : evs s c.args.toList = some aas)
    (h : argR s aas fun ts => ∃ rs, C.Sp g (ts.map .ro) rs ∧ ∀ q, K ((thR (nm o.dst) q s rs).2.put o.dst (thR (nm o.dst) q s rs).1)) : o.wp P a w (After G K) Q := by
  obtain ⟨hn, hv⟩ := evs_out hs has
  obtain ⟨ts, ⟨rs, hsp, h⟩, hn2, hr⟩ := argR_out hs (fun j c hc => (hv j c hc).1) h
  have hn' : aas.length = c.args.size := by simpa using hn
  refine wp_call (R := fun _ => False) ho hc hf (hC.sp _ _ _ hsp) (hs.toR (fun _ h => h.elim)) ⟨by simp; omega, fun _ _ => False, fun _ _ h => h, fun _ _ _ h => h.elim, fun i x hx => ?_⟩ (fun x w' hret => ?_)
  · rw [List.getElem?_map, Option.map_eq_some_iff] at hx
    obtain ⟨t, ht, rfl⟩ := hx
    have := (hr i t ht).sup (fun b hb => zs_lt hs hb)
    simpa using this
  · obtain ⟨x', S, Ss, he, hout, _, hS, _, _, _, hgr, hold⟩ := hret
    cases he
    have hs' := hs.world hgr (fun b hb => hold b hb (fun h => h))
    obtain ⟨G', hk, hs2, hv2, hl2, hn2⟩ := thR_out (q := G.k) (d := nm o.dst) hs' (Nat.le_refl _) (nm_ge _) hout (fun b hb => by
      have := hS b hb
      have h0 := this.1.elim id (fun h => h.2.elim)
      exact ⟨this.2, .inl (by have := hs.grown; omega), fun d hd => by have := (hs.own d b hd).1; omega⟩)
    exact after_of (hs2.put (by rw [hn2]; exact hd) hv2 hl2) hk (h G.k)
theorem op_call_roC {c : Call} {f : Operand} {g : Nat} {aas : List A2} (ho : o.op = .call c) (hc : c.callee = .value f) (hC : CtxOk P C) (hs : Sim G s a w) (hd : okDst o.dst s.n = true) (hf : a.eval f = .func (.func g) #[] #[]) (has : evs s c.args.toList = some aas)
    (h : argR s aas fun ts => ∃ rs, C.Sp g (ts.map .ro) rs ∧ ∀ q, K ((thR (nm o.dst) q s rs).2.put o.dst (thR (nm o.dst) q s rs).1)) : o.wp P a w (Calm G K w) Q := by
  obtain ⟨hn, hv⟩ := evs_out hs has
  obtain ⟨ts, ⟨rs, hsp, h⟩, hn2, hr⟩ := argR_out hs (fun j c hc => (hv j c hc).1) h
  have hn' : aas.length = c.args.size := by simpa using hn
  refine wp_call (R := fun _ => False) ho hc hf (hC.sp _ _ _ hsp) (hs.toR (fun _ h => h.elim)) ⟨by simp; omega, fun _ _ => False, fun _ _ h => h, fun _ _ _ h => h.elim, fun i x hx => ?_⟩ (fun x w' hret => ?_)
  · rw [List.getElem?_map, Option.map_eq_some_iff] at hx
    obtain ⟨t, ht, rfl⟩ := hx
    have := (hr i t ht).sup (fun b hb => zs_lt hs hb)
    simpa using this
  · obtain ⟨x', S, Ss, he, hout, _, hS, _, _, _, hgr, hold⟩ := hret
    cases he
    have hs' := hs.world hgr (fun b hb => hold b hb (fun h => h))
    obtain ⟨G', hk, hs2, hv2, hl2, hn2⟩ := thR_out (q := G.k) (d := nm o.dst) hs' (Nat.le_refl _) (nm_ge _) hout (fun b hb => by
      have := hS b hb
      have h0 := this.1.elim id (fun h => h.2.elim)
      exact ⟨this.2, .inl (by have := hs.grown; omega), fun d hd => by have := (hs.own d b hd).1; omega⟩)
    exact ⟨after_of (hs2.put (by rw [hn2]; exact hd) hv2 hl2) hk (h G.k), hgr, fun b hb => hold b hb (fun h => h)⟩
theorem op_conv2 {t t' : Nat} {x : Operand} (ho : o.op = .convert t t' x) (hC : CtxOk P C) (hs : Sim G s a w) (hd : okDst o.dst s.n = true) (h : aop C (.convert t t' x) o.dst s K) : o.wp P a w (After G K) Q := by
  cases hb : TD.isStr (look C.tt t') with
  | false => exact op_conv hb ho hC hs hd h
  | true =>
    simp only [aop] at h
    replace h := opr_out hs h
    obtain ⟨c, h, hv, -⟩ := h
    rw [hb, cond_true] at h
    have hu := tt_str hC hb
    have fin : ∀ {z : Value}, (convert t t' (a.eval x)).run P w = .ok z w → z.oneCell' = true → K (s.put o.dst (.vv z)) → o.wp P a w (After G K) Q := by
      intro z hr hone hk
      refine wp_val (y := z) (w' := w) ?_ (after_val hs hd (x := .vv z) ⟨rfl, hone⟩ (lt_c trivial) hk)
      simp only [execOp, ho, Sem.run_bind, hr, Result.andThen_ok, Sem.run_pure]
    unfold cvS at h
    cases hy : TD.isBy C.tt t with
    | false =>
      rw [hy, cond_false] at h
      split at h
      · obtain ⟨h1, h⟩ := h
        refine fin ?_ rfl h
        rw [hv.1]
        obtain ⟨i, hi⟩ := Option.isSome_iff_exists.1 h1
        obtain ⟨d, hd', _⟩ := (hC.tt t i hi).desc
        exact run_convert_int_string w t t' _ _ (by rw [hd']; rfl) hu
      · exact h.elim
    | true =>
      rw [hy, cond_true] at h
      obtain ⟨tr, h, hr, _⟩ := rd1_out hs hv h
      have hby : ∃ e, P.underlying t = some (.slice e) ∧ P.underlying e = some (.int .u8) := by
        unfold TD.isBy at hy
        split at hy
        · rename_i j1 j2 j3 j4 j5 e hi
          split at hy
          · rename_i k1 k2 k3 k4 k5 hi'
            obtain ⟨d, hd1, _, hd2⟩ := (hC.tt t _ hi).desc
            obtain ⟨d', hd3, _, hd4⟩ := (hC.tt e _ hi').desc
            simp only at hd2 hd4
            subst hd2; subst hd4
            exact ⟨e, hd1, hd3⟩
          · cases hy
        · cases hy
      obtain ⟨e, he1, he2⟩ := hby
      split at h
      · rename_i e0 es hce
        obtain ⟨l, hes, h⟩ := h
        refine fin ?_ rfl h
        generalize a.eval x = y at hr
        cases hr with
        | nil =>
          rename_i A cap
          have hl : l = [] := List.map_eq_nil_iff.1 hes.symm
          subst hl
          cases A with
          | none => rw [run_convert_bytes_string w t t' e none 0 cap he1 he2 hu]; rfl
          | some ad => exact run_convert_bytes_back w t t' e ad cap [] he1 he2 hu (fun j hj => absurd hj (by simp))
        | row hcap hz hlen hcell hrd =>
          rename_i ad cap u
          have hl : es.length = l.length := by rw [hes, List.length_map]
          have hfl : ∀ (j : Nat) (hj : j < l.length), (flat es)[j]? = some (T.v (.int .u8 l[j].toNat)) := by
            intro j hj
            have : flat es = es := by
              rw [hes]
              unfold flat
              clear hcap hz hlen hcell hrd hes hl h hj
              induction l with
              | nil => rfl
              | cons b l ih => simp [T.cells] at ih ⊢; exact ih
            rw [this, hes, List.getElem?_map, List.getElem?_eq_getElem hj]; rfl
          rw [hl]
          refine run_convert_bytes_back w t t' e ad cap l he1 he2 hu (fun j hj => ?_)
          rw [hcell j _ (hfl j hj)]
          have hz := hrd j _ (hfl j hj)
          generalize u j = z at hz ⊢
          cases hz
          rfl
      · exact h.elim
end
end Go.Proofs.Ytadpancnhinlbaa.E
