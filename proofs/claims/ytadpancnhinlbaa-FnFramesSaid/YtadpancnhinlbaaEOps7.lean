/- Append and calls. -/
import Derived.Test.YtadpancnhinlbaaEOps6
namespace Go.Proofs.Ytadpancnhinlbaa.E
set_option linter.unusedVariables false
set_option linter.unusedSimpArgs false
section
variable {P : Program} {C : Ctx} {G : Gh} {w : World} {s : St} {a : Act} {o : Oper} {K : St → Prop} {Q : Exit → Act → World → Prop}

theorem After.upT {G' : Gh} (hk : Keep G G') {a' : Act} {w' : World} (h : After G' K a' w') : After G K a' w' := by
  obtain ⟨G2, s', hk', hK, hs'⟩ := h
  exact ⟨G2, s', hk.trans hk', hK, hs'⟩
theorem op_append {c : Call} (ho : o.op = .call c) (hc : c.callee = .builtin .append) (hC : CtxOk P C) (hs : Sim G s a w) (hd : okDst o.dst s.n = true) (h : aop C (.call c) o.dst s K) : o.wp P a w (After G K) Q := by
  obtain ⟨cal, args, tys⟩ := c
  simp only at hc
  subst hc
  simp only [aop] at h
  split at h
  · rename_i x y t t' hx ht
    have hx' : args = #[x, y] := by cases args; simp_all
    have ht' : tys = #[t, t'] := by cases tys; simp_all
    subst hx'; subst ht'
    cases hb : Nat.beq t t' with
    | false => rw [hb] at h; exact h.elim
    | true =>
      rw [hb] at h
      have htt : t = t' := Nat.eq_of_beq_eq_true hb
      subst htt
      simp only [cond_true] at h
      split at h
      · rename_i i1 i2 i3 i4 i5 e hi
        split at h
        · rename_i ie hie
          cases hb : Nat.ble 1 ie.sz with
          | false => rw [hb] at h; exact h.elim
          | true =>
            rw [hb] at h
            simp only [cond_true] at h
            replace h := opr_out hs h
            obtain ⟨c1, h, hv1, hl1⟩ := h
            have hu := tt_elem (hC.tt _ _ hi)
            split at h
            · rename_i d q sv jj
              obtain ⟨es, s1, G1, Sb, h, hs1, hk1, hn1, hob, hSb, hSn⟩ := carve_out hs hv1 h
              replace h := opr_out hs1 h
              obtain ⟨c2, h, hv2, hl2⟩ := h
              obtain ⟨fs, s2, G2, u, Sx, h, hg2, hsrc, hfx⟩ := src_out hs1 hv2 h
              obtain ⟨hbd, h⟩ := h
              have hlt : ∀ b, Sb b → b < w.heap.size := fun b hb => (hs.own d b (hSb b hb)).1
              have hlt2 : ∀ j b, Sx j b → b < w.heap.size ∧ ¬ Sb b := fun j b hb => by
                obtain ⟨d', hd'⟩ := (hfx j).was b hb
                exact ⟨(hs1.own d' b hd').1, fun hsb => hSn b d' hsb hd'⟩
              obtain ⟨y', w', S', hr, how, hS', hgr, hold⟩ := append_run (P := P) (ty := o.type) hu (hC.tt _ _ hie) hob hsrc hlt hlt2 hbd
              have hSb2 : ∀ b, Sb b → G1.w0.heap.size ≤ b ∨ G1.R b := fun b hb => by rw [hk1.w0, hk1.R]; exact (hs.own d b (hSb b hb)).2
              refine Oper.wp_mono (fun _ _ h => After.upT hk1 h) (after_rowN (G := G1) (nm_ge _) hs1 hg2 (by rw [hn1]; exact hd) (w' := w') ?_ hgr (fun b hb hR => hold b (by have := hg2.sim.grown; omega) (fun hsb => ?_)) (fun d b _ hb => hold b (hg2.sim.own d b hb).1 (fun hsb => hSn b d hsb (hg2.S d b hb))) how (fun b hb => ?_) h)
              · simp only [execOp, ho, resolve, invoke, builtin, Sem.run_bind, Sem.run_pure, Result.andThen_ok, List.map_toArray, List.map_cons, List.map_nil, hr]
              · have := hSb2 b hsb
                rw [hg2.keep.w0] at hb; rw [hg2.keep.R] at hR
                rcases this with h | h
                · omega
                · exact hR h
              · obtain ⟨h1, h2⟩ := hS' b hb
                rw [hg2.keep.w0, hg2.keep.R]
                refine ⟨h1, ?_⟩
                rcases h2 with h2 | ⟨j, h2⟩ | h2
                · exact ⟨hSb2 b h2, fun d' _ hd' => hSn b d' h2 (hg2.S d' b hd')⟩
                · obtain ⟨d', hd'⟩ := (hfx j).was b h2
                  exact ⟨(hs1.own d' b hd').2, fun d'' _ hd'' => (hfx j).now b d'' h2 hd''⟩
                · exact ⟨.inl (by have := hs1.grown; omega), fun d' _ hd' => absurd (hg2.sim.own d' b hd').1 (by omega)⟩
            · rename_i c1' _
              replace h := opr_out hs h
              obtain ⟨c2, h, hv2, hl2⟩ := h
              obtain ⟨es, s1, G1, Sb, h, hg1, hob, hfb⟩ := base_out hs hv1 h
              obtain ⟨fs, s2, G2, u, Sx, h, hg2, hsrc, hfx⟩ := src_out hg1.sim (V1.ext hg1.ext hl2 hv2) h
              obtain ⟨hbd, h⟩ := h
              have hlt : ∀ b, Sb b → b < w.heap.size := fun b hb => by obtain ⟨d, hd⟩ := hfb.was b hb; exact (hs.own d b hd).1
              have hlt2 : ∀ j b, Sx j b → b < w.heap.size ∧ ¬ Sb b := fun j b hb => by
                obtain ⟨d, hd⟩ := (hfx j).was b hb
                exact ⟨(hg1.sim.own d b hd).1, fun hsb => hfb.now b d hsb hd⟩
              obtain ⟨y', w', S', hr, how, hS', hgr, hold⟩ := append_run (P := P) (ty := o.type) hu (hC.tt _ _ hie) hob hsrc hlt hlt2 hbd
              have hg := hg1.trans hg2
              refine after_rowN (apN_ge _ _) hs hg hd (w' := w') ?_ hgr (fun b hb hR => hold b (by have := hg.sim.grown; omega) (fun hsb => ?_)) (fun d b _ hb => hold b (hg.sim.own d b hb).1 (fun hsb => hfb.now b d hsb (hg2.S d b hb))) how (fun b hb => ?_) h
              · simp only [execOp, ho, resolve, invoke, builtin, Sem.run_bind, Sem.run_pure, Result.andThen_ok, List.map_toArray, List.map_cons, List.map_nil, hr]
              · obtain ⟨d, hd⟩ := hfb.was b hsb
                have := (hs.own d b hd).2
                rw [hg.keep.w0] at hb; rw [hg.keep.R] at hR
                rcases this with h | h
                · omega
                · exact hR h
              · obtain ⟨h1, h2⟩ := hS' b hb
                rw [hg.keep.w0, hg.keep.R]
                refine ⟨h1, ?_⟩
                rcases h2 with h2 | ⟨j, h2⟩ | h2
                · obtain ⟨d, hd⟩ := hfb.was b h2
                  exact ⟨(hs.own d b hd).2, fun d' _ hd' => hfb.now b d' h2 (hg2.S d' b hd')⟩
                · obtain ⟨d, hd⟩ := (hfx j).was b h2
                  have := (hg1.sim.own d b hd).2
                  rw [hg1.keep.w0, hg1.keep.R] at this
                  exact ⟨this, fun d' _ hd' => (hfx j).now b d' h2 hd'⟩
                · exact ⟨.inl (by have := hs.grown; omega), fun d' _ hd' => absurd (hg.sim.own d' b hd').1 (by omega)⟩
        · exact h.elim
      · exact h.elim
  · exact h.elim

/-! ### calls -/
/-- What comes out of a call, named. -/
theorem th1_out {w' : World} {d q : Nat} {t : T} {y : Value} {Sx : Nat → Prop} (hs : Sim G s a w') (hq : G.k ≤ q) {B : Nat} (hd : B ≤ d) (ho : Ow w' t y Sx) (hS : ∀ b, Sx b → b < w'.heap.size ∧ (G.w0.heap.size ≤ b ∨ G.R b) ∧ ∀ d, ¬ G.S d b) :
    ∃ G', KeepB B G G' ∧ Sim G' (th1 d q s t).2 a w' ∧ V1 G' w' (th1 d q s t).2.ob (th1 d q s t).1 y ∧ (th1 d q s t).1.lt G'.k ∧ G'.k ≤ q + 1 ∧ G.k ≤ G'.k ∧ Ext G w' s.ob G' w' (th1 d q s t).2.ob ∧ (∀ e b, G'.S e b → G.S e b ∨ Sx b) ∧ (th1 d q s t).2.n = s.n ∧ y.oneCell' = true := by
  have hone := ho.one
  cases t with
  | v x => 
    refine ⟨G, KeepB.refl G, hs, ?_, trivial, by omega, Nat.le_refl _, Ext.refl _ _ _, fun _ _ h => .inl h, rfl, hone⟩
    cases ho with
    | v h => exact ⟨rfl, h⟩
  | cl g x => cases ho
  | rp x => cases ho
  | agg l => exact ⟨G, KeepB.refl G, hs, trivial, trivial, by omega, Nat.le_refl _, Ext.refl _ _ _, fun _ _ h => .inl h, rfl, hone⟩
  | sl e es =>
    have hs' := hs.row' d 0 q hq (w' := w') (Up.refl _) (fun _ _ _ => rfl) (fun _ _ _ _ => rfl) ho (fun b hb => ⟨(hS b hb).1, (hS b hb).2.1, fun d' _ => (hS b hb).2.2 d'⟩) (Nat.succ_pos _)
    refine ⟨{ G with k := q + 1, y := upd G.y d y, S := upd G.S d Sx }, ⟨rfl, rfl, rfl, fun d' hd' => upd_other _ _ (by omega), fun _ _ => rfl⟩, hs', own_new (w := w') (upd_same _ _ _) hone, Nat.lt_succ_self _, Nat.le_refl _, Nat.le_succ_of_le hq, ?_, fun f b hb => ?_, rfl, hone⟩
    · refine ext_same hs rfl rfl rfl (Nat.le_succ_of_le hq) (fun f x q' hx hv' hq' => ?_) (fun _ _ _ _ => rfl)
      have hx' : look (s.set d (.row q 0 e es)).ob f = some x := hx
      rw [set_ob] at hx'
      split at hx'
      · cases hx'; simp only [Ob.ver, Option.some.injEq] at hv'; omega
      · rename_i hne; exact ⟨hx', rfl, upd_other _ _ (fun h => hne h.symm)⟩
    · have hb' : upd G.S d Sx f b := hb
      by_cases hf : f = d
      · rw [hf, upd_same] at hb'; exact .inr hb'
      · rw [upd_other _ _ hf] at hb'; exact .inl hb'
theorem thL_out {w' : World} {B : Nat} : ∀ {ts : List T} {d q : Nat} {s : St} {G : Gh} {ys : Nat → Value} {Sx : Nat → Nat → Prop}, Sim G s a w' → G.k ≤ q → B ≤ d → (∀ j t, ts[j]? = some t → Ow w' t (ys j) (Sx j)) → (∀ j b, Sx j b → b < w'.heap.size ∧ (G.w0.heap.size ≤ b ∨ G.R b) ∧ ∀ d, ¬ G.S d b) → (∀ i j b, Sx i b → Sx j b → i = j) →
    ∃ G', KeepB B G G' ∧ Sim G' (thL d q ts s).2 a w' ∧ (thL d q ts s).1.length = ts.length ∧ (∀ j x, (thL d q ts s).1[j]? = some x → V1 G' w' (thL d q ts s).2.ob x (ys j) ∧ x.lt G'.k ∧ (ys j).oneCell' = true) ∧ G'.k ≤ q + ts.length ∧ G.k ≤ G'.k ∧ Ext G w' s.ob G' w' (thL d q ts s).2.ob ∧ (∀ e b, G'.S e b → G.S e b ∨ ∃ j, Sx j b) ∧ (thL d q ts s).2.n = s.n
  | [], d, q, s, G, ys, Sx, hs, hq, hd, ho, hS, hap => ⟨G, KeepB.refl G, hs, rfl, fun j x h => by simp [thL] at h, by simpa using hq, Nat.le_refl _, Ext.refl _ _ _, fun _ _ h => .inl h, rfl⟩
  | t :: ts, d, q, s, G, ys, Sx, hs, hq, hd, ho, hS, hap => by
    obtain ⟨G1, hk1, hs1, hv1, hl1, hk1', hkk1, E1, hS1, hn1, hone⟩ := th1_out (q := q) (d := d) hs hq hd (ho 0 t rfl) (hS 0)
    obtain ⟨G2, hk2, hs2, hlen, hv2, hk2', hkk2, E2, hS2, hn2⟩ := thL_out (B := B) (ts := ts) (d := d + 1) (q := q + 1) (ys := fun j => ys (j + 1)) (Sx := fun j => Sx (j + 1)) hs1 hk1' (by omega) (fun j t ht => ho (j + 1) t (by simpa using ht)) (fun j b hb => by
      obtain ⟨h1, h2, h3⟩ := hS (j + 1) b hb
      refine ⟨h1, by rw [hk1.w0, hk1.R]; exact h2, fun e he => ?_⟩
      rcases hS1 e b he with h | h
      · exact h3 e h
      · have := hap _ _ b h hb; omega) (fun i j b hi hj => by have := hap _ _ b hi hj; omega)
    refine ⟨G2, hk1.trans hk2, hs2, by simp only [thL, List.length_cons, hlen], fun j x hx => ?_, by simp only [List.length_cons]; omega, by omega, E1.trans E2, fun e b hb => ?_, hn2.trans hn1⟩
    · cases j with
      | zero =>
        simp only [thL, List.getElem?_cons_zero, Option.some.injEq] at hx
        subst hx
        exact ⟨V1.ext E2 hl1 hv1, A1.lt_mono hkk2 hl1, hone⟩
      | succ j =>
        simp only [thL, List.getElem?_cons_succ] at hx
        exact hv2 j x hx
    · rcases hS2 e b hb with h | ⟨j, h⟩
      · rcases hS1 e b h with h | h
        · exact .inl h
        · exact .inr ⟨0, h⟩
      · exact .inr ⟨j + 1, h⟩
theorem th2_out {w' : World} {d q : Nat} {t : T} {y : Value} {Sx : Nat → Prop} (hs : Sim G s a w') (hq : G.k ≤ q) {B : Nat} (hd : B ≤ d) (ho : Ow2 w' t y Sx) (hS : ∀ b, Sx b → b < w'.heap.size ∧ (G.w0.heap.size ≤ b ∨ G.R b) ∧ ∀ d, ¬ G.S d b) :
    ∃ G', KeepB B G G' ∧ Sim G' (th2 d q s t).2 a w' ∧ V2 G' w' (th2 d q s t).2.ob (th2 d q s t).1 y ∧ (th2 d q s t).1.lt G'.k ∧ G'.k ≤ q + 16 ∧ G.k ≤ G'.k ∧ Ext G w' s.ob G' w' (th2 d q s t).2.ob ∧ (∀ e b, G'.S e b → G.S e b ∨ Sx b) ∧ (th2 d q s t).2.n = s.n := by
  have one : ∀ t : T, Ow w' t y Sx → t.cells = [t] → th2 d q s t = (.c (th1 d q s t).1, (th1 d q s t).2) → ∃ G', KeepB B G G' ∧ Sim G' (th2 d q s t).2 a w' ∧ V2 G' w' (th2 d q s t).2.ob (th2 d q s t).1 y ∧ (th2 d q s t).1.lt G'.k ∧ G'.k ≤ q + 16 ∧ G.k ≤ G'.k ∧ Ext G w' s.ob G' w' (th2 d q s t).2.ob ∧ (∀ e b, G'.S e b → G.S e b ∨ Sx b) ∧ (th2 d q s t).2.n = s.n := by
    intro t ho _ he
    obtain ⟨G1, hk1, hs1, hv1, hl1, hk1', hkk1, E1, hS1, hn1, hone⟩ := th1_out (q := q) (d := d) hs hq hd ho hS
    rw [he]
    exact ⟨G1, hk1, hs1, hv1, fun x hx => by simp [A2.cells] at hx; subst hx; exact hl1, by omega, hkk1, E1, hS1, hn1⟩
  cases t with
  | v x => exact one _ ho rfl rfl
  | sl e es => exact one _ ho rfl rfl
  | cl g x => exact one _ ho rfl rfl
  | rp x => exact one _ ho rfl rfl
  | agg l =>
    obtain ⟨vs, Ss, rfl, ⟨hvn, hv⟩, hsub, hap⟩ := ho
    simp only [th2]
    cases hb : Nat.ble l.length 16 with
    | false => exact ⟨G, KeepB.refl G, hs, trivial, fun x hx => by simp [A2.cells] at hx; subst hx; trivial, by omega, Nat.le_refl _, Ext.refl _ _ _, fun _ _ h => .inl h, rfl⟩
    | true =>
      have hb' : l.length ≤ 16 := Nat.le_of_ble_eq_true hb
      obtain ⟨G1, hk1, hs1, hlen, hv1, hk1', hkk1, E1, hS1, hn1⟩ := thL_out (ts := l) (d := d) (q := q) (ys := fun j => vs.getD j undef) (Sx := Ss) hs hq hd hv (fun j b hb => hS b (hsub j b hb)) hap
      simp only [cond_true]
      refine ⟨G1, hk1, hs1, ⟨vs, rfl, by omega, fun j x hx => ⟨(hv1 j x hx).1, (hv1 j x hx).2.2⟩⟩, fun x hx => ?_, by omega, hkk1, E1, fun e b hb => (hS1 e b hb).imp id (fun ⟨j, h⟩ => hsub j b h), hn1⟩
      obtain ⟨j, hj⟩ := List.getElem?_of_mem hx
      exact (hv1 j x hj).2.1
theorem thT_out {w' : World} {B : Nat} : ∀ {ts : List T} {d q : Nat} {s : St} {G : Gh} {ys : Nat → Value} {Sx : Nat → Nat → Prop}, Sim G s a w' → G.k ≤ q → B ≤ d → (∀ j t, ts[j]? = some t → Ow2 w' t (ys j) (Sx j)) → (∀ j b, Sx j b → b < w'.heap.size ∧ (G.w0.heap.size ≤ b ∨ G.R b) ∧ ∀ d, ¬ G.S d b) → (∀ i j b, Sx i b → Sx j b → i = j) →
    ∃ G', KeepB B G G' ∧ Sim G' (thT d q ts s).2 a w' ∧ (thT d q ts s).1.length = ts.length ∧ (∀ j x, (thT d q ts s).1[j]? = some x → V2 G' w' (thT d q ts s).2.ob x (ys j) ∧ x.lt G'.k) ∧ G.k ≤ G'.k ∧ Ext G w' s.ob G' w' (thT d q ts s).2.ob ∧ (∀ e b, G'.S e b → G.S e b ∨ ∃ j, Sx j b) ∧ (thT d q ts s).2.n = s.n
  | [], d, q, s, G, ys, Sx, hs, hq, hd, ho, hS, hap => ⟨G, KeepB.refl G, hs, rfl, fun j x h => by simp [thT] at h, Nat.le_refl _, Ext.refl _ _ _, fun _ _ h => .inl h, rfl⟩
  | t :: ts, d, q, s, G, ys, Sx, hs, hq, hd, ho, hS, hap => by
    obtain ⟨G1, hk1, hs1, hv1, hl1, hk1', hkk1, E1, hS1, hn1⟩ := th2_out (q := q) (d := d) hs hq hd (ho 0 t rfl) (hS 0)
    obtain ⟨G2, hk2, hs2, hlen, hv2, hkk2, E2, hS2, hn2⟩ := thT_out (B := B) (ts := ts) (d := d + 16) (q := q + 16) (ys := fun j => ys (j + 1)) (Sx := fun j => Sx (j + 1)) hs1 hk1' (by omega) (fun j t ht => ho (j + 1) t (by simpa using ht)) (fun j b hb => by
      obtain ⟨h1, h2, h3⟩ := hS (j + 1) b hb
      refine ⟨h1, by rw [hk1.w0, hk1.R]; exact h2, fun e he => ?_⟩
      rcases hS1 e b he with h | h
      · exact h3 e h
      · have := hap _ _ b h hb; omega) (fun i j b hi hj => by have := hap _ _ b hi hj; omega)
    refine ⟨G2, hk1.trans hk2, hs2, by simp only [thT, List.length_cons, hlen], fun j x hx => ?_, by omega, E1.trans E2, fun e b hb => ?_, hn2.trans hn1⟩
    · cases j with
      | zero =>
        simp only [thT, List.getElem?_cons_zero, Option.some.injEq] at hx
        subst hx
        exact ⟨V2.ext E2 hl1 hv1, A2.lt_mono hkk2 hl1⟩
      | succ j =>
        simp only [thT, List.getElem?_cons_succ] at hx
        exact hv2 j x hx
    · rcases hS2 e b hb with h | ⟨j, h⟩
      · rcases hS1 e b h with h | h
        · exact .inl h
        · exact .inr ⟨0, h⟩
      · exact .inr ⟨j + 1, h⟩
theorem thR_out {w' : World} {d q : Nat} {ts : List T} {y : Value} {Sx : Nat → Prop} (hs : Sim G s a w') (hq : G.k ≤ q) {B : Nat} (hd : B ≤ d) (ho : Outs w' ts y Sx) (hS : ∀ b, Sx b → b < w'.heap.size ∧ (G.w0.heap.size ≤ b ∨ G.R b) ∧ ∀ d, ¬ G.S d b) :
    ∃ G', KeepB B G G' ∧ Sim G' (thR d q s ts).2 a w' ∧ V G' w' (thR d q s ts).2.ob (thR d q s ts).1 y ∧ (thR d q s ts).1.lt G'.k ∧ (thR d q s ts).2.n = s.n := by
  have many : ∀ ts : List T, (∃ (xs : List Value) (Ss : Nat → Nat → Prop), y = .tuple xs.toArray ∧ xs.length = ts.length ∧ (∀ j t, ts[j]? = some t → Ow2 w' t (xs.getD j undef) (Ss j)) ∧ (∀ j b, Ss j b → Sx b) ∧ (∀ i j b, Ss i b → Ss j b → i = j)) → thR d q s ts = (.tup (thT d q ts s).1, (thT d q ts s).2) →
      ∃ G', KeepB B G G' ∧ Sim G' (thR d q s ts).2 a w' ∧ V G' w' (thR d q s ts).2.ob (thR d q s ts).1 y ∧ (thR d q s ts).1.lt G'.k ∧ (thR d q s ts).2.n = s.n := by
    intro ts ho he
    obtain ⟨xs, Ss, hy, hn, hv, hsub, hap⟩ := ho
    obtain ⟨G1, hk1, hs1, hlen, hv1, hkk1, E1, hS1, hn1⟩ := thT_out (ts := ts) (d := d) (q := q) (ys := fun j => xs.getD j undef) (Sx := Ss) hs hq hd hv (fun j b hb => hS b (hsub j b hb)) hap
    rw [he]
    refine ⟨G1, hk1, hs1, ⟨xs, hy, by omega, fun j x hx => (hv1 j x hx).1⟩, fun x hx => ?_, hn1⟩
    obtain ⟨j, hj⟩ := List.getElem?_of_mem hx
    exact (hv1 j x hj).2
  match ts, ho with
  | [], ho => exact many [] ho rfl
  | [t], ho =>
    obtain ⟨G1, hk1, hs1, hv1, hl1, _, _, _, _, hn1⟩ := th2_out (q := q) (d := d) hs hq hd ho hS
    exact ⟨G1, hk1, hs1, hv1, hl1, hn1⟩
  | t :: t' :: ts, ho => exact many _ ho rfl
end
end Go.Proofs.Ytadpancnhinlbaa.E
