/- What is handed on for good; stores; literals of slices. -/
import Derived.Test.YtadpancnhinlbaaEOps2
namespace Go.Proofs.Ytadpancnhinlbaa.E
set_option linter.unusedVariables false
set_option linter.unusedSimpArgs false
section
variable {P : Program} {C : Ctx} {G : Gh} {w : World} {s : St} {a : Act} {o : Oper} {K : St → Prop} {Q : Exit → Act → World → Prop}

theorem Ext.refl (G : Gh) (w : World) (s : Obs) : Ext G w s G w s := ⟨rfl, rfl, rfl, Nat.le_refl _, fun _ _ _ h => ⟨h, rfl⟩, fun _ _ _ _ h => ⟨h, rfl⟩, fun _ _ _ _ _ _ h => ⟨h, fun _ _ _ _ _ => rfl⟩⟩
theorem Ext.trans {G' G'' : Gh} {w' w'' : World} {s s' s'' : Obs} (h : Ext G w s G' w' s') (h' : Ext G' w' s' G'' w'' s'') : Ext G w s G'' w'' s'' where
  w0 := h'.w0.trans h.w0
  R := h'.R.trans h.R
  fx := h'.fx.trans h.fx
  k := Nat.le_trans h.k h'.k
  box d q hq hl := by
    obtain ⟨h1, h2⟩ := h'.box d q (Nat.lt_of_lt_of_le hq h.k) hl
    obtain ⟨h3, h4⟩ := h.box d q hq h1
    exact ⟨h3, h2.trans h4⟩
  row d q e hq hl := by
    obtain ⟨h1, h2⟩ := h'.row d q e (Nat.lt_of_lt_of_le hq h.k) hl
    obtain ⟨h3, h4⟩ := h.row d q e hq h1
    exact ⟨h3, h2.trans h4⟩
  sub d q sv j hq hsv hl := by
    obtain ⟨h1, h2⟩ := h'.sub d q sv j (Nat.lt_of_lt_of_le hq h.k) (Nat.lt_of_lt_of_le hsv h.k) hl
    obtain ⟨e, es, h0, _⟩ := id h1
    obtain ⟨_, hy⟩ := h.row d q e hq ⟨sv, es, h0⟩
    obtain ⟨h3, h4⟩ := h.sub d q sv j hq hsv h1
    exact ⟨h3, fun g o n c hg => (h2 g o n c (by rw [hy]; exact hg)).trans (h4 g o n c hg)⟩

/-- Behind a move: the state without what has gone; what has gone is nobody's. -/
structure Gone (G : Gh) (w : World) (s : St) (a : Act) (G1 : Gh) (s1 : St) : Prop where
  sim : Sim G1 s1 a w
  keep : Keep G G1
  ext : Ext G w s.ob G1 w s1.ob
  k : G1.k = G.k
  β : G1.β = G.β
  y : G1.y = G.y
  tm : s1.tm = s.tm
  n : s1.n = s.n
  S : ∀ d b, G1.S d b → G.S d b
  ob : ∀ d x, look s1.ob d = some x → x = .dead ∨ look s.ob d = some x
theorem Gone.refl (hs : Sim G s a w) : Gone G w s a G s := ⟨hs, Keep.refl G, Ext.refl _ _ _, rfl, rfl, rfl, rfl, rfl, fun _ _ h => h, fun _ _ h => .inr h⟩
theorem Gone.trans {G1 G2 : Gh} {s1 s2 : St} (h : Gone G w s a G1 s1) (h' : Gone G1 w s1 a G2 s2) : Gone G w s a G2 s2 :=
  ⟨h'.sim, h.keep.trans h'.keep, h.ext.trans h'.ext, h'.k.trans h.k, h'.β.trans h.β, h'.y.trans h.y, h'.tm.trans h.tm, h'.n.trans h.n, fun d b hb => h.S d b (h'.S d b hb), fun d x hx => (h'.ob d x hx).imp id id |>.elim .inl (fun h2 => h.ob d x h2)⟩
theorem Sim.gone (hs : Sim G s a w) (d : Nat) : Gone G w s a { G with S := upd G.S d (fun _ => False) } (s.set d .dead) where
  sim := hs.kill d
  keep := ⟨rfl, rfl, rfl, fun _ _ => rfl, fun _ _ => rfl⟩
  ext := by
    refine ext_same hs rfl rfl rfl (Nat.le_refl _) (fun e x q hx hv hq => ?_) (fun _ _ _ _ => rfl)
    rw [set_ob] at hx
    split at hx
    · cases hx; cases hv
    · exact ⟨hx, rfl, rfl⟩
  k := rfl
  β := rfl
  y := rfl
  tm := rfl
  n := rfl
  S e b hb := by
    have hb' : upd G.S d (fun _ => False) e b := hb
    by_cases he : e = d
    · rw [he, upd_same] at hb'; exact hb'.elim
    · rwa [upd_other _ _ he] at hb'
  ob e x hx := by
    rw [set_ob] at hx
    split at hx
    · cases hx; exact .inl rfl
    · exact .inr hx
/-- A set of blocks that were the state's and are no more. -/
structure Free (G : Gh) (w : World) (G1 : Gh) (Sx : Nat → Prop) : Prop where
  was : ∀ b, Sx b → ∃ d, G.S d b
  now : ∀ b d, Sx b → ¬ G1.S d b
theorem mv1_out {c : A1} {y : Value} {K' : T → St → Prop} (hs : Sim G s a w) (hv : V1 G w s.ob c y) (h : mv1 s c K') :
    ∃ t s1 G1 Sx, K' t s1 ∧ Gone G w s a G1 s1 ∧ Ow w t y Sx ∧ Free G w G1 Sx := by
  have none_ : Free G w G (fun _ => False) := ⟨fun _ h => h.elim, fun _ _ h => h.elim⟩
  unfold mv1 at h
  split at h
  · obtain ⟨e, h⟩ := h
    rw [hv.1]
    exact ⟨_, s, G, fun _ => False, h, Gone.refl hs, .nil, none_⟩
  · rename_i x _
    refine ⟨_, s, G, fun _ => False, h, Gone.refl hs, ?_, none_⟩
    rw [hv.1]; exact .v (hv.1 ▸ hv.2)
  · rename_i d q
    split at h
    · rename_i q' sv e es hr
      obtain ⟨rfl, h⟩ := h
      have hy := hv.2 ⟨sv, e, es, hr⟩
      refine ⟨_, _, _, G.S d, h, hs.gone d, by rw [hy]; exact (hs.ob d _ hr).2, fun b hb => ⟨d, hb⟩, fun b d' hb hb' => ?_⟩
      have hb1 : upd G.S d (fun _ => False) d' b := hb'
      by_cases he : d' = d
      · rw [he, upd_same] at hb1; exact hb1
      · rw [upd_other _ _ he] at hb1; exact he (hs.apart d' d b hb1 hb)
    · exact h.elim
  · exact h.elim
theorem mvL_out : ∀ {l : List A1} {s : St} {G : Gh} {ys : Nat → Value} {K' : List T → St → Prop}, Sim G s a w → (∀ j c, l[j]? = some c → V1 G w s.ob c (ys j) ∧ c.lt G.k) → mvL l s K' →
    ∃ ts s1 G1, ∃ Sx : Nat → Nat → Prop, K' ts s1 ∧ Gone G w s a G1 s1 ∧ ts.length = l.length ∧ (∀ j t, ts[j]? = some t → Ow w t (ys j) (Sx j)) ∧ (∀ j, Free G w G1 (Sx j)) ∧ (∀ i j b, Sx i b → Sx j b → i = j)
  | [], s, G, ys, K', hs, hv, h => ⟨[], s, G, fun _ _ => False, h, Gone.refl hs, rfl, fun j t h => by simp at h, fun _ => ⟨fun _ h => h.elim, fun _ _ h => h.elim⟩, fun _ _ _ h => h.elim⟩
  | c :: l, s, G, ys, K', hs, hv, h => by
    rw [mvL_cons] at h
    obtain ⟨hv0, hl0⟩ := hv 0 c rfl
    obtain ⟨t, s1, G1, S0, h, hg, how, hf⟩ := mv1_out hs hv0 h
    obtain ⟨ts, s2, G2, Sx, h, hg2, hn, how2, hf2, hd⟩ := mvL_out (ys := fun j => ys (j + 1)) hg.sim (fun j c hc => by
      obtain ⟨h1, h2⟩ := hv (j + 1) c (by simpa using hc)
      exact ⟨V1.ext hg.ext h2 h1, by rw [hg.k]; exact h2⟩) h
    refine ⟨t :: ts, s2, G2, fun j => match j with | 0 => S0 | j + 1 => Sx j, h, hg.trans hg2, by simp [hn], fun j t' ht => ?_, fun j => ?_, fun i j b hi hj => ?_⟩
    · cases j with
      | zero => simp at ht; subst ht; exact how
      | succ j => exact how2 j t' (by simpa using ht)
    · cases j with
      | zero => exact ⟨hf.was, fun b d hb hb' => hf.now b d hb (hg2.S d b hb')⟩
      | succ j => exact ⟨fun b hb => by obtain ⟨d, hb'⟩ := (hf2 j).was b hb; exact ⟨d, hg.S d b hb'⟩, (hf2 j).now⟩
    · cases i with
      | zero => cases j with
        | zero => rfl
        | succ j => obtain ⟨d, hb'⟩ := (hf2 j).was b hj; exact absurd hb' (hf.now b d hi)
      | succ i => cases j with
        | zero => obtain ⟨d, hb'⟩ := (hf2 i).was b hi; exact absurd hb' (hf.now b d hj)
        | succ j => exact congrArg (· + 1) (hd i j b hi hj)
/-- A value as a tree: its cells, each with its own blocks. -/
structure Own2 (w : World) (t : T) (y : Value) (Sc : Nat → Nat → Prop) : Prop where
  ow : Ow2 w t y (fun b => ∃ j, Sc j b)
  len : y.cells.toList.length = t.cells.length
  cell : ∀ j c, t.cells[j]? = some c → Ow w c (y.cells.toList.getD j undef) (Sc j)
  apart : ∀ i j b, Sc i b → Sc j b → i = j
theorem mv2_out {x : A2} {y : Value} {K' : T → St → Prop} (hs : Sim G s a w) (hv : V2 G w s.ob x y) (hl : x.lt G.k) (h : mv2 s x K') :
    ∃ t s1 G1 Sx, K' t s1 ∧ Gone G w s a G1 s1 ∧ Own2 w t y Sx ∧ (∀ j, Free G w G1 (Sx j)) := by
  cases x with
  | c x =>
    obtain ⟨t, s1, G1, S0, h, hg, how, hf⟩ := mv1_out hs hv h
    have hone := how.one
    have hc : y.cells.toList = [y] := by cases y <;> first | rfl | cases hone
    have ht : t.cells = [t] ∧ ∀ S, Ow w t y S → Ow2 w t y S := by
      cases how <;> exact ⟨rfl, fun S h => h⟩
    refine ⟨t, s1, G1, fun j => match j with | 0 => S0 | _ => fun _ => False, h, hg, ⟨ht.2 _ (how.sup fun b hb => ⟨0, hb⟩), by rw [hc, ht.1]; rfl, fun j c hj => ?_, fun i j b hi hj => ?_⟩, fun j => ?_⟩
    · rw [ht.1] at hj
      cases j with
      | zero => simp at hj; subst hj; rw [hc]; exact how
      | succ j => simp at hj
    · cases i <;> cases j <;> first | rfl | exact hi.elim | exact hj.elim
    · cases j with
      | zero => exact hf
      | succ j => exact ⟨fun _ h => h.elim, fun _ _ h => h.elim⟩
  | agg l =>
    obtain ⟨vs, rfl, hn, hv⟩ := hv
    simp only [mv2] at h
    obtain ⟨ts, s1, G1, Sx, h, hg, hn2, how, hf, hd⟩ := mvL_out (ys := fun j => vs.getD j undef) hs (fun j c hc => ⟨(hv j c hc).1, hl c (List.mem_of_getElem? hc)⟩) h
    exact ⟨.agg ts, s1, G1, Sx, h, hg, ⟨⟨vs, Sx, rfl, ⟨by omega, how⟩, fun j b hb => ⟨j, hb⟩, hd⟩, by simp [Value.cells, T.cells]; omega, how, hd⟩, hf⟩
end
end Go.Proofs.Ytadpancnhinlbaa.E
