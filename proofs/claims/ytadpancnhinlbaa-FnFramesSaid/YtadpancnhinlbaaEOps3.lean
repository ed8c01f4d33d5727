/- Stores, literals, memory that is made. -/
import Derived.Test.YtadpancnhinlbaaEMove
import Derived.Great.BuildSlice
import Derived.Laws.MakeOwn
namespace Go.Proofs.Ytadpancnhinlbaa.E
set_option linter.unusedVariables false
set_option linter.unusedSimpArgs false
section
variable {P : Program} {C : Ctx} {G : Gh} {w : World} {s : St} {a : Act} {o : Oper} {K : St → Prop} {Q : Exit → Act → World → Prop}

theorem setL_app {α : Type} : ∀ (a b c : List α) (i : Nat), setL (a ++ b) (a.length + i) c = a ++ setL b i c
  | [], b, c, i => by simp
  | x :: a, b, [], i => by cases b <;> simp [setL]
  | x :: a, b, y :: c, i => by
    have := setL_app a b (y :: c) i
    simp only [List.cons_append, List.length_cons]
    rw [show a.length + 1 + i = (a.length + i) + 1 by omega]
    simp only [setL, this]
theorem setL_all {α : Type} : ∀ (a b c : List α), a.length = c.length → setL (a ++ b) 0 c = c ++ b
  | [], b, [], _ => by cases b <;> rfl
  | x :: a, b, y :: c, h => by
    simp only [List.cons_append, setL]
    rw [setL_all a b c (by simpa using h)]
  | [], b, _ :: _, h => by simp at h
  | _ :: _, b, [], h => by simp at h
theorem flat_set {e : Nat} : ∀ {es : List T} {k : Nat} {t : T} (t' : T), (∀ t ∈ es, t.cells.length = e) → es[k]? = some t → t'.cells.length = e → flat (es.set k t') = setL (flat es) (k * e) t'.cells
  | [], k, t, t', _, h, _ => by simp at h
  | x :: es, 0, t, t', he, h, ht => by
    have := he x (by simp)
    simp only [flat, List.set_cons_zero, List.flatMap_cons, Nat.zero_mul]
    rw [setL_all _ _ _ (by omega)]
  | x :: es, k + 1, t, t', he, h, ht => by
    have h1 := he x (by simp)
    have h2 := flat_set (es := es) (k := k) (t := t) t' (fun t ht => he t (by simp [ht])) (by simpa using h) ht
    simp only [flat, List.set_cons_succ, List.flatMap_cons] at h2 ⊢
    rw [h2, Nat.succ_mul, Nat.add_comm (k * e) e, ← h1, setL_app]
theorem setCells_len {t : T} {off : Nat} {ts : List T} (h : ∀ x ∈ ts, x.cells = [x]) : (t.setCells off ts).cells.length = t.cells.length := by
  cases t with
  | agg l => simp [T.setCells, T.cells, setL_len]
  | v x => 
    cases off <;> cases ts <;> first | rfl | (rename_i y r; have := h y (by simp); cases y <;> first | rfl | simp [T.setCells, T.cells])
  | sl e l =>
    cases off <;> cases ts <;> first | rfl | (rename_i y r; have := h y (by simp); cases y <;> first | rfl | simp [T.setCells, T.cells])
  | cl g x =>
    cases off <;> cases ts <;> first | rfl | (rename_i y r; have := h y (by simp); cases y <;> first | rfl | simp [T.setCells, T.cells])
  | rp x =>
    cases off <;> cases ts <;> first | rfl | (rename_i y r; have := h y (by simp); cases y <;> first | rfl | simp [T.setCells, T.cells])
theorem setCells_eq {t : T} {off : Nat} {ts : List T} (h : ∀ x ∈ ts, x.cells = [x]) (hn : off + ts.length ≤ t.cells.length) : (t.setCells off ts).cells = setL t.cells off ts := by
  have key : ∀ t : T, t.cells = [t] → off + ts.length ≤ t.cells.length → (t.setCells off ts).cells = setL t.cells off ts := by
    intro t ht hn
    rw [ht] at hn ⊢
    cases ts with
    | nil => cases t <;> cases off <;> first | exact ht | (simp [T.setCells, setL]; exact ht)
    | cons y r =>
      simp at hn
      obtain ⟨rfl, hr⟩ : off = 0 ∧ r = [] := ⟨by omega, List.length_eq_zero_iff.1 (by omega)⟩
      subst hr
      have hy := h y (by simp)
      have no : ∀ l : List T, T.cells (.agg l) ≠ [.agg l] := fun l h => by have h' : l = [T.agg l] := h; have := congrArg (fun x : List T => SizeOf.sizeOf x) h'; simp at this; omega
      cases t <;> cases y <;> first | rfl | exact absurd hy (no _) | exact absurd ht (no _)
  cases t with
  | agg l => rfl
  | v x => exact key _ rfl hn
  | sl e l => exact key _ rfl hn
  | cl g x => exact key _ rfl hn
  | rp x => exact key _ rfl hn
theorem Ow.cells {w : World} {t : T} {x : Value} {S : Nat → Prop} (h : Ow w t x S) : t.cells = [t] := by cases h <;> rfl
theorem not_new (hs : Sim G s a w) {d b : Nat} (h : G.S d b) : b ≠ w.heap.size := by have := (hs.own d b h).1; omega

theorem op_store {t : Nat} {p x : Operand} (ho : o.op = .store t p x) (hC : CtxOk P C) (hs : Sim G s a w) (hd : okDst o.dst s.n = true) (h : aop C (.store t p x) o.dst s K) : o.wp P a w (After G K) Q := by
  simp only [aop] at h
  split at h
  · rename_i i b hi hb
    have ti := hC.tt t i hi
    cases hc : (Nat.beq b.cells.length i.sz && b.cells.all A1.known) with
    | false => rw [hc] at h; exact h.elim
    | true =>
      rw [hc] at h
      simp only [cond_true] at h
      rw [Bool.and_eq_true] at hc
      have hlen : b.cells.length = i.sz := Nat.eq_of_beq_eq_true hc.1
      have hx := hs.eval x
      rw [hb] at hx
      have hvl := cells_of hx.1 hc.2
      have hyl : (a.eval x).cells.toList.length = i.sz := hvl.1.trans hlen
      have hyl2 : (a.eval x).cells.size = i.sz := by simpa using hyl
      have hone : ∀ v ∈ (a.eval x).cells.toList, v.oneCell' = true := by
        intro v hv
        obtain ⟨j, hj⟩ := List.getElem?_of_mem hv
        have hj' : j < b.cells.length := by rw [← hvl.1]; exact (List.getElem?_eq_some_iff.1 hj).1
        have := (hvl.2 j b.cells[j] (List.getElem?_eq_getElem hj')).2
        rwa [getD_of hj] at this
      replace h := opr_out hs h
      obtain ⟨c, h, hv, hlt⟩ := h
      have run : ∀ {w' : World}, (Instr.storeAt t (a.eval p) (a.eval x)).run P w = .ok () w' → (execOp a.eval o).run P w = .ok .skip w' := by
        intro w' hr
        simp only [execOp, ho, Sem.run_bind, hr, Result.andThen_ok, Sem.run_pure]
      split at h
      · rename_i d q off
        split at h
        · rename_i q' l hl
          obtain ⟨rfl, h⟩ := h
          cases hfit : Nat.ble (off + i.sz) l.length with
          | false => rw [hfit] at h; exact h.elim
          | true =>
            rw [hfit] at h
            simp only [cond_true] at h
            have hfit' : off + i.sz ≤ l.length := Nat.le_of_ble_eq_true hfit
            obtain ⟨_, ⟨vs, te, hcell, hvs⟩, _, _⟩ := hs.ob d _ hl
            have hp : a.eval p = .pointer (some ⟨G.β d, off, none⟩) := hv.2 ⟨l, hl⟩
            have hr := run_store (P := P) ti hcell hyl (by simp [hvs.1]; omega) hone
            have hs' := hs.store (xs := b.cells) (off := off) hl hvl hx.2 (by omega)
            exact wp_unit (run (by rw [hp]; exact hr)) (after_of (hs'.put hd (x := .c .any) trivial (lt_c trivial)) (Keep.refl G) h)
        · exact h.elim
      · rename_i d q e k off
        obtain ⟨ts, s1, G1, Sx, h, hg, hn, how, hf, hdis⟩ := mvL_out (ys := fun j => (a.eval x).cells.toList.getD j undef) hs (fun j c hc => ⟨(hvl.2 j c hc).1, hx.2 c (List.mem_of_getElem? hc)⟩) h
        have hv1 := V1.ext hg.ext hlt hv
        split at h
        · rename_i q' sv e' es hr
          cases hbe : Nat.beq e' e with
          | false => rw [hbe] at h; exact h.elim
          | true =>
          rw [hbe] at h
          have he : e' = e := Nat.eq_of_beq_eq_true hbe
          subst he
          obtain ⟨rfl, t', ht, hfit, h⟩ := h
          obtain ⟨g, o', n, c, hy, hp⟩ := hv1.2 ⟨sv, es, hr⟩
          have hk : k < es.length := (List.getElem?_eq_some_iff.1 ht).1
          have how1 := (hg.sim.ob d _ hr).2
          rw [hy] at how1
          cases how1 with
          | nil => simp at hk
          | @row _ _ _ _ cur te _ Ss S h1 h2 h3 h4 h5 h6 h7 h8 h9 =>
          have hcl : t'.cells.length = e' := h4 t' (List.mem_of_getElem? ht)
          have hk1 : (k + 1) * e' ≤ c * e' := Nat.mul_le_mul_right _ (by omega)
          rw [Nat.succ_mul] at hk1
          have hts : ∀ x ∈ ts, x.cells = [x] := fun x hx => by
            obtain ⟨j, hj⟩ := List.getElem?_of_mem hx
            exact (how j x hj).cells
          have hn' : ts.length = i.sz := hn.trans hlen
          have hr' := run_store (P := P) ti (off := o' + (k * e' + off)) h1 hyl (by omega) hone
          have hnew := cells_setCells g te (a.eval x).cells.toList (o' + (k * e' + off)) w cur.toList (by simpa using h1) (by simp; omega)
          have hsc := setCells_eq (t := t') (off := off) hts (by omega)
          have hfl : flat (es.set k (t'.setCells off ts)) = setL (flat es) (k * e' + off) ts := by
            rw [flat_set _ h4 ht (by rw [setCells_len hts, hcl]), hsc]
            have hfl := flat_len h4
            have hk2 : (k + 1) * e' ≤ es.length * e' := Nat.mul_le_mul_right _ (by omega)
            rw [Nat.succ_mul] at hk2
            apply List.ext_getElem?
            intro j
            rw [setL_get _ _ _ _ (by rw [setL_len]; omega), setL_get _ _ _ _ (by omega), setL_len]
            by_cases hj : k * e' ≤ j ∧ j < k * e' + t'.cells.length
            · rw [if_pos hj, setL_get _ _ _ _ (by omega)]
              by_cases hj2 : k * e' + off ≤ j ∧ j < k * e' + off + ts.length
              · rw [if_pos hj2, if_pos (by omega)]; congr 1; omega
              · rw [if_neg hj2, if_neg (by omega)]
                obtain ⟨m, rfl⟩ : ∃ m, j = k * e' + m := ⟨j - k * e', by omega⟩
                rw [flat_get h4 ht (by omega)]; congr 1; omega
            · rw [if_neg hj, setL_get _ _ _ _ (by have := flat_len h4; omega), if_neg (by omega)]
          have hother : ∀ b, b ≠ g → (w.setCells g (o' + (k * e' + off)) (a.eval x).cells.toList).heap[b]? = w.heap[b]? := fun b hb => other_setCells _ _ _ _ _ hb
          let Sn : Nat → Prop := fun b => G1.S d b ∨ ∃ j, Sx j b
          have hnotg : ∀ j, ¬ Sx j g := fun j hj => (hf j).now g d hj h6
          have hown : Ow (w.setCells g (o' + (k * e' + off)) (a.eval x).cells.toList) (.sl e' (es.set k (t'.setCells off ts))) (G1.y d) Sn := by
            have hlen2 : es.length = (es.set k (t'.setCells off ts)).length := by simp
            rw [hy]
            have : Value.slice (some ⟨g, o', none⟩) es.length c = Value.slice (some ⟨g, o', none⟩) (es.set k (t'.setCells off ts)).length c := by rw [← hlen2]
            rw [this]
            refine .row (Ss := fun j b => if k * e' + off ≤ j ∧ j < k * e' + off + ts.length then Sx (j - (k * e' + off)) b else Ss j b) hnew (by rw [← hlen2]; exact h2) (by simp [setL_len]; exact h3) (fun x hx => ?_) (fun j ct hj => ?_) (.inl h6) (fun j hj => ?_) (fun j b hj => ?_) (fun i j b hi hj => ?_)
            · rcases List.mem_or_eq_of_mem_set hx with h | h
              · exact h4 x h
              · rw [h, setCells_len hts, hcl]
            · rw [hfl, setL_get _ _ _ _ (by have := flat_len h4; have hk2 : (k + 1) * e' ≤ es.length * e' := Nat.mul_le_mul_right _ (by omega); rw [Nat.succ_mul] at hk2; omega)] at hj
              simp only [Array.getD_eq_getD_getElem?, List.getElem?_toArray]
              rw [setL_get _ _ _ _ (by simp; omega)]
              by_cases hj2 : k * e' + off ≤ j ∧ j < k * e' + off + ts.length
              · rw [if_pos hj2] at hj
                rw [if_pos (by omega)]
                have := how _ ct hj
                rw [List.getD_eq_getElem?_getD] at this
                have hm := this.move (w' := w.setCells g (o' + (k * e' + off)) (a.eval x).cells.toList) (fun b hb => hother b (fun e => hnotg _ (e ▸ hb)))
                simp only [hj2, and_self, if_true]
                rw [show o' + j - (o' + (k * e' + off)) = j - (k * e' + off) by omega]
                exact hm
              · rw [if_neg hj2] at hj
                rw [if_neg (by omega)]
                have := h5 j ct hj
                rw [Array.getD_eq_getD_getElem?] at this
                have hm := this.move (w' := w.setCells g (o' + (k * e' + off)) (a.eval x).cells.toList) (fun b hb => hother b (fun e => h7 j (e ▸ hb)))
                simp only [hj2, if_false]
                simpa using hm
            · split at hj
              · exact hnotg _ hj
              · exact h7 j hj
            · split at hj
              · exact .inr ⟨_, hj⟩
              · exact .inl (h8 j b hj)
            · split at hi <;> split at hj
              · have := hdis _ _ b hi hj; omega
              · exact absurd (h8 j b hj) ((hf _).now b d hi)
              · exact absurd (h8 i b hi) ((hf _).now b d hj)
              · exact h9 i j b hi hj
          have hs' := hg.sim.wrote hr (w' := w.setCells g (o' + (k * e' + off)) (a.eval x).cells.toList) (es' := es.set k (t'.setCells off ts)) (Sn := Sn) (up_setCells _ _ _ _) (fun b hb hR => hother b (fun e => by
            subst e
            rcases (hg.sim.own d b h6).2 with h | h
            · omega
            · exact hR h)) (fun d' b hd' hb => hother b (fun e => hd' (hg.sim.apart d' d b hb (e ▸ h6)))) hown (fun b hb => by
            rw [size_setCells]
            rcases hb with hb | ⟨j, hb⟩
            · exact ⟨(hg.sim.own d b hb).1, (hg.sim.own d b hb).2, fun d' hd' hb' => hd' (hg.sim.apart d' d b hb' hb)⟩
            · obtain ⟨d0, hd0⟩ := (hf j).was b hb
              have h0 := hs.own d0 b hd0
              rw [hg.keep.w0, hg.keep.R]
              exact ⟨h0.1, h0.2, fun d' _ => (hf j).now b d' hb⟩)
          refine wp_unit (run (by rw [hp]; exact hr')) (after_of (hs'.put (by simpa [hg.n] using hd) (x := .c .any) trivial (lt_c trivial)) ⟨hg.keep.w0, hg.keep.R, hg.keep.fx, hg.keep.y, hg.keep.β⟩ (h G1.k))
        · exact h.elim
      · exact h.elim
  · exact h.elim
end
end Go.Proofs.Ytadpancnhinlbaa.E
