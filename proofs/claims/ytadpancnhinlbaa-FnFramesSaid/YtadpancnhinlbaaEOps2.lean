/- More operations: stores, sums, tests, addresses. -/
import Derived.Test.YtadpancnhinlbaaEOps
import Derived.Laws.IdiomCopy
import Derived.Laws.Cover3
import Derived.Laws.Small
namespace Go.Proofs.Ytadpancnhinlbaa.E
set_option linter.unusedVariables false
set_option linter.unusedSimpArgs false
section
variable {P : Program} {C : Ctx} {G : Gh} {w : World} {s : St} {a : Act} {o : Oper} {K : St → Prop} {Q : Exit → Act → World → Prop}

theorem run_store {t : Nat} {i : TI} (ti : TIok P t i) {b off te : Nat} {cur : Array Value} (hb : w.heap[b]? = some (.cells cur te (0, 0))) {y : Value} (hl : y.cells.toList.length = i.sz) (hfit : off + i.sz ≤ cur.size) (hone : ∀ v ∈ y.cells.toList, v.oneCell' = true) :
    (Instr.storeAt t (.pointer (some ⟨b, off, none⟩)) y).run P w = .ok () (w.setCells b off y.cells.toList) := by
  have h1 := run_storeCells_cells (P := P) b off y.cells.toList 0 w (fun j hj => by
    rw [cell_arr hb]; simp only [Nat.add_zero]
    rw [getD_arr (d := undef) (by omega)]; rfl) (fun j hj => by simp [World.frozen?, hb]) hone
  simp only [Instr.storeAt, Instr.sureAddr, Sem.run_bind, Sem.run_pure, Result.andThen_ok, storeVar, run_sizeOf ti]
  rw [if_neg (by simpa using hl)]
  simpa using h1

theorem op_nilCheck {x : Operand} (ho : o.op = .nilCheck x) (hs : Sim G s a w) (hd : okDst o.dst s.n = true) (h : aop C (.nilCheck x) o.dst s K) : o.wp P a w (After G K) Q := by
  simp only [aop] at h
  replace h := opr_out hs h
  obtain ⟨c, h, hv, hlt⟩ := h
  have fin : ∀ {ad : Addr}, a.eval x = .pointer (some ad) → K (s.put o.dst (.c c)) → o.wp P a w (After G K) Q := by
    intro ad hp hk
    refine wp_val (y := a.eval x) (w' := w) ?_ (after_val hs hd (x := .c c) hv (lt_c hlt) hk)
    simp only [execOp, ho, hp]; rfl
  split at h
  · rename_i d q off
    split at h
    · rename_i q' l hl
      obtain ⟨rfl, h⟩ := h
      exact fin (hv.2 ⟨l, hl⟩) h
    · exact h.elim
  · obtain ⟨ad, u, hp, _⟩ := hv
    exact fin hp h
  · exact h.elim
theorem kEq_eq {k k' : IntKind} (h : kEq k k' = true) : k = k' := by cases k <;> cases k' <;> first | rfl | cases h
theorem run_binV {tt : Option TI} {op : BinOp} {t : Nat} {x y : Value} {K' : Value → Prop} (ht : TD.isBool tt = true → P.underlying t = some .bool) (h : binV tt op x y K') : ∃ z, K' z ∧ z.oneCell' = true ∧ ∀ w : World, ∀ p q : Operand, (do eqGuard op t p q x y; binOp op t x y).run P w = .ok z w := by
  unfold binV at h
  split at h
  · rename_i k a k' b
    cases hk : kEq k k' && notShift op with
    | false =>
      rw [hk] at h
      simp only [cond_false] at h
      split at h
      · exact ⟨_, h.2, rfl, fun w p q => by rw [binOp_shr, shift_shr _ _ _ _ h.1.1 h.1.2]; rfl⟩
      · exact ⟨_, h.2, rfl, fun w p q => by rw [binOp_shl, shift_shl _ _ _ _ h.1.1 h.1.2]; rfl⟩
      · exact h.elim
    | true =>
      rw [hk] at h
      rw [Bool.and_eq_true] at hk
      have := kEq_eq hk.1
      subst this
      simp only [cond_true] at h
      split at h <;> first
        | exact h.elim
        | exact ⟨_, h, rfl, fun w p q => by rw [binOp_and, intBits_and]; rfl⟩
        | exact ⟨_, h, rfl, fun w p q => by rw [binOp_or, intBits_or]; rfl⟩
        | exact ⟨_, h, rfl, fun w p q => by rw [binOp_xor, intBits_xor]; rfl⟩
        | exact ⟨_, h, rfl, fun w p q => by simp [eqGuard, binOp, Op.intArith, Op.intDiv, Op.intCmp, Sem.run_bind]; done⟩
        | exact ⟨_, h.2, rfl, fun w p q => by simp [eqGuard, binOp, Op.intArith, Op.intDiv, Op.intCmp, Sem.run_bind, h.1]; done⟩
        | exact ⟨_, h, rfl, fun w p q => by simp [eqGuard, binOp, Op.intArith, Op.intDiv, Op.intCmp, Sem.run_bind]; rfl⟩
  · rename_i sa sb
    split at h <;> first
      | exact h.elim
      | exact ⟨_, h, rfl, fun w p q => by simp [eqGuard, binOp, Op.stringOp, Sem.run_bind]; done⟩
      | exact ⟨_, h, rfl, fun w p q => by simp [eqGuard, binOp, Op.stringOp, Sem.run_bind]; rfl⟩
      | exact ⟨_, h.2, rfl, fun w p q => by
          have h1 := h.1
          have h2 : IntKind.i64.max = 9223372036854775807 := rfl
          simp only [eqGuard, binOp, Op.stringOp, Sem.run_bind, h2]
          rw [if_neg (show ¬ (((sa.size + sb.size : Nat) : Int) > 9223372036854775807) by omega)]; rfl⟩
  · rename_i a b
    cases hb : TD.isBool tt with
    | false => rw [hb] at h; exact h.elim
    | true =>
      rw [hb] at h
      simp only [cond_true] at h
      have hu := ht hb
      split at h <;> first
        | exact h.elim
        | exact ⟨_, h, rfl, fun w p q => by simp [eqGuard, binOp, Sem.run_bind, run_equal_bool w t a b hu]⟩
  · exact h.elim
theorem op_bin {op : BinOp} {t t' : Nat} {x y : Operand} (ho : o.op = .binOp op t x y t') (hC : CtxOk P C) (hs : Sim G s a w) (hd : okDst o.dst s.n = true) (h : aop C (.binOp op t x y t') o.dst s K) : o.wp P a w (After G K) Q := by
  simp only [aop] at h
  replace h := opr_out hs h
  obtain ⟨c, h, hv, -⟩ := h
  replace h := opr_out hs h
  obtain ⟨d, h, hv', -⟩ := h
  have fin : ∀ {z : Value}, (∀ p q : Operand, (do eqGuard op t p q (a.eval x) (a.eval y); binOp op t (a.eval x) (a.eval y)).run P w = .ok z w) → z.oneCell' = true → K (s.put o.dst (.vv z)) → o.wp P a w (After G K) Q := by
    intro z hr hone hk
    refine wp_val (y := z) (w' := w) ?_ (after_val hs hd (x := .vv z) ⟨rfl, hone⟩ (lt_c trivial) hk)
    have := hr x y
    simp only [Sem.run_bind] at this
    simp only [execOp, ho, Sem.run_bind, this, Result.andThen_ok, Sem.run_pure]
  unfold binA at h
  split at h
  · rename_i p q
    obtain ⟨z, hk, hone, hr⟩ := run_binV (P := P) (t := t) (fun hb => by
      cases hi : look C.tt t with
      | none => rw [hi] at hb; cases hb
      | some i =>
        rw [hi] at hb
        obtain ⟨d, hu, _, hd⟩ := (hC.tt t i hi).desc
        obtain ⟨_, _, _, _, _, td⟩ := i
        cases td <;> first | (simp only at hd; rw [hd] at hu; exact hu) | cases hb) h
    exact fin (fun x y => by rw [hv.1, hv'.1]; exact hr w x y) hone hk
  · rename_i e es
    cases hb : TD.isSl (look C.tt t) with
    | false => rw [hb] at h; exact h.elim
    | true =>
      rw [hb] at h
      simp only [cond_true] at h
      obtain ⟨el, hu⟩ : ∃ el, P.underlying t = some (.slice el) := by
        cases hi : look C.tt t with
        | none => rw [hi] at hb; cases hb
        | some i =>
          rw [hi] at hb
          obtain ⟨d, hu, _, hd⟩ := (hC.tt t i hi).desc
          obtain ⟨_, _, _, _, _, td⟩ := i
          cases td <;> first | (simp only at hd; rw [hd] at hu; exact ⟨_, hu⟩) | cases hb
      have hy : a.eval y = .slice none 0 0 := hv'.1
      obtain ⟨A, n, c, hx, hA⟩ : ∃ A n c, a.eval x = .slice A n c ∧ (es ≠ [] → A.isNone = false) := by
        have hv1 : Rd G.w0 G.Z (.sl e es) (a.eval x) := hv
        generalize a.eval x = z at hv1
        cases hv1 with
        | nil => exact ⟨_, _, _, rfl, fun h => absurd rfl h⟩
        | row => exact ⟨_, _, _, rfl, fun _ => rfl⟩
      split at h
      · exact fin (z := .bool A.isNone) (fun p q => by rw [hx, hy]; simp [eqGuard, binOp, Sem.run_bind, run_equal_slice_nil w t el A n c hu]) rfl (h _ hA)
      · exact fin (z := .bool !A.isNone) (fun p q => by rw [hx, hy]; simp [eqGuard, binOp, Sem.run_bind, run_equal_slice_nil w t el A n c hu]) rfl (h _ (fun he => by rw [hA he]; rfl))
      · exact h.elim
  · exact h.elim
theorem op_un {op : UnOp} {t : Nat} {x : Operand} (ho : o.op = .unOp op t x) (hs : Sim G s a w) (hd : okDst o.dst s.n = true) (h : aop C (.unOp op t x) o.dst s K) : o.wp P a w (After G K) Q := by
  simp only [aop] at h
  replace h := opr_out hs h
  obtain ⟨c, h, hv, -⟩ := h
  have fin : ∀ {z : Value}, (Op.unary op (a.eval x)).run P w = .ok z w → z.oneCell' = true → K (s.put o.dst (.vv z)) → o.wp P a w (After G K) Q := by
    intro z hr hone hk
    refine wp_val (y := z) (w' := w) ?_ (after_val hs hd (x := .vv z) ⟨rfl, hone⟩ (lt_c trivial) hk)
    simp only [execOp, ho, Sem.run_bind, hr, Result.andThen_ok, Sem.run_pure]
  unfold unA at h
  split at h
  · exact fin (by rw [hv.1]; rfl) rfl h
  · exact fin (by rw [hv.1]; rfl) rfl h
  · exact h.elim
theorem op_conv {t t' : Nat} {x : Operand} (hb : TD.isStr (look C.tt t') = false) (ho : o.op = .convert t t' x) (hC : CtxOk P C) (hs : Sim G s a w) (hd : okDst o.dst s.n = true) (h : aop C (.convert t t' x) o.dst s K) : o.wp P a w (After G K) Q := by
  simp only [aop] at h
  replace h := opr_out hs h
  obtain ⟨c, h, hv, -⟩ := h
  rw [hb, cond_false] at h
  have fin : ∀ {z : Value}, (convert t t' (a.eval x)).run P w = .ok z w → z.oneCell' = true → K (s.put o.dst (.vv z)) → o.wp P a w (After G K) Q := by
    intro z hr hone hk
    refine wp_val (y := z) (w' := w) ?_ (after_val hs hd (x := .vv z) ⟨rfl, hone⟩ (lt_c trivial) hk)
    simp only [execOp, ho, Sem.run_bind, hr, Result.andThen_ok, Sem.run_pure]
  unfold cvA at h
  split at h
  · rename_i i1 i2 i3 i4 i5 k kx n hk
    obtain ⟨hsrc, h⟩ := h
    split at hsrc
    · rename_i j1 j2 j3 j4 j5 kk hk'
      obtain ⟨d, hu, _, hd1⟩ := (hC.tt _ _ hk).desc
      obtain ⟨d', hu', _, hd2⟩ := (hC.tt _ _ hk').desc
      simp only at hd1 hd2
      subst hd1; subst hd2
      refine fin (z := .int k (k.wrap n)) ?_ rfl h
      rw [hv.1]
      simp only [convert, Sem.run_bind, run_underlying hu, run_underlying hu', Result.andThen_ok]
      rfl
    · exact hsrc.elim
  · exact h.elim
theorem tt_str (hC : CtxOk P C) {t : Nat} (h : TD.isStr (look C.tt t) = true) : P.underlying t = some .string := by
  cases hi : look C.tt t with
  | none => rw [hi] at h; cases h
  | some i =>
    rw [hi] at h
    obtain ⟨d, hu, _, hd⟩ := (hC.tt t i hi).desc
    obtain ⟨_, _, _, _, _, td⟩ := i
    cases td <;> first | (simp only at hd; rw [hd] at hu; exact hu) | cases h
theorem op_index {t : Nat} {x y : Operand} (ho : o.op = .index t x y) (hC : CtxOk P C) (hs : Sim G s a w) (hd : okDst o.dst s.n = true) (h : aop C (.index t x y) o.dst s K) : o.wp P a w (After G K) Q := by
  simp only [aop] at h
  cases hb : TD.isStr (look C.tt t) with
  | false => rw [hb] at h; exact h.elim
  | true =>
    rw [hb] at h
    simp only [cond_true] at h
    have hu := tt_str hC hb
    replace h := opi_out hs h
    obtain ⟨k, n, h, hy⟩ := h
    replace h := opr_out hs h
    obtain ⟨c, h, hv, -⟩ := h
    split at h
    · rename_i b
      obtain ⟨h0, h1, h⟩ := h
      have hlt : n.toNat < b.size := by omega
      refine wp_val (y := .int .u8 (b[n.toNat]!).toNat) (w' := w) ?_ (after_val hs hd (x := .vv (.int .u8 (b[n.toNat]!).toNat)) ⟨rfl, rfl⟩ (lt_c trivial) h)
      have hg : b[n.toNat]? = some b[n.toNat]! := by
        rw [getElem!_pos b n.toNat hlt]; exact getElem?_pos b n.toNat hlt
      simp only [execOp, ho, hy, hv.1, Instr.index, asIntOf, Sem.run_bind, Sem.run_pure, run_underlying hu, Result.andThen_ok, h0, if_true, hg]
    · exact h.elim
theorem op_extract {x : Operand} {i : Nat} (ho : o.op = .extract x i) (hs : Sim G s a w) (hd : okDst o.dst s.n = true) (h : aop C (.extract x i) o.dst s K) : o.wp P a w (After G K) Q := by
  have hx := hs.eval x
  simp only [aop] at h
  split at h
  · rename_i l hl
    rw [hl] at hx
    split at h
    · rename_i b hb
      obtain ⟨⟨vs, hy, hn, hv⟩, hlt⟩ := hx
      have h1 := hv i b hb
      have hi : i < vs.length := by rw [hn]; exact (List.getElem?_eq_some_iff.1 hb).1
      refine wp_val (y := vs.getD i undef) (w' := w) ?_ (after_val hs hd (x := .o b) h1 (hlt b (List.mem_of_getElem? hb)) h)
      have : vs[i]? = some (vs.getD i undef) := by rw [List.getD_eq_getElem?_getD, List.getElem?_eq_getElem hi]; rfl
      simp only [execOp, ho, hy, Instr.extract, List.getElem?_toArray, this]
      rfl
    · exact h.elim
  · exact h.elim
theorem fields_of {fa : Array Field} {fs : List (Nat × Nat)} {f off u : Nat} (hm : fa.toList.map (fun f => (f.offset, f.type)) = fs) (hf : fs[f]? = some (off, u)) : ∃ fd : Field, fa[f]? = some fd ∧ fd.offset = off ∧ fd.type = u := by
  subst hm
  rw [List.getElem?_map, Option.map_eq_some_iff] at hf
  obtain ⟨fd, h1, h2⟩ := hf
  cases h2
  exact ⟨fd, by simpa using h1, rfl, rfl⟩
/-- The pointer moves to a field. -/
theorem op_fieldAddr {t : Nat} {x : Operand} {f : Nat} (ho : o.op = .fieldAddr t x f) (hC : CtxOk P C) (hs : Sim G s a w) (hd : okDst o.dst s.n = true) (h : aop C (.fieldAddr t x f) o.dst s K) : o.wp P a w (After G K) Q := by
  simp only [aop] at h
  split at h
  · rename_i i1 i2 i3 i4 i5 fs hi
    split at h
    · rename_i off u hf
      split at h
      · rename_i iu hiu
        cases hsz : Nat.ble 1 iu.sz with
        | false => rw [hsz] at h; exact h.elim
        | true =>
          rw [hsz] at h
          simp only [cond_true] at h
          have hsz' : 1 ≤ iu.sz := Nat.le_of_ble_eq_true hsz
          obtain ⟨d, hu, _, fa, hd1, hm⟩ := (hC.tt _ _ hi).desc
          subst hd1
          obtain ⟨fd, hfd, hoff, hty⟩ := fields_of hm hf
          replace h := opr_out hs h
          obtain ⟨c, h, hv, hlt⟩ := h
          have fin : ∀ {ad : Addr} {z : A1}, a.eval x = .pointer (some ad) → V1 G w s.ob z (.pointer (some (ad.add off))) → z.lt G.k → K (s.put o.dst (.c z)) → o.wp P a w (After G K) Q := by
            intro ad z hp hz hl hk
            refine wp_val (y := .pointer (some (ad.add off))) (w' := w) ?_ (after_val hs hd (x := .c z) hz (lt_c hl) hk)
            have hne : iu.sz ≠ 0 := by omega
            have hsz := run_sizeOf (hC.tt _ _ hiu) w
            rw [← hty] at hsz
            simp only [execOp, ho, hp, Instr.fieldAt, Instr.sureAddr, Sem.run_bind, Sem.run_pure, run_underlying hu, Result.andThen_ok, hfd, fieldPlace, hsz, hne, if_false, hoff]
          split at h
          · rename_i d q o'
            split at h
            · rename_i q' l hl
              obtain ⟨rfl, h⟩ := h
              refine fin (z := .bx d q' (o' + off)) (hv.2 ⟨l, hl⟩) ⟨rfl, fun _ => ?_⟩ hlt h
              rw [add_mk]
            · exact h.elim
          · rename_i t' o'
            obtain ⟨ad, u', hp, hz, h1, h2⟩ := hv
            exact fin (z := .rop t' (o' + off)) hp ⟨ad, u', by rw [add_add], hz, h1, h2⟩ trivial h
          · rename_i d q e i o'
            split at h
            · rename_i q' sv e' es hr
              cases hbe : Nat.beq e' e with
              | false => rw [hbe] at h; exact h.elim
              | true =>
              rw [hbe] at h
              have he : e' = e := Nat.eq_of_beq_eq_true hbe
              subst he
              obtain ⟨rfl, h⟩ := h
              obtain ⟨g, o1, n, c, hy, hp⟩ := hv.2 ⟨sv, es, hr⟩
              exact fin (z := .ownp d q' e' i (o' + off)) hp ⟨rfl, fun _ => ⟨g, o1, n, c, hy, by rw [add_mk, show o1 + (i * e' + o') + off = o1 + (i * e' + (o' + off)) by omega]⟩⟩ hlt h
            · exact h.elim
          · exact h.elim
      · exact h.elim
    · exact h.elim
  · exact h.elim
theorem op_indexAddr {t : Nat} {x y : Operand} (ho : o.op = .indexAddr t x y) (hC : CtxOk P C) (hs : Sim G s a w) (hd : okDst o.dst s.n = true) (h : aop C (.indexAddr t x y) o.dst s K) : o.wp P a w (After G K) Q := by
  simp only [aop] at h
  split at h
  · rename_i i1 i2 i3 i4 i5 e hi
    split at h
    · rename_i ie hie
      replace h := opi_out hs h
      obtain ⟨k, n, h, hy⟩ := h
      replace h := oprN_out hs h
      obtain ⟨c, h, hv, hlt⟩ := h
      obtain ⟨d, hu, _, hd1⟩ := (hC.tt _ _ hi).desc
      simp only at hd1
      subst hd1
      have hsz := run_sizeOf (hC.tt _ _ hie) w
      have fin : ∀ {ad : Addr} {len cap : Nat} {z : A1}, a.eval x = .slice (some ad) len cap → 0 ≤ n → n < len → V1 G w s.ob z (.pointer (some (ad.add (n.toNat * ie.sz)))) → z.lt G.k → K (s.put o.dst (.c z)) → o.wp P a w (After G K) Q := by
        intro ad len cap z hp h0 h1 hz hl hk
        refine wp_val (y := .pointer (some (ad.add (n.toNat * ie.sz)))) (w' := w) ?_ (after_val hs hd (x := .c z) hz (lt_c hl) hk)
        simp only [execOp, ho, hp, hy, Instr.indexAt, asIntOf, Sem.run_bind, Sem.run_pure, run_underlying hu, Result.andThen_ok, hsz, h0, h1, and_self, if_true]
      split at h
      · rename_i e' es
        cases hbe : Nat.beq e' ie.sz with
        | false => rw [hbe] at h; exact h.elim
        | true =>
          rw [hbe] at h
          have he : e' = ie.sz := Nat.eq_of_beq_eq_true hbe
          subst he
          obtain ⟨h0, t', ht, h⟩ := h
          have hk := (List.getElem?_eq_some_iff.1 ht).1
          have hv1 : Rd G.w0 G.Z (.sl ie.sz es) (a.eval x) := hv
          generalize hz : a.eval x = z at hv1
          cases hv1 with
          | nil => simp at ht
          | @row _ ad _ cap u h1 h2 h3 h4 h5 =>
            refine fin (z := .rop t' 0) hz h0 (by omega) ⟨ad.add (n.toNat * ie.sz), fun j => u (n.toNat * ie.sz + j), by simp [Addr.add], by rw [add_block]; exact h2, fun j c hj => ?_, fun j c hj => ?_⟩ trivial h
            · have hjl : j < ie.sz := by rw [← h3 t' (List.mem_of_getElem? ht)]; exact (List.getElem?_eq_some_iff.1 hj).1
              rw [add_add]
              exact h4 _ c (by rw [flat_get h3 ht hjl]; exact hj)
            · have hjl : j < ie.sz := by rw [← h3 t' (List.mem_of_getElem? ht)]; exact (List.getElem?_eq_some_iff.1 hj).1
              exact h5 _ c (by rw [flat_get h3 ht hjl]; exact hj)
      · rename_i d q
        split at h
        · rename_i q' sv e' es hr
          cases hbe : Nat.beq e' ie.sz with
          | false => rw [hbe] at h; exact h.elim
          | true =>
            rw [hbe] at h
            have he : e' = ie.sz := Nat.eq_of_beq_eq_true hbe
            subst he
            obtain ⟨rfl, h0, hk, h⟩ := h
            have hyv := hv.2 ⟨sv, _, es, hr⟩
            have how := (hs.ob d _ hr).2
            generalize hz : G.y d = z at how
            cases how with
            | nil => simp at hk
            | row h1 h2 h3 h4 h5 h6 h7 h8 h9 =>
              refine fin (z := .ownp d q' ie.sz n.toNat 0) (hyv.trans hz) h0 (by omega) ⟨rfl, fun _ => ⟨_, _, _, _, hz, by rw [add_mk, Nat.add_zero]⟩⟩ hlt h
        · exact h.elim
      · rename_i d q m
        split at h
        · rename_i q' l hr
          cases hbe : Nat.beq ie.sz 1 with
          | false => rw [hbe] at h; exact h.elim
          | true =>
            rw [hbe] at h
            have he : ie.sz = 1 := Nat.eq_of_beq_eq_true hbe
            obtain ⟨rfl, h0, hk, h⟩ := h
            exact fin (z := .bx d q' n.toNat) (hv.2 ⟨l, hr⟩) h0 (by omega) ⟨rfl, fun _ => by rw [he, Nat.mul_one, add_mk, Nat.zero_add]⟩ hlt h
        · exact h.elim
      · rename_i d q e' l hh
        split at h
        · rename_i q' sv e2 es hr
          cases hbe : (Nat.beq e2 e' && Nat.beq e' ie.sz) with
          | false => rw [hbe] at h; exact h.elim
          | true =>
            rw [hbe] at h
            simp only [Bool.and_eq_true] at hbe
            have he2 : e2 = e' := Nat.eq_of_beq_eq_true hbe.1
            have he : e' = ie.sz := Nat.eq_of_beq_eq_true hbe.2
            subst he2
            subst he
            obtain ⟨rfl, h0, hk, h⟩ := h
            obtain ⟨A, m, cp, hA, hyv, hlh, hhm⟩ := hv.2 ⟨sv, es, hr⟩
            have how := (hs.ob d _ hr).2
            rw [hA] at how
            cases how with
            | nil => omega
            | @row _ g o' _ cur te _ Ss S h1 h2 h3 h4 h5 h6 h7 h8 h9 =>
              have hcl : ¬ cp = l := by omega
              have hy2 : a.eval x = .slice (some ((⟨g, o', none⟩ : Addr).add (l * ie.sz))) (hh - l) (cp - l) := by
                rw [hyv]; unfold sliced; rw [if_neg hcl, Option.map_some]
              refine fin (z := .ownp d q' ie.sz (l + n.toNat) 0) hy2 h0 (by omega) ⟨rfl, fun _ => ⟨_, _, _, _, hA, by rw [add_mk, add_mk, Nat.add_zero, Nat.add_mul, Nat.add_assoc]⟩⟩ hlt h
        · exact h.elim
      · exact h.elim
    · exact h.elim
  · exact h.elim
theorem q_bin {op : BinOp} {t t' : Nat} {x y : Operand} (ho : o.op = .binOp op t x y t') (hC : CtxOk P C) (hs : Sim G s a w) (hd : okDst o.dst s.n = true) (h : aop C (.binOp op t x y t') o.dst s K) : Quiet P G w s a o K (fun _ => True) := by
  simp only [aop] at h
  replace h := opr_out hs h
  obtain ⟨c, h, hv, -⟩ := h
  replace h := opr_out hs h
  obtain ⟨d, h, hv', -⟩ := h
  have fin : ∀ {z : Value}, (∀ w : World, ∀ p q : Operand, (do eqGuard op t p q (a.eval x) (a.eval y); binOp op t (a.eval x) (a.eval y)).run P w = .ok z w) → z.oneCell' = true → K (s.put o.dst (.vv z)) → Quiet P G w s a o K (fun _ => True) := by
    intro z hr hone hk
    refine ⟨.vv z, z, hk, ⟨rfl, hone⟩, lt_c trivial, fun w' _ => ?_⟩
    have := hr w' x y
    simp only [Sem.run_bind] at this
    simp only [execOp, ho, Sem.run_bind, this, Result.andThen_ok, Sem.run_pure]
  unfold binA at h
  split at h
  · rename_i p q
    obtain ⟨z, hk, hone, hr⟩ := run_binV (P := P) (t := t) (fun hb => by
      cases hi : look C.tt t with
      | none => rw [hi] at hb; cases hb
      | some i =>
        rw [hi] at hb
        obtain ⟨d, hu, _, hd⟩ := (hC.tt t i hi).desc
        obtain ⟨_, _, _, _, _, td⟩ := i
        cases td <;> first | (simp only at hd; rw [hd] at hu; exact hu) | cases hb) h
    exact fin (fun w x y => by rw [hv.1, hv'.1]; exact hr w x y) hone hk
  · rename_i e es
    cases hb : TD.isSl (look C.tt t) with
    | false => rw [hb] at h; exact h.elim
    | true =>
      rw [hb] at h
      simp only [cond_true] at h
      obtain ⟨el, hu⟩ : ∃ el, P.underlying t = some (.slice el) := by
        cases hi : look C.tt t with
        | none => rw [hi] at hb; cases hb
        | some i =>
          rw [hi] at hb
          obtain ⟨d, hu, _, hd⟩ := (hC.tt t i hi).desc
          obtain ⟨_, _, _, _, _, td⟩ := i
          cases td <;> first | (simp only at hd; rw [hd] at hu; exact ⟨_, hu⟩) | cases hb
      have hy : a.eval y = .slice none 0 0 := hv'.1
      obtain ⟨A, n, c, hx, hA⟩ : ∃ A n c, a.eval x = .slice A n c ∧ (es ≠ [] → A.isNone = false) := by
        have hv1 : Rd G.w0 G.Z (.sl e es) (a.eval x) := hv
        generalize a.eval x = z at hv1
        cases hv1 with
        | nil => exact ⟨_, _, _, rfl, fun h => absurd rfl h⟩
        | row => exact ⟨_, _, _, rfl, fun _ => rfl⟩
      split at h
      · exact fin (z := .bool A.isNone) (fun w p q => by rw [hx, hy]; simp [eqGuard, binOp, Sem.run_bind, run_equal_slice_nil w t el A n c hu]) rfl (h _ hA)
      · exact fin (z := .bool !A.isNone) (fun w p q => by rw [hx, hy]; simp [eqGuard, binOp, Sem.run_bind, run_equal_slice_nil w t el A n c hu]) rfl (h _ (fun he => by rw [hA he]; rfl))
      · exact h.elim
  · exact h.elim
theorem q_un {op : UnOp} {t : Nat} {x : Operand} (ho : o.op = .unOp op t x) (hs : Sim G s a w) (hd : okDst o.dst s.n = true) (h : aop C (.unOp op t x) o.dst s K) : Quiet P G w s a o K (fun _ => True) := by
  simp only [aop] at h
  replace h := opr_out hs h
  obtain ⟨c, h, hv, -⟩ := h
  have fin : ∀ {z : Value}, (∀ w : World, (Op.unary op (a.eval x)).run P w = .ok z w) → z.oneCell' = true → K (s.put o.dst (.vv z)) → Quiet P G w s a o K (fun _ => True) := by
    intro z hr hone hk
    refine ⟨.vv z, z, hk, ⟨rfl, hone⟩, lt_c trivial, fun w' _ => ?_⟩
    simp only [execOp, ho, Sem.run_bind, hr, Result.andThen_ok, Sem.run_pure]
  unfold unA at h
  split at h
  · exact fin (fun w => by rw [hv.1]; rfl) rfl h
  · exact fin (fun w => by rw [hv.1]; rfl) rfl h
  · exact h.elim
theorem q_fieldAddr {t : Nat} {x : Operand} {f : Nat} (ho : o.op = .fieldAddr t x f) (hC : CtxOk P C) (hs : Sim G s a w) (hd : okDst o.dst s.n = true) (h : aop C (.fieldAddr t x f) o.dst s K) : Quiet P G w s a o K (fun _ => True) := by
  simp only [aop] at h
  split at h
  · rename_i i1 i2 i3 i4 i5 fs hi
    split at h
    · rename_i off u hf
      split at h
      · rename_i iu hiu
        cases hsz : Nat.ble 1 iu.sz with
        | false => rw [hsz] at h; exact h.elim
        | true =>
          rw [hsz] at h
          simp only [cond_true] at h
          have hsz' : 1 ≤ iu.sz := Nat.le_of_ble_eq_true hsz
          obtain ⟨d, hu, _, fa, hd1, hm⟩ := (hC.tt _ _ hi).desc
          subst hd1
          obtain ⟨fd, hfd, hoff, hty⟩ := fields_of hm hf
          replace h := opr_out hs h
          obtain ⟨c, h, hv, hlt⟩ := h
          have fin : ∀ {ad : Addr} {z : A1}, a.eval x = .pointer (some ad) → V1 G w s.ob z (.pointer (some (ad.add off))) → z.lt G.k → K (s.put o.dst (.c z)) → Quiet P G w s a o K (fun _ => True) := by
            intro ad z hp hz hl hk
            refine ⟨.c z, .pointer (some (ad.add off)), hk, hz, lt_c hl, fun w' _ => ?_⟩
            have hne : iu.sz ≠ 0 := by omega
            have hsz := run_sizeOf (hC.tt _ _ hiu) w'
            rw [← hty] at hsz
            simp only [execOp, ho, hp, Instr.fieldAt, Instr.sureAddr, Sem.run_bind, Sem.run_pure, run_underlying hu, Result.andThen_ok, hfd, fieldPlace, hsz, hne, if_false, hoff]
          split at h
          · rename_i d q o'
            split at h
            · rename_i q' l hl
              obtain ⟨rfl, h⟩ := h
              refine fin (z := .bx d q' (o' + off)) (hv.2 ⟨l, hl⟩) ⟨rfl, fun _ => ?_⟩ hlt h
              rw [add_mk]
            · exact h.elim
          · rename_i t' o'
            obtain ⟨ad, u', hp, hz, h1, h2⟩ := hv
            exact fin (z := .rop t' (o' + off)) hp ⟨ad, u', by rw [add_add], hz, h1, h2⟩ trivial h
          · rename_i d q e i o'
            split at h
            · rename_i q' sv e' es hr
              cases hbe : Nat.beq e' e with
              | false => rw [hbe] at h; exact h.elim
              | true =>
              rw [hbe] at h
              have he : e' = e := Nat.eq_of_beq_eq_true hbe
              subst he
              obtain ⟨rfl, h⟩ := h
              obtain ⟨g, o1, n, c, hy, hp⟩ := hv.2 ⟨sv, es, hr⟩
              exact fin (z := .ownp d q' e' i (o' + off)) hp ⟨rfl, fun _ => ⟨g, o1, n, c, hy, by rw [add_mk, show o1 + (i * e' + o') + off = o1 + (i * e' + (o' + off)) by omega]⟩⟩ hlt h
            · exact h.elim
          · exact h.elim
      · exact h.elim
    · exact h.elim
  · exact h.elim
theorem q_indexAddr {t : Nat} {x y : Operand} (ho : o.op = .indexAddr t x y) (hC : CtxOk P C) (hs : Sim G s a w) (hd : okDst o.dst s.n = true) (h : aop C (.indexAddr t x y) o.dst s K) : Quiet P G w s a o K (fun _ => True) := by
  simp only [aop] at h
  split at h
  · rename_i i1 i2 i3 i4 i5 e hi
    split at h
    · rename_i ie hie
      replace h := opi_out hs h
      obtain ⟨k, n, h, hy⟩ := h
      replace h := oprN_out hs h
      obtain ⟨c, h, hv, hlt⟩ := h
      obtain ⟨d, hu, _, hd1⟩ := (hC.tt _ _ hi).desc
      simp only at hd1
      subst hd1
      have hsz := run_sizeOf (hC.tt _ _ hie) w
      have fin : ∀ {ad : Addr} {len cap : Nat} {z : A1}, a.eval x = .slice (some ad) len cap → 0 ≤ n → n < len → V1 G w s.ob z (.pointer (some (ad.add (n.toNat * ie.sz)))) → z.lt G.k → K (s.put o.dst (.c z)) → Quiet P G w s a o K (fun _ => True) := by
        intro ad len cap z hp h0 h1 hz hl hk
        refine ⟨.c z, .pointer (some (ad.add (n.toNat * ie.sz))), hk, hz, lt_c hl, fun w' _ => ?_⟩
        simp only [execOp, ho, hp, hy, Instr.indexAt, asIntOf, Sem.run_bind, Sem.run_pure, run_underlying hu, Result.andThen_ok, run_sizeOf (hC.tt _ _ hie) w', h0, h1, and_self, if_true]
      split at h
      · rename_i e' es
        cases hbe : Nat.beq e' ie.sz with
        | false => rw [hbe] at h; exact h.elim
        | true =>
          rw [hbe] at h
          have he : e' = ie.sz := Nat.eq_of_beq_eq_true hbe
          subst he
          obtain ⟨h0, t', ht, h⟩ := h
          have hk := (List.getElem?_eq_some_iff.1 ht).1
          have hv1 : Rd G.w0 G.Z (.sl ie.sz es) (a.eval x) := hv
          generalize hz : a.eval x = z at hv1
          cases hv1 with
          | nil => simp at ht
          | @row _ ad _ cap u h1 h2 h3 h4 h5 =>
            refine fin (z := .rop t' 0) hz h0 (by omega) ⟨ad.add (n.toNat * ie.sz), fun j => u (n.toNat * ie.sz + j), by simp [Addr.add], by rw [add_block]; exact h2, fun j c hj => ?_, fun j c hj => ?_⟩ trivial h
            · have hjl : j < ie.sz := by rw [← h3 t' (List.mem_of_getElem? ht)]; exact (List.getElem?_eq_some_iff.1 hj).1
              rw [add_add]
              exact h4 _ c (by rw [flat_get h3 ht hjl]; exact hj)
            · have hjl : j < ie.sz := by rw [← h3 t' (List.mem_of_getElem? ht)]; exact (List.getElem?_eq_some_iff.1 hj).1
              exact h5 _ c (by rw [flat_get h3 ht hjl]; exact hj)
      · rename_i d q
        split at h
        · rename_i q' sv e' es hr
          cases hbe : Nat.beq e' ie.sz with
          | false => rw [hbe] at h; exact h.elim
          | true =>
            rw [hbe] at h
            have he : e' = ie.sz := Nat.eq_of_beq_eq_true hbe
            subst he
            obtain ⟨rfl, h0, hk, h⟩ := h
            have hyv := hv.2 ⟨sv, _, es, hr⟩
            have how := (hs.ob d _ hr).2
            generalize hz : G.y d = z at how
            cases how with
            | nil => simp at hk
            | row h1 h2 h3 h4 h5 h6 h7 h8 h9 =>
              refine fin (z := .ownp d q' ie.sz n.toNat 0) (hyv.trans hz) h0 (by omega) ⟨rfl, fun _ => ⟨_, _, _, _, hz, by rw [add_mk, Nat.add_zero]⟩⟩ hlt h
        · exact h.elim
      · rename_i d q m
        split at h
        · rename_i q' l hr
          cases hbe : Nat.beq ie.sz 1 with
          | false => rw [hbe] at h; exact h.elim
          | true =>
            rw [hbe] at h
            have he : ie.sz = 1 := Nat.eq_of_beq_eq_true hbe
            obtain ⟨rfl, h0, hk, h⟩ := h
            exact fin (z := .bx d q' n.toNat) (hv.2 ⟨l, hr⟩) h0 (by omega) ⟨rfl, fun _ => by rw [he, Nat.mul_one, add_mk, Nat.zero_add]⟩ hlt h
        · exact h.elim
      · rename_i d q e' l hh
        split at h
        · rename_i q' sv e2 es hr
          cases hbe : (Nat.beq e2 e' && Nat.beq e' ie.sz) with
          | false => rw [hbe] at h; exact h.elim
          | true =>
            rw [hbe] at h
            simp only [Bool.and_eq_true] at hbe
            have he2 : e2 = e' := Nat.eq_of_beq_eq_true hbe.1
            have he : e' = ie.sz := Nat.eq_of_beq_eq_true hbe.2
            subst he2
            subst he
            obtain ⟨rfl, h0, hk, h⟩ := h
            obtain ⟨A, m, cp, hA, hyv, hlh, hhm⟩ := hv.2 ⟨sv, es, hr⟩
            have how := (hs.ob d _ hr).2
            rw [hA] at how
            cases how with
            | nil => omega
            | @row _ g o' _ cur te _ Ss S h1 h2 h3 h4 h5 h6 h7 h8 h9 =>
              have hcl : ¬ cp = l := by omega
              have hy2 : a.eval x = .slice (some ((⟨g, o', none⟩ : Addr).add (l * ie.sz))) (hh - l) (cp - l) := by
                rw [hyv]; unfold sliced; rw [if_neg hcl, Option.map_some]
              refine fin (z := .ownp d q' ie.sz (l + n.toNat) 0) hy2 h0 (by omega) ⟨rfl, fun _ => ⟨_, _, _, _, hA, by rw [add_mk, add_mk, Nat.add_zero, Nat.add_mul, Nat.add_assoc]⟩⟩ hlt h
        · exact h.elim
      · exact h.elim
    · exact h.elim
  · exact h.elim
theorem q_move {x : Operand} (ho : o.op = .move x ∨ o.op = .assign x) (hs : Sim G s a w) (h : K (s.put o.dst (s.eval x))) : Quiet P G w s a o K (fun _ => True) :=
  ⟨s.eval x, a.eval x, h, (hs.eval x).1, (hs.eval x).2, fun w' _ => by rcases ho with ho | ho <;> simp only [execOp, ho] <;> rfl⟩
theorem q_pick {c x y : Operand} (ho : o.op = .pick c x y) (hs : Sim G s a w) (h : aop C (.pick c x y) o.dst s K) : Quiet P G w s a o K (fun _ => True) := by
  have hc := hs.eval c
  have hx := hs.eval x
  have hy := hs.eval y
  simp only [aop] at h
  split at h
  · rename_i b hb
    rw [hb] at hc
    have hcv : a.eval c = .bool b := hc.1.1
    have hrun : ∀ w' : World, (execOp a.eval o).run P w' = .ok (.value (if b then a.eval x else a.eval y)) w' := fun w' => by simp only [execOp, ho, hcv]; rfl
    split at h
    · rename_i p r hp hr
      rw [hp] at hx; rw [hr] at hy
      have h1 : a.eval x = .bool p := hx.1.1
      have h2 : a.eval y = .bool r := hy.1.1
      refine ⟨.bool (bif b then p else r), _, h, ?_, lt_c trivial, fun w' _ => hrun w'⟩
      rw [h1, h2]
      cases b <;> exact ⟨rfl, rfl⟩
    · cases b with
      | true => exact ⟨_, _, h.1 rfl, hx.1, hx.2, fun w' _ => hrun w'⟩
      | false => exact ⟨_, _, h.2 rfl, hy.1, hy.2, fun w' _ => hrun w'⟩
  · exact h.elim
end
end Go.Proofs.Ytadpancnhinlbaa.E
